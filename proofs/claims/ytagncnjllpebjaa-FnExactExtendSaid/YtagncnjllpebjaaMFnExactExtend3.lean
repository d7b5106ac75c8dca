/- Machine side of the law FnExactExtend: Go functions as Lean functions, and proofs that calls come to what these tell. Conditions: those in each theorem. -/
import Derived.Test.YtagncnjllpebjaaMFnExactExtend0
import Derived.Test.YtagncnjllpebjaaMFnExactExtendq0
import Derived.Test.YtagncnjllpebjaaMFnExactExtend1
import Derived.Test.YtagncnjllpebjaaMFnExactExtend2
namespace Go.Proofs.Ytagncnjllpebjaa.A
open Go.RowKit Go.Proofs.YtagncnjllpebjaaW.PrintWords Go.Proofs.YtagncnjllpebjaaW.PrintLast Go.Proofs.YtagncnjllpebjaaW.PrintMore
attribute [local go_sem] max2_int min2_int max_two min_two max_three min_three max_four min_four
set_option linter.unusedVariables false
set_option linter.unusedSimpArgs false
/-! ### laws_heldMatroid: function 22 -/
def laws_heldMatroid.f (k : Nat) (a0_0 : Int) (l0_1 : List Int) (a1 : Int) : Option (Int) := (laws_heldIntS.f k l0_1 a1).bind fun t23002 => (if t23002 < 0 then (some (-1)) else (some t23002))
theorem laws_heldMatroid.mono : ∀ a0 a1 a2 k, LeO (laws_heldMatroid.f k a0 a1 a2) (laws_heldMatroid.f (k + 1) a0 a1 a2) := by
 intro a0 a1 a2 k
 unfold laws_heldMatroid.f
 repeat' first
   | (with_reducible exact laws_heldIntS.mono _ _ _)
   | (with_reducible exact LeO.refl _)
   | (with_reducible exact LeO.none _)
   | (with_reducible refine LeO.ite ?_ ?_)
   | (with_reducible refine LeO.bind ?_ (fun _ => ?_))
   | exact laws_heldIntS.mono _ _ _
   | exact LeO.none _
   | refine LeO.ite ?_ ?_
   | refine LeO.bind ?_ (fun _ => ?_)
set_option maxHeartbeats 8000000 in
set_option maxRecDepth 100000 in
theorem laws_heldMatroid.calls (k : Nat) (a0_0 : Int) (A0_1 : Option Addr) (c0_1 : Nat) (l0_1 : List Int) (a1 : Int) (r : Int) (w : World) (hr0_1 : Kd.C (Kd.int .i64) w A0_1 l0_1.length l0_1) (hc0_1 : l0_1.length ≤ c0_1) (h : laws_heldMatroid.f k a0_0 l0_1 a1 = some r) :
  Calls Try.prog 22 #[.agg #[.int .i64 a0_0, .slice A0_1 l0_1.length c0_1], .int .i64 a1] w fun e w' => e = .returned (.int .i64 r) ∧ Below w.heap.size w w' := by
 have hu26 := Try.underlying26
 have HR0_1 := aQ hr0_1
 have HC0_1 := aQ hc0_1
 clear hr0_1 hc0_1
 have HB := aQ (Below.refl w.heap.size w)
 have H : ((laws_heldIntS.f k l0_1 a1).bind fun t23002 => (if t23002 < 0 then (some (-1)) else (some t23002))) = some r := h
 clear h
 replace H := Option.bind_eq_some_iff.mp H
 obtain ⟨t23002, A30, H⟩ := H
 replace H : (if t23002 < 0 then (some (-1)) else (some t23002)) = some r := H
 have A3 := aQ A30
 clear A30
 by_cases c4 : t23002 < 0
 ·rw [if_pos c4] at H
  have c4b0 : decide (t23002 < 0) = true := decide_eq_true c4
  clear c4
  obtain rfl := Option.some.inj H
  go_enter Try.func22, Try.ntmps22
  go_wp2_with (first | ((with_reducible refine gate_dst (N := 2) rfl ?_); refine box_event ?hg (N := 2) ?hd (cs := #[.int .i64 a0_0, .slice A0_1 l0_1.length c0_1]) (t := 26) ?hr ?_; (case hd => rfl); (case hg => rfl); (case hr => first | (go_simp; done) | (go_simp; rfl)); intro gb23001 hg w5 hbox hb; have BK23001 := aQ (hbox); have GW23001 := aQ ((by rw [hg]; exact (below_size (pB HB.out)) : w.heap.size ≤ gb23001)); have GE23001 := aQ ((by rw [hg]; exact (below_size (pB HB.out)) : w.heap.size ≤ gb23001)); replace HB := aQ (below_step (pB HB.out) hb); clear hb hbox hg; have hcz6_0 := bc (v := (.int .i64 a0_0)) BK23001.out 0; have hcz6_1 := bc (v := (.slice A0_1 l0_1.length c0_1)) BK23001.out 1; have hfz6_0 := blk_frozen BK23001.out 0; have hfz6_1 := blk_frozen BK23001.out 1) | ((with_reducible refine gate_callee (f := 27) rfl ?_); refine goesL_ (some 8) rfl rfl Try.func27 (by kernel_rfl) rfl #[.slice A0_1 l0_1.length c0_1, .int .i64 a1] rfl lm ?_; (with_reducible refine (laws_heldIntS.calls k _ _ l0_1 a1 t23002 _ ?side1 ?side2 A3.out).mono ?_); (case side1 => exact pC (Kd.C_below HR0_1.out HB.out)); (case side2 => exact HC0_1.out); rintro e w' ⟨rfl, ⟨nd, rfl⟩⟩; refine ⟨_, rfl, ?_⟩))
  go_ret
  exact ⟨re_, pB1 HB.out GE23001.out⟩
 ·rw [if_neg c4] at H
  have c4b0 : decide (t23002 < 0) = false := decide_eq_false c4
  clear c4
  obtain rfl := Option.some.inj H
  go_enter Try.func22, Try.ntmps22
  go_wp2_with (first | ((with_reducible refine gate_dst (N := 2) rfl ?_); refine box_event ?hg (N := 2) ?hd (cs := #[.int .i64 a0_0, .slice A0_1 l0_1.length c0_1]) (t := 26) ?hr ?_; (case hd => rfl); (case hg => rfl); (case hr => first | (go_simp; done) | (go_simp; rfl)); intro gb23001 hg w7 hbox hb; have BK23001 := aQ (hbox); have GW23001 := aQ ((by rw [hg]; exact (below_size (pB HB.out)) : w.heap.size ≤ gb23001)); have GE23001 := aQ ((by rw [hg]; exact (below_size (pB HB.out)) : w.heap.size ≤ gb23001)); replace HB := aQ (below_step (pB HB.out) hb); clear hb hbox hg; have hcz8_0 := bc (v := (.int .i64 a0_0)) BK23001.out 0; have hcz8_1 := bc (v := (.slice A0_1 l0_1.length c0_1)) BK23001.out 1; have hfz8_0 := blk_frozen BK23001.out 0; have hfz8_1 := blk_frozen BK23001.out 1) | ((with_reducible refine gate_callee (f := 27) rfl ?_); refine goesL_ (some 8) rfl rfl Try.func27 (by kernel_rfl) rfl #[.slice A0_1 l0_1.length c0_1, .int .i64 a1] rfl lm ?_; (with_reducible refine (laws_heldIntS.calls k _ _ l0_1 a1 t23002 _ ?side1 ?side2 A3.out).mono ?_); (case side1 => exact pC (Kd.C_below HR0_1.out HB.out)); (case side2 => exact HC0_1.out); rintro e w' ⟨rfl, ⟨nd, rfl⟩⟩; refine ⟨_, rfl, ?_⟩))
  go_ret
  exact ⟨re_, pB1 HB.out GE23001.out⟩
/-! ### spec_l1Bit: function 89 -/
def spec_l1Bit.f (a0 : Bool) : Option (Int) := if a0 = true then (some 1) else (some 0)
set_option maxHeartbeats 8000000 in
set_option maxRecDepth 100000 in
theorem spec_l1Bit.calls (a0 : Bool) (r : Int) (w : World) (h : spec_l1Bit.f a0 = some r) :
  Calls Try.prog 89 #[.bool a0] w fun e w' => e = .returned (.int .i64 r) ∧ Drawn0 w w' := by
 have H : (if a0 = true then (some 1) else (some 0)) = some r := h
 clear h
 by_cases c2 : a0 = true
 ·subst c2
  have H1 : (some 1) = some r := by rw [if_pos rfl] at H; exact H
  clear H
  have H := H1
  clear H1
  obtain rfl := Option.some.inj H
  go_enter Try.func89, Try.ntmps89
  go_wp2
  go_ret
  exact ⟨rs_, rd_⟩
 ·replace c2 := Bool.eq_false_iff.mpr c2
  subst c2
  have H1 : (some 0) = some r := by rw [if_neg (show ¬ (false = true) by decide)] at H; exact H
  clear H
  have H := H1
  clear H1
  obtain rfl := Option.some.inj H
  go_enter Try.func89, Try.ntmps89
  go_wp2
  go_ret
  exact ⟨rs_, rd_⟩
/-! ### impl_IsSubset: function 135 -/
def impl_IsSubset.f (a0 : Int) (a1 : Int) : Option (Bool) := (impl_isAny.f a0).bind fun t136001 => (if t136001 = true then ((impl_isAny.f a1).bind fun t136002 => (if t136002 = true then (some ((Go.bits .andNot .i64 a0 a1) == 0)) else (some false))) else (some false))
set_option maxHeartbeats 8000000 in
set_option maxRecDepth 100000 in
theorem impl_IsSubset.calls (a0 : Int) (a1 : Int) (r : Bool) (w : World) (h : impl_IsSubset.f a0 a1 = some r) :
  Calls Try.prog 135 #[.int .i64 a0, .int .i64 a1] w fun e w' => e = .returned (.bool r) ∧ Drawn0 w w' := by
 have H : ((impl_isAny.f a0).bind fun t136001 => (if t136001 = true then ((impl_isAny.f a1).bind fun t136002 => (if t136002 = true then (some ((Go.bits .andNot .i64 a0 a1) == 0)) else (some false))) else (some false))) = some r := h
 clear h
 replace H := Option.bind_eq_some_iff.mp H
 obtain ⟨t136001, A30, H⟩ := H
 replace H : (if t136001 = true then ((impl_isAny.f a1).bind fun t136002 => (if t136002 = true then (some ((Go.bits .andNot .i64 a0 a1) == 0)) else (some false))) else (some false)) = some r := H
 have A3 := aQ A30
 clear A30
 by_cases c4 : t136001 = true
 ·subst c4
  have H1 : ((impl_isAny.f a1).bind fun t136002 => (if t136002 = true then (some ((Go.bits .andNot .i64 a0 a1) == 0)) else (some false))) = some r := by rw [if_pos rfl] at H; exact H
  clear H
  have H := H1
  clear H1
  replace H := Option.bind_eq_some_iff.mp H
  obtain ⟨t136002, A50, H⟩ := H
  replace H : (if t136002 = true then (some ((Go.bits .andNot .i64 a0 a1) == 0)) else (some false)) = some r := H
  have A5 := aQ A50
  clear A50
  by_cases c6 : t136002 = true
  ·subst c6
   have H1 : (some ((Go.bits .andNot .i64 a0 a1) == 0)) = some r := by rw [if_pos rfl] at H; exact H
   clear H
   have H := H1
   clear H1
   obtain rfl := Option.some.inj H
   go_enter Try.func135, Try.ntmps135
   go_wp2_with (first | ((with_reducible refine gate_callee (f := 133) rfl ?_); refine goesL_ (some 6) rfl rfl Try.func133 (by kernel_rfl) rfl #[.int .i64 a0] rfl lm ?_; (with_reducible refine (impl_isAny.calls a0 true _ A3.out).mono ?_); rintro e w' ⟨rfl, ⟨nd, rfl⟩⟩; refine ⟨_, rfl, ?_⟩) | (go_at_call 133; (with_reducible refine (impl_isAny.calls a1 true _ A5.out).mono ?_); rintro e w' ⟨rfl, ⟨nd, rfl⟩⟩))
   go_ret
   exact ⟨rs_, rd_⟩
  ·replace c6 := Bool.eq_false_iff.mpr c6
   subst c6
   have H1 : (some false) = some r := by rw [if_neg (show ¬ (false = true) by decide)] at H; exact H
   clear H
   have H := H1
   clear H1
   obtain rfl := Option.some.inj H
   go_enter Try.func135, Try.ntmps135
   go_wp2_with (first | ((with_reducible refine gate_callee (f := 133) rfl ?_); refine goesL_ (some 6) rfl rfl Try.func133 (by kernel_rfl) rfl #[.int .i64 a0] rfl lm ?_; (with_reducible refine (impl_isAny.calls a0 true _ A3.out).mono ?_); rintro e w' ⟨rfl, ⟨nd, rfl⟩⟩; refine ⟨_, rfl, ?_⟩) | (go_at_call 133; (with_reducible refine (impl_isAny.calls a1 false _ A5.out).mono ?_); rintro e w' ⟨rfl, ⟨nd, rfl⟩⟩))
   go_ret
   exact ⟨rs_, rd_⟩
 ·replace c4 := Bool.eq_false_iff.mpr c4
  subst c4
  have H1 : (some false) = some r := by rw [if_neg (show ¬ (false = true) by decide)] at H; exact H
  clear H
  have H := H1
  clear H1
  obtain rfl := Option.some.inj H
  go_enter Try.func135, Try.ntmps135
  go_wp2_with (first | ((with_reducible refine gate_callee (f := 133) rfl ?_); refine goesL_ (some 6) rfl rfl Try.func133 (by kernel_rfl) rfl #[.int .i64 a0] rfl lm ?_; (with_reducible refine (impl_isAny.calls a0 false _ A3.out).mono ?_); rintro e w' ⟨rfl, ⟨nd, rfl⟩⟩; refine ⟨_, rfl, ?_⟩))
  go_ret
  exact ⟨rs_, rd_⟩
end Go.Proofs.Ytagncnjllpebjaa.A
namespace Go.Proofs.Ytagncnjllpebjaa.A
open Go.RowKit Go.Proofs.YtagncnjllpebjaaW.PrintWords Go.Proofs.YtagncnjllpebjaaW.PrintLast Go.Proofs.YtagncnjllpebjaaW.PrintMore Go.Proofs.Ytagncnjllpebjaa.Z
attribute [local go_sem] max2_int min2_int max_two min_two max_three min_three max_four min_four
set_option linter.unusedVariables false
set_option linter.unusedSimpArgs false
/-! ### spec_SortSets: function 92 -/
mutual
def spec_SortSets.l0 : Nat → List Int → List Int → Int → Option (List Int)
 | 0, _, _, _ => none
 | k + 1, x0, x3, x4 => if x4 < (x0.length : Int) then (spec_SortSets.l1 k x0 x3 x4 0) else (some x3)
def spec_SortSets.l1 : Nat → List Int → List Int → Int → Int → Option (List Int)
 | 0, _, _, _, _ => none
 | k + 1, x0, x3, x4, x5 => if x5 < (x3.length : Int) then (if 0 ≤ x5 then (if 0 ≤ x4 then (if x4 < (x0.length : Int) then (if (rd x3 x5) < (rd x0 x4) then (spec_SortSets.l1 k x0 x3 x4 (wrap64 (x5 + 1))) else (if (rd x3 x5) = (rd x0 x4) then (spec_SortSets.l0 k x0 x3 (wrap64 (x4 + 1))) else ((some (([] : List Int) : List Int)).bind fun y93008 => (if x5 ≤ (x3.length : Int) then ((some (x3.drop (x5 : Int).toNat : List Int)).bind fun y93011 => (if y93008.length + y93011.length < 17592186044416 then ((some (y93008 ++ y93011 : List Int)).bind fun y93015 => ((some (x3.take (x5 : Int).toNat : List Int)).bind fun y93018 => (if y93018.length < 17592186044416 then ((some (y93018 ++ [rd x0 x4] : List Int)).bind fun y93022 => (if y93022.length + y93015.length < 17592186044416 then (spec_SortSets.l0 k x0 (y93022 ++ y93015) (wrap64 (x4 + 1))) else (none))) else (none)))) else (none))) else (none))))) else (none)) else (none)) else (none)) else ((some (([] : List Int) : List Int)).bind fun y93028 => (if 0 ≤ x5 then (if x5 ≤ (x3.length : Int) then ((some (x3.drop (x5 : Int).toNat : List Int)).bind fun y93031 => (if y93028.length + y93031.length < 17592186044416 then ((some (y93028 ++ y93031 : List Int)).bind fun y93035 => ((some (x3.take (x5 : Int).toNat : List Int)).bind fun y93038 => (if 0 ≤ x4 then (if x4 < (x0.length : Int) then (if y93038.length < 17592186044416 then ((some (y93038 ++ [rd x0 x4] : List Int)).bind fun y93042 => (if y93042.length + y93035.length < 17592186044416 then (spec_SortSets.l0 k x0 (y93042 ++ y93035) (wrap64 (x4 + 1))) else (none))) else (none)) else (none)) else (none)))) else (none))) else (none)) else (none)))
end
def spec_SortSets.f (k : Nat) (l0 : List Int) : Option (List Int) := spec_SortSets.l0 k l0 (([] : List Int)) 0
theorem spec_SortSets.mono_l : ∀ k, (∀ y0 y1 y2, LeO (spec_SortSets.l0 k y0 y1 y2) (spec_SortSets.l0 (k + 1) y0 y1 y2)) ∧ (∀ y0 y1 y2 y3, LeO (spec_SortSets.l1 k y0 y1 y2 y3) (spec_SortSets.l1 (k + 1) y0 y1 y2 y3))
 | 0 => ⟨fun _ _ _ r h => by simp [spec_SortSets.l0] at h, fun _ _ _ _ r h => by simp [spec_SortSets.l1] at h⟩
 | k + 1 => by
  obtain ⟨ih0, ih1⟩ := spec_SortSets.mono_l k
  refine ⟨?_, ?_⟩
  ·intro y0 y1 y2
   unfold spec_SortSets.l0
   repeat' first
   | (with_reducible exact ih0 _ _ _)
   | (with_reducible exact ih1 _ _ _ _)
   | (with_reducible exact LeO.refl _)
   | (with_reducible exact LeO.none _)
   | (with_reducible refine LeO.ite ?_ ?_)
   | (with_reducible refine LeO.bind ?_ (fun _ => ?_))
   | exact ih0 _ _ _
   | exact ih1 _ _ _ _
   | exact LeO.none _
   | refine LeO.ite ?_ ?_
   | refine LeO.bind ?_ (fun _ => ?_)
  ·intro y0 y1 y2 y3
   unfold spec_SortSets.l1
   repeat' first
   | (with_reducible exact ih0 _ _ _)
   | (with_reducible exact ih1 _ _ _ _)
   | (with_reducible exact LeO.refl _)
   | (with_reducible exact LeO.none _)
   | (with_reducible refine LeO.ite ?_ ?_)
   | (with_reducible refine LeO.bind ?_ (fun _ => ?_))
   | exact ih0 _ _ _
   | exact ih1 _ _ _ _
   | exact LeO.none _
   | refine LeO.ite ?_ ?_
   | refine LeO.bind ?_ (fun _ => ?_)
theorem spec_SortSets.mono : ∀ a0 k, LeO (spec_SortSets.f k a0) (spec_SortSets.f (k + 1) a0) := by
 intro a0 k
 obtain ⟨ih0, ih1⟩ := spec_SortSets.mono_l k
 unfold spec_SortSets.f
 repeat' first
   | (with_reducible exact ih0 _ _ _)
   | (with_reducible exact ih1 _ _ _ _)
   | (with_reducible exact LeO.refl _)
   | (with_reducible exact LeO.none _)
   | (with_reducible refine LeO.ite ?_ ?_)
   | (with_reducible refine LeO.bind ?_ (fun _ => ?_))
   | exact ih0 _ _ _
   | exact ih1 _ _ _ _
   | exact LeO.none _
   | refine LeO.ite ?_ ?_
   | refine LeO.bind ?_ (fun _ => ?_)
def spec_SortSets.T6 : Bool × List (List Nat × List Nat) := (true, [([], []), ([], []), ([1], [1]), ([0, 2], [0, 2]), ([3], [3]), ([4], [4]), ([4], [4]), ([5, 6, 4], [4, 5, 6]), ([7, 4], [4, 7]), ([4], [4]), ([4], [4]), ([9, 10, 4], [4, 9, 10]), ([11, 4], [4, 11]), ([8, 12, 4], [4, 8, 12]), ([4, 13], [4, 13])])
def spec_SortSets.B6 : List Nat := [0, 0, 2, 7, 15, 31, 31, 127, 255, 31, 31, 1567, 3615, 8191, 16383]
theorem spec_SortSets.tab6 : rtab .any (opsOf Try.f92 6) = spec_SortSets.T6 := by kernel_rfl
theorem spec_SortSets.bits6 : waitsOk spec_SortSets.T6.2 spec_SortSets.B6 = true := by kernel_rfl
def spec_SortSets.T8 : Bool × List (List Nat × List Nat) := (true, [([], []), ([], []), ([1], [1]), ([0, 2], [0, 2]), ([3], [3]), ([4], [4]), ([4], [4]), ([5, 6, 4], [4, 5, 6]), ([7, 4], [4, 7]), ([4], [4]), ([4], [4]), ([9, 10, 4], [4, 9, 10]), ([11, 4], [4, 11]), ([8, 12, 4], [4, 8, 12]), ([4, 13], [4, 13])])
def spec_SortSets.B8 : List Nat := [0, 0, 2, 7, 15, 31, 31, 127, 255, 31, 31, 1567, 3615, 8191, 16383]
theorem spec_SortSets.tab8 : rtab .any (opsOf Try.f92 8) = spec_SortSets.T8 := by kernel_rfl
theorem spec_SortSets.bits8 : waitsOk spec_SortSets.T8.2 spec_SortSets.B8 = true := by kernel_rfl
def spec_SortSets.T10 : Bool × List (List Nat × List Nat) := (true, [([], []), ([], []), ([0, 1], [0, 1]), ([], []), ([], []), ([3, 4], [3, 4]), ([5], [5]), ([6], [6]), ([2, 7], [2, 7]), ([], []), ([8, 9, 8], [8, 9]), ([10, 10, 0, 1, 2, 3, 4, 5, 6, 7, 8, 9, 10], [0, 10])])
def spec_SortSets.B10 : List Nat := [0, 0, 3, 0, 0, 24, 56, 120, 255, 0, 1023, 2047]
theorem spec_SortSets.tab10 : rtab .any (opsOf Try.f92 10) = spec_SortSets.T10 := by kernel_rfl
theorem spec_SortSets.bits10 : waitsOk spec_SortSets.T10.2 spec_SortSets.B10 = true := by kernel_rfl
set_option maxHeartbeats 8000000 in
set_option maxRecDepth 100000 in
theorem spec_SortSets.calls (k : Nat) (A0 : Option Addr) (c0 : Nat) (l0 : List Int) (r : List Int) (w : World) (hr0 : Kd.C (Kd.int .i64) w A0 l0.length l0) (hc0 : l0.length ≤ c0) (h : spec_SortSets.f k l0 = some r) :
  Calls Try.prog 92 #[.slice A0 l0.length c0] w fun e w' => ∃ v0_ : Value, e = .returned (v0_) ∧ Kd.R (Kd.int .i64) 3 w' w.heap.size (fun _ => True) v0_ r ∧ Below w.heap.size w w' := by
 have HR0 := aQ hr0
 have HC0 := aQ hc0
 clear hr0 hc0
 have HB := aQ (Below.refl w.heap.size w)
 have H : (spec_SortSets.l0 k l0 (([] : List Int)) 0) = some r := h
 clear h
 obtain ⟨y93001, hy93001⟩ : ∃ y_ : List Int, y_ = (([] : List Int)) := ⟨_, rfl⟩
 replace H : (spec_SortSets.l0 k l0 y93001 0) = some r := by first | (rw [hy93001]; with_reducible exact H) | (have H2_ := (Option.bind_some _ _).symm.trans H; rw [hy93001]; with_reducible exact H2_) | (have H2_ := (Option.bind_some _ _).symm.trans H; with_reducible exact H2_) | with_reducible exact H | (rw [hy93001]; exact H) | exact H
 have Ny93001 := aQ hy93001
 clear hy93001
 have H' := aQ H
 clear H
 go_enter Try.func92, Try.ntmps92
 go_wp2_with (first | ((with_reducible refine gate_dst (N := 7) rfl ?_); refine Kd.R_lit (Kd.int .i64) _ 3 ?hg (N := 7) ?hd (xs := ([] : List Int)) (inner := []) (ok := fun _ => True) (okp := fun _ => True) ?hr ?hp (fun _ hk => hk) trivial (Below.refl _ _) (Nat.le_refl _) (by simp) ?_; (case hd => rfl); (case hg => rfl); (case hr => first | (go_simp; done) | (go_simp; rfl)); (case hp => exact (Reps.none _ _)); intro v93002 w2 ho3 hb hg_ hnew_; clear hg_ hnew_; (first | rw [← Ny93001.out] at ho3 | (simp only [Int.reduceToNat] at ho3; rw [← Ny93001.out] at ho3)); have HO93003 := aQ (Kd.R_lower ho3 (below_size (pB HB.out))); replace HB := aQ (below_step (pB HB.out) hb); clear hb ho3))
 go_loopg [3, 4] k (fun kq v3 v4 w' => ∃ (x3_1 : List Int) (x4_1 : Int), v4 = .int .i64 x4_1 ∧ Aside0 (spec_SortSets.l0 kq l0 x3_1 x4_1 = some r) ∧ Aside0 (kq ≤ k) ∧ Aside0 (Kd.R (Kd.int .i64) 3 w' w.heap.size (fun _ => True) v3 x3_1) ∧ Aside0 (Below w.heap.size w w'))
 case atStart => exact ⟨(y93001), (0), rs_, H', ⟨Nat.le_refl _⟩, ⟨pR HO93003.out⟩, ⟨pB HB.out⟩⟩
 case round =>
  clear H'
  try clear p2
  obtain ⟨x3_1, x4_1, rfl, HA, HK1, HO_3, HB⟩ := hrel
  cases gk with
  | zero => exact absurd HA.out (by simp [spec_SortSets.l0])
  | succ k1 =>
   have H := HA.out
   clear HA
   simp only [spec_SortSets.l0] at H
   by_cases c4 : x4_1 < (l0.length : Int)
   ·rw [if_pos c4] at H
    have c4b0 : decide (x4_1 < (l0.length : Int)) = true := decide_eq_true c4
    clear c4
    have H' := aQ H
    clear H
    go_wp2
    go_loopg [5] k1 (fun kq v5 w' => ∃ (x5_2 : Int), v5 = .int .i64 x5_2 ∧ Aside0 (spec_SortSets.l1 kq l0 x3_1 x4_1 x5_2 = some r) ∧ Aside0 (kq ≤ k1) ∧ Aside0 (Kd.R (Kd.int .i64) 3 w' w.heap.size (fun _ => True) u3 x3_1) ∧ Aside0 (Below w.heap.size w w'))
    case atStart => exact ⟨(0), rs_, H', ⟨Nat.le_refl _⟩, ⟨pR HO_3.out⟩, ⟨pB HB.out⟩⟩
    case round =>
     clear H'
     try clear p2
     try clear c4
     try clear c4b0
     try clear p2
     obtain ⟨x5_2, rfl, HA, HK2, HO_3, HB⟩ := hrel
     cases gk with
     | zero => exact absurd HA.out (by simp [spec_SortSets.l1])
     | succ k2 =>
      have H := HA.out
      clear HA
      simp only [spec_SortSets.l1] at H
      by_cases c5 : x5_2 < (x3_1.length : Int)
      ·rw [if_pos c5] at H
       have c5b0 : decide (x5_2 < (x3_1.length : Int)) = true := decide_eq_true c5
       clear c5
       by_cases c6 : 0 ≤ x5_2
       ·rw [if_pos c6] at H
        have c6b0 : decide (0 ≤ x5_2) = true := decide_eq_true c6
        clear c6
        by_cases c7 : 0 ≤ x4_1
        ·rw [if_pos c7] at H
         have c7b0 : decide (0 ≤ x4_1) = true := decide_eq_true c7
         clear c7
         by_cases c8 : x4_1 < (l0.length : Int)
         ·rw [if_pos c8] at H
          have c8b0 : decide (x4_1 < (l0.length : Int)) = true := decide_eq_true c8
          clear c8
          by_cases c9 : (rd x3_1 x5_2) < (rd l0 x4_1)
          ·rw [if_pos c9] at H
           have c9b0 : decide ((rd x3_1 x5_2) < (rd l0 x4_1)) = true := decide_eq_true c9
           clear c9
           have H' := aQ H
           clear H
           try go_wp2
           have n0_ := aQ (Kd.R_drew HO_3.out)
           have n1_ := aQ (below_drew1 HB.out)
           clear HO_3
           clear HB
           have HO_3 := n0_
           have HB := n1_
           clear n0_ n1_
           obtain ⟨Ao11, co11, eo11⟩ := Kd.R_slice HO_3.out
           (first | subst eo11 | (injection eo11 with f1_ f2_ f3_; have f4_ := f1_.symm; have f5_ := f3_.symm; clear f1_ f2_ f3_; subst f4_; subst f5_))
           have p93004 : 0 ≤ (x5_2 : Int) := of_decide_eq_true as_
           have q93004 : x5_2 < (x3_1.length : Int) := of_decide_eq_true as_
           obtain ⟨ad93004, e93004, hx93004_0⟩ := Kd.at_int (Kd.R_reads' HO_3.out).2.2 x5_2 p93004 q93004
           cases e93004
           replace p93004 := eq_true p93004
           replace q93004 := eq_true q93004
           have p93005 : 0 ≤ (x4_1 : Int) := of_decide_eq_true as_
           have q93005 : x4_1 < (l0.length : Int) := of_decide_eq_true as_
           obtain ⟨ad93005, e93005, hx93005_0⟩ := Kd.at_int HR0.out x4_1 p93005 q93005
           have hw93005_0 := hx93005_0
           cases e93005
           replace hx93005_0 := (HB.out.cell (World.block_lt_of_cell? w _ hx93005_0)).trans hx93005_0
           replace p93005 := eq_true p93005
           replace q93005 := eq_true q93005
           refine start_ (n := 15) (S := fun w' => w'.cell? (ad93004.add (x5_2).toNat) = some (.int .i64 (rd x3_1 x5_2)) ∧ w'.cell? (ad93005.add (x4_1).toNat) = some (.int .i64 (rd l0 x4_1))) (ds := []) #[false, false, false, false, false, false, false, false, false, false, false, false, false, false, false] (by kernel_rfl) rfl rfl ⟨hx93004_0, ((HB.out.cell (World.block_lt_of_cell? w _ hw93005_0)).trans hw93005_0)⟩ (fun hHeld => ?_); refine with_tabW spec_SortSets.tab6 spec_SortSets.bits6 (fun HT_ HW_ => ?_)
           generalize wr.drew = w10 at HO_3 HB hx93004_0 hx93005_0 hHeld ⊢
           refine puA (i := 0) (N := some 14) HT_ (h := ?_)
           refine puA (i := 1) (N := some 15) HT_ (h := ?_)
           refine puA (i := 2) (N := some 16) HT_ (h := ?_)
           refine puA (i := 3) (N := some 17) HT_ (h := ?_)
           refine puA (i := 4) (N := some 18) HT_ (h := ?_)
           refine puA (i := 5) (N := some 19) HT_ (h := ?_)
           refine puA (i := 6) (N := some 20) HT_ (h := ?_)
           refine puA (i := 7) (N := some 21) HT_ (h := ?_)
           refine puA (i := 9) (N := some 23) HT_ (h := ?_)
           refine puA (i := 10) (N := some 24) HT_ (h := ?_)
           refine puA (i := 11) (N := some 25) HT_ (h := ?_)
           refine taA2 (i := 8) (N := some 22) HT_ HW_ hHeld (h := ?_)
           refine taA2 (i := 12) (N := some 26) HT_ HW_ hHeld (h := ?_)
           refine puA (i := 13) (N := some 27) HT_ (h := ?_)
           refine puA (i := 14) (N := some 28) HT_ (h := ?_)
           refine done_ (done_of HT_.out (by kernel_rfl)) ?_
           try go_wp2
           go_roundg k2
           case measure => have := HK1.out; have := HK2.out; omega
           case rel => exact ⟨(wrap64 (x5_2 + 1)), rs_, H', ⟨by have := HK1.out; have := HK2.out; omega⟩, ⟨pR HO_3.out⟩, ⟨pB HB.out⟩⟩
          ·rw [if_neg c9] at H
           have c9b0 : decide ((rd x3_1 x5_2) < (rd l0 x4_1)) = false := decide_eq_false c9
           clear c9
           by_cases c12 : (rd x3_1 x5_2) = (rd l0 x4_1)
           ·rw [if_pos c12] at H
            have c12b0 : ((rd x3_1 x5_2) == (rd l0 x4_1)) = true := beq_iff_eq.mpr c12
            have c12b1 : ((rd x3_1 x5_2) != (rd l0 x4_1)) = false := bne_eq_false_iff_eq.mpr c12
            clear c12
            have H' := aQ H
            clear H
            try go_wp2
            have n0_ := aQ (Kd.R_drew HO_3.out)
            have n1_ := aQ (below_drew1 HB.out)
            clear HO_3
            clear HB
            have HO_3 := n0_
            have HB := n1_
            clear n0_ n1_
            obtain ⟨Ao14, co14, eo14⟩ := Kd.R_slice HO_3.out
            (first | subst eo14 | (injection eo14 with f1_ f2_ f3_; have f4_ := f1_.symm; have f5_ := f3_.symm; clear f1_ f2_ f3_; subst f4_; subst f5_))
            have p93004 : 0 ≤ (x5_2 : Int) := of_decide_eq_true as_
            have q93004 : x5_2 < (x3_1.length : Int) := of_decide_eq_true as_
            obtain ⟨ad93004, e93004, hx93004_0⟩ := Kd.at_int (Kd.R_reads' HO_3.out).2.2 x5_2 p93004 q93004
            cases e93004
            replace p93004 := eq_true p93004
            replace q93004 := eq_true q93004
            have p93005 : 0 ≤ (x4_1 : Int) := of_decide_eq_true as_
            have q93005 : x4_1 < (l0.length : Int) := of_decide_eq_true as_
            obtain ⟨ad93005, e93005, hx93005_0⟩ := Kd.at_int HR0.out x4_1 p93005 q93005
            have hw93005_0 := hx93005_0
            cases e93005
            replace hx93005_0 := (HB.out.cell (World.block_lt_of_cell? w _ hx93005_0)).trans hx93005_0
            replace p93005 := eq_true p93005
            replace q93005 := eq_true q93005
            refine start_ (n := 15) (S := fun w' => w'.cell? (ad93004.add (x5_2).toNat) = some (.int .i64 (rd x3_1 x5_2)) ∧ w'.cell? (ad93005.add (x4_1).toNat) = some (.int .i64 (rd l0 x4_1))) (ds := []) #[false, false, false, false, false, false, false, false, false, false, false, false, false, false, false] (by kernel_rfl) rfl rfl ⟨hx93004_0, ((HB.out.cell (World.block_lt_of_cell? w _ hw93005_0)).trans hw93005_0)⟩ (fun hHeld => ?_); refine with_tabW spec_SortSets.tab6 spec_SortSets.bits6 (fun HT_ HW_ => ?_)
            generalize wr.drew = w13 at HO_3 HB hx93004_0 hx93005_0 hHeld ⊢
            refine puA (i := 0) (N := some 14) HT_ (h := ?_)
            refine puA (i := 1) (N := some 15) HT_ (h := ?_)
            refine puA (i := 2) (N := some 16) HT_ (h := ?_)
            refine puA (i := 3) (N := some 17) HT_ (h := ?_)
            refine puA (i := 4) (N := some 18) HT_ (h := ?_)
            refine puA (i := 5) (N := some 19) HT_ (h := ?_)
            refine puA (i := 6) (N := some 20) HT_ (h := ?_)
            refine puA (i := 7) (N := some 21) HT_ (h := ?_)
            refine puA (i := 9) (N := some 23) HT_ (h := ?_)
            refine puA (i := 10) (N := some 24) HT_ (h := ?_)
            refine puA (i := 11) (N := some 25) HT_ (h := ?_)
            refine taA2 (i := 8) (N := some 22) HT_ HW_ hHeld (h := ?_)
            refine taA2 (i := 12) (N := some 26) HT_ HW_ hHeld (h := ?_)
            refine puA (i := 13) (N := some 27) HT_ (h := ?_)
            refine puA (i := 14) (N := some 28) HT_ (h := ?_)
            refine done_ (done_of HT_.out (by kernel_rfl)) ?_
            try go_wp2
            have n0_ := aQ (Kd.R_drew HO_3.out)
            have n1_ := aQ (below_drew1 HB.out)
            clear HO_3
            clear HB
            have HO_3 := n0_
            have HB := n1_
            clear n0_ n1_
            have p93006 : 0 ≤ (x5_2 : Int) := of_decide_eq_true as_
            have q93006 : x5_2 < (x3_1.length : Int) := of_decide_eq_true as_
            obtain ⟨ad93006, e93006, hx93006_0⟩ := Kd.at_int (Kd.R_reads' HO_3.out).2.2 x5_2 p93006 q93006
            obtain rfl : ad93004 = ad93006 := (by injection e93006)
            replace p93006 := eq_true p93006
            replace q93006 := eq_true q93006
            have p93007 : 0 ≤ (x4_1 : Int) := of_decide_eq_true as_
            have q93007 : x4_1 < (l0.length : Int) := of_decide_eq_true as_
            obtain ⟨ad93007, e93007, hx93007_0⟩ := Kd.at_int HR0.out x4_1 p93007 q93007
            have hw93007_0 := hx93007_0
            obtain rfl : ad93005 = ad93007 := (by injection e93007)
            replace hx93007_0 := (HB.out.cell (World.block_lt_of_cell? w _ hx93007_0)).trans hx93007_0
            replace p93007 := eq_true p93007
            replace q93007 := eq_true q93007
            refine start_ (n := 15) (S := fun w' => w'.cell? (ad93004.add (x5_2).toNat) = some (.int .i64 (rd x3_1 x5_2)) ∧ w'.cell? (ad93005.add (x4_1).toNat) = some (.int .i64 (rd l0 x4_1))) (ds := []) #[false, false, false, false, false, false, false, false, false, false, false, false, false, false, false] (by kernel_rfl) rfl rfl ⟨hx93006_0, ((HB.out.cell (World.block_lt_of_cell? w _ hw93007_0)).trans hw93007_0)⟩ (fun hHeld => ?_); refine with_tabW spec_SortSets.tab8 spec_SortSets.bits8 (fun HT_ HW_ => ?_)
            generalize w13.drew = w15 at HO_3 HB hx93006_0 hx93007_0 hHeld ⊢
            refine puA (i := 0) (N := some 31) HT_ (h := ?_)
            refine puA (i := 1) (N := some 32) HT_ (h := ?_)
            refine puA (i := 2) (N := some 33) HT_ (h := ?_)
            refine puA (i := 3) (N := some 34) HT_ (h := ?_)
            refine puA (i := 4) (N := some 35) HT_ (h := ?_)
            refine puA (i := 5) (N := some 36) HT_ (h := ?_)
            refine puA (i := 6) (N := some 37) HT_ (h := ?_)
            refine puA (i := 7) (N := some 38) HT_ (h := ?_)
            refine puA (i := 9) (N := some 40) HT_ (h := ?_)
            refine puA (i := 10) (N := some 41) HT_ (h := ?_)
            refine puA (i := 11) (N := some 42) HT_ (h := ?_)
            refine taA2 (i := 8) (N := some 39) HT_ HW_ hHeld (h := ?_)
            refine taA2 (i := 12) (N := some 43) HT_ HW_ hHeld (h := ?_)
            refine puA (i := 13) (N := some 44) HT_ (h := ?_)
            refine puA (i := 14) (N := some 45) HT_ (h := ?_)
            refine done_ (done_of HT_.out (by kernel_rfl)) ?_
            try go_wp2
            go_roundg k2
            case measure => have := HK1.out; have := HK2.out; omega
            case rel => exact ⟨(x3_1), (wrap64 (x4_1 + 1)), rs_, H', ⟨by have := HK1.out; have := HK2.out; omega⟩, ⟨pR HO_3.out⟩, ⟨pB HB.out⟩⟩
           ·rw [if_neg c12] at H
            have c12b0 : ((rd x3_1 x5_2) == (rd l0 x4_1)) = false := beq_eq_false_iff_ne.mpr c12
            have c12b1 : ((rd x3_1 x5_2) != (rd l0 x4_1)) = true := bne_iff_ne.mpr c12
            obtain ⟨y93008, hy93008⟩ : ∃ y_ : List Int, y_ = (([] : List Int)) := ⟨_, rfl⟩
            replace H : (if x5_2 ≤ (x3_1.length : Int) then ((some (x3_1.drop (x5_2 : Int).toNat : List Int)).bind fun y93011 => (if y93008.length + y93011.length < 17592186044416 then ((some (y93008 ++ y93011 : List Int)).bind fun y93015 => ((some (x3_1.take (x5_2 : Int).toNat : List Int)).bind fun y93018 => (if y93018.length < 17592186044416 then ((some (y93018 ++ [rd l0 x4_1] : List Int)).bind fun y93022 => (if y93022.length + y93015.length < 17592186044416 then (spec_SortSets.l0 k2 l0 (y93022 ++ y93015) (wrap64 (x4_1 + 1))) else (none))) else (none)))) else (none))) else (none)) = some r := by first | (rw [hy93008]; with_reducible exact H) | (have H2_ := (Option.bind_some _ _).symm.trans H; rw [hy93008]; with_reducible exact H2_) | (have H2_ := (Option.bind_some _ _).symm.trans H; with_reducible exact H2_) | with_reducible exact H | (rw [hy93008]; exact H) | exact H
            have Ny93008 := aQ hy93008
            clear hy93008
            have c16b0 := eq_true (of_decide_eq_true as_ : 0 ≤ x5_2)
            by_cases c17 : x5_2 ≤ (x3_1.length : Int)
            ·rw [if_pos c17] at H
             have c17b0 := eq_true c17
             have c17b1 : decide (x5_2 ≤ (x3_1.length : Int)) = true := decide_eq_true c17
             clear c17
             obtain ⟨y93011, hy93011⟩ : ∃ y_ : List Int, y_ = (x3_1.drop (x5_2 : Int).toNat) := ⟨_, rfl⟩
             replace H : (if y93008.length + y93011.length < 17592186044416 then ((some (y93008 ++ y93011 : List Int)).bind fun y93015 => ((some (x3_1.take (x5_2 : Int).toNat : List Int)).bind fun y93018 => (if y93018.length < 17592186044416 then ((some (y93018 ++ [rd l0 x4_1] : List Int)).bind fun y93022 => (if y93022.length + y93015.length < 17592186044416 then (spec_SortSets.l0 k2 l0 (y93022 ++ y93015) (wrap64 (x4_1 + 1))) else (none))) else (none)))) else (none)) = some r := by first | (rw [hy93011]; with_reducible exact H) | (have H2_ := (Option.bind_some _ _).symm.trans H; rw [hy93011]; with_reducible exact H2_) | (have H2_ := (Option.bind_some _ _).symm.trans H; with_reducible exact H2_) | with_reducible exact H | (rw [hy93011]; exact H) | exact H
             have Ny93011 := aQ hy93011
             clear hy93011
             by_cases c18 : y93008.length + y93011.length < 17592186044416
             ·rw [if_pos c18] at H
              have LMc18 := aQ c18
              clear c18
              obtain ⟨y93015, hy93015⟩ : ∃ y_ : List Int, y_ = (y93008 ++ y93011) := ⟨_, rfl⟩
              replace H : ((some (x3_1.take (x5_2 : Int).toNat : List Int)).bind fun y93018 => (if y93018.length < 17592186044416 then ((some (y93018 ++ [rd l0 x4_1] : List Int)).bind fun y93022 => (if y93022.length + y93015.length < 17592186044416 then (spec_SortSets.l0 k2 l0 (y93022 ++ y93015) (wrap64 (x4_1 + 1))) else (none))) else (none))) = some r := by first | (rw [hy93015]; with_reducible exact H) | (have H2_ := (Option.bind_some _ _).symm.trans H; rw [hy93015]; with_reducible exact H2_) | (have H2_ := (Option.bind_some _ _).symm.trans H; with_reducible exact H2_) | with_reducible exact H | (rw [hy93015]; exact H) | exact H
              have Ny93015 := aQ hy93015
              clear hy93015
              have c19b0 := eq_true (of_decide_eq_true as_ : x5_2 ≤ (x3_1.length : Int))
              obtain ⟨y93018, hy93018⟩ : ∃ y_ : List Int, y_ = (x3_1.take (x5_2 : Int).toNat) := ⟨_, rfl⟩
              replace H : (if y93018.length < 17592186044416 then ((some (y93018 ++ [rd l0 x4_1] : List Int)).bind fun y93022 => (if y93022.length + y93015.length < 17592186044416 then (spec_SortSets.l0 k2 l0 (y93022 ++ y93015) (wrap64 (x4_1 + 1))) else (none))) else (none)) = some r := by first | (rw [hy93018]; with_reducible exact H) | (have H2_ := (Option.bind_some _ _).symm.trans H; rw [hy93018]; with_reducible exact H2_) | (have H2_ := (Option.bind_some _ _).symm.trans H; with_reducible exact H2_) | with_reducible exact H | (rw [hy93018]; exact H) | exact H
              have Ny93018 := aQ hy93018
              clear hy93018
              by_cases c20 : y93018.length < 17592186044416
              ·rw [if_pos c20] at H
               have LMc20 := aQ c20
               clear c20
               obtain ⟨y93022, hy93022⟩ : ∃ y_ : List Int, y_ = (y93018 ++ [rd l0 x4_1]) := ⟨_, rfl⟩
               replace H : (if y93022.length + y93015.length < 17592186044416 then (spec_SortSets.l0 k2 l0 (y93022 ++ y93015) (wrap64 (x4_1 + 1))) else (none)) = some r := by first | (rw [hy93022]; with_reducible exact H) | (have H2_ := (Option.bind_some _ _).symm.trans H; rw [hy93022]; with_reducible exact H2_) | (have H2_ := (Option.bind_some _ _).symm.trans H; with_reducible exact H2_) | with_reducible exact H | (rw [hy93022]; exact H) | exact H
               have Ny93022 := aQ hy93022
               clear hy93022
               by_cases c21 : y93022.length + y93015.length < 17592186044416
               ·rw [if_pos c21] at H
                have LMc21 := aQ c21
                clear c21
                obtain ⟨y93025, hy93025⟩ : ∃ y_ : List Int, y_ = (y93022 ++ y93015) := ⟨_, rfl⟩
                replace H : (spec_SortSets.l0 k2 l0 y93025 (wrap64 (x4_1 + 1))) = some r := by first | (rw [hy93025]; with_reducible exact H) | (have H2_ := (Option.bind_some _ _).symm.trans H; rw [hy93025]; with_reducible exact H2_) | (have H2_ := (Option.bind_some _ _).symm.trans H; with_reducible exact H2_) | with_reducible exact H | (rw [hy93025]; exact H) | exact H
                have Ny93025 := aQ hy93025
                clear hy93025
                have H' := aQ H
                clear H
                try go_wp2
                have n0_ := aQ (Kd.R_drew HO_3.out)
                have n1_ := aQ (below_drew1 HB.out)
                clear HO_3
                clear HB
                have HO_3 := n0_
                have HB := n1_
                clear n0_ n1_
                obtain ⟨Ao23, co23, eo23⟩ := Kd.R_slice HO_3.out
                (first | subst eo23 | (injection eo23 with f1_ f2_ f3_; have f4_ := f1_.symm; have f5_ := f3_.symm; clear f1_ f2_ f3_; subst f4_; subst f5_))
                have p93004 : 0 ≤ (x5_2 : Int) := of_decide_eq_true as_
                have q93004 : x5_2 < (x3_1.length : Int) := of_decide_eq_true as_
                obtain ⟨ad93004, e93004, hx93004_0⟩ := Kd.at_int (Kd.R_reads' HO_3.out).2.2 x5_2 p93004 q93004
                cases e93004
                replace p93004 := eq_true p93004
                replace q93004 := eq_true q93004
                have p93005 : 0 ≤ (x4_1 : Int) := of_decide_eq_true as_
                have q93005 : x4_1 < (l0.length : Int) := of_decide_eq_true as_
                obtain ⟨ad93005, e93005, hx93005_0⟩ := Kd.at_int HR0.out x4_1 p93005 q93005
                have hw93005_0 := hx93005_0
                cases e93005
                replace hx93005_0 := (HB.out.cell (World.block_lt_of_cell? w _ hx93005_0)).trans hx93005_0
                replace p93005 := eq_true p93005
                replace q93005 := eq_true q93005
                refine start_ (n := 15) (S := fun w' => w'.cell? (ad93004.add (x5_2).toNat) = some (.int .i64 (rd x3_1 x5_2)) ∧ w'.cell? (ad93005.add (x4_1).toNat) = some (.int .i64 (rd l0 x4_1))) (ds := []) #[false, false, false, false, false, false, false, false, false, false, false, false, false, false, false] (by kernel_rfl) rfl rfl ⟨hx93004_0, ((HB.out.cell (World.block_lt_of_cell? w _ hw93005_0)).trans hw93005_0)⟩ (fun hHeld => ?_); refine with_tabW spec_SortSets.tab6 spec_SortSets.bits6 (fun HT_ HW_ => ?_)
                generalize wr.drew = w22 at HO_3 HB hx93004_0 hx93005_0 hHeld ⊢
                refine puA (i := 0) (N := some 14) HT_ (h := ?_)
                refine puA (i := 1) (N := some 15) HT_ (h := ?_)
                refine puA (i := 2) (N := some 16) HT_ (h := ?_)
                refine puA (i := 3) (N := some 17) HT_ (h := ?_)
                refine puA (i := 4) (N := some 18) HT_ (h := ?_)
                refine puA (i := 5) (N := some 19) HT_ (h := ?_)
                refine puA (i := 6) (N := some 20) HT_ (h := ?_)
                refine puA (i := 7) (N := some 21) HT_ (h := ?_)
                refine puA (i := 9) (N := some 23) HT_ (h := ?_)
                refine puA (i := 10) (N := some 24) HT_ (h := ?_)
                refine puA (i := 11) (N := some 25) HT_ (h := ?_)
                refine taA2 (i := 8) (N := some 22) HT_ HW_ hHeld (h := ?_)
                refine taA2 (i := 12) (N := some 26) HT_ HW_ hHeld (h := ?_)
                refine puA (i := 13) (N := some 27) HT_ (h := ?_)
                refine puA (i := 14) (N := some 28) HT_ (h := ?_)
                refine done_ (done_of HT_.out (by kernel_rfl)) ?_
                try go_wp2
                have n0_ := aQ (Kd.R_drew HO_3.out)
                have n1_ := aQ (below_drew1 HB.out)
                clear HO_3
                clear HB
                have HO_3 := n0_
                have HB := n1_
                clear n0_ n1_
                have p93006 : 0 ≤ (x5_2 : Int) := of_decide_eq_true as_
                have q93006 : x5_2 < (x3_1.length : Int) := of_decide_eq_true as_
                obtain ⟨ad93006, e93006, hx93006_0⟩ := Kd.at_int (Kd.R_reads' HO_3.out).2.2 x5_2 p93006 q93006
                obtain rfl : ad93004 = ad93006 := (by injection e93006)
                replace p93006 := eq_true p93006
                replace q93006 := eq_true q93006
                have p93007 : 0 ≤ (x4_1 : Int) := of_decide_eq_true as_
                have q93007 : x4_1 < (l0.length : Int) := of_decide_eq_true as_
                obtain ⟨ad93007, e93007, hx93007_0⟩ := Kd.at_int HR0.out x4_1 p93007 q93007
                have hw93007_0 := hx93007_0
                obtain rfl : ad93005 = ad93007 := (by injection e93007)
                replace hx93007_0 := (HB.out.cell (World.block_lt_of_cell? w _ hx93007_0)).trans hx93007_0
                replace p93007 := eq_true p93007
                replace q93007 := eq_true q93007
                refine start_ (n := 15) (S := fun w' => w'.cell? (ad93004.add (x5_2).toNat) = some (.int .i64 (rd x3_1 x5_2)) ∧ w'.cell? (ad93005.add (x4_1).toNat) = some (.int .i64 (rd l0 x4_1))) (ds := []) #[false, false, false, false, false, false, false, false, false, false, false, false, false, false, false] (by kernel_rfl) rfl rfl ⟨hx93006_0, ((HB.out.cell (World.block_lt_of_cell? w _ hw93007_0)).trans hw93007_0)⟩ (fun hHeld => ?_); refine with_tabW spec_SortSets.tab8 spec_SortSets.bits8 (fun HT_ HW_ => ?_)
                generalize w22.drew = w24 at HO_3 HB hx93006_0 hx93007_0 hHeld ⊢
                refine puA (i := 0) (N := some 31) HT_ (h := ?_)
                refine puA (i := 1) (N := some 32) HT_ (h := ?_)
                refine puA (i := 2) (N := some 33) HT_ (h := ?_)
                refine puA (i := 3) (N := some 34) HT_ (h := ?_)
                refine puA (i := 4) (N := some 35) HT_ (h := ?_)
                refine puA (i := 5) (N := some 36) HT_ (h := ?_)
                refine puA (i := 6) (N := some 37) HT_ (h := ?_)
                refine puA (i := 7) (N := some 38) HT_ (h := ?_)
                refine puA (i := 9) (N := some 40) HT_ (h := ?_)
                refine puA (i := 10) (N := some 41) HT_ (h := ?_)
                refine puA (i := 11) (N := some 42) HT_ (h := ?_)
                refine taA2 (i := 8) (N := some 39) HT_ HW_ hHeld (h := ?_)
                refine taA2 (i := 12) (N := some 43) HT_ HW_ hHeld (h := ?_)
                refine puA (i := 13) (N := some 44) HT_ (h := ?_)
                refine puA (i := 14) (N := some 45) HT_ (h := ?_)
                refine done_ (done_of HT_.out (by kernel_rfl)) ?_
                try go_wp2_with (first | ((with_reducible refine gate_dst (N := 46) rfl ?_); refine Kd.R_lit (Kd.int .i64) _ 3 ?hg (N := 46) ?hd (xs := ([] : List Int)) (inner := []) (ok := fun _ => True) (okp := fun _ => True) ?hr ?hp (fun _ hk => hk) trivial (Below.refl _ _) (Nat.le_refl _) (by simp) ?_; (case hd => rfl); (case hg => rfl); (case hr => first | (go_simp; done) | (go_simp; rfl)); (case hp => exact (Reps.none _ _)); intro v93009 w25 ho26 hb hg_ hnew_; clear hg_ hnew_; (first | rw [← Ny93008.out] at ho26 | (simp only [Int.reduceToNat] at ho26; rw [← Ny93008.out] at ho26)); have HO93010 := aQ (Kd.R_lower (Kd.R_new' ho26 (Kd.R_lt (pR HO_3.out))) (below_size (pB HB.out))); replace HO_3 := aQ (Kd.R_elder' (pR HO_3.out) (Kd.R_base ho26) hb); replace HB := aQ (below_step (pB HB.out) hb); clear hb ho26; have q27 : (x5_2 : Int) ≤ ((x3_1.length : Int) : Int) := of_decide_eq_true as_; obtain ⟨i027, hi027, _, hsz27, _⟩ := info_parts info3; have hroom27 : x3_1.length ≤ co23 := (Kd.R_reads' HO_3.out).2.1; have hC27 : Kd.C (Kd.int .i64) _ (some ad93004) x3_1.length x3_1 := (Kd.R_reads' HO_3.out).2.2; have q027 : (0 : Int) ≤ (x5_2 : Int) := of_decide_eq_true as_; have hcut27 := cut_from (P := Try.prog) 22 3 .i64 Try.underlying22 hi027 1 hsz27 (some ad93004) x3_1.length co23 x5_2 q027 q27; have hr27 := Kd.C_drop (m := (x5_2 : Int).toNat) (c := co23) hC27 (by omega) hroom27; obtain ⟨A27, hA27⟩ : ∃ A1, A1 = (if co23 = (x5_2 : Int).toNat then (some ad93004) else ((some ad93004) : Option Addr).map (·.add ((x5_2 : Int).toNat * 1))) := ⟨_, rfl⟩; obtain ⟨c27, hc27⟩ : ∃ c1, c1 = co23 - (x5_2 : Int).toNat := ⟨_, rfl⟩; have hy27 : y93011.length = x3_1.length - (x5_2 : Int).toNat := (by rw [Ny93011.out, List.length_drop] <;> omega); rw [show (x3_1).drop (x5_2 : Int).toNat = y93011 from Ny93011.out.symm] at hr27; replace hr27 : Kd.C (Kd.int .i64) _ A27 y93011.length y93011 := (by rw [hA27]; exact hr27); rw [← hy27, ← hA27, ← hc27] at hcut27; have HR93014 := aQ hr27; have HC93014 := aQ (show y93011.length ≤ c27 from by rw [hy27, hc27]; exact Nat.sub_le_sub_right hroom27 _); clear hr27 hC27 hroom27 hi027 hsz27 hc27; have KY27 := aQ hy27; have KA27 := aQ hA27; clear hy27 hA27; have KL27 := aQ (show (x5_2 : Int).toNat ≤ x3_1.length from by omega); replace q27 := eq_true q27) | ((with_reducible refine gate_builtin (b := .append) (xs := #[.tmp 46, .tmp 49]) rfl ?_); at_builtin; refine Kd.R_append_rows (Kd.int .i64) (w0 := w) w.heap.size rfl (.tmp 46) (.tmp 49) 22 3 (.int .i64 0) 8 rfl Try.underlying22 info3 rfl (by decide) (by omega) v93009 y93008 y93011 _ _ _ (fun k_ => some k_ ≠ (.slice (some ad93004) x3_1.length co23 : Value).ownBlock) (fun _ => False) rfl rfl ?aO ?aR (fun _ _ h => h) (fun _ h => h.elim) ?aF ?aB ?aS ?aL ?_; (case aR => repeat (first | exact (by repeat (first | (with_reducible exact HR93014.out) | (with_reducible refine Kd.C_alloc ?_ _) | (with_reducible refine Kd.C_drewN ?_ _) | (with_reducible refine Kd.C_drew ?_) | exact HR93014.out)) | (with_reducible refine Kd.C_alloc ?_ _) | (with_reducible refine Kd.C_drewN ?_ _) | (with_reducible refine Kd.C_drew ?_))); (case aB => exact (pB HB.out)); (case aF => exact (fun k_ hk => Kd.fresh' (Kd.R_lt (pR HO_3.out)) k_ hk)); (case aO => exact (by (with_reducible repeat (first | apply Kd.R_alloc | apply Kd.R_drewN | apply Kd.R_drew)); exact Kd.R_mono HO93010.out (fun _ hk => hk.2))); (case aS => exact (below_size (pB HB.out))); (case aL => have := LMc18.out; omega); intro v93016 w28 ho hb hg hat; rw [← Ny93015.out] at ho; replace HB := aQ (hb); replace HR93014 := aQ ((show Kd.C (Kd.int .i64) w28 A27 y93011.length y93011 from by rw [Ny93011.out, KA27.out]; exact Kd.C_drop (m := (x5_2 : Int).toNat) (c := co23) ((Kd.R_reads' (Kd.R_after (ok := (fun _ => True)) (pR HO_3.out) hg hat)).2.2) KL27.out ((Kd.R_reads' (Kd.R_after (ok := (fun _ => True)) (pR HO_3.out) hg hat)).2.1))); replace HO_3 := aQ (Kd.R_after (ok := (fun _ => True)) (pR HO_3.out) hg hat); have HO93017 := aQ (ho); clear HO93010; clear ho hb hg hat))
                have n0_ := aQ (Kd.R_drew HO_3.out)
                have n1_ := aQ (Kd.R_drew HO93017.out)
                have n2_ := aQ (Kd.C_drew HR93014.out)
                have n3_ := aQ (below_drew1 HB.out)
                clear HO_3
                clear HO93017
                clear HR93014
                clear HB
                have HO_3 := n0_
                have HO93017 := n1_
                have HR93014 := n2_
                have HB := n3_
                clear n0_ n1_ n2_ n3_
                have q30 : (x5_2 : Int) ≤ ((x3_1.length : Int) : Int) := of_decide_eq_true as_
                obtain ⟨i030, hi030, _, hsz30, _⟩ := info_parts info3
                have hcut30 := cut_to (P := Try.prog) 22 3 .i64 Try.underlying22 hi030 (some ad93004) x3_1.length co23 x5_2 (of_decide_eq_true as_) q30 (Kd.R_reads' HO_3.out).2.1
                have hr30 := Kd.R_take (m := (x5_2 : Int).toNat) HO_3.out (by omega)
                have hy30 : y93018.length = (x5_2 : Int).toNat := (by rw [Ny93018.out, List.length_take]; omega)
                rw [← Ny93018.out] at hr30
                rw [← hy30] at hr30 hcut30
                clear hy30 hi030 hsz30 HO_3
                have HO93020 := aQ hr30
                clear hr30
                replace q30 := eq_true q30
                have p93021 : 0 ≤ (x4_1 : Int) := of_decide_eq_true as_
                have q93021 : x4_1 < (l0.length : Int) := of_decide_eq_true as_
                obtain ⟨ad93021, e93021, hx93021_0⟩ := Kd.at_int HR0.out x4_1 p93021 q93021
                have hw93021_0 := hx93021_0
                obtain rfl : ad93005 = ad93021 := (by injection e93021)
                replace hx93021_0 := (HB.out.cell (World.block_lt_of_cell? w _ hx93021_0)).trans hx93021_0
                replace p93021 := eq_true p93021
                replace q93021 := eq_true q93021
                refine start_ (n := 12) (S := fun w' => w'.cell? (ad93005.add (x4_1).toNat) = some (.int .i64 (rd l0 x4_1))) (ds := []) #[false, false, false, false, false, false, false, false, false, false, false, false] (by kernel_rfl) rfl rfl (((HB.out.cell (World.block_lt_of_cell? w _ hw93021_0)).trans hw93021_0)) (fun hHeld => ?_); refine with_tabW spec_SortSets.tab10 spec_SortSets.bits10 (fun HT_ HW_ => ?_)
                generalize w28.drew = w29 at HO_3 HO93017 HR93014 HB HO93020 hx93021_0 hHeld ⊢
                refine puA (i := 0) (N := some 51) HT_ (h := ?_)
                refine puA (i := 1) (N := some 52) HT_ (h := ?_)
                refine puA (i := 2) (N := some 53) HT_ (h := ?_)
                refine puA (i := 3) (N := some 54) HT_ (h := ?_)
                refine puA (i := 4) (N := some 55) HT_ (h := ?_)
                refine puA (i := 5) (N := some 56) HT_ (h := ?_)
                refine puA (i := 9) (N := some 60) HT_ (h := ?_)
                refine taA1 (i := 6) (N := some 57) HT_ HW_ hHeld (h := ?_)
                refine onA (i := 7) (N := some 58) HT_ (h := fun K hK => ?_)
                refine value_ (w1 := ?_) (v := ?_) (by rfl) rfl ?_ ?_
                rotate_left 2
                ·go_simp
                 constructor
                 ·rfl
                 ·rfl
                refine hK.out _ _ ((World.cell?_alloc_lt _ _ _ (World.block_lt_of_cell? _ _ (((HB.out.cell (World.block_lt_of_cell? w _ hw93021_0)).trans hw93021_0)))).trans (((HB.out.cell (World.block_lt_of_cell? w _ hw93021_0)).trans hw93021_0))) (fun hHeld => ?_)
                clear hK K
                refine noA (h := ?_)
                refine onA (i := 8) (N := some 59) HT_ (h := fun K hK => ?_)
                refine Kd.R_append_step (Kd.int .i64) (w0 := w) w.heap.size (by rfl) (.tmp 53) (.tmp 58) 22 3 (.int .i64 0) 8 rfl Try.underlying22 info3 rfl (by decide) (by omega) (.slice (some ad93004) y93018.length co23) y93018 (rd l0 x4_1) [.int .i64 (rd l0 x4_1)] (fun k_ => some k_ ≠ (v93016 : Value).ownBlock) (fun _ => False) rfl rfl ?aP (fun _ hk => hk.elim) ?aF ?aO ?aB ?aS ?aL ?_
                (case aP => exact rfl)
                (case aB => exact (pB HB.out))
                (case aF => exact (fun k_ hk => Kd.fresh' (Kd.R_lt (pR HO93017.out)) k_ hk))
                (case aO => exact (by (with_reducible repeat (first | apply Kd.R_alloc | apply Kd.R_drewN | apply Kd.R_drew)); exact Kd.R_mono HO93020.out (fun _ hk => hk.2)))
                (case aS => exact (below_size (pB HB.out)))
                (case aL => have := LMc20.out; omega)
                intro v93023 w31 ho hb hg hat
                rw [← Ny93022.out] at ho
                have n0_ := aQ (Kd.R_after (ok := (fun _ => True)) (by (with_reducible repeat (first | apply Kd.R_alloc | apply Kd.R_drewN | apply Kd.R_drew)); exact Kd.R_mono HO93017.out (fun _ hk => ⟨trivial, by first | exact hk | exact fun h_ => hk (h_.trans (ob_len _ _ _ _))⟩)) hg hat)
                have n1_ := aQ (hb)
                have n2_ := aQ (ho)
                clear HO93017
                clear HB
                clear HO93020
                have HO93017 := n0_
                have HB := n1_
                have HO93024 := n2_
                clear n0_ n1_ n2_
                clear ho hb hg hat
                obtain ⟨Ao33, co33, eo33⟩ := Kd.R_slice HO93017.out
                (first | subst eo33 | (injection eo33 with f1_ f2_ f3_; have f4_ := f1_.symm; have f5_ := f3_.symm; clear f1_ f2_ f3_; subst f4_; subst f5_))
                refine hK.out _ _ (((HB.out.cell (World.block_lt_of_cell? w _ hw93021_0)).trans hw93021_0)) (fun hHeld => ?_)
                clear hK K
                refine noA (h := ?_)
                refine onA (i := 10) (N := some 61) HT_ (h := fun K hK => ?_)
                refine Kd.R_append_rows_step (Kd.int .i64) (w0 := w) w.heap.size (by rfl) (.tmp 59) (.tmp 60) 22 3 (.int .i64 0) 8 rfl Try.underlying22 info3 rfl (by decide) (by omega) v93023 y93022 y93015 _ _ _ (fun k_ => some k_ ≠ (.slice Ao33 y93015.length co33 : Value).ownBlock) (fun _ => False) rfl rfl ?aO ?aR (fun _ _ h => h) (fun _ h => h.elim) ?aF ?aB ?aS ?aL ?_
                (case aR => repeat (first | exact (Kd.R_reads' HO93017.out).2.2 | (with_reducible refine Kd.C_alloc ?_ _) | (with_reducible refine Kd.C_drewN ?_ _) | (with_reducible refine Kd.C_drew ?_)))
                (case aB => exact (pB HB.out))
                (case aF => exact (fun k_ hk => Kd.fresh' (Kd.R_lt (pR HO93017.out)) k_ hk))
                (case aO => exact (pR HO93024.out))
                (case aS => exact (below_size (pB HB.out)))
                (case aL => have := LMc21.out; omega)
                intro v93026 w32 ho hb hg hat
                rw [← Ny93025.out] at ho
                have n0_ := aQ (Kd.R_after (ok := (fun _ => True)) (pR HO93017.out) hg hat)
                have n1_ := aQ (hb)
                have n2_ := aQ (ho)
                clear HO93017
                clear HB
                clear HO93024
                have HO93017 := n0_
                have HB := n1_
                have HO93027 := n2_
                clear n0_ n1_ n2_
                clear ho hb hg hat
                refine hK.out _ _ (((HB.out.cell (World.block_lt_of_cell? w _ hw93021_0)).trans hw93021_0)) (fun hHeld => ?_)
                clear hK K
                refine noA (h := ?_)
                refine puA (i := 11) (N := some 3) HT_ (h := ?_)
                refine done_ (done_of HT_.out (by kernel_rfl)) ?_
                try go_wp2
                go_roundg k2
                case measure => have := HK1.out; have := HK2.out; omega
                case rel => exact ⟨(y93025), (wrap64 (x4_1 + 1)), rs_, H', ⟨by have := HK1.out; have := HK2.out; omega⟩, ⟨by (with_reducible repeat (first | apply Kd.R_alloc | apply Kd.R_drewN | apply Kd.R_drew)); exact Kd.R_mono HO93027.out (fun _ hk => trivial)⟩, ⟨pB HB.out⟩⟩
               ·rw [if_neg c21] at H
                exact absurd H (by simp)
              ·rw [if_neg c20] at H
               exact absurd H (by simp)
             ·rw [if_neg c18] at H
              exact absurd H (by simp)
            ·rw [if_neg c17] at H
             exact absurd H (by simp)
         ·rw [if_neg c8] at H
          exact absurd H (by simp)
        ·rw [if_neg c7] at H
         exact absurd H (by simp)
       ·rw [if_neg c6] at H
        exact absurd H (by simp)
      ·rw [if_neg c5] at H
       have c5b0 : decide (x5_2 < (x3_1.length : Int)) = false := decide_eq_false c5
       clear c5
       obtain ⟨y93028, hy93028⟩ : ∃ y_ : List Int, y_ = (([] : List Int)) := ⟨_, rfl⟩
       replace H : (if 0 ≤ x5_2 then (if x5_2 ≤ (x3_1.length : Int) then ((some (x3_1.drop (x5_2 : Int).toNat : List Int)).bind fun y93031 => (if y93028.length + y93031.length < 17592186044416 then ((some (y93028 ++ y93031 : List Int)).bind fun y93035 => ((some (x3_1.take (x5_2 : Int).toNat : List Int)).bind fun y93038 => (if 0 ≤ x4_1 then (if x4_1 < (l0.length : Int) then (if y93038.length < 17592186044416 then ((some (y93038 ++ [rd l0 x4_1] : List Int)).bind fun y93042 => (if y93042.length + y93035.length < 17592186044416 then (spec_SortSets.l0 k2 l0 (y93042 ++ y93035) (wrap64 (x4_1 + 1))) else (none))) else (none)) else (none)) else (none)))) else (none))) else (none)) else (none)) = some r := by first | (rw [hy93028]; with_reducible exact H) | (have H2_ := (Option.bind_some _ _).symm.trans H; rw [hy93028]; with_reducible exact H2_) | (have H2_ := (Option.bind_some _ _).symm.trans H; with_reducible exact H2_) | with_reducible exact H | (rw [hy93028]; exact H) | exact H
       have Ny93028 := aQ hy93028
       clear hy93028
       by_cases c34 : 0 ≤ x5_2
       ·rw [if_pos c34] at H
        have c34b0 := eq_true c34
        have c34b1 : decide (0 ≤ x5_2) = true := decide_eq_true c34
        clear c34
        by_cases c35 : x5_2 ≤ (x3_1.length : Int)
        ·rw [if_pos c35] at H
         have c35b0 := eq_true c35
         have c35b1 : decide (x5_2 ≤ (x3_1.length : Int)) = true := decide_eq_true c35
         clear c35
         obtain ⟨y93031, hy93031⟩ : ∃ y_ : List Int, y_ = (x3_1.drop (x5_2 : Int).toNat) := ⟨_, rfl⟩
         replace H : (if y93028.length + y93031.length < 17592186044416 then ((some (y93028 ++ y93031 : List Int)).bind fun y93035 => ((some (x3_1.take (x5_2 : Int).toNat : List Int)).bind fun y93038 => (if 0 ≤ x4_1 then (if x4_1 < (l0.length : Int) then (if y93038.length < 17592186044416 then ((some (y93038 ++ [rd l0 x4_1] : List Int)).bind fun y93042 => (if y93042.length + y93035.length < 17592186044416 then (spec_SortSets.l0 k2 l0 (y93042 ++ y93035) (wrap64 (x4_1 + 1))) else (none))) else (none)) else (none)) else (none)))) else (none)) = some r := by first | (rw [hy93031]; with_reducible exact H) | (have H2_ := (Option.bind_some _ _).symm.trans H; rw [hy93031]; with_reducible exact H2_) | (have H2_ := (Option.bind_some _ _).symm.trans H; with_reducible exact H2_) | with_reducible exact H | (rw [hy93031]; exact H) | exact H
         have Ny93031 := aQ hy93031
         clear hy93031
         by_cases c36 : y93028.length + y93031.length < 17592186044416
         ·rw [if_pos c36] at H
          have LMc36 := aQ c36
          clear c36
          obtain ⟨y93035, hy93035⟩ : ∃ y_ : List Int, y_ = (y93028 ++ y93031) := ⟨_, rfl⟩
          replace H : ((some (x3_1.take (x5_2 : Int).toNat : List Int)).bind fun y93038 => (if 0 ≤ x4_1 then (if x4_1 < (l0.length : Int) then (if y93038.length < 17592186044416 then ((some (y93038 ++ [rd l0 x4_1] : List Int)).bind fun y93042 => (if y93042.length + y93035.length < 17592186044416 then (spec_SortSets.l0 k2 l0 (y93042 ++ y93035) (wrap64 (x4_1 + 1))) else (none))) else (none)) else (none)) else (none))) = some r := by first | (rw [hy93035]; with_reducible exact H) | (have H2_ := (Option.bind_some _ _).symm.trans H; rw [hy93035]; with_reducible exact H2_) | (have H2_ := (Option.bind_some _ _).symm.trans H; with_reducible exact H2_) | with_reducible exact H | (rw [hy93035]; exact H) | exact H
          have Ny93035 := aQ hy93035
          clear hy93035
          have c37b0 := eq_true (of_decide_eq_true as_ : x5_2 ≤ (x3_1.length : Int))
          obtain ⟨y93038, hy93038⟩ : ∃ y_ : List Int, y_ = (x3_1.take (x5_2 : Int).toNat) := ⟨_, rfl⟩
          replace H : (if 0 ≤ x4_1 then (if x4_1 < (l0.length : Int) then (if y93038.length < 17592186044416 then ((some (y93038 ++ [rd l0 x4_1] : List Int)).bind fun y93042 => (if y93042.length + y93035.length < 17592186044416 then (spec_SortSets.l0 k2 l0 (y93042 ++ y93035) (wrap64 (x4_1 + 1))) else (none))) else (none)) else (none)) else (none)) = some r := by first | (rw [hy93038]; with_reducible exact H) | (have H2_ := (Option.bind_some _ _).symm.trans H; rw [hy93038]; with_reducible exact H2_) | (have H2_ := (Option.bind_some _ _).symm.trans H; with_reducible exact H2_) | with_reducible exact H | (rw [hy93038]; exact H) | exact H
          have Ny93038 := aQ hy93038
          clear hy93038
          by_cases c38 : 0 ≤ x4_1
          ·rw [if_pos c38] at H
           have c38b0 : decide (0 ≤ x4_1) = true := decide_eq_true c38
           clear c38
           by_cases c39 : x4_1 < (l0.length : Int)
           ·rw [if_pos c39] at H
            have c39b0 : decide (x4_1 < (l0.length : Int)) = true := decide_eq_true c39
            clear c39
            by_cases c40 : y93038.length < 17592186044416
            ·rw [if_pos c40] at H
             have LMc40 := aQ c40
             clear c40
             obtain ⟨y93042, hy93042⟩ : ∃ y_ : List Int, y_ = (y93038 ++ [rd l0 x4_1]) := ⟨_, rfl⟩
             replace H : (if y93042.length + y93035.length < 17592186044416 then (spec_SortSets.l0 k2 l0 (y93042 ++ y93035) (wrap64 (x4_1 + 1))) else (none)) = some r := by first | (rw [hy93042]; with_reducible exact H) | (have H2_ := (Option.bind_some _ _).symm.trans H; rw [hy93042]; with_reducible exact H2_) | (have H2_ := (Option.bind_some _ _).symm.trans H; with_reducible exact H2_) | with_reducible exact H | (rw [hy93042]; exact H) | exact H
             have Ny93042 := aQ hy93042
             clear hy93042
             by_cases c41 : y93042.length + y93035.length < 17592186044416
             ·rw [if_pos c41] at H
              have LMc41 := aQ c41
              clear c41
              obtain ⟨y93045, hy93045⟩ : ∃ y_ : List Int, y_ = (y93042 ++ y93035) := ⟨_, rfl⟩
              replace H : (spec_SortSets.l0 k2 l0 y93045 (wrap64 (x4_1 + 1))) = some r := by first | (rw [hy93045]; with_reducible exact H) | (have H2_ := (Option.bind_some _ _).symm.trans H; rw [hy93045]; with_reducible exact H2_) | (have H2_ := (Option.bind_some _ _).symm.trans H; with_reducible exact H2_) | with_reducible exact H | (rw [hy93045]; exact H) | exact H
              have Ny93045 := aQ hy93045
              clear hy93045
              have H' := aQ H
              clear H
              try go_wp2
              have n0_ := aQ (Kd.R_drew HO_3.out)
              have n1_ := aQ (below_drew1 HB.out)
              clear HO_3
              clear HB
              have HO_3 := n0_
              have HB := n1_
              clear n0_ n1_
              obtain ⟨Ao43, co43, eo43⟩ := Kd.R_slice HO_3.out
              (first | subst eo43 | (injection eo43 with f1_ f2_ f3_; have f4_ := f1_.symm; have f5_ := f3_.symm; clear f1_ f2_ f3_; subst f4_; subst f5_))
              refine start_ (n := 15) (S := fun w' => True) (ds := []) #[false, false, false, false, false, false, false, false, false, false, false, false, false, false, false] (by kernel_rfl) rfl rfl trivial (fun hHeld => ?_); refine with_tabW spec_SortSets.tab6 spec_SortSets.bits6 (fun HT_ HW_ => ?_)
              generalize wr.drew = w42 at HO_3 HB hHeld ⊢
              refine puA (i := 0) (N := some 14) HT_ (h := ?_)
              refine puA (i := 1) (N := some 15) HT_ (h := ?_)
              refine puA (i := 2) (N := some 16) HT_ (h := ?_)
              refine puA (i := 3) (N := some 17) HT_ (h := ?_)
              refine puA (i := 4) (N := some 18) HT_ (h := ?_)
              refine puU (i := 5) (N := some 19) HT_ (h := ?_)
              refine puU (i := 6) (N := some 20) HT_ (h := ?_)
              refine puU (i := 7) (N := some 21) HT_ (h := ?_)
              refine puU (i := 8) (N := some 22) HT_ (h := ?_)
              refine puU (i := 9) (N := some 23) HT_ (h := ?_)
              refine puU (i := 10) (N := some 24) HT_ (h := ?_)
              refine puU (i := 11) (N := some 25) HT_ (h := ?_)
              refine puU (i := 12) (N := some 26) HT_ (h := ?_)
              refine puU (i := 13) (N := some 27) HT_ (h := ?_)
              refine puA (i := 14) (N := some 28) HT_ (h := ?_)
              refine done_ (done_of HT_.out (by kernel_rfl)) ?_
              try go_wp2
              have n0_ := aQ (Kd.R_drew HO_3.out)
              have n1_ := aQ (below_drew1 HB.out)
              clear HO_3
              clear HB
              have HO_3 := n0_
              have HB := n1_
              clear n0_ n1_
              refine start_ (n := 15) (S := fun w' => True) (ds := []) #[false, false, false, false, false, false, false, false, false, false, false, false, false, false, false] (by kernel_rfl) rfl rfl trivial (fun hHeld => ?_); refine with_tabW spec_SortSets.tab8 spec_SortSets.bits8 (fun HT_ HW_ => ?_)
              generalize w42.drew = w44 at HO_3 HB hHeld ⊢
              refine puA (i := 0) (N := some 31) HT_ (h := ?_)
              refine puA (i := 1) (N := some 32) HT_ (h := ?_)
              refine puA (i := 2) (N := some 33) HT_ (h := ?_)
              refine puA (i := 3) (N := some 34) HT_ (h := ?_)
              refine puA (i := 4) (N := some 35) HT_ (h := ?_)
              refine puU (i := 5) (N := some 36) HT_ (h := ?_)
              refine puU (i := 6) (N := some 37) HT_ (h := ?_)
              refine puU (i := 7) (N := some 38) HT_ (h := ?_)
              refine puU (i := 8) (N := some 39) HT_ (h := ?_)
              refine puU (i := 9) (N := some 40) HT_ (h := ?_)
              refine puU (i := 10) (N := some 41) HT_ (h := ?_)
              refine puU (i := 11) (N := some 42) HT_ (h := ?_)
              refine puU (i := 12) (N := some 43) HT_ (h := ?_)
              refine puU (i := 13) (N := some 44) HT_ (h := ?_)
              refine puA (i := 14) (N := some 45) HT_ (h := ?_)
              refine done_ (done_of HT_.out (by kernel_rfl)) ?_
              try go_wp2_with (first | ((with_reducible refine gate_dst (N := 46) rfl ?_); refine Kd.R_lit (Kd.int .i64) _ 3 ?hg (N := 46) ?hd (xs := ([] : List Int)) (inner := []) (ok := fun _ => True) (okp := fun _ => True) ?hr ?hp (fun _ hk => hk) trivial (Below.refl _ _) (Nat.le_refl _) (by simp) ?_; (case hd => rfl); (case hg => rfl); (case hr => first | (go_simp; done) | (go_simp; rfl)); (case hp => exact (Reps.none _ _)); intro v93029 w45 ho46 hb hg_ hnew_; clear hg_ hnew_; (first | rw [← Ny93028.out] at ho46 | (simp only [Int.reduceToNat] at ho46; rw [← Ny93028.out] at ho46)); have HO93030 := aQ (Kd.R_lower (Kd.R_new' ho46 (Kd.R_lt (pR HO_3.out))) (below_size (pB HB.out))); replace HO_3 := aQ (Kd.R_elder' (pR HO_3.out) (Kd.R_base ho46) hb); replace HB := aQ (below_step (pB HB.out) hb); clear hb ho46; have q47 : (x5_2 : Int) ≤ ((x3_1.length : Int) : Int) := of_decide_eq_true as_; obtain ⟨i047, hi047, _, hsz47, _⟩ := info_parts info3; have hroom47 : x3_1.length ≤ co43 := (Kd.R_reads' HO_3.out).2.1; have hC47 : Kd.C (Kd.int .i64) _ Ao43 x3_1.length x3_1 := (Kd.R_reads' HO_3.out).2.2; have q047 : (0 : Int) ≤ (x5_2 : Int) := of_decide_eq_true as_; have hcut47 := cut_from (P := Try.prog) 22 3 .i64 Try.underlying22 hi047 1 hsz47 Ao43 x3_1.length co43 x5_2 q047 q47; have hr47 := Kd.C_drop (m := (x5_2 : Int).toNat) (c := co43) hC47 (by omega) hroom47; obtain ⟨A47, hA47⟩ : ∃ A1, A1 = (if co43 = (x5_2 : Int).toNat then Ao43 else (Ao43 : Option Addr).map (·.add ((x5_2 : Int).toNat * 1))) := ⟨_, rfl⟩; obtain ⟨c47, hc47⟩ : ∃ c1, c1 = co43 - (x5_2 : Int).toNat := ⟨_, rfl⟩; have hy47 : y93031.length = x3_1.length - (x5_2 : Int).toNat := (by rw [Ny93031.out, List.length_drop] <;> omega); rw [show (x3_1).drop (x5_2 : Int).toNat = y93031 from Ny93031.out.symm] at hr47; replace hr47 : Kd.C (Kd.int .i64) _ A47 y93031.length y93031 := (by rw [hA47]; exact hr47); rw [← hy47, ← hA47, ← hc47] at hcut47; have HR93034 := aQ hr47; have HC93034 := aQ (show y93031.length ≤ c47 from by rw [hy47, hc47]; exact Nat.sub_le_sub_right hroom47 _); clear hr47 hC47 hroom47 hi047 hsz47 hc47; have KY47 := aQ hy47; have KA47 := aQ hA47; clear hy47 hA47; have KL47 := aQ (show (x5_2 : Int).toNat ≤ x3_1.length from by omega); replace q47 := eq_true q47) | ((with_reducible refine gate_builtin (b := .append) (xs := #[.tmp 46, .tmp 49]) rfl ?_); at_builtin; refine Kd.R_append_rows (Kd.int .i64) (w0 := w) w.heap.size rfl (.tmp 46) (.tmp 49) 22 3 (.int .i64 0) 8 rfl Try.underlying22 info3 rfl (by decide) (by omega) v93029 y93028 y93031 _ _ _ (fun k_ => some k_ ≠ (.slice Ao43 x3_1.length co43 : Value).ownBlock) (fun _ => False) rfl rfl ?aO ?aR (fun _ _ h => h) (fun _ h => h.elim) ?aF ?aB ?aS ?aL ?_; (case aR => repeat (first | exact (by repeat (first | (with_reducible exact HR93034.out) | (with_reducible refine Kd.C_alloc ?_ _) | (with_reducible refine Kd.C_drewN ?_ _) | (with_reducible refine Kd.C_drew ?_) | exact HR93034.out)) | (with_reducible refine Kd.C_alloc ?_ _) | (with_reducible refine Kd.C_drewN ?_ _) | (with_reducible refine Kd.C_drew ?_))); (case aB => exact (pB HB.out)); (case aF => exact (fun k_ hk => Kd.fresh' (Kd.R_lt (pR HO_3.out)) k_ hk)); (case aO => exact (by (with_reducible repeat (first | apply Kd.R_alloc | apply Kd.R_drewN | apply Kd.R_drew)); exact Kd.R_mono HO93030.out (fun _ hk => hk.2))); (case aS => exact (below_size (pB HB.out))); (case aL => have := LMc36.out; omega); intro v93036 w48 ho hb hg hat; rw [← Ny93035.out] at ho; replace HB := aQ (hb); replace HR93034 := aQ ((show Kd.C (Kd.int .i64) w48 A47 y93031.length y93031 from by rw [Ny93031.out, KA47.out]; exact Kd.C_drop (m := (x5_2 : Int).toNat) (c := co43) ((Kd.R_reads' (Kd.R_after (ok := (fun _ => True)) (pR HO_3.out) hg hat)).2.2) KL47.out ((Kd.R_reads' (Kd.R_after (ok := (fun _ => True)) (pR HO_3.out) hg hat)).2.1))); replace HO_3 := aQ (Kd.R_after (ok := (fun _ => True)) (pR HO_3.out) hg hat); have HO93037 := aQ (ho); clear HO93030; clear ho hb hg hat))
              have n0_ := aQ (Kd.R_drew HO_3.out)
              have n1_ := aQ (Kd.R_drew HO93037.out)
              have n2_ := aQ (Kd.C_drew HR93034.out)
              have n3_ := aQ (below_drew1 HB.out)
              clear HO_3
              clear HO93037
              clear HR93034
              clear HB
              have HO_3 := n0_
              have HO93037 := n1_
              have HR93034 := n2_
              have HB := n3_
              clear n0_ n1_ n2_ n3_
              have q50 : (x5_2 : Int) ≤ ((x3_1.length : Int) : Int) := of_decide_eq_true as_
              obtain ⟨i050, hi050, _, hsz50, _⟩ := info_parts info3
              have hcut50 := cut_to (P := Try.prog) 22 3 .i64 Try.underlying22 hi050 Ao43 x3_1.length co43 x5_2 (of_decide_eq_true as_) q50 (Kd.R_reads' HO_3.out).2.1
              have hr50 := Kd.R_take (m := (x5_2 : Int).toNat) HO_3.out (by omega)
              have hy50 : y93038.length = (x5_2 : Int).toNat := (by rw [Ny93038.out, List.length_take]; omega)
              rw [← Ny93038.out] at hr50
              rw [← hy50] at hr50 hcut50
              clear hy50 hi050 hsz50 HO_3
              have HO93040 := aQ hr50
              clear hr50
              replace q50 := eq_true q50
              have p93041 : 0 ≤ (x4_1 : Int) := of_decide_eq_true as_
              have q93041 : x4_1 < (l0.length : Int) := of_decide_eq_true as_
              obtain ⟨ad93041, e93041, hx93041_0⟩ := Kd.at_int HR0.out x4_1 p93041 q93041
              have hw93041_0 := hx93041_0
              cases e93041
              replace hx93041_0 := (HB.out.cell (World.block_lt_of_cell? w _ hx93041_0)).trans hx93041_0
              replace p93041 := eq_true p93041
              replace q93041 := eq_true q93041
              refine start_ (n := 12) (S := fun w' => w'.cell? (ad93041.add (x4_1).toNat) = some (.int .i64 (rd l0 x4_1))) (ds := []) #[false, false, false, false, false, false, false, false, false, false, false, false] (by kernel_rfl) rfl rfl (((HB.out.cell (World.block_lt_of_cell? w _ hw93041_0)).trans hw93041_0)) (fun hHeld => ?_); refine with_tabW spec_SortSets.tab10 spec_SortSets.bits10 (fun HT_ HW_ => ?_)
              generalize w48.drew = w49 at HO_3 HO93037 HR93034 HB HO93040 hx93041_0 hHeld ⊢
              refine puA (i := 0) (N := some 51) HT_ (h := ?_)
              refine puA (i := 1) (N := some 52) HT_ (h := ?_)
              refine puA (i := 2) (N := some 53) HT_ (h := ?_)
              refine puA (i := 3) (N := some 54) HT_ (h := ?_)
              refine puA (i := 4) (N := some 55) HT_ (h := ?_)
              refine puA (i := 5) (N := some 56) HT_ (h := ?_)
              refine puA (i := 9) (N := some 60) HT_ (h := ?_)
              refine taA1 (i := 6) (N := some 57) HT_ HW_ hHeld (h := ?_)
              refine onA (i := 7) (N := some 58) HT_ (h := fun K hK => ?_)
              refine value_ (w1 := ?_) (v := ?_) (by rfl) rfl ?_ ?_
              rotate_left 2
              ·go_simp
               constructor
               ·rfl
               ·rfl
              refine hK.out _ _ ((World.cell?_alloc_lt _ _ _ (World.block_lt_of_cell? _ _ (((HB.out.cell (World.block_lt_of_cell? w _ hw93041_0)).trans hw93041_0)))).trans (((HB.out.cell (World.block_lt_of_cell? w _ hw93041_0)).trans hw93041_0))) (fun hHeld => ?_)
              clear hK K
              refine noA (h := ?_)
              refine onA (i := 8) (N := some 59) HT_ (h := fun K hK => ?_)
              refine Kd.R_append_step (Kd.int .i64) (w0 := w) w.heap.size (by rfl) (.tmp 53) (.tmp 58) 22 3 (.int .i64 0) 8 rfl Try.underlying22 info3 rfl (by decide) (by omega) (.slice Ao43 y93038.length co43) y93038 (rd l0 x4_1) [.int .i64 (rd l0 x4_1)] (fun k_ => some k_ ≠ (v93036 : Value).ownBlock) (fun _ => False) rfl rfl ?aP (fun _ hk => hk.elim) ?aF ?aO ?aB ?aS ?aL ?_
              (case aP => exact rfl)
              (case aB => exact (pB HB.out))
              (case aF => exact (fun k_ hk => Kd.fresh' (Kd.R_lt (pR HO93037.out)) k_ hk))
              (case aO => exact (by (with_reducible repeat (first | apply Kd.R_alloc | apply Kd.R_drewN | apply Kd.R_drew)); exact Kd.R_mono HO93040.out (fun _ hk => hk.2)))
              (case aS => exact (below_size (pB HB.out)))
              (case aL => have := LMc40.out; omega)
              intro v93043 w51 ho hb hg hat
              rw [← Ny93042.out] at ho
              have n0_ := aQ (Kd.R_after (ok := (fun _ => True)) (by (with_reducible repeat (first | apply Kd.R_alloc | apply Kd.R_drewN | apply Kd.R_drew)); exact Kd.R_mono HO93037.out (fun _ hk => ⟨trivial, by first | exact hk | exact fun h_ => hk (h_.trans (ob_len _ _ _ _))⟩)) hg hat)
              have n1_ := aQ (hb)
              have n2_ := aQ (ho)
              clear HO93037
              clear HB
              clear HO93040
              have HO93037 := n0_
              have HB := n1_
              have HO93044 := n2_
              clear n0_ n1_ n2_
              clear ho hb hg hat
              obtain ⟨Ao53, co53, eo53⟩ := Kd.R_slice HO93037.out
              (first | subst eo53 | (injection eo53 with f1_ f2_ f3_; have f4_ := f1_.symm; have f5_ := f3_.symm; clear f1_ f2_ f3_; subst f4_; subst f5_))
              refine hK.out _ _ (((HB.out.cell (World.block_lt_of_cell? w _ hw93041_0)).trans hw93041_0)) (fun hHeld => ?_)
              clear hK K
              refine noA (h := ?_)
              refine onA (i := 10) (N := some 61) HT_ (h := fun K hK => ?_)
              refine Kd.R_append_rows_step (Kd.int .i64) (w0 := w) w.heap.size (by rfl) (.tmp 59) (.tmp 60) 22 3 (.int .i64 0) 8 rfl Try.underlying22 info3 rfl (by decide) (by omega) v93043 y93042 y93035 _ _ _ (fun k_ => some k_ ≠ (.slice Ao53 y93035.length co53 : Value).ownBlock) (fun _ => False) rfl rfl ?aO ?aR (fun _ _ h => h) (fun _ h => h.elim) ?aF ?aB ?aS ?aL ?_
              (case aR => repeat (first | exact (Kd.R_reads' HO93037.out).2.2 | (with_reducible refine Kd.C_alloc ?_ _) | (with_reducible refine Kd.C_drewN ?_ _) | (with_reducible refine Kd.C_drew ?_)))
              (case aB => exact (pB HB.out))
              (case aF => exact (fun k_ hk => Kd.fresh' (Kd.R_lt (pR HO93037.out)) k_ hk))
              (case aO => exact (pR HO93044.out))
              (case aS => exact (below_size (pB HB.out)))
              (case aL => have := LMc41.out; omega)
              intro v93046 w52 ho hb hg hat
              rw [← Ny93045.out] at ho
              have n0_ := aQ (Kd.R_after (ok := (fun _ => True)) (pR HO93037.out) hg hat)
              have n1_ := aQ (hb)
              have n2_ := aQ (ho)
              clear HO93037
              clear HB
              clear HO93044
              have HO93037 := n0_
              have HB := n1_
              have HO93047 := n2_
              clear n0_ n1_ n2_
              clear ho hb hg hat
              refine hK.out _ _ (((HB.out.cell (World.block_lt_of_cell? w _ hw93041_0)).trans hw93041_0)) (fun hHeld => ?_)
              clear hK K
              refine noA (h := ?_)
              refine puA (i := 11) (N := some 3) HT_ (h := ?_)
              refine done_ (done_of HT_.out (by kernel_rfl)) ?_
              try go_wp2
              go_roundg k2
              case measure => have := HK1.out; have := HK2.out; omega
              case rel => exact ⟨(y93045), (wrap64 (x4_1 + 1)), rs_, H', ⟨by have := HK1.out; have := HK2.out; omega⟩, ⟨by (with_reducible repeat (first | apply Kd.R_alloc | apply Kd.R_drewN | apply Kd.R_drew)); exact Kd.R_mono HO93047.out (fun _ hk => trivial)⟩, ⟨pB HB.out⟩⟩
             ·rw [if_neg c41] at H
              exact absurd H (by simp)
            ·rw [if_neg c40] at H
             exact absurd H (by simp)
           ·rw [if_neg c39] at H
            exact absurd H (by simp)
          ·rw [if_neg c38] at H
           exact absurd H (by simp)
         ·rw [if_neg c36] at H
          exact absurd H (by simp)
        ·rw [if_neg c35] at H
         exact absurd H (by simp)
       ·rw [if_neg c34] at H
        exact absurd H (by simp)
   ·rw [if_neg c4] at H
    have c4b0 : decide (x4_1 < (l0.length : Int)) = false := decide_eq_false c4
    clear c4
    obtain rfl := Option.some.inj H
    go_wp2
    go_ret
    exact ⟨_, by first | rfl | (simp [errW_none, errW_some] <;> rfl) | (simp [*, errW_none, errW_some] <;> rfl), by (with_reducible repeat (first | apply Kd.R_alloc | apply Kd.R_drewN | apply Kd.R_drew)); exact HO_3.out, pB HB.out⟩
end Go.Proofs.Ytagncnjllpebjaa.A
namespace Go.Proofs.Ytagncnjllpebjaa.A
open Go.RowKit Go.Proofs.YtagncnjllpebjaaW.PrintWords Go.Proofs.YtagncnjllpebjaaW.PrintLast Go.Proofs.YtagncnjllpebjaaW.PrintMore
attribute [local go_sem] max2_int min2_int max_two min_two max_three min_three max_four min_four
set_option linter.unusedVariables false
set_option linter.unusedSimpArgs false
/-! ### spec_l5Closure: function 91 -/
def spec_l5Closure.l0 : Nat → Int → Int → Int → Int → Int → List Int → Option (Int)
 | 0, _, _, _, _, _, _ => none
 | k + 1, x1, x5, x6, x7, x92002000, x92002001 => if x7 < x92002000 then (if 0 ≤ (IntKind.u64.wrap (x7)) then ((spec_l5Rank.f k x92002000 x92002001 (Go.bits .or .i64 x1 (shl .i64 1 (IntKind.u64.wrap (x7))))).bind fun t92003 => (if t92003 = x6 then (spec_l5Closure.l0 k x1 (Go.bits .or .i64 x5 (shl .i64 1 (IntKind.u64.wrap (x7)))) x6 (wrap64 (x7 + 1)) x92002000 x92002001) else (spec_l5Closure.l0 k x1 x5 x6 (wrap64 (x7 + 1)) x92002000 x92002001))) else (none)) else (some x5)
def spec_l5Closure.f (k : Nat) (a0_0 : Int) (l0_1 : List Int) (a1 : Int) : Option (Int) := (spec_l5Rank.f k a0_0 l0_1 a1).bind fun t92002 => (spec_l5Closure.l0 k a1 a1 t92002 0 a0_0 l0_1)
theorem spec_l5Closure.mono_l : ∀ k, (∀ y0 y1 y2 y3 y4 y5, LeO (spec_l5Closure.l0 k y0 y1 y2 y3 y4 y5) (spec_l5Closure.l0 (k + 1) y0 y1 y2 y3 y4 y5))
 | 0 => fun _ _ _ _ _ _ r h => by simp [spec_l5Closure.l0] at h
 | k + 1 => by
  have ih0 := spec_l5Closure.mono_l k
  ·intro y0 y1 y2 y3 y4 y5
   unfold spec_l5Closure.l0
   repeat' first
   | (with_reducible exact ih0 _ _ _ _ _ _)
   | (with_reducible exact spec_l5Rank.mono _ _ _ _)
   | (with_reducible exact LeO.refl _)
   | (with_reducible exact LeO.none _)
   | (with_reducible refine LeO.ite ?_ ?_)
   | (with_reducible refine LeO.bind ?_ (fun _ => ?_))
   | exact ih0 _ _ _ _ _ _
   | exact spec_l5Rank.mono _ _ _ _
   | exact LeO.none _
   | refine LeO.ite ?_ ?_
   | refine LeO.bind ?_ (fun _ => ?_)
theorem spec_l5Closure.mono : ∀ a0 a1 a2 k, LeO (spec_l5Closure.f k a0 a1 a2) (spec_l5Closure.f (k + 1) a0 a1 a2) := by
 intro a0 a1 a2 k
 have ih0 := spec_l5Closure.mono_l k
 unfold spec_l5Closure.f
 repeat' first
   | (with_reducible exact ih0 _ _ _ _ _ _)
   | (with_reducible exact spec_l5Rank.mono _ _ _ _)
   | (with_reducible exact LeO.refl _)
   | (with_reducible exact LeO.none _)
   | (with_reducible refine LeO.ite ?_ ?_)
   | (with_reducible refine LeO.bind ?_ (fun _ => ?_))
   | exact ih0 _ _ _ _ _ _
   | exact spec_l5Rank.mono _ _ _ _
   | exact LeO.none _
   | refine LeO.ite ?_ ?_
   | refine LeO.bind ?_ (fun _ => ?_)
set_option maxHeartbeats 8000000 in
set_option maxRecDepth 100000 in
theorem spec_l5Closure.calls (k : Nat) (a0_0 : Int) (A0_1 : Option Addr) (c0_1 : Nat) (l0_1 : List Int) (a1 : Int) (r : Int) (w : World) (hr0_1 : Kd.C (Kd.int .i64) w A0_1 l0_1.length l0_1) (hc0_1 : l0_1.length ≤ c0_1) (h : spec_l5Closure.f k a0_0 l0_1 a1 = some r) :
  Calls Try.prog 91 #[.agg #[.int .i64 a0_0, .slice A0_1 l0_1.length c0_1], .int .i64 a1] w fun e w' => e = .returned (.int .i64 r) ∧ Below w.heap.size w w' := by
 have hu26 := Try.underlying26
 have HR0_1 := aQ hr0_1
 have HC0_1 := aQ hc0_1
 clear hr0_1 hc0_1
 have HB := aQ (Below.refl w.heap.size w)
 have H : ((spec_l5Rank.f k a0_0 l0_1 a1).bind fun t92002 => (spec_l5Closure.l0 k a1 a1 t92002 0 a0_0 l0_1)) = some r := h
 clear h
 replace H := Option.bind_eq_some_iff.mp H
 obtain ⟨t92002, A30, H⟩ := H
 replace H : (spec_l5Closure.l0 k a1 a1 t92002 0 a0_0 l0_1) = some r := H
 have A3 := aQ A30
 clear A30
 have H' := aQ H
 clear H
 go_enter Try.func91, Try.ntmps91
 go_wp2_with (first | ((with_reducible refine gate_dst (N := 2) rfl ?_); refine box_event ?hg (N := 2) ?hd (cs := #[.int .i64 a0_0, .slice A0_1 l0_1.length c0_1]) (t := 26) ?hr ?_; (case hd => rfl); (case hg => rfl); (case hr => first | (go_simp; done) | (go_simp; rfl)); intro gb92001 hg w4 hbox hb; have BK92001 := aQ (hbox); have GW92001 := aQ ((by rw [hg]; exact (below_size (pB HB.out)) : w.heap.size ≤ gb92001)); have GE92001 := aQ ((by rw [hg]; exact (below_size (pB HB.out)) : w.heap.size ≤ gb92001)); replace HB := aQ (below_step (pB HB.out) hb); clear hb hbox hg; have hcz5_0 := bc (v := (.int .i64 a0_0)) BK92001.out 0; have hcz5_1 := bc (v := (.slice A0_1 l0_1.length c0_1)) BK92001.out 1; have hfz5_0 := blk_frozen BK92001.out 0; have hfz5_1 := blk_frozen BK92001.out 1) | ((with_reducible refine gate_callee (f := 59) rfl ?_); refine goesL_ (some 11) rfl rfl Try.func59 (by kernel_rfl) rfl #[.agg #[.int .i64 a0_0, .slice A0_1 l0_1.length c0_1], .int .i64 a1] rfl lm ?_; (with_reducible refine (spec_l5Rank.calls k a0_0 _ _ l0_1 a1 t92002 _ ?side1 ?side2 A3.out).mono ?_); (case side1 => exact pC (Kd.C_below HR0_1.out HB.out)); (case side2 => exact HC0_1.out); rintro e w6 ⟨rfl, hb⟩; refine ⟨_, rfl, ?_⟩; replace BK92001 := aQ (blk_below (g := gb92001) (o := .cells #[.int .i64 a0_0, .slice A0_1 l0_1.length c0_1] 26 (0, 0)) (pk BK92001.out) hb); replace HB := aQ (below_step (pB1 HB.out GE92001.out) hb); (try clear hb)))
 go_loopg [5, 7] k (fun kq v5 v7 w' => ∃ (x5_1 : Int) (x7_1 : Int), v5 = .int .i64 x5_1 ∧ v7 = .int .i64 x7_1 ∧ Aside0 (spec_l5Closure.l0 kq a1 x5_1 t92002 x7_1 a0_0 l0_1 = some r) ∧ Aside0 (kq ≤ k) ∧ Aside0 (w'.heap[gb92001]? = some (.cells #[.int .i64 a0_0, (.slice A0_1 l0_1.length c0_1)] 26 (0, 0))) ∧ Aside0 (Below w.heap.size w w'))
 case atStart => exact ⟨(a1), (0), rs_, rs_, H', ⟨Nat.le_refl _⟩, ⟨pk BK92001.out⟩, ⟨pB1 HB.out GE92001.out⟩⟩
 case round =>
  clear H'
  try clear p2
  try clear c5
  try clear hcz5_0
  try clear hcz5_1
  try clear hfz5_0
  try clear hfz5_1
  obtain ⟨x5_1, x7_1, rfl, rfl, HA, HK1, BK92001, HB⟩ := hrel
  cases gk with
  | zero => exact absurd HA.out (by simp [spec_l5Closure.l0])
  | succ k1 =>
   have H := HA.out
   clear HA
   simp only [spec_l5Closure.l0] at H
   by_cases c7 : x7_1 < a0_0
   ·rw [if_pos c7] at H
    have c7b0 : decide (x7_1 < a0_0) = true := decide_eq_true c7
    clear c7
    obtain ⟨ji8, hji8⟩ : ∃ j_ : Int, (IntKind.u64.wrap (x7_1)) = j_ := ⟨_, rfl⟩
    replace H : (if 0 ≤ (ji8) then ((spec_l5Rank.f k1 a0_0 l0_1 (Go.bits .or .i64 a1 (shl .i64 1 (ji8)))).bind fun t92003 => (if t92003 = t92002 then (spec_l5Closure.l0 k1 a1 (Go.bits .or .i64 x5_1 (shl .i64 1 (ji8))) t92002 (wrap64 (x7_1 + 1)) a0_0 l0_1) else (spec_l5Closure.l0 k1 a1 x5_1 t92002 (wrap64 (x7_1 + 1)) a0_0 l0_1))) else (none)) = some r := by first | (rw [hji8] at H; exact H) | (simp only [hji8] at H ⊢; exact H)
    by_cases c9 : 0 ≤ (ji8)
    ·rw [if_pos c9] at H
     have c9b0 := eq_true c9
     have c9b1 : decide (0 ≤ (ji8)) = true := decide_eq_true c9
     clear c9
     obtain ⟨ji10, hji10⟩ : ∃ j_ : Int, (shl .i64 1 (ji8)) = j_ := ⟨_, rfl⟩
     replace H : ((spec_l5Rank.f k1 a0_0 l0_1 (Go.bits .or .i64 a1 (ji10))).bind fun t92003 => (if t92003 = t92002 then (spec_l5Closure.l0 k1 a1 (Go.bits .or .i64 x5_1 (ji10)) t92002 (wrap64 (x7_1 + 1)) a0_0 l0_1) else (spec_l5Closure.l0 k1 a1 x5_1 t92002 (wrap64 (x7_1 + 1)) a0_0 l0_1))) = some r := by first | (rw [hji10] at H; exact H) | (simp only [hji10] at H ⊢; exact H)
     have hji10_ : (IntKind.i64.wrap (1 * 2 ^ min (ji8).toNat 64)) = ji10 := hji10
     have hji10z : (ji8) ≤ 64 → (IntKind.i64.wrap (1 * 2 ^ (ji8).toNat)) = ji10 := shl_small hji10
     have hji10u : (IntKind.i64.wrap (2 ^ min (ji8).toNat 64)) = ji10 := by have h_ := hji10_; rw [Int.one_mul] at h_; exact h_
     have hji10v : (ji8) ≤ 64 → (IntKind.i64.wrap (2 ^ (ji8).toNat)) = ji10 := fun hle_ => by have h_ := hji10z hle_; rw [Int.one_mul] at h_; exact h_
     have hji10y : (wrap64 (1 * 2 ^ min (ji8).toNat 64)) = ji10 := (i64_w _).symm.trans hji10_
     have hji10x : (ji8) ≤ 64 → (wrap64 (1 * 2 ^ (ji8).toNat)) = ji10 := fun h_ => (i64_w _).symm.trans (hji10z h_)
     replace H := Option.bind_eq_some_iff.mp H
     obtain ⟨t92003, A110, H⟩ := H
     replace H : (if t92003 = t92002 then (spec_l5Closure.l0 k1 a1 (Go.bits .or .i64 x5_1 (ji10)) t92002 (wrap64 (x7_1 + 1)) a0_0 l0_1) else (spec_l5Closure.l0 k1 a1 x5_1 t92002 (wrap64 (x7_1 + 1)) a0_0 l0_1)) = some r := H
     have A11 := aQ A110
     clear A110
     by_cases c12 : t92003 = t92002
     ·rw [if_pos c12] at H
      have c12b0 : (t92003 == t92002) = true := beq_iff_eq.mpr c12
      have c12b1 : (t92003 != t92002) = false := bne_eq_false_iff_eq.mpr c12
      clear c12
      have c13b0 := eq_true (of_decide_eq_true as_ : 0 ≤ (ji8))
      have H' := aQ H
      clear H
      have hcz15_0 := bc (v := (.int .i64 a0_0)) BK92001.out 0
      have hcz15_1 := bc (v := (.slice A0_1 l0_1.length c0_1)) BK92001.out 1
      have hfz15_0 := blk_frozen BK92001.out 0
      have hfz15_1 := blk_frozen BK92001.out 1
      go_wp2_with (first | ((with_reducible refine gate_callee (f := 59) rfl ?_); refine goesL_ (some 24) rfl rfl Try.func59 (by kernel_rfl) rfl #[.agg #[.int .i64 a0_0, .slice A0_1 l0_1.length c0_1], .int .i64 (Go.bits .or .i64 a1 (ji10))] rfl (by (try simp only [List.map_toArray, List.map_cons, List.map_nil]); first | done | (simp only [hji10]; rfl) | rfl | (simp only [List.length_drop, List.length_take]; rfl)) ?_; (with_reducible refine (spec_l5Rank.calls k1 a0_0 _ _ l0_1 (Go.bits .or .i64 a1 (ji10)) t92003 _ ?side1 ?side2 A11.out).mono ?_); (case side1 => exact pC (Kd.C_below HR0_1.out HB.out)); (case side2 => exact HC0_1.out); rintro e w16 ⟨rfl, hb⟩; refine ⟨_, rfl, ?_⟩; replace BK92001 := aQ (blk_below (g := gb92001) (o := .cells #[.int .i64 a0_0, .slice A0_1 l0_1.length c0_1] 26 (0, 0)) (pk BK92001.out) hb); replace HB := aQ (below_step (pB1 HB.out GE92001.out) hb); (try clear hb)))
      go_roundg k1
      case measure => have := HK1.out; omega
      case rel => exact ⟨(Go.bits .or .i64 x5_1 (ji10)), (wrap64 (x7_1 + 1)), (by first | rfl | (simp; done) | (simp only [← hji10] <;> (first | rfl | simp)) | (simp [*]; done)), rs_, H', ⟨by have := HK1.out; omega⟩, ⟨pk BK92001.out⟩, ⟨pB1 HB.out GE92001.out⟩⟩
     ·rw [if_neg c12] at H
      have c12b0 : (t92003 == t92002) = false := beq_eq_false_iff_ne.mpr c12
      have c12b1 : (t92003 != t92002) = true := bne_iff_ne.mpr c12
      have H' := aQ H
      clear H
      have hcz17_0 := bc (v := (.int .i64 a0_0)) BK92001.out 0
      have hcz17_1 := bc (v := (.slice A0_1 l0_1.length c0_1)) BK92001.out 1
      have hfz17_0 := blk_frozen BK92001.out 0
      have hfz17_1 := blk_frozen BK92001.out 1
      go_wp2_with (first | ((with_reducible refine gate_callee (f := 59) rfl ?_); refine goesL_ (some 24) rfl rfl Try.func59 (by kernel_rfl) rfl #[.agg #[.int .i64 a0_0, .slice A0_1 l0_1.length c0_1], .int .i64 (Go.bits .or .i64 a1 (ji10))] rfl (by (try simp only [List.map_toArray, List.map_cons, List.map_nil]); first | done | (simp only [hji10]; rfl) | rfl | (simp only [List.length_drop, List.length_take]; rfl)) ?_; (with_reducible refine (spec_l5Rank.calls k1 a0_0 _ _ l0_1 (Go.bits .or .i64 a1 (ji10)) t92003 _ ?side1 ?side2 A11.out).mono ?_); (case side1 => exact pC (Kd.C_below HR0_1.out HB.out)); (case side2 => exact HC0_1.out); rintro e w18 ⟨rfl, hb⟩; refine ⟨_, rfl, ?_⟩; replace BK92001 := aQ (blk_below (g := gb92001) (o := .cells #[.int .i64 a0_0, .slice A0_1 l0_1.length c0_1] 26 (0, 0)) (pk BK92001.out) hb); replace HB := aQ (below_step (pB1 HB.out GE92001.out) hb); (try clear hb)))
      go_roundg k1
      case measure => have := HK1.out; omega
      case rel => exact ⟨(x5_1), (wrap64 (x7_1 + 1)), rs_, rs_, H', ⟨by have := HK1.out; omega⟩, ⟨pk BK92001.out⟩, ⟨pB1 HB.out GE92001.out⟩⟩
    ·rw [if_neg c9] at H
     exact absurd H (by simp)
   ·rw [if_neg c7] at H
    have c7b0 : decide (x7_1 < a0_0) = false := decide_eq_false c7
    clear c7
    obtain rfl := Option.some.inj H
    have hcz19_0 := bc (v := (.int .i64 a0_0)) BK92001.out 0
    have hcz19_1 := bc (v := (.slice A0_1 l0_1.length c0_1)) BK92001.out 1
    have hfz19_0 := blk_frozen BK92001.out 0
    have hfz19_1 := blk_frozen BK92001.out 1
    go_wp2
    go_ret
    exact ⟨re_, pB1 HB.out GE92001.out⟩
end Go.Proofs.Ytagncnjllpebjaa.A
