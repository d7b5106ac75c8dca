/- Machine side of the law FnExactExtend: Go functions as Lean functions, and proofs that calls come to what these tell. Conditions: those in each theorem. -/
import Derived.Test.YtagncnjllpebjaaMFnExactExtend0
import Derived.Test.YtagncnjllpebjaaMFnExactExtend2
import Derived.Test.YtagncnjllpebjaaMFnExactExtend3
import Derived.Test.YtagncnjllpebjaaMFnExactExtend6
namespace Go.Proofs.Ytagncnjllpebjaa.A
open Go.RowKit Go.Proofs.YtagncnjllpebjaaW.PrintWords Go.Proofs.YtagncnjllpebjaaW.PrintLast Go.Proofs.YtagncnjllpebjaaW.PrintMore
attribute [local go_sem] max2_int min2_int max_two min_two max_three min_three max_four min_four
set_option linter.unusedVariables false
set_option linter.unusedSimpArgs false
/-! ### impl_IsModularCut: function 93 -/
mutual
def impl_IsModularCut.j0 : Nat → List Int → Bool → Int → List Int → Option (Bool)
 | 0, _, _, _, _ => none
 | k + 1, x1, x22, x94002000, x94002001 => if x22 = true then (some false) else ((impl_flatsIn.f k x94002000 x94002001).bind fun t94004 => (impl_IsModularCut.l0 k x1 t94004 x1 (x1.length : Int) 0 x94002000 x94002001))
def impl_IsModularCut.l0 : Nat → List Int → List Int → List Int → Int → Int → Int → List Int → Option (Bool)
 | 0, _, _, _, _, _, _, _ => none
 | k + 1, x1, x5, x25, x26, x27, x94002000, x94002001 => if x27 < x26 then (if 0 ≤ x27 then (if x27 < (x25.length : Int) then ((impl_HasSet.f k x5 (rd x25 x27)).bind fun t94008 => (if t94008 = true then (impl_IsModularCut.l1 k x1 x5 (rd x25 x27) x25 x26 x27 x5 (x5.length : Int) 0 x94002000 x94002001) else (some false))) else (none)) else (none)) else (some true)
def impl_IsModularCut.l1 : Nat → List Int → List Int → Int → List Int → Int → Int → List Int → Int → Int → Int → List Int → Option (Bool)
 | 0, _, _, _, _, _, _, _, _, _, _, _ => none
 | k + 1, x1, x5, x7, x25, x26, x27, x35, x36, x37, x94002000, x94002001 => if x37 < x36 then (if 0 ≤ x37 then (if x37 < (x35.length : Int) then ((impl_IsSubset.f x7 (rd x35 x37)).bind fun t94010 => (if t94010 = true then ((impl_HasSet.f k x1 (rd x35 x37)).bind fun t94011 => (if t94011 = true then (impl_IsModularCut.l1 k x1 x5 x7 x25 x26 x27 x35 x36 (wrap64 (x37 + 1)) x94002000 x94002001) else (some false))) else (impl_IsModularCut.l1 k x1 x5 x7 x25 x26 x27 x35 x36 (wrap64 (x37 + 1)) x94002000 x94002001))) else (none)) else (none)) else (impl_IsModularCut.l2 k x1 x5 x7 x25 x26 x27 x1 (x1.length : Int) 0 x94002000 x94002001)
def impl_IsModularCut.l2 : Nat → List Int → List Int → Int → List Int → Int → Int → List Int → Int → Int → Int → List Int → Option (Bool)
 | 0, _, _, _, _, _, _, _, _, _, _, _ => none
 | k + 1, x1, x5, x7, x25, x26, x27, x51, x52, x53, x94002000, x94002001 => if x53 < x52 then (if 0 ≤ x53 then (if x53 < (x51.length : Int) then ((impl_rankIn.f k x94002000 x94002001 x7).bind fun t94013 => ((impl_rankIn.f k x94002000 x94002001 (rd x51 x53)).bind fun t94014 => ((impl_rankIn.f k x94002000 x94002001 (Go.bits .and .i64 x7 (rd x51 x53))).bind fun t94015 => ((impl_rankIn.f k x94002000 x94002001 (Go.bits .or .i64 x7 (rd x51 x53))).bind fun t94016 => (if (wrap64 (t94013 + t94014)) = (wrap64 (t94015 + t94016)) then ((impl_HasSet.f k x1 (Go.bits .and .i64 x7 (rd x51 x53))).bind fun t94017 => (if t94017 = true then (impl_IsModularCut.l2 k x1 x5 x7 x25 x26 x27 x51 x52 (wrap64 (x53 + 1)) x94002000 x94002001) else (some false))) else (impl_IsModularCut.l2 k x1 x5 x7 x25 x26 x27 x51 x52 (wrap64 (x53 + 1)) x94002000 x94002001)))))) else (none)) else (none)) else (impl_IsModularCut.l0 k x1 x5 x25 x26 (wrap64 (x27 + 1)) x94002000 x94002001)
end
def impl_IsModularCut.f (k : Nat) (a0_0 : Int) (l0_1 : List Int) (l1 : List Int) : Option (Bool) := (impl_IsMatroid.f k a0_0 l0_1).bind fun t94002 => (if t94002 = true then ((impl_IsFamily.f k a0_0 l1).bind fun t94003 => (impl_IsModularCut.j0 k l1 (!t94003) a0_0 l0_1)) else (impl_IsModularCut.j0 k l1 true a0_0 l0_1))
theorem impl_IsModularCut.mono_l : ∀ k, (∀ y0 y1 y2 y3, LeO (impl_IsModularCut.j0 k y0 y1 y2 y3) (impl_IsModularCut.j0 (k + 1) y0 y1 y2 y3)) ∧ (∀ y0 y1 y2 y3 y4 y5 y6, LeO (impl_IsModularCut.l0 k y0 y1 y2 y3 y4 y5 y6) (impl_IsModularCut.l0 (k + 1) y0 y1 y2 y3 y4 y5 y6)) ∧ (∀ y0 y1 y2 y3 y4 y5 y6 y7 y8 y9 y10, LeO (impl_IsModularCut.l1 k y0 y1 y2 y3 y4 y5 y6 y7 y8 y9 y10) (impl_IsModularCut.l1 (k + 1) y0 y1 y2 y3 y4 y5 y6 y7 y8 y9 y10)) ∧ (∀ y0 y1 y2 y3 y4 y5 y6 y7 y8 y9 y10, LeO (impl_IsModularCut.l2 k y0 y1 y2 y3 y4 y5 y6 y7 y8 y9 y10) (impl_IsModularCut.l2 (k + 1) y0 y1 y2 y3 y4 y5 y6 y7 y8 y9 y10))
 | 0 => ⟨fun _ _ _ _ r h => by simp [impl_IsModularCut.j0] at h, fun _ _ _ _ _ _ _ r h => by simp [impl_IsModularCut.l0] at h, fun _ _ _ _ _ _ _ _ _ _ _ r h => by simp [impl_IsModularCut.l1] at h, fun _ _ _ _ _ _ _ _ _ _ _ r h => by simp [impl_IsModularCut.l2] at h⟩
 | k + 1 => by
  obtain ⟨ih0, ih1, ih2, ih3⟩ := impl_IsModularCut.mono_l k
  refine ⟨?_, ?_, ?_, ?_⟩
  ·intro y0 y1 y2 y3
   unfold impl_IsModularCut.j0
   repeat' first
   | (with_reducible exact ih0 _ _ _ _)
   | (with_reducible exact ih1 _ _ _ _ _ _ _)
   | (with_reducible exact ih2 _ _ _ _ _ _ _ _ _ _ _)
   | (with_reducible exact ih3 _ _ _ _ _ _ _ _ _ _ _)
   | (with_reducible exact impl_HasSet.mono _ _ _)
   | (with_reducible exact impl_IsFamily.mono _ _ _)
   | (with_reducible exact impl_IsMatroid.mono _ _ _)
   | (with_reducible exact impl_flatsIn.mono _ _ _)
   | (with_reducible exact impl_rankIn.mono _ _ _ _)
   | (with_reducible exact LeO.refl _)
   | (with_reducible exact LeO.none _)
   | (with_reducible refine LeO.ite ?_ ?_)
   | (with_reducible refine LeO.bind ?_ (fun _ => ?_))
   | exact ih0 _ _ _ _
   | exact ih1 _ _ _ _ _ _ _
   | exact ih2 _ _ _ _ _ _ _ _ _ _ _
   | exact ih3 _ _ _ _ _ _ _ _ _ _ _
   | exact impl_HasSet.mono _ _ _
   | exact impl_IsFamily.mono _ _ _
   | exact impl_IsMatroid.mono _ _ _
   | exact impl_flatsIn.mono _ _ _
   | exact impl_rankIn.mono _ _ _ _
   | exact LeO.none _
   | refine LeO.ite ?_ ?_
   | refine LeO.bind ?_ (fun _ => ?_)
  ·intro y0 y1 y2 y3 y4 y5 y6
   unfold impl_IsModularCut.l0
   repeat' first
   | (with_reducible exact ih0 _ _ _ _)
   | (with_reducible exact ih1 _ _ _ _ _ _ _)
   | (with_reducible exact ih2 _ _ _ _ _ _ _ _ _ _ _)
   | (with_reducible exact ih3 _ _ _ _ _ _ _ _ _ _ _)
   | (with_reducible exact impl_HasSet.mono _ _ _)
   | (with_reducible exact impl_IsFamily.mono _ _ _)
   | (with_reducible exact impl_IsMatroid.mono _ _ _)
   | (with_reducible exact impl_flatsIn.mono _ _ _)
   | (with_reducible exact impl_rankIn.mono _ _ _ _)
   | (with_reducible exact LeO.refl _)
   | (with_reducible exact LeO.none _)
   | (with_reducible refine LeO.ite ?_ ?_)
   | (with_reducible refine LeO.bind ?_ (fun _ => ?_))
   | exact ih0 _ _ _ _
   | exact ih1 _ _ _ _ _ _ _
   | exact ih2 _ _ _ _ _ _ _ _ _ _ _
   | exact ih3 _ _ _ _ _ _ _ _ _ _ _
   | exact impl_HasSet.mono _ _ _
   | exact impl_IsFamily.mono _ _ _
   | exact impl_IsMatroid.mono _ _ _
   | exact impl_flatsIn.mono _ _ _
   | exact impl_rankIn.mono _ _ _ _
   | exact LeO.none _
   | refine LeO.ite ?_ ?_
   | refine LeO.bind ?_ (fun _ => ?_)
  ·intro y0 y1 y2 y3 y4 y5 y6 y7 y8 y9 y10
   unfold impl_IsModularCut.l1
   repeat' first
   | (with_reducible exact ih0 _ _ _ _)
   | (with_reducible exact ih1 _ _ _ _ _ _ _)
   | (with_reducible exact ih2 _ _ _ _ _ _ _ _ _ _ _)
   | (with_reducible exact ih3 _ _ _ _ _ _ _ _ _ _ _)
   | (with_reducible exact impl_HasSet.mono _ _ _)
   | (with_reducible exact impl_IsFamily.mono _ _ _)
   | (with_reducible exact impl_IsMatroid.mono _ _ _)
   | (with_reducible exact impl_flatsIn.mono _ _ _)
   | (with_reducible exact impl_rankIn.mono _ _ _ _)
   | (with_reducible exact LeO.refl _)
   | (with_reducible exact LeO.none _)
   | (with_reducible refine LeO.ite ?_ ?_)
   | (with_reducible refine LeO.bind ?_ (fun _ => ?_))
   | exact ih0 _ _ _ _
   | exact ih1 _ _ _ _ _ _ _
   | exact ih2 _ _ _ _ _ _ _ _ _ _ _
   | exact ih3 _ _ _ _ _ _ _ _ _ _ _
   | exact impl_HasSet.mono _ _ _
   | exact impl_IsFamily.mono _ _ _
   | exact impl_IsMatroid.mono _ _ _
   | exact impl_flatsIn.mono _ _ _
   | exact impl_rankIn.mono _ _ _ _
   | exact LeO.none _
   | refine LeO.ite ?_ ?_
   | refine LeO.bind ?_ (fun _ => ?_)
  ·intro y0 y1 y2 y3 y4 y5 y6 y7 y8 y9 y10
   unfold impl_IsModularCut.l2
   repeat' first
   | (with_reducible exact ih0 _ _ _ _)
   | (with_reducible exact ih1 _ _ _ _ _ _ _)
   | (with_reducible exact ih2 _ _ _ _ _ _ _ _ _ _ _)
   | (with_reducible exact ih3 _ _ _ _ _ _ _ _ _ _ _)
   | (with_reducible exact impl_HasSet.mono _ _ _)
   | (with_reducible exact impl_IsFamily.mono _ _ _)
   | (with_reducible exact impl_IsMatroid.mono _ _ _)
   | (with_reducible exact impl_flatsIn.mono _ _ _)
   | (with_reducible exact impl_rankIn.mono _ _ _ _)
   | (with_reducible exact LeO.refl _)
   | (with_reducible exact LeO.none _)
   | (with_reducible refine LeO.ite ?_ ?_)
   | (with_reducible refine LeO.bind ?_ (fun _ => ?_))
   | exact ih0 _ _ _ _
   | exact ih1 _ _ _ _ _ _ _
   | exact ih2 _ _ _ _ _ _ _ _ _ _ _
   | exact ih3 _ _ _ _ _ _ _ _ _ _ _
   | exact impl_HasSet.mono _ _ _
   | exact impl_IsFamily.mono _ _ _
   | exact impl_IsMatroid.mono _ _ _
   | exact impl_flatsIn.mono _ _ _
   | exact impl_rankIn.mono _ _ _ _
   | exact LeO.none _
   | refine LeO.ite ?_ ?_
   | refine LeO.bind ?_ (fun _ => ?_)
theorem impl_IsModularCut.mono : ∀ a0 a1 a2 k, LeO (impl_IsModularCut.f k a0 a1 a2) (impl_IsModularCut.f (k + 1) a0 a1 a2) := by
 intro a0 a1 a2 k
 obtain ⟨ih0, ih1, ih2, ih3⟩ := impl_IsModularCut.mono_l k
 unfold impl_IsModularCut.f
 repeat' first
   | (with_reducible exact ih0 _ _ _ _)
   | (with_reducible exact ih1 _ _ _ _ _ _ _)
   | (with_reducible exact ih2 _ _ _ _ _ _ _ _ _ _ _)
   | (with_reducible exact ih3 _ _ _ _ _ _ _ _ _ _ _)
   | (with_reducible exact impl_HasSet.mono _ _ _)
   | (with_reducible exact impl_IsFamily.mono _ _ _)
   | (with_reducible exact impl_IsMatroid.mono _ _ _)
   | (with_reducible exact impl_flatsIn.mono _ _ _)
   | (with_reducible exact impl_rankIn.mono _ _ _ _)
   | (with_reducible exact LeO.refl _)
   | (with_reducible exact LeO.none _)
   | (with_reducible refine LeO.ite ?_ ?_)
   | (with_reducible refine LeO.bind ?_ (fun _ => ?_))
   | exact ih0 _ _ _ _
   | exact ih1 _ _ _ _ _ _ _
   | exact ih2 _ _ _ _ _ _ _ _ _ _ _
   | exact ih3 _ _ _ _ _ _ _ _ _ _ _
   | exact impl_HasSet.mono _ _ _
   | exact impl_IsFamily.mono _ _ _
   | exact impl_IsMatroid.mono _ _ _
   | exact impl_flatsIn.mono _ _ _
   | exact impl_rankIn.mono _ _ _ _
   | exact LeO.none _
   | refine LeO.ite ?_ ?_
   | refine LeO.bind ?_ (fun _ => ?_)
def impl_IsModularCut.T18 : Bool × List (List Nat × List Nat) := (true, [([], []), ([], []), ([0, 1], [0, 1]), ([], []), ([], []), ([3, 4, 2], [3, 4]), ([2, 5], [2, 5]), ([], []), ([], []), ([], []), ([8, 9], [8, 9]), ([7, 10, 5], [7, 10]), ([], []), ([], []), ([], []), ([13, 14], [13, 14]), ([12, 15, 11], [12, 15]), ([11, 16], [11, 16]), ([6, 17], [6, 17]), ([18, 16, 0, 1, 2, 3, 4, 5, 6, 7, 8, 9, 10, 11, 12, 13, 14, 15, 16, 17, 18], [18])])
def impl_IsModularCut.B18 : List Nat := [0, 0, 3, 0, 0, 31, 63, 0, 0, 0, 768, 1983, 0, 0, 0, 24576, 65471, 131007, 262143, 524287]
theorem impl_IsModularCut.tab18 : rtab .any (opsOf Try.f93 18) = impl_IsModularCut.T18 := by kernel_rfl
theorem impl_IsModularCut.bits18 : waitsOk impl_IsModularCut.T18.2 impl_IsModularCut.B18 = true := by kernel_rfl
set_option maxHeartbeats 8000000 in
set_option maxRecDepth 100000 in
theorem impl_IsModularCut.calls (k : Nat) (a0_0 : Int) (A0_1 : Option Addr) (c0_1 : Nat) (l0_1 : List Int) (A1 : Option Addr) (c1 : Nat) (l1 : List Int) (r : Bool) (w : World) (hr0_1 : Kd.C (Kd.int .i64) w A0_1 l0_1.length l0_1) (hc0_1 : l0_1.length ≤ c0_1) (hr1 : Kd.C (Kd.int .i64) w A1 l1.length l1) (hc1 : l1.length ≤ c1) (h : impl_IsModularCut.f k a0_0 l0_1 l1 = some r) :
  Calls Try.prog 93 #[.agg #[.int .i64 a0_0, .slice A0_1 l0_1.length c0_1], .slice A1 l1.length c1] w fun e w' => e = .returned (.bool r) ∧ Below w.heap.size w w' := by
 have hu26 := Try.underlying26
 have HR0_1 := aQ hr0_1
 have HC0_1 := aQ hc0_1
 clear hr0_1 hc0_1
 have HR1 := aQ hr1
 have HC1 := aQ hc1
 clear hr1 hc1
 have HB := aQ (Below.refl w.heap.size w)
 have H : ((impl_IsMatroid.f k a0_0 l0_1).bind fun t94002 => (if t94002 = true then ((impl_IsFamily.f k a0_0 l1).bind fun t94003 => (impl_IsModularCut.j0 k l1 (!t94003) a0_0 l0_1)) else (impl_IsModularCut.j0 k l1 true a0_0 l0_1))) = some r := h
 clear h
 have HC3 := aQ H
 clear H
 go_enter Try.func93, Try.ntmps93
 go_upto_region 1 with (first | ((with_reducible refine gate_dst (N := 2) rfl ?_); refine box_event ?hg (N := 2) ?hd (cs := #[.int .i64 a0_0, .slice A0_1 l0_1.length c0_1]) (t := 26) ?hr ?_; (case hd => rfl); (case hg => rfl); (case hr => first | (go_simp; done) | (go_simp; rfl)); intro gb94001 hg w4 hbox hb; have BK94001 := aQ (hbox); have GW94001 := aQ ((by rw [hg]; exact (below_size (pB HB.out)) : w.heap.size ≤ gb94001)); have GE94001 := aQ ((by rw [hg]; exact (below_size (pB HB.out)) : w.heap.size ≤ gb94001)); replace HB := aQ (below_step (pB HB.out) hb); clear hb hbox hg))
 (try simp only [Act.put, List.setIfInBounds_toArray, List.set_cons_zero, List.set_cons_succ])
 go_cut [22] (fun v22 wc => ∃ (kq : Nat) (x22_2 : Bool), v22 = .bool x22_2 ∧ Aside0 (impl_IsModularCut.j0 kq l1 x22_2 a0_0 l0_1 = some r) ∧ Aside0 (kq ≤ k) ∧ Aside0 (wc.heap[gb94001]? = some (.cells #[.int .i64 a0_0, (.slice A0_1 l0_1.length c0_1)] 26 (0, 0))) ∧ Aside0 (Below w.heap.size w wc))
 case first =>
  have H := HC3.out
  clear HC3
  replace H := Option.bind_eq_some_iff.mp H
  obtain ⟨t94002, A50, H⟩ := H
  replace H : (if t94002 = true then ((impl_IsFamily.f k a0_0 l1).bind fun t94003 => (impl_IsModularCut.j0 k l1 (!t94003) a0_0 l0_1)) else (impl_IsModularCut.j0 k l1 true a0_0 l0_1)) = some r := H
  have A5 := aQ A50
  clear A50
  by_cases c6 : t94002 = true
  ·subst c6
   have H1 : ((impl_IsFamily.f k a0_0 l1).bind fun t94003 => (impl_IsModularCut.j0 k l1 (!t94003) a0_0 l0_1)) = some r := by rw [if_pos rfl] at H; exact H
   clear H
   have H := H1
   clear H1
   replace H := Option.bind_eq_some_iff.mp H
   obtain ⟨t94003, A70, H⟩ := H
   replace H : (impl_IsModularCut.j0 k l1 (!t94003) a0_0 l0_1) = some r := H
   have A7 := aQ A70
   clear A70
   have H' := aQ H
   clear H
   have hcz8_0 := bc (v := (.int .i64 a0_0)) BK94001.out 0
   have hcz8_1 := bc (v := (.slice A0_1 l0_1.length c0_1)) BK94001.out 1
   have hfz8_0 := blk_frozen BK94001.out 0
   have hfz8_1 := blk_frozen BK94001.out 1
   go_wp2_with (first | ((with_reducible refine gate_callee (f := 60) rfl ?_); refine goesL_ (some 14) rfl rfl Try.func60 (by kernel_rfl) rfl #[.agg #[.int .i64 a0_0, .slice A0_1 l0_1.length c0_1]] rfl lm ?_; (with_reducible refine (impl_IsMatroid.calls k a0_0 _ _ l0_1 true _ ?side1 ?side2 A5.out).mono ?_); (case side1 => exact pC (Kd.C_below HR0_1.out HB.out)); (case side2 => exact HC0_1.out); rintro e w9 ⟨rfl, hb⟩; refine ⟨_, rfl, ?_⟩; replace BK94001 := aQ (blk_below (g := gb94001) (o := .cells #[.int .i64 a0_0, .slice A0_1 l0_1.length c0_1] 26 (0, 0)) (pk BK94001.out) hb); replace HB := aQ (below_step (pB1 HB.out GE94001.out) hb); (try clear hb); have hcz10_0 := bc (v := (.int .i64 a0_0)) BK94001.out 0; have hcz10_1 := bc (v := (.slice A0_1 l0_1.length c0_1)) BK94001.out 1; have hfz10_0 := blk_frozen BK94001.out 0; have hfz10_1 := blk_frozen BK94001.out 1) | (go_at_call 132; (with_reducible refine (impl_IsFamily.calls k a0_0 _ _ l1 t94003 _ ?side1 ?side2 A7.out).mono ?_); (case side1 => exact pC (Kd.C_below HR1.out HB.out)); (case side2 => exact HC1.out); rintro e w' ⟨rfl, ⟨nd, rfl⟩⟩))
   go_meet
   case rel => exact ⟨_, (!t94003), rs_, H', ⟨by first | omega | exact Nat.le_refl _⟩, ⟨pk BK94001.out⟩, ⟨pB1 HB.out GE94001.out⟩⟩
  ·replace c6 := Bool.eq_false_iff.mpr c6
   subst c6
   have H1 : (impl_IsModularCut.j0 k l1 true a0_0 l0_1) = some r := by rw [if_neg (show ¬ (false = true) by decide)] at H; exact H
   clear H
   have H := H1
   clear H1
   have H' := aQ H
   clear H
   have hcz11_0 := bc (v := (.int .i64 a0_0)) BK94001.out 0
   have hcz11_1 := bc (v := (.slice A0_1 l0_1.length c0_1)) BK94001.out 1
   have hfz11_0 := blk_frozen BK94001.out 0
   have hfz11_1 := blk_frozen BK94001.out 1
   go_wp2_with (first | ((with_reducible refine gate_callee (f := 60) rfl ?_); refine goesL_ (some 14) rfl rfl Try.func60 (by kernel_rfl) rfl #[.agg #[.int .i64 a0_0, .slice A0_1 l0_1.length c0_1]] rfl lm ?_; (with_reducible refine (impl_IsMatroid.calls k a0_0 _ _ l0_1 false _ ?side1 ?side2 A5.out).mono ?_); (case side1 => exact pC (Kd.C_below HR0_1.out HB.out)); (case side2 => exact HC0_1.out); rintro e w12 ⟨rfl, hb⟩; refine ⟨_, rfl, ?_⟩; replace BK94001 := aQ (blk_below (g := gb94001) (o := .cells #[.int .i64 a0_0, .slice A0_1 l0_1.length c0_1] 26 (0, 0)) (pk BK94001.out) hb); replace HB := aQ (below_step (pB1 HB.out GE94001.out) hb); (try clear hb)))
   go_meet
   case rel => exact ⟨_, (true), rs_, H', ⟨by first | omega | exact Nat.le_refl _⟩, ⟨pk BK94001.out⟩, ⟨pB1 HB.out GE94001.out⟩⟩
 case rest =>
  clear HC3
  try clear c1
  try clear p2
  try clear c6
  try clear c9
  try clear hcz10_0
  try clear hcz10_1
  try clear hcz11_0
  try clear hcz11_1
  try clear hcz8_0
  try clear hcz8_1
  try clear hfz10_0
  try clear hfz10_1
  try clear hfz11_0
  try clear hfz11_1
  try clear hfz8_0
  try clear hfz8_1
  obtain ⟨kq, x22_2, rfl, HA, HJ2, BK94001, HB⟩ := hcut
  cases kq with
  | zero => exact absurd HA.out (by simp [impl_IsModularCut.j0])
  | succ kj2 =>
   have H := HA.out
   clear HA
   simp only [impl_IsModularCut.j0] at H
   by_cases c13 : x22_2 = true
   ·subst c13
    have H1 : (some false) = some r := by rw [if_pos rfl] at H; exact H
    clear H
    have H := H1
    clear H1
    obtain rfl := Option.some.inj H
    go_wp2
    go_ret
    exact ⟨re_, pB1 HB.out GE94001.out⟩
   ·replace c13 := Bool.eq_false_iff.mpr c13
    subst c13
    have H1 : ((impl_flatsIn.f kj2 a0_0 l0_1).bind fun t94004 => (impl_IsModularCut.l0 kj2 l1 t94004 l1 (l1.length : Int) 0 a0_0 l0_1)) = some r := by rw [if_neg (show ¬ (false = true) by decide)] at H; exact H
    clear H
    have H := H1
    clear H1
    replace H := Option.bind_eq_some_iff.mp H
    obtain ⟨t94004, A140, H⟩ := H
    replace H : (impl_IsModularCut.l0 kj2 l1 t94004 l1 (l1.length : Int) 0 a0_0 l0_1) = some r := H
    have A14 := aQ A140
    clear A140
    have H' := aQ H
    clear H
    have hcz15_0 := bc (v := (.int .i64 a0_0)) BK94001.out 0
    have hcz15_1 := bc (v := (.slice A0_1 l0_1.length c0_1)) BK94001.out 1
    have hfz15_0 := blk_frozen BK94001.out 0
    have hfz15_1 := blk_frozen BK94001.out 1
    go_wp2_with (first | ((with_reducible refine gate_callee (f := 150) rfl ?_); refine goesL_ (some 24) rfl rfl Try.func150 (by kernel_rfl) rfl #[.agg #[.int .i64 a0_0, .slice A0_1 l0_1.length c0_1]] rfl lm ?_; (with_reducible refine (impl_flatsIn.calls kj2 a0_0 _ _ l0_1 t94004 _ ?side1 ?side2 A14.out).mono ?_); (case side1 => exact pC (Kd.C_below HR0_1.out HB.out)); (case side2 => exact HC0_1.out); rintro e w16 ⟨v94005, rfl, ho0, hb⟩; refine ⟨_, rfl, ?_⟩; have HO94006 := aQ (Kd.R_lower ho0 (below_size (pB1 HB.out GE94001.out))); replace BK94001 := aQ (blk_below (g := gb94001) (o := .cells #[.int .i64 a0_0, .slice A0_1 l0_1.length c0_1] 26 (0, 0)) (pk BK94001.out) hb); replace HB := aQ (below_step (pB1 HB.out GE94001.out) hb); (try clear hb); (try clear ho0)))
    go_loopg [27] kj2 (fun kq v27 w' => ∃ (x27_2 : Int), v27 = .int .i64 x27_2 ∧ Aside0 (impl_IsModularCut.l0 kq l1 t94004 l1 (l1.length : Int) x27_2 a0_0 l0_1 = some r) ∧ Aside0 (kq ≤ kj2) ∧ Aside0 (Kd.R (Kd.int .i64) 3 w' w.heap.size (fun _ => True) v94005 t94004) ∧ Aside0 (w'.heap[gb94001]? = some (.cells #[.int .i64 a0_0, (.slice A0_1 l0_1.length c0_1)] 26 (0, 0))) ∧ Aside0 (Below w.heap.size w w'))
    case atStart => exact ⟨(0), rs_, H', ⟨Nat.le_refl _⟩, ⟨pR HO94006.out⟩, ⟨pk BK94001.out⟩, ⟨pB1 HB.out GE94001.out⟩⟩
    case round =>
     clear H'
     try clear c1
     try clear p2
     try clear c6
     try clear c9
     try clear c13
     try clear c15
     try clear hcz10_0
     try clear hcz10_1
     try clear hcz11_0
     try clear hcz11_1
     try clear hcz15_0
     try clear hcz15_1
     try clear hcz8_0
     try clear hcz8_1
     try clear hfz10_0
     try clear hfz10_1
     try clear hfz11_0
     try clear hfz11_1
     try clear hfz15_0
     try clear hfz15_1
     try clear hfz8_0
     try clear hfz8_1
     try clear p2
     obtain ⟨x27_2, rfl, HA, HK2, HO_5, BK94001, HB⟩ := hrel
     cases gk with
     | zero => exact absurd HA.out (by simp [impl_IsModularCut.l0])
     | succ k2 =>
      have H := HA.out
      clear HA
      simp only [impl_IsModularCut.l0] at H
      by_cases c17 : x27_2 < (l1.length : Int)
      ·rw [if_pos c17] at H
       have c17b0 : decide (x27_2 < (l1.length : Int)) = true := decide_eq_true c17
       clear c17
       by_cases c18 : 0 ≤ x27_2
       ·rw [if_pos c18] at H
        have c18b0 : decide (0 ≤ x27_2) = true := decide_eq_true c18
        clear c18
        by_cases c19 : x27_2 < (l1.length : Int)
        ·rw [if_pos c19] at H
         have c19b0 : decide (x27_2 < (l1.length : Int)) = true := decide_eq_true c19
         clear c19
         replace H := Option.bind_eq_some_iff.mp H
         obtain ⟨t94008, A200, H⟩ := H
         replace H : (if t94008 = true then (impl_IsModularCut.l1 k2 l1 t94004 (rd l1 x27_2) l1 (l1.length : Int) x27_2 t94004 (t94004.length : Int) 0 a0_0 l0_1) else (some false)) = some r := H
         have A20 := aQ A200
         clear A200
         by_cases c21 : t94008 = true
         ·subst c21
          have H1 : (impl_IsModularCut.l1 k2 l1 t94004 (rd l1 x27_2) l1 (l1.length : Int) x27_2 t94004 (t94004.length : Int) 0 a0_0 l0_1) = some r := by rw [if_pos rfl] at H; exact H
          clear H
          have H := H1
          clear H1
          have H' := aQ H
          clear H
          have p94007 : 0 ≤ (x27_2 : Int) := of_decide_eq_true as_
          have q94007 : x27_2 < (l1.length : Int) := of_decide_eq_true as_
          obtain ⟨ad94007, e94007, hx94007_0⟩ := Kd.at_int HR1.out x27_2 p94007 q94007
          cases e94007
          replace hx94007_0 := (HB.out.cell (World.block_lt_of_cell? w _ hx94007_0)).trans hx94007_0
          replace p94007 := eq_true p94007
          replace q94007 := eq_true q94007
          obtain ⟨Ao22, co22, eo22⟩ := Kd.R_slice HO_5.out
          subst eo22
          go_wp2_with (first | ((with_reducible refine gate_callee (f := 97) rfl ?_); refine goesL_ (some 33) rfl rfl Try.func97 (by kernel_rfl) rfl #[.slice Ao22 t94004.length co22, .int .i64 (rd l1 x27_2)] rfl lm ?_; (with_reducible refine (impl_HasSet.calls k2 _ _ t94004 (rd l1 x27_2) true _ ?side1 ?side2 A20.out).mono ?_); (case side1 => repeat (first | exact (Kd.R_reads' HO_5.out).2.2 | (with_reducible refine Kd.C_alloc ?_ _) | (with_reducible refine Kd.C_drewN ?_ _) | (with_reducible refine Kd.C_drew ?_))); (case side2 => exact (Kd.R_reads' HO_5.out).2.1); rintro e w' ⟨rfl, ⟨nd, rfl⟩⟩; refine ⟨_, rfl, ?_⟩))
          go_loopg [37] k2 (fun kq v37 w' => ∃ (x37_3 : Int), v37 = .int .i64 x37_3 ∧ Aside0 (impl_IsModularCut.l1 kq l1 t94004 (rd l1 x27_2) l1 (l1.length : Int) x27_2 t94004 (t94004.length : Int) x37_3 a0_0 l0_1 = some r) ∧ Aside0 (kq ≤ k2) ∧ Aside0 (Kd.R (Kd.int .i64) 3 w' w.heap.size (fun _ => True) (.slice Ao22 t94004.length co22) t94004) ∧ Aside0 (Kd.R (Kd.int .i64) 3 w' w.heap.size (fun _ => True) (.slice Ao22 t94004.length co22) t94004) ∧ Aside0 (w'.heap[gb94001]? = some (.cells #[.int .i64 a0_0, (.slice A0_1 l0_1.length c0_1)] 26 (0, 0))) ∧ Aside0 (Below w.heap.size w w'))
          case atStart => exact ⟨(0), rs_, H', ⟨Nat.le_refl _⟩, ⟨pR HO_5.out⟩, ⟨pR HO_5.out⟩, ⟨pk BK94001.out⟩, ⟨pB1 HB.out GE94001.out⟩⟩
          case round =>
           clear H'
           try clear c1
           try clear c2
           try clear p2
           try clear c6
           try clear c9
           try clear p9
           try clear q9
           try clear hx9
           try clear c13
           try clear c15
           try clear c17
           try clear c17b0
           try clear c18
           try clear c18b0
           try clear c19
           try clear c19b0
           try clear c21
           try clear hcz10_0
           try clear hcz10_1
           try clear hcz11_0
           try clear hcz11_1
           try clear hcz15_0
           try clear hcz15_1
           try clear hcz8_0
           try clear hcz8_1
           try clear hfz10_0
           try clear hfz10_1
           try clear hfz11_0
           try clear hfz11_1
           try clear hfz15_0
           try clear hfz15_1
           try clear hfz8_0
           try clear hfz8_1
           try clear hx94007_0
           try clear p2
           try clear p94007
           try clear q94007
           obtain ⟨x37_3, rfl, HA, HK3, HO_5, HO_35, BK94001, HB⟩ := hrel
           cases gk with
           | zero => exact absurd HA.out (by simp [impl_IsModularCut.l1])
           | succ k3 =>
            have H := HA.out
            clear HA
            simp only [impl_IsModularCut.l1] at H
            by_cases c23 : x37_3 < (t94004.length : Int)
            ·rw [if_pos c23] at H
             have c23b0 : decide (x37_3 < (t94004.length : Int)) = true := decide_eq_true c23
             clear c23
             by_cases c24 : 0 ≤ x37_3
             ·rw [if_pos c24] at H
              have c24b0 : decide (0 ≤ x37_3) = true := decide_eq_true c24
              clear c24
              by_cases c25 : x37_3 < (t94004.length : Int)
              ·rw [if_pos c25] at H
               have c25b0 : decide (x37_3 < (t94004.length : Int)) = true := decide_eq_true c25
               clear c25
               replace H := Option.bind_eq_some_iff.mp H
               obtain ⟨t94010, A260, H⟩ := H
               replace H : (if t94010 = true then ((impl_HasSet.f k3 l1 (rd t94004 x37_3)).bind fun t94011 => (if t94011 = true then (impl_IsModularCut.l1 k3 l1 t94004 (rd l1 x27_2) l1 (l1.length : Int) x27_2 t94004 (t94004.length : Int) (wrap64 (x37_3 + 1)) a0_0 l0_1) else (some false))) else (impl_IsModularCut.l1 k3 l1 t94004 (rd l1 x27_2) l1 (l1.length : Int) x27_2 t94004 (t94004.length : Int) (wrap64 (x37_3 + 1)) a0_0 l0_1)) = some r := H
               have A26 := aQ A260
               clear A260
               by_cases c27 : t94010 = true
               ·subst c27
                have H1 : ((impl_HasSet.f k3 l1 (rd t94004 x37_3)).bind fun t94011 => (if t94011 = true then (impl_IsModularCut.l1 k3 l1 t94004 (rd l1 x27_2) l1 (l1.length : Int) x27_2 t94004 (t94004.length : Int) (wrap64 (x37_3 + 1)) a0_0 l0_1) else (some false))) = some r := by rw [if_pos rfl] at H; exact H
                clear H
                have H := H1
                clear H1
                replace H := Option.bind_eq_some_iff.mp H
                obtain ⟨t94011, A280, H⟩ := H
                replace H : (if t94011 = true then (impl_IsModularCut.l1 k3 l1 t94004 (rd l1 x27_2) l1 (l1.length : Int) x27_2 t94004 (t94004.length : Int) (wrap64 (x37_3 + 1)) a0_0 l0_1) else (some false)) = some r := H
                have A28 := aQ A280
                clear A280
                by_cases c29 : t94011 = true
                ·subst c29
                 have H1 : (impl_IsModularCut.l1 k3 l1 t94004 (rd l1 x27_2) l1 (l1.length : Int) x27_2 t94004 (t94004.length : Int) (wrap64 (x37_3 + 1)) a0_0 l0_1) = some r := by rw [if_pos rfl] at H; exact H
                 clear H
                 have H := H1
                 clear H1
                 have H' := aQ H
                 clear H
                 have p94009 : 0 ≤ (x37_3 : Int) := of_decide_eq_true as_
                 have q94009 : x37_3 < (t94004.length : Int) := of_decide_eq_true as_
                 obtain ⟨ad94009, e94009, hx94009_0⟩ := Kd.at_int (Kd.R_reads' HO_35.out).2.2 x37_3 p94009 q94009
                 cases e94009
                 replace p94009 := eq_true p94009
                 replace q94009 := eq_true q94009
                 go_wp2_with (first | ((with_reducible refine gate_callee (f := 135) rfl ?_); refine goesL_ (some 43) rfl rfl Try.func135 (by kernel_rfl) rfl #[.int .i64 (rd l1 x27_2), .int .i64 (rd t94004 x37_3)] rfl lm ?_; (with_reducible refine (impl_IsSubset.calls (rd l1 x27_2) (rd t94004 x37_3) true _ A26.out).mono ?_); rintro e w' ⟨rfl, ⟨nd, rfl⟩⟩; refine ⟨_, rfl, ?_⟩) | (go_at_call 97; (with_reducible refine (impl_HasSet.calls k3 _ _ l1 (rd t94004 x37_3) true _ ?side1 ?side2 A28.out).mono ?_); (case side1 => repeat (first | exact (Kd.C_below HR1.out (pB1 HB.out GE94001.out)) | (with_reducible refine Kd.C_alloc ?_ _) | (with_reducible refine Kd.C_drewN ?_ _) | (with_reducible refine Kd.C_drew ?_))); (case side2 => exact HC1.out); rintro e w' ⟨rfl, ⟨nd, rfl⟩⟩))
                 go_roundg k3
                 case measure => have := HJ2.out; have := HK2.out; have := HK3.out; omega
                 case rel => exact ⟨(wrap64 (x37_3 + 1)), rs_, H', ⟨by have := HJ2.out; have := HK2.out; have := HK3.out; omega⟩, ⟨pR HO_5.out⟩, ⟨pR HO_35.out⟩, ⟨pk BK94001.out⟩, ⟨pB1 HB.out GE94001.out⟩⟩
                ·replace c29 := Bool.eq_false_iff.mpr c29
                 subst c29
                 have H1 : (some false) = some r := by rw [if_neg (show ¬ (false = true) by decide)] at H; exact H
                 clear H
                 have H := H1
                 clear H1
                 obtain rfl := Option.some.inj H
                 have p94009 : 0 ≤ (x37_3 : Int) := of_decide_eq_true as_
                 have q94009 : x37_3 < (t94004.length : Int) := of_decide_eq_true as_
                 obtain ⟨ad94009, e94009, hx94009_0⟩ := Kd.at_int (Kd.R_reads' HO_35.out).2.2 x37_3 p94009 q94009
                 cases e94009
                 replace p94009 := eq_true p94009
                 replace q94009 := eq_true q94009
                 go_wp2_with (first | ((with_reducible refine gate_callee (f := 135) rfl ?_); refine goesL_ (some 43) rfl rfl Try.func135 (by kernel_rfl) rfl #[.int .i64 (rd l1 x27_2), .int .i64 (rd t94004 x37_3)] rfl lm ?_; (with_reducible refine (impl_IsSubset.calls (rd l1 x27_2) (rd t94004 x37_3) true _ A26.out).mono ?_); rintro e w' ⟨rfl, ⟨nd, rfl⟩⟩; refine ⟨_, rfl, ?_⟩) | (go_at_call 97; (with_reducible refine (impl_HasSet.calls k3 _ _ l1 (rd t94004 x37_3) false _ ?side1 ?side2 A28.out).mono ?_); (case side1 => repeat (first | exact (Kd.C_below HR1.out (pB1 HB.out GE94001.out)) | (with_reducible refine Kd.C_alloc ?_ _) | (with_reducible refine Kd.C_drewN ?_ _) | (with_reducible refine Kd.C_drew ?_))); (case side2 => exact HC1.out); rintro e w' ⟨rfl, ⟨nd, rfl⟩⟩))
                 go_ret
                 exact ⟨re_, pB1 HB.out GE94001.out⟩
               ·replace c27 := Bool.eq_false_iff.mpr c27
                subst c27
                have H1 : (impl_IsModularCut.l1 k3 l1 t94004 (rd l1 x27_2) l1 (l1.length : Int) x27_2 t94004 (t94004.length : Int) (wrap64 (x37_3 + 1)) a0_0 l0_1) = some r := by rw [if_neg (show ¬ (false = true) by decide)] at H; exact H
                clear H
                have H := H1
                clear H1
                have H' := aQ H
                clear H
                have p94009 : 0 ≤ (x37_3 : Int) := of_decide_eq_true as_
                have q94009 : x37_3 < (t94004.length : Int) := of_decide_eq_true as_
                obtain ⟨ad94009, e94009, hx94009_0⟩ := Kd.at_int (Kd.R_reads' HO_35.out).2.2 x37_3 p94009 q94009
                cases e94009
                replace p94009 := eq_true p94009
                replace q94009 := eq_true q94009
                go_wp2_with (first | ((with_reducible refine gate_callee (f := 135) rfl ?_); refine goesL_ (some 43) rfl rfl Try.func135 (by kernel_rfl) rfl #[.int .i64 (rd l1 x27_2), .int .i64 (rd t94004 x37_3)] rfl lm ?_; (with_reducible refine (impl_IsSubset.calls (rd l1 x27_2) (rd t94004 x37_3) false _ A26.out).mono ?_); rintro e w' ⟨rfl, ⟨nd, rfl⟩⟩; refine ⟨_, rfl, ?_⟩))
                go_roundg k3
                case measure => have := HJ2.out; have := HK2.out; have := HK3.out; omega
                case rel => exact ⟨(wrap64 (x37_3 + 1)), rs_, H', ⟨by have := HJ2.out; have := HK2.out; have := HK3.out; omega⟩, ⟨pR HO_5.out⟩, ⟨pR HO_35.out⟩, ⟨pk BK94001.out⟩, ⟨pB1 HB.out GE94001.out⟩⟩
              ·rw [if_neg c25] at H
               exact absurd H (by simp)
             ·rw [if_neg c24] at H
              exact absurd H (by simp)
            ·rw [if_neg c23] at H
             have c23b0 : decide (x37_3 < (t94004.length : Int)) = false := decide_eq_false c23
             clear c23
             have H' := aQ H
             clear H
             go_wp2
             go_loopg [53] k3 (fun kq v53 w' => ∃ (x53_4 : Int), v53 = .int .i64 x53_4 ∧ Aside0 (impl_IsModularCut.l2 kq l1 t94004 (rd l1 x27_2) l1 (l1.length : Int) x27_2 l1 (l1.length : Int) x53_4 a0_0 l0_1 = some r) ∧ Aside0 (kq ≤ k3) ∧ Aside0 (Kd.R (Kd.int .i64) 3 w' w.heap.size (fun _ => True) (.slice Ao22 t94004.length co22) t94004) ∧ Aside0 (w'.heap[gb94001]? = some (.cells #[.int .i64 a0_0, (.slice A0_1 l0_1.length c0_1)] 26 (0, 0))) ∧ Aside0 (Below w.heap.size w w'))
             case atStart => exact ⟨(0), rs_, H', ⟨Nat.le_refl _⟩, ⟨pR HO_5.out⟩, ⟨pk BK94001.out⟩, ⟨pB1 HB.out GE94001.out⟩⟩
             case round =>
              clear H'
              try clear c1
              try clear c2
              try clear p2
              try clear c6
              try clear p6
              try clear c9
              try clear p9
              try clear q9
              try clear hx9
              try clear c13
              try clear c15
              try clear c17
              try clear c17b0
              try clear c18
              try clear c18b0
              try clear c19
              try clear c19b0
              try clear c21
              try clear c23
              try clear c23b0
              try clear c24
              try clear c24b0
              try clear c25
              try clear c25b0
              try clear c27
              try clear c29
              try clear hcz10_0
              try clear hcz10_1
              try clear hcz11_0
              try clear hcz11_1
              try clear hcz15_0
              try clear hcz15_1
              try clear hcz8_0
              try clear hcz8_1
              try clear hfz10_0
              try clear hfz10_1
              try clear hfz11_0
              try clear hfz11_1
              try clear hfz15_0
              try clear hfz15_1
              try clear hfz8_0
              try clear hfz8_1
              try clear hx94007_0
              try clear hx94009_0
              try clear p2
              try clear p9
              try clear p94007
              try clear p94009
              try clear q9
              try clear q94007
              try clear q94009
              obtain ⟨x53_4, rfl, HA, HK4, HO_5, BK94001, HB⟩ := hrel
              cases gk with
              | zero => exact absurd HA.out (by simp [impl_IsModularCut.l2])
              | succ k4 =>
               have H := HA.out
               clear HA
               simp only [impl_IsModularCut.l2] at H
               by_cases c30 : x53_4 < (l1.length : Int)
               ·rw [if_pos c30] at H
                have c30b0 : decide (x53_4 < (l1.length : Int)) = true := decide_eq_true c30
                clear c30
                by_cases c31 : 0 ≤ x53_4
                ·rw [if_pos c31] at H
                 have c31b0 : decide (0 ≤ x53_4) = true := decide_eq_true c31
                 clear c31
                 by_cases c32 : x53_4 < (l1.length : Int)
                 ·rw [if_pos c32] at H
                  have c32b0 : decide (x53_4 < (l1.length : Int)) = true := decide_eq_true c32
                  clear c32
                  replace H := Option.bind_eq_some_iff.mp H
                  obtain ⟨t94013, A330, H⟩ := H
                  replace H : ((impl_rankIn.f k4 a0_0 l0_1 (rd l1 x53_4)).bind fun t94014 => ((impl_rankIn.f k4 a0_0 l0_1 (Go.bits .and .i64 (rd l1 x27_2) (rd l1 x53_4))).bind fun t94015 => ((impl_rankIn.f k4 a0_0 l0_1 (Go.bits .or .i64 (rd l1 x27_2) (rd l1 x53_4))).bind fun t94016 => (if (wrap64 (t94013 + t94014)) = (wrap64 (t94015 + t94016)) then ((impl_HasSet.f k4 l1 (Go.bits .and .i64 (rd l1 x27_2) (rd l1 x53_4))).bind fun t94017 => (if t94017 = true then (impl_IsModularCut.l2 k4 l1 t94004 (rd l1 x27_2) l1 (l1.length : Int) x27_2 l1 (l1.length : Int) (wrap64 (x53_4 + 1)) a0_0 l0_1) else (some false))) else (impl_IsModularCut.l2 k4 l1 t94004 (rd l1 x27_2) l1 (l1.length : Int) x27_2 l1 (l1.length : Int) (wrap64 (x53_4 + 1)) a0_0 l0_1))))) = some r := H
                  have A33 := aQ A330
                  clear A330
                  replace H := Option.bind_eq_some_iff.mp H
                  obtain ⟨t94014, A340, H⟩ := H
                  replace H : ((impl_rankIn.f k4 a0_0 l0_1 (Go.bits .and .i64 (rd l1 x27_2) (rd l1 x53_4))).bind fun t94015 => ((impl_rankIn.f k4 a0_0 l0_1 (Go.bits .or .i64 (rd l1 x27_2) (rd l1 x53_4))).bind fun t94016 => (if (wrap64 (t94013 + t94014)) = (wrap64 (t94015 + t94016)) then ((impl_HasSet.f k4 l1 (Go.bits .and .i64 (rd l1 x27_2) (rd l1 x53_4))).bind fun t94017 => (if t94017 = true then (impl_IsModularCut.l2 k4 l1 t94004 (rd l1 x27_2) l1 (l1.length : Int) x27_2 l1 (l1.length : Int) (wrap64 (x53_4 + 1)) a0_0 l0_1) else (some false))) else (impl_IsModularCut.l2 k4 l1 t94004 (rd l1 x27_2) l1 (l1.length : Int) x27_2 l1 (l1.length : Int) (wrap64 (x53_4 + 1)) a0_0 l0_1)))) = some r := H
                  have A34 := aQ A340
                  clear A340
                  replace H := Option.bind_eq_some_iff.mp H
                  obtain ⟨t94015, A350, H⟩ := H
                  replace H : ((impl_rankIn.f k4 a0_0 l0_1 (Go.bits .or .i64 (rd l1 x27_2) (rd l1 x53_4))).bind fun t94016 => (if (wrap64 (t94013 + t94014)) = (wrap64 (t94015 + t94016)) then ((impl_HasSet.f k4 l1 (Go.bits .and .i64 (rd l1 x27_2) (rd l1 x53_4))).bind fun t94017 => (if t94017 = true then (impl_IsModularCut.l2 k4 l1 t94004 (rd l1 x27_2) l1 (l1.length : Int) x27_2 l1 (l1.length : Int) (wrap64 (x53_4 + 1)) a0_0 l0_1) else (some false))) else (impl_IsModularCut.l2 k4 l1 t94004 (rd l1 x27_2) l1 (l1.length : Int) x27_2 l1 (l1.length : Int) (wrap64 (x53_4 + 1)) a0_0 l0_1))) = some r := H
                  have A35 := aQ A350
                  clear A350
                  replace H := Option.bind_eq_some_iff.mp H
                  obtain ⟨t94016, A360, H⟩ := H
                  replace H : (if (wrap64 (t94013 + t94014)) = (wrap64 (t94015 + t94016)) then ((impl_HasSet.f k4 l1 (Go.bits .and .i64 (rd l1 x27_2) (rd l1 x53_4))).bind fun t94017 => (if t94017 = true then (impl_IsModularCut.l2 k4 l1 t94004 (rd l1 x27_2) l1 (l1.length : Int) x27_2 l1 (l1.length : Int) (wrap64 (x53_4 + 1)) a0_0 l0_1) else (some false))) else (impl_IsModularCut.l2 k4 l1 t94004 (rd l1 x27_2) l1 (l1.length : Int) x27_2 l1 (l1.length : Int) (wrap64 (x53_4 + 1)) a0_0 l0_1)) = some r := H
                  have A36 := aQ A360
                  clear A360
                  by_cases c37 : (wrap64 (t94013 + t94014)) = (wrap64 (t94015 + t94016))
                  ·rw [if_pos c37] at H
                   have c37b0 : ((wrap64 (t94013 + t94014)) == (wrap64 (t94015 + t94016))) = true := beq_iff_eq.mpr c37
                   have c37b1 : ((wrap64 (t94013 + t94014)) != (wrap64 (t94015 + t94016))) = false := bne_eq_false_iff_eq.mpr c37
                   clear c37
                   replace H := Option.bind_eq_some_iff.mp H
                   obtain ⟨t94017, A380, H⟩ := H
                   replace H : (if t94017 = true then (impl_IsModularCut.l2 k4 l1 t94004 (rd l1 x27_2) l1 (l1.length : Int) x27_2 l1 (l1.length : Int) (wrap64 (x53_4 + 1)) a0_0 l0_1) else (some false)) = some r := H
                   have A38 := aQ A380
                   clear A380
                   by_cases c39 : t94017 = true
                   ·subst c39
                    have H1 : (impl_IsModularCut.l2 k4 l1 t94004 (rd l1 x27_2) l1 (l1.length : Int) x27_2 l1 (l1.length : Int) (wrap64 (x53_4 + 1)) a0_0 l0_1) = some r := by rw [if_pos rfl] at H; exact H
                    clear H
                    have H := H1
                    clear H1
                    have H' := aQ H
                    clear H
                    have p94012 : 0 ≤ (x53_4 : Int) := of_decide_eq_true as_
                    have q94012 : x53_4 < (l1.length : Int) := of_decide_eq_true as_
                    obtain ⟨ad94012, e94012, hx94012_0⟩ := Kd.at_int HR1.out x53_4 p94012 q94012
                    obtain rfl : ad94007 = ad94012 := (by injection e94012)
                    replace hx94012_0 := (HB.out.cell (World.block_lt_of_cell? w _ hx94012_0)).trans hx94012_0
                    replace p94012 := eq_true p94012
                    replace q94012 := eq_true q94012
                    try go_wp2
                    have n0_ := aQ (Kd.R_drew HO_5.out)
                    have n1_ := aQ (blk_drew BK94001.out)
                    have n2_ := aQ (below_drew1 HB.out)
                    clear HO_5
                    clear BK94001
                    clear HB
                    have HO_5 := n0_
                    have BK94001 := n1_
                    have HB := n2_
                    clear n0_ n1_ n2_
                    refine start_ (n := 20) (S := fun w' => w'.cell? ⟨gb94001, 0, none⟩ = some (.int .i64 a0_0) ∧ w'.cell? ⟨gb94001, 1, none⟩ = some (.slice A0_1 l0_1.length c0_1)) (ds := []) #[false, false, false, false, false, false, false, false, false, false, false, false, false, false, false, false, false, false, false, false] (by kernel_rfl) rfl rfl ⟨(blk_cell BK94001.out 0).trans rfl, (blk_cell BK94001.out 1).trans rfl⟩ (fun hHeld => ?_); refine with_tabW impl_IsModularCut.tab18 impl_IsModularCut.bits18 (fun HT_ HW_ => ?_)
                    generalize wr.drew = w40 at HO_5 BK94001 HB hHeld ⊢
                    refine puA (i := 1) (N := some 58) HT_ (h := ?_)
                    refine puA (i := 4) (N := some 61) HT_ (h := ?_)
                    refine puA (i := 8) (N := some 65) HT_ (h := ?_)
                    refine puA (i := 9) (N := some 66) HT_ (h := ?_)
                    refine puA (i := 10) (N := some 67) HT_ (h := ?_)
                    refine puA (i := 13) (N := some 70) HT_ (h := ?_)
                    refine puA (i := 14) (N := some 71) HT_ (h := ?_)
                    refine puA (i := 15) (N := some 72) HT_ (h := ?_)
                    refine taA2 (i := 0) (N := some 57) HT_ HW_ hHeld (h := ?_)
                    refine taA2 (i := 3) (N := some 60) HT_ HW_ hHeld (h := ?_)
                    refine taA2 (i := 7) (N := some 64) HT_ HW_ hHeld (h := ?_)
                    refine taA2 (i := 12) (N := some 69) HT_ HW_ hHeld (h := ?_)
                    refine onA (i := 2) (N := some 59) HT_ (h := fun K hK => ?_)
                    refine goes_ Try.func96 (by kernel_rfl) rfl #[.agg #[.int .i64 a0_0, .slice A0_1 l0_1.length c0_1], .int .i64 (rd l1 x27_2)] (by rfl) rfl rfl lm ?_
                    with_reducible refine (impl_rankIn.calls k4 a0_0 _ _ l0_1 (rd l1 x27_2) t94013 _ ?side1 ?side2 A33.out).mono ?_
                    (case side1 => exact pC (Kd.C_below HR0_1.out HB.out))
                    (case side2 => exact HC0_1.out)
                    rintro e w41 ⟨rfl, hb⟩
                    refine ⟨_, rfl, ?_⟩
                    have n0_ := aQ (Kd.R_below (pR HO_5.out) hb)
                    have n1_ := aQ (blk_below (g := gb94001) (o := .cells #[.int .i64 a0_0, .slice A0_1 l0_1.length c0_1] 26 (0, 0)) (pk BK94001.out) hb)
                    have n2_ := aQ (below_step (pB1 HB.out GE94001.out) hb)
                    clear HO_5
                    clear BK94001
                    clear HB
                    have HO_5 := n0_
                    have BK94001 := n1_
                    have HB := n2_
                    clear n0_ n1_ n2_
                    (try clear hb)
                    (try clear hb2)
                    (try clear hk)
                    (try clear hi)
                    refine hK.out _ _ ⟨(blk_cell BK94001.out 0).trans rfl, (blk_cell BK94001.out 1).trans rfl⟩ (fun hHeld => ?_)
                    clear hK K
                    refine noA (h := ?_)
                    refine onA (i := 5) (N := some 62) HT_ (h := fun K hK => ?_)
                    refine goes_ Try.func96 (by kernel_rfl) rfl #[.agg #[.int .i64 a0_0, .slice A0_1 l0_1.length c0_1], .int .i64 (rd l1 x53_4)] (by rfl) rfl rfl lm ?_
                    with_reducible refine (impl_rankIn.calls k4 a0_0 _ _ l0_1 (rd l1 x53_4) t94014 _ ?side1 ?side2 A34.out).mono ?_
                    (case side1 => exact pC (Kd.C_below HR0_1.out HB.out))
                    (case side2 => exact HC0_1.out)
                    rintro e w42 ⟨rfl, hb⟩
                    refine ⟨_, rfl, ?_⟩
                    have n0_ := aQ (Kd.R_below (pR HO_5.out) hb)
                    have n1_ := aQ (blk_below (g := gb94001) (o := .cells #[.int .i64 a0_0, .slice A0_1 l0_1.length c0_1] 26 (0, 0)) (pk BK94001.out) hb)
                    have n2_ := aQ (below_step (pB1 HB.out GE94001.out) hb)
                    clear HO_5
                    clear BK94001
                    clear HB
                    have HO_5 := n0_
                    have BK94001 := n1_
                    have HB := n2_
                    clear n0_ n1_ n2_
                    (try clear hb)
                    (try clear hb2)
                    (try clear hk)
                    (try clear hi)
                    refine hK.out _ _ ⟨(blk_cell BK94001.out 0).trans rfl, (blk_cell BK94001.out 1).trans rfl⟩ (fun hHeld => ?_)
                    clear hK K
                    refine noA (h := ?_)
                    refine puA (i := 6) (N := some 63) HT_ (h := ?_)
                    refine onA (i := 11) (N := some 68) HT_ (h := fun K hK => ?_)
                    refine goes_ Try.func96 (by kernel_rfl) rfl #[.agg #[.int .i64 a0_0, .slice A0_1 l0_1.length c0_1], .int .i64 (Go.bits .and .i64 (rd l1 x27_2) (rd l1 x53_4))] (by rfl) rfl rfl lm ?_
                    with_reducible refine (impl_rankIn.calls k4 a0_0 _ _ l0_1 (Go.bits .and .i64 (rd l1 x27_2) (rd l1 x53_4)) t94015 _ ?side1 ?side2 A35.out).mono ?_
                    (case side1 => exact pC (Kd.C_below HR0_1.out HB.out))
                    (case side2 => exact HC0_1.out)
                    rintro e w43 ⟨rfl, hb⟩
                    refine ⟨_, rfl, ?_⟩
                    have n0_ := aQ (Kd.R_below (pR HO_5.out) hb)
                    have n1_ := aQ (blk_below (g := gb94001) (o := .cells #[.int .i64 a0_0, .slice A0_1 l0_1.length c0_1] 26 (0, 0)) (pk BK94001.out) hb)
                    have n2_ := aQ (below_step (pB1 HB.out GE94001.out) hb)
                    clear HO_5
                    clear BK94001
                    clear HB
                    have HO_5 := n0_
                    have BK94001 := n1_
                    have HB := n2_
                    clear n0_ n1_ n2_
                    (try clear hb)
                    (try clear hb2)
                    (try clear hk)
                    (try clear hi)
                    refine hK.out _ _ ⟨(blk_cell BK94001.out 0).trans rfl, (blk_cell BK94001.out 1).trans rfl⟩ (fun hHeld => ?_)
                    clear hK K
                    refine noA (h := ?_)
                    refine onA (i := 16) (N := some 73) HT_ (h := fun K hK => ?_)
                    refine goes_ Try.func96 (by kernel_rfl) rfl #[.agg #[.int .i64 a0_0, .slice A0_1 l0_1.length c0_1], .int .i64 (Go.bits .or .i64 (rd l1 x27_2) (rd l1 x53_4))] (by rfl) rfl rfl lm ?_
                    with_reducible refine (impl_rankIn.calls k4 a0_0 _ _ l0_1 (Go.bits .or .i64 (rd l1 x27_2) (rd l1 x53_4)) t94016 _ ?side1 ?side2 A36.out).mono ?_
                    (case side1 => exact pC (Kd.C_below HR0_1.out HB.out))
                    (case side2 => exact HC0_1.out)
                    rintro e w44 ⟨rfl, hb⟩
                    refine ⟨_, rfl, ?_⟩
                    have n0_ := aQ (Kd.R_below (pR HO_5.out) hb)
                    have n1_ := aQ (blk_below (g := gb94001) (o := .cells #[.int .i64 a0_0, .slice A0_1 l0_1.length c0_1] 26 (0, 0)) (pk BK94001.out) hb)
                    have n2_ := aQ (below_step (pB1 HB.out GE94001.out) hb)
                    clear HO_5
                    clear BK94001
                    clear HB
                    have HO_5 := n0_
                    have BK94001 := n1_
                    have HB := n2_
                    clear n0_ n1_ n2_
                    (try clear hb)
                    (try clear hb2)
                    (try clear hk)
                    (try clear hi)
                    refine hK.out _ _ ⟨(blk_cell BK94001.out 0).trans rfl, (blk_cell BK94001.out 1).trans rfl⟩ (fun hHeld => ?_)
                    clear hK K
                    refine noA (h := ?_)
                    refine puA (i := 17) (N := some 74) HT_ (h := ?_)
                    refine puA (i := 18) (N := some 75) HT_ (h := ?_)
                    refine puA (i := 19) (N := some 12) HT_ (h := ?_)
                    refine done_ (done_of HT_.out (by kernel_rfl)) ?_
                    try go_wp2_with (first | (go_at_call 97; (with_reducible refine (impl_HasSet.calls k4 _ _ l1 (Go.bits .and .i64 (rd l1 x27_2) (rd l1 x53_4)) true _ ?side1 ?side2 A38.out).mono ?_); (case side1 => exact pC (Kd.C_below HR1.out HB.out)); (case side2 => exact HC1.out); rintro e w' ⟨rfl, ⟨nd, rfl⟩⟩))
                    go_roundg k4
                    case measure => have := HJ2.out; have := HK2.out; have := HK3.out; have := HK4.out; omega
                    case rel => exact ⟨(wrap64 (x53_4 + 1)), rs_, H', ⟨by have := HJ2.out; have := HK2.out; have := HK3.out; have := HK4.out; omega⟩, ⟨pR HO_5.out⟩, ⟨pk BK94001.out⟩, ⟨pB1 HB.out GE94001.out⟩⟩
                   ·replace c39 := Bool.eq_false_iff.mpr c39
                    subst c39
                    have H1 : (some false) = some r := by rw [if_neg (show ¬ (false = true) by decide)] at H; exact H
                    clear H
                    have H := H1
                    clear H1
                    obtain rfl := Option.some.inj H
                    have p94012 : 0 ≤ (x53_4 : Int) := of_decide_eq_true as_
                    have q94012 : x53_4 < (l1.length : Int) := of_decide_eq_true as_
                    obtain ⟨ad94012, e94012, hx94012_0⟩ := Kd.at_int HR1.out x53_4 p94012 q94012
                    obtain rfl : ad94007 = ad94012 := (by injection e94012)
                    replace hx94012_0 := (HB.out.cell (World.block_lt_of_cell? w _ hx94012_0)).trans hx94012_0
                    replace p94012 := eq_true p94012
                    replace q94012 := eq_true q94012
                    try go_wp2
                    have n0_ := aQ (Kd.R_drew HO_5.out)
                    have n1_ := aQ (blk_drew BK94001.out)
                    have n2_ := aQ (below_drew1 HB.out)
                    clear HO_5
                    clear BK94001
                    clear HB
                    have HO_5 := n0_
                    have BK94001 := n1_
                    have HB := n2_
                    clear n0_ n1_ n2_
                    refine start_ (n := 20) (S := fun w' => w'.cell? ⟨gb94001, 0, none⟩ = some (.int .i64 a0_0) ∧ w'.cell? ⟨gb94001, 1, none⟩ = some (.slice A0_1 l0_1.length c0_1)) (ds := []) #[false, false, false, false, false, false, false, false, false, false, false, false, false, false, false, false, false, false, false, false] (by kernel_rfl) rfl rfl ⟨(blk_cell BK94001.out 0).trans rfl, (blk_cell BK94001.out 1).trans rfl⟩ (fun hHeld => ?_); refine with_tabW impl_IsModularCut.tab18 impl_IsModularCut.bits18 (fun HT_ HW_ => ?_)
                    generalize wr.drew = w45 at HO_5 BK94001 HB hHeld ⊢
                    refine puA (i := 1) (N := some 58) HT_ (h := ?_)
                    refine puA (i := 4) (N := some 61) HT_ (h := ?_)
                    refine puA (i := 8) (N := some 65) HT_ (h := ?_)
                    refine puA (i := 9) (N := some 66) HT_ (h := ?_)
                    refine puA (i := 10) (N := some 67) HT_ (h := ?_)
                    refine puA (i := 13) (N := some 70) HT_ (h := ?_)
                    refine puA (i := 14) (N := some 71) HT_ (h := ?_)
                    refine puA (i := 15) (N := some 72) HT_ (h := ?_)
                    refine taA2 (i := 0) (N := some 57) HT_ HW_ hHeld (h := ?_)
                    refine taA2 (i := 3) (N := some 60) HT_ HW_ hHeld (h := ?_)
                    refine taA2 (i := 7) (N := some 64) HT_ HW_ hHeld (h := ?_)
                    refine taA2 (i := 12) (N := some 69) HT_ HW_ hHeld (h := ?_)
                    refine onA (i := 2) (N := some 59) HT_ (h := fun K hK => ?_)
                    refine goes_ Try.func96 (by kernel_rfl) rfl #[.agg #[.int .i64 a0_0, .slice A0_1 l0_1.length c0_1], .int .i64 (rd l1 x27_2)] (by rfl) rfl rfl lm ?_
                    with_reducible refine (impl_rankIn.calls k4 a0_0 _ _ l0_1 (rd l1 x27_2) t94013 _ ?side1 ?side2 A33.out).mono ?_
                    (case side1 => exact pC (Kd.C_below HR0_1.out HB.out))
                    (case side2 => exact HC0_1.out)
                    rintro e w46 ⟨rfl, hb⟩
                    refine ⟨_, rfl, ?_⟩
                    have n0_ := aQ (Kd.R_below (pR HO_5.out) hb)
                    have n1_ := aQ (blk_below (g := gb94001) (o := .cells #[.int .i64 a0_0, .slice A0_1 l0_1.length c0_1] 26 (0, 0)) (pk BK94001.out) hb)
                    have n2_ := aQ (below_step (pB1 HB.out GE94001.out) hb)
                    clear HO_5
                    clear BK94001
                    clear HB
                    have HO_5 := n0_
                    have BK94001 := n1_
                    have HB := n2_
                    clear n0_ n1_ n2_
                    (try clear hb)
                    (try clear hb2)
                    (try clear hk)
                    (try clear hi)
                    refine hK.out _ _ ⟨(blk_cell BK94001.out 0).trans rfl, (blk_cell BK94001.out 1).trans rfl⟩ (fun hHeld => ?_)
                    clear hK K
                    refine noA (h := ?_)
                    refine onA (i := 5) (N := some 62) HT_ (h := fun K hK => ?_)
                    refine goes_ Try.func96 (by kernel_rfl) rfl #[.agg #[.int .i64 a0_0, .slice A0_1 l0_1.length c0_1], .int .i64 (rd l1 x53_4)] (by rfl) rfl rfl lm ?_
                    with_reducible refine (impl_rankIn.calls k4 a0_0 _ _ l0_1 (rd l1 x53_4) t94014 _ ?side1 ?side2 A34.out).mono ?_
                    (case side1 => exact pC (Kd.C_below HR0_1.out HB.out))
                    (case side2 => exact HC0_1.out)
                    rintro e w47 ⟨rfl, hb⟩
                    refine ⟨_, rfl, ?_⟩
                    have n0_ := aQ (Kd.R_below (pR HO_5.out) hb)
                    have n1_ := aQ (blk_below (g := gb94001) (o := .cells #[.int .i64 a0_0, .slice A0_1 l0_1.length c0_1] 26 (0, 0)) (pk BK94001.out) hb)
                    have n2_ := aQ (below_step (pB1 HB.out GE94001.out) hb)
                    clear HO_5
                    clear BK94001
                    clear HB
                    have HO_5 := n0_
                    have BK94001 := n1_
                    have HB := n2_
                    clear n0_ n1_ n2_
                    (try clear hb)
                    (try clear hb2)
                    (try clear hk)
                    (try clear hi)
                    refine hK.out _ _ ⟨(blk_cell BK94001.out 0).trans rfl, (blk_cell BK94001.out 1).trans rfl⟩ (fun hHeld => ?_)
                    clear hK K
                    refine noA (h := ?_)
                    refine puA (i := 6) (N := some 63) HT_ (h := ?_)
                    refine onA (i := 11) (N := some 68) HT_ (h := fun K hK => ?_)
                    refine goes_ Try.func96 (by kernel_rfl) rfl #[.agg #[.int .i64 a0_0, .slice A0_1 l0_1.length c0_1], .int .i64 (Go.bits .and .i64 (rd l1 x27_2) (rd l1 x53_4))] (by rfl) rfl rfl lm ?_
                    with_reducible refine (impl_rankIn.calls k4 a0_0 _ _ l0_1 (Go.bits .and .i64 (rd l1 x27_2) (rd l1 x53_4)) t94015 _ ?side1 ?side2 A35.out).mono ?_
                    (case side1 => exact pC (Kd.C_below HR0_1.out HB.out))
                    (case side2 => exact HC0_1.out)
                    rintro e w48 ⟨rfl, hb⟩
                    refine ⟨_, rfl, ?_⟩
                    have n0_ := aQ (Kd.R_below (pR HO_5.out) hb)
                    have n1_ := aQ (blk_below (g := gb94001) (o := .cells #[.int .i64 a0_0, .slice A0_1 l0_1.length c0_1] 26 (0, 0)) (pk BK94001.out) hb)
                    have n2_ := aQ (below_step (pB1 HB.out GE94001.out) hb)
                    clear HO_5
                    clear BK94001
                    clear HB
                    have HO_5 := n0_
                    have BK94001 := n1_
                    have HB := n2_
                    clear n0_ n1_ n2_
                    (try clear hb)
                    (try clear hb2)
                    (try clear hk)
                    (try clear hi)
                    refine hK.out _ _ ⟨(blk_cell BK94001.out 0).trans rfl, (blk_cell BK94001.out 1).trans rfl⟩ (fun hHeld => ?_)
                    clear hK K
                    refine noA (h := ?_)
                    refine onA (i := 16) (N := some 73) HT_ (h := fun K hK => ?_)
                    refine goes_ Try.func96 (by kernel_rfl) rfl #[.agg #[.int .i64 a0_0, .slice A0_1 l0_1.length c0_1], .int .i64 (Go.bits .or .i64 (rd l1 x27_2) (rd l1 x53_4))] (by rfl) rfl rfl lm ?_
                    with_reducible refine (impl_rankIn.calls k4 a0_0 _ _ l0_1 (Go.bits .or .i64 (rd l1 x27_2) (rd l1 x53_4)) t94016 _ ?side1 ?side2 A36.out).mono ?_
                    (case side1 => exact pC (Kd.C_below HR0_1.out HB.out))
                    (case side2 => exact HC0_1.out)
                    rintro e w49 ⟨rfl, hb⟩
                    refine ⟨_, rfl, ?_⟩
                    have n0_ := aQ (Kd.R_below (pR HO_5.out) hb)
                    have n1_ := aQ (blk_below (g := gb94001) (o := .cells #[.int .i64 a0_0, .slice A0_1 l0_1.length c0_1] 26 (0, 0)) (pk BK94001.out) hb)
                    have n2_ := aQ (below_step (pB1 HB.out GE94001.out) hb)
                    clear HO_5
                    clear BK94001
                    clear HB
                    have HO_5 := n0_
                    have BK94001 := n1_
                    have HB := n2_
                    clear n0_ n1_ n2_
                    (try clear hb)
                    (try clear hb2)
                    (try clear hk)
                    (try clear hi)
                    refine hK.out _ _ ⟨(blk_cell BK94001.out 0).trans rfl, (blk_cell BK94001.out 1).trans rfl⟩ (fun hHeld => ?_)
                    clear hK K
                    refine noA (h := ?_)
                    refine puA (i := 17) (N := some 74) HT_ (h := ?_)
                    refine puA (i := 18) (N := some 75) HT_ (h := ?_)
                    refine puA (i := 19) (N := some 12) HT_ (h := ?_)
                    refine done_ (done_of HT_.out (by kernel_rfl)) ?_
                    try go_wp2_with (first | (go_at_call 97; (with_reducible refine (impl_HasSet.calls k4 _ _ l1 (Go.bits .and .i64 (rd l1 x27_2) (rd l1 x53_4)) false _ ?side1 ?side2 A38.out).mono ?_); (case side1 => exact pC (Kd.C_below HR1.out HB.out)); (case side2 => exact HC1.out); rintro e w' ⟨rfl, ⟨nd, rfl⟩⟩))
                    go_ret
                    exact ⟨re_, pB1 HB.out GE94001.out⟩
                  ·rw [if_neg c37] at H
                   have c37b0 : ((wrap64 (t94013 + t94014)) == (wrap64 (t94015 + t94016))) = false := beq_eq_false_iff_ne.mpr c37
                   have c37b1 : ((wrap64 (t94013 + t94014)) != (wrap64 (t94015 + t94016))) = true := bne_iff_ne.mpr c37
                   have H' := aQ H
                   clear H
                   have p94012 : 0 ≤ (x53_4 : Int) := of_decide_eq_true as_
                   have q94012 : x53_4 < (l1.length : Int) := of_decide_eq_true as_
                   obtain ⟨ad94012, e94012, hx94012_0⟩ := Kd.at_int HR1.out x53_4 p94012 q94012
                   obtain rfl : ad94007 = ad94012 := (by injection e94012)
                   replace hx94012_0 := (HB.out.cell (World.block_lt_of_cell? w _ hx94012_0)).trans hx94012_0
                   replace p94012 := eq_true p94012
                   replace q94012 := eq_true q94012
                   try go_wp2
                   have n0_ := aQ (Kd.R_drew HO_5.out)
                   have n1_ := aQ (blk_drew BK94001.out)
                   have n2_ := aQ (below_drew1 HB.out)
                   clear HO_5
                   clear BK94001
                   clear HB
                   have HO_5 := n0_
                   have BK94001 := n1_
                   have HB := n2_
                   clear n0_ n1_ n2_
                   refine start_ (n := 20) (S := fun w' => w'.cell? ⟨gb94001, 0, none⟩ = some (.int .i64 a0_0) ∧ w'.cell? ⟨gb94001, 1, none⟩ = some (.slice A0_1 l0_1.length c0_1)) (ds := []) #[false, false, false, false, false, false, false, false, false, false, false, false, false, false, false, false, false, false, false, false] (by kernel_rfl) rfl rfl ⟨(blk_cell BK94001.out 0).trans rfl, (blk_cell BK94001.out 1).trans rfl⟩ (fun hHeld => ?_); refine with_tabW impl_IsModularCut.tab18 impl_IsModularCut.bits18 (fun HT_ HW_ => ?_)
                   generalize wr.drew = w50 at HO_5 BK94001 HB hHeld ⊢
                   refine puA (i := 1) (N := some 58) HT_ (h := ?_)
                   refine puA (i := 4) (N := some 61) HT_ (h := ?_)
                   refine puA (i := 8) (N := some 65) HT_ (h := ?_)
                   refine puA (i := 9) (N := some 66) HT_ (h := ?_)
                   refine puA (i := 10) (N := some 67) HT_ (h := ?_)
                   refine puA (i := 13) (N := some 70) HT_ (h := ?_)
                   refine puA (i := 14) (N := some 71) HT_ (h := ?_)
                   refine puA (i := 15) (N := some 72) HT_ (h := ?_)
                   refine taA2 (i := 0) (N := some 57) HT_ HW_ hHeld (h := ?_)
                   refine taA2 (i := 3) (N := some 60) HT_ HW_ hHeld (h := ?_)
                   refine taA2 (i := 7) (N := some 64) HT_ HW_ hHeld (h := ?_)
                   refine taA2 (i := 12) (N := some 69) HT_ HW_ hHeld (h := ?_)
                   refine onA (i := 2) (N := some 59) HT_ (h := fun K hK => ?_)
                   refine goes_ Try.func96 (by kernel_rfl) rfl #[.agg #[.int .i64 a0_0, .slice A0_1 l0_1.length c0_1], .int .i64 (rd l1 x27_2)] (by rfl) rfl rfl lm ?_
                   with_reducible refine (impl_rankIn.calls k4 a0_0 _ _ l0_1 (rd l1 x27_2) t94013 _ ?side1 ?side2 A33.out).mono ?_
                   (case side1 => exact pC (Kd.C_below HR0_1.out HB.out))
                   (case side2 => exact HC0_1.out)
                   rintro e w51 ⟨rfl, hb⟩
                   refine ⟨_, rfl, ?_⟩
                   have n0_ := aQ (Kd.R_below (pR HO_5.out) hb)
                   have n1_ := aQ (blk_below (g := gb94001) (o := .cells #[.int .i64 a0_0, .slice A0_1 l0_1.length c0_1] 26 (0, 0)) (pk BK94001.out) hb)
                   have n2_ := aQ (below_step (pB1 HB.out GE94001.out) hb)
                   clear HO_5
                   clear BK94001
                   clear HB
                   have HO_5 := n0_
                   have BK94001 := n1_
                   have HB := n2_
                   clear n0_ n1_ n2_
                   (try clear hb)
                   (try clear hb2)
                   (try clear hk)
                   (try clear hi)
                   refine hK.out _ _ ⟨(blk_cell BK94001.out 0).trans rfl, (blk_cell BK94001.out 1).trans rfl⟩ (fun hHeld => ?_)
                   clear hK K
                   refine noA (h := ?_)
                   refine onA (i := 5) (N := some 62) HT_ (h := fun K hK => ?_)
                   refine goes_ Try.func96 (by kernel_rfl) rfl #[.agg #[.int .i64 a0_0, .slice A0_1 l0_1.length c0_1], .int .i64 (rd l1 x53_4)] (by rfl) rfl rfl lm ?_
                   with_reducible refine (impl_rankIn.calls k4 a0_0 _ _ l0_1 (rd l1 x53_4) t94014 _ ?side1 ?side2 A34.out).mono ?_
                   (case side1 => exact pC (Kd.C_below HR0_1.out HB.out))
                   (case side2 => exact HC0_1.out)
                   rintro e w52 ⟨rfl, hb⟩
                   refine ⟨_, rfl, ?_⟩
                   have n0_ := aQ (Kd.R_below (pR HO_5.out) hb)
                   have n1_ := aQ (blk_below (g := gb94001) (o := .cells #[.int .i64 a0_0, .slice A0_1 l0_1.length c0_1] 26 (0, 0)) (pk BK94001.out) hb)
                   have n2_ := aQ (below_step (pB1 HB.out GE94001.out) hb)
                   clear HO_5
                   clear BK94001
                   clear HB
                   have HO_5 := n0_
                   have BK94001 := n1_
                   have HB := n2_
                   clear n0_ n1_ n2_
                   (try clear hb)
                   (try clear hb2)
                   (try clear hk)
                   (try clear hi)
                   refine hK.out _ _ ⟨(blk_cell BK94001.out 0).trans rfl, (blk_cell BK94001.out 1).trans rfl⟩ (fun hHeld => ?_)
                   clear hK K
                   refine noA (h := ?_)
                   refine puA (i := 6) (N := some 63) HT_ (h := ?_)
                   refine onA (i := 11) (N := some 68) HT_ (h := fun K hK => ?_)
                   refine goes_ Try.func96 (by kernel_rfl) rfl #[.agg #[.int .i64 a0_0, .slice A0_1 l0_1.length c0_1], .int .i64 (Go.bits .and .i64 (rd l1 x27_2) (rd l1 x53_4))] (by rfl) rfl rfl lm ?_
                   with_reducible refine (impl_rankIn.calls k4 a0_0 _ _ l0_1 (Go.bits .and .i64 (rd l1 x27_2) (rd l1 x53_4)) t94015 _ ?side1 ?side2 A35.out).mono ?_
                   (case side1 => exact pC (Kd.C_below HR0_1.out HB.out))
                   (case side2 => exact HC0_1.out)
                   rintro e w53 ⟨rfl, hb⟩
                   refine ⟨_, rfl, ?_⟩
                   have n0_ := aQ (Kd.R_below (pR HO_5.out) hb)
                   have n1_ := aQ (blk_below (g := gb94001) (o := .cells #[.int .i64 a0_0, .slice A0_1 l0_1.length c0_1] 26 (0, 0)) (pk BK94001.out) hb)
                   have n2_ := aQ (below_step (pB1 HB.out GE94001.out) hb)
                   clear HO_5
                   clear BK94001
                   clear HB
                   have HO_5 := n0_
                   have BK94001 := n1_
                   have HB := n2_
                   clear n0_ n1_ n2_
                   (try clear hb)
                   (try clear hb2)
                   (try clear hk)
                   (try clear hi)
                   refine hK.out _ _ ⟨(blk_cell BK94001.out 0).trans rfl, (blk_cell BK94001.out 1).trans rfl⟩ (fun hHeld => ?_)
                   clear hK K
                   refine noA (h := ?_)
                   refine onA (i := 16) (N := some 73) HT_ (h := fun K hK => ?_)
                   refine goes_ Try.func96 (by kernel_rfl) rfl #[.agg #[.int .i64 a0_0, .slice A0_1 l0_1.length c0_1], .int .i64 (Go.bits .or .i64 (rd l1 x27_2) (rd l1 x53_4))] (by rfl) rfl rfl lm ?_
                   with_reducible refine (impl_rankIn.calls k4 a0_0 _ _ l0_1 (Go.bits .or .i64 (rd l1 x27_2) (rd l1 x53_4)) t94016 _ ?side1 ?side2 A36.out).mono ?_
                   (case side1 => exact pC (Kd.C_below HR0_1.out HB.out))
                   (case side2 => exact HC0_1.out)
                   rintro e w54 ⟨rfl, hb⟩
                   refine ⟨_, rfl, ?_⟩
                   have n0_ := aQ (Kd.R_below (pR HO_5.out) hb)
                   have n1_ := aQ (blk_below (g := gb94001) (o := .cells #[.int .i64 a0_0, .slice A0_1 l0_1.length c0_1] 26 (0, 0)) (pk BK94001.out) hb)
                   have n2_ := aQ (below_step (pB1 HB.out GE94001.out) hb)
                   clear HO_5
                   clear BK94001
                   clear HB
                   have HO_5 := n0_
                   have BK94001 := n1_
                   have HB := n2_
                   clear n0_ n1_ n2_
                   (try clear hb)
                   (try clear hb2)
                   (try clear hk)
                   (try clear hi)
                   refine hK.out _ _ ⟨(blk_cell BK94001.out 0).trans rfl, (blk_cell BK94001.out 1).trans rfl⟩ (fun hHeld => ?_)
                   clear hK K
                   refine noA (h := ?_)
                   refine puA (i := 17) (N := some 74) HT_ (h := ?_)
                   refine puA (i := 18) (N := some 75) HT_ (h := ?_)
                   refine puA (i := 19) (N := some 12) HT_ (h := ?_)
                   refine done_ (done_of HT_.out (by kernel_rfl)) ?_
                   try go_wp2
                   go_roundg k4
                   case measure => have := HJ2.out; have := HK2.out; have := HK3.out; have := HK4.out; omega
                   case rel => exact ⟨(wrap64 (x53_4 + 1)), rs_, H', ⟨by have := HJ2.out; have := HK2.out; have := HK3.out; have := HK4.out; omega⟩, ⟨pR HO_5.out⟩, ⟨pk BK94001.out⟩, ⟨pB1 HB.out GE94001.out⟩⟩
                 ·rw [if_neg c32] at H
                  exact absurd H (by simp)
                ·rw [if_neg c31] at H
                 exact absurd H (by simp)
               ·rw [if_neg c30] at H
                have c30b0 : decide (x53_4 < (l1.length : Int)) = false := decide_eq_false c30
                clear c30
                have H' := aQ H
                clear H
                go_wp2
                go_roundg k4
                case measure => have := HJ2.out; have := HK2.out; have := HK3.out; have := HK4.out; omega
                case rel => exact ⟨(wrap64 (x27_2 + 1)), rs_, H', ⟨by have := HJ2.out; have := HK2.out; have := HK3.out; have := HK4.out; omega⟩, ⟨pR HO_5.out⟩, ⟨pk BK94001.out⟩, ⟨pB1 HB.out GE94001.out⟩⟩
         ·replace c21 := Bool.eq_false_iff.mpr c21
          subst c21
          have H1 : (some false) = some r := by rw [if_neg (show ¬ (false = true) by decide)] at H; exact H
          clear H
          have H := H1
          clear H1
          obtain rfl := Option.some.inj H
          have p94007 : 0 ≤ (x27_2 : Int) := of_decide_eq_true as_
          have q94007 : x27_2 < (l1.length : Int) := of_decide_eq_true as_
          obtain ⟨ad94007, e94007, hx94007_0⟩ := Kd.at_int HR1.out x27_2 p94007 q94007
          cases e94007
          replace hx94007_0 := (HB.out.cell (World.block_lt_of_cell? w _ hx94007_0)).trans hx94007_0
          replace p94007 := eq_true p94007
          replace q94007 := eq_true q94007
          obtain ⟨Ao55, co55, eo55⟩ := Kd.R_slice HO_5.out
          subst eo55
          go_wp2_with (first | ((with_reducible refine gate_callee (f := 97) rfl ?_); refine goesL_ (some 33) rfl rfl Try.func97 (by kernel_rfl) rfl #[.slice Ao55 t94004.length co55, .int .i64 (rd l1 x27_2)] rfl lm ?_; (with_reducible refine (impl_HasSet.calls k2 _ _ t94004 (rd l1 x27_2) false _ ?side1 ?side2 A20.out).mono ?_); (case side1 => repeat (first | exact (Kd.R_reads' HO_5.out).2.2 | (with_reducible refine Kd.C_alloc ?_ _) | (with_reducible refine Kd.C_drewN ?_ _) | (with_reducible refine Kd.C_drew ?_))); (case side2 => exact (Kd.R_reads' HO_5.out).2.1); rintro e w' ⟨rfl, ⟨nd, rfl⟩⟩; refine ⟨_, rfl, ?_⟩))
          go_ret
          exact ⟨re_, pB1 HB.out GE94001.out⟩
        ·rw [if_neg c19] at H
         exact absurd H (by simp)
       ·rw [if_neg c18] at H
        exact absurd H (by simp)
      ·rw [if_neg c17] at H
       have c17b0 : decide (x27_2 < (l1.length : Int)) = false := decide_eq_false c17
       clear c17
       obtain rfl := Option.some.inj H
       go_wp2
       go_ret
       exact ⟨re_, pB1 HB.out GE94001.out⟩
end Go.Proofs.Ytagncnjllpebjaa.A
