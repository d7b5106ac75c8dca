/- Machine side of the law FnExactAllCuts: Go functions as Lean functions, and proofs that calls come to what these tell. Conditions: those in each theorem. -/
import Derived.Test.YtbdloopelidneaaMFnExactAllCuts0
import Derived.Test.YtbdloopelidneaaMFnExactAllCutsq0
import Derived.Test.YtbdloopelidneaaMFnExactAllCuts3
import Derived.Test.YtbdloopelidneaaMFnExactAllCuts4
namespace Go.Proofs.Ytbdloopelidneaa.A
open Go.RowKit Go.Proofs.YtbdloopelidneaaW.PrintWords Go.Proofs.YtbdloopelidneaaW.PrintLast Go.Proofs.YtbdloopelidneaaW.PrintMore
attribute [local go_sem] max2_int min2_int max_two min_two max_three min_three max_four min_four
set_option linter.unusedVariables false
set_option linter.unusedSimpArgs false
/-! ### impl_IsModularCut: function 22 -/
mutual
def impl_IsModularCut.j0 : Nat → List Int → Bool → Int → List Int → Option (Bool)
 | 0, _, _, _, _ => none
 | k + 1, x1, x22, x23002000, x23002001 => if x22 = true then (some false) else ((impl_flatsIn.f k x23002000 x23002001).bind fun t23004 => (impl_IsModularCut.l0 k x1 t23004 x1 (x1.length : Int) 0 x23002000 x23002001))
def impl_IsModularCut.l0 : Nat → List Int → List Int → List Int → Int → Int → Int → List Int → Option (Bool)
 | 0, _, _, _, _, _, _, _ => none
 | k + 1, x1, x5, x25, x26, x27, x23002000, x23002001 => if x27 < x26 then (if 0 ≤ x27 then (if x27 < (x25.length : Int) then ((impl_HasSet.f k x5 (rd x25 x27)).bind fun t23008 => (if t23008 = true then (impl_IsModularCut.l1 k x1 x5 (rd x25 x27) x25 x26 x27 x5 (x5.length : Int) 0 x23002000 x23002001) else (some false))) else (none)) else (none)) else (some true)
def impl_IsModularCut.l1 : Nat → List Int → List Int → Int → List Int → Int → Int → List Int → Int → Int → Int → List Int → Option (Bool)
 | 0, _, _, _, _, _, _, _, _, _, _, _ => none
 | k + 1, x1, x5, x7, x25, x26, x27, x35, x36, x37, x23002000, x23002001 => if x37 < x36 then (if 0 ≤ x37 then (if x37 < (x35.length : Int) then ((impl_IsSubset.f x7 (rd x35 x37)).bind fun t23010 => (if t23010 = true then ((impl_HasSet.f k x1 (rd x35 x37)).bind fun t23011 => (if t23011 = true then (impl_IsModularCut.l1 k x1 x5 x7 x25 x26 x27 x35 x36 (wrap64 (x37 + 1)) x23002000 x23002001) else (some false))) else (impl_IsModularCut.l1 k x1 x5 x7 x25 x26 x27 x35 x36 (wrap64 (x37 + 1)) x23002000 x23002001))) else (none)) else (none)) else (impl_IsModularCut.l2 k x1 x5 x7 x25 x26 x27 x1 (x1.length : Int) 0 x23002000 x23002001)
def impl_IsModularCut.l2 : Nat → List Int → List Int → Int → List Int → Int → Int → List Int → Int → Int → Int → List Int → Option (Bool)
 | 0, _, _, _, _, _, _, _, _, _, _, _ => none
 | k + 1, x1, x5, x7, x25, x26, x27, x51, x52, x53, x23002000, x23002001 => if x53 < x52 then (if 0 ≤ x53 then (if x53 < (x51.length : Int) then ((impl_rankIn.f k x23002000 x23002001 x7).bind fun t23013 => ((impl_rankIn.f k x23002000 x23002001 (rd x51 x53)).bind fun t23014 => ((impl_rankIn.f k x23002000 x23002001 (Go.bits .and .i64 x7 (rd x51 x53))).bind fun t23015 => ((impl_rankIn.f k x23002000 x23002001 (Go.bits .or .i64 x7 (rd x51 x53))).bind fun t23016 => (if (wrap64 (t23013 + t23014)) = (wrap64 (t23015 + t23016)) then ((impl_HasSet.f k x1 (Go.bits .and .i64 x7 (rd x51 x53))).bind fun t23017 => (if t23017 = true then (impl_IsModularCut.l2 k x1 x5 x7 x25 x26 x27 x51 x52 (wrap64 (x53 + 1)) x23002000 x23002001) else (some false))) else (impl_IsModularCut.l2 k x1 x5 x7 x25 x26 x27 x51 x52 (wrap64 (x53 + 1)) x23002000 x23002001)))))) else (none)) else (none)) else (impl_IsModularCut.l0 k x1 x5 x25 x26 (wrap64 (x27 + 1)) x23002000 x23002001)
end
def impl_IsModularCut.f (k : Nat) (a0_0 : Int) (l0_1 : List Int) (l1 : List Int) : Option (Bool) := (impl_IsMatroid.f k a0_0 l0_1).bind fun t23002 => (if t23002 = true then ((impl_IsFamily.f k a0_0 l1).bind fun t23003 => (impl_IsModularCut.j0 k l1 (!t23003) a0_0 l0_1)) else (impl_IsModularCut.j0 k l1 true a0_0 l0_1))
theorem impl_IsModularCut.mono_l : ∀ k, (∀ y0 y1 y2 y3, LeO (impl_IsModularCut.j0 k y0 y1 y2 y3) (impl_IsModularCut.j0 (k + 1) y0 y1 y2 y3)) ∧ (∀ y0 y1 y2 y3 y4 y5 y6, LeO (impl_IsModularCut.l0 k y0 y1 y2 y3 y4 y5 y6) (impl_IsModularCut.l0 (k + 1) y0 y1 y2 y3 y4 y5 y6)) ∧ (∀ y0 y1 y2 y3 y4 y5 y6 y7 y8 y9 y10, LeO (impl_IsModularCut.l1 k y0 y1 y2 y3 y4 y5 y6 y7 y8 y9 y10) (impl_IsModularCut.l1 (k + 1) y0 y1 y2 y3 y4 y5 y6 y7 y8 y9 y10)) ∧ (∀ y0 y1 y2 y3 y4 y5 y6 y7 y8 y9 y10, LeO (impl_IsModularCut.l2 k y0 y1 y2 y3 y4 y5 y6 y7 y8 y9 y10) (impl_IsModularCut.l2 (k + 1) y0 y1 y2 y3 y4 y5 y6 y7 y8 y9 y10))
 | 0 => ⟨fun _ _ _ _ r h => by simp [impl_IsModularCut.j0] at h, fun _ _ _ _ _ _ _ r h => by simp [impl_IsModularCut.l0] at h, fun _ _ _ _ _ _ _ _ _ _ _ r h => by simp [impl_IsModularCut.l1] at h, fun _ _ _ _ _ _ _ _ _ _ _ r h => by simp [impl_IsModularCut.l2] at h⟩
 | k + 1 => by
  obtain ⟨ih0, ih1, ih2, ih3⟩ := impl_IsModularCut.mono_l k
  refine ⟨?_, ?_, ?_, ?_⟩
  ·intro y0 y1 y2 y3
   unfold impl_IsModularCut.j0
   repeat' first
   | (with_reducible exact ih0 _ _ _ _)
   | (with_reducible exact ih1 _ _ _ _ _ _ _)
   | (with_reducible exact ih2 _ _ _ _ _ _ _ _ _ _ _)
   | (with_reducible exact ih3 _ _ _ _ _ _ _ _ _ _ _)
   | (with_reducible exact impl_HasSet.mono _ _ _)
   | (with_reducible exact impl_IsFamily.mono _ _ _)
   | (with_reducible exact impl_IsMatroid.mono _ _ _)
   | (with_reducible exact impl_flatsIn.mono _ _ _)
   | (with_reducible exact impl_rankIn.mono _ _ _ _)
   | (with_reducible exact LeO.refl _)
   | (with_reducible exact LeO.none _)
   | (with_reducible refine LeO.ite ?_ ?_)
   | (with_reducible refine LeO.bind ?_ (fun _ => ?_))
   | exact ih0 _ _ _ _
   | exact ih1 _ _ _ _ _ _ _
   | exact ih2 _ _ _ _ _ _ _ _ _ _ _
   | exact ih3 _ _ _ _ _ _ _ _ _ _ _
   | exact impl_HasSet.mono _ _ _
   | exact impl_IsFamily.mono _ _ _
   | exact impl_IsMatroid.mono _ _ _
   | exact impl_flatsIn.mono _ _ _
   | exact impl_rankIn.mono _ _ _ _
   | exact LeO.none _
   | refine LeO.ite ?_ ?_
   | refine LeO.bind ?_ (fun _ => ?_)
  ·intro y0 y1 y2 y3 y4 y5 y6
   unfold impl_IsModularCut.l0
   repeat' first
   | (with_reducible exact ih0 _ _ _ _)
   | (with_reducible exact ih1 _ _ _ _ _ _ _)
   | (with_reducible exact ih2 _ _ _ _ _ _ _ _ _ _ _)
   | (with_reducible exact ih3 _ _ _ _ _ _ _ _ _ _ _)
   | (with_reducible exact impl_HasSet.mono _ _ _)
   | (with_reducible exact impl_IsFamily.mono _ _ _)
   | (with_reducible exact impl_IsMatroid.mono _ _ _)
   | (with_reducible exact impl_flatsIn.mono _ _ _)
   | (with_reducible exact impl_rankIn.mono _ _ _ _)
   | (with_reducible exact LeO.refl _)
   | (with_reducible exact LeO.none _)
   | (with_reducible refine LeO.ite ?_ ?_)
   | (with_reducible refine LeO.bind ?_ (fun _ => ?_))
   | exact ih0 _ _ _ _
   | exact ih1 _ _ _ _ _ _ _
   | exact ih2 _ _ _ _ _ _ _ _ _ _ _
   | exact ih3 _ _ _ _ _ _ _ _ _ _ _
   | exact impl_HasSet.mono _ _ _
   | exact impl_IsFamily.mono _ _ _
   | exact impl_IsMatroid.mono _ _ _
   | exact impl_flatsIn.mono _ _ _
   | exact impl_rankIn.mono _ _ _ _
   | exact LeO.none _
   | refine LeO.ite ?_ ?_
   | refine LeO.bind ?_ (fun _ => ?_)
  ·intro y0 y1 y2 y3 y4 y5 y6 y7 y8 y9 y10
   unfold impl_IsModularCut.l1
   repeat' first
   | (with_reducible exact ih0 _ _ _ _)
   | (with_reducible exact ih1 _ _ _ _ _ _ _)
   | (with_reducible exact ih2 _ _ _ _ _ _ _ _ _ _ _)
   | (with_reducible exact ih3 _ _ _ _ _ _ _ _ _ _ _)
   | (with_reducible exact impl_HasSet.mono _ _ _)
   | (with_reducible exact impl_IsFamily.mono _ _ _)
   | (with_reducible exact impl_IsMatroid.mono _ _ _)
   | (with_reducible exact impl_flatsIn.mono _ _ _)
   | (with_reducible exact impl_rankIn.mono _ _ _ _)
   | (with_reducible exact LeO.refl _)
   | (with_reducible exact LeO.none _)
   | (with_reducible refine LeO.ite ?_ ?_)
   | (with_reducible refine LeO.bind ?_ (fun _ => ?_))
   | exact ih0 _ _ _ _
   | exact ih1 _ _ _ _ _ _ _
   | exact ih2 _ _ _ _ _ _ _ _ _ _ _
   | exact ih3 _ _ _ _ _ _ _ _ _ _ _
   | exact impl_HasSet.mono _ _ _
   | exact impl_IsFamily.mono _ _ _
   | exact impl_IsMatroid.mono _ _ _
   | exact impl_flatsIn.mono _ _ _
   | exact impl_rankIn.mono _ _ _ _
   | exact LeO.none _
   | refine LeO.ite ?_ ?_
   | refine LeO.bind ?_ (fun _ => ?_)
  ·intro y0 y1 y2 y3 y4 y5 y6 y7 y8 y9 y10
   unfold impl_IsModularCut.l2
   repeat' first
   | (with_reducible exact ih0 _ _ _ _)
   | (with_reducible exact ih1 _ _ _ _ _ _ _)
   | (with_reducible exact ih2 _ _ _ _ _ _ _ _ _ _ _)
   | (with_reducible exact ih3 _ _ _ _ _ _ _ _ _ _ _)
   | (with_reducible exact impl_HasSet.mono _ _ _)
   | (with_reducible exact impl_IsFamily.mono _ _ _)
   | (with_reducible exact impl_IsMatroid.mono _ _ _)
   | (with_reducible exact impl_flatsIn.mono _ _ _)
   | (with_reducible exact impl_rankIn.mono _ _ _ _)
   | (with_reducible exact LeO.refl _)
   | (with_reducible exact LeO.none _)
   | (with_reducible refine LeO.ite ?_ ?_)
   | (with_reducible refine LeO.bind ?_ (fun _ => ?_))
   | exact ih0 _ _ _ _
   | exact ih1 _ _ _ _ _ _ _
   | exact ih2 _ _ _ _ _ _ _ _ _ _ _
   | exact ih3 _ _ _ _ _ _ _ _ _ _ _
   | exact impl_HasSet.mono _ _ _
   | exact impl_IsFamily.mono _ _ _
   | exact impl_IsMatroid.mono _ _ _
   | exact impl_flatsIn.mono _ _ _
   | exact impl_rankIn.mono _ _ _ _
   | exact LeO.none _
   | refine LeO.ite ?_ ?_
   | refine LeO.bind ?_ (fun _ => ?_)
theorem impl_IsModularCut.mono : ∀ a0 a1 a2 k, LeO (impl_IsModularCut.f k a0 a1 a2) (impl_IsModularCut.f (k + 1) a0 a1 a2) := by
 intro a0 a1 a2 k
 obtain ⟨ih0, ih1, ih2, ih3⟩ := impl_IsModularCut.mono_l k
 unfold impl_IsModularCut.f
 repeat' first
   | (with_reducible exact ih0 _ _ _ _)
   | (with_reducible exact ih1 _ _ _ _ _ _ _)
   | (with_reducible exact ih2 _ _ _ _ _ _ _ _ _ _ _)
   | (with_reducible exact ih3 _ _ _ _ _ _ _ _ _ _ _)
   | (with_reducible exact impl_HasSet.mono _ _ _)
   | (with_reducible exact impl_IsFamily.mono _ _ _)
   | (with_reducible exact impl_IsMatroid.mono _ _ _)
   | (with_reducible exact impl_flatsIn.mono _ _ _)
   | (with_reducible exact impl_rankIn.mono _ _ _ _)
   | (with_reducible exact LeO.refl _)
   | (with_reducible exact LeO.none _)
   | (with_reducible refine LeO.ite ?_ ?_)
   | (with_reducible refine LeO.bind ?_ (fun _ => ?_))
   | exact ih0 _ _ _ _
   | exact ih1 _ _ _ _ _ _ _
   | exact ih2 _ _ _ _ _ _ _ _ _ _ _
   | exact ih3 _ _ _ _ _ _ _ _ _ _ _
   | exact impl_HasSet.mono _ _ _
   | exact impl_IsFamily.mono _ _ _
   | exact impl_IsMatroid.mono _ _ _
   | exact impl_flatsIn.mono _ _ _
   | exact impl_rankIn.mono _ _ _ _
   | exact LeO.none _
   | refine LeO.ite ?_ ?_
   | refine LeO.bind ?_ (fun _ => ?_)
def impl_IsModularCut.T18 : Bool × List (List Nat × List Nat) := (true, [([], []), ([], []), ([0, 1], [0, 1]), ([], []), ([], []), ([3, 4, 2], [3, 4]), ([2, 5], [2, 5]), ([], []), ([], []), ([], []), ([8, 9], [8, 9]), ([7, 10, 5], [7, 10]), ([], []), ([], []), ([], []), ([13, 14], [13, 14]), ([12, 15, 11], [12, 15]), ([11, 16], [11, 16]), ([6, 17], [6, 17]), ([18, 16, 0, 1, 2, 3, 4, 5, 6, 7, 8, 9, 10, 11, 12, 13, 14, 15, 16, 17, 18], [18])])
def impl_IsModularCut.B18 : List Nat := [0, 0, 3, 0, 0, 31, 63, 0, 0, 0, 768, 1983, 0, 0, 0, 24576, 65471, 131007, 262143, 524287]
theorem impl_IsModularCut.tab18 : rtab .any (opsOf Try.f22 18) = impl_IsModularCut.T18 := by kernel_rfl
theorem impl_IsModularCut.bits18 : waitsOk impl_IsModularCut.T18.2 impl_IsModularCut.B18 = true := by kernel_rfl
set_option maxHeartbeats 8000000 in
set_option maxRecDepth 100000 in
theorem impl_IsModularCut.calls (k : Nat) (a0_0 : Int) (A0_1 : Option Addr) (c0_1 : Nat) (l0_1 : List Int) (A1 : Option Addr) (c1 : Nat) (l1 : List Int) (r : Bool) (w : World) (hr0_1 : Kd.C (Kd.int .i64) w A0_1 l0_1.length l0_1) (hc0_1 : l0_1.length ≤ c0_1) (hr1 : Kd.C (Kd.int .i64) w A1 l1.length l1) (hc1 : l1.length ≤ c1) (h : impl_IsModularCut.f k a0_0 l0_1 l1 = some r) :
  Calls Try.prog 22 #[.agg #[.int .i64 a0_0, .slice A0_1 l0_1.length c0_1], .slice A1 l1.length c1] w fun e w' => e = .returned (.bool r) ∧ Below w.heap.size w w' := by
 have hu28 := Try.underlying28
 have HR0_1 := aQ hr0_1
 have HC0_1 := aQ hc0_1
 clear hr0_1 hc0_1
 have HR1 := aQ hr1
 have HC1 := aQ hc1
 clear hr1 hc1
 have HB := aQ (Below.refl w.heap.size w)
 have H : ((impl_IsMatroid.f k a0_0 l0_1).bind fun t23002 => (if t23002 = true then ((impl_IsFamily.f k a0_0 l1).bind fun t23003 => (impl_IsModularCut.j0 k l1 (!t23003) a0_0 l0_1)) else (impl_IsModularCut.j0 k l1 true a0_0 l0_1))) = some r := h
 clear h
 have HC3 := aQ H
 clear H
 go_enter Try.func22, Try.ntmps22
 go_upto_region 1 with (first | ((with_reducible refine gate_dst (N := 2) rfl ?_); refine box_event ?hg (N := 2) ?hd (cs := #[.int .i64 a0_0, .slice A0_1 l0_1.length c0_1]) (t := 28) ?hr ?_; (case hd => rfl); (case hg => rfl); (case hr => first | (go_simp; done) | (go_simp; rfl)); intro gb23001 hg w4 hbox hb; have BK23001 := aQ (hbox); have GW23001 := aQ ((by rw [hg]; exact (below_size (pB HB.out)) : w.heap.size ≤ gb23001)); have GE23001 := aQ ((by rw [hg]; exact (below_size (pB HB.out)) : w.heap.size ≤ gb23001)); replace HB := aQ (below_step (pB HB.out) hb); clear hb hbox hg))
 (try simp only [Act.put, List.setIfInBounds_toArray, List.set_cons_zero, List.set_cons_succ])
 go_cut [22] (fun v22 wc => ∃ (kq : Nat) (x22_2 : Bool), v22 = .bool x22_2 ∧ Aside0 (impl_IsModularCut.j0 kq l1 x22_2 a0_0 l0_1 = some r) ∧ Aside0 (kq ≤ k) ∧ Aside0 (wc.heap[gb23001]? = some (.cells #[.int .i64 a0_0, (.slice A0_1 l0_1.length c0_1)] 28 (0, 0))) ∧ Aside0 (Below w.heap.size w wc))
 case first =>
  have H := HC3.out
  clear HC3
  replace H := Option.bind_eq_some_iff.mp H
  obtain ⟨t23002, A50, H⟩ := H
  replace H : (if t23002 = true then ((impl_IsFamily.f k a0_0 l1).bind fun t23003 => (impl_IsModularCut.j0 k l1 (!t23003) a0_0 l0_1)) else (impl_IsModularCut.j0 k l1 true a0_0 l0_1)) = some r := H
  have A5 := aQ A50
  clear A50
  by_cases c6 : t23002 = true
  ·subst c6
   have H1 : ((impl_IsFamily.f k a0_0 l1).bind fun t23003 => (impl_IsModularCut.j0 k l1 (!t23003) a0_0 l0_1)) = some r := by rw [if_pos rfl] at H; exact H
   clear H
   have H := H1
   clear H1
   replace H := Option.bind_eq_some_iff.mp H
   obtain ⟨t23003, A70, H⟩ := H
   replace H : (impl_IsModularCut.j0 k l1 (!t23003) a0_0 l0_1) = some r := H
   have A7 := aQ A70
   clear A70
   have H' := aQ H
   clear H
   have hcz8_0 := bc (v := (.int .i64 a0_0)) BK23001.out 0
   have hcz8_1 := bc (v := (.slice A0_1 l0_1.length c0_1)) BK23001.out 1
   have hfz8_0 := blk_frozen BK23001.out 0
   have hfz8_1 := blk_frozen BK23001.out 1
   go_wp2_with (first | ((with_reducible refine gate_callee (f := 21) rfl ?_); refine goesL_ (some 14) rfl rfl Try.func21 (by kernel_rfl) rfl #[.agg #[.int .i64 a0_0, .slice A0_1 l0_1.length c0_1]] rfl lm ?_; (with_reducible refine (impl_IsMatroid.calls k a0_0 _ _ l0_1 true _ ?side1 ?side2 A5.out).mono ?_); (case side1 => exact pC (Kd.C_below HR0_1.out HB.out)); (case side2 => exact HC0_1.out); rintro e w9 ⟨rfl, hb⟩; refine ⟨_, rfl, ?_⟩; replace BK23001 := aQ (blk_below (g := gb23001) (o := .cells #[.int .i64 a0_0, .slice A0_1 l0_1.length c0_1] 28 (0, 0)) (pk BK23001.out) hb); replace HB := aQ (below_step (pB1 HB.out GE23001.out) hb); (try clear hb); have hcz10_0 := bc (v := (.int .i64 a0_0)) BK23001.out 0; have hcz10_1 := bc (v := (.slice A0_1 l0_1.length c0_1)) BK23001.out 1; have hfz10_0 := blk_frozen BK23001.out 0; have hfz10_1 := blk_frozen BK23001.out 1) | (go_at_call 35; (with_reducible refine (impl_IsFamily.calls k a0_0 _ _ l1 t23003 _ ?side1 ?side2 A7.out).mono ?_); (case side1 => exact pC (Kd.C_below HR1.out HB.out)); (case side2 => exact HC1.out); rintro e w' ⟨rfl, ⟨nd, rfl⟩⟩))
   go_meet
   case rel => exact ⟨_, (!t23003), rs_, H', ⟨by first | omega | exact Nat.le_refl _⟩, ⟨pk BK23001.out⟩, ⟨pB1 HB.out GE23001.out⟩⟩
  ·replace c6 := Bool.eq_false_iff.mpr c6
   subst c6
   have H1 : (impl_IsModularCut.j0 k l1 true a0_0 l0_1) = some r := by rw [if_neg (show ¬ (false = true) by decide)] at H; exact H
   clear H
   have H := H1
   clear H1
   have H' := aQ H
   clear H
   have hcz11_0 := bc (v := (.int .i64 a0_0)) BK23001.out 0
   have hcz11_1 := bc (v := (.slice A0_1 l0_1.length c0_1)) BK23001.out 1
   have hfz11_0 := blk_frozen BK23001.out 0
   have hfz11_1 := blk_frozen BK23001.out 1
   go_wp2_with (first | ((with_reducible refine gate_callee (f := 21) rfl ?_); refine goesL_ (some 14) rfl rfl Try.func21 (by kernel_rfl) rfl #[.agg #[.int .i64 a0_0, .slice A0_1 l0_1.length c0_1]] rfl lm ?_; (with_reducible refine (impl_IsMatroid.calls k a0_0 _ _ l0_1 false _ ?side1 ?side2 A5.out).mono ?_); (case side1 => exact pC (Kd.C_below HR0_1.out HB.out)); (case side2 => exact HC0_1.out); rintro e w12 ⟨rfl, hb⟩; refine ⟨_, rfl, ?_⟩; replace BK23001 := aQ (blk_below (g := gb23001) (o := .cells #[.int .i64 a0_0, .slice A0_1 l0_1.length c0_1] 28 (0, 0)) (pk BK23001.out) hb); replace HB := aQ (below_step (pB1 HB.out GE23001.out) hb); (try clear hb)))
   go_meet
   case rel => exact ⟨_, (true), rs_, H', ⟨by first | omega | exact Nat.le_refl _⟩, ⟨pk BK23001.out⟩, ⟨pB1 HB.out GE23001.out⟩⟩
 case rest =>
  clear HC3
  try clear c1
  try clear c2
  try clear p2
  try clear c6
  try clear hcz10_0
  try clear hcz10_1
  try clear hcz11_0
  try clear hcz11_1
  try clear hcz8_0
  try clear hcz8_1
  try clear hfz10_0
  try clear hfz10_1
  try clear hfz11_0
  try clear hfz11_1
  try clear hfz8_0
  try clear hfz8_1
  obtain ⟨kq, x22_2, rfl, HA, HJ2, BK23001, HB⟩ := hcut
  cases kq with
  | zero => exact absurd HA.out (by simp [impl_IsModularCut.j0])
  | succ kj2 =>
   have H := HA.out
   clear HA
   simp only [impl_IsModularCut.j0] at H
   by_cases c13 : x22_2 = true
   ·subst c13
    have H1 : (some false) = some r := by rw [if_pos rfl] at H; exact H
    clear H
    have H := H1
    clear H1
    obtain rfl := Option.some.inj H
    go_wp2
    go_ret
    exact ⟨re_, pB1 HB.out GE23001.out⟩
   ·replace c13 := Bool.eq_false_iff.mpr c13
    subst c13
    have H1 : ((impl_flatsIn.f kj2 a0_0 l0_1).bind fun t23004 => (impl_IsModularCut.l0 kj2 l1 t23004 l1 (l1.length : Int) 0 a0_0 l0_1)) = some r := by rw [if_neg (show ¬ (false = true) by decide)] at H; exact H
    clear H
    have H := H1
    clear H1
    replace H := Option.bind_eq_some_iff.mp H
    obtain ⟨t23004, A140, H⟩ := H
    replace H : (impl_IsModularCut.l0 kj2 l1 t23004 l1 (l1.length : Int) 0 a0_0 l0_1) = some r := H
    have A14 := aQ A140
    clear A140
    have H' := aQ H
    clear H
    have hcz15_0 := bc (v := (.int .i64 a0_0)) BK23001.out 0
    have hcz15_1 := bc (v := (.slice A0_1 l0_1.length c0_1)) BK23001.out 1
    have hfz15_0 := blk_frozen BK23001.out 0
    have hfz15_1 := blk_frozen BK23001.out 1
    go_wp2_with (first | ((with_reducible refine gate_callee (f := 33) rfl ?_); refine goesL_ (some 24) rfl rfl Try.func33 (by kernel_rfl) rfl #[.agg #[.int .i64 a0_0, .slice A0_1 l0_1.length c0_1]] rfl lm ?_; (with_reducible refine (impl_flatsIn.calls kj2 a0_0 _ _ l0_1 t23004 _ ?side1 ?side2 A14.out).mono ?_); (case side1 => exact pC (Kd.C_below HR0_1.out HB.out)); (case side2 => exact HC0_1.out); rintro e w16 ⟨v23005, rfl, ho0, hb⟩; refine ⟨_, rfl, ?_⟩; have HO23006 := aQ (Kd.R_lower ho0 (below_size (pB1 HB.out GE23001.out))); replace BK23001 := aQ (blk_below (g := gb23001) (o := .cells #[.int .i64 a0_0, .slice A0_1 l0_1.length c0_1] 28 (0, 0)) (pk BK23001.out) hb); replace HB := aQ (below_step (pB1 HB.out GE23001.out) hb); (try clear hb); (try clear ho0)))
    go_loopg [27] kj2 (fun kq v27 w' => ∃ (x27_2 : Int), v27 = .int .i64 x27_2 ∧ Aside0 (impl_IsModularCut.l0 kq l1 t23004 l1 (l1.length : Int) x27_2 a0_0 l0_1 = some r) ∧ Aside0 (kq ≤ kj2) ∧ Aside0 (Kd.R (Kd.int .i64) 3 w' w.heap.size (fun _ => True) v23005 t23004) ∧ Aside0 (w'.heap[gb23001]? = some (.cells #[.int .i64 a0_0, (.slice A0_1 l0_1.length c0_1)] 28 (0, 0))) ∧ Aside0 (Below w.heap.size w w'))
    case atStart => exact ⟨(0), rs_, H', ⟨Nat.le_refl _⟩, ⟨pR HO23006.out⟩, ⟨pk BK23001.out⟩, ⟨pB1 HB.out GE23001.out⟩⟩
    case round =>
     clear H'
     try clear c1
     try clear c2
     try clear p2
     try clear c3
     try clear c6
     try clear c13
     try clear hcz10_0
     try clear hcz10_1
     try clear hcz11_0
     try clear hcz11_1
     try clear hcz15_0
     try clear hcz15_1
     try clear hcz8_0
     try clear hcz8_1
     try clear hfz10_0
     try clear hfz10_1
     try clear hfz11_0
     try clear hfz11_1
     try clear hfz15_0
     try clear hfz15_1
     try clear hfz8_0
     try clear hfz8_1
     try clear p2
     obtain ⟨x27_2, rfl, HA, HK2, HO_5, BK23001, HB⟩ := hrel
     cases gk with
     | zero => exact absurd HA.out (by simp [impl_IsModularCut.l0])
     | succ k2 =>
      have H := HA.out
      clear HA
      simp only [impl_IsModularCut.l0] at H
      by_cases c17 : x27_2 < (l1.length : Int)
      ·rw [if_pos c17] at H
       have c17b0 : decide (x27_2 < (l1.length : Int)) = true := decide_eq_true c17
       clear c17
       by_cases c18 : 0 ≤ x27_2
       ·rw [if_pos c18] at H
        have c18b0 : decide (0 ≤ x27_2) = true := decide_eq_true c18
        clear c18
        by_cases c19 : x27_2 < (l1.length : Int)
        ·rw [if_pos c19] at H
         have c19b0 : decide (x27_2 < (l1.length : Int)) = true := decide_eq_true c19
         clear c19
         replace H := Option.bind_eq_some_iff.mp H
         obtain ⟨t23008, A200, H⟩ := H
         replace H : (if t23008 = true then (impl_IsModularCut.l1 k2 l1 t23004 (rd l1 x27_2) l1 (l1.length : Int) x27_2 t23004 (t23004.length : Int) 0 a0_0 l0_1) else (some false)) = some r := H
         have A20 := aQ A200
         clear A200
         by_cases c21 : t23008 = true
         ·subst c21
          have H1 : (impl_IsModularCut.l1 k2 l1 t23004 (rd l1 x27_2) l1 (l1.length : Int) x27_2 t23004 (t23004.length : Int) 0 a0_0 l0_1) = some r := by rw [if_pos rfl] at H; exact H
          clear H
          have H := H1
          clear H1
          have H' := aQ H
          clear H
          have p23007 : 0 ≤ (x27_2 : Int) := of_decide_eq_true as_
          have q23007 : x27_2 < (l1.length : Int) := of_decide_eq_true as_
          obtain ⟨ad23007, e23007, hx23007_0⟩ := Kd.at_int HR1.out x27_2 p23007 q23007
          cases e23007
          replace hx23007_0 := (HB.out.cell (World.block_lt_of_cell? w _ hx23007_0)).trans hx23007_0
          replace p23007 := eq_true p23007
          replace q23007 := eq_true q23007
          obtain ⟨Ao22, co22, eo22⟩ := Kd.R_slice HO_5.out
          subst eo22
          go_wp2_with (first | ((with_reducible refine gate_callee (f := 36) rfl ?_); refine goesL_ (some 33) rfl rfl Try.func36 (by kernel_rfl) rfl #[.slice Ao22 t23004.length co22, .int .i64 (rd l1 x27_2)] rfl lm ?_; (with_reducible refine (impl_HasSet.calls k2 _ _ t23004 (rd l1 x27_2) true _ ?side1 ?side2 A20.out).mono ?_); (case side1 => repeat (first | exact (Kd.R_reads' HO_5.out).2.2 | (with_reducible refine Kd.C_alloc ?_ _) | (with_reducible refine Kd.C_drewN ?_ _) | (with_reducible refine Kd.C_drew ?_))); (case side2 => exact (Kd.R_reads' HO_5.out).2.1); rintro e w' ⟨rfl, ⟨nd, rfl⟩⟩; refine ⟨_, rfl, ?_⟩))
          go_loopg [37] k2 (fun kq v37 w' => ∃ (x37_3 : Int), v37 = .int .i64 x37_3 ∧ Aside0 (impl_IsModularCut.l1 kq l1 t23004 (rd l1 x27_2) l1 (l1.length : Int) x27_2 t23004 (t23004.length : Int) x37_3 a0_0 l0_1 = some r) ∧ Aside0 (kq ≤ k2) ∧ Aside0 (Kd.R (Kd.int .i64) 3 w' w.heap.size (fun _ => True) (.slice Ao22 t23004.length co22) t23004) ∧ Aside0 (Kd.R (Kd.int .i64) 3 w' w.heap.size (fun _ => True) (.slice Ao22 t23004.length co22) t23004) ∧ Aside0 (w'.heap[gb23001]? = some (.cells #[.int .i64 a0_0, (.slice A0_1 l0_1.length c0_1)] 28 (0, 0))) ∧ Aside0 (Below w.heap.size w w'))
          case atStart => exact ⟨(0), rs_, H', ⟨Nat.le_refl _⟩, ⟨pR HO_5.out⟩, ⟨pR HO_5.out⟩, ⟨pk BK23001.out⟩, ⟨pB1 HB.out GE23001.out⟩⟩
          case round =>
           clear H'
           try clear c1
           try clear c2
           try clear p2
           try clear q2
           try clear hx2
           try clear c3
           try clear c6
           try clear c13
           try clear c17
           try clear c17b0
           try clear c18
           try clear c18b0
           try clear c19
           try clear c19b0
           try clear c21
           try clear c22
           try clear hcz10_0
           try clear hcz10_1
           try clear hcz11_0
           try clear hcz11_1
           try clear hcz15_0
           try clear hcz15_1
           try clear hcz8_0
           try clear hcz8_1
           try clear hfz10_0
           try clear hfz10_1
           try clear hfz11_0
           try clear hfz11_1
           try clear hfz15_0
           try clear hfz15_1
           try clear hfz8_0
           try clear hfz8_1
           try clear hx23007_0
           try clear p2
           try clear p23007
           try clear q23007
           obtain ⟨x37_3, rfl, HA, HK3, HO_5, HO_35, BK23001, HB⟩ := hrel
           cases gk with
           | zero => exact absurd HA.out (by simp [impl_IsModularCut.l1])
           | succ k3 =>
            have H := HA.out
            clear HA
            simp only [impl_IsModularCut.l1] at H
            by_cases c23 : x37_3 < (t23004.length : Int)
            ·rw [if_pos c23] at H
             have c23b0 : decide (x37_3 < (t23004.length : Int)) = true := decide_eq_true c23
             clear c23
             by_cases c24 : 0 ≤ x37_3
             ·rw [if_pos c24] at H
              have c24b0 : decide (0 ≤ x37_3) = true := decide_eq_true c24
              clear c24
              by_cases c25 : x37_3 < (t23004.length : Int)
              ·rw [if_pos c25] at H
               have c25b0 : decide (x37_3 < (t23004.length : Int)) = true := decide_eq_true c25
               clear c25
               replace H := Option.bind_eq_some_iff.mp H
               obtain ⟨t23010, A260, H⟩ := H
               replace H : (if t23010 = true then ((impl_HasSet.f k3 l1 (rd t23004 x37_3)).bind fun t23011 => (if t23011 = true then (impl_IsModularCut.l1 k3 l1 t23004 (rd l1 x27_2) l1 (l1.length : Int) x27_2 t23004 (t23004.length : Int) (wrap64 (x37_3 + 1)) a0_0 l0_1) else (some false))) else (impl_IsModularCut.l1 k3 l1 t23004 (rd l1 x27_2) l1 (l1.length : Int) x27_2 t23004 (t23004.length : Int) (wrap64 (x37_3 + 1)) a0_0 l0_1)) = some r := H
               have A26 := aQ A260
               clear A260
               by_cases c27 : t23010 = true
               ·subst c27
                have H1 : ((impl_HasSet.f k3 l1 (rd t23004 x37_3)).bind fun t23011 => (if t23011 = true then (impl_IsModularCut.l1 k3 l1 t23004 (rd l1 x27_2) l1 (l1.length : Int) x27_2 t23004 (t23004.length : Int) (wrap64 (x37_3 + 1)) a0_0 l0_1) else (some false))) = some r := by rw [if_pos rfl] at H; exact H
                clear H
                have H := H1
                clear H1
                replace H := Option.bind_eq_some_iff.mp H
                obtain ⟨t23011, A280, H⟩ := H
                replace H : (if t23011 = true then (impl_IsModularCut.l1 k3 l1 t23004 (rd l1 x27_2) l1 (l1.length : Int) x27_2 t23004 (t23004.length : Int) (wrap64 (x37_3 + 1)) a0_0 l0_1) else (some false)) = some r := H
                have A28 := aQ A280
                clear A280
                by_cases c29 : t23011 = true
                ·subst c29
                 have H1 : (impl_IsModularCut.l1 k3 l1 t23004 (rd l1 x27_2) l1 (l1.length : Int) x27_2 t23004 (t23004.length : Int) (wrap64 (x37_3 + 1)) a0_0 l0_1) = some r := by rw [if_pos rfl] at H; exact H
                 clear H
                 have H := H1
                 clear H1
                 have H' := aQ H
                 clear H
                 have p23009 : 0 ≤ (x37_3 : Int) := of_decide_eq_true as_
                 have q23009 : x37_3 < (t23004.length : Int) := of_decide_eq_true as_
                 obtain ⟨ad23009, e23009, hx23009_0⟩ := Kd.at_int (Kd.R_reads' HO_35.out).2.2 x37_3 p23009 q23009
                 cases e23009
                 replace p23009 := eq_true p23009
                 replace q23009 := eq_true q23009
                 go_wp2_with (first | ((with_reducible refine gate_callee (f := 37) rfl ?_); refine goesL_ (some 43) rfl rfl Try.func37 (by kernel_rfl) rfl #[.int .i64 (rd l1 x27_2), .int .i64 (rd t23004 x37_3)] rfl lm ?_; (with_reducible refine (impl_IsSubset.calls (rd l1 x27_2) (rd t23004 x37_3) true _ A26.out).mono ?_); rintro e w' ⟨rfl, ⟨nd, rfl⟩⟩; refine ⟨_, rfl, ?_⟩) | (go_at_call 36; (with_reducible refine (impl_HasSet.calls k3 _ _ l1 (rd t23004 x37_3) true _ ?side1 ?side2 A28.out).mono ?_); (case side1 => repeat (first | exact (Kd.C_below HR1.out (pB1 HB.out GE23001.out)) | (with_reducible refine Kd.C_alloc ?_ _) | (with_reducible refine Kd.C_drewN ?_ _) | (with_reducible refine Kd.C_drew ?_))); (case side2 => exact HC1.out); rintro e w' ⟨rfl, ⟨nd, rfl⟩⟩))
                 go_roundg k3
                 case measure => have := HJ2.out; have := HK2.out; have := HK3.out; omega
                 case rel => exact ⟨(wrap64 (x37_3 + 1)), rs_, H', ⟨by have := HJ2.out; have := HK2.out; have := HK3.out; omega⟩, ⟨pR HO_5.out⟩, ⟨pR HO_35.out⟩, ⟨pk BK23001.out⟩, ⟨pB1 HB.out GE23001.out⟩⟩
                ·replace c29 := Bool.eq_false_iff.mpr c29
                 subst c29
                 have H1 : (some false) = some r := by rw [if_neg (show ¬ (false = true) by decide)] at H; exact H
                 clear H
                 have H := H1
                 clear H1
                 obtain rfl := Option.some.inj H
                 have p23009 : 0 ≤ (x37_3 : Int) := of_decide_eq_true as_
                 have q23009 : x37_3 < (t23004.length : Int) := of_decide_eq_true as_
                 obtain ⟨ad23009, e23009, hx23009_0⟩ := Kd.at_int (Kd.R_reads' HO_35.out).2.2 x37_3 p23009 q23009
                 cases e23009
                 replace p23009 := eq_true p23009
                 replace q23009 := eq_true q23009
                 go_wp2_with (first | ((with_reducible refine gate_callee (f := 37) rfl ?_); refine goesL_ (some 43) rfl rfl Try.func37 (by kernel_rfl) rfl #[.int .i64 (rd l1 x27_2), .int .i64 (rd t23004 x37_3)] rfl lm ?_; (with_reducible refine (impl_IsSubset.calls (rd l1 x27_2) (rd t23004 x37_3) true _ A26.out).mono ?_); rintro e w' ⟨rfl, ⟨nd, rfl⟩⟩; refine ⟨_, rfl, ?_⟩) | (go_at_call 36; (with_reducible refine (impl_HasSet.calls k3 _ _ l1 (rd t23004 x37_3) false _ ?side1 ?side2 A28.out).mono ?_); (case side1 => repeat (first | exact (Kd.C_below HR1.out (pB1 HB.out GE23001.out)) | (with_reducible refine Kd.C_alloc ?_ _) | (with_reducible refine Kd.C_drewN ?_ _) | (with_reducible refine Kd.C_drew ?_))); (case side2 => exact HC1.out); rintro e w' ⟨rfl, ⟨nd, rfl⟩⟩))
                 go_ret
                 exact ⟨re_, pB1 HB.out GE23001.out⟩
               ·replace c27 := Bool.eq_false_iff.mpr c27
                subst c27
                have H1 : (impl_IsModularCut.l1 k3 l1 t23004 (rd l1 x27_2) l1 (l1.length : Int) x27_2 t23004 (t23004.length : Int) (wrap64 (x37_3 + 1)) a0_0 l0_1) = some r := by rw [if_neg (show ¬ (false = true) by decide)] at H; exact H
                clear H
                have H := H1
                clear H1
                have H' := aQ H
                clear H
                have p23009 : 0 ≤ (x37_3 : Int) := of_decide_eq_true as_
                have q23009 : x37_3 < (t23004.length : Int) := of_decide_eq_true as_
                obtain ⟨ad23009, e23009, hx23009_0⟩ := Kd.at_int (Kd.R_reads' HO_35.out).2.2 x37_3 p23009 q23009
                cases e23009
                replace p23009 := eq_true p23009
                replace q23009 := eq_true q23009
                go_wp2_with (first | ((with_reducible refine gate_callee (f := 37) rfl ?_); refine goesL_ (some 43) rfl rfl Try.func37 (by kernel_rfl) rfl #[.int .i64 (rd l1 x27_2), .int .i64 (rd t23004 x37_3)] rfl lm ?_; (with_reducible refine (impl_IsSubset.calls (rd l1 x27_2) (rd t23004 x37_3) false _ A26.out).mono ?_); rintro e w' ⟨rfl, ⟨nd, rfl⟩⟩; refine ⟨_, rfl, ?_⟩))
                go_roundg k3
                case measure => have := HJ2.out; have := HK2.out; have := HK3.out; omega
                case rel => exact ⟨(wrap64 (x37_3 + 1)), rs_, H', ⟨by have := HJ2.out; have := HK2.out; have := HK3.out; omega⟩, ⟨pR HO_5.out⟩, ⟨pR HO_35.out⟩, ⟨pk BK23001.out⟩, ⟨pB1 HB.out GE23001.out⟩⟩
              ·rw [if_neg c25] at H
               exact absurd H (by simp)
             ·rw [if_neg c24] at H
              exact absurd H (by simp)
            ·rw [if_neg c23] at H
             have c23b0 : decide (x37_3 < (t23004.length : Int)) = false := decide_eq_false c23
             clear c23
             have H' := aQ H
             clear H
             go_wp2
             go_loopg [53] k3 (fun kq v53 w' => ∃ (x53_4 : Int), v53 = .int .i64 x53_4 ∧ Aside0 (impl_IsModularCut.l2 kq l1 t23004 (rd l1 x27_2) l1 (l1.length : Int) x27_2 l1 (l1.length : Int) x53_4 a0_0 l0_1 = some r) ∧ Aside0 (kq ≤ k3) ∧ Aside0 (Kd.R (Kd.int .i64) 3 w' w.heap.size (fun _ => True) (.slice Ao22 t23004.length co22) t23004) ∧ Aside0 (w'.heap[gb23001]? = some (.cells #[.int .i64 a0_0, (.slice A0_1 l0_1.length c0_1)] 28 (0, 0))) ∧ Aside0 (Below w.heap.size w w'))
             case atStart => exact ⟨(0), rs_, H', ⟨Nat.le_refl _⟩, ⟨pR HO_5.out⟩, ⟨pk BK23001.out⟩, ⟨pB1 HB.out GE23001.out⟩⟩
             case round =>
              clear H'
              try clear c1
              try clear c2
              try clear p2
              try clear q2
              try clear hx2
              try clear c3
              try clear c6
              try clear p6
              try clear c13
              try clear c17
              try clear c17b0
              try clear c18
              try clear c18b0
              try clear c19
              try clear c19b0
              try clear c21
              try clear c22
              try clear c23
              try clear c23b0
              try clear p23
              try clear q23
              try clear hx23
              try clear c24
              try clear c24b0
              try clear c25
              try clear c25b0
              try clear c27
              try clear c29
              try clear hcz10_0
              try clear hcz10_1
              try clear hcz11_0
              try clear hcz11_1
              try clear hcz15_0
              try clear hcz15_1
              try clear hcz8_0
              try clear hcz8_1
              try clear hfz10_0
              try clear hfz10_1
              try clear hfz11_0
              try clear hfz11_1
              try clear hfz15_0
              try clear hfz15_1
              try clear hfz8_0
              try clear hfz8_1
              try clear hx23007_0
              try clear hx23009_0
              try clear p2
              try clear p23007
              try clear p23009
              try clear q2
              try clear q23007
              try clear q23009
              obtain ⟨x53_4, rfl, HA, HK4, HO_5, BK23001, HB⟩ := hrel
              cases gk with
              | zero => exact absurd HA.out (by simp [impl_IsModularCut.l2])
              | succ k4 =>
               have H := HA.out
               clear HA
               simp only [impl_IsModularCut.l2] at H
               by_cases c30 : x53_4 < (l1.length : Int)
               ·rw [if_pos c30] at H
                have c30b0 : decide (x53_4 < (l1.length : Int)) = true := decide_eq_true c30
                clear c30
                by_cases c31 : 0 ≤ x53_4
                ·rw [if_pos c31] at H
                 have c31b0 : decide (0 ≤ x53_4) = true := decide_eq_true c31
                 clear c31
                 by_cases c32 : x53_4 < (l1.length : Int)
                 ·rw [if_pos c32] at H
                  have c32b0 : decide (x53_4 < (l1.length : Int)) = true := decide_eq_true c32
                  clear c32
                  replace H := Option.bind_eq_some_iff.mp H
                  obtain ⟨t23013, A330, H⟩ := H
                  replace H : ((impl_rankIn.f k4 a0_0 l0_1 (rd l1 x53_4)).bind fun t23014 => ((impl_rankIn.f k4 a0_0 l0_1 (Go.bits .and .i64 (rd l1 x27_2) (rd l1 x53_4))).bind fun t23015 => ((impl_rankIn.f k4 a0_0 l0_1 (Go.bits .or .i64 (rd l1 x27_2) (rd l1 x53_4))).bind fun t23016 => (if (wrap64 (t23013 + t23014)) = (wrap64 (t23015 + t23016)) then ((impl_HasSet.f k4 l1 (Go.bits .and .i64 (rd l1 x27_2) (rd l1 x53_4))).bind fun t23017 => (if t23017 = true then (impl_IsModularCut.l2 k4 l1 t23004 (rd l1 x27_2) l1 (l1.length : Int) x27_2 l1 (l1.length : Int) (wrap64 (x53_4 + 1)) a0_0 l0_1) else (some false))) else (impl_IsModularCut.l2 k4 l1 t23004 (rd l1 x27_2) l1 (l1.length : Int) x27_2 l1 (l1.length : Int) (wrap64 (x53_4 + 1)) a0_0 l0_1))))) = some r := H
                  have A33 := aQ A330
                  clear A330
                  replace H := Option.bind_eq_some_iff.mp H
                  obtain ⟨t23014, A340, H⟩ := H
                  replace H : ((impl_rankIn.f k4 a0_0 l0_1 (Go.bits .and .i64 (rd l1 x27_2) (rd l1 x53_4))).bind fun t23015 => ((impl_rankIn.f k4 a0_0 l0_1 (Go.bits .or .i64 (rd l1 x27_2) (rd l1 x53_4))).bind fun t23016 => (if (wrap64 (t23013 + t23014)) = (wrap64 (t23015 + t23016)) then ((impl_HasSet.f k4 l1 (Go.bits .and .i64 (rd l1 x27_2) (rd l1 x53_4))).bind fun t23017 => (if t23017 = true then (impl_IsModularCut.l2 k4 l1 t23004 (rd l1 x27_2) l1 (l1.length : Int) x27_2 l1 (l1.length : Int) (wrap64 (x53_4 + 1)) a0_0 l0_1) else (some false))) else (impl_IsModularCut.l2 k4 l1 t23004 (rd l1 x27_2) l1 (l1.length : Int) x27_2 l1 (l1.length : Int) (wrap64 (x53_4 + 1)) a0_0 l0_1)))) = some r := H
                  have A34 := aQ A340
                  clear A340
                  replace H := Option.bind_eq_some_iff.mp H
                  obtain ⟨t23015, A350, H⟩ := H
                  replace H : ((impl_rankIn.f k4 a0_0 l0_1 (Go.bits .or .i64 (rd l1 x27_2) (rd l1 x53_4))).bind fun t23016 => (if (wrap64 (t23013 + t23014)) = (wrap64 (t23015 + t23016)) then ((impl_HasSet.f k4 l1 (Go.bits .and .i64 (rd l1 x27_2) (rd l1 x53_4))).bind fun t23017 => (if t23017 = true then (impl_IsModularCut.l2 k4 l1 t23004 (rd l1 x27_2) l1 (l1.length : Int) x27_2 l1 (l1.length : Int) (wrap64 (x53_4 + 1)) a0_0 l0_1) else (some false))) else (impl_IsModularCut.l2 k4 l1 t23004 (rd l1 x27_2) l1 (l1.length : Int) x27_2 l1 (l1.length : Int) (wrap64 (x53_4 + 1)) a0_0 l0_1))) = some r := H
                  have A35 := aQ A350
                  clear A350
                  replace H := Option.bind_eq_some_iff.mp H
                  obtain ⟨t23016, A360, H⟩ := H
                  replace H : (if (wrap64 (t23013 + t23014)) = (wrap64 (t23015 + t23016)) then ((impl_HasSet.f k4 l1 (Go.bits .and .i64 (rd l1 x27_2) (rd l1 x53_4))).bind fun t23017 => (if t23017 = true then (impl_IsModularCut.l2 k4 l1 t23004 (rd l1 x27_2) l1 (l1.length : Int) x27_2 l1 (l1.length : Int) (wrap64 (x53_4 + 1)) a0_0 l0_1) else (some false))) else (impl_IsModularCut.l2 k4 l1 t23004 (rd l1 x27_2) l1 (l1.length : Int) x27_2 l1 (l1.length : Int) (wrap64 (x53_4 + 1)) a0_0 l0_1)) = some r := H
                  have A36 := aQ A360
                  clear A360
                  by_cases c37 : (wrap64 (t23013 + t23014)) = (wrap64 (t23015 + t23016))
                  ·rw [if_pos c37] at H
                   have c37b0 : ((wrap64 (t23013 + t23014)) == (wrap64 (t23015 + t23016))) = true := beq_iff_eq.mpr c37
                   have c37b1 : ((wrap64 (t23013 + t23014)) != (wrap64 (t23015 + t23016))) = false := bne_eq_false_iff_eq.mpr c37
                   clear c37
                   replace H := Option.bind_eq_some_iff.mp H
                   obtain ⟨t23017, A380, H⟩ := H
                   replace H : (if t23017 = true then (impl_IsModularCut.l2 k4 l1 t23004 (rd l1 x27_2) l1 (l1.length : Int) x27_2 l1 (l1.length : Int) (wrap64 (x53_4 + 1)) a0_0 l0_1) else (some false)) = some r := H
                   have A38 := aQ A380
                   clear A380
                   by_cases c39 : t23017 = true
                   ·subst c39
                    have H1 : (impl_IsModularCut.l2 k4 l1 t23004 (rd l1 x27_2) l1 (l1.length : Int) x27_2 l1 (l1.length : Int) (wrap64 (x53_4 + 1)) a0_0 l0_1) = some r := by rw [if_pos rfl] at H; exact H
                    clear H
                    have H := H1
                    clear H1
                    have H' := aQ H
                    clear H
                    have p23012 : 0 ≤ (x53_4 : Int) := of_decide_eq_true as_
                    have q23012 : x53_4 < (l1.length : Int) := of_decide_eq_true as_
                    obtain ⟨ad23012, e23012, hx23012_0⟩ := Kd.at_int HR1.out x53_4 p23012 q23012
                    obtain rfl : ad23007 = ad23012 := (by injection e23012)
                    replace hx23012_0 := (HB.out.cell (World.block_lt_of_cell? w _ hx23012_0)).trans hx23012_0
                    replace p23012 := eq_true p23012
                    replace q23012 := eq_true q23012
                    try go_wp2
                    have n0_ := aQ (Kd.R_drew HO_5.out)
                    have n1_ := aQ (blk_drew BK23001.out)
                    have n2_ := aQ (below_drew1 HB.out)
                    clear HO_5
                    clear BK23001
                    clear HB
                    have HO_5 := n0_
                    have BK23001 := n1_
                    have HB := n2_
                    clear n0_ n1_ n2_
                    refine start_ (n := 20) (S := fun w' => w'.cell? ⟨gb23001, 0, none⟩ = some (.int .i64 a0_0) ∧ w'.cell? ⟨gb23001, 1, none⟩ = some (.slice A0_1 l0_1.length c0_1)) (ds := []) #[false, false, false, false, false, false, false, false, false, false, false, false, false, false, false, false, false, false, false, false] (by kernel_rfl) rfl rfl ⟨(blk_cell BK23001.out 0).trans rfl, (blk_cell BK23001.out 1).trans rfl⟩ (fun hHeld => ?_); refine with_tabW impl_IsModularCut.tab18 impl_IsModularCut.bits18 (fun HT_ HW_ => ?_)
                    generalize wr.drew = w40 at HO_5 BK23001 HB hHeld ⊢
                    refine pure_ (i := 1) (N := some 58) (v := ?_) (a' := ?_) #[false, true, false, false, false, false, false, false, false, false, false, false, false, false, false, false, false, false, false, false] rfl rfl (any_of HT_.out (by kernel_rfl)) (fun _ _ _ h => h) (Or.inl ⟨by rfl, ?_⟩) ?_ ?_
                    rotate_left
                    ·intro w'
                     go_simp
                     with_reducible rfl
                    rotate_left
                    ·simp only [Act.put, List.setIfInBounds_toArray, List.set_cons_zero, List.set_cons_succ, i64_w, i32_w]
                     rfl
                    refine pure_ (i := 4) (N := some 61) (v := ?_) (a' := ?_) #[false, true, false, false, true, false, false, false, false, false, false, false, false, false, false, false, false, false, false, false] rfl rfl (any_of HT_.out (by kernel_rfl)) (fun _ _ _ h => h) (Or.inl ⟨by rfl, ?_⟩) ?_ ?_
                    rotate_left
                    ·intro w'
                     go_simp
                     with_reducible rfl
                    rotate_left
                    ·simp only [Act.put, List.setIfInBounds_toArray, List.set_cons_zero, List.set_cons_succ, i64_w, i32_w]
                     rfl
                    refine pure_ (i := 8) (N := some 65) (v := ?_) (a' := ?_) #[false, true, false, false, true, false, false, false, true, false, false, false, false, false, false, false, false, false, false, false] rfl rfl (any_of HT_.out (by kernel_rfl)) (fun _ _ _ h => h) (Or.inl ⟨by rfl, ?_⟩) ?_ ?_
                    rotate_left
                    ·intro w'
                     go_simp
                     with_reducible rfl
                    rotate_left
                    ·simp only [Act.put, List.setIfInBounds_toArray, List.set_cons_zero, List.set_cons_succ, i64_w, i32_w]
                     rfl
                    refine pure_ (i := 9) (N := some 66) (v := ?_) (a' := ?_) #[false, true, false, false, true, false, false, false, true, true, false, false, false, false, false, false, false, false, false, false] rfl rfl (any_of HT_.out (by kernel_rfl)) (fun _ _ _ h => h) (Or.inl ⟨by rfl, ?_⟩) ?_ ?_
                    rotate_left
                    ·intro w'
                     go_simp
                     with_reducible rfl
                    rotate_left
                    ·simp only [Act.put, List.setIfInBounds_toArray, List.set_cons_zero, List.set_cons_succ, i64_w, i32_w]
                     rfl
                    refine pure_ (i := 10) (N := some 67) (v := ?_) (a' := ?_) #[false, true, false, false, true, false, false, false, true, true, true, false, false, false, false, false, false, false, false, false] rfl rfl (any_of HT_.out (by kernel_rfl)) (fun _ _ _ h => h) (Or.inl ⟨by rfl, ?_⟩) ?_ ?_
                    rotate_left
                    ·intro w'
                     go_simp
                     with_reducible rfl
                    rotate_left
                    ·simp only [Act.put, List.setIfInBounds_toArray, List.set_cons_zero, List.set_cons_succ, i64_w, i32_w]
                     rfl
                    refine pure_ (i := 13) (N := some 70) (v := ?_) (a' := ?_) #[false, true, false, false, true, false, false, false, true, true, true, false, false, true, false, false, false, false, false, false] rfl rfl (any_of HT_.out (by kernel_rfl)) (fun _ _ _ h => h) (Or.inl ⟨by rfl, ?_⟩) ?_ ?_
                    rotate_left
                    ·intro w'
                     go_simp
                     with_reducible rfl
                    rotate_left
                    ·simp only [Act.put, List.setIfInBounds_toArray, List.set_cons_zero, List.set_cons_succ, i64_w, i32_w]
                     rfl
                    refine pure_ (i := 14) (N := some 71) (v := ?_) (a' := ?_) #[false, true, false, false, true, false, false, false, true, true, true, false, false, true, true, false, false, false, false, false] rfl rfl (any_of HT_.out (by kernel_rfl)) (fun _ _ _ h => h) (Or.inl ⟨by rfl, ?_⟩) ?_ ?_
                    rotate_left
                    ·intro w'
                     go_simp
                     with_reducible rfl
                    rotate_left
                    ·simp only [Act.put, List.setIfInBounds_toArray, List.set_cons_zero, List.set_cons_succ, i64_w, i32_w]
                     rfl
                    refine pure_ (i := 15) (N := some 72) (v := ?_) (a' := ?_) #[false, true, false, false, true, false, false, false, true, true, true, false, false, true, true, true, false, false, false, false] rfl rfl (any_of HT_.out (by kernel_rfl)) (fun _ _ _ h => h) (Or.inl ⟨by rfl, ?_⟩) ?_ ?_
                    rotate_left
                    ·intro w'
                     go_simp
                     with_reducible rfl
                    rotate_left
                    ·simp only [Act.put, List.setIfInBounds_toArray, List.set_cons_zero, List.set_cons_succ, i64_w, i32_w]
                     rfl
                    refine take_ (i := 0) (N := some 57) (v := ?_) (a' := ?_) #[true, true, false, false, true, false, false, false, true, true, true, false, false, true, true, true, false, false, false, false] rfl rfl (take_ofW HT_.out HW_.out (by kernel_rfl)) (fun _ _ _ h => h) (Or.inl ⟨by rfl, ?_⟩) hHeld ?_ ?_
                    rotate_left
                    ·rintro w' ⟨s0, s1⟩
                     go_simp
                     with_reducible rfl
                    rotate_left
                    ·simp only [Act.put, List.setIfInBounds_toArray, List.set_cons_zero, List.set_cons_succ, i64_w, i32_w]
                     rfl
                    refine take_ (i := 3) (N := some 60) (v := ?_) (a' := ?_) #[true, true, false, true, true, false, false, false, true, true, true, false, false, true, true, true, false, false, false, false] rfl rfl (take_ofW HT_.out HW_.out (by kernel_rfl)) (fun _ _ _ h => h) (Or.inl ⟨by rfl, ?_⟩) hHeld ?_ ?_
                    rotate_left
                    ·rintro w' ⟨s0, s1⟩
                     go_simp
                     with_reducible rfl
                    rotate_left
                    ·simp only [Act.put, List.setIfInBounds_toArray, List.set_cons_zero, List.set_cons_succ, i64_w, i32_w]
                     rfl
                    refine take_ (i := 7) (N := some 64) (v := ?_) (a' := ?_) #[true, true, false, true, true, false, false, true, true, true, true, false, false, true, true, true, false, false, false, false] rfl rfl (take_ofW HT_.out HW_.out (by kernel_rfl)) (fun _ _ _ h => h) (Or.inl ⟨by rfl, ?_⟩) hHeld ?_ ?_
                    rotate_left
                    ·rintro w' ⟨s0, s1⟩
                     go_simp
                     with_reducible rfl
                    rotate_left
                    ·simp only [Act.put, List.setIfInBounds_toArray, List.set_cons_zero, List.set_cons_succ, i64_w, i32_w]
                     rfl
                    refine take_ (i := 12) (N := some 69) (v := ?_) (a' := ?_) #[true, true, false, true, true, false, false, true, true, true, true, false, true, true, true, true, false, false, false, false] rfl rfl (take_ofW HT_.out HW_.out (by kernel_rfl)) (fun _ _ _ h => h) (Or.inl ⟨by rfl, ?_⟩) hHeld ?_ ?_
                    rotate_left
                    ·rintro w' ⟨s0, s1⟩
                     go_simp
                     with_reducible rfl
                    rotate_left
                    ·simp only [Act.put, List.setIfInBounds_toArray, List.set_cons_zero, List.set_cons_succ, i64_w, i32_w]
                     rfl
                    refine one_ (i := 2) (N := some 59) #[true, true, true, true, true, false, false, true, true, true, true, false, true, true, true, true, false, false, false, false] rfl rfl (one_of HT_.out (by kernel_rfl)) (by decide) (fun K hK => ?_)
                    refine goes_ Try.func38 (by kernel_rfl) rfl #[.agg #[.int .i64 a0_0, .slice A0_1 l0_1.length c0_1], .int .i64 (rd l1 x27_2)] (by rfl) rfl rfl lm ?_
                    with_reducible refine (impl_rankIn.calls k4 a0_0 _ _ l0_1 (rd l1 x27_2) t23013 _ ?side1 ?side2 A33.out).mono ?_
                    (case side1 => exact pC (Kd.C_below HR0_1.out HB.out))
                    (case side2 => exact HC0_1.out)
                    rintro e w41 ⟨rfl, hb⟩
                    refine ⟨_, rfl, ?_⟩
                    have n0_ := aQ (Kd.R_below (pR HO_5.out) hb)
                    have n1_ := aQ (blk_below (g := gb23001) (o := .cells #[.int .i64 a0_0, .slice A0_1 l0_1.length c0_1] 28 (0, 0)) (pk BK23001.out) hb)
                    have n2_ := aQ (below_step (pB1 HB.out GE23001.out) hb)
                    clear HO_5
                    clear BK23001
                    clear HB
                    have HO_5 := n0_
                    have BK23001 := n1_
                    have HB := n2_
                    clear n0_ n1_ n2_
                    (try clear hb)
                    (try clear hb2)
                    (try clear hk)
                    (try clear hi)
                    refine hK.out _ _ ⟨(blk_cell BK23001.out 0).trans rfl, (blk_cell BK23001.out 1).trans rfl⟩ (fun hHeld => ?_)
                    clear hK K
                    refine norm_ (a' := ?_) ?_ ?_
                    rotate_left
                    ·show Act.put _ (some 59) _ = _
                     simp only [Act.put, List.setIfInBounds_toArray, List.set_cons_zero, List.set_cons_succ, i64_w, i32_w]
                     rfl
                    refine one_ (i := 5) (N := some 62) #[true, true, true, true, true, true, false, true, true, true, true, false, true, true, true, true, false, false, false, false] rfl rfl (one_of HT_.out (by kernel_rfl)) (by decide) (fun K hK => ?_)
                    refine goes_ Try.func38 (by kernel_rfl) rfl #[.agg #[.int .i64 a0_0, .slice A0_1 l0_1.length c0_1], .int .i64 (rd l1 x53_4)] (by rfl) rfl rfl lm ?_
                    with_reducible refine (impl_rankIn.calls k4 a0_0 _ _ l0_1 (rd l1 x53_4) t23014 _ ?side1 ?side2 A34.out).mono ?_
                    (case side1 => exact pC (Kd.C_below HR0_1.out HB.out))
                    (case side2 => exact HC0_1.out)
                    rintro e w42 ⟨rfl, hb⟩
                    refine ⟨_, rfl, ?_⟩
                    have n0_ := aQ (Kd.R_below (pR HO_5.out) hb)
                    have n1_ := aQ (blk_below (g := gb23001) (o := .cells #[.int .i64 a0_0, .slice A0_1 l0_1.length c0_1] 28 (0, 0)) (pk BK23001.out) hb)
                    have n2_ := aQ (below_step (pB1 HB.out GE23001.out) hb)
                    clear HO_5
                    clear BK23001
                    clear HB
                    have HO_5 := n0_
                    have BK23001 := n1_
                    have HB := n2_
                    clear n0_ n1_ n2_
                    (try clear hb)
                    (try clear hb2)
                    (try clear hk)
                    (try clear hi)
                    refine hK.out _ _ ⟨(blk_cell BK23001.out 0).trans rfl, (blk_cell BK23001.out 1).trans rfl⟩ (fun hHeld => ?_)
                    clear hK K
                    refine norm_ (a' := ?_) ?_ ?_
                    rotate_left
                    ·show Act.put _ (some 62) _ = _
                     simp only [Act.put, List.setIfInBounds_toArray, List.set_cons_zero, List.set_cons_succ, i64_w, i32_w]
                     rfl
                    refine pure_ (i := 6) (N := some 63) (v := ?_) (a' := ?_) #[true, true, true, true, true, true, true, true, true, true, true, false, true, true, true, true, false, false, false, false] rfl rfl (any_of HT_.out (by kernel_rfl)) (fun _ _ _ h => h) (Or.inl ⟨by rfl, ?_⟩) ?_ ?_
                    rotate_left
                    ·intro w'
                     go_simp
                     with_reducible rfl
                    rotate_left
                    ·simp only [Act.put, List.setIfInBounds_toArray, List.set_cons_zero, List.set_cons_succ, i64_w, i32_w]
                     rfl
                    refine one_ (i := 11) (N := some 68) #[true, true, true, true, true, true, true, true, true, true, true, true, true, true, true, true, false, false, false, false] rfl rfl (one_of HT_.out (by kernel_rfl)) (by decide) (fun K hK => ?_)
                    refine goes_ Try.func38 (by kernel_rfl) rfl #[.agg #[.int .i64 a0_0, .slice A0_1 l0_1.length c0_1], .int .i64 (Go.bits .and .i64 (rd l1 x27_2) (rd l1 x53_4))] (by rfl) rfl rfl lm ?_
                    with_reducible refine (impl_rankIn.calls k4 a0_0 _ _ l0_1 (Go.bits .and .i64 (rd l1 x27_2) (rd l1 x53_4)) t23015 _ ?side1 ?side2 A35.out).mono ?_
                    (case side1 => exact pC (Kd.C_below HR0_1.out HB.out))
                    (case side2 => exact HC0_1.out)
                    rintro e w43 ⟨rfl, hb⟩
                    refine ⟨_, rfl, ?_⟩
                    have n0_ := aQ (Kd.R_below (pR HO_5.out) hb)
                    have n1_ := aQ (blk_below (g := gb23001) (o := .cells #[.int .i64 a0_0, .slice A0_1 l0_1.length c0_1] 28 (0, 0)) (pk BK23001.out) hb)
                    have n2_ := aQ (below_step (pB1 HB.out GE23001.out) hb)
                    clear HO_5
                    clear BK23001
                    clear HB
                    have HO_5 := n0_
                    have BK23001 := n1_
                    have HB := n2_
                    clear n0_ n1_ n2_
                    (try clear hb)
                    (try clear hb2)
                    (try clear hk)
                    (try clear hi)
                    refine hK.out _ _ ⟨(blk_cell BK23001.out 0).trans rfl, (blk_cell BK23001.out 1).trans rfl⟩ (fun hHeld => ?_)
                    clear hK K
                    refine norm_ (a' := ?_) ?_ ?_
                    rotate_left
                    ·show Act.put _ (some 68) _ = _
                     simp only [Act.put, List.setIfInBounds_toArray, List.set_cons_zero, List.set_cons_succ, i64_w, i32_w]
                     rfl
                    refine one_ (i := 16) (N := some 73) #[true, true, true, true, true, true, true, true, true, true, true, true, true, true, true, true, true, false, false, false] rfl rfl (one_of HT_.out (by kernel_rfl)) (by decide) (fun K hK => ?_)
                    refine goes_ Try.func38 (by kernel_rfl) rfl #[.agg #[.int .i64 a0_0, .slice A0_1 l0_1.length c0_1], .int .i64 (Go.bits .or .i64 (rd l1 x27_2) (rd l1 x53_4))] (by rfl) rfl rfl lm ?_
                    with_reducible refine (impl_rankIn.calls k4 a0_0 _ _ l0_1 (Go.bits .or .i64 (rd l1 x27_2) (rd l1 x53_4)) t23016 _ ?side1 ?side2 A36.out).mono ?_
                    (case side1 => exact pC (Kd.C_below HR0_1.out HB.out))
                    (case side2 => exact HC0_1.out)
                    rintro e w44 ⟨rfl, hb⟩
                    refine ⟨_, rfl, ?_⟩
                    have n0_ := aQ (Kd.R_below (pR HO_5.out) hb)
                    have n1_ := aQ (blk_below (g := gb23001) (o := .cells #[.int .i64 a0_0, .slice A0_1 l0_1.length c0_1] 28 (0, 0)) (pk BK23001.out) hb)
                    have n2_ := aQ (below_step (pB1 HB.out GE23001.out) hb)
                    clear HO_5
                    clear BK23001
                    clear HB
                    have HO_5 := n0_
                    have BK23001 := n1_
                    have HB := n2_
                    clear n0_ n1_ n2_
                    (try clear hb)
                    (try clear hb2)
                    (try clear hk)
                    (try clear hi)
                    refine hK.out _ _ ⟨(blk_cell BK23001.out 0).trans rfl, (blk_cell BK23001.out 1).trans rfl⟩ (fun hHeld => ?_)
                    clear hK K
                    refine norm_ (a' := ?_) ?_ ?_
                    rotate_left
                    ·show Act.put _ (some 73) _ = _
                     simp only [Act.put, List.setIfInBounds_toArray, List.set_cons_zero, List.set_cons_succ, i64_w, i32_w]
                     rfl
                    refine pure_ (i := 17) (N := some 74) (v := ?_) (a' := ?_) #[true, true, true, true, true, true, true, true, true, true, true, true, true, true, true, true, true, true, false, false] rfl rfl (any_of HT_.out (by kernel_rfl)) (fun _ _ _ h => h) (Or.inl ⟨by rfl, ?_⟩) ?_ ?_
                    rotate_left
                    ·intro w'
                     go_simp
                     with_reducible rfl
                    rotate_left
                    ·simp only [Act.put, List.setIfInBounds_toArray, List.set_cons_zero, List.set_cons_succ, i64_w, i32_w]
                     rfl
                    refine pure_ (i := 18) (N := some 75) (v := ?_) (a' := ?_) #[true, true, true, true, true, true, true, true, true, true, true, true, true, true, true, true, true, true, true, false] rfl rfl (any_of HT_.out (by kernel_rfl)) (fun _ _ _ h => h) (Or.inl ⟨by rfl, ?_⟩) ?_ ?_
                    rotate_left
                    ·intro w'
                     go_simp
                     with_reducible rfl
                    rotate_left
                    ·simp only [Act.put, List.setIfInBounds_toArray, List.set_cons_zero, List.set_cons_succ, i64_w, i32_w]
                     rfl
                    refine pure_ (i := 19) (N := some 12) (v := ?_) (a' := ?_) #[true, true, true, true, true, true, true, true, true, true, true, true, true, true, true, true, true, true, true, true] rfl rfl (any_of HT_.out (by kernel_rfl)) (fun _ _ _ h => h) (Or.inl ⟨by rfl, ?_⟩) ?_ ?_
                    rotate_left
                    ·intro w'
                     go_simp
                     with_reducible rfl
                    rotate_left
                    ·simp only [Act.put, List.setIfInBounds_toArray, List.set_cons_zero, List.set_cons_succ, i64_w, i32_w]
                     rfl
                    refine done_ (done_of HT_.out (by kernel_rfl)) ?_
                    try go_wp2_with (first | (go_at_call 36; (with_reducible refine (impl_HasSet.calls k4 _ _ l1 (Go.bits .and .i64 (rd l1 x27_2) (rd l1 x53_4)) true _ ?side1 ?side2 A38.out).mono ?_); (case side1 => exact pC (Kd.C_below HR1.out HB.out)); (case side2 => exact HC1.out); rintro e w' ⟨rfl, ⟨nd, rfl⟩⟩))
                    go_roundg k4
                    case measure => have := HJ2.out; have := HK2.out; have := HK3.out; have := HK4.out; omega
                    case rel => exact ⟨(wrap64 (x53_4 + 1)), rs_, H', ⟨by have := HJ2.out; have := HK2.out; have := HK3.out; have := HK4.out; omega⟩, ⟨pR HO_5.out⟩, ⟨pk BK23001.out⟩, ⟨pB1 HB.out GE23001.out⟩⟩
                   ·replace c39 := Bool.eq_false_iff.mpr c39
                    subst c39
                    have H1 : (some false) = some r := by rw [if_neg (show ¬ (false = true) by decide)] at H; exact H
                    clear H
                    have H := H1
                    clear H1
                    obtain rfl := Option.some.inj H
                    have p23012 : 0 ≤ (x53_4 : Int) := of_decide_eq_true as_
                    have q23012 : x53_4 < (l1.length : Int) := of_decide_eq_true as_
                    obtain ⟨ad23012, e23012, hx23012_0⟩ := Kd.at_int HR1.out x53_4 p23012 q23012
                    obtain rfl : ad23007 = ad23012 := (by injection e23012)
                    replace hx23012_0 := (HB.out.cell (World.block_lt_of_cell? w _ hx23012_0)).trans hx23012_0
                    replace p23012 := eq_true p23012
                    replace q23012 := eq_true q23012
                    try go_wp2
                    have n0_ := aQ (Kd.R_drew HO_5.out)
                    have n1_ := aQ (blk_drew BK23001.out)
                    have n2_ := aQ (below_drew1 HB.out)
                    clear HO_5
                    clear BK23001
                    clear HB
                    have HO_5 := n0_
                    have BK23001 := n1_
                    have HB := n2_
                    clear n0_ n1_ n2_
                    refine start_ (n := 20) (S := fun w' => w'.cell? ⟨gb23001, 0, none⟩ = some (.int .i64 a0_0) ∧ w'.cell? ⟨gb23001, 1, none⟩ = some (.slice A0_1 l0_1.length c0_1)) (ds := []) #[false, false, false, false, false, false, false, false, false, false, false, false, false, false, false, false, false, false, false, false] (by kernel_rfl) rfl rfl ⟨(blk_cell BK23001.out 0).trans rfl, (blk_cell BK23001.out 1).trans rfl⟩ (fun hHeld => ?_); refine with_tabW impl_IsModularCut.tab18 impl_IsModularCut.bits18 (fun HT_ HW_ => ?_)
                    generalize wr.drew = w45 at HO_5 BK23001 HB hHeld ⊢
                    refine pure_ (i := 1) (N := some 58) (v := ?_) (a' := ?_) #[false, true, false, false, false, false, false, false, false, false, false, false, false, false, false, false, false, false, false, false] rfl rfl (any_of HT_.out (by kernel_rfl)) (fun _ _ _ h => h) (Or.inl ⟨by rfl, ?_⟩) ?_ ?_
                    rotate_left
                    ·intro w'
                     go_simp
                     with_reducible rfl
                    rotate_left
                    ·simp only [Act.put, List.setIfInBounds_toArray, List.set_cons_zero, List.set_cons_succ, i64_w, i32_w]
                     rfl
                    refine pure_ (i := 4) (N := some 61) (v := ?_) (a' := ?_) #[false, true, false, false, true, false, false, false, false, false, false, false, false, false, false, false, false, false, false, false] rfl rfl (any_of HT_.out (by kernel_rfl)) (fun _ _ _ h => h) (Or.inl ⟨by rfl, ?_⟩) ?_ ?_
                    rotate_left
                    ·intro w'
                     go_simp
                     with_reducible rfl
                    rotate_left
                    ·simp only [Act.put, List.setIfInBounds_toArray, List.set_cons_zero, List.set_cons_succ, i64_w, i32_w]
                     rfl
                    refine pure_ (i := 8) (N := some 65) (v := ?_) (a' := ?_) #[false, true, false, false, true, false, false, false, true, false, false, false, false, false, false, false, false, false, false, false] rfl rfl (any_of HT_.out (by kernel_rfl)) (fun _ _ _ h => h) (Or.inl ⟨by rfl, ?_⟩) ?_ ?_
                    rotate_left
                    ·intro w'
                     go_simp
                     with_reducible rfl
                    rotate_left
                    ·simp only [Act.put, List.setIfInBounds_toArray, List.set_cons_zero, List.set_cons_succ, i64_w, i32_w]
                     rfl
                    refine pure_ (i := 9) (N := some 66) (v := ?_) (a' := ?_) #[false, true, false, false, true, false, false, false, true, true, false, false, false, false, false, false, false, false, false, false] rfl rfl (any_of HT_.out (by kernel_rfl)) (fun _ _ _ h => h) (Or.inl ⟨by rfl, ?_⟩) ?_ ?_
                    rotate_left
                    ·intro w'
                     go_simp
                     with_reducible rfl
                    rotate_left
                    ·simp only [Act.put, List.setIfInBounds_toArray, List.set_cons_zero, List.set_cons_succ, i64_w, i32_w]
                     rfl
                    refine pure_ (i := 10) (N := some 67) (v := ?_) (a' := ?_) #[false, true, false, false, true, false, false, false, true, true, true, false, false, false, false, false, false, false, false, false] rfl rfl (any_of HT_.out (by kernel_rfl)) (fun _ _ _ h => h) (Or.inl ⟨by rfl, ?_⟩) ?_ ?_
                    rotate_left
                    ·intro w'
                     go_simp
                     with_reducible rfl
                    rotate_left
                    ·simp only [Act.put, List.setIfInBounds_toArray, List.set_cons_zero, List.set_cons_succ, i64_w, i32_w]
                     rfl
                    refine pure_ (i := 13) (N := some 70) (v := ?_) (a' := ?_) #[false, true, false, false, true, false, false, false, true, true, true, false, false, true, false, false, false, false, false, false] rfl rfl (any_of HT_.out (by kernel_rfl)) (fun _ _ _ h => h) (Or.inl ⟨by rfl, ?_⟩) ?_ ?_
                    rotate_left
                    ·intro w'
                     go_simp
                     with_reducible rfl
                    rotate_left
                    ·simp only [Act.put, List.setIfInBounds_toArray, List.set_cons_zero, List.set_cons_succ, i64_w, i32_w]
                     rfl
                    refine pure_ (i := 14) (N := some 71) (v := ?_) (a' := ?_) #[false, true, false, false, true, false, false, false, true, true, true, false, false, true, true, false, false, false, false, false] rfl rfl (any_of HT_.out (by kernel_rfl)) (fun _ _ _ h => h) (Or.inl ⟨by rfl, ?_⟩) ?_ ?_
                    rotate_left
                    ·intro w'
                     go_simp
                     with_reducible rfl
                    rotate_left
                    ·simp only [Act.put, List.setIfInBounds_toArray, List.set_cons_zero, List.set_cons_succ, i64_w, i32_w]
                     rfl
                    refine pure_ (i := 15) (N := some 72) (v := ?_) (a' := ?_) #[false, true, false, false, true, false, false, false, true, true, true, false, false, true, true, true, false, false, false, false] rfl rfl (any_of HT_.out (by kernel_rfl)) (fun _ _ _ h => h) (Or.inl ⟨by rfl, ?_⟩) ?_ ?_
                    rotate_left
                    ·intro w'
                     go_simp
                     with_reducible rfl
                    rotate_left
                    ·simp only [Act.put, List.setIfInBounds_toArray, List.set_cons_zero, List.set_cons_succ, i64_w, i32_w]
                     rfl
                    refine take_ (i := 0) (N := some 57) (v := ?_) (a' := ?_) #[true, true, false, false, true, false, false, false, true, true, true, false, false, true, true, true, false, false, false, false] rfl rfl (take_ofW HT_.out HW_.out (by kernel_rfl)) (fun _ _ _ h => h) (Or.inl ⟨by rfl, ?_⟩) hHeld ?_ ?_
                    rotate_left
                    ·rintro w' ⟨s0, s1⟩
                     go_simp
                     with_reducible rfl
                    rotate_left
                    ·simp only [Act.put, List.setIfInBounds_toArray, List.set_cons_zero, List.set_cons_succ, i64_w, i32_w]
                     rfl
                    refine take_ (i := 3) (N := some 60) (v := ?_) (a' := ?_) #[true, true, false, true, true, false, false, false, true, true, true, false, false, true, true, true, false, false, false, false] rfl rfl (take_ofW HT_.out HW_.out (by kernel_rfl)) (fun _ _ _ h => h) (Or.inl ⟨by rfl, ?_⟩) hHeld ?_ ?_
                    rotate_left
                    ·rintro w' ⟨s0, s1⟩
                     go_simp
                     with_reducible rfl
                    rotate_left
                    ·simp only [Act.put, List.setIfInBounds_toArray, List.set_cons_zero, List.set_cons_succ, i64_w, i32_w]
                     rfl
                    refine take_ (i := 7) (N := some 64) (v := ?_) (a' := ?_) #[true, true, false, true, true, false, false, true, true, true, true, false, false, true, true, true, false, false, false, false] rfl rfl (take_ofW HT_.out HW_.out (by kernel_rfl)) (fun _ _ _ h => h) (Or.inl ⟨by rfl, ?_⟩) hHeld ?_ ?_
                    rotate_left
                    ·rintro w' ⟨s0, s1⟩
                     go_simp
                     with_reducible rfl
                    rotate_left
                    ·simp only [Act.put, List.setIfInBounds_toArray, List.set_cons_zero, List.set_cons_succ, i64_w, i32_w]
                     rfl
                    refine take_ (i := 12) (N := some 69) (v := ?_) (a' := ?_) #[true, true, false, true, true, false, false, true, true, true, true, false, true, true, true, true, false, false, false, false] rfl rfl (take_ofW HT_.out HW_.out (by kernel_rfl)) (fun _ _ _ h => h) (Or.inl ⟨by rfl, ?_⟩) hHeld ?_ ?_
                    rotate_left
                    ·rintro w' ⟨s0, s1⟩
                     go_simp
                     with_reducible rfl
                    rotate_left
                    ·simp only [Act.put, List.setIfInBounds_toArray, List.set_cons_zero, List.set_cons_succ, i64_w, i32_w]
                     rfl
                    refine one_ (i := 2) (N := some 59) #[true, true, true, true, true, false, false, true, true, true, true, false, true, true, true, true, false, false, false, false] rfl rfl (one_of HT_.out (by kernel_rfl)) (by decide) (fun K hK => ?_)
                    refine goes_ Try.func38 (by kernel_rfl) rfl #[.agg #[.int .i64 a0_0, .slice A0_1 l0_1.length c0_1], .int .i64 (rd l1 x27_2)] (by rfl) rfl rfl lm ?_
                    with_reducible refine (impl_rankIn.calls k4 a0_0 _ _ l0_1 (rd l1 x27_2) t23013 _ ?side1 ?side2 A33.out).mono ?_
                    (case side1 => exact pC (Kd.C_below HR0_1.out HB.out))
                    (case side2 => exact HC0_1.out)
                    rintro e w46 ⟨rfl, hb⟩
                    refine ⟨_, rfl, ?_⟩
                    have n0_ := aQ (Kd.R_below (pR HO_5.out) hb)
                    have n1_ := aQ (blk_below (g := gb23001) (o := .cells #[.int .i64 a0_0, .slice A0_1 l0_1.length c0_1] 28 (0, 0)) (pk BK23001.out) hb)
                    have n2_ := aQ (below_step (pB1 HB.out GE23001.out) hb)
                    clear HO_5
                    clear BK23001
                    clear HB
                    have HO_5 := n0_
                    have BK23001 := n1_
                    have HB := n2_
                    clear n0_ n1_ n2_
                    (try clear hb)
                    (try clear hb2)
                    (try clear hk)
                    (try clear hi)
                    refine hK.out _ _ ⟨(blk_cell BK23001.out 0).trans rfl, (blk_cell BK23001.out 1).trans rfl⟩ (fun hHeld => ?_)
                    clear hK K
                    refine norm_ (a' := ?_) ?_ ?_
                    rotate_left
                    ·show Act.put _ (some 59) _ = _
                     simp only [Act.put, List.setIfInBounds_toArray, List.set_cons_zero, List.set_cons_succ, i64_w, i32_w]
                     rfl
                    refine one_ (i := 5) (N := some 62) #[true, true, true, true, true, true, false, true, true, true, true, false, true, true, true, true, false, false, false, false] rfl rfl (one_of HT_.out (by kernel_rfl)) (by decide) (fun K hK => ?_)
                    refine goes_ Try.func38 (by kernel_rfl) rfl #[.agg #[.int .i64 a0_0, .slice A0_1 l0_1.length c0_1], .int .i64 (rd l1 x53_4)] (by rfl) rfl rfl lm ?_
                    with_reducible refine (impl_rankIn.calls k4 a0_0 _ _ l0_1 (rd l1 x53_4) t23014 _ ?side1 ?side2 A34.out).mono ?_
                    (case side1 => exact pC (Kd.C_below HR0_1.out HB.out))
                    (case side2 => exact HC0_1.out)
                    rintro e w47 ⟨rfl, hb⟩
                    refine ⟨_, rfl, ?_⟩
                    have n0_ := aQ (Kd.R_below (pR HO_5.out) hb)
                    have n1_ := aQ (blk_below (g := gb23001) (o := .cells #[.int .i64 a0_0, .slice A0_1 l0_1.length c0_1] 28 (0, 0)) (pk BK23001.out) hb)
                    have n2_ := aQ (below_step (pB1 HB.out GE23001.out) hb)
                    clear HO_5
                    clear BK23001
                    clear HB
                    have HO_5 := n0_
                    have BK23001 := n1_
                    have HB := n2_
                    clear n0_ n1_ n2_
                    (try clear hb)
                    (try clear hb2)
                    (try clear hk)
                    (try clear hi)
                    refine hK.out _ _ ⟨(blk_cell BK23001.out 0).trans rfl, (blk_cell BK23001.out 1).trans rfl⟩ (fun hHeld => ?_)
                    clear hK K
                    refine norm_ (a' := ?_) ?_ ?_
                    rotate_left
                    ·show Act.put _ (some 62) _ = _
                     simp only [Act.put, List.setIfInBounds_toArray, List.set_cons_zero, List.set_cons_succ, i64_w, i32_w]
                     rfl
                    refine pure_ (i := 6) (N := some 63) (v := ?_) (a' := ?_) #[true, true, true, true, true, true, true, true, true, true, true, false, true, true, true, true, false, false, false, false] rfl rfl (any_of HT_.out (by kernel_rfl)) (fun _ _ _ h => h) (Or.inl ⟨by rfl, ?_⟩) ?_ ?_
                    rotate_left
                    ·intro w'
                     go_simp
                     with_reducible rfl
                    rotate_left
                    ·simp only [Act.put, List.setIfInBounds_toArray, List.set_cons_zero, List.set_cons_succ, i64_w, i32_w]
                     rfl
                    refine one_ (i := 11) (N := some 68) #[true, true, true, true, true, true, true, true, true, true, true, true, true, true, true, true, false, false, false, false] rfl rfl (one_of HT_.out (by kernel_rfl)) (by decide) (fun K hK => ?_)
                    refine goes_ Try.func38 (by kernel_rfl) rfl #[.agg #[.int .i64 a0_0, .slice A0_1 l0_1.length c0_1], .int .i64 (Go.bits .and .i64 (rd l1 x27_2) (rd l1 x53_4))] (by rfl) rfl rfl lm ?_
                    with_reducible refine (impl_rankIn.calls k4 a0_0 _ _ l0_1 (Go.bits .and .i64 (rd l1 x27_2) (rd l1 x53_4)) t23015 _ ?side1 ?side2 A35.out).mono ?_
                    (case side1 => exact pC (Kd.C_below HR0_1.out HB.out))
                    (case side2 => exact HC0_1.out)
                    rintro e w48 ⟨rfl, hb⟩
                    refine ⟨_, rfl, ?_⟩
                    have n0_ := aQ (Kd.R_below (pR HO_5.out) hb)
                    have n1_ := aQ (blk_below (g := gb23001) (o := .cells #[.int .i64 a0_0, .slice A0_1 l0_1.length c0_1] 28 (0, 0)) (pk BK23001.out) hb)
                    have n2_ := aQ (below_step (pB1 HB.out GE23001.out) hb)
                    clear HO_5
                    clear BK23001
                    clear HB
                    have HO_5 := n0_
                    have BK23001 := n1_
                    have HB := n2_
                    clear n0_ n1_ n2_
                    (try clear hb)
                    (try clear hb2)
                    (try clear hk)
                    (try clear hi)
                    refine hK.out _ _ ⟨(blk_cell BK23001.out 0).trans rfl, (blk_cell BK23001.out 1).trans rfl⟩ (fun hHeld => ?_)
                    clear hK K
                    refine norm_ (a' := ?_) ?_ ?_
                    rotate_left
                    ·show Act.put _ (some 68) _ = _
                     simp only [Act.put, List.setIfInBounds_toArray, List.set_cons_zero, List.set_cons_succ, i64_w, i32_w]
                     rfl
                    refine one_ (i := 16) (N := some 73) #[true, true, true, true, true, true, true, true, true, true, true, true, true, true, true, true, true, false, false, false] rfl rfl (one_of HT_.out (by kernel_rfl)) (by decide) (fun K hK => ?_)
                    refine goes_ Try.func38 (by kernel_rfl) rfl #[.agg #[.int .i64 a0_0, .slice A0_1 l0_1.length c0_1], .int .i64 (Go.bits .or .i64 (rd l1 x27_2) (rd l1 x53_4))] (by rfl) rfl rfl lm ?_
                    with_reducible refine (impl_rankIn.calls k4 a0_0 _ _ l0_1 (Go.bits .or .i64 (rd l1 x27_2) (rd l1 x53_4)) t23016 _ ?side1 ?side2 A36.out).mono ?_
                    (case side1 => exact pC (Kd.C_below HR0_1.out HB.out))
                    (case side2 => exact HC0_1.out)
                    rintro e w49 ⟨rfl, hb⟩
                    refine ⟨_, rfl, ?_⟩
                    have n0_ := aQ (Kd.R_below (pR HO_5.out) hb)
                    have n1_ := aQ (blk_below (g := gb23001) (o := .cells #[.int .i64 a0_0, .slice A0_1 l0_1.length c0_1] 28 (0, 0)) (pk BK23001.out) hb)
                    have n2_ := aQ (below_step (pB1 HB.out GE23001.out) hb)
                    clear HO_5
                    clear BK23001
                    clear HB
                    have HO_5 := n0_
                    have BK23001 := n1_
                    have HB := n2_
                    clear n0_ n1_ n2_
                    (try clear hb)
                    (try clear hb2)
                    (try clear hk)
                    (try clear hi)
                    refine hK.out _ _ ⟨(blk_cell BK23001.out 0).trans rfl, (blk_cell BK23001.out 1).trans rfl⟩ (fun hHeld => ?_)
                    clear hK K
                    refine norm_ (a' := ?_) ?_ ?_
                    rotate_left
                    ·show Act.put _ (some 73) _ = _
                     simp only [Act.put, List.setIfInBounds_toArray, List.set_cons_zero, List.set_cons_succ, i64_w, i32_w]
                     rfl
                    refine pure_ (i := 17) (N := some 74) (v := ?_) (a' := ?_) #[true, true, true, true, true, true, true, true, true, true, true, true, true, true, true, true, true, true, false, false] rfl rfl (any_of HT_.out (by kernel_rfl)) (fun _ _ _ h => h) (Or.inl ⟨by rfl, ?_⟩) ?_ ?_
                    rotate_left
                    ·intro w'
                     go_simp
                     with_reducible rfl
                    rotate_left
                    ·simp only [Act.put, List.setIfInBounds_toArray, List.set_cons_zero, List.set_cons_succ, i64_w, i32_w]
                     rfl
                    refine pure_ (i := 18) (N := some 75) (v := ?_) (a' := ?_) #[true, true, true, true, true, true, true, true, true, true, true, true, true, true, true, true, true, true, true, false] rfl rfl (any_of HT_.out (by kernel_rfl)) (fun _ _ _ h => h) (Or.inl ⟨by rfl, ?_⟩) ?_ ?_
                    rotate_left
                    ·intro w'
                     go_simp
                     with_reducible rfl
                    rotate_left
                    ·simp only [Act.put, List.setIfInBounds_toArray, List.set_cons_zero, List.set_cons_succ, i64_w, i32_w]
                     rfl
                    refine pure_ (i := 19) (N := some 12) (v := ?_) (a' := ?_) #[true, true, true, true, true, true, true, true, true, true, true, true, true, true, true, true, true, true, true, true] rfl rfl (any_of HT_.out (by kernel_rfl)) (fun _ _ _ h => h) (Or.inl ⟨by rfl, ?_⟩) ?_ ?_
                    rotate_left
                    ·intro w'
                     go_simp
                     with_reducible rfl
                    rotate_left
                    ·simp only [Act.put, List.setIfInBounds_toArray, List.set_cons_zero, List.set_cons_succ, i64_w, i32_w]
                     rfl
                    refine done_ (done_of HT_.out (by kernel_rfl)) ?_
                    try go_wp2_with (first | (go_at_call 36; (with_reducible refine (impl_HasSet.calls k4 _ _ l1 (Go.bits .and .i64 (rd l1 x27_2) (rd l1 x53_4)) false _ ?side1 ?side2 A38.out).mono ?_); (case side1 => exact pC (Kd.C_below HR1.out HB.out)); (case side2 => exact HC1.out); rintro e w' ⟨rfl, ⟨nd, rfl⟩⟩))
                    go_ret
                    exact ⟨re_, pB1 HB.out GE23001.out⟩
                  ·rw [if_neg c37] at H
                   have c37b0 : ((wrap64 (t23013 + t23014)) == (wrap64 (t23015 + t23016))) = false := beq_eq_false_iff_ne.mpr c37
                   have c37b1 : ((wrap64 (t23013 + t23014)) != (wrap64 (t23015 + t23016))) = true := bne_iff_ne.mpr c37
                   have H' := aQ H
                   clear H
                   have p23012 : 0 ≤ (x53_4 : Int) := of_decide_eq_true as_
                   have q23012 : x53_4 < (l1.length : Int) := of_decide_eq_true as_
                   obtain ⟨ad23012, e23012, hx23012_0⟩ := Kd.at_int HR1.out x53_4 p23012 q23012
                   obtain rfl : ad23007 = ad23012 := (by injection e23012)
                   replace hx23012_0 := (HB.out.cell (World.block_lt_of_cell? w _ hx23012_0)).trans hx23012_0
                   replace p23012 := eq_true p23012
                   replace q23012 := eq_true q23012
                   try go_wp2
                   have n0_ := aQ (Kd.R_drew HO_5.out)
                   have n1_ := aQ (blk_drew BK23001.out)
                   have n2_ := aQ (below_drew1 HB.out)
                   clear HO_5
                   clear BK23001
                   clear HB
                   have HO_5 := n0_
                   have BK23001 := n1_
                   have HB := n2_
                   clear n0_ n1_ n2_
                   refine start_ (n := 20) (S := fun w' => w'.cell? ⟨gb23001, 0, none⟩ = some (.int .i64 a0_0) ∧ w'.cell? ⟨gb23001, 1, none⟩ = some (.slice A0_1 l0_1.length c0_1)) (ds := []) #[false, false, false, false, false, false, false, false, false, false, false, false, false, false, false, false, false, false, false, false] (by kernel_rfl) rfl rfl ⟨(blk_cell BK23001.out 0).trans rfl, (blk_cell BK23001.out 1).trans rfl⟩ (fun hHeld => ?_); refine with_tabW impl_IsModularCut.tab18 impl_IsModularCut.bits18 (fun HT_ HW_ => ?_)
                   generalize wr.drew = w50 at HO_5 BK23001 HB hHeld ⊢
                   refine pure_ (i := 1) (N := some 58) (v := ?_) (a' := ?_) #[false, true, false, false, false, false, false, false, false, false, false, false, false, false, false, false, false, false, false, false] rfl rfl (any_of HT_.out (by kernel_rfl)) (fun _ _ _ h => h) (Or.inl ⟨by rfl, ?_⟩) ?_ ?_
                   rotate_left
                   ·intro w'
                    go_simp
                    with_reducible rfl
                   rotate_left
                   ·simp only [Act.put, List.setIfInBounds_toArray, List.set_cons_zero, List.set_cons_succ, i64_w, i32_w]
                    rfl
                   refine pure_ (i := 4) (N := some 61) (v := ?_) (a' := ?_) #[false, true, false, false, true, false, false, false, false, false, false, false, false, false, false, false, false, false, false, false] rfl rfl (any_of HT_.out (by kernel_rfl)) (fun _ _ _ h => h) (Or.inl ⟨by rfl, ?_⟩) ?_ ?_
                   rotate_left
                   ·intro w'
                    go_simp
                    with_reducible rfl
                   rotate_left
                   ·simp only [Act.put, List.setIfInBounds_toArray, List.set_cons_zero, List.set_cons_succ, i64_w, i32_w]
                    rfl
                   refine pure_ (i := 8) (N := some 65) (v := ?_) (a' := ?_) #[false, true, false, false, true, false, false, false, true, false, false, false, false, false, false, false, false, false, false, false] rfl rfl (any_of HT_.out (by kernel_rfl)) (fun _ _ _ h => h) (Or.inl ⟨by rfl, ?_⟩) ?_ ?_
                   rotate_left
                   ·intro w'
                    go_simp
                    with_reducible rfl
                   rotate_left
                   ·simp only [Act.put, List.setIfInBounds_toArray, List.set_cons_zero, List.set_cons_succ, i64_w, i32_w]
                    rfl
                   refine pure_ (i := 9) (N := some 66) (v := ?_) (a' := ?_) #[false, true, false, false, true, false, false, false, true, true, false, false, false, false, false, false, false, false, false, false] rfl rfl (any_of HT_.out (by kernel_rfl)) (fun _ _ _ h => h) (Or.inl ⟨by rfl, ?_⟩) ?_ ?_
                   rotate_left
                   ·intro w'
                    go_simp
                    with_reducible rfl
                   rotate_left
                   ·simp only [Act.put, List.setIfInBounds_toArray, List.set_cons_zero, List.set_cons_succ, i64_w, i32_w]
                    rfl
                   refine pure_ (i := 10) (N := some 67) (v := ?_) (a' := ?_) #[false, true, false, false, true, false, false, false, true, true, true, false, false, false, false, false, false, false, false, false] rfl rfl (any_of HT_.out (by kernel_rfl)) (fun _ _ _ h => h) (Or.inl ⟨by rfl, ?_⟩) ?_ ?_
                   rotate_left
                   ·intro w'
                    go_simp
                    with_reducible rfl
                   rotate_left
                   ·simp only [Act.put, List.setIfInBounds_toArray, List.set_cons_zero, List.set_cons_succ, i64_w, i32_w]
                    rfl
                   refine pure_ (i := 13) (N := some 70) (v := ?_) (a' := ?_) #[false, true, false, false, true, false, false, false, true, true, true, false, false, true, false, false, false, false, false, false] rfl rfl (any_of HT_.out (by kernel_rfl)) (fun _ _ _ h => h) (Or.inl ⟨by rfl, ?_⟩) ?_ ?_
                   rotate_left
                   ·intro w'
                    go_simp
                    with_reducible rfl
                   rotate_left
                   ·simp only [Act.put, List.setIfInBounds_toArray, List.set_cons_zero, List.set_cons_succ, i64_w, i32_w]
                    rfl
                   refine pure_ (i := 14) (N := some 71) (v := ?_) (a' := ?_) #[false, true, false, false, true, false, false, false, true, true, true, false, false, true, true, false, false, false, false, false] rfl rfl (any_of HT_.out (by kernel_rfl)) (fun _ _ _ h => h) (Or.inl ⟨by rfl, ?_⟩) ?_ ?_
                   rotate_left
                   ·intro w'
                    go_simp
                    with_reducible rfl
                   rotate_left
                   ·simp only [Act.put, List.setIfInBounds_toArray, List.set_cons_zero, List.set_cons_succ, i64_w, i32_w]
                    rfl
                   refine pure_ (i := 15) (N := some 72) (v := ?_) (a' := ?_) #[false, true, false, false, true, false, false, false, true, true, true, false, false, true, true, true, false, false, false, false] rfl rfl (any_of HT_.out (by kernel_rfl)) (fun _ _ _ h => h) (Or.inl ⟨by rfl, ?_⟩) ?_ ?_
                   rotate_left
                   ·intro w'
                    go_simp
                    with_reducible rfl
                   rotate_left
                   ·simp only [Act.put, List.setIfInBounds_toArray, List.set_cons_zero, List.set_cons_succ, i64_w, i32_w]
                    rfl
                   refine take_ (i := 0) (N := some 57) (v := ?_) (a' := ?_) #[true, true, false, false, true, false, false, false, true, true, true, false, false, true, true, true, false, false, false, false] rfl rfl (take_ofW HT_.out HW_.out (by kernel_rfl)) (fun _ _ _ h => h) (Or.inl ⟨by rfl, ?_⟩) hHeld ?_ ?_
                   rotate_left
                   ·rintro w' ⟨s0, s1⟩
                    go_simp
                    with_reducible rfl
                   rotate_left
                   ·simp only [Act.put, List.setIfInBounds_toArray, List.set_cons_zero, List.set_cons_succ, i64_w, i32_w]
                    rfl
                   refine take_ (i := 3) (N := some 60) (v := ?_) (a' := ?_) #[true, true, false, true, true, false, false, false, true, true, true, false, false, true, true, true, false, false, false, false] rfl rfl (take_ofW HT_.out HW_.out (by kernel_rfl)) (fun _ _ _ h => h) (Or.inl ⟨by rfl, ?_⟩) hHeld ?_ ?_
                   rotate_left
                   ·rintro w' ⟨s0, s1⟩
                    go_simp
                    with_reducible rfl
                   rotate_left
                   ·simp only [Act.put, List.setIfInBounds_toArray, List.set_cons_zero, List.set_cons_succ, i64_w, i32_w]
                    rfl
                   refine take_ (i := 7) (N := some 64) (v := ?_) (a' := ?_) #[true, true, false, true, true, false, false, true, true, true, true, false, false, true, true, true, false, false, false, false] rfl rfl (take_ofW HT_.out HW_.out (by kernel_rfl)) (fun _ _ _ h => h) (Or.inl ⟨by rfl, ?_⟩) hHeld ?_ ?_
                   rotate_left
                   ·rintro w' ⟨s0, s1⟩
                    go_simp
                    with_reducible rfl
                   rotate_left
                   ·simp only [Act.put, List.setIfInBounds_toArray, List.set_cons_zero, List.set_cons_succ, i64_w, i32_w]
                    rfl
                   refine take_ (i := 12) (N := some 69) (v := ?_) (a' := ?_) #[true, true, false, true, true, false, false, true, true, true, true, false, true, true, true, true, false, false, false, false] rfl rfl (take_ofW HT_.out HW_.out (by kernel_rfl)) (fun _ _ _ h => h) (Or.inl ⟨by rfl, ?_⟩) hHeld ?_ ?_
                   rotate_left
                   ·rintro w' ⟨s0, s1⟩
                    go_simp
                    with_reducible rfl
                   rotate_left
                   ·simp only [Act.put, List.setIfInBounds_toArray, List.set_cons_zero, List.set_cons_succ, i64_w, i32_w]
                    rfl
                   refine one_ (i := 2) (N := some 59) #[true, true, true, true, true, false, false, true, true, true, true, false, true, true, true, true, false, false, false, false] rfl rfl (one_of HT_.out (by kernel_rfl)) (by decide) (fun K hK => ?_)
                   refine goes_ Try.func38 (by kernel_rfl) rfl #[.agg #[.int .i64 a0_0, .slice A0_1 l0_1.length c0_1], .int .i64 (rd l1 x27_2)] (by rfl) rfl rfl lm ?_
                   with_reducible refine (impl_rankIn.calls k4 a0_0 _ _ l0_1 (rd l1 x27_2) t23013 _ ?side1 ?side2 A33.out).mono ?_
                   (case side1 => exact pC (Kd.C_below HR0_1.out HB.out))
                   (case side2 => exact HC0_1.out)
                   rintro e w51 ⟨rfl, hb⟩
                   refine ⟨_, rfl, ?_⟩
                   have n0_ := aQ (Kd.R_below (pR HO_5.out) hb)
                   have n1_ := aQ (blk_below (g := gb23001) (o := .cells #[.int .i64 a0_0, .slice A0_1 l0_1.length c0_1] 28 (0, 0)) (pk BK23001.out) hb)
                   have n2_ := aQ (below_step (pB1 HB.out GE23001.out) hb)
                   clear HO_5
                   clear BK23001
                   clear HB
                   have HO_5 := n0_
                   have BK23001 := n1_
                   have HB := n2_
                   clear n0_ n1_ n2_
                   (try clear hb)
                   (try clear hb2)
                   (try clear hk)
                   (try clear hi)
                   refine hK.out _ _ ⟨(blk_cell BK23001.out 0).trans rfl, (blk_cell BK23001.out 1).trans rfl⟩ (fun hHeld => ?_)
                   clear hK K
                   refine norm_ (a' := ?_) ?_ ?_
                   rotate_left
                   ·show Act.put _ (some 59) _ = _
                    simp only [Act.put, List.setIfInBounds_toArray, List.set_cons_zero, List.set_cons_succ, i64_w, i32_w]
                    rfl
                   refine one_ (i := 5) (N := some 62) #[true, true, true, true, true, true, false, true, true, true, true, false, true, true, true, true, false, false, false, false] rfl rfl (one_of HT_.out (by kernel_rfl)) (by decide) (fun K hK => ?_)
                   refine goes_ Try.func38 (by kernel_rfl) rfl #[.agg #[.int .i64 a0_0, .slice A0_1 l0_1.length c0_1], .int .i64 (rd l1 x53_4)] (by rfl) rfl rfl lm ?_
                   with_reducible refine (impl_rankIn.calls k4 a0_0 _ _ l0_1 (rd l1 x53_4) t23014 _ ?side1 ?side2 A34.out).mono ?_
                   (case side1 => exact pC (Kd.C_below HR0_1.out HB.out))
                   (case side2 => exact HC0_1.out)
                   rintro e w52 ⟨rfl, hb⟩
                   refine ⟨_, rfl, ?_⟩
                   have n0_ := aQ (Kd.R_below (pR HO_5.out) hb)
                   have n1_ := aQ (blk_below (g := gb23001) (o := .cells #[.int .i64 a0_0, .slice A0_1 l0_1.length c0_1] 28 (0, 0)) (pk BK23001.out) hb)
                   have n2_ := aQ (below_step (pB1 HB.out GE23001.out) hb)
                   clear HO_5
                   clear BK23001
                   clear HB
                   have HO_5 := n0_
                   have BK23001 := n1_
                   have HB := n2_
                   clear n0_ n1_ n2_
                   (try clear hb)
                   (try clear hb2)
                   (try clear hk)
                   (try clear hi)
                   refine hK.out _ _ ⟨(blk_cell BK23001.out 0).trans rfl, (blk_cell BK23001.out 1).trans rfl⟩ (fun hHeld => ?_)
                   clear hK K
                   refine norm_ (a' := ?_) ?_ ?_
                   rotate_left
                   ·show Act.put _ (some 62) _ = _
                    simp only [Act.put, List.setIfInBounds_toArray, List.set_cons_zero, List.set_cons_succ, i64_w, i32_w]
                    rfl
                   refine pure_ (i := 6) (N := some 63) (v := ?_) (a' := ?_) #[true, true, true, true, true, true, true, true, true, true, true, false, true, true, true, true, false, false, false, false] rfl rfl (any_of HT_.out (by kernel_rfl)) (fun _ _ _ h => h) (Or.inl ⟨by rfl, ?_⟩) ?_ ?_
                   rotate_left
                   ·intro w'
                    go_simp
                    with_reducible rfl
                   rotate_left
                   ·simp only [Act.put, List.setIfInBounds_toArray, List.set_cons_zero, List.set_cons_succ, i64_w, i32_w]
                    rfl
                   refine one_ (i := 11) (N := some 68) #[true, true, true, true, true, true, true, true, true, true, true, true, true, true, true, true, false, false, false, false] rfl rfl (one_of HT_.out (by kernel_rfl)) (by decide) (fun K hK => ?_)
                   refine goes_ Try.func38 (by kernel_rfl) rfl #[.agg #[.int .i64 a0_0, .slice A0_1 l0_1.length c0_1], .int .i64 (Go.bits .and .i64 (rd l1 x27_2) (rd l1 x53_4))] (by rfl) rfl rfl lm ?_
                   with_reducible refine (impl_rankIn.calls k4 a0_0 _ _ l0_1 (Go.bits .and .i64 (rd l1 x27_2) (rd l1 x53_4)) t23015 _ ?side1 ?side2 A35.out).mono ?_
                   (case side1 => exact pC (Kd.C_below HR0_1.out HB.out))
                   (case side2 => exact HC0_1.out)
                   rintro e w53 ⟨rfl, hb⟩
                   refine ⟨_, rfl, ?_⟩
                   have n0_ := aQ (Kd.R_below (pR HO_5.out) hb)
                   have n1_ := aQ (blk_below (g := gb23001) (o := .cells #[.int .i64 a0_0, .slice A0_1 l0_1.length c0_1] 28 (0, 0)) (pk BK23001.out) hb)
                   have n2_ := aQ (below_step (pB1 HB.out GE23001.out) hb)
                   clear HO_5
                   clear BK23001
                   clear HB
                   have HO_5 := n0_
                   have BK23001 := n1_
                   have HB := n2_
                   clear n0_ n1_ n2_
                   (try clear hb)
                   (try clear hb2)
                   (try clear hk)
                   (try clear hi)
                   refine hK.out _ _ ⟨(blk_cell BK23001.out 0).trans rfl, (blk_cell BK23001.out 1).trans rfl⟩ (fun hHeld => ?_)
                   clear hK K
                   refine norm_ (a' := ?_) ?_ ?_
                   rotate_left
                   ·show Act.put _ (some 68) _ = _
                    simp only [Act.put, List.setIfInBounds_toArray, List.set_cons_zero, List.set_cons_succ, i64_w, i32_w]
                    rfl
                   refine one_ (i := 16) (N := some 73) #[true, true, true, true, true, true, true, true, true, true, true, true, true, true, true, true, true, false, false, false] rfl rfl (one_of HT_.out (by kernel_rfl)) (by decide) (fun K hK => ?_)
                   refine goes_ Try.func38 (by kernel_rfl) rfl #[.agg #[.int .i64 a0_0, .slice A0_1 l0_1.length c0_1], .int .i64 (Go.bits .or .i64 (rd l1 x27_2) (rd l1 x53_4))] (by rfl) rfl rfl lm ?_
                   with_reducible refine (impl_rankIn.calls k4 a0_0 _ _ l0_1 (Go.bits .or .i64 (rd l1 x27_2) (rd l1 x53_4)) t23016 _ ?side1 ?side2 A36.out).mono ?_
                   (case side1 => exact pC (Kd.C_below HR0_1.out HB.out))
                   (case side2 => exact HC0_1.out)
                   rintro e w54 ⟨rfl, hb⟩
                   refine ⟨_, rfl, ?_⟩
                   have n0_ := aQ (Kd.R_below (pR HO_5.out) hb)
                   have n1_ := aQ (blk_below (g := gb23001) (o := .cells #[.int .i64 a0_0, .slice A0_1 l0_1.length c0_1] 28 (0, 0)) (pk BK23001.out) hb)
                   have n2_ := aQ (below_step (pB1 HB.out GE23001.out) hb)
                   clear HO_5
                   clear BK23001
                   clear HB
                   have HO_5 := n0_
                   have BK23001 := n1_
                   have HB := n2_
                   clear n0_ n1_ n2_
                   (try clear hb)
                   (try clear hb2)
                   (try clear hk)
                   (try clear hi)
                   refine hK.out _ _ ⟨(blk_cell BK23001.out 0).trans rfl, (blk_cell BK23001.out 1).trans rfl⟩ (fun hHeld => ?_)
                   clear hK K
                   refine norm_ (a' := ?_) ?_ ?_
                   rotate_left
                   ·show Act.put _ (some 73) _ = _
                    simp only [Act.put, List.setIfInBounds_toArray, List.set_cons_zero, List.set_cons_succ, i64_w, i32_w]
                    rfl
                   refine pure_ (i := 17) (N := some 74) (v := ?_) (a' := ?_) #[true, true, true, true, true, true, true, true, true, true, true, true, true, true, true, true, true, true, false, false] rfl rfl (any_of HT_.out (by kernel_rfl)) (fun _ _ _ h => h) (Or.inl ⟨by rfl, ?_⟩) ?_ ?_
                   rotate_left
                   ·intro w'
                    go_simp
                    with_reducible rfl
                   rotate_left
                   ·simp only [Act.put, List.setIfInBounds_toArray, List.set_cons_zero, List.set_cons_succ, i64_w, i32_w]
                    rfl
                   refine pure_ (i := 18) (N := some 75) (v := ?_) (a' := ?_) #[true, true, true, true, true, true, true, true, true, true, true, true, true, true, true, true, true, true, true, false] rfl rfl (any_of HT_.out (by kernel_rfl)) (fun _ _ _ h => h) (Or.inl ⟨by rfl, ?_⟩) ?_ ?_
                   rotate_left
                   ·intro w'
                    go_simp
                    with_reducible rfl
                   rotate_left
                   ·simp only [Act.put, List.setIfInBounds_toArray, List.set_cons_zero, List.set_cons_succ, i64_w, i32_w]
                    rfl
                   refine pure_ (i := 19) (N := some 12) (v := ?_) (a' := ?_) #[true, true, true, true, true, true, true, true, true, true, true, true, true, true, true, true, true, true, true, true] rfl rfl (any_of HT_.out (by kernel_rfl)) (fun _ _ _ h => h) (Or.inl ⟨by rfl, ?_⟩) ?_ ?_
                   rotate_left
                   ·intro w'
                    go_simp
                    with_reducible rfl
                   rotate_left
                   ·simp only [Act.put, List.setIfInBounds_toArray, List.set_cons_zero, List.set_cons_succ, i64_w, i32_w]
                    rfl
                   refine done_ (done_of HT_.out (by kernel_rfl)) ?_
                   try go_wp2
                   go_roundg k4
                   case measure => have := HJ2.out; have := HK2.out; have := HK3.out; have := HK4.out; omega
                   case rel => exact ⟨(wrap64 (x53_4 + 1)), rs_, H', ⟨by have := HJ2.out; have := HK2.out; have := HK3.out; have := HK4.out; omega⟩, ⟨pR HO_5.out⟩, ⟨pk BK23001.out⟩, ⟨pB1 HB.out GE23001.out⟩⟩
                 ·rw [if_neg c32] at H
                  exact absurd H (by simp)
                ·rw [if_neg c31] at H
                 exact absurd H (by simp)
               ·rw [if_neg c30] at H
                have c30b0 : decide (x53_4 < (l1.length : Int)) = false := decide_eq_false c30
                clear c30
                have H' := aQ H
                clear H
                go_wp2
                go_roundg k4
                case measure => have := HJ2.out; have := HK2.out; have := HK3.out; have := HK4.out; omega
                case rel => exact ⟨(wrap64 (x27_2 + 1)), rs_, H', ⟨by have := HJ2.out; have := HK2.out; have := HK3.out; have := HK4.out; omega⟩, ⟨pR HO_5.out⟩, ⟨pk BK23001.out⟩, ⟨pB1 HB.out GE23001.out⟩⟩
         ·replace c21 := Bool.eq_false_iff.mpr c21
          subst c21
          have H1 : (some false) = some r := by rw [if_neg (show ¬ (false = true) by decide)] at H; exact H
          clear H
          have H := H1
          clear H1
          obtain rfl := Option.some.inj H
          have p23007 : 0 ≤ (x27_2 : Int) := of_decide_eq_true as_
          have q23007 : x27_2 < (l1.length : Int) := of_decide_eq_true as_
          obtain ⟨ad23007, e23007, hx23007_0⟩ := Kd.at_int HR1.out x27_2 p23007 q23007
          cases e23007
          replace hx23007_0 := (HB.out.cell (World.block_lt_of_cell? w _ hx23007_0)).trans hx23007_0
          replace p23007 := eq_true p23007
          replace q23007 := eq_true q23007
          obtain ⟨Ao55, co55, eo55⟩ := Kd.R_slice HO_5.out
          subst eo55
          go_wp2_with (first | ((with_reducible refine gate_callee (f := 36) rfl ?_); refine goesL_ (some 33) rfl rfl Try.func36 (by kernel_rfl) rfl #[.slice Ao55 t23004.length co55, .int .i64 (rd l1 x27_2)] rfl lm ?_; (with_reducible refine (impl_HasSet.calls k2 _ _ t23004 (rd l1 x27_2) false _ ?side1 ?side2 A20.out).mono ?_); (case side1 => repeat (first | exact (Kd.R_reads' HO_5.out).2.2 | (with_reducible refine Kd.C_alloc ?_ _) | (with_reducible refine Kd.C_drewN ?_ _) | (with_reducible refine Kd.C_drew ?_))); (case side2 => exact (Kd.R_reads' HO_5.out).2.1); rintro e w' ⟨rfl, ⟨nd, rfl⟩⟩; refine ⟨_, rfl, ?_⟩))
          go_ret
          exact ⟨re_, pB1 HB.out GE23001.out⟩
        ·rw [if_neg c19] at H
         exact absurd H (by simp)
       ·rw [if_neg c18] at H
        exact absurd H (by simp)
      ·rw [if_neg c17] at H
       have c17b0 : decide (x27_2 < (l1.length : Int)) = false := decide_eq_false c17
       clear c17
       obtain rfl := Option.some.inj H
       go_wp2
       go_ret
       exact ⟨re_, pB1 HB.out GE23001.out⟩
/-! ### cmp_isNaN_int: function 82 -/
def cmp_isNaN_int.f (a0 : Int) : Option (Bool) := some (a0 != a0)
set_option maxHeartbeats 8000000 in
set_option maxRecDepth 100000 in
theorem cmp_isNaN_int.calls (a0 : Int) (r : Bool) (w : World) (h : cmp_isNaN_int.f a0 = some r) :
  Calls Try.prog 82 #[.int .i64 a0] w fun e w' => e = .returned (.bool r) ∧ Drawn0 w w' := by
 have H : (some (a0 != a0)) = some r := h
 clear h
 obtain rfl := Option.some.inj H
 go_enter Try.func82, Try.ntmps82
 go_wp2
 go_ret
 exact ⟨rs_, rd_⟩
/-! ### cmp_Compare_int: function 69 -/
def cmp_Compare_int.f (a0 : Int) (a1 : Int) : Option (Int) := (cmp_isNaN_int.f a0).bind fun t70001 => ((cmp_isNaN_int.f a1).bind fun t70002 => (if t70001 = true then (if t70002 = true then (some 0) else (some (-1))) else (if t70002 = true then (some 1) else (if a0 < a1 then (some (-1)) else (if a0 > a1 then (some 1) else (some 0))))))
set_option maxHeartbeats 8000000 in
set_option maxRecDepth 100000 in
theorem cmp_Compare_int.calls (a0 : Int) (a1 : Int) (r : Int) (w : World) (h : cmp_Compare_int.f a0 a1 = some r) :
  Calls Try.prog 69 #[.int .i64 a0, .int .i64 a1] w fun e w' => e = .returned (.int .i64 r) ∧ Drawn0 w w' := by
 have H : ((cmp_isNaN_int.f a0).bind fun t70001 => ((cmp_isNaN_int.f a1).bind fun t70002 => (if t70001 = true then (if t70002 = true then (some 0) else (some (-1))) else (if t70002 = true then (some 1) else (if a0 < a1 then (some (-1)) else (if a0 > a1 then (some 1) else (some 0))))))) = some r := h
 clear h
 replace H := Option.bind_eq_some_iff.mp H
 obtain ⟨t70001, A30, H⟩ := H
 replace H : ((cmp_isNaN_int.f a1).bind fun t70002 => (if t70001 = true then (if t70002 = true then (some 0) else (some (-1))) else (if t70002 = true then (some 1) else (if a0 < a1 then (some (-1)) else (if a0 > a1 then (some 1) else (some 0)))))) = some r := H
 have A3 := aQ A30
 clear A30
 replace H := Option.bind_eq_some_iff.mp H
 obtain ⟨t70002, A40, H⟩ := H
 replace H : (if t70001 = true then (if t70002 = true then (some 0) else (some (-1))) else (if t70002 = true then (some 1) else (if a0 < a1 then (some (-1)) else (if a0 > a1 then (some 1) else (some 0))))) = some r := H
 have A4 := aQ A40
 clear A40
 by_cases c5 : t70001 = true
 ·subst c5
  have H1 : (if t70002 = true then (some 0) else (some (-1))) = some r := by rw [if_pos rfl] at H; exact H
  clear H
  have H := H1
  clear H1
  by_cases c6 : t70002 = true
  ·subst c6
   have H1 : (some 0) = some r := by rw [if_pos rfl] at H; exact H
   clear H
   have H := H1
   clear H1
   obtain rfl := Option.some.inj H
   go_enter Try.func69, Try.ntmps69
   go_wp2_with (first | ((with_reducible refine gate_callee (f := 82) rfl ?_); refine goesL_ (some 8) rfl rfl Try.func82 (by kernel_rfl) rfl #[.int .i64 a0] rfl lm ?_; (with_reducible refine (cmp_isNaN_int.calls a0 true _ A3.out).mono ?_); rintro e w' ⟨rfl, ⟨nd, rfl⟩⟩; refine ⟨_, rfl, ?_⟩) | ((with_reducible refine gate_callee (f := 82) rfl ?_); refine goesL_ (some 10) rfl rfl Try.func82 (by kernel_rfl) rfl #[.int .i64 a1] rfl lm ?_; (with_reducible refine (cmp_isNaN_int.calls a1 true _ A4.out).mono ?_); rintro e w' ⟨rfl, ⟨nd, rfl⟩⟩; refine ⟨_, rfl, ?_⟩))
   go_ret
   exact ⟨rs_, rd_⟩
  ·replace c6 := Bool.eq_false_iff.mpr c6
   subst c6
   have H1 : (some (-1)) = some r := by rw [if_neg (show ¬ (false = true) by decide)] at H; exact H
   clear H
   have H := H1
   clear H1
   obtain rfl := Option.some.inj H
   go_enter Try.func69, Try.ntmps69
   go_wp2_with (first | ((with_reducible refine gate_callee (f := 82) rfl ?_); refine goesL_ (some 8) rfl rfl Try.func82 (by kernel_rfl) rfl #[.int .i64 a0] rfl lm ?_; (with_reducible refine (cmp_isNaN_int.calls a0 true _ A3.out).mono ?_); rintro e w' ⟨rfl, ⟨nd, rfl⟩⟩; refine ⟨_, rfl, ?_⟩) | ((with_reducible refine gate_callee (f := 82) rfl ?_); refine goesL_ (some 10) rfl rfl Try.func82 (by kernel_rfl) rfl #[.int .i64 a1] rfl lm ?_; (with_reducible refine (cmp_isNaN_int.calls a1 false _ A4.out).mono ?_); rintro e w' ⟨rfl, ⟨nd, rfl⟩⟩; refine ⟨_, rfl, ?_⟩))
   go_ret
   exact ⟨rs_, rd_⟩
 ·replace c5 := Bool.eq_false_iff.mpr c5
  subst c5
  have H1 : (if t70002 = true then (some 1) else (if a0 < a1 then (some (-1)) else (if a0 > a1 then (some 1) else (some 0)))) = some r := by rw [if_neg (show ¬ (false = true) by decide)] at H; exact H
  clear H
  have H := H1
  clear H1
  by_cases c7 : t70002 = true
  ·subst c7
   have H1 : (some 1) = some r := by rw [if_pos rfl] at H; exact H
   clear H
   have H := H1
   clear H1
   obtain rfl := Option.some.inj H
   go_enter Try.func69, Try.ntmps69
   go_wp2_with (first | ((with_reducible refine gate_callee (f := 82) rfl ?_); refine goesL_ (some 8) rfl rfl Try.func82 (by kernel_rfl) rfl #[.int .i64 a0] rfl lm ?_; (with_reducible refine (cmp_isNaN_int.calls a0 false _ A3.out).mono ?_); rintro e w' ⟨rfl, ⟨nd, rfl⟩⟩; refine ⟨_, rfl, ?_⟩) | ((with_reducible refine gate_callee (f := 82) rfl ?_); refine goesL_ (some 10) rfl rfl Try.func82 (by kernel_rfl) rfl #[.int .i64 a1] rfl lm ?_; (with_reducible refine (cmp_isNaN_int.calls a1 true _ A4.out).mono ?_); rintro e w' ⟨rfl, ⟨nd, rfl⟩⟩; refine ⟨_, rfl, ?_⟩))
   go_ret
   exact ⟨rs_, rd_⟩
  ·replace c7 := Bool.eq_false_iff.mpr c7
   subst c7
   have H1 : (if a0 < a1 then (some (-1)) else (if a0 > a1 then (some 1) else (some 0))) = some r := by rw [if_neg (show ¬ (false = true) by decide)] at H; exact H
   clear H
   have H := H1
   clear H1
   by_cases c8 : a0 < a1
   ·rw [if_pos c8] at H
    have c8b0 : decide (a0 < a1) = true := decide_eq_true c8
    clear c8
    obtain rfl := Option.some.inj H
    go_enter Try.func69, Try.ntmps69
    go_wp2_with (first | ((with_reducible refine gate_callee (f := 82) rfl ?_); refine goesL_ (some 8) rfl rfl Try.func82 (by kernel_rfl) rfl #[.int .i64 a0] rfl lm ?_; (with_reducible refine (cmp_isNaN_int.calls a0 false _ A3.out).mono ?_); rintro e w' ⟨rfl, ⟨nd, rfl⟩⟩; refine ⟨_, rfl, ?_⟩) | ((with_reducible refine gate_callee (f := 82) rfl ?_); refine goesL_ (some 10) rfl rfl Try.func82 (by kernel_rfl) rfl #[.int .i64 a1] rfl lm ?_; (with_reducible refine (cmp_isNaN_int.calls a1 false _ A4.out).mono ?_); rintro e w' ⟨rfl, ⟨nd, rfl⟩⟩; refine ⟨_, rfl, ?_⟩))
    go_ret
    exact ⟨rs_, rd_⟩
   ·rw [if_neg c8] at H
    have c8b0 : decide (a0 < a1) = false := decide_eq_false c8
    clear c8
    by_cases c9 : a0 > a1
    ·rw [if_pos c9] at H
     have c9b0 : decide (a1 < a0) = true := decide_eq_true c9
     clear c9
     obtain rfl := Option.some.inj H
     go_enter Try.func69, Try.ntmps69
     go_wp2_with (first | ((with_reducible refine gate_callee (f := 82) rfl ?_); refine goesL_ (some 8) rfl rfl Try.func82 (by kernel_rfl) rfl #[.int .i64 a0] rfl lm ?_; (with_reducible refine (cmp_isNaN_int.calls a0 false _ A3.out).mono ?_); rintro e w' ⟨rfl, ⟨nd, rfl⟩⟩; refine ⟨_, rfl, ?_⟩) | ((with_reducible refine gate_callee (f := 82) rfl ?_); refine goesL_ (some 10) rfl rfl Try.func82 (by kernel_rfl) rfl #[.int .i64 a1] rfl lm ?_; (with_reducible refine (cmp_isNaN_int.calls a1 false _ A4.out).mono ?_); rintro e w' ⟨rfl, ⟨nd, rfl⟩⟩; refine ⟨_, rfl, ?_⟩))
     go_ret
     exact ⟨rs_, rd_⟩
    ·rw [if_neg c9] at H
     have c9b0 : decide (a1 < a0) = false := decide_eq_false c9
     clear c9
     obtain rfl := Option.some.inj H
     go_enter Try.func69, Try.ntmps69
     go_wp2_with (first | ((with_reducible refine gate_callee (f := 82) rfl ?_); refine goesL_ (some 8) rfl rfl Try.func82 (by kernel_rfl) rfl #[.int .i64 a0] rfl lm ?_; (with_reducible refine (cmp_isNaN_int.calls a0 false _ A3.out).mono ?_); rintro e w' ⟨rfl, ⟨nd, rfl⟩⟩; refine ⟨_, rfl, ?_⟩) | ((with_reducible refine gate_callee (f := 82) rfl ?_); refine goesL_ (some 10) rfl rfl Try.func82 (by kernel_rfl) rfl #[.int .i64 a1] rfl lm ?_; (with_reducible refine (cmp_isNaN_int.calls a1 false _ A4.out).mono ?_); rintro e w' ⟨rfl, ⟨nd, rfl⟩⟩; refine ⟨_, rfl, ?_⟩))
     go_ret
     exact ⟨rs_, rd_⟩
/-! ### slices_Compare_int_int: function 41 -/
def slices_Compare_int_int.l0 : Nat → List Int → List Int → List Int → Int → Int → Option (Int)
 | 0, _, _, _, _, _ => none
 | k + 1, x0, x1, x9, x10, x11 => if x11 < x10 then (if 0 ≤ x11 then (if x11 < (x9.length : Int) then (if x11 ≥ (x1.length : Int) then (some 1) else (if x11 < (x1.length : Int) then ((cmp_Compare_int.f (rd x9 x11) (rd x1 x11)).bind fun t42003 => (if t42003 = 0 then (slices_Compare_int_int.l0 k x0 x1 x9 x10 (wrap64 (x11 + 1))) else (some t42003))) else (none))) else (none)) else (none)) else (if (x0.length : Int) < (x1.length : Int) then (some (-1)) else (some 0))
def slices_Compare_int_int.f (k : Nat) (l0 : List Int) (l1 : List Int) : Option (Int) := slices_Compare_int_int.l0 k l0 l1 l0 (l0.length : Int) 0
theorem slices_Compare_int_int.mono_l : ∀ k, (∀ y0 y1 y2 y3 y4, LeO (slices_Compare_int_int.l0 k y0 y1 y2 y3 y4) (slices_Compare_int_int.l0 (k + 1) y0 y1 y2 y3 y4))
 | 0 => fun _ _ _ _ _ r h => by simp [slices_Compare_int_int.l0] at h
 | k + 1 => by
  have ih0 := slices_Compare_int_int.mono_l k
  ·intro y0 y1 y2 y3 y4
   unfold slices_Compare_int_int.l0
   repeat' first
   | (with_reducible exact ih0 _ _ _ _ _)
   | (with_reducible exact LeO.refl _)
   | (with_reducible exact LeO.none _)
   | (with_reducible refine LeO.ite ?_ ?_)
   | (with_reducible refine LeO.bind ?_ (fun _ => ?_))
   | exact ih0 _ _ _ _ _
   | exact LeO.none _
   | refine LeO.ite ?_ ?_
   | refine LeO.bind ?_ (fun _ => ?_)
theorem slices_Compare_int_int.mono : ∀ a0 a1 k, LeO (slices_Compare_int_int.f k a0 a1) (slices_Compare_int_int.f (k + 1) a0 a1) := by
 intro a0 a1 k
 have ih0 := slices_Compare_int_int.mono_l k
 unfold slices_Compare_int_int.f
 repeat' first
   | (with_reducible exact ih0 _ _ _ _ _)
   | (with_reducible exact LeO.refl _)
   | (with_reducible exact LeO.none _)
   | (with_reducible refine LeO.ite ?_ ?_)
   | (with_reducible refine LeO.bind ?_ (fun _ => ?_))
   | exact ih0 _ _ _ _ _
   | exact LeO.none _
   | refine LeO.ite ?_ ?_
   | refine LeO.bind ?_ (fun _ => ?_)
set_option maxHeartbeats 8000000 in
set_option maxRecDepth 100000 in
theorem slices_Compare_int_int.calls (k : Nat) (A0 : Option Addr) (c0 : Nat) (l0 : List Int) (A1 : Option Addr) (c1 : Nat) (l1 : List Int) (r : Int) (w : World) (hr0 : Kd.C (Kd.int .i64) w A0 l0.length l0) (hc0 : l0.length ≤ c0) (hr1 : Kd.C (Kd.int .i64) w A1 l1.length l1) (hc1 : l1.length ≤ c1) (h : slices_Compare_int_int.f k l0 l1 = some r) :
  Calls Try.prog 41 #[.slice A0 l0.length c0, .slice A1 l1.length c1] w fun e w' => e = .returned (.int .i64 r) ∧ Drawn0 w w' := by
 have HR0 := aQ hr0
 have HC0 := aQ hc0
 clear hr0 hc0
 have HR1 := aQ hr1
 have HC1 := aQ hc1
 clear hr1 hc1
 have H : (slices_Compare_int_int.l0 k l0 l1 l0 (l0.length : Int) 0) = some r := h
 clear h
 have H' := aQ H
 clear H
 go_enter Try.func41, Try.ntmps41
 go_wp2
 go_loopg [11] k (fun kq v11 w' => ∃ (x11_1 : Int), v11 = .int .i64 x11_1 ∧ Aside0 (slices_Compare_int_int.l0 kq l0 l1 l0 (l0.length : Int) x11_1 = some r) ∧ Aside0 (kq ≤ k) ∧ Drawn0 w w')
 case atStart => exact ⟨(0), rs_, H', ⟨Nat.le_refl _⟩, rd_⟩
 case round =>
  clear H'
  try clear c1
  try clear p2
  obtain ⟨x11_1, rfl, HA, HK1, ⟨m1, rfl⟩⟩ := hrel
  cases gk with
  | zero => exact absurd HA.out (by simp [slices_Compare_int_int.l0])
  | succ k1 =>
   have H := HA.out
   clear HA
   simp only [slices_Compare_int_int.l0] at H
   by_cases c3 : x11_1 < (l0.length : Int)
   ·rw [if_pos c3] at H
    have c3b0 : decide (x11_1 < (l0.length : Int)) = true := decide_eq_true c3
    clear c3
    by_cases c4 : 0 ≤ x11_1
    ·rw [if_pos c4] at H
     have c4b0 : decide (0 ≤ x11_1) = true := decide_eq_true c4
     clear c4
     by_cases c5 : x11_1 < (l0.length : Int)
     ·rw [if_pos c5] at H
      have c5b0 : decide (x11_1 < (l0.length : Int)) = true := decide_eq_true c5
      clear c5
      by_cases c6 : x11_1 ≥ (l1.length : Int)
      ·rw [if_pos c6] at H
       have c6b0 : decide ((l1.length : Int) ≤ x11_1) = true := decide_eq_true c6
       clear c6
       obtain rfl := Option.some.inj H
       have p42001 : 0 ≤ (x11_1 : Int) := of_decide_eq_true as_
       have q42001 : x11_1 < (l0.length : Int) := of_decide_eq_true as_
       obtain ⟨ad42001, e42001, hx42001_0⟩ := Kd.at_int HR0.out x11_1 p42001 q42001
       cases e42001
       replace p42001 := eq_true p42001
       replace q42001 := eq_true q42001
       go_wp2
       go_ret
       exact ⟨rs_, rd_⟩
      ·rw [if_neg c6] at H
       have c6b0 : decide ((l1.length : Int) ≤ x11_1) = false := decide_eq_false c6
       clear c6
       by_cases c7 : x11_1 < (l1.length : Int)
       ·rw [if_pos c7] at H
        have c7b0 : decide (x11_1 < (l1.length : Int)) = true := decide_eq_true c7
        clear c7
        replace H := Option.bind_eq_some_iff.mp H
        obtain ⟨t42003, A80, H⟩ := H
        replace H : (if t42003 = 0 then (slices_Compare_int_int.l0 k1 l0 l1 l0 (l0.length : Int) (wrap64 (x11_1 + 1))) else (some t42003)) = some r := H
        have A8 := aQ A80
        clear A80
        by_cases c9 : t42003 = 0
        ·rw [if_pos c9] at H
         have c9b0 : (t42003 == 0) = true := beq_iff_eq.mpr c9
         have c9b1 : (t42003 != 0) = false := bne_eq_false_iff_eq.mpr c9
         clear c9
         have H' := aQ H
         clear H
         have p42001 : 0 ≤ (x11_1 : Int) := of_decide_eq_true as_
         have q42001 : x11_1 < (l0.length : Int) := of_decide_eq_true as_
         obtain ⟨ad42001, e42001, hx42001_0⟩ := Kd.at_int HR0.out x11_1 p42001 q42001
         cases e42001
         replace p42001 := eq_true p42001
         replace q42001 := eq_true q42001
         have p42002 : 0 ≤ (x11_1 : Int) := of_decide_eq_true as_
         have q42002 : x11_1 < (l1.length : Int) := of_decide_eq_true as_
         obtain ⟨ad42002, e42002, hx42002_0⟩ := Kd.at_int HR1.out x11_1 p42002 q42002
         cases e42002
         replace p42002 := eq_true p42002
         replace q42002 := eq_true q42002
         go_wp2_with (first | ((with_reducible refine gate_callee (f := 69) rfl ?_); refine goesL_ (some 26) rfl rfl Try.func69 (by kernel_rfl) rfl #[.int .i64 (rd l0 x11_1), .int .i64 (rd l1 x11_1)] rfl lm ?_; (with_reducible refine (cmp_Compare_int.calls (rd l0 x11_1) (rd l1 x11_1) t42003 _ A8.out).mono ?_); rintro e w' ⟨rfl, ⟨nd, rfl⟩⟩; refine ⟨_, rfl, ?_⟩))
         go_roundg k1
         case measure => have := HK1.out; omega
         case rel => exact ⟨(wrap64 (x11_1 + 1)), rs_, H', ⟨by have := HK1.out; omega⟩, rd_⟩
        ·rw [if_neg c9] at H
         have c9b0 : (t42003 == 0) = false := beq_eq_false_iff_ne.mpr c9
         have c9b1 : (t42003 != 0) = true := bne_iff_ne.mpr c9
         obtain rfl := Option.some.inj H
         have p42001 : 0 ≤ (x11_1 : Int) := of_decide_eq_true as_
         have q42001 : x11_1 < (l0.length : Int) := of_decide_eq_true as_
         obtain ⟨ad42001, e42001, hx42001_0⟩ := Kd.at_int HR0.out x11_1 p42001 q42001
         cases e42001
         replace p42001 := eq_true p42001
         replace q42001 := eq_true q42001
         have p42002 : 0 ≤ (x11_1 : Int) := of_decide_eq_true as_
         have q42002 : x11_1 < (l1.length : Int) := of_decide_eq_true as_
         obtain ⟨ad42002, e42002, hx42002_0⟩ := Kd.at_int HR1.out x11_1 p42002 q42002
         cases e42002
         replace p42002 := eq_true p42002
         replace q42002 := eq_true q42002
         go_wp2_with (first | ((with_reducible refine gate_callee (f := 69) rfl ?_); refine goesL_ (some 26) rfl rfl Try.func69 (by kernel_rfl) rfl #[.int .i64 (rd l0 x11_1), .int .i64 (rd l1 x11_1)] rfl lm ?_; (with_reducible refine (cmp_Compare_int.calls (rd l0 x11_1) (rd l1 x11_1) t42003 _ A8.out).mono ?_); rintro e w' ⟨rfl, ⟨nd, rfl⟩⟩; refine ⟨_, rfl, ?_⟩))
         go_ret
         exact ⟨rs_, rd_⟩
       ·rw [if_neg c7] at H
        exact absurd H (by simp)
     ·rw [if_neg c5] at H
      exact absurd H (by simp)
    ·rw [if_neg c4] at H
     exact absurd H (by simp)
   ·rw [if_neg c3] at H
    have c3b0 : decide (x11_1 < (l0.length : Int)) = false := decide_eq_false c3
    clear c3
    by_cases c10 : (l0.length : Int) < (l1.length : Int)
    ·rw [if_pos c10] at H
     have c10b0 : decide ((l0.length : Int) < (l1.length : Int)) = true := decide_eq_true c10
     have c10b1 : decide (l0.length < l1.length) = true := decide_eq_true (Int.ofNat_lt.mp c10)
     clear c10
     obtain rfl := Option.some.inj H
     go_wp2
     go_ret
     exact ⟨rs_, rd_⟩
    ·rw [if_neg c10] at H
     have c10b0 : decide ((l0.length : Int) < (l1.length : Int)) = false := decide_eq_false c10
     have c10b1 : decide (l0.length < l1.length) = false := decide_eq_false (fun h => c10 (Int.ofNat_lt.mpr h))
     clear c10
     obtain rfl := Option.some.inj H
     go_wp2
     go_ret
     exact ⟨rs_, rd_⟩
/-! ### impl_compareLists: function 24 -/
def impl_compareLists.f (k : Nat) (l0 : List Int) (l1 : List Int) : Option (Int) := if (l0.length : Int) = (l1.length : Int) then ((slices_Compare_int_int.f k l0 l1).bind fun t25001 => (some t25001)) else (some (wrap64 ((l0.length : Int) - (l1.length : Int))))
theorem impl_compareLists.mono : ∀ a0 a1 k, LeO (impl_compareLists.f k a0 a1) (impl_compareLists.f (k + 1) a0 a1) := by
 intro a0 a1 k
 unfold impl_compareLists.f
 repeat' first
   | (with_reducible exact slices_Compare_int_int.mono _ _ _)
   | (with_reducible exact LeO.refl _)
   | (with_reducible exact LeO.none _)
   | (with_reducible refine LeO.ite ?_ ?_)
   | (with_reducible refine LeO.bind ?_ (fun _ => ?_))
   | exact slices_Compare_int_int.mono _ _ _
   | exact LeO.none _
   | refine LeO.ite ?_ ?_
   | refine LeO.bind ?_ (fun _ => ?_)
set_option maxHeartbeats 8000000 in
set_option maxRecDepth 100000 in
theorem impl_compareLists.calls (k : Nat) (A0 : Option Addr) (c0 : Nat) (l0 : List Int) (A1 : Option Addr) (c1 : Nat) (l1 : List Int) (r : Int) (w : World) (hr0 : Kd.C (Kd.int .i64) w A0 l0.length l0) (hc0 : l0.length ≤ c0) (hr1 : Kd.C (Kd.int .i64) w A1 l1.length l1) (hc1 : l1.length ≤ c1) (h : impl_compareLists.f k l0 l1 = some r) :
  Calls Try.prog 24 #[.slice A0 l0.length c0, .slice A1 l1.length c1] w fun e w' => e = .returned (.int .i64 r) ∧ Drawn0 w w' := by
 have HR0 := aQ hr0
 have HC0 := aQ hc0
 clear hr0 hc0
 have HR1 := aQ hr1
 have HC1 := aQ hc1
 clear hr1 hc1
 have H : (if (l0.length : Int) = (l1.length : Int) then ((slices_Compare_int_int.f k l0 l1).bind fun t25001 => (some t25001)) else (some (wrap64 ((l0.length : Int) - (l1.length : Int))))) = some r := h
 clear h
 by_cases c3 : (l0.length : Int) = (l1.length : Int)
 ·rw [if_pos c3] at H
  have c3b0 : ((l0.length : Int) == (l1.length : Int)) = true := beq_iff_eq.mpr c3
  have c3b1 : ((l0.length : Int) != (l1.length : Int)) = false := bne_eq_false_iff_eq.mpr c3
  have c3b2 : (l0.length == l1.length) = true := by first | simpa using c3 | (simp at c3 ⊢; omega)
  clear c3
  replace H := Option.bind_eq_some_iff.mp H
  obtain ⟨t25001, A40, H⟩ := H
  replace H : (some t25001) = some r := H
  have A4 := aQ A40
  clear A40
  obtain rfl := Option.some.inj H
  go_enter Try.func24, Try.ntmps24
  go_wp2_with (first | ((with_reducible refine gate_callee (f := 41) rfl ?_); refine goesL_ (some 17) rfl rfl Try.func41 (by kernel_rfl) rfl #[.slice A0 l0.length c0, .slice A1 l1.length c1] rfl lm ?_; (with_reducible refine (slices_Compare_int_int.calls k _ _ l0 _ _ l1 t25001 _ ?side1 ?side2 ?side3 ?side4 A4.out).mono ?_); (case side1 => exact pC HR0.out); (case side2 => exact HC0.out); (case side3 => exact pC HR1.out); (case side4 => exact HC1.out); rintro e w' ⟨rfl, ⟨nd, rfl⟩⟩; refine ⟨_, rfl, ?_⟩))
  go_ret
  exact ⟨rs_, rd_⟩
 ·rw [if_neg c3] at H
  have c3b0 : ((l0.length : Int) == (l1.length : Int)) = false := beq_eq_false_iff_ne.mpr c3
  have c3b1 : ((l0.length : Int) != (l1.length : Int)) = true := bne_iff_ne.mpr c3
  have c3b2 : (l0.length == l1.length) = false := by first | simpa using c3 | (simp at c3 ⊢; omega)
  obtain rfl := Option.some.inj H
  go_enter Try.func24, Try.ntmps24
  go_wp2
  go_ret
  exact ⟨rs_, rd_⟩
end Go.Proofs.Ytbdloopelidneaa.A
namespace Go.Proofs.Ytbdloopelidneaa.A
open Go.RowKit Go.Proofs.YtbdloopelidneaaW.PrintWords Go.Proofs.YtbdloopelidneaaW.PrintLast Go.Proofs.YtbdloopelidneaaW.PrintMore Go.Proofs.Ytbdloopelidneaa.Z
attribute [local go_sem] max2_int min2_int max_two min_two max_three min_three max_four min_four
set_option linter.unusedVariables false
set_option linter.unusedSimpArgs false
/-! ### slices_SortFunc_int_int: function 23 (by hand) -/
def laysSf_ren : Go.Shelf.Ren := ⟨fun | 6 => 23 | 15 => 40 | 14 => 39 | 28 => 67 | 29 => 68 | 20 => 59 | 21 => 60 | 22 => 61 | 23 => 62 | 24 => 63 | 25 => 64 | 26 => 65 | 27 => 66 | 46 => 77 | 47 => 78 | 48 => 79 | 49 => 80 | 50 => 81 | 57 => 85 | n => n, fun | 22 => 26 | 24 => 22 | 25 => 45 | 3 => 3 | 39 => 38 | 0 => 0 | 53 => 71 | 55 => 73 | 4 => 4 | 46 => 64 | 45 => 63 | 50 => 68 | 5 => 5 | 9 => 9 | 66 => 76 | 70 => 80 | 76 => 82 | 77 => 83 | n => n, fun | n => n⟩
theorem laysSf : Go.Proofs.SlLaysF.n6 Try.prog laysSf_ren := {
 mixed := by kernel_rfl
 f6 := ⟨Try.f23.name, by decide, Try.func23.trans (congrArg some (by kernel_rfl))⟩
 f14 := ⟨Try.f39.name, by decide, Try.func39.trans (congrArg some (by kernel_rfl))⟩
 f15 := Try.func40.trans (congrArg some (by kernel_rfl))
 f20 := ⟨Try.f59.name, by decide, Try.func59.trans (congrArg some (by kernel_rfl))⟩
 f21 := ⟨Try.f60.name, by decide, Try.func60.trans (congrArg some (by kernel_rfl))⟩
 f22 := ⟨Try.f61.name, by decide, Try.func61.trans (congrArg some (by kernel_rfl))⟩
 f23 := ⟨Try.f62.name, by decide, Try.func62.trans (congrArg some (by kernel_rfl))⟩
 f24 := ⟨Try.f63.name, by decide, Try.func63.trans (congrArg some (by kernel_rfl))⟩
 f25 := ⟨Try.f64.name, by decide, Try.func64.trans (congrArg some (by kernel_rfl))⟩
 f26 := ⟨Try.f65.name, by decide, Try.func65.trans (congrArg some (by kernel_rfl))⟩
 f27 := ⟨Try.f66.name, by decide, Try.func66.trans (congrArg some (by kernel_rfl))⟩
 f28 := Try.func67.trans (congrArg some (by kernel_rfl))
 f29 := Try.func68.trans (congrArg some (by kernel_rfl))
 f46 := ⟨Try.f77.name, by decide, Try.func77.trans (congrArg some (by kernel_rfl))⟩
 f47 := Try.func78.trans (congrArg some (by kernel_rfl))
 f48 := Try.func79.trans (congrArg some (by kernel_rfl))
 f49 := ⟨Try.f80.name, by decide, Try.func80.trans (congrArg some (by kernel_rfl))⟩
 f50 := ⟨Try.f81.name, by decide, Try.func81.trans (congrArg some (by kernel_rfl))⟩
 f57 := ⟨Try.f85.name, by decide, Try.func85.trans (congrArg some (by kernel_rfl))⟩
 t0 := Try.underlying0
 a0 := Try.isAgg0
 z0 := Try.sizeOf0
 v0 := Try.zeroValue0
 t3 := Try.underlying3
 a3 := Try.isAgg3
 z3 := Try.sizeOf3
 v3 := Try.zeroValue3
 t4 := Try.underlying4
 a4 := Try.isAgg4
 z4 := Try.sizeOf4
 v4 := Try.zeroValue4
 t5 := Try.underlying5
 a5 := Try.isAgg5
 z5 := Try.sizeOf5
 v5 := Try.zeroValue5
 t9 := Try.underlying9
 a9 := Try.isAgg9
 z9 := Try.sizeOf9
 v9 := Try.zeroValue9
 t22 := Try.underlying26
 a22 := Try.isAgg26
 z22 := Try.sizeOf26
 v22 := Try.zeroValue26
 a24 := Try.isAgg22
 z24 := Try.sizeOf22
 t25 := Try.underlying45
 a25 := Try.isAgg45
 z25 := Try.sizeOf45
 v25 := Try.zeroValue45
 t39 := Try.underlying38
 a39 := Try.isAgg38
 z39 := Try.sizeOf38
 v39 := Try.zeroValue38
 t45 := Try.underlying63
 a45 := Try.isAgg63
 z45 := Try.sizeOf63
 v45 := Try.zeroValue63
 t46 := Try.underlying64
 a46 := Try.isAgg64
 z46 := Try.sizeOf64
 v46 := Try.zeroValue64
 t50 := Try.underlying68
 a50 := Try.isAgg68
 z50 := Try.sizeOf68
 v50 := Try.zeroValue68
 t53 := Try.underlying71
 a53 := Try.isAgg71
 z53 := Try.sizeOf71
 v53 := Try.zeroValue71
 t55 := Try.underlying73
 a55 := Try.isAgg73
 z55 := Try.sizeOf73
 v55 := Try.zeroValue73
 t66 := Try.underlying76
 a66 := Try.isAgg76
 z66 := Try.sizeOf76
 v66 := Try.zeroValue76
 t70 := Try.underlying80
 a70 := Try.isAgg80
 z70 := Try.sizeOf80
 v70 := Try.zeroValue80
 t76 := Try.underlying82
 a76 := Try.isAgg82
 z76 := Try.sizeOf82
 v76 := Try.zeroValue82
 t77 := Try.underlying83
 a77 := Try.isAgg83
 z77 := Try.sizeOf83
 v77 := Try.zeroValue83 }
def cmpV (a b : List Int) : Int := if lexS a b = true then -1 else if a = b then 0 else 1
def cmpS (a b : List Int) : Int := if a.length = b.length then cmpV a b else (a.length : Int) - (b.length : Int)
theorem lexS_eq (x : Int) (X Y : List Int) : lexS (x :: X) (x :: Y) = lexS X Y := by rw [lexS, if_pos rfl]
theorem lexS_ne {x y : Int} (h : ¬ x = y) (X Y : List Int) : lexS (x :: X) (y :: Y) = decide (x < y) := by rw [lexS, if_neg h]
theorem cmpV_eq (x : Int) (X Y : List Int) : cmpV (x :: X) (x :: Y) = cmpV X Y := by
 unfold cmpV
 simp only [lexS_eq, List.cons.injEq, true_and]
theorem cmpV_lt {x y : Int} (h : x < y) (X Y : List Int) : cmpV (x :: X) (y :: Y) = -1 := by
 unfold cmpV
 rw [if_pos (by rw [lexS_ne (by omega)]; exact decide_eq_true h)]
theorem cmpV_gt {x y : Int} (h : x > y) (X Y : List Int) : cmpV (x :: X) (y :: Y) = 1 := by
 unfold cmpV
 rw [if_neg (by rw [lexS_ne (by omega)]; simp; omega), if_neg (by intro e; injection e with e; omega)]
theorem cmpS_neg (a b : List Int) : decide (cmpS a b < 0) = befS a b := by
 unfold cmpS befS
 by_cases h : a.length = b.length
 ·rw [if_pos h, if_pos h]
  unfold cmpV
  by_cases h2 : lexS a b = true
  ·rw [if_pos h2, h2]; rfl
  ·rw [if_neg h2, Bool.eq_false_iff.2 h2]
   by_cases h3 : a = b
   ·rw [if_pos h3]; rfl
   ·rw [if_neg h3]; rfl
 ·rw [if_neg h, if_neg h]
  rw [Bool.eq_iff_iff, decide_eq_true_eq, decide_eq_true_eq]
  omega
theorem cmpInt_val (a b : Int) : cmp_Compare_int.f a b = some (if a < b then -1 else if a > b then 1 else 0) := by
 have h : ∀ x : Int, cmp_isNaN_int.f x = some false := fun x => by unfold cmp_isNaN_int.f; simp
 unfold cmp_Compare_int.f
 rw [h, h, Option.bind_some, Option.bind_some, if_neg (by decide), if_neg (by decide)]
 by_cases h1 : a < b
 ·rw [if_pos h1, if_pos h1]
 ·rw [if_neg h1, if_neg h1]
  by_cases h2 : a > b
  ·rw [if_pos h2, if_pos h2]
  ·rw [if_neg h2, if_neg h2]
theorem rd_at (X : List Int) (i : Nat) (h : i < X.length) : rd X (i : Int) = X[i] := by
 unfold rd
 rw [Int.toNat_natCast, List.getD_eq_getElem?_getD, List.getElem?_eq_getElem h]; rfl
theorem compare_val (X Y : List Int) (h : X.length = Y.length) (hx : X.length ≤ 17592186044416) : ∃ k, slices_Compare_int_int.f k X Y = some (cmpV X Y) := by
 have key : ∀ (d i : Nat), i + d = X.length → ∃ k, slices_Compare_int_int.l0 k X Y X (X.length : Int) (i : Int) = some (cmpV (X.drop i) (Y.drop i)) := by
  intro d
  induction d with
  | zero =>
   intro i hi
   refine ⟨1, ?_⟩
   rw [slices_Compare_int_int.l0, if_neg (by omega), if_neg (by omega), List.drop_eq_nil_of_le (by omega : X.length ≤ i), List.drop_eq_nil_of_le (by omega : Y.length ≤ i)]
   rfl
  | succ d ih =>
   intro i hi
   obtain ⟨k, hk⟩ := ih (i + 1) (by omega)
   have hi1 : i < X.length := by omega
   have hi2 : i < Y.length := by omega
   rw [List.drop_eq_getElem_cons hi1, List.drop_eq_getElem_cons hi2]
   refine ⟨k + 1, ?_⟩
   have hw : wrap64 ((i : Int) + 1) = ((i + 1 : Nat) : Int) := by rw [wrap64_of (by omega) (by omega)]; omega
   rw [slices_Compare_int_int.l0, if_pos (by omega), if_pos (by omega), if_pos (by omega), if_neg (by omega), if_pos (by omega), rd_at X i hi1, rd_at Y i hi2, cmpInt_val, Option.bind_some]
   by_cases he : X[i] = Y[i]
   ·have e0 : (if X[i] < Y[i] then (-1 : Int) else if X[i] > Y[i] then 1 else 0) = 0 := by rw [if_neg (by omega), if_neg (by omega)]
    rw [e0, if_pos rfl, hw, hk, he, cmpV_eq]
   ·by_cases hl : X[i] < Y[i]
    ·have e0 : (if X[i] < Y[i] then (-1 : Int) else if X[i] > Y[i] then 1 else 0) = -1 := by rw [if_pos hl]
     rw [e0, if_neg (by decide), cmpV_lt hl]
    ·have e0 : (if X[i] < Y[i] then (-1 : Int) else if X[i] > Y[i] then 1 else 0) = 1 := by rw [if_neg hl, if_pos (by omega)]
     rw [e0, if_neg (by decide), cmpV_gt (by omega)]
 obtain ⟨k, hk⟩ := key X.length 0 (by omega)
 exact ⟨k, by unfold slices_Compare_int_int.f; rw [List.drop_zero, List.drop_zero] at hk; exact hk⟩
theorem compareLists_val (X Y : List Int) (hx : X.length ≤ 17592186044416) (hy : Y.length ≤ 17592186044416) : ∃ k, impl_compareLists.f k X Y = some (cmpS X Y) := by
 by_cases h : X.length = Y.length
 ·obtain ⟨k, hk⟩ := compare_val X Y h hx
  refine ⟨k, ?_⟩
  unfold impl_compareLists.f cmpS
  rw [if_pos (by omega), if_pos h, hk]; rfl
 ·refine ⟨0, ?_⟩
  unfold impl_compareLists.f cmpS
  rw [if_neg (by omega), if_neg h, wrap64_of (by omega) (by omega)]
theorem cmp_swo {Z : List (SV × List Int)} [Inhabited { p : SV × List Int // p ∈ Z }] : Go.Sort.SWO (Go.Proofs.ltOf (fun x y : { p : SV × List Int // p ∈ Z } => cmpS x.1.2 y.1.2)) := by
 refine ⟨fun x => ?_, fun x y z h1 h2 => ?_, fun x y z h1 h2 => ?_⟩
 ·show decide (cmpS x.1.2 x.1.2 < 0) = false
  rw [cmpS_neg]; exact befS_self _
 ·have h1 : decide (cmpS x.1.2 y.1.2 < 0) = true := h1
  have h2 : decide (cmpS y.1.2 z.1.2 < 0) = true := h2
  show decide (cmpS x.1.2 z.1.2 < 0) = true
  rw [cmpS_neg] at *; exact befS_trans h1 h2
 ·have h1 : decide (cmpS x.1.2 y.1.2 < 0) = false := h1
  have h2 : decide (cmpS y.1.2 z.1.2 < 0) = false := h2
  show decide (cmpS x.1.2 z.1.2 < 0) = false
  rw [cmpS_neg] at *; exact befS_ntrans h1 h2
theorem zip_fst {α β : Type} : ∀ (l : List α) (m : List β), l.length = m.length → (l.zip m).map Prod.fst = l := by
 intro l
 induction l with
 | nil => intro m _; simp
 | cons x l ih =>
  intro m h
  cases m with
  | nil => simp at h
  | cons y m => simp only [List.zip_cons_cons, List.map_cons]; rw [ih m (by simpa using h)]
theorem zip_snd {α β : Type} : ∀ (l : List α) (m : List β), l.length = m.length → (l.zip m).map Prod.snd = m := by
 intro l
 induction l with
 | nil =>
  intro m h
  have : m = [] := List.length_eq_zero_iff.1 h.symm
  subst this; rfl
 | cons x l ih =>
  intro m h
  cases m with
  | nil => simp at h
  | cons y m => simp only [List.zip_cons_cons, List.map_cons]; rw [ih m (by simpa using h)]
set_option maxHeartbeats 4000000 in
theorem sortFunc_walk (vs : List SV) (ls : List (List Int)) (A : Option Addr) (c : Nat) (ok : Nat → Prop) (w0 w : World) (hB : Below w0.heap.size w0 w)
  (h : kSV.R 22 w w0.heap.size ok (.slice A vs.length c) vs) (hI : Inn 3 w w0.heap.size vs ls) (hne : vs ≠ []) (hl : vs.length ≤ 17592186044416) (hll : ∀ l ∈ ls, l.length ≤ 17592186044416) :
  Calls Try.prog 23 #[.slice A vs.length c, .func (.func 24) #[] #[]] w fun e w' => e = .returned (.tuple #[]) ∧ ∃ vs' : List SV, vs'.Perm vs ∧ vs'.length = vs.length ∧ kSV.R 22 w' w0.heap.size ok (.slice A vs.length c) vs' ∧ Inn 3 w' w0.heap.size vs' (sortS ls) ∧ Below w0.heap.size w0 w' ∧ Kept w w' (fun k => some k = (.slice A vs.length c : Value).ownBlock) := by
 rcases gR_where h with ⟨_, hx⟩ | ⟨g, rfl, hg, hlt, hc, cells, hcells⟩
 ·exact absurd hx hne
 have hZl : (vs.zip ls).length = vs.length := by rw [List.length_zip]; have := hI.1; omega
 have hpos : 0 < (vs.zip ls).length := by rw [hZl]; exact List.length_pos_iff.2 hne
 have inst : Inhabited { p : SV × List Int // p ∈ vs.zip ls } := ⟨⟨(vs.zip ls)[0], List.getElem_mem hpos⟩⟩
 have hds : (vs.zip ls).attach.toArray.size = vs.length := by simp only [List.size_toArray, List.length_attach]; exact hZl
 have hmv : ∀ (enc : { p : SV × List Int // p ∈ vs.zip ls } → Value) (m : Nat) (os : Array Obj) (dk : Array { p : SV × List Int // p ∈ vs.zip ls }), Inn 3 (Go.Sort.grow (Go.Sort.putRow enc (Go.Sort.ahead w m) g 0 dk) os) w0.heap.size vs ls := by
  intro enc m os dk
  refine hI.move (fun k _ h2 h3 => gput_far (fun e => ?_) h2 m dk os)
  subst e
  obtain ⟨c2, h3⟩ := h3
  rw [hcells] at h3
  injection h3 with h3
  injection h3 with _ h3
  exact absurd h3 (by decide)
 have hH : Go.Sort.Holds (fun x : { p : SV × List Int // p ∈ vs.zip ls } => svV x.1.1) w g 0 (vs.zip ls).attach.toArray := by
  intro j hj
  have hj2 : j < vs.length := by rw [← hds]; exact hj
  have h1 := gR_holds h j (by simpa using hj2)
  have e : svV ((vs.zip ls).attach.toArray[j]!).1.1 = svV (vs.toArray[j]!) := by
   rw [getElem!_pos _ j hj, getElem!_pos vs.toArray j (by simpa using hj2)]
   simp
  exact ⟨h1.1.trans (congrArg some e.symm), h1.2⟩
 have hcmp : Go.Proofs.CmpReads Try.prog 24 #[] (fun x : { p : SV × List Int // p ∈ vs.zip ls } => svV x.1.1) (fun x y => cmpS x.1.2 y.1.2) g 0 (vs.zip ls).attach.toArray.size w := by
  intro m os dk _ x y
  have hW := hmv (fun x => svV x.1.1) m os dk
  obtain ⟨A1, c1, e1, h1, C1⟩ := Kd.R_reads (hW.2 x.1 x.2)
  obtain ⟨A2, c2, e2, h2, C2⟩ := Kd.R_reads (hW.2 y.1 y.2)
  obtain ⟨k, hk⟩ := compareLists_val x.1.2 y.1.2 (hll _ (List.of_mem_zip x.2).2) (hll _ (List.of_mem_zip y.2).2)
  have hcl := impl_compareLists.calls k A1 c1 x.1.2 A2 c2 y.1.2 _ _ C1 h1 C2 h2 hk
  refine (calls_of_args ?_ hcl).mono (fun e w' he => by obtain ⟨nd, hn⟩ := he.2; exact ⟨he.1, nd, hn⟩)
  show #[svV x.1.1, svV y.1.1] ++ #[] = _
  rw [e1, e2]; rfl
 have eg : ∀ args w, (callFunc 24 args).run Try.prog w = .ok (.enter 24 args) w := runs_of Try.func24 (by kernel_rfl) rfl
 have hcon := Go.Proofs.Any.slices_SortFunc laysSf (fun x : { p : SV × List Int // p ∈ vs.zip ls } => svV x.1.1) (fun _ => rfl) (fun x y => cmpS x.1.2 y.1.2) cmp_swo 24 #[] g 0 c (vs.zip ls).attach.toArray w eg (Go.Proofs.CmpReads.lays hcmp) hH hlt (by rw [hds]; omega)
 rw [hds] at hcon
 refine Calls.mono (show Calls Try.prog 23 #[.slice (some ⟨g, 0, none⟩) vs.length c, .func (.func 24) #[] #[]] w _ from hcon) ?_
 rintro e w' ⟨rfl, d', n, os, hp, hs, rfl⟩
 have hsz : d'.size = vs.length := by rw [hp.1, hds]
 have hperm : d'.toList.Perm (vs.zip ls).attach := by
  have h3 := hp.2.2
  have e1 : d'.extract 0 vs.length = d' := by rw [← hsz]; exact Array.extract_size
  have e2 : (vs.zip ls).attach.toArray.extract 0 vs.length = (vs.zip ls).attach.toArray := by rw [← hds]; exact Array.extract_size
  rw [e1, e2] at h3
  simpa using h3
 have hp1 : (d'.toList.map (fun x => x.1.1)).Perm vs := by
  have := hperm.map (fun x => x.1.1)
  rwa [show (vs.zip ls).attach.map (fun x => x.1.1) = vs from by
   rw [show (fun x : { p : SV × List Int // p ∈ vs.zip ls } => x.1.1) = Prod.fst ∘ Subtype.val from rfl, ← List.map_map, List.attach_map_subtype_val, zip_fst _ _ hI.1]] at this
 have hp2 : (d'.toList.map (fun x => x.1.2)).Perm ls := by
  have := hperm.map (fun x => x.1.2)
  rwa [show (vs.zip ls).attach.map (fun x => x.1.2) = ls from by
   rw [show (fun x : { p : SV × List Int // p ∈ vs.zip ls } => x.1.2) = Prod.snd ∘ Subtype.val from rfl, ← List.map_map, List.attach_map_subtype_val, zip_snd _ _ hI.1]] at this
 have hsort : d'.toList.map (fun x => x.1.2) = sortS ls := by
  refine sortS_unique hp2 ?_
  rw [List.pairwise_map, List.pairwise_iff_getElem]
  intro i j hi hj hij
  have h3 := hs i j (Nat.zero_le _) hij (by rw [← hsz]; simpa using hj)
  have hi' : i < d'.size := by simpa using hi
  have hj' : j < d'.size := by simpa using hj
  rw [getElem!_pos d' i hi', getElem!_pos d' j hj'] at h3
  have h4 : decide (cmpS d'[j].1.2 d'[i].1.2 < 0) = false := h3
  rw [cmpS_neg] at h4
  simpa using h4
 have hlen : (d'.toList.map (fun x => x.1.1)).length = vs.length := by simpa using hsz
 have hw' : Go.Proofs.sortWorld (fun x : { p : SV × List Int // p ∈ vs.zip ls } => svV x.1.1) w g 0 n d' os = Go.Sort.grow (Go.Sort.putRow svV (Go.Sort.ahead w n) g 0 (d'.toList.map (fun x => x.1.1)).toArray) os := by
  show Go.Sort.grow (Go.Sort.putRow _ _ g 0 d') os = _
  rw [putRow_map (fun x : { p : SV × List Int // p ∈ vs.zip ls } => x.1.1) svV]
  congr 2
  apply Array.toList_inj.1
  simp
 refine ⟨rfl, d'.toList.map (fun x => x.1.1), hp1, hlen, ?_, ?_, ?_, ?_⟩
 ·rw [hw']
  have := gR_put h hlen n os
  rwa [hlen] at this
 ·rw [← hsort]
  have hW := hmv (fun x => svV x.1.1) n os d'
  refine ⟨by simp, fun p hp => ?_⟩
  rw [List.zip_map'] at hp
  obtain ⟨x, _, rfl⟩ := List.mem_map.1 hp
  exact hW.2 x.1 x.2
 ·rw [hw']; exact gbelow_put hB hg (by have := hB.size; omega) n _ os
 ·refine ⟨?_, fun k hk hn => ?_⟩
  ·rw [hw', Go.Sort.size_grow, Go.Sort.size_putRow]
   show w.heap.size ≤ w.heap.size + os.size
   omega
  ·rw [hw']; exact gput_far (fun e => hn (by rw [e]; rfl)) hk n _ os
end Go.Proofs.Ytbdloopelidneaa.A
