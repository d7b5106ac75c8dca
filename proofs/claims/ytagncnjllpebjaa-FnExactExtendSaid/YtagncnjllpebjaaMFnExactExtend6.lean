/- Machine side of the law FnExactExtend: Go functions as Lean functions, and proofs that calls come to what these tell. Conditions: those in each theorem. -/
import Derived.Test.YtagncnjllpebjaaMFnExactExtend0
import Derived.Test.YtagncnjllpebjaaMFnExactExtendq0
import Derived.Test.YtagncnjllpebjaaMFnExactExtend1
import Derived.Test.YtagncnjllpebjaaMFnExactExtend2
import Derived.Test.YtagncnjllpebjaaMFnExactExtend3
import Derived.Test.YtagncnjllpebjaaMFnExactExtend5
namespace Go.Proofs.Ytagncnjllpebjaa.A
open Go.RowKit Go.Proofs.YtagncnjllpebjaaW.PrintWords Go.Proofs.YtagncnjllpebjaaW.PrintLast Go.Proofs.YtagncnjllpebjaaW.PrintMore
attribute [local go_sem] max2_int min2_int max_two min_two max_three min_three max_four min_four
set_option linter.unusedVariables false
set_option linter.unusedSimpArgs false
/-! ### spec_Extend: function 39 -/
mutual
def spec_Extend.j0 : Nat → List Int → Bool → Int → List Int → Option (Int × List Int × Bool)
 | 0, _, _, _, _ => none
 | k + 1, x1, x19, x40002000, x40002001 => if x19 = true then (some (0, ([] : List Int), false)) else (if 0 ≤ (IntKind.u64.wrap (x40002000)) then ((spec_FullSet.f x40002000).bind fun t40004 => ((spec_l5Rank.f k x40002000 x40002001 t40004).bind fun t40005 => ((spec_HasSet.f k x1 t40004).bind fun t40006 => ((spec_l1Bit.f (!t40006)).bind fun t40007 => (spec_Extend.l0 k x1 (shl .i64 1 (IntKind.u64.wrap (x40002000))) t40004 (wrap64 (t40005 + t40007)) 0 x40002000 x40002001 (wrap64 (x40002000 + 1)) ([] : List Int)))))) else (none))
def spec_Extend.l0 : Nat → List Int → Int → Int → Int → Int → Int → List Int → Int → List Int → Option (Int × List Int × Bool)
 | 0, _, _, _, _, _, _, _, _, _ => none
 | k + 1, x1, x6, x7, x8, x10, x40002000, x40002001, x40009000, x40009001 => if x10 ≤ x7 then ((spec_l5Rank.f k x40002000 x40002001 x7).bind fun t40012 => (if x8 = t40012 then ((spec_HasSet.f k x40002001 x10).bind fun t40013 => (spec_Extend.j2 k x1 x6 x7 x8 x10 t40013 x40002000 x40002001 x40009000 x40009001)) else (spec_Extend.j2 k x1 x6 x7 x8 x10 false x40002000 x40002001 x40009000 x40009001))) else ((spec_SortSets.f k x40009001).bind fun t40009 => (some (x40009000, t40009, true)))
def spec_Extend.j2 : Nat → List Int → Int → Int → Int → Int → Bool → Int → List Int → Int → List Int → Option (Int × List Int × Bool)
 | 0, _, _, _, _, _, _, _, _, _, _ => none
 | k + 1, x1, x6, x7, x8, x10, x56, x40002000, x40002001, x40009000, x40009001 => if x56 = true then (if x40009001.length < 17592186044416 then (spec_Extend.j3 k x1 x6 x7 x8 x10 x40002000 x40002001 x40009000 (x40009001 ++ [x10])) else (none)) else (spec_Extend.j3 k x1 x6 x7 x8 x10 x40002000 x40002001 x40009000 x40009001)
def spec_Extend.j3 : Nat → List Int → Int → Int → Int → Int → Int → List Int → Int → List Int → Option (Int × List Int × Bool)
 | 0, _, _, _, _, _, _, _, _, _ => none
 | k + 1, x1, x6, x7, x8, x10, x40002000, x40002001, x40009000, x40009001 => (spec_CountOf.f k x10).bind fun t40017 => (if t40017 = (wrap64 (x8 - 1)) then ((spec_l5Rank.f k x40002000 x40002001 x10).bind fun t40018 => (if t40018 = (wrap64 (x8 - 1)) then ((spec_l5Closure.f k x40002000 x40002001 x10).bind fun t40019 => ((spec_HasSet.f k x1 t40019).bind fun t40020 => (if t40020 = true then (spec_Extend.l0 k x1 x6 x7 x8 (wrap64 (x10 + 1)) x40002000 x40002001 x40009000 x40009001) else (if x40009001.length < 17592186044416 then (spec_Extend.l0 k x1 x6 x7 x8 (wrap64 (x10 + 1)) x40002000 x40002001 x40009000 (x40009001 ++ [wrap64 (x10 + x6)])) else (none))))) else (spec_Extend.l0 k x1 x6 x7 x8 (wrap64 (x10 + 1)) x40002000 x40002001 x40009000 x40009001))) else (spec_Extend.l0 k x1 x6 x7 x8 (wrap64 (x10 + 1)) x40002000 x40002001 x40009000 x40009001))
end
def spec_Extend.f (k : Nat) (a0_0 : Int) (l0_1 : List Int) (l1 : List Int) : Option (Int × List Int × Bool) := (spec_IsModularCut.f k a0_0 l0_1 l1).bind fun t40003 => (if t40003 = true then (spec_Extend.j0 k l1 (decide (a0_0 ≥ 8)) a0_0 l0_1) else (spec_Extend.j0 k l1 true a0_0 l0_1))
theorem spec_Extend.mono_l : ∀ k, (∀ y0 y1 y2 y3, LeO (spec_Extend.j0 k y0 y1 y2 y3) (spec_Extend.j0 (k + 1) y0 y1 y2 y3)) ∧ (∀ y0 y1 y2 y3 y4 y5 y6 y7 y8, LeO (spec_Extend.l0 k y0 y1 y2 y3 y4 y5 y6 y7 y8) (spec_Extend.l0 (k + 1) y0 y1 y2 y3 y4 y5 y6 y7 y8)) ∧ (∀ y0 y1 y2 y3 y4 y5 y6 y7 y8 y9, LeO (spec_Extend.j2 k y0 y1 y2 y3 y4 y5 y6 y7 y8 y9) (spec_Extend.j2 (k + 1) y0 y1 y2 y3 y4 y5 y6 y7 y8 y9)) ∧ (∀ y0 y1 y2 y3 y4 y5 y6 y7 y8, LeO (spec_Extend.j3 k y0 y1 y2 y3 y4 y5 y6 y7 y8) (spec_Extend.j3 (k + 1) y0 y1 y2 y3 y4 y5 y6 y7 y8))
 | 0 => ⟨fun _ _ _ _ r h => by simp [spec_Extend.j0] at h, fun _ _ _ _ _ _ _ _ _ r h => by simp [spec_Extend.l0] at h, fun _ _ _ _ _ _ _ _ _ _ r h => by simp [spec_Extend.j2] at h, fun _ _ _ _ _ _ _ _ _ r h => by simp [spec_Extend.j3] at h⟩
 | k + 1 => by
  obtain ⟨ih0, ih1, ih2, ih3⟩ := spec_Extend.mono_l k
  refine ⟨?_, ?_, ?_, ?_⟩
  ·intro y0 y1 y2 y3
   unfold spec_Extend.j0
   repeat' first
   | (with_reducible exact ih0 _ _ _ _)
   | (with_reducible exact ih1 _ _ _ _ _ _ _ _ _)
   | (with_reducible exact ih2 _ _ _ _ _ _ _ _ _ _)
   | (with_reducible exact ih3 _ _ _ _ _ _ _ _ _)
   | (with_reducible exact spec_CountOf.mono _ _)
   | (with_reducible exact spec_HasSet.mono _ _ _)
   | (with_reducible exact spec_IsModularCut.mono _ _ _ _)
   | (with_reducible exact spec_SortSets.mono _ _)
   | (with_reducible exact spec_l5Closure.mono _ _ _ _)
   | (with_reducible exact spec_l5Rank.mono _ _ _ _)
   | (with_reducible exact LeO.refl _)
   | (with_reducible exact LeO.none _)
   | (with_reducible refine LeO.ite ?_ ?_)
   | (with_reducible refine LeO.bind ?_ (fun _ => ?_))
   | exact ih0 _ _ _ _
   | exact ih1 _ _ _ _ _ _ _ _ _
   | exact ih2 _ _ _ _ _ _ _ _ _ _
   | exact ih3 _ _ _ _ _ _ _ _ _
   | exact spec_CountOf.mono _ _
   | exact spec_HasSet.mono _ _ _
   | exact spec_IsModularCut.mono _ _ _ _
   | exact spec_SortSets.mono _ _
   | exact spec_l5Closure.mono _ _ _ _
   | exact spec_l5Rank.mono _ _ _ _
   | exact LeO.none _
   | refine LeO.ite ?_ ?_
   | refine LeO.bind ?_ (fun _ => ?_)
  ·intro y0 y1 y2 y3 y4 y5 y6 y7 y8
   unfold spec_Extend.l0
   repeat' first
   | (with_reducible exact ih0 _ _ _ _)
   | (with_reducible exact ih1 _ _ _ _ _ _ _ _ _)
   | (with_reducible exact ih2 _ _ _ _ _ _ _ _ _ _)
   | (with_reducible exact ih3 _ _ _ _ _ _ _ _ _)
   | (with_reducible exact spec_CountOf.mono _ _)
   | (with_reducible exact spec_HasSet.mono _ _ _)
   | (with_reducible exact spec_IsModularCut.mono _ _ _ _)
   | (with_reducible exact spec_SortSets.mono _ _)
   | (with_reducible exact spec_l5Closure.mono _ _ _ _)
   | (with_reducible exact spec_l5Rank.mono _ _ _ _)
   | (with_reducible exact LeO.refl _)
   | (with_reducible exact LeO.none _)
   | (with_reducible refine LeO.ite ?_ ?_)
   | (with_reducible refine LeO.bind ?_ (fun _ => ?_))
   | exact ih0 _ _ _ _
   | exact ih1 _ _ _ _ _ _ _ _ _
   | exact ih2 _ _ _ _ _ _ _ _ _ _
   | exact ih3 _ _ _ _ _ _ _ _ _
   | exact spec_CountOf.mono _ _
   | exact spec_HasSet.mono _ _ _
   | exact spec_IsModularCut.mono _ _ _ _
   | exact spec_SortSets.mono _ _
   | exact spec_l5Closure.mono _ _ _ _
   | exact spec_l5Rank.mono _ _ _ _
   | exact LeO.none _
   | refine LeO.ite ?_ ?_
   | refine LeO.bind ?_ (fun _ => ?_)
  ·intro y0 y1 y2 y3 y4 y5 y6 y7 y8 y9
   unfold spec_Extend.j2
   repeat' first
   | (with_reducible exact ih0 _ _ _ _)
   | (with_reducible exact ih1 _ _ _ _ _ _ _ _ _)
   | (with_reducible exact ih2 _ _ _ _ _ _ _ _ _ _)
   | (with_reducible exact ih3 _ _ _ _ _ _ _ _ _)
   | (with_reducible exact spec_CountOf.mono _ _)
   | (with_reducible exact spec_HasSet.mono _ _ _)
   | (with_reducible exact spec_IsModularCut.mono _ _ _ _)
   | (with_reducible exact spec_SortSets.mono _ _)
   | (with_reducible exact spec_l5Closure.mono _ _ _ _)
   | (with_reducible exact spec_l5Rank.mono _ _ _ _)
   | (with_reducible exact LeO.refl _)
   | (with_reducible exact LeO.none _)
   | (with_reducible refine LeO.ite ?_ ?_)
   | (with_reducible refine LeO.bind ?_ (fun _ => ?_))
   | exact ih0 _ _ _ _
   | exact ih1 _ _ _ _ _ _ _ _ _
   | exact ih2 _ _ _ _ _ _ _ _ _ _
   | exact ih3 _ _ _ _ _ _ _ _ _
   | exact spec_CountOf.mono _ _
   | exact spec_HasSet.mono _ _ _
   | exact spec_IsModularCut.mono _ _ _ _
   | exact spec_SortSets.mono _ _
   | exact spec_l5Closure.mono _ _ _ _
   | exact spec_l5Rank.mono _ _ _ _
   | exact LeO.none _
   | refine LeO.ite ?_ ?_
   | refine LeO.bind ?_ (fun _ => ?_)
  ·intro y0 y1 y2 y3 y4 y5 y6 y7 y8
   unfold spec_Extend.j3
   repeat' first
   | (with_reducible exact ih0 _ _ _ _)
   | (with_reducible exact ih1 _ _ _ _ _ _ _ _ _)
   | (with_reducible exact ih2 _ _ _ _ _ _ _ _ _ _)
   | (with_reducible exact ih3 _ _ _ _ _ _ _ _ _)
   | (with_reducible exact spec_CountOf.mono _ _)
   | (with_reducible exact spec_HasSet.mono _ _ _)
   | (with_reducible exact spec_IsModularCut.mono _ _ _ _)
   | (with_reducible exact spec_SortSets.mono _ _)
   | (with_reducible exact spec_l5Closure.mono _ _ _ _)
   | (with_reducible exact spec_l5Rank.mono _ _ _ _)
   | (with_reducible exact LeO.refl _)
   | (with_reducible exact LeO.none _)
   | (with_reducible refine LeO.ite ?_ ?_)
   | (with_reducible refine LeO.bind ?_ (fun _ => ?_))
   | exact ih0 _ _ _ _
   | exact ih1 _ _ _ _ _ _ _ _ _
   | exact ih2 _ _ _ _ _ _ _ _ _ _
   | exact ih3 _ _ _ _ _ _ _ _ _
   | exact spec_CountOf.mono _ _
   | exact spec_HasSet.mono _ _ _
   | exact spec_IsModularCut.mono _ _ _ _
   | exact spec_SortSets.mono _ _
   | exact spec_l5Closure.mono _ _ _ _
   | exact spec_l5Rank.mono _ _ _ _
   | exact LeO.none _
   | refine LeO.ite ?_ ?_
   | refine LeO.bind ?_ (fun _ => ?_)
theorem spec_Extend.mono : ∀ a0 a1 a2 k, LeO (spec_Extend.f k a0 a1 a2) (spec_Extend.f (k + 1) a0 a1 a2) := by
 intro a0 a1 a2 k
 obtain ⟨ih0, ih1, ih2, ih3⟩ := spec_Extend.mono_l k
 unfold spec_Extend.f
 repeat' first
   | (with_reducible exact ih0 _ _ _ _)
   | (with_reducible exact ih1 _ _ _ _ _ _ _ _ _)
   | (with_reducible exact ih2 _ _ _ _ _ _ _ _ _ _)
   | (with_reducible exact ih3 _ _ _ _ _ _ _ _ _)
   | (with_reducible exact spec_CountOf.mono _ _)
   | (with_reducible exact spec_HasSet.mono _ _ _)
   | (with_reducible exact spec_IsModularCut.mono _ _ _ _)
   | (with_reducible exact spec_SortSets.mono _ _)
   | (with_reducible exact spec_l5Closure.mono _ _ _ _)
   | (with_reducible exact spec_l5Rank.mono _ _ _ _)
   | (with_reducible exact LeO.refl _)
   | (with_reducible exact LeO.none _)
   | (with_reducible refine LeO.ite ?_ ?_)
   | (with_reducible refine LeO.bind ?_ (fun _ => ?_))
   | exact ih0 _ _ _ _
   | exact ih1 _ _ _ _ _ _ _ _ _
   | exact ih2 _ _ _ _ _ _ _ _ _ _
   | exact ih3 _ _ _ _ _ _ _ _ _
   | exact spec_CountOf.mono _ _
   | exact spec_HasSet.mono _ _ _
   | exact spec_IsModularCut.mono _ _ _ _
   | exact spec_SortSets.mono _ _
   | exact spec_l5Closure.mono _ _ _ _
   | exact spec_l5Rank.mono _ _ _ _
   | exact LeO.none _
   | refine LeO.ite ?_ ?_
   | refine LeO.bind ?_ (fun _ => ?_)
set_option maxHeartbeats 8000000 in
set_option maxRecDepth 100000 in
theorem spec_Extend.calls (k : Nat) (a0_0 : Int) (A0_1 : Option Addr) (c0_1 : Nat) (l0_1 : List Int) (A1 : Option Addr) (c1 : Nat) (l1 : List Int) (r1 : Int) (r2 : List Int) (r3 : Bool) (w : World) (hr0_1 : Kd.C (Kd.int .i64) w A0_1 l0_1.length l0_1) (hc0_1 : l0_1.length ≤ c0_1) (hr1 : Kd.C (Kd.int .i64) w A1 l1.length l1) (hc1 : l1.length ≤ c1) (h : spec_Extend.f k a0_0 l0_1 l1 = some (r1, r2, r3)) :
  Calls Try.prog 39 #[.agg #[.int .i64 a0_0, .slice A0_1 l0_1.length c0_1], .slice A1 l1.length c1] w fun e w' => ∃ v1_ : Value, e = .returned (.tuple #[.agg #[.int .i64 r1, v1_], .bool r3]) ∧ Kd.R (Kd.int .i64) 3 w' w.heap.size (fun _ => True) v1_ r2 ∧ Below w.heap.size w w' := by
 have hu26 := Try.underlying26
 have HR0_1 := aQ hr0_1
 have HC0_1 := aQ hc0_1
 clear hr0_1 hc0_1
 have HR1 := aQ hr1
 have HC1 := aQ hc1
 clear hr1 hc1
 have HB := aQ (Below.refl w.heap.size w)
 have H : ((spec_IsModularCut.f k a0_0 l0_1 l1).bind fun t40003 => (if t40003 = true then (spec_Extend.j0 k l1 (decide (a0_0 ≥ 8)) a0_0 l0_1) else (spec_Extend.j0 k l1 true a0_0 l0_1))) = some (r1, r2, r3) := h
 clear h
 have HC3 := aQ H
 clear H
 go_enter Try.func39, Try.ntmps39
 go_upto_region 1 with (first | ((with_reducible refine gate_dst (N := 2) rfl ?_); refine box_event ?hg (N := 2) ?hd (cs := #[.int .i64 a0_0, .slice A0_1 l0_1.length c0_1]) (t := 26) ?hr ?_; (case hd => rfl); (case hg => rfl); (case hr => first | (go_simp; done) | (go_simp; rfl)); intro gb40001 hg w4 hbox hb; have BK40001 := aQ (hbox); have GW40001 := aQ ((by rw [hg]; exact (below_size (pB HB.out)) : w.heap.size ≤ gb40001)); have GE40001 := aQ ((by rw [hg]; exact (below_size (pB HB.out)) : w.heap.size ≤ gb40001)); replace HB := aQ (below_step (pB HB.out) hb); clear hb hbox hg) | ((with_reducible refine gate_dst (N := 4) rfl ?_); refine box_event ?hg (N := 4) ?hd (cs := #[.int .i64 0, .slice none 0 0]) (t := 26) ?hr ?_; (case hd => rfl); (case hg => rfl); (case hr => first | (go_simp; done) | (go_simp; rfl)); intro gb40002 hg w5 hbox hb; have BK40002 := aQ (hbox); have GW40002 := aQ ((by rw [hg]; exact (below_size (pB1 HB.out GE40001.out)) : w.heap.size ≤ gb40002)); have GE40002 := aQ ((by rw [hg]; exact (below_size (pB1 HB.out GE40001.out)) : w.heap.size ≤ gb40002)); replace HB := aQ (below_step (pB1 HB.out GE40001.out) hb); have NB40001_40002 := aQ ((by rw [hg]; exact Nat.ne_of_lt (blk_lt (g := gb40001) (o := .cells #[.int .i64 a0_0, .slice A0_1 l0_1.length c0_1] 26 (0, 0)) (pk BK40001.out)) : gb40001 ≠ gb40002)); have NB40002_40001 := aQ ((by rw [hg]; exact Nat.ne_of_gt (blk_lt (g := gb40001) (o := .cells #[.int .i64 a0_0, .slice A0_1 l0_1.length c0_1] 26 (0, 0)) (pk BK40001.out)) : gb40002 ≠ gb40001)); replace BK40001 := aQ (blk_below (g := gb40001) (o := .cells #[.int .i64 a0_0, .slice A0_1 l0_1.length c0_1] 26 (0, 0)) (pk BK40001.out) hb); clear hb hbox hg))
 (try simp only [Act.put, List.setIfInBounds_toArray, List.set_cons_zero, List.set_cons_succ])
 go_cut [19] (fun v19 wc => ∃ (kq : Nat) (x19_2 : Bool), v19 = .bool x19_2 ∧ Aside0 (spec_Extend.j0 kq l1 x19_2 a0_0 l0_1 = some (r1, r2, r3)) ∧ Aside0 (kq ≤ k) ∧ Aside0 (wc.heap[gb40001]? = some (.cells #[.int .i64 a0_0, (.slice A0_1 l0_1.length c0_1)] 26 (0, 0))) ∧ Aside0 (wc.heap[gb40002]? = some (.cells #[.int .i64 0, (.slice none 0 0)] 26 (0, 0))) ∧ Aside0 (Below w.heap.size w wc))
 case first =>
  have H := HC3.out
  clear HC3
  replace H := Option.bind_eq_some_iff.mp H
  obtain ⟨t40003, A60, H⟩ := H
  replace H : (if t40003 = true then (spec_Extend.j0 k l1 (decide (a0_0 ≥ 8)) a0_0 l0_1) else (spec_Extend.j0 k l1 true a0_0 l0_1)) = some (r1, r2, r3) := H
  have A6 := aQ A60
  clear A60
  by_cases c7 : t40003 = true
  ·subst c7
   have H1 : (spec_Extend.j0 k l1 (decide (a0_0 ≥ 8)) a0_0 l0_1) = some (r1, r2, r3) := by rw [if_pos rfl] at H; exact H
   clear H
   have H := H1
   clear H1
   have H' := aQ H
   clear H
   have hnb8 := NB40001_40002.out
   have hnc8 := NB40002_40001.out
   have hcz9_0 := bc (v := (.int .i64 a0_0)) BK40001.out 0
   have hcz9_1 := bc (v := (.slice A0_1 l0_1.length c0_1)) BK40001.out 1
   have hfz9_0 := blk_frozen BK40001.out 0
   have hfz9_1 := blk_frozen BK40001.out 1
   go_wp2_with (first | ((with_reducible refine gate_callee (f := 88) rfl ?_); refine goesL_ (some 13) rfl rfl Try.func88 (by kernel_rfl) rfl #[.agg #[.int .i64 a0_0, .slice A0_1 l0_1.length c0_1], .slice A1 l1.length c1] rfl lm ?_; (with_reducible refine (spec_IsModularCut.calls k a0_0 _ _ l0_1 _ _ l1 true _ ?side1 ?side2 ?side3 ?side4 A6.out).mono ?_); (case side1 => exact pC (Kd.C_below HR0_1.out HB.out)); (case side2 => exact HC0_1.out); (case side3 => exact pC (Kd.C_below HR1.out HB.out)); (case side4 => exact HC1.out); rintro e w10 ⟨rfl, hb⟩; refine ⟨_, rfl, ?_⟩; replace BK40001 := aQ (blk_below (g := gb40001) (o := .cells #[.int .i64 a0_0, .slice A0_1 l0_1.length c0_1] 26 (0, 0)) (pk BK40001.out) hb); replace BK40002 := aQ (blk_below (g := gb40002) (o := .cells #[.int .i64 0, .slice none 0 0] 26 (0, 0)) (pk BK40002.out) hb); replace HB := aQ (below_step (pB2 HB.out GE40001.out GE40002.out) hb); (try clear hb); have hcz11_0 := bc (v := (.int .i64 a0_0)) BK40001.out 0; have hcz11_1 := bc (v := (.slice A0_1 l0_1.length c0_1)) BK40001.out 1; have hfz11_0 := blk_frozen BK40001.out 0; have hfz11_1 := blk_frozen BK40001.out 1))
   go_meet
   case rel => exact ⟨_, (decide (a0_0 ≥ 8)), rs_, H', ⟨by first | omega | exact Nat.le_refl _⟩, ⟨pk BK40001.out⟩, ⟨pk BK40002.out⟩, ⟨pB2 HB.out GE40001.out GE40002.out⟩⟩
  ·replace c7 := Bool.eq_false_iff.mpr c7
   subst c7
   have H1 : (spec_Extend.j0 k l1 true a0_0 l0_1) = some (r1, r2, r3) := by rw [if_neg (show ¬ (false = true) by decide)] at H; exact H
   clear H
   have H := H1
   clear H1
   have H' := aQ H
   clear H
   have hnb12 := NB40001_40002.out
   have hnc12 := NB40002_40001.out
   have hcz13_0 := bc (v := (.int .i64 a0_0)) BK40001.out 0
   have hcz13_1 := bc (v := (.slice A0_1 l0_1.length c0_1)) BK40001.out 1
   have hfz13_0 := blk_frozen BK40001.out 0
   have hfz13_1 := blk_frozen BK40001.out 1
   go_wp2_with (first | ((with_reducible refine gate_callee (f := 88) rfl ?_); refine goesL_ (some 13) rfl rfl Try.func88 (by kernel_rfl) rfl #[.agg #[.int .i64 a0_0, .slice A0_1 l0_1.length c0_1], .slice A1 l1.length c1] rfl lm ?_; (with_reducible refine (spec_IsModularCut.calls k a0_0 _ _ l0_1 _ _ l1 false _ ?side1 ?side2 ?side3 ?side4 A6.out).mono ?_); (case side1 => exact pC (Kd.C_below HR0_1.out HB.out)); (case side2 => exact HC0_1.out); (case side3 => exact pC (Kd.C_below HR1.out HB.out)); (case side4 => exact HC1.out); rintro e w14 ⟨rfl, hb⟩; refine ⟨_, rfl, ?_⟩; replace BK40001 := aQ (blk_below (g := gb40001) (o := .cells #[.int .i64 a0_0, .slice A0_1 l0_1.length c0_1] 26 (0, 0)) (pk BK40001.out) hb); replace BK40002 := aQ (blk_below (g := gb40002) (o := .cells #[.int .i64 0, .slice none 0 0] 26 (0, 0)) (pk BK40002.out) hb); replace HB := aQ (below_step (pB2 HB.out GE40001.out GE40002.out) hb); (try clear hb)))
   go_meet
   case rel => exact ⟨_, (true), rs_, H', ⟨by first | omega | exact Nat.le_refl _⟩, ⟨pk BK40001.out⟩, ⟨pk BK40002.out⟩, ⟨pB2 HB.out GE40001.out GE40002.out⟩⟩
 case rest =>
  clear HC3
  try clear c1
  try clear p2
  try clear c3
  try clear c7
  try clear c8
  try clear c12
  try clear hcz11_0
  try clear hcz11_1
  try clear hcz13_0
  try clear hcz13_1
  try clear hcz9_0
  try clear hcz9_1
  try clear hfz11_0
  try clear hfz11_1
  try clear hfz13_0
  try clear hfz13_1
  try clear hfz9_0
  try clear hfz9_1
  obtain ⟨kq, x19_2, rfl, HA, HJ2, BK40001, BK40002, HB⟩ := hcut
  cases kq with
  | zero => exact absurd HA.out (by simp [spec_Extend.j0])
  | succ kj2 =>
   have H := HA.out
   clear HA
   simp only [spec_Extend.j0] at H
   by_cases c15 : x19_2 = true
   ·subst c15
    have H1 : (some (0, ([] : List Int), false)) = some (r1, r2, r3) := by rw [if_pos rfl] at H; exact H
    clear H
    have H := H1
    clear H1
    simp only [Option.some.injEq, Prod.mk.injEq] at H
    obtain ⟨rfl, rfl, rfl⟩ := H
    have hnb16 := NB40002_40001.out
    have hnc16 := NB40001_40002.out
    have hcz17_0 := bc (v := (.int .i64 0)) BK40002.out 0
    have hcz17_1 := bc (v := (.slice none 0 0)) BK40002.out 1
    have hfz17_0 := blk_frozen BK40002.out 0
    have hfz17_1 := blk_frozen BK40002.out 1
    go_wp2
    refine bodyPost_ret (results_ct rfl _ _ gb40002 26 #[.int .i64 0, .slice none 0 0] (0, 0) _ rfl (by (with_reducible repeat (first | refine blk_drewN ?_ _ | refine blk_drew ?_ | refine blk_alloc ?_ _)); refine blk_put (cs := #[.int .i64 0, .slice none 0 0]) ?_ 1 _ rfl; (with_reducible repeat (first | refine blk_drewN ?_ _ | refine blk_drew ?_ | refine blk_alloc ?_ _)); refine blk_put (cs := #[.int .i64 0, .slice none 0 0]) ?_ 0 _ rfl; (with_reducible repeat (first | refine blk_drewN ?_ _ | refine blk_drew ?_ | refine blk_alloc ?_ _)); exact BK40002.out) Try.underlying26 rfl (by kernel_rfl)) rfl ?_
    exact ⟨_, by first | rfl | (simp [errW_none, errW_some] <;> rfl) | (simp [*, errW_none, errW_some] <;> rfl), by first | exact Kd.R_nil _ _ _ _ _ | exact Kd.N_nil _ _ _ _ _ | exact Kd.V_nil _ _ _ _ _ | exact Kd.Q_nil _ _ _ _ _ | exact Kd.S_nil _ _ _ _ _, pB2 HB.out GE40001.out GE40002.out⟩
   ·replace c15 := Bool.eq_false_iff.mpr c15
    subst c15
    have H1 : (if 0 ≤ (IntKind.u64.wrap (a0_0)) then ((spec_FullSet.f a0_0).bind fun t40004 => ((spec_l5Rank.f kj2 a0_0 l0_1 t40004).bind fun t40005 => ((spec_HasSet.f kj2 l1 t40004).bind fun t40006 => ((spec_l1Bit.f (!t40006)).bind fun t40007 => (spec_Extend.l0 kj2 l1 (shl .i64 1 (IntKind.u64.wrap (a0_0))) t40004 (wrap64 (t40005 + t40007)) 0 a0_0 l0_1 (wrap64 (a0_0 + 1)) ([] : List Int)))))) else (none)) = some (r1, r2, r3) := by rw [if_neg (show ¬ (false = true) by decide)] at H; exact H
    clear H
    have H := H1
    clear H1
    obtain ⟨ji18, hji18⟩ : ∃ j_ : Int, (IntKind.u64.wrap (a0_0)) = j_ := ⟨_, rfl⟩
    replace H : (if 0 ≤ (ji18) then ((spec_FullSet.f a0_0).bind fun t40004 => ((spec_l5Rank.f kj2 a0_0 l0_1 t40004).bind fun t40005 => ((spec_HasSet.f kj2 l1 t40004).bind fun t40006 => ((spec_l1Bit.f (!t40006)).bind fun t40007 => (spec_Extend.l0 kj2 l1 (shl .i64 1 (ji18)) t40004 (wrap64 (t40005 + t40007)) 0 a0_0 l0_1 (wrap64 (a0_0 + 1)) ([] : List Int)))))) else (none)) = some (r1, r2, r3) := by first | (rw [hji18] at H; exact H) | (simp only [hji18] at H ⊢; exact H)
    by_cases c19 : 0 ≤ (ji18)
    ·rw [if_pos c19] at H
     have c19b0 := eq_true c19
     have c19b1 : decide (0 ≤ (ji18)) = true := decide_eq_true c19
     clear c19
     obtain ⟨ji20, hji20⟩ : ∃ j_ : Int, (shl .i64 1 (ji18)) = j_ := ⟨_, rfl⟩
     replace H : ((spec_FullSet.f a0_0).bind fun t40004 => ((spec_l5Rank.f kj2 a0_0 l0_1 t40004).bind fun t40005 => ((spec_HasSet.f kj2 l1 t40004).bind fun t40006 => ((spec_l1Bit.f (!t40006)).bind fun t40007 => (spec_Extend.l0 kj2 l1 ji20 t40004 (wrap64 (t40005 + t40007)) 0 a0_0 l0_1 (wrap64 (a0_0 + 1)) ([] : List Int)))))) = some (r1, r2, r3) := by first | (rw [hji20] at H; exact H) | (simp only [hji20] at H ⊢; exact H)
     have hji20_ : (IntKind.i64.wrap (1 * 2 ^ min (ji18).toNat 64)) = ji20 := hji20
     have hji20z : (ji18) ≤ 64 → (IntKind.i64.wrap (1 * 2 ^ (ji18).toNat)) = ji20 := shl_small hji20
     have hji20u : (IntKind.i64.wrap (2 ^ min (ji18).toNat 64)) = ji20 := by have h_ := hji20_; rw [Int.one_mul] at h_; exact h_
     have hji20v : (ji18) ≤ 64 → (IntKind.i64.wrap (2 ^ (ji18).toNat)) = ji20 := fun hle_ => by have h_ := hji20z hle_; rw [Int.one_mul] at h_; exact h_
     have hji20y : (wrap64 (1 * 2 ^ min (ji18).toNat 64)) = ji20 := (i64_w _).symm.trans hji20_
     have hji20x : (ji18) ≤ 64 → (wrap64 (1 * 2 ^ (ji18).toNat)) = ji20 := fun h_ => (i64_w _).symm.trans (hji20z h_)
     replace H := Option.bind_eq_some_iff.mp H
     obtain ⟨t40004, A210, H⟩ := H
     replace H : ((spec_l5Rank.f kj2 a0_0 l0_1 t40004).bind fun t40005 => ((spec_HasSet.f kj2 l1 t40004).bind fun t40006 => ((spec_l1Bit.f (!t40006)).bind fun t40007 => (spec_Extend.l0 kj2 l1 ji20 t40004 (wrap64 (t40005 + t40007)) 0 a0_0 l0_1 (wrap64 (a0_0 + 1)) ([] : List Int))))) = some (r1, r2, r3) := H
     have A21 := aQ A210
     clear A210
     replace H := Option.bind_eq_some_iff.mp H
     obtain ⟨t40005, A220, H⟩ := H
     replace H : ((spec_HasSet.f kj2 l1 t40004).bind fun t40006 => ((spec_l1Bit.f (!t40006)).bind fun t40007 => (spec_Extend.l0 kj2 l1 ji20 t40004 (wrap64 (t40005 + t40007)) 0 a0_0 l0_1 (wrap64 (a0_0 + 1)) ([] : List Int)))) = some (r1, r2, r3) := H
     have A22 := aQ A220
     clear A220
     replace H := Option.bind_eq_some_iff.mp H
     obtain ⟨t40006, A230, H⟩ := H
     replace H : ((spec_l1Bit.f (!t40006)).bind fun t40007 => (spec_Extend.l0 kj2 l1 ji20 t40004 (wrap64 (t40005 + t40007)) 0 a0_0 l0_1 (wrap64 (a0_0 + 1)) ([] : List Int))) = some (r1, r2, r3) := H
     have A23 := aQ A230
     clear A230
     replace H := Option.bind_eq_some_iff.mp H
     obtain ⟨t40007, A240, H⟩ := H
     replace H : (spec_Extend.l0 kj2 l1 ji20 t40004 (wrap64 (t40005 + t40007)) 0 a0_0 l0_1 (wrap64 (a0_0 + 1)) ([] : List Int)) = some (r1, r2, r3) := H
     have A24 := aQ A240
     clear A240
     have H' := aQ H
     clear H
     have hnb25 := NB40001_40002.out
     have hnc25 := NB40002_40001.out
     have hcz26_0 := bc (v := (.int .i64 a0_0)) BK40001.out 0
     have hcz26_1 := bc (v := (.slice A0_1 l0_1.length c0_1)) BK40001.out 1
     have hfz26_0 := blk_frozen BK40001.out 0
     have hfz26_1 := blk_frozen BK40001.out 1
     go_wp2_with (first | ((with_reducible refine gate_callee (f := 57) rfl ?_); refine goesL_ (some 27) rfl rfl Try.func57 (by kernel_rfl) rfl #[.int .i64 a0_0] rfl lm ?_; (with_reducible refine (spec_FullSet.calls a0_0 t40004 _ A21.out).mono ?_); rintro e w' ⟨rfl, ⟨nd, rfl⟩⟩; refine ⟨_, rfl, ?_⟩; (try (rw [drewN_self wc]; generalize hq_ : World.drewN wc _ = wc; have n0_ : Aside0 (wc.heap[gb40001]? = some (.cells #[.int .i64 a0_0, .slice A0_1 l0_1.length c0_1] 26 (0, 0))) := ⟨by rw [← hq_]; exact (pk BK40001.out)⟩; have n1_ : Aside0 (wc.heap[gb40002]? = some (.cells #[.int .i64 0, .slice none 0 0] 26 (0, 0))) := ⟨by rw [← hq_]; exact (pk BK40002.out)⟩; have n2_ : Aside0 (Below w.heap.size w wc) := ⟨by rw [← hq_]; exact (pB2 HB.out GE40001.out GE40002.out)⟩; clear BK40001 BK40002 HB hq_; have BK40001 := n0_; have BK40002 := n1_; have HB := n2_; clear n0_ n1_ n2_; have hcqgb40001_0 : wc.cell? ⟨gb40001, 0, none⟩ = some (.int .i64 a0_0) := (blk_cell BK40001.out 0).trans rfl; have hfqgb40001_0 := blk_frozen BK40001.out 0; have hcqgb40001_1 : wc.cell? ⟨gb40001, 1, none⟩ = some (.slice A0_1 l0_1.length c0_1) := (blk_cell BK40001.out 1).trans rfl; have hfqgb40001_1 := blk_frozen BK40001.out 1; have hcqgb40002_0 : wc.cell? ⟨gb40002, 0, none⟩ = some (.int .i64 0) := (blk_cell BK40002.out 0).trans rfl; have hfqgb40002_0 := blk_frozen BK40002.out 0; have hcqgb40002_1 : wc.cell? ⟨gb40002, 1, none⟩ = some (.slice none 0 0) := (blk_cell BK40002.out 1).trans rfl; have hfqgb40002_1 := blk_frozen BK40002.out 1))) | ((with_reducible refine gate_callee (f := 59) rfl ?_); refine goesL_ (some 30) rfl rfl Try.func59 (by kernel_rfl) rfl #[.agg #[.int .i64 a0_0, .slice A0_1 l0_1.length c0_1], .int .i64 t40004] rfl lm ?_; (with_reducible refine (spec_l5Rank.calls kj2 a0_0 _ _ l0_1 t40004 t40005 _ ?side1 ?side2 A22.out).mono ?_); (case side1 => exact pC (Kd.C_below HR0_1.out HB.out)); (case side2 => exact HC0_1.out); rintro e w27 ⟨rfl, hb⟩; refine ⟨_, rfl, ?_⟩; replace BK40001 := aQ (blk_below (g := gb40001) (o := .cells #[.int .i64 a0_0, .slice A0_1 l0_1.length c0_1] 26 (0, 0)) (pk BK40001.out) hb); replace BK40002 := aQ (blk_below (g := gb40002) (o := .cells #[.int .i64 0, .slice none 0 0] 26 (0, 0)) (pk BK40002.out) hb); replace HB := aQ (below_step (pB2 HB.out GE40001.out GE40002.out) hb); (try clear hb)) | ((with_reducible refine gate_callee (f := 90) rfl ?_); refine goesL_ (some 33) rfl rfl Try.func90 (by kernel_rfl) rfl #[.slice A1 l1.length c1, .int .i64 t40004] rfl lm ?_; (with_reducible refine (spec_HasSet.calls kj2 _ _ l1 t40004 t40006 _ ?side1 ?side2 A23.out).mono ?_); (case side1 => exact pC (Kd.C_below HR1.out HB.out)); (case side2 => exact HC1.out); rintro e w' ⟨rfl, ⟨nd, rfl⟩⟩; refine ⟨_, rfl, ?_⟩; (try (rw [drewN_self w27]; generalize hq_ : World.drewN w27 _ = w27; have n0_ : Aside0 (w27.heap[gb40001]? = some (.cells #[.int .i64 a0_0, .slice A0_1 l0_1.length c0_1] 26 (0, 0))) := ⟨by rw [← hq_]; exact (pk BK40001.out)⟩; have n1_ : Aside0 (w27.heap[gb40002]? = some (.cells #[.int .i64 0, .slice none 0 0] 26 (0, 0))) := ⟨by rw [← hq_]; exact (pk BK40002.out)⟩; have n2_ : Aside0 (Below w.heap.size w w27) := ⟨by rw [← hq_]; exact (pB2 HB.out GE40001.out GE40002.out)⟩; clear BK40001 BK40002 HB hq_; have BK40001 := n0_; have BK40002 := n1_; have HB := n2_; clear n0_ n1_ n2_; have hcqgb40001_0 : w27.cell? ⟨gb40001, 0, none⟩ = some (.int .i64 a0_0) := (blk_cell BK40001.out 0).trans rfl; have hfqgb40001_0 := blk_frozen BK40001.out 0; have hcqgb40001_1 : w27.cell? ⟨gb40001, 1, none⟩ = some (.slice A0_1 l0_1.length c0_1) := (blk_cell BK40001.out 1).trans rfl; have hfqgb40001_1 := blk_frozen BK40001.out 1; have hcqgb40002_0 : w27.cell? ⟨gb40002, 0, none⟩ = some (.int .i64 0) := (blk_cell BK40002.out 0).trans rfl; have hfqgb40002_0 := blk_frozen BK40002.out 0; have hcqgb40002_1 : w27.cell? ⟨gb40002, 1, none⟩ = some (.slice none 0 0) := (blk_cell BK40002.out 1).trans rfl; have hfqgb40002_1 := blk_frozen BK40002.out 1))) | ((with_reducible refine gate_callee (f := 89) rfl ?_); refine goesL_ (some 35) rfl rfl Try.func89 (by kernel_rfl) rfl #[.bool (!t40006)] rfl lm ?_; (with_reducible refine (spec_l1Bit.calls (!t40006) t40007 _ A24.out).mono ?_); rintro e w' ⟨rfl, ⟨nd, rfl⟩⟩; refine ⟨_, rfl, ?_⟩; (try (rw [drewN_self w27]; generalize hq_ : World.drewN w27 _ = w27; have n0_ : Aside0 (w27.heap[gb40001]? = some (.cells #[.int .i64 a0_0, .slice A0_1 l0_1.length c0_1] 26 (0, 0))) := ⟨by rw [← hq_]; exact (pk BK40001.out)⟩; have n1_ : Aside0 (w27.heap[gb40002]? = some (.cells #[.int .i64 0, .slice none 0 0] 26 (0, 0))) := ⟨by rw [← hq_]; exact (pk BK40002.out)⟩; have n2_ : Aside0 (Below w.heap.size w w27) := ⟨by rw [← hq_]; exact (pB2 HB.out GE40001.out GE40002.out)⟩; clear BK40001 BK40002 HB hq_; have BK40001 := n0_; have BK40002 := n1_; have HB := n2_; clear n0_ n1_ n2_; have hcqgb40001_0 : w27.cell? ⟨gb40001, 0, none⟩ = some (.int .i64 a0_0) := (blk_cell BK40001.out 0).trans rfl; have hfqgb40001_0 := blk_frozen BK40001.out 0; have hcqgb40001_1 : w27.cell? ⟨gb40001, 1, none⟩ = some (.slice A0_1 l0_1.length c0_1) := (blk_cell BK40001.out 1).trans rfl; have hfqgb40001_1 := blk_frozen BK40001.out 1; have hcqgb40002_0 : w27.cell? ⟨gb40002, 0, none⟩ = some (.int .i64 0) := (blk_cell BK40002.out 0).trans rfl; have hfqgb40002_0 := blk_frozen BK40002.out 0; have hcqgb40002_1 : w27.cell? ⟨gb40002, 1, none⟩ = some (.slice none 0 0) := (blk_cell BK40002.out 1).trans rfl; have hfqgb40002_1 := blk_frozen BK40002.out 1)); have hcz28_0 := bc (v := (.int .i64 a0_0)) BK40001.out 0; have hcz28_1 := bc (v := (.slice A0_1 l0_1.length c0_1)) BK40001.out 1; have hfz28_0 := blk_frozen BK40001.out 0; have hfz28_1 := blk_frozen BK40001.out 1) | ((with_reducible refine gate_dst (N := 9) rfl ?_); refine box_event ?hg (N := 9) ?hd (cs := #[.int .i64 0, .slice none 0 0]) (t := 26) ?hr ?_; (case hd => rfl); (case hg => rfl); (case hr => first | (go_simp; done) | (go_simp; rfl)); intro gb40008 hg w29 hbox hb; have BK40008 := aQ (hbox); have GW40008 := aQ ((by rw [hg]; exact (below_size (pB2 HB.out GE40001.out GE40002.out)) : w.heap.size ≤ gb40008)); have GE40008 := aQ ((by rw [hg]; exact (below_size (pB2 HB.out GE40001.out GE40002.out)) : w.heap.size ≤ gb40008)); replace HB := aQ (below_step (pB2 HB.out GE40001.out GE40002.out) hb); have NB40001_40008 := aQ ((by rw [hg]; exact Nat.ne_of_lt (blk_lt (g := gb40001) (o := .cells #[.int .i64 a0_0, .slice A0_1 l0_1.length c0_1] 26 (0, 0)) (pk BK40001.out)) : gb40001 ≠ gb40008)); have NB40008_40001 := aQ ((by rw [hg]; exact Nat.ne_of_gt (blk_lt (g := gb40001) (o := .cells #[.int .i64 a0_0, .slice A0_1 l0_1.length c0_1] 26 (0, 0)) (pk BK40001.out)) : gb40008 ≠ gb40001)); replace BK40001 := aQ (blk_below (g := gb40001) (o := .cells #[.int .i64 a0_0, .slice A0_1 l0_1.length c0_1] 26 (0, 0)) (pk BK40001.out) hb); have NB40002_40008 := aQ ((by rw [hg]; exact Nat.ne_of_lt (blk_lt (g := gb40002) (o := .cells #[.int .i64 0, .slice none 0 0] 26 (0, 0)) (pk BK40002.out)) : gb40002 ≠ gb40008)); have NB40008_40002 := aQ ((by rw [hg]; exact Nat.ne_of_gt (blk_lt (g := gb40002) (o := .cells #[.int .i64 0, .slice none 0 0] 26 (0, 0)) (pk BK40002.out)) : gb40008 ≠ gb40002)); replace BK40002 := aQ (blk_below (g := gb40002) (o := .cells #[.int .i64 0, .slice none 0 0] 26 (0, 0)) (pk BK40002.out) hb); clear hb hbox hg; have hnb30 := NB40008_40001.out; have hnc30 := NB40001_40008.out; have hnb31 := NB40008_40002.out; have hnc31 := NB40002_40008.out; have hcz32_0 := bc (v := (.int .i64 0)) BK40008.out 0; have hcz32_1 := bc (v := (.slice none 0 0)) BK40008.out 1; have hfz32_0 := blk_frozen BK40008.out 0; have hfz32_1 := blk_frozen BK40008.out 1))
     go_loopg [10] kj2 (fun kq v10 w' => ∃ (x10_2 : Int) (x40009001_2 : List Int) (u40009001 : Value), v10 = .int .i64 x10_2 ∧ Aside0 (spec_Extend.l0 kq l1 ji20 t40004 (wrap64 (t40005 + t40007)) x10_2 a0_0 l0_1 (wrap64 (a0_0 + 1)) x40009001_2 = some (r1, r2, r3)) ∧ Aside0 (kq ≤ kj2) ∧ Aside0 (Kd.R (Kd.int .i64) 3 w' w.heap.size (fun _ => True) u40009001 x40009001_2) ∧ Aside0 (w'.heap[gb40001]? = some (.cells #[.int .i64 a0_0, (.slice A0_1 l0_1.length c0_1)] 26 (0, 0))) ∧ Aside0 (w'.heap[gb40002]? = some (.cells #[.int .i64 0, (.slice none 0 0)] 26 (0, 0))) ∧ Aside0 (w'.heap[gb40008]? = some (.cells #[.int .i64 (wrap64 (a0_0 + 1)), u40009001] 26 (0, 0))) ∧ Aside0 (Below w.heap.size w w'))
     case atStart => exact ⟨(0), (([] : List Int)), (.slice none 0 0), rs_, H', ⟨Nat.le_refl _⟩, ⟨by first | exact Kd.R_nil _ _ _ _ _ | exact Kd.N_nil _ _ _ _ _ | exact Kd.V_nil _ _ _ _ _ | exact Kd.Q_nil _ _ _ _ _ | exact Kd.S_nil _ _ _ _ _⟩, ⟨by (with_reducible repeat (first | refine blk_drewN ?_ _ | refine blk_drew ?_ | refine blk_alloc ?_ _)); refine blk_far ?_ NB40001_40008.out _; (with_reducible repeat (first | refine blk_drewN ?_ _ | refine blk_drew ?_ | refine blk_alloc ?_ _)); refine blk_far ?_ NB40001_40008.out _; (with_reducible repeat (first | refine blk_drewN ?_ _ | refine blk_drew ?_ | refine blk_alloc ?_ _)); exact BK40001.out⟩, ⟨by (with_reducible repeat (first | refine blk_drewN ?_ _ | refine blk_drew ?_ | refine blk_alloc ?_ _)); refine blk_far ?_ NB40002_40008.out _; (with_reducible repeat (first | refine blk_drewN ?_ _ | refine blk_drew ?_ | refine blk_alloc ?_ _)); refine blk_far ?_ NB40002_40008.out _; (with_reducible repeat (first | refine blk_drewN ?_ _ | refine blk_drew ?_ | refine blk_alloc ?_ _)); exact BK40002.out⟩, ⟨by (with_reducible repeat (first | refine blk_drewN ?_ _ | refine blk_drew ?_ | refine blk_alloc ?_ _)); refine blk_put (cs := #[.int .i64 (wrap64 (a0_0 + 1)), .slice none 0 0]) ?_ 1 _ rfl; (with_reducible repeat (first | refine blk_drewN ?_ _ | refine blk_drew ?_ | refine blk_alloc ?_ _)); refine blk_put (cs := #[.int .i64 0, .slice none 0 0]) ?_ 0 _ rfl; (with_reducible repeat (first | refine blk_drewN ?_ _ | refine blk_drew ?_ | refine blk_alloc ?_ _)); exact BK40008.out⟩, ⟨pB3 HB.out GE40001.out GE40002.out GE40008.out⟩⟩
     case round =>
      clear H'
      try clear c1
      try clear c2
      try clear p2
      try clear c3
      try clear c5
      try clear p6
      try clear c7
      try clear c8
      try clear c9
      try clear c12
      try clear c15
      try clear c16
      try clear c19
      try clear c19b0
      try clear c19b1
      try clear c25
      try clear c30
      try clear c31
      try clear hcz11_0
      try clear hcz11_1
      try clear hcz13_0
      try clear hcz13_1
      try clear hcz17_0
      try clear hcz17_1
      try clear hcz26_0
      try clear hcz26_1
      try clear hcz28_0
      try clear hcz28_1
      try clear hcz32_0
      try clear hcz32_1
      try clear hcz9_0
      try clear hcz9_1
      try clear hfz11_0
      try clear hfz11_1
      try clear hfz13_0
      try clear hfz13_1
      try clear hfz17_0
      try clear hfz17_1
      try clear hfz26_0
      try clear hfz26_1
      try clear hfz28_0
      try clear hfz28_1
      try clear hfz32_0
      try clear hfz32_1
      try clear hfz9_0
      try clear hfz9_1
      try clear p2
      obtain ⟨x10_2, x40009001_2, u40009001, rfl, HA, HK2, HO_40009001, BK40001, BK40002, BK40008, HB⟩ := hrel
      cases gk with
      | zero => exact absurd HA.out (by simp [spec_Extend.l0])
      | succ k2 =>
       have H := HA.out
       clear HA
       simp only [spec_Extend.l0] at H
       by_cases c33 : x10_2 ≤ t40004
       ·rw [if_pos c33] at H
        have c33b0 : decide (x10_2 ≤ t40004) = true := decide_eq_true c33
        clear c33
        have HC34 := aQ H
        clear H
        go_upto_region 10 with (fail)
        go_cut [56] (fun v56 wc => ∃ (kq : Nat) (x56_33 : Bool), v56 = .bool x56_33 ∧ Aside0 (spec_Extend.j2 kq l1 ji20 t40004 (wrap64 (t40005 + t40007)) x10_2 x56_33 a0_0 l0_1 (wrap64 (a0_0 + 1)) x40009001_2 = some (r1, r2, r3)) ∧ Aside0 (kq ≤ k2) ∧ Aside0 (Kd.R (Kd.int .i64) 3 wc w.heap.size (fun _ => True) u40009001 x40009001_2) ∧ Aside0 (wc.heap[gb40001]? = some (.cells #[.int .i64 a0_0, (.slice A0_1 l0_1.length c0_1)] 26 (0, 0))) ∧ Aside0 (wc.heap[gb40002]? = some (.cells #[.int .i64 0, (.slice none 0 0)] 26 (0, 0))) ∧ Aside0 (wc.heap[gb40008]? = some (.cells #[.int .i64 (wrap64 (a0_0 + 1)), u40009001] 26 (0, 0))) ∧ Aside0 (Below w.heap.size w wc))
        case first =>
         have H := HC34.out
         clear HC34
         replace H := Option.bind_eq_some_iff.mp H
         obtain ⟨t40012, A350, H⟩ := H
         replace H : (if (wrap64 (t40005 + t40007)) = t40012 then ((spec_HasSet.f k2 l0_1 x10_2).bind fun t40013 => (spec_Extend.j2 k2 l1 ji20 t40004 (wrap64 (t40005 + t40007)) x10_2 t40013 a0_0 l0_1 (wrap64 (a0_0 + 1)) x40009001_2)) else (spec_Extend.j2 k2 l1 ji20 t40004 (wrap64 (t40005 + t40007)) x10_2 false a0_0 l0_1 (wrap64 (a0_0 + 1)) x40009001_2)) = some (r1, r2, r3) := H
         have A35 := aQ A350
         clear A350
         by_cases c36 : (wrap64 (t40005 + t40007)) = t40012
         ·rw [if_pos c36] at H
          have c36b0 : ((wrap64 (t40005 + t40007)) == t40012) = true := beq_iff_eq.mpr c36
          have c36b1 : ((wrap64 (t40005 + t40007)) != t40012) = false := bne_eq_false_iff_eq.mpr c36
          clear c36
          (first | rw [c36b0] | (simp only [i64_w, i32_w]; rw [c36b0]) | skip)
          replace H := Option.bind_eq_some_iff.mp H
          obtain ⟨t40013, A370, H⟩ := H
          replace H : (spec_Extend.j2 k2 l1 ji20 t40004 (wrap64 (t40005 + t40007)) x10_2 t40013 a0_0 l0_1 (wrap64 (a0_0 + 1)) x40009001_2) = some (r1, r2, r3) := H
          have A37 := aQ A370
          clear A370
          have H' := aQ H
          clear H
          have hnb38 := NB40001_40002.out
          have hnc38 := NB40002_40001.out
          have hnb39 := NB40001_40008.out
          have hnc39 := NB40008_40001.out
          have hcz40_0 := bc (v := (.int .i64 a0_0)) BK40001.out 0
          have hcz40_1 := bc (v := (.slice A0_1 l0_1.length c0_1)) BK40001.out 1
          have hfz40_0 := blk_frozen BK40001.out 0
          have hfz40_1 := blk_frozen BK40001.out 1
          go_wp2_with (first | ((with_reducible refine gate_callee (f := 59) rfl ?_); refine goesL_ (some 49) rfl rfl Try.func59 (by kernel_rfl) rfl #[.agg #[.int .i64 a0_0, .slice A0_1 l0_1.length c0_1], .int .i64 t40004] rfl lm ?_; (with_reducible refine (spec_l5Rank.calls k2 a0_0 _ _ l0_1 t40004 t40012 _ ?side1 ?side2 A35.out).mono ?_); (case side1 => exact pC (Kd.C_below HR0_1.out HB.out)); (case side2 => exact HC0_1.out); rintro e w41 ⟨rfl, hb⟩; refine ⟨_, rfl, ?_⟩; replace HO_40009001 := aQ (Kd.R_below (pR HO_40009001.out) hb); replace BK40001 := aQ (blk_below (g := gb40001) (o := .cells #[.int .i64 a0_0, .slice A0_1 l0_1.length c0_1] 26 (0, 0)) (pk BK40001.out) hb); replace BK40002 := aQ (blk_below (g := gb40002) (o := .cells #[.int .i64 0, .slice none 0 0] 26 (0, 0)) (pk BK40002.out) hb); replace BK40008 := aQ (blk_below (g := gb40008) (o := .cells #[.int .i64 (wrap64 (a0_0 + 1)), u40009001] 26 (0, 0)) (pk BK40008.out) hb); replace HB := aQ (below_step (pB3 HB.out GE40001.out GE40002.out GE40008.out) hb); (try clear hb); have hcz42_0 := bc (v := (.int .i64 a0_0)) BK40001.out 0; have hcz42_1 := bc (v := (.slice A0_1 l0_1.length c0_1)) BK40001.out 1; have hfz42_0 := blk_frozen BK40001.out 0; have hfz42_1 := blk_frozen BK40001.out 1) | (go_at_call 90; (with_reducible refine (spec_HasSet.calls k2 _ _ l0_1 x10_2 t40013 _ ?side1 ?side2 A37.out).mono ?_); (case side1 => exact pC (Kd.C_below HR0_1.out HB.out)); (case side2 => exact HC0_1.out); rintro e w' ⟨rfl, ⟨nd, rfl⟩⟩))
          go_meet
          case rel => exact ⟨_, (t40013), rs_, H', ⟨by have := HJ2.out; have := HK2.out; first | omega | exact Nat.le_refl _⟩, ⟨pR HO_40009001.out⟩, ⟨pk BK40001.out⟩, ⟨pk BK40002.out⟩, ⟨pk BK40008.out⟩, ⟨pB3 HB.out GE40001.out GE40002.out GE40008.out⟩⟩
         ·rw [if_neg c36] at H
          have c36b0 : ((wrap64 (t40005 + t40007)) == t40012) = false := beq_eq_false_iff_ne.mpr c36
          have c36b1 : ((wrap64 (t40005 + t40007)) != t40012) = true := bne_iff_ne.mpr c36
          (first | rw [c36b0] | (simp only [i64_w, i32_w]; rw [c36b0]) | skip)
          have H' := aQ H
          clear H
          have hnb43 := NB40001_40002.out
          have hnc43 := NB40002_40001.out
          have hnb44 := NB40001_40008.out
          have hnc44 := NB40008_40001.out
          have hcz45_0 := bc (v := (.int .i64 a0_0)) BK40001.out 0
          have hcz45_1 := bc (v := (.slice A0_1 l0_1.length c0_1)) BK40001.out 1
          have hfz45_0 := blk_frozen BK40001.out 0
          have hfz45_1 := blk_frozen BK40001.out 1
          go_wp2_with (first | ((with_reducible refine gate_callee (f := 59) rfl ?_); refine goesL_ (some 49) rfl rfl Try.func59 (by kernel_rfl) rfl #[.agg #[.int .i64 a0_0, .slice A0_1 l0_1.length c0_1], .int .i64 t40004] rfl lm ?_; (with_reducible refine (spec_l5Rank.calls k2 a0_0 _ _ l0_1 t40004 t40012 _ ?side1 ?side2 A35.out).mono ?_); (case side1 => exact pC (Kd.C_below HR0_1.out HB.out)); (case side2 => exact HC0_1.out); rintro e w46 ⟨rfl, hb⟩; refine ⟨_, rfl, ?_⟩; replace HO_40009001 := aQ (Kd.R_below (pR HO_40009001.out) hb); replace BK40001 := aQ (blk_below (g := gb40001) (o := .cells #[.int .i64 a0_0, .slice A0_1 l0_1.length c0_1] 26 (0, 0)) (pk BK40001.out) hb); replace BK40002 := aQ (blk_below (g := gb40002) (o := .cells #[.int .i64 0, .slice none 0 0] 26 (0, 0)) (pk BK40002.out) hb); replace BK40008 := aQ (blk_below (g := gb40008) (o := .cells #[.int .i64 (wrap64 (a0_0 + 1)), u40009001] 26 (0, 0)) (pk BK40008.out) hb); replace HB := aQ (below_step (pB3 HB.out GE40001.out GE40002.out GE40008.out) hb); (try clear hb)))
          go_meet
          case rel => exact ⟨_, (false), rs_, H', ⟨by have := HJ2.out; have := HK2.out; first | omega | exact Nat.le_refl _⟩, ⟨pR HO_40009001.out⟩, ⟨pk BK40001.out⟩, ⟨pk BK40002.out⟩, ⟨pk BK40008.out⟩, ⟨pB3 HB.out GE40001.out GE40002.out GE40008.out⟩⟩
        case rest =>
         clear HC34
         try clear c1
         try clear c2
         try clear p2
         try clear c3
         try clear c4
         try clear c5
         try clear p6
         try clear c7
         try clear c8
         try clear c9
         try clear c12
         try clear c15
         try clear c16
         try clear c19
         try clear c19b0
         try clear c19b1
         try clear c25
         try clear c30
         try clear c31
         try clear c33
         try clear c33b0
         try clear c36
         try clear c36b0
         try clear c36b1
         try clear c38
         try clear c39
         try clear c43
         try clear c44
         try clear hcz11_0
         try clear hcz11_1
         try clear hcz13_0
         try clear hcz13_1
         try clear hcz17_0
         try clear hcz17_1
         try clear hcz26_0
         try clear hcz26_1
         try clear hcz28_0
         try clear hcz28_1
         try clear hcz32_0
         try clear hcz32_1
         try clear hcz40_0
         try clear hcz40_1
         try clear hcz42_0
         try clear hcz42_1
         try clear hcz45_0
         try clear hcz45_1
         try clear hcz9_0
         try clear hcz9_1
         try clear hfz11_0
         try clear hfz11_1
         try clear hfz13_0
         try clear hfz13_1
         try clear hfz17_0
         try clear hfz17_1
         try clear hfz26_0
         try clear hfz26_1
         try clear hfz28_0
         try clear hfz28_1
         try clear hfz32_0
         try clear hfz32_1
         try clear hfz40_0
         try clear hfz40_1
         try clear hfz42_0
         try clear hfz42_1
         try clear hfz45_0
         try clear hfz45_1
         try clear hfz9_0
         try clear hfz9_1
         try clear p2
         try clear p6
         obtain ⟨kq, x56_33, rfl, HA, HJ33, HO_40009001, BK40001, BK40002, BK40008, HB⟩ := hcut
         cases kq with
         | zero => exact absurd HA.out (by simp [spec_Extend.j2])
         | succ kj33 =>
          have H := HA.out
          clear HA
          simp only [spec_Extend.j2] at H
          have HC47 := aQ H
          clear H
          go_upto_if 56 with (fail)
          go_cut [] (fun wc => ∃ (kq : Nat) (x40009001_46 : List Int) (u40009001 : Value), Aside0 (spec_Extend.j3 kq l1 ji20 t40004 (wrap64 (t40005 + t40007)) x10_2 a0_0 l0_1 (wrap64 (a0_0 + 1)) x40009001_46 = some (r1, r2, r3)) ∧ Aside0 (kq ≤ kj33) ∧ Aside0 (Kd.R (Kd.int .i64) 3 wc w.heap.size (fun _ => True) u40009001 x40009001_46) ∧ Aside0 (wc.heap[gb40001]? = some (.cells #[.int .i64 a0_0, (.slice A0_1 l0_1.length c0_1)] 26 (0, 0))) ∧ Aside0 (wc.heap[gb40002]? = some (.cells #[.int .i64 0, (.slice none 0 0)] 26 (0, 0))) ∧ Aside0 (wc.heap[gb40008]? = some (.cells #[.int .i64 (wrap64 (a0_0 + 1)), u40009001] 26 (0, 0))) ∧ Aside0 (Below w.heap.size w wc))
          case first =>
           have H := HC47.out
           clear HC47
           by_cases c48 : x56_33 = true
           ·subst c48
            have H1 : (if x40009001_2.length < 17592186044416 then (spec_Extend.j3 kj33 l1 ji20 t40004 (wrap64 (t40005 + t40007)) x10_2 a0_0 l0_1 (wrap64 (a0_0 + 1)) (x40009001_2 ++ [x10_2])) else (none)) = some (r1, r2, r3) := by rw [if_pos rfl] at H; exact H
            clear H
            have H := H1
            clear H1
            by_cases c49 : x40009001_2.length < 17592186044416
            ·rw [if_pos c49] at H
             have LMc49 := aQ c49
             clear c49
             obtain ⟨y40014, hy40014⟩ : ∃ y_ : List Int, y_ = (x40009001_2 ++ [x10_2]) := ⟨_, rfl⟩
             replace H : (spec_Extend.j3 kj33 l1 ji20 t40004 (wrap64 (t40005 + t40007)) x10_2 a0_0 l0_1 (wrap64 (a0_0 + 1)) y40014) = some (r1, r2, r3) := by first | (rw [hy40014]; with_reducible exact H) | (have H2_ := (Option.bind_some _ _).symm.trans H; rw [hy40014]; with_reducible exact H2_) | (have H2_ := (Option.bind_some _ _).symm.trans H; with_reducible exact H2_) | with_reducible exact H | (rw [hy40014]; exact H) | exact H
             have Ny40014 := aQ hy40014
             clear hy40014
             have H' := aQ H
             clear H
             have hnb50 := NB40008_40001.out
             have hnc50 := NB40001_40008.out
             have hnb51 := NB40008_40002.out
             have hnc51 := NB40002_40008.out
             have hcz52_0 := bc (v := (.int .i64 (wrap64 (a0_0 + 1)))) BK40008.out 0
             have hcz52_1 := bc (v := (u40009001)) BK40008.out 1
             have hfz52_0 := blk_frozen BK40008.out 0
             have hfz52_1 := blk_frozen BK40008.out 1
             go_wp2_with (first | ((with_reducible refine gate_builtin (b := .append) (xs := #[.tmp 58, .tmp 60]) rfl ?_); at_builtin; refine Kd.R_append (Kd.int .i64) (w0 := w) w.heap.size rfl (.tmp 58) (.tmp 60) 22 3 (.int .i64 0) 8 rfl Try.underlying22 info3 rfl (by decide) (by omega) u40009001 x40009001_2 x10_2 [.int .i64 x10_2] (fun _ => True) (fun _ => False) rfl rfl ?aP (fun _ hk => hk.elim) ?aF ?aO ?aB ?aS ?aL ?_; (case aP => exact rfl); (case aB => exact (pB3 HB.out GE40001.out GE40002.out GE40008.out)); (case aF => exact (fun _ _ => trivial)); (case aO => exact (pR HO_40009001.out)); (case aS => exact (below_size (pB3 HB.out GE40001.out GE40002.out GE40008.out))); (case aL => have := LMc49.out; omega); intro v40015 w53 ho hb hg hat; rw [← Ny40014.out] at ho; replace BK40001 := aQ (blk_grown (g := gb40001) (o := .cells #[.int .i64 a0_0, .slice A0_1 l0_1.length c0_1] 26 (0, 0)) (pk BK40001.out) hg (Kd.R_ne HO_40009001.out BK40001.out (by decide))); replace BK40002 := aQ (blk_grown (g := gb40002) (o := .cells #[.int .i64 0, .slice none 0 0] 26 (0, 0)) (pk BK40002.out) hg (Kd.R_ne HO_40009001.out BK40002.out (by decide))); replace BK40008 := aQ (blk_grown (g := gb40008) (o := .cells #[.int .i64 (wrap64 (a0_0 + 1)), u40009001] 26 (0, 0)) (pk BK40008.out) hg (Kd.R_ne HO_40009001.out BK40008.out (by decide))); replace HB := aQ (hb); have HO40016 := aQ (ho); clear HO_40009001; clear ho hb hg hat; obtain ⟨Ao54, co54, eo54⟩ := Kd.R_slice HO40016.out; subst eo54; have hcz55_0 := bc (v := (.int .i64 (wrap64 (a0_0 + 1)))) BK40008.out 0; have hcz55_1 := bc (v := (u40009001)) BK40008.out 1; have hfz55_0 := blk_frozen BK40008.out 0; have hfz55_1 := blk_frozen BK40008.out 1))
             go_meet
             case rel => exact ⟨_, (y40014), (.slice Ao54 y40014.length co54), H', ⟨by have := HJ2.out; have := HK2.out; have := HJ33.out; first | omega | exact Nat.le_refl _⟩, ⟨by (with_reducible repeat (first | apply Kd.R_alloc | apply Kd.R_drewN | apply Kd.R_drew)); exact Kd.R_mono (Kd.R_far (p := ⟨gb40008, 1, none⟩) (Kd.R_types HO40016.out BK40008.out (by decide)) (fun _ hk => hk.2) (.slice Ao54 y40014.length co54)) (fun _ hk => trivial)⟩, ⟨by (with_reducible repeat (first | refine blk_drewN ?_ _ | refine blk_drew ?_ | refine blk_alloc ?_ _)); refine blk_far ?_ NB40001_40008.out _; (with_reducible repeat (first | refine blk_drewN ?_ _ | refine blk_drew ?_ | refine blk_alloc ?_ _)); exact BK40001.out⟩, ⟨by (with_reducible repeat (first | refine blk_drewN ?_ _ | refine blk_drew ?_ | refine blk_alloc ?_ _)); refine blk_far ?_ NB40002_40008.out _; (with_reducible repeat (first | refine blk_drewN ?_ _ | refine blk_drew ?_ | refine blk_alloc ?_ _)); exact BK40002.out⟩, ⟨by (with_reducible repeat (first | refine blk_drewN ?_ _ | refine blk_drew ?_ | refine blk_alloc ?_ _)); refine blk_put (cs := #[.int .i64 (wrap64 (a0_0 + 1)), u40009001]) ?_ 1 _ rfl; (with_reducible repeat (first | refine blk_drewN ?_ _ | refine blk_drew ?_ | refine blk_alloc ?_ _)); exact BK40008.out⟩, ⟨pB3 HB.out GE40001.out GE40002.out GE40008.out⟩⟩
            ·rw [if_neg c49] at H
             exact absurd H (by simp)
           ·replace c48 := Bool.eq_false_iff.mpr c48
            subst c48
            have H1 : (spec_Extend.j3 kj33 l1 ji20 t40004 (wrap64 (t40005 + t40007)) x10_2 a0_0 l0_1 (wrap64 (a0_0 + 1)) x40009001_2) = some (r1, r2, r3) := by rw [if_neg (show ¬ (false = true) by decide)] at H; exact H
            clear H
            have H := H1
            clear H1
            have H' := aQ H
            clear H
            go_wp2
            go_meet
            case rel => exact ⟨_, (x40009001_2), (u40009001), H', ⟨by have := HJ2.out; have := HK2.out; have := HJ33.out; first | omega | exact Nat.le_refl _⟩, ⟨pR HO_40009001.out⟩, ⟨pk BK40001.out⟩, ⟨pk BK40002.out⟩, ⟨pk BK40008.out⟩, ⟨pB3 HB.out GE40001.out GE40002.out GE40008.out⟩⟩
          case rest =>
           clear HC47
           try clear c1
           try clear c2
           try clear p2
           try clear c3
           try clear c4
           try clear c5
           try clear p6
           try clear c7
           try clear c8
           try clear c9
           try clear c12
           try clear c15
           try clear c16
           try clear c19
           try clear c19b0
           try clear c19b1
           try clear c25
           try clear c30
           try clear c31
           try clear c33
           try clear c33b0
           try clear c36
           try clear c36b0
           try clear c36b1
           try clear c38
           try clear c39
           try clear c43
           try clear c44
           try clear c48
           try clear c49
           try clear c50
           try clear c51
           try clear hcz11_0
           try clear hcz11_1
           try clear hcz13_0
           try clear hcz13_1
           try clear hcz17_0
           try clear hcz17_1
           try clear hcz26_0
           try clear hcz26_1
           try clear hcz28_0
           try clear hcz28_1
           try clear hcz32_0
           try clear hcz32_1
           try clear hcz40_0
           try clear hcz40_1
           try clear hcz42_0
           try clear hcz42_1
           try clear hcz45_0
           try clear hcz45_1
           try clear hcz52_0
           try clear hcz52_1
           try clear hcz55_0
           try clear hcz55_1
           try clear hcz9_0
           try clear hcz9_1
           try clear hfz11_0
           try clear hfz11_1
           try clear hfz13_0
           try clear hfz13_1
           try clear hfz17_0
           try clear hfz17_1
           try clear hfz26_0
           try clear hfz26_1
           try clear hfz28_0
           try clear hfz28_1
           try clear hfz32_0
           try clear hfz32_1
           try clear hfz40_0
           try clear hfz40_1
           try clear hfz42_0
           try clear hfz42_1
           try clear hfz45_0
           try clear hfz45_1
           try clear hfz52_0
           try clear hfz52_1
           try clear hfz55_0
           try clear hfz55_1
           try clear hfz9_0
           try clear hfz9_1
           try clear p2
           try clear p6
           obtain ⟨kq, x40009001_46, u40009001, HA, HJ46, HO_40009001, BK40001, BK40002, BK40008, HB⟩ := hcut
           cases kq with
           | zero => exact absurd HA.out (by simp [spec_Extend.j3])
           | succ kj46 =>
            have H := HA.out
            clear HA
            simp only [spec_Extend.j3] at H
            replace H := Option.bind_eq_some_iff.mp H
            obtain ⟨t40017, A560, H⟩ := H
            replace H : (if t40017 = (wrap64 ((wrap64 (t40005 + t40007)) - 1)) then ((spec_l5Rank.f kj46 a0_0 l0_1 x10_2).bind fun t40018 => (if t40018 = (wrap64 ((wrap64 (t40005 + t40007)) - 1)) then ((spec_l5Closure.f kj46 a0_0 l0_1 x10_2).bind fun t40019 => ((spec_HasSet.f kj46 l1 t40019).bind fun t40020 => (if t40020 = true then (spec_Extend.l0 kj46 l1 ji20 t40004 (wrap64 (t40005 + t40007)) (wrap64 (x10_2 + 1)) a0_0 l0_1 (wrap64 (a0_0 + 1)) x40009001_46) else (if x40009001_46.length < 17592186044416 then (spec_Extend.l0 kj46 l1 ji20 t40004 (wrap64 (t40005 + t40007)) (wrap64 (x10_2 + 1)) a0_0 l0_1 (wrap64 (a0_0 + 1)) (x40009001_46 ++ [wrap64 (x10_2 + ji20)])) else (none))))) else (spec_Extend.l0 kj46 l1 ji20 t40004 (wrap64 (t40005 + t40007)) (wrap64 (x10_2 + 1)) a0_0 l0_1 (wrap64 (a0_0 + 1)) x40009001_46))) else (spec_Extend.l0 kj46 l1 ji20 t40004 (wrap64 (t40005 + t40007)) (wrap64 (x10_2 + 1)) a0_0 l0_1 (wrap64 (a0_0 + 1)) x40009001_46)) = some (r1, r2, r3) := H
            have A56 := aQ A560
            clear A560
            by_cases c57 : t40017 = (wrap64 ((wrap64 (t40005 + t40007)) - 1))
            ·rw [if_pos c57] at H
             have c57b0 : (t40017 == (wrap64 ((wrap64 (t40005 + t40007)) - 1))) = true := beq_iff_eq.mpr c57
             have c57b1 : (t40017 != (wrap64 ((wrap64 (t40005 + t40007)) - 1))) = false := bne_eq_false_iff_eq.mpr c57
             clear c57
             replace H := Option.bind_eq_some_iff.mp H
             obtain ⟨t40018, A580, H⟩ := H
             replace H : (if t40018 = (wrap64 ((wrap64 (t40005 + t40007)) - 1)) then ((spec_l5Closure.f kj46 a0_0 l0_1 x10_2).bind fun t40019 => ((spec_HasSet.f kj46 l1 t40019).bind fun t40020 => (if t40020 = true then (spec_Extend.l0 kj46 l1 ji20 t40004 (wrap64 (t40005 + t40007)) (wrap64 (x10_2 + 1)) a0_0 l0_1 (wrap64 (a0_0 + 1)) x40009001_46) else (if x40009001_46.length < 17592186044416 then (spec_Extend.l0 kj46 l1 ji20 t40004 (wrap64 (t40005 + t40007)) (wrap64 (x10_2 + 1)) a0_0 l0_1 (wrap64 (a0_0 + 1)) (x40009001_46 ++ [wrap64 (x10_2 + ji20)])) else (none))))) else (spec_Extend.l0 kj46 l1 ji20 t40004 (wrap64 (t40005 + t40007)) (wrap64 (x10_2 + 1)) a0_0 l0_1 (wrap64 (a0_0 + 1)) x40009001_46)) = some (r1, r2, r3) := H
             have A58 := aQ A580
             clear A580
             by_cases c59 : t40018 = (wrap64 ((wrap64 (t40005 + t40007)) - 1))
             ·rw [if_pos c59] at H
              have c59b0 : (t40018 == (wrap64 ((wrap64 (t40005 + t40007)) - 1))) = true := beq_iff_eq.mpr c59
              have c59b1 : (t40018 != (wrap64 ((wrap64 (t40005 + t40007)) - 1))) = false := bne_eq_false_iff_eq.mpr c59
              clear c59
              replace H := Option.bind_eq_some_iff.mp H
              obtain ⟨t40019, A600, H⟩ := H
              replace H : ((spec_HasSet.f kj46 l1 t40019).bind fun t40020 => (if t40020 = true then (spec_Extend.l0 kj46 l1 ji20 t40004 (wrap64 (t40005 + t40007)) (wrap64 (x10_2 + 1)) a0_0 l0_1 (wrap64 (a0_0 + 1)) x40009001_46) else (if x40009001_46.length < 17592186044416 then (spec_Extend.l0 kj46 l1 ji20 t40004 (wrap64 (t40005 + t40007)) (wrap64 (x10_2 + 1)) a0_0 l0_1 (wrap64 (a0_0 + 1)) (x40009001_46 ++ [wrap64 (x10_2 + ji20)])) else (none)))) = some (r1, r2, r3) := H
              have A60 := aQ A600
              clear A600
              replace H := Option.bind_eq_some_iff.mp H
              obtain ⟨t40020, A610, H⟩ := H
              replace H : (if t40020 = true then (spec_Extend.l0 kj46 l1 ji20 t40004 (wrap64 (t40005 + t40007)) (wrap64 (x10_2 + 1)) a0_0 l0_1 (wrap64 (a0_0 + 1)) x40009001_46) else (if x40009001_46.length < 17592186044416 then (spec_Extend.l0 kj46 l1 ji20 t40004 (wrap64 (t40005 + t40007)) (wrap64 (x10_2 + 1)) a0_0 l0_1 (wrap64 (a0_0 + 1)) (x40009001_46 ++ [wrap64 (x10_2 + ji20)])) else (none))) = some (r1, r2, r3) := H
              have A61 := aQ A610
              clear A610
              by_cases c62 : t40020 = true
              ·subst c62
               have H1 : (spec_Extend.l0 kj46 l1 ji20 t40004 (wrap64 (t40005 + t40007)) (wrap64 (x10_2 + 1)) a0_0 l0_1 (wrap64 (a0_0 + 1)) x40009001_46) = some (r1, r2, r3) := by rw [if_pos rfl] at H; exact H
               clear H
               have H := H1
               clear H1
               have H' := aQ H
               clear H
               go_wp2_with (first | ((with_reducible refine gate_callee (f := 58) rfl ?_); refine goesL_ (some 64) rfl rfl Try.func58 (by kernel_rfl) rfl #[.int .i64 x10_2] rfl lm ?_; (with_reducible refine (spec_CountOf.calls kj46 x10_2 t40017 _ A56.out).mono ?_); rintro e w' ⟨rfl, ⟨nd, rfl⟩⟩; refine ⟨_, rfl, ?_⟩; have hnb63 := NB40001_40002.out; have hnc63 := NB40002_40001.out; have hnb64 := NB40001_40008.out; have hnc64 := NB40008_40001.out; have hcz65_0 := bc (v := (.int .i64 a0_0)) BK40001.out 0; have hcz65_1 := bc (v := (.slice A0_1 l0_1.length c0_1)) BK40001.out 1; have hfz65_0 := blk_frozen BK40001.out 0; have hfz65_1 := blk_frozen BK40001.out 1) | (go_at_call 59; (with_reducible refine (spec_l5Rank.calls kj46 a0_0 _ _ l0_1 x10_2 t40018 _ ?side1 ?side2 A58.out).mono ?_); (case side1 => repeat (first | exact (Kd.C_below HR0_1.out (pB3 HB.out GE40001.out GE40002.out GE40008.out)) | (with_reducible refine Kd.C_alloc ?_ _) | (with_reducible refine Kd.C_drewN ?_ _) | (with_reducible refine Kd.C_drew ?_))); (case side2 => exact HC0_1.out); rintro e w66 ⟨rfl, hb⟩; replace HO_40009001 := aQ (Kd.R_below (pR HO_40009001.out) hb); replace BK40001 := aQ (blk_below (g := gb40001) (o := .cells #[.int .i64 a0_0, .slice A0_1 l0_1.length c0_1] 26 (0, 0)) (pk BK40001.out) hb); replace BK40002 := aQ (blk_below (g := gb40002) (o := .cells #[.int .i64 0, .slice none 0 0] 26 (0, 0)) (pk BK40002.out) hb); replace BK40008 := aQ (blk_below (g := gb40008) (o := .cells #[.int .i64 (wrap64 (a0_0 + 1)), u40009001] 26 (0, 0)) (pk BK40008.out) hb); replace HB := aQ (below_step (pB3 HB.out GE40001.out GE40002.out GE40008.out) hb); (try clear hb); have hcz67_0 := bc (v := (.int .i64 a0_0)) BK40001.out 0; have hcz67_1 := bc (v := (.slice A0_1 l0_1.length c0_1)) BK40001.out 1; have hfz67_0 := blk_frozen BK40001.out 0; have hfz67_1 := blk_frozen BK40001.out 1) | (go_at_call 91; (with_reducible refine (spec_l5Closure.calls kj46 a0_0 _ _ l0_1 x10_2 t40019 _ ?side1 ?side2 A60.out).mono ?_); (case side1 => exact pC (Kd.C_below HR0_1.out HB.out)); (case side2 => exact HC0_1.out); rintro e w68 ⟨rfl, hb⟩; replace HO_40009001 := aQ (Kd.R_below (pR HO_40009001.out) hb); replace BK40001 := aQ (blk_below (g := gb40001) (o := .cells #[.int .i64 a0_0, .slice A0_1 l0_1.length c0_1] 26 (0, 0)) (pk BK40001.out) hb); replace BK40002 := aQ (blk_below (g := gb40002) (o := .cells #[.int .i64 0, .slice none 0 0] 26 (0, 0)) (pk BK40002.out) hb); replace BK40008 := aQ (blk_below (g := gb40008) (o := .cells #[.int .i64 (wrap64 (a0_0 + 1)), u40009001] 26 (0, 0)) (pk BK40008.out) hb); replace HB := aQ (below_step (pB3 HB.out GE40001.out GE40002.out GE40008.out) hb); (try clear hb)) | (go_at_call 90; (with_reducible refine (spec_HasSet.calls kj46 _ _ l1 t40019 true _ ?side1 ?side2 A61.out).mono ?_); (case side1 => exact pC (Kd.C_below HR1.out HB.out)); (case side2 => exact HC1.out); rintro e w' ⟨rfl, ⟨nd, rfl⟩⟩))
               go_roundg kj46
               case measure => have := HJ2.out; have := HK2.out; have := HJ33.out; have := HJ46.out; omega
               case rel => exact ⟨(wrap64 (x10_2 + 1)), (x40009001_46), (u40009001), rs_, H', ⟨by have := HJ2.out; have := HK2.out; have := HJ33.out; have := HJ46.out; omega⟩, ⟨pR HO_40009001.out⟩, ⟨pk BK40001.out⟩, ⟨pk BK40002.out⟩, ⟨pk BK40008.out⟩, ⟨pB3 HB.out GE40001.out GE40002.out GE40008.out⟩⟩
              ·replace c62 := Bool.eq_false_iff.mpr c62
               subst c62
               have H1 : (if x40009001_46.length < 17592186044416 then (spec_Extend.l0 kj46 l1 ji20 t40004 (wrap64 (t40005 + t40007)) (wrap64 (x10_2 + 1)) a0_0 l0_1 (wrap64 (a0_0 + 1)) (x40009001_46 ++ [wrap64 (x10_2 + ji20)])) else (none)) = some (r1, r2, r3) := by rw [if_neg (show ¬ (false = true) by decide)] at H; exact H
               clear H
               have H := H1
               clear H1
               by_cases c69 : x40009001_46.length < 17592186044416
               ·rw [if_pos c69] at H
                have LMc69 := aQ c69
                clear c69
                obtain ⟨y40021, hy40021⟩ : ∃ y_ : List Int, y_ = (x40009001_46 ++ [wrap64 (x10_2 + ji20)]) := ⟨_, rfl⟩
                replace H : (spec_Extend.l0 kj46 l1 ji20 t40004 (wrap64 (t40005 + t40007)) (wrap64 (x10_2 + 1)) a0_0 l0_1 (wrap64 (a0_0 + 1)) y40021) = some (r1, r2, r3) := by first | (rw [hy40021]; with_reducible exact H) | (have H2_ := (Option.bind_some _ _).symm.trans H; rw [hy40021]; with_reducible exact H2_) | (have H2_ := (Option.bind_some _ _).symm.trans H; with_reducible exact H2_) | with_reducible exact H | (rw [hy40021]; exact H) | exact H
                have Ny40021 := aQ hy40021
                clear hy40021
                have H' := aQ H
                clear H
                go_wp2_with (first | ((with_reducible refine gate_callee (f := 58) rfl ?_); refine goesL_ (some 64) rfl rfl Try.func58 (by kernel_rfl) rfl #[.int .i64 x10_2] rfl lm ?_; (with_reducible refine (spec_CountOf.calls kj46 x10_2 t40017 _ A56.out).mono ?_); rintro e w' ⟨rfl, ⟨nd, rfl⟩⟩; refine ⟨_, rfl, ?_⟩; (try (rw [drewN_self wc]; generalize hq_ : World.drewN wc _ = wc; have n0_ : Aside0 (Kd.R (Kd.int .i64) 3 wc w.heap.size (fun _ => True) u40009001 x40009001_46) := ⟨by rw [← hq_]; exact (pR HO_40009001.out)⟩; have n1_ : Aside0 (wc.heap[gb40001]? = some (.cells #[.int .i64 a0_0, .slice A0_1 l0_1.length c0_1] 26 (0, 0))) := ⟨by rw [← hq_]; exact (pk BK40001.out)⟩; have n2_ : Aside0 (wc.heap[gb40002]? = some (.cells #[.int .i64 0, .slice none 0 0] 26 (0, 0))) := ⟨by rw [← hq_]; exact (pk BK40002.out)⟩; have n3_ : Aside0 (wc.heap[gb40008]? = some (.cells #[.int .i64 (wrap64 (a0_0 + 1)), u40009001] 26 (0, 0))) := ⟨by rw [← hq_]; exact (pk BK40008.out)⟩; have n4_ : Aside0 (Below w.heap.size w wc) := ⟨by rw [← hq_]; exact (pB3 HB.out GE40001.out GE40002.out GE40008.out)⟩; clear HO_40009001 BK40001 BK40002 BK40008 HB hq_; have HO_40009001 := n0_; have BK40001 := n1_; have BK40002 := n2_; have BK40008 := n3_; have HB := n4_; clear n0_ n1_ n2_ n3_ n4_; have hcqgb40001_0 : wc.cell? ⟨gb40001, 0, none⟩ = some (.int .i64 a0_0) := (blk_cell BK40001.out 0).trans rfl; have hfqgb40001_0 := blk_frozen BK40001.out 0; have hcqgb40001_1 : wc.cell? ⟨gb40001, 1, none⟩ = some (.slice A0_1 l0_1.length c0_1) := (blk_cell BK40001.out 1).trans rfl; have hfqgb40001_1 := blk_frozen BK40001.out 1; have hcqgb40002_0 : wc.cell? ⟨gb40002, 0, none⟩ = some (.int .i64 0) := (blk_cell BK40002.out 0).trans rfl; have hfqgb40002_0 := blk_frozen BK40002.out 0; have hcqgb40002_1 : wc.cell? ⟨gb40002, 1, none⟩ = some (.slice none 0 0) := (blk_cell BK40002.out 1).trans rfl; have hfqgb40002_1 := blk_frozen BK40002.out 1; have hcqgb40008_0 : wc.cell? ⟨gb40008, 0, none⟩ = some (.int .i64 (wrap64 (a0_0 + 1))) := (blk_cell BK40008.out 0).trans rfl; have hfqgb40008_0 := blk_frozen BK40008.out 0; have hcqgb40008_1 : wc.cell? ⟨gb40008, 1, none⟩ = some (u40009001) := (blk_cell BK40008.out 1).trans rfl; have hfqgb40008_1 := blk_frozen BK40008.out 1)); have hnb70 := NB40001_40002.out; have hnc70 := NB40002_40001.out; have hnb71 := NB40001_40008.out; have hnc71 := NB40008_40001.out; have hcz72_0 := bc (v := (.int .i64 a0_0)) BK40001.out 0; have hcz72_1 := bc (v := (.slice A0_1 l0_1.length c0_1)) BK40001.out 1; have hfz72_0 := blk_frozen BK40001.out 0; have hfz72_1 := blk_frozen BK40001.out 1) | (go_at_call 59; (with_reducible refine (spec_l5Rank.calls kj46 a0_0 _ _ l0_1 x10_2 t40018 _ ?side1 ?side2 A58.out).mono ?_); (case side1 => exact pC (Kd.C_below HR0_1.out HB.out)); (case side2 => exact HC0_1.out); rintro e w73 ⟨rfl, hb⟩; replace HO_40009001 := aQ (Kd.R_below (pR HO_40009001.out) hb); replace BK40001 := aQ (blk_below (g := gb40001) (o := .cells #[.int .i64 a0_0, .slice A0_1 l0_1.length c0_1] 26 (0, 0)) (pk BK40001.out) hb); replace BK40002 := aQ (blk_below (g := gb40002) (o := .cells #[.int .i64 0, .slice none 0 0] 26 (0, 0)) (pk BK40002.out) hb); replace BK40008 := aQ (blk_below (g := gb40008) (o := .cells #[.int .i64 (wrap64 (a0_0 + 1)), u40009001] 26 (0, 0)) (pk BK40008.out) hb); replace HB := aQ (below_step (pB3 HB.out GE40001.out GE40002.out GE40008.out) hb); (try clear hb); have hcz74_0 := bc (v := (.int .i64 a0_0)) BK40001.out 0; have hcz74_1 := bc (v := (.slice A0_1 l0_1.length c0_1)) BK40001.out 1; have hfz74_0 := blk_frozen BK40001.out 0; have hfz74_1 := blk_frozen BK40001.out 1) | (go_at_call 91; (with_reducible refine (spec_l5Closure.calls kj46 a0_0 _ _ l0_1 x10_2 t40019 _ ?side1 ?side2 A60.out).mono ?_); (case side1 => exact pC (Kd.C_below HR0_1.out HB.out)); (case side2 => exact HC0_1.out); rintro e w75 ⟨rfl, hb⟩; replace HO_40009001 := aQ (Kd.R_below (pR HO_40009001.out) hb); replace BK40001 := aQ (blk_below (g := gb40001) (o := .cells #[.int .i64 a0_0, .slice A0_1 l0_1.length c0_1] 26 (0, 0)) (pk BK40001.out) hb); replace BK40002 := aQ (blk_below (g := gb40002) (o := .cells #[.int .i64 0, .slice none 0 0] 26 (0, 0)) (pk BK40002.out) hb); replace BK40008 := aQ (blk_below (g := gb40008) (o := .cells #[.int .i64 (wrap64 (a0_0 + 1)), u40009001] 26 (0, 0)) (pk BK40008.out) hb); replace HB := aQ (below_step (pB3 HB.out GE40001.out GE40002.out GE40008.out) hb); (try clear hb)) | (go_at_call 90; (with_reducible refine (spec_HasSet.calls kj46 _ _ l1 t40019 false _ ?side1 ?side2 A61.out).mono ?_); (case side1 => exact pC (Kd.C_below HR1.out HB.out)); (case side2 => exact HC1.out); rintro e w' ⟨rfl, ⟨nd, rfl⟩⟩; (try (rw [drewN_self w75]; generalize hq_ : World.drewN w75 _ = w75; have n0_ : Aside0 (Kd.R (Kd.int .i64) 3 w75 w.heap.size (fun _ => True) u40009001 x40009001_46) := ⟨by rw [← hq_]; exact (pR HO_40009001.out)⟩; have n1_ : Aside0 (w75.heap[gb40001]? = some (.cells #[.int .i64 a0_0, .slice A0_1 l0_1.length c0_1] 26 (0, 0))) := ⟨by rw [← hq_]; exact (pk BK40001.out)⟩; have n2_ : Aside0 (w75.heap[gb40002]? = some (.cells #[.int .i64 0, .slice none 0 0] 26 (0, 0))) := ⟨by rw [← hq_]; exact (pk BK40002.out)⟩; have n3_ : Aside0 (w75.heap[gb40008]? = some (.cells #[.int .i64 (wrap64 (a0_0 + 1)), u40009001] 26 (0, 0))) := ⟨by rw [← hq_]; exact (pk BK40008.out)⟩; have n4_ : Aside0 (Below w.heap.size w w75) := ⟨by rw [← hq_]; exact (pB3 HB.out GE40001.out GE40002.out GE40008.out)⟩; clear HO_40009001 BK40001 BK40002 BK40008 HB hq_; have HO_40009001 := n0_; have BK40001 := n1_; have BK40002 := n2_; have BK40008 := n3_; have HB := n4_; clear n0_ n1_ n2_ n3_ n4_; have hcqgb40001_0 : w75.cell? ⟨gb40001, 0, none⟩ = some (.int .i64 a0_0) := (blk_cell BK40001.out 0).trans rfl; have hfqgb40001_0 := blk_frozen BK40001.out 0; have hcqgb40001_1 : w75.cell? ⟨gb40001, 1, none⟩ = some (.slice A0_1 l0_1.length c0_1) := (blk_cell BK40001.out 1).trans rfl; have hfqgb40001_1 := blk_frozen BK40001.out 1; have hcqgb40002_0 : w75.cell? ⟨gb40002, 0, none⟩ = some (.int .i64 0) := (blk_cell BK40002.out 0).trans rfl; have hfqgb40002_0 := blk_frozen BK40002.out 0; have hcqgb40002_1 : w75.cell? ⟨gb40002, 1, none⟩ = some (.slice none 0 0) := (blk_cell BK40002.out 1).trans rfl; have hfqgb40002_1 := blk_frozen BK40002.out 1; have hcqgb40008_0 : w75.cell? ⟨gb40008, 0, none⟩ = some (.int .i64 (wrap64 (a0_0 + 1))) := (blk_cell BK40008.out 0).trans rfl; have hfqgb40008_0 := blk_frozen BK40008.out 0; have hcqgb40008_1 : w75.cell? ⟨gb40008, 1, none⟩ = some (u40009001) := (blk_cell BK40008.out 1).trans rfl; have hfqgb40008_1 := blk_frozen BK40008.out 1)); have hnb76 := NB40008_40002.out; have hnc76 := NB40002_40008.out; have hcz77_0 := bc (v := (.int .i64 (wrap64 (a0_0 + 1)))) BK40008.out 0; have hcz77_1 := bc (v := (u40009001)) BK40008.out 1; have hfz77_0 := blk_frozen BK40008.out 0; have hfz77_1 := blk_frozen BK40008.out 1) | ((with_reducible refine gate_builtin (b := .append) (xs := #[.tmp 85, .tmp 89]) rfl ?_); at_builtin; refine Kd.R_append (Kd.int .i64) (w0 := w) w.heap.size rfl (.tmp 85) (.tmp 89) 22 3 (.int .i64 0) 8 rfl Try.underlying22 info3 rfl (by decide) (by omega) u40009001 x40009001_46 (wrap64 (x10_2 + ji20)) [.int .i64 (wrap64 (x10_2 + ji20))] (fun _ => True) (fun _ => False) rfl rfl ?aP (fun _ hk => hk.elim) ?aF ?aO ?aB ?aS ?aL ?_; (case aP => exact rfl); (case aB => exact (pB3 HB.out GE40001.out GE40002.out GE40008.out)); (case aF => exact (fun _ _ => trivial)); (case aO => exact (pR HO_40009001.out)); (case aS => exact (below_size (pB3 HB.out GE40001.out GE40002.out GE40008.out))); (case aL => have := LMc69.out; omega); intro v40022 w78 ho hb hg hat; rw [← Ny40021.out] at ho; replace BK40001 := aQ (blk_grown (g := gb40001) (o := .cells #[.int .i64 a0_0, .slice A0_1 l0_1.length c0_1] 26 (0, 0)) (pk BK40001.out) hg (Kd.R_ne HO_40009001.out BK40001.out (by decide))); replace BK40002 := aQ (blk_grown (g := gb40002) (o := .cells #[.int .i64 0, .slice none 0 0] 26 (0, 0)) (pk BK40002.out) hg (Kd.R_ne HO_40009001.out BK40002.out (by decide))); replace BK40008 := aQ (blk_grown (g := gb40008) (o := .cells #[.int .i64 (wrap64 (a0_0 + 1)), u40009001] 26 (0, 0)) (pk BK40008.out) hg (Kd.R_ne HO_40009001.out BK40008.out (by decide))); replace HB := aQ (hb); have HO40023 := aQ (ho); clear HO_40009001; clear ho hb hg hat; obtain ⟨Ao79, co79, eo79⟩ := Kd.R_slice HO40023.out; subst eo79; have hcz80_0 := bc (v := (.int .i64 (wrap64 (a0_0 + 1)))) BK40008.out 0; have hcz80_1 := bc (v := (u40009001)) BK40008.out 1; have hfz80_0 := blk_frozen BK40008.out 0; have hfz80_1 := blk_frozen BK40008.out 1))
                go_roundg kj46
                case measure => have := HJ2.out; have := HK2.out; have := HJ33.out; have := HJ46.out; omega
                case rel => exact ⟨(wrap64 (x10_2 + 1)), (y40021), (.slice Ao79 y40021.length co79), rs_, H', ⟨by have := HJ2.out; have := HK2.out; have := HJ33.out; have := HJ46.out; omega⟩, ⟨by (with_reducible repeat (first | apply Kd.R_alloc | apply Kd.R_drewN | apply Kd.R_drew)); exact Kd.R_mono (Kd.R_far (p := ⟨gb40008, 1, none⟩) (Kd.R_types HO40023.out BK40008.out (by decide)) (fun _ hk => hk.2) (.slice Ao79 y40021.length co79)) (fun _ hk => trivial)⟩, ⟨by (with_reducible repeat (first | refine blk_drewN ?_ _ | refine blk_drew ?_ | refine blk_alloc ?_ _)); refine blk_far ?_ NB40001_40008.out _; (with_reducible repeat (first | refine blk_drewN ?_ _ | refine blk_drew ?_ | refine blk_alloc ?_ _)); exact BK40001.out⟩, ⟨by (with_reducible repeat (first | refine blk_drewN ?_ _ | refine blk_drew ?_ | refine blk_alloc ?_ _)); refine blk_far ?_ NB40002_40008.out _; (with_reducible repeat (first | refine blk_drewN ?_ _ | refine blk_drew ?_ | refine blk_alloc ?_ _)); exact BK40002.out⟩, ⟨by (with_reducible repeat (first | refine blk_drewN ?_ _ | refine blk_drew ?_ | refine blk_alloc ?_ _)); refine blk_put (cs := #[.int .i64 (wrap64 (a0_0 + 1)), u40009001]) ?_ 1 _ rfl; (with_reducible repeat (first | refine blk_drewN ?_ _ | refine blk_drew ?_ | refine blk_alloc ?_ _)); exact BK40008.out⟩, ⟨pB3 HB.out GE40001.out GE40002.out GE40008.out⟩⟩
               ·rw [if_neg c69] at H
                exact absurd H (by simp)
             ·rw [if_neg c59] at H
              have c59b0 : (t40018 == (wrap64 ((wrap64 (t40005 + t40007)) - 1))) = false := beq_eq_false_iff_ne.mpr c59
              have c59b1 : (t40018 != (wrap64 ((wrap64 (t40005 + t40007)) - 1))) = true := bne_iff_ne.mpr c59
              have H' := aQ H
              clear H
              go_wp2_with (first | ((with_reducible refine gate_callee (f := 58) rfl ?_); refine goesL_ (some 64) rfl rfl Try.func58 (by kernel_rfl) rfl #[.int .i64 x10_2] rfl lm ?_; (with_reducible refine (spec_CountOf.calls kj46 x10_2 t40017 _ A56.out).mono ?_); rintro e w' ⟨rfl, ⟨nd, rfl⟩⟩; refine ⟨_, rfl, ?_⟩; have hnb81 := NB40001_40002.out; have hnc81 := NB40002_40001.out; have hnb82 := NB40001_40008.out; have hnc82 := NB40008_40001.out; have hcz83_0 := bc (v := (.int .i64 a0_0)) BK40001.out 0; have hcz83_1 := bc (v := (.slice A0_1 l0_1.length c0_1)) BK40001.out 1; have hfz83_0 := blk_frozen BK40001.out 0; have hfz83_1 := blk_frozen BK40001.out 1) | (go_at_call 59; (with_reducible refine (spec_l5Rank.calls kj46 a0_0 _ _ l0_1 x10_2 t40018 _ ?side1 ?side2 A58.out).mono ?_); (case side1 => repeat (first | exact (Kd.C_below HR0_1.out (pB3 HB.out GE40001.out GE40002.out GE40008.out)) | (with_reducible refine Kd.C_alloc ?_ _) | (with_reducible refine Kd.C_drewN ?_ _) | (with_reducible refine Kd.C_drew ?_))); (case side2 => exact HC0_1.out); rintro e w84 ⟨rfl, hb⟩; replace HO_40009001 := aQ (Kd.R_below (pR HO_40009001.out) hb); replace BK40001 := aQ (blk_below (g := gb40001) (o := .cells #[.int .i64 a0_0, .slice A0_1 l0_1.length c0_1] 26 (0, 0)) (pk BK40001.out) hb); replace BK40002 := aQ (blk_below (g := gb40002) (o := .cells #[.int .i64 0, .slice none 0 0] 26 (0, 0)) (pk BK40002.out) hb); replace BK40008 := aQ (blk_below (g := gb40008) (o := .cells #[.int .i64 (wrap64 (a0_0 + 1)), u40009001] 26 (0, 0)) (pk BK40008.out) hb); replace HB := aQ (below_step (pB3 HB.out GE40001.out GE40002.out GE40008.out) hb); (try clear hb)))
              go_roundg kj46
              case measure => have := HJ2.out; have := HK2.out; have := HJ33.out; have := HJ46.out; omega
              case rel => exact ⟨(wrap64 (x10_2 + 1)), (x40009001_46), (u40009001), rs_, H', ⟨by have := HJ2.out; have := HK2.out; have := HJ33.out; have := HJ46.out; omega⟩, ⟨pR HO_40009001.out⟩, ⟨pk BK40001.out⟩, ⟨pk BK40002.out⟩, ⟨pk BK40008.out⟩, ⟨pB3 HB.out GE40001.out GE40002.out GE40008.out⟩⟩
            ·rw [if_neg c57] at H
             have c57b0 : (t40017 == (wrap64 ((wrap64 (t40005 + t40007)) - 1))) = false := beq_eq_false_iff_ne.mpr c57
             have c57b1 : (t40017 != (wrap64 ((wrap64 (t40005 + t40007)) - 1))) = true := bne_iff_ne.mpr c57
             have H' := aQ H
             clear H
             go_wp2_with (first | ((with_reducible refine gate_callee (f := 58) rfl ?_); refine goesL_ (some 64) rfl rfl Try.func58 (by kernel_rfl) rfl #[.int .i64 x10_2] rfl lm ?_; (with_reducible refine (spec_CountOf.calls kj46 x10_2 t40017 _ A56.out).mono ?_); rintro e w' ⟨rfl, ⟨nd, rfl⟩⟩; refine ⟨_, rfl, ?_⟩))
             go_roundg kj46
             case measure => have := HJ2.out; have := HK2.out; have := HJ33.out; have := HJ46.out; omega
             case rel => exact ⟨(wrap64 (x10_2 + 1)), (x40009001_46), (u40009001), rs_, H', ⟨by have := HJ2.out; have := HK2.out; have := HJ33.out; have := HJ46.out; omega⟩, ⟨pR HO_40009001.out⟩, ⟨pk BK40001.out⟩, ⟨pk BK40002.out⟩, ⟨pk BK40008.out⟩, ⟨pB3 HB.out GE40001.out GE40002.out GE40008.out⟩⟩
       ·rw [if_neg c33] at H
        have c33b0 : decide (x10_2 ≤ t40004) = false := decide_eq_false c33
        clear c33
        replace H := Option.bind_eq_some_iff.mp H
        obtain ⟨t40009, A850, H⟩ := H
        replace H : (some ((wrap64 (a0_0 + 1)), t40009, true)) = some (r1, r2, r3) := H
        have A85 := aQ A850
        clear A850
        simp only [Option.some.injEq, Prod.mk.injEq] at H
        obtain ⟨rfl, rfl, rfl⟩ := H
        have hnb86 := NB40008_40001.out
        have hnc86 := NB40001_40008.out
        have hnb87 := NB40008_40002.out
        have hnc87 := NB40002_40008.out
        have hcz88_0 := bc (v := (.int .i64 (wrap64 (a0_0 + 1)))) BK40008.out 0
        have hcz88_1 := bc (v := (u40009001)) BK40008.out 1
        have hfz88_0 := blk_frozen BK40008.out 0
        have hfz88_1 := blk_frozen BK40008.out 1
        obtain ⟨Ao89, co89, eo89⟩ := Kd.R_slice HO_40009001.out
        subst eo89
        go_wp2_with (first | ((with_reducible refine gate_callee (f := 92) rfl ?_); refine goesL_ (some 94) rfl rfl Try.func92 (by kernel_rfl) rfl #[.slice Ao89 x40009001_2.length co89] rfl lm ?_; (with_reducible refine (spec_SortSets.calls k2 _ _ x40009001_2 t40009 _ ?side1 ?side2 A85.out).mono ?_); (case side1 => repeat (first | exact (Kd.R_reads' HO_40009001.out).2.2 | (with_reducible refine Kd.C_alloc ?_ _) | (with_reducible refine Kd.C_drewN ?_ _) | (with_reducible refine Kd.C_drew ?_))); (case side2 => exact (Kd.R_reads' HO_40009001.out).2.1); rintro e w90 ⟨v40010, rfl, ho0, hb⟩; refine ⟨_, rfl, ?_⟩; have HO40011 := aQ (Kd.R_lower (Kd.R_new' ho0 (Kd.R_lt (pR HO_40009001.out))) (below_size (pB3 HB.out GE40001.out GE40002.out GE40008.out))); replace HO_40009001 := aQ (Kd.R_elder' (pR HO_40009001.out) (Kd.R_base ho0) hb); replace BK40001 := aQ (blk_below (g := gb40001) (o := .cells #[.int .i64 a0_0, .slice A0_1 l0_1.length c0_1] 26 (0, 0)) (pk BK40001.out) hb); replace BK40002 := aQ (blk_below (g := gb40002) (o := .cells #[.int .i64 0, .slice none 0 0] 26 (0, 0)) (pk BK40002.out) hb); replace BK40008 := aQ (blk_below (g := gb40008) (o := .cells #[.int .i64 (wrap64 (a0_0 + 1)), .slice Ao89 x40009001_2.length co89] 26 (0, 0)) (pk BK40008.out) hb); replace HB := aQ (below_step (pB3 HB.out GE40001.out GE40002.out GE40008.out) hb); (try clear hb); (try clear ho0); obtain ⟨Ao91, co91, eo91⟩ := Kd.R_slice HO40011.out; subst eo91; have hcz92_0 := bc (v := (.int .i64 (wrap64 (a0_0 + 1)))) BK40008.out 0; have hcz92_1 := bc (v := (.slice Ao89 x40009001_2.length co89)) BK40008.out 1; have hfz92_0 := blk_frozen BK40008.out 0; have hfz92_1 := blk_frozen BK40008.out 1; have hnb93 := NB40002_40001.out; have hnc93 := NB40001_40002.out; have hcz94_0 := bc (v := (.int .i64 0)) BK40002.out 0; have hcz94_1 := bc (v := (.slice none 0 0)) BK40002.out 1; have hfz94_0 := blk_frozen BK40002.out 0; have hfz94_1 := blk_frozen BK40002.out 1))
        refine bodyPost_ret (results_ct rfl _ _ gb40002 26 #[.int .i64 (wrap64 (a0_0 + 1)), .slice Ao91 t40009.length co91] (0, 0) _ rfl (by (with_reducible repeat (first | refine blk_drewN ?_ _ | refine blk_drew ?_ | refine blk_alloc ?_ _)); refine blk_put (cs := #[.int .i64 (wrap64 (a0_0 + 1)), .slice none 0 0]) ?_ 1 _ rfl; (with_reducible repeat (first | refine blk_drewN ?_ _ | refine blk_drew ?_ | refine blk_alloc ?_ _)); refine blk_put (cs := #[.int .i64 0, .slice none 0 0]) ?_ 0 _ rfl; (with_reducible repeat (first | refine blk_drewN ?_ _ | refine blk_drew ?_ | refine blk_alloc ?_ _)); refine blk_far ?_ NB40002_40008.out _; (with_reducible repeat (first | refine blk_drewN ?_ _ | refine blk_drew ?_ | refine blk_alloc ?_ _)); exact BK40002.out) Try.underlying26 rfl (by kernel_rfl)) rfl ?_
        exact ⟨_, by first | rfl | (simp [errW_none, errW_some] <;> rfl) | (simp only [← hji18, ← hji20]; first | rfl | (simp [errW_none, errW_some] <;> rfl)) | (simp [*, errW_none, errW_some] <;> rfl), by (with_reducible repeat (first | apply Kd.R_alloc | apply Kd.R_drewN | apply Kd.R_drew)); exact Kd.R_mono (Kd.R_far (p := ⟨gb40002, 1, none⟩) (Kd.R_far (p := ⟨gb40002, 0, none⟩) (Kd.R_far (p := ⟨gb40008, 1, none⟩) (Kd.R_types (Kd.R_types HO40011.out BK40008.out (by decide)) BK40002.out (by decide)) (fun _ hk => hk.1.2) (.slice Ao91 t40009.length co91)) (fun _ hk => hk.2) (.int .i64 (wrap64 (a0_0 + 1)))) (fun _ hk => hk.2) (.slice Ao91 t40009.length co91)) (fun _ hk => trivial), pB3 HB.out GE40001.out GE40002.out GE40008.out⟩
    ·rw [if_neg c19] at H
     exact absurd H (by simp)
/-! ### impl_rankIn: function 96 -/
def impl_rankIn.l0 : Nat → Int → Int → List Int → Int → Int → Option (Int)
 | 0, _, _, _, _, _ => none
 | k + 1, x1, x5, x9, x10, x11 => if x11 < x10 then (if 0 ≤ x11 then (if x11 < (x9.length : Int) then ((impl_CountOf.f (Go.bits .and .i64 x1 (rd x9 x11))).bind fun t97003 => (impl_rankIn.l0 k x1 (mx x5 t97003) x9 x10 (wrap64 (x11 + 1)))) else (none)) else (none)) else (some x5)
def impl_rankIn.f (k : Nat) (a0_0 : Int) (l0_1 : List Int) (a1 : Int) : Option (Int) := impl_rankIn.l0 k a1 0 l0_1 (l0_1.length : Int) 0
theorem impl_rankIn.mono_l : ∀ k, (∀ y0 y1 y2 y3 y4, LeO (impl_rankIn.l0 k y0 y1 y2 y3 y4) (impl_rankIn.l0 (k + 1) y0 y1 y2 y3 y4))
 | 0 => fun _ _ _ _ _ r h => by simp [impl_rankIn.l0] at h
 | k + 1 => by
  have ih0 := impl_rankIn.mono_l k
  ·intro y0 y1 y2 y3 y4
   unfold impl_rankIn.l0
   repeat' first
   | (with_reducible exact ih0 _ _ _ _ _)
   | (with_reducible exact LeO.refl _)
   | (with_reducible exact LeO.none _)
   | (with_reducible refine LeO.ite ?_ ?_)
   | (with_reducible refine LeO.bind ?_ (fun _ => ?_))
   | exact ih0 _ _ _ _ _
   | exact LeO.none _
   | refine LeO.ite ?_ ?_
   | refine LeO.bind ?_ (fun _ => ?_)
theorem impl_rankIn.mono : ∀ a0 a1 a2 k, LeO (impl_rankIn.f k a0 a1 a2) (impl_rankIn.f (k + 1) a0 a1 a2) := by
 intro a0 a1 a2 k
 have ih0 := impl_rankIn.mono_l k
 unfold impl_rankIn.f
 repeat' first
   | (with_reducible exact ih0 _ _ _ _ _)
   | (with_reducible exact LeO.refl _)
   | (with_reducible exact LeO.none _)
   | (with_reducible refine LeO.ite ?_ ?_)
   | (with_reducible refine LeO.bind ?_ (fun _ => ?_))
   | exact ih0 _ _ _ _ _
   | exact LeO.none _
   | refine LeO.ite ?_ ?_
   | refine LeO.bind ?_ (fun _ => ?_)
set_option maxHeartbeats 8000000 in
set_option maxRecDepth 100000 in
theorem impl_rankIn.calls (k : Nat) (a0_0 : Int) (A0_1 : Option Addr) (c0_1 : Nat) (l0_1 : List Int) (a1 : Int) (r : Int) (w : World) (hr0_1 : Kd.C (Kd.int .i64) w A0_1 l0_1.length l0_1) (hc0_1 : l0_1.length ≤ c0_1) (h : impl_rankIn.f k a0_0 l0_1 a1 = some r) :
  Calls Try.prog 96 #[.agg #[.int .i64 a0_0, .slice A0_1 l0_1.length c0_1], .int .i64 a1] w fun e w' => e = .returned (.int .i64 r) ∧ Below w.heap.size w w' := by
 have hu26 := Try.underlying26
 have HR0_1 := aQ hr0_1
 have HC0_1 := aQ hc0_1
 clear hr0_1 hc0_1
 have HB := aQ (Below.refl w.heap.size w)
 have H : (impl_rankIn.l0 k a1 0 l0_1 (l0_1.length : Int) 0) = some r := h
 clear h
 have H' := aQ H
 clear H
 go_enter Try.func96, Try.ntmps96
 go_wp2_with (first | ((with_reducible refine gate_dst (N := 2) rfl ?_); refine box_event ?hg (N := 2) ?hd (cs := #[.int .i64 a0_0, .slice A0_1 l0_1.length c0_1]) (t := 26) ?hr ?_; (case hd => rfl); (case hg => rfl); (case hr => first | (go_simp; done) | (go_simp; rfl)); intro gb97001 hg w3 hbox hb; have BK97001 := aQ (hbox); have GW97001 := aQ ((by rw [hg]; exact (below_size (pB HB.out)) : w.heap.size ≤ gb97001)); have GE97001 := aQ ((by rw [hg]; exact (below_size (pB HB.out)) : w.heap.size ≤ gb97001)); replace HB := aQ (below_step (pB HB.out) hb); clear hb hbox hg; have hcz4_0 := bc (v := (.int .i64 a0_0)) BK97001.out 0; have hcz4_1 := bc (v := (.slice A0_1 l0_1.length c0_1)) BK97001.out 1; have hfz4_0 := blk_frozen BK97001.out 0; have hfz4_1 := blk_frozen BK97001.out 1))
 go_loopg [5, 11] k (fun kq v5 v11 w' => ∃ (x5_1 : Int) (x11_1 : Int), v5 = .int .i64 x5_1 ∧ v11 = .int .i64 x11_1 ∧ Aside0 (impl_rankIn.l0 kq a1 x5_1 l0_1 (l0_1.length : Int) x11_1 = some r) ∧ Aside0 (kq ≤ k) ∧ Aside0 (w'.heap[gb97001]? = some (.cells #[.int .i64 a0_0, (.slice A0_1 l0_1.length c0_1)] 26 (0, 0))) ∧ Aside0 (Below w.heap.size w w'))
 case atStart => exact ⟨(0), (0), rs_, rs_, H', ⟨Nat.le_refl _⟩, ⟨pk BK97001.out⟩, ⟨pB1 HB.out GE97001.out⟩⟩
 case round =>
  clear H'
  try clear p2
  try clear hcz4_0
  try clear hcz4_1
  try clear hfz4_0
  try clear hfz4_1
  obtain ⟨x5_1, x11_1, rfl, rfl, HA, HK1, BK97001, HB⟩ := hrel
  cases gk with
  | zero => exact absurd HA.out (by simp [impl_rankIn.l0])
  | succ k1 =>
   have H := HA.out
   clear HA
   simp only [impl_rankIn.l0] at H
   by_cases c5 : x11_1 < (l0_1.length : Int)
   ·rw [if_pos c5] at H
    have c5b0 : decide (x11_1 < (l0_1.length : Int)) = true := decide_eq_true c5
    clear c5
    by_cases c6 : 0 ≤ x11_1
    ·rw [if_pos c6] at H
     have c6b0 : decide (0 ≤ x11_1) = true := decide_eq_true c6
     clear c6
     by_cases c7 : x11_1 < (l0_1.length : Int)
     ·rw [if_pos c7] at H
      have c7b0 : decide (x11_1 < (l0_1.length : Int)) = true := decide_eq_true c7
      clear c7
      replace H := Option.bind_eq_some_iff.mp H
      obtain ⟨t97003, A80, H⟩ := H
      replace H : (impl_rankIn.l0 k1 a1 (mx x5_1 t97003) l0_1 (l0_1.length : Int) (wrap64 (x11_1 + 1))) = some r := H
      have A8 := aQ A80
      clear A80
      obtain ⟨ji9, hji9⟩ : ∃ j_ : Int, (mx x5_1 t97003) = j_ := ⟨_, rfl⟩
      replace H : (impl_rankIn.l0 k1 a1 ji9 l0_1 (l0_1.length : Int) (wrap64 (x11_1 + 1))) = some r := by first | (rw [hji9] at H; exact H) | (simp only [hji9] at H ⊢; exact H)
      (try rw [hji9] at A8)
      have hji9_ : (if x5_1 < t97003 then t97003 else x5_1) = ji9 := hji9
      have H' := aQ H
      clear H
      have p97002 : 0 ≤ (x11_1 : Int) := of_decide_eq_true as_
      have q97002 : x11_1 < (l0_1.length : Int) := of_decide_eq_true as_
      obtain ⟨ad97002, e97002, hx97002_0⟩ := Kd.at_int HR0_1.out x11_1 p97002 q97002
      cases e97002
      replace hx97002_0 := (HB.out.cell (World.block_lt_of_cell? w _ hx97002_0)).trans hx97002_0
      replace p97002 := eq_true p97002
      replace q97002 := eq_true q97002
      go_wp2_with (first | ((with_reducible refine gate_callee (f := 64) rfl ?_); refine goesL_ (some 19) rfl rfl Try.func64 (by kernel_rfl) rfl #[.int .i64 (Go.bits .and .i64 a1 (rd l0_1 x11_1))] rfl lm ?_; (with_reducible refine (impl_CountOf.calls (Go.bits .and .i64 a1 (rd l0_1 x11_1)) t97003 _ A8.out).mono ?_); rintro e w' ⟨rfl, ⟨nd, rfl⟩⟩; refine ⟨_, rfl, ?_⟩))
      go_roundg k1
      case measure => have := HK1.out; omega
      case rel => exact ⟨(ji9), (wrap64 (x11_1 + 1)), (by first | rfl | (simp; done) | (simp only [← hji9] <;> (first | rfl | simp)) | (simp [*]; done)), rs_, H', ⟨by have := HK1.out; omega⟩, ⟨pk BK97001.out⟩, ⟨pB1 HB.out GE97001.out⟩⟩
     ·rw [if_neg c7] at H
      exact absurd H (by simp)
    ·rw [if_neg c6] at H
     exact absurd H (by simp)
   ·rw [if_neg c5] at H
    have c5b0 : decide (x11_1 < (l0_1.length : Int)) = false := decide_eq_false c5
    clear c5
    obtain rfl := Option.some.inj H
    go_wp2
    go_ret
    exact ⟨re_, pB1 HB.out GE97001.out⟩
/-! ### impl_closure: function 98 -/
def impl_closure.l0 : Nat → Int → Int → Int → Int → Int → List Int → Option (Int)
 | 0, _, _, _, _, _, _ => none
 | k + 1, x1, x5, x6, x7, x99002000, x99002001 => if x7 < x99002000 then (if 0 ≤ x7 then ((impl_rankIn.f k x99002000 x99002001 (Go.bits .or .i64 x1 (shl .i64 1 x7))).bind fun t99003 => (if t99003 = x5 then (impl_closure.l0 k x1 x5 (Go.bits .or .i64 x6 (shl .i64 1 x7)) (wrap64 (x7 + 1)) x99002000 x99002001) else (impl_closure.l0 k x1 x5 x6 (wrap64 (x7 + 1)) x99002000 x99002001))) else (none)) else (some x6)
def impl_closure.f (k : Nat) (a0_0 : Int) (l0_1 : List Int) (a1 : Int) : Option (Int) := (impl_rankIn.f k a0_0 l0_1 a1).bind fun t99002 => (impl_closure.l0 k a1 t99002 0 0 a0_0 l0_1)
theorem impl_closure.mono_l : ∀ k, (∀ y0 y1 y2 y3 y4 y5, LeO (impl_closure.l0 k y0 y1 y2 y3 y4 y5) (impl_closure.l0 (k + 1) y0 y1 y2 y3 y4 y5))
 | 0 => fun _ _ _ _ _ _ r h => by simp [impl_closure.l0] at h
 | k + 1 => by
  have ih0 := impl_closure.mono_l k
  ·intro y0 y1 y2 y3 y4 y5
   unfold impl_closure.l0
   repeat' first
   | (with_reducible exact ih0 _ _ _ _ _ _)
   | (with_reducible exact impl_rankIn.mono _ _ _ _)
   | (with_reducible exact LeO.refl _)
   | (with_reducible exact LeO.none _)
   | (with_reducible refine LeO.ite ?_ ?_)
   | (with_reducible refine LeO.bind ?_ (fun _ => ?_))
   | exact ih0 _ _ _ _ _ _
   | exact impl_rankIn.mono _ _ _ _
   | exact LeO.none _
   | refine LeO.ite ?_ ?_
   | refine LeO.bind ?_ (fun _ => ?_)
theorem impl_closure.mono : ∀ a0 a1 a2 k, LeO (impl_closure.f k a0 a1 a2) (impl_closure.f (k + 1) a0 a1 a2) := by
 intro a0 a1 a2 k
 have ih0 := impl_closure.mono_l k
 unfold impl_closure.f
 repeat' first
   | (with_reducible exact ih0 _ _ _ _ _ _)
   | (with_reducible exact impl_rankIn.mono _ _ _ _)
   | (with_reducible exact LeO.refl _)
   | (with_reducible exact LeO.none _)
   | (with_reducible refine LeO.ite ?_ ?_)
   | (with_reducible refine LeO.bind ?_ (fun _ => ?_))
   | exact ih0 _ _ _ _ _ _
   | exact impl_rankIn.mono _ _ _ _
   | exact LeO.none _
   | refine LeO.ite ?_ ?_
   | refine LeO.bind ?_ (fun _ => ?_)
def impl_closure.T6 : Bool × List (List Nat × List Nat) := (true, [([], []), ([], []), ([], []), ([2], [2]), ([1, 3], [1, 3]), ([0, 4], [0, 4]), ([], []), ([5, 6], [5, 6])])
def impl_closure.B6 : List Nat := [0, 0, 0, 4, 14, 31, 0, 127]
theorem impl_closure.tab6 : rtab .any (opsOf Try.f98 6) = impl_closure.T6 := by kernel_rfl
theorem impl_closure.bits6 : waitsOk impl_closure.T6.2 impl_closure.B6 = true := by kernel_rfl
set_option maxHeartbeats 8000000 in
set_option maxRecDepth 100000 in
theorem impl_closure.calls (k : Nat) (a0_0 : Int) (A0_1 : Option Addr) (c0_1 : Nat) (l0_1 : List Int) (a1 : Int) (r : Int) (w : World) (hr0_1 : Kd.C (Kd.int .i64) w A0_1 l0_1.length l0_1) (hc0_1 : l0_1.length ≤ c0_1) (h : impl_closure.f k a0_0 l0_1 a1 = some r) :
  Calls Try.prog 98 #[.agg #[.int .i64 a0_0, .slice A0_1 l0_1.length c0_1], .int .i64 a1] w fun e w' => e = .returned (.int .i64 r) ∧ Below w.heap.size w w' := by
 have hu26 := Try.underlying26
 have HR0_1 := aQ hr0_1
 have HC0_1 := aQ hc0_1
 clear hr0_1 hc0_1
 have HB := aQ (Below.refl w.heap.size w)
 have H : ((impl_rankIn.f k a0_0 l0_1 a1).bind fun t99002 => (impl_closure.l0 k a1 t99002 0 0 a0_0 l0_1)) = some r := h
 clear h
 replace H := Option.bind_eq_some_iff.mp H
 obtain ⟨t99002, A30, H⟩ := H
 replace H : (impl_closure.l0 k a1 t99002 0 0 a0_0 l0_1) = some r := H
 have A3 := aQ A30
 clear A30
 have H' := aQ H
 clear H
 go_enter Try.func98, Try.ntmps98
 go_wp2_with (first | ((with_reducible refine gate_dst (N := 2) rfl ?_); refine box_event ?hg (N := 2) ?hd (cs := #[.int .i64 a0_0, .slice A0_1 l0_1.length c0_1]) (t := 26) ?hr ?_; (case hd => rfl); (case hg => rfl); (case hr => first | (go_simp; done) | (go_simp; rfl)); intro gb99001 hg w4 hbox hb; have BK99001 := aQ (hbox); have GW99001 := aQ ((by rw [hg]; exact (below_size (pB HB.out)) : w.heap.size ≤ gb99001)); have GE99001 := aQ ((by rw [hg]; exact (below_size (pB HB.out)) : w.heap.size ≤ gb99001)); replace HB := aQ (below_step (pB HB.out) hb); clear hb hbox hg; have hcz5_0 := bc (v := (.int .i64 a0_0)) BK99001.out 0; have hcz5_1 := bc (v := (.slice A0_1 l0_1.length c0_1)) BK99001.out 1; have hfz5_0 := blk_frozen BK99001.out 0; have hfz5_1 := blk_frozen BK99001.out 1) | ((with_reducible refine gate_callee (f := 96) rfl ?_); refine goesL_ (some 10) rfl rfl Try.func96 (by kernel_rfl) rfl #[.agg #[.int .i64 a0_0, .slice A0_1 l0_1.length c0_1], .int .i64 a1] rfl lm ?_; (with_reducible refine (impl_rankIn.calls k a0_0 _ _ l0_1 a1 t99002 _ ?side1 ?side2 A3.out).mono ?_); (case side1 => exact pC (Kd.C_below HR0_1.out HB.out)); (case side2 => exact HC0_1.out); rintro e w6 ⟨rfl, hb⟩; refine ⟨_, rfl, ?_⟩; replace BK99001 := aQ (blk_below (g := gb99001) (o := .cells #[.int .i64 a0_0, .slice A0_1 l0_1.length c0_1] 26 (0, 0)) (pk BK99001.out) hb); replace HB := aQ (below_step (pB1 HB.out GE99001.out) hb); (try clear hb)))
 go_loopg [6, 7] k (fun kq v6 v7 w' => ∃ (x6_1 : Int) (x7_1 : Int), v6 = .int .i64 x6_1 ∧ v7 = .int .i64 x7_1 ∧ Aside0 (impl_closure.l0 kq a1 t99002 x6_1 x7_1 a0_0 l0_1 = some r) ∧ Aside0 (kq ≤ k) ∧ Aside0 (w'.heap[gb99001]? = some (.cells #[.int .i64 a0_0, (.slice A0_1 l0_1.length c0_1)] 26 (0, 0))) ∧ Aside0 (Below w.heap.size w w'))
 case atStart => exact ⟨(0), (0), rs_, rs_, H', ⟨Nat.le_refl _⟩, ⟨pk BK99001.out⟩, ⟨pB1 HB.out GE99001.out⟩⟩
 case round =>
  clear H'
  try clear p2
  try clear hcz5_0
  try clear hcz5_1
  try clear hfz5_0
  try clear hfz5_1
  obtain ⟨x6_1, x7_1, rfl, rfl, HA, HK1, BK99001, HB⟩ := hrel
  cases gk with
  | zero => exact absurd HA.out (by simp [impl_closure.l0])
  | succ k1 =>
   have H := HA.out
   clear HA
   simp only [impl_closure.l0] at H
   by_cases c7 : x7_1 < a0_0
   ·rw [if_pos c7] at H
    have c7b0 : decide (x7_1 < a0_0) = true := decide_eq_true c7
    clear c7
    by_cases c8 : 0 ≤ x7_1
    ·rw [if_pos c8] at H
     have c8b0 := eq_true c8
     have c8b1 : decide (0 ≤ x7_1) = true := decide_eq_true c8
     clear c8
     obtain ⟨ji9, hji9⟩ : ∃ j_ : Int, (shl .i64 1 x7_1) = j_ := ⟨_, rfl⟩
     replace H : ((impl_rankIn.f k1 a0_0 l0_1 (Go.bits .or .i64 a1 (ji9))).bind fun t99003 => (if t99003 = t99002 then (impl_closure.l0 k1 a1 t99002 (Go.bits .or .i64 x6_1 (ji9)) (wrap64 (x7_1 + 1)) a0_0 l0_1) else (impl_closure.l0 k1 a1 t99002 x6_1 (wrap64 (x7_1 + 1)) a0_0 l0_1))) = some r := by first | (rw [hji9] at H; exact H) | (simp only [hji9] at H ⊢; exact H)
     have hji9_ : (IntKind.i64.wrap (1 * 2 ^ min x7_1.toNat 64)) = ji9 := hji9
     have hji9z : x7_1 ≤ 64 → (IntKind.i64.wrap (1 * 2 ^ x7_1.toNat)) = ji9 := shl_small hji9
     have hji9u : (IntKind.i64.wrap (2 ^ min x7_1.toNat 64)) = ji9 := by have h_ := hji9_; rw [Int.one_mul] at h_; exact h_
     have hji9v : x7_1 ≤ 64 → (IntKind.i64.wrap (2 ^ x7_1.toNat)) = ji9 := fun hle_ => by have h_ := hji9z hle_; rw [Int.one_mul] at h_; exact h_
     have hji9y : (wrap64 (1 * 2 ^ min x7_1.toNat 64)) = ji9 := (i64_w _).symm.trans hji9_
     have hji9x : x7_1 ≤ 64 → (wrap64 (1 * 2 ^ x7_1.toNat)) = ji9 := fun h_ => (i64_w _).symm.trans (hji9z h_)
     replace H := Option.bind_eq_some_iff.mp H
     obtain ⟨t99003, A100, H⟩ := H
     replace H : (if t99003 = t99002 then (impl_closure.l0 k1 a1 t99002 (Go.bits .or .i64 x6_1 (ji9)) (wrap64 (x7_1 + 1)) a0_0 l0_1) else (impl_closure.l0 k1 a1 t99002 x6_1 (wrap64 (x7_1 + 1)) a0_0 l0_1)) = some r := H
     have A10 := aQ A100
     clear A100
     by_cases c11 : t99003 = t99002
     ·rw [if_pos c11] at H
      have c11b0 : (t99003 == t99002) = true := beq_iff_eq.mpr c11
      have c11b1 : (t99003 != t99002) = false := bne_eq_false_iff_eq.mpr c11
      clear c11
      have c12b0 := eq_true (of_decide_eq_true as_ : 0 ≤ x7_1)
      have H' := aQ H
      clear H
      have hcz14_0 := bc (v := (.int .i64 a0_0)) BK99001.out 0
      have hcz14_1 := bc (v := (.slice A0_1 l0_1.length c0_1)) BK99001.out 1
      have hfz14_0 := blk_frozen BK99001.out 0
      have hfz14_1 := blk_frozen BK99001.out 1
      try go_wp2
      have n0_ := aQ (blk_drew BK99001.out)
      have n1_ := aQ (below_drew1 HB.out)
      clear BK99001
      clear HB
      have BK99001 := n0_
      have HB := n1_
      clear n0_ n1_
      refine start_ (n := 8) (S := fun w' => w'.cell? ⟨gb99001, 0, none⟩ = some (.int .i64 a0_0) ∧ w'.cell? ⟨gb99001, 1, none⟩ = some (.slice A0_1 l0_1.length c0_1)) (ds := []) #[false, false, false, false, false, false, false, false] (by kernel_rfl) rfl rfl ⟨(blk_cell BK99001.out 0).trans rfl, (blk_cell BK99001.out 1).trans rfl⟩ (fun hHeld => ?_); refine with_tabW impl_closure.tab6 impl_closure.bits6 (fun HT_ HW_ => ?_)
      generalize wr.drew = w15 at BK99001 HB hHeld ⊢
      refine puA (i := 1) (N := some 18) HT_ (h := ?_)
      refine puA (i := 2) (N := some 19) HT_ (h := ?_)
      refine puA (i := 3) (N := some 20) HT_ (h := ?_)
      refine puA (i := 4) (N := some 21) HT_ (h := ?_)
      refine puA (i := 6) (N := some 23) HT_ (h := ?_)
      refine taA2 (i := 0) (N := some 17) HT_ HW_ hHeld (h := ?_)
      refine onA (i := 5) (N := some 22) HT_ (h := fun K hK => ?_)
      refine goes_ Try.func96 (by kernel_rfl) rfl #[.agg #[.int .i64 a0_0, .slice A0_1 l0_1.length c0_1], .int .i64 (Go.bits .or .i64 a1 (ji9))] (by rfl) rfl rfl (by (try simp only [List.map_toArray, List.map_cons, List.map_nil]); first | done | (simp only [hji9]; rfl) | rfl | (simp only [List.length_drop, List.length_take]; rfl)) ?_
      with_reducible refine (impl_rankIn.calls k1 a0_0 _ _ l0_1 (Go.bits .or .i64 a1 (ji9)) t99003 _ ?side1 ?side2 A10.out).mono ?_
      (case side1 => exact pC (Kd.C_below HR0_1.out HB.out))
      (case side2 => exact HC0_1.out)
      rintro e w16 ⟨rfl, hb⟩
      refine ⟨_, rfl, ?_⟩
      have n0_ := aQ (blk_below (g := gb99001) (o := .cells #[.int .i64 a0_0, .slice A0_1 l0_1.length c0_1] 26 (0, 0)) (pk BK99001.out) hb)
      have n1_ := aQ (below_step (pB1 HB.out GE99001.out) hb)
      clear BK99001
      clear HB
      have BK99001 := n0_
      have HB := n1_
      clear n0_ n1_
      (try clear hb)
      (try clear hb2)
      (try clear hk)
      (try clear hi)
      refine hK.out _ _ ⟨(blk_cell BK99001.out 0).trans rfl, (blk_cell BK99001.out 1).trans rfl⟩ (fun hHeld => ?_)
      clear hK K
      refine noA (h := ?_)
      refine puA (i := 7) (N := some 24) HT_ (h := ?_)
      refine done_ (done_of HT_.out (by kernel_rfl)) ?_
      try go_wp2
      go_roundg k1
      case measure => have := HK1.out; omega
      case rel => exact ⟨(Go.bits .or .i64 x6_1 (ji9)), (wrap64 (x7_1 + 1)), (by first | rfl | (simp; done) | (simp only [← hji9] <;> (first | rfl | simp)) | (simp [*]; done)), rs_, H', ⟨by have := HK1.out; omega⟩, ⟨pk BK99001.out⟩, ⟨pB1 HB.out GE99001.out⟩⟩
     ·rw [if_neg c11] at H
      have c11b0 : (t99003 == t99002) = false := beq_eq_false_iff_ne.mpr c11
      have c11b1 : (t99003 != t99002) = true := bne_iff_ne.mpr c11
      have H' := aQ H
      clear H
      have hcz17_0 := bc (v := (.int .i64 a0_0)) BK99001.out 0
      have hcz17_1 := bc (v := (.slice A0_1 l0_1.length c0_1)) BK99001.out 1
      have hfz17_0 := blk_frozen BK99001.out 0
      have hfz17_1 := blk_frozen BK99001.out 1
      try go_wp2
      have n0_ := aQ (blk_drew BK99001.out)
      have n1_ := aQ (below_drew1 HB.out)
      clear BK99001
      clear HB
      have BK99001 := n0_
      have HB := n1_
      clear n0_ n1_
      refine start_ (n := 8) (S := fun w' => w'.cell? ⟨gb99001, 0, none⟩ = some (.int .i64 a0_0) ∧ w'.cell? ⟨gb99001, 1, none⟩ = some (.slice A0_1 l0_1.length c0_1)) (ds := []) #[false, false, false, false, false, false, false, false] (by kernel_rfl) rfl rfl ⟨(blk_cell BK99001.out 0).trans rfl, (blk_cell BK99001.out 1).trans rfl⟩ (fun hHeld => ?_); refine with_tabW impl_closure.tab6 impl_closure.bits6 (fun HT_ HW_ => ?_)
      generalize wr.drew = w18 at BK99001 HB hHeld ⊢
      refine puA (i := 1) (N := some 18) HT_ (h := ?_)
      refine puA (i := 2) (N := some 19) HT_ (h := ?_)
      refine puA (i := 3) (N := some 20) HT_ (h := ?_)
      refine puA (i := 4) (N := some 21) HT_ (h := ?_)
      refine puA (i := 6) (N := some 23) HT_ (h := ?_)
      refine taA2 (i := 0) (N := some 17) HT_ HW_ hHeld (h := ?_)
      refine onA (i := 5) (N := some 22) HT_ (h := fun K hK => ?_)
      refine goes_ Try.func96 (by kernel_rfl) rfl #[.agg #[.int .i64 a0_0, .slice A0_1 l0_1.length c0_1], .int .i64 (Go.bits .or .i64 a1 (ji9))] (by rfl) rfl rfl (by (try simp only [List.map_toArray, List.map_cons, List.map_nil]); first | done | (simp only [hji9]; rfl) | rfl | (simp only [List.length_drop, List.length_take]; rfl)) ?_
      with_reducible refine (impl_rankIn.calls k1 a0_0 _ _ l0_1 (Go.bits .or .i64 a1 (ji9)) t99003 _ ?side1 ?side2 A10.out).mono ?_
      (case side1 => exact pC (Kd.C_below HR0_1.out HB.out))
      (case side2 => exact HC0_1.out)
      rintro e w19 ⟨rfl, hb⟩
      refine ⟨_, rfl, ?_⟩
      have n0_ := aQ (blk_below (g := gb99001) (o := .cells #[.int .i64 a0_0, .slice A0_1 l0_1.length c0_1] 26 (0, 0)) (pk BK99001.out) hb)
      have n1_ := aQ (below_step (pB1 HB.out GE99001.out) hb)
      clear BK99001
      clear HB
      have BK99001 := n0_
      have HB := n1_
      clear n0_ n1_
      (try clear hb)
      (try clear hb2)
      (try clear hk)
      (try clear hi)
      refine hK.out _ _ ⟨(blk_cell BK99001.out 0).trans rfl, (blk_cell BK99001.out 1).trans rfl⟩ (fun hHeld => ?_)
      clear hK K
      refine noA (h := ?_)
      refine puA (i := 7) (N := some 24) HT_ (h := ?_)
      refine done_ (done_of HT_.out (by kernel_rfl)) ?_
      try go_wp2
      go_roundg k1
      case measure => have := HK1.out; omega
      case rel => exact ⟨(x6_1), (wrap64 (x7_1 + 1)), rs_, rs_, H', ⟨by have := HK1.out; omega⟩, ⟨pk BK99001.out⟩, ⟨pB1 HB.out GE99001.out⟩⟩
    ·rw [if_neg c8] at H
     exact absurd H (by simp)
   ·rw [if_neg c7] at H
    have c7b0 : decide (x7_1 < a0_0) = false := decide_eq_false c7
    clear c7
    obtain rfl := Option.some.inj H
    have hcz20_0 := bc (v := (.int .i64 a0_0)) BK99001.out 0
    have hcz20_1 := bc (v := (.slice A0_1 l0_1.length c0_1)) BK99001.out 1
    have hfz20_0 := blk_frozen BK99001.out 0
    have hfz20_1 := blk_frozen BK99001.out 1
    go_wp2
    go_ret
    exact ⟨re_, pB1 HB.out GE99001.out⟩
end Go.Proofs.Ytagncnjllpebjaa.A
namespace Go.Proofs.Ytagncnjllpebjaa.A
open Go.RowKit Go.Proofs.YtagncnjllpebjaaW.PrintWords Go.Proofs.YtagncnjllpebjaaW.PrintLast Go.Proofs.YtagncnjllpebjaaW.PrintMore Go.Proofs.Ytagncnjllpebjaa.Z
attribute [local go_sem] max2_int min2_int max_two min_two max_three min_three max_four min_four
set_option linter.unusedVariables false
set_option linter.unusedSimpArgs false
/-! ### impl_flatsIn: function 150 (by hand) -/
def impl_flatsIn.c (k : Nat) (n : Int) (l : List Int) (s : Int) : Option Bool := (impl_closure.f k n l s).bind fun t => some (t == s)
theorem impl_flatsIn.c_mono (n : Int) (l : List Int) (s : Int) (k : Nat) : LeO (impl_flatsIn.c k n l s) (impl_flatsIn.c (k + 1) n l s) := by
 unfold impl_flatsIn.c
 exact LeO.bind (impl_closure.mono _ _ _ _) (fun _ => LeO.refl _)
set_option maxHeartbeats 4000000 in
set_option maxRecDepth 100000 in
theorem flatsIn1_walk (k : Nat) (n : Int) (A : Option Addr) (c : Nat) (l : List Int) (s : Int) (b : Bool) (gm : Nat) (w : World)
  (hr : Kd.C (Kd.int .i64) w A l.length l) (hc : l.length ≤ c)
  (hm : w.heap[gm]? = some (.cells #[.int .i64 n, .slice A l.length c] 26 (0, 0))) (h : impl_flatsIn.c k n l s = some b) :
  Calls Try.prog 175 #[.int .i64 s, .pointer (some ⟨gm, 0, none⟩)] w fun e w' => e = .returned (.bool b) ∧ Below w.heap.size w w' := by
 unfold impl_flatsIn.c at h
 obtain ⟨t, hT, h⟩ := Option.bind_eq_some_iff.1 h
 simp only [Option.some.injEq] at h
 subst h
 have hu := Try.underlying26
 have hcm0 : w.cell? ⟨gm, 0, none⟩ = some (.int .i64 n) := (blk_cell hm 0).trans rfl
 have hcm1 : w.cell? ⟨gm, 1, none⟩ = some (.slice A l.length c) := (blk_cell hm 1).trans rfl
 have HT := Lib.hid hT
 have HR := Lib.hid hr
 have HC := Lib.hid hc
 clear hm hr hc hT
 go_enter Try.func175, Try.ntmps175
 go_wp2_with (first | (go_at_call 98; (with_reducible refine (impl_closure.calls k n _ _ l s t _ ?side1 ?side2 HT.out).mono ?_); (case side1 => exact HR.out); (case side2 => exact HC.out); rintro e w1_ ⟨rfl, hb⟩; have HB := aQ hb; clear hb))
 go_ret
 exact ⟨rs_, HB.out⟩
def impl_flatsIn.f (k : Nat) (a0_0 : Int) (l0_1 : List Int) : Option (List Int) := (impl_FullSet.f a0_0).bind fun m => if 0 ≤ m ∧ m ≤ 1000 then setsO (fun s => impl_flatsIn.c k a0_0 l0_1 s) m else none
theorem impl_flatsIn.mono : ∀ a0 a1 k, LeO (impl_flatsIn.f k a0 a1) (impl_flatsIn.f (k + 1) a0 a1) := by
 intro a0 a1 k
 unfold impl_flatsIn.f
 exact (LeO.bind (LeO.refl _) (fun m => LeO.ite (LeO_setsO (fun s => impl_flatsIn.c_mono a0 a1 s k) m) (LeO.none _)))
set_option maxHeartbeats 4000000 in
set_option maxRecDepth 100000 in
theorem impl_flatsIn.calls (k : Nat) (a0_0 : Int) (A0_1 : Option Addr) (c0_1 : Nat) (l0_1 : List Int) (r : List Int) (w : World) (hr0_1 : Kd.C (Kd.int .i64) w A0_1 l0_1.length l0_1) (hc0_1 : l0_1.length ≤ c0_1) (h : impl_flatsIn.f k a0_0 l0_1 = some r) :
  Calls Try.prog 150 #[.agg #[.int .i64 a0_0, .slice A0_1 l0_1.length c0_1]] w fun e w' => ∃ v0_ : Value, e = .returned (v0_) ∧ Kd.R (Kd.int .i64) 3 w' w.heap.size (fun _ => True) v0_ r ∧ Below w.heap.size w w' := by
 have hu := Try.underlying26
 have HR := aQ hr0_1
 have HC := aQ hc0_1
 have HB := aQ (Below.refl w.heap.size w)
 clear hr0_1 hc0_1
 have EG := aQ (show ∀ args w, (callFunc 175 args).run Try.prog w = .ok (.enter 175 args) w from runs_of Try.func175 (by kernel_rfl) rfl)
 unfold impl_flatsIn.f at h
 obtain ⟨m, hF, h⟩ := Option.bind_eq_some_iff.1 h
 by_cases hm : 0 ≤ m ∧ m ≤ 1000
 ·rw [if_pos hm] at h
  have HF := aQ hF
  have HM := aQ hm
  have HS := Lib.hid h
  clear hF hm h
  go_enter Try.func150, Try.ntmps150
  go_wp2_with (first | ((with_reducible refine gate_dst (N := 1) rfl ?_); refine box_event ?hg (N := 1) ?hd (cs := #[.int .i64 a0_0, .slice A0_1 l0_1.length c0_1]) (t := 26) ?hr ?_; (case hd => rfl); (case hg => rfl); (case hr => first | (go_simp; done) | (go_simp; rfl)); intro gm hg w1_ hbox hb; have n_HB := aQ (below_step (pB HB.out) hb); have n_GBM := aQ ((by rw [hg]; exact below_size (pB HB.out)) : w.heap.size ≤ gm); clear HB; have HB := n_HB; have GBM := n_GBM; have BM := aQ hbox; clear n_HB n_GBM; clear hb hbox hg; have zBM0 : w1_.cell? ⟨gm, 0, none⟩ = some (.int .i64 a0_0) := (blk_cell BM.out 0).trans rfl; have zBM1 : w1_.cell? ⟨gm, 1, none⟩ = some (.slice A0_1 l0_1.length c0_1) := (blk_cell BM.out 1).trans rfl))
  refine (setsOf_walk (fun s => impl_flatsIn.c k a0_0 l0_1 s) 175 _ EG.out a0_0 m r _ HF.out HM.out.1 HM.out.2 HS.out (fun W x b hb hg => calls_of_args (by simp) (flatsIn1_walk k a0_0 A0_1 c0_1 l0_1 x b gm W (Kd.C_below (Kd.C_below HR.out HB.out) hb) HC.out (blk_below BM.out hb) hg))).mono ?_
  rintro e w9_ ⟨v_, rfl, ho_, hb⟩
  have HO := aQ (Kd.R_lower ho_ (below_size (pB HB.out)))
  have n_HB := aQ (below_step (pB HB.out) hb)
  clear HB ho_ hb
  have HB := n_HB
  clear n_HB
  obtain ⟨AO, cO, eO⟩ := Kd.R_slice HO.out
  subst eO
  go_wp2
  go_ret
  exact ⟨_, rs_, by (with_reducible repeat (first | apply Kd.R_alloc | apply Kd.R_drewN | apply Kd.R_drew)); exact HO.out, (pB HB.out)⟩
 ·rw [if_neg hm] at h; cases h
end Go.Proofs.Ytagncnjllpebjaa.A
