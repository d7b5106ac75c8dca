/- The machine side of the law FnExactUnionRank, laid by a program of this work over the kit's print and contracts by hand: Go functions as Lean functions, and proofs that calls come to what these tell. Conditions: those in each theorem. -/
import Derived.Test.YtagncnjllpebjaaMFnExactUnionRankwRepsOne
import Derived.Test.YtagncnjllpebjaaMFnExactUnionRank0
import Derived.Test.YtagncnjllpebjaaMFnExactUnionRank1
import Derived.Test.YtagncnjllpebjaaMFnExactUnionRank2
import Derived.Test.YtagncnjllpebjaaMFnExactUnionRank5
namespace Go.Proofs.Ytagncnjllpebjaa.A
open Go.RowKit Go.Proofs.YtagncnjllpebjaaW.PrintWords Go.Proofs.YtagncnjllpebjaaW.PrintLast Go.Proofs.YtagncnjllpebjaaW.PrintMore
attribute [local go_sem] max2_int min2_int max_two min_two max_three min_three max_four min_four   -- for this text's walks alone
set_option linter.unusedVariables false
set_option linter.unusedSimpArgs false

/-! ### impl_UnionRank: function 29 -/
mutual
def impl_UnionRank.j0 : Nat → Int → Bool → Int → List Int → Option (Int)
 | 0, _, _, _, _ => none
 | k + 1, x1, x20, x30002000, x30002001 => if x20 = true then (some (-1)) else (impl_UnionRank.l0 k x1 (([0] : List Int)) 0 x30002000 x30002001)
def impl_UnionRank.l0 : Nat → Int → List Int → Int → Int → List Int → Option (Int)
 | 0, _, _, _, _, _ => none
 | k + 1, x1, x5, x6, x30002000, x30002001 => if x6 < x1 then ((impl_IndependentSets.f k x30002000 x30002001).bind fun t30006 => ((impl_unions.f x30002000 x5 t30006).bind fun t30009 => (impl_UnionRank.l0 k x1 t30009 (wrap64 (x6 + 1)) x30002000 x30002001))) else (impl_UnionRank.l1 k 0 x5 (x5.length : Int) 0)
def impl_UnionRank.l1 : Nat → Int → List Int → Int → Int → Option (Int)
 | 0, _, _, _, _ => none
 | k + 1, x7, x33, x34, x35 => if x35 < x34 then (if 0 ≤ x35 then (if x35 < (x33.length : Int) then ((impl_CountOf.f (rd x33 x35)).bind fun t30013 => (impl_UnionRank.l1 k (mx x7 t30013) x33 x34 (wrap64 (x35 + 1)))) else (none)) else (none)) else (some x7)
end
def impl_UnionRank.f (k : Nat) (a0_0 : Int) (l0_1 : List Int) (a1 : Int) : Option (Int) := (impl_IsMatroid.f k a0_0 l0_1).bind fun t30002 => (if t30002 = true then (if a1 < 0 then (impl_UnionRank.j0 k a1 true a0_0 l0_1) else (impl_UnionRank.j0 k a1 (decide (a1 > 8)) a0_0 l0_1)) else (impl_UnionRank.j0 k a1 true a0_0 l0_1))
theorem impl_UnionRank.mono_l : ∀ k, (∀ y0 y1 y2 y3, LeO (impl_UnionRank.j0 k y0 y1 y2 y3) (impl_UnionRank.j0 (k + 1) y0 y1 y2 y3)) ∧ (∀ y0 y1 y2 y3 y4, LeO (impl_UnionRank.l0 k y0 y1 y2 y3 y4) (impl_UnionRank.l0 (k + 1) y0 y1 y2 y3 y4)) ∧ (∀ y0 y1 y2 y3, LeO (impl_UnionRank.l1 k y0 y1 y2 y3) (impl_UnionRank.l1 (k + 1) y0 y1 y2 y3))
 | 0 => ⟨fun _ _ _ _ r h => by simp [impl_UnionRank.j0] at h, fun _ _ _ _ _ r h => by simp [impl_UnionRank.l0] at h, fun _ _ _ _ r h => by simp [impl_UnionRank.l1] at h⟩
 | k + 1 => by
  obtain ⟨ih0, ih1, ih2⟩ := impl_UnionRank.mono_l k
  refine ⟨?_, ?_, ?_⟩
  ·intro y0 y1 y2 y3
   unfold impl_UnionRank.j0
   repeat' first
   | (with_reducible exact ih0 _ _ _ _)
   | (with_reducible exact ih1 _ _ _ _ _)
   | (with_reducible exact ih2 _ _ _ _)
   | (with_reducible exact impl_IndependentSets.mono _ _ _)
   | (with_reducible exact impl_IsMatroid.mono _ _ _)
   | (with_reducible exact LeO.refl _)
   | (with_reducible exact LeO.none _)
   | (with_reducible refine LeO.ite ?_ ?_)
   | (with_reducible refine LeO.bind ?_ (fun _ => ?_))
   | exact ih0 _ _ _ _
   | exact ih1 _ _ _ _ _
   | exact ih2 _ _ _ _
   | exact impl_IndependentSets.mono _ _ _
   | exact impl_IsMatroid.mono _ _ _
   | exact LeO.none _
   | refine LeO.ite ?_ ?_
   | refine LeO.bind ?_ (fun _ => ?_)
  ·intro y0 y1 y2 y3 y4
   unfold impl_UnionRank.l0
   repeat' first
   | (with_reducible exact ih0 _ _ _ _)
   | (with_reducible exact ih1 _ _ _ _ _)
   | (with_reducible exact ih2 _ _ _ _)
   | (with_reducible exact impl_IndependentSets.mono _ _ _)
   | (with_reducible exact impl_IsMatroid.mono _ _ _)
   | (with_reducible exact LeO.refl _)
   | (with_reducible exact LeO.none _)
   | (with_reducible refine LeO.ite ?_ ?_)
   | (with_reducible refine LeO.bind ?_ (fun _ => ?_))
   | exact ih0 _ _ _ _
   | exact ih1 _ _ _ _ _
   | exact ih2 _ _ _ _
   | exact impl_IndependentSets.mono _ _ _
   | exact impl_IsMatroid.mono _ _ _
   | exact LeO.none _
   | refine LeO.ite ?_ ?_
   | refine LeO.bind ?_ (fun _ => ?_)
  ·intro y0 y1 y2 y3
   unfold impl_UnionRank.l1
   repeat' first
   | (with_reducible exact ih0 _ _ _ _)
   | (with_reducible exact ih1 _ _ _ _ _)
   | (with_reducible exact ih2 _ _ _ _)
   | (with_reducible exact impl_IndependentSets.mono _ _ _)
   | (with_reducible exact impl_IsMatroid.mono _ _ _)
   | (with_reducible exact LeO.refl _)
   | (with_reducible exact LeO.none _)
   | (with_reducible refine LeO.ite ?_ ?_)
   | (with_reducible refine LeO.bind ?_ (fun _ => ?_))
   | exact ih0 _ _ _ _
   | exact ih1 _ _ _ _ _
   | exact ih2 _ _ _ _
   | exact impl_IndependentSets.mono _ _ _
   | exact impl_IsMatroid.mono _ _ _
   | exact LeO.none _
   | refine LeO.ite ?_ ?_
   | refine LeO.bind ?_ (fun _ => ?_)
theorem impl_UnionRank.mono : ∀ a0 a1 a2 k, LeO (impl_UnionRank.f k a0 a1 a2) (impl_UnionRank.f (k + 1) a0 a1 a2) := by
 intro a0 a1 a2 k
 obtain ⟨ih0, ih1, ih2⟩ := impl_UnionRank.mono_l k
 unfold impl_UnionRank.f
 repeat' first
   | (with_reducible exact ih0 _ _ _ _)
   | (with_reducible exact ih1 _ _ _ _ _)
   | (with_reducible exact ih2 _ _ _ _)
   | (with_reducible exact impl_IndependentSets.mono _ _ _)
   | (with_reducible exact impl_IsMatroid.mono _ _ _)
   | (with_reducible exact LeO.refl _)
   | (with_reducible exact LeO.none _)
   | (with_reducible refine LeO.ite ?_ ?_)
   | (with_reducible refine LeO.bind ?_ (fun _ => ?_))
   | exact ih0 _ _ _ _
   | exact ih1 _ _ _ _ _
   | exact ih2 _ _ _ _
   | exact impl_IndependentSets.mono _ _ _
   | exact impl_IsMatroid.mono _ _ _
   | exact LeO.none _
   | refine LeO.ite ?_ ?_
   | refine LeO.bind ?_ (fun _ => ?_)
set_option maxHeartbeats 8000000 in
set_option maxRecDepth 100000 in
theorem impl_UnionRank.calls (k : Nat) (a0_0 : Int) (A0_1 : Option Addr) (c0_1 : Nat) (l0_1 : List Int) (a1 : Int) (r : Int) (w : World) (hr0_1 : Kd.C (Kd.int .i64) w A0_1 l0_1.length l0_1) (hc0_1 : l0_1.length ≤ c0_1) (h : impl_UnionRank.f k a0_0 l0_1 a1 = some r) :
  Calls Try.prog 29 #[.agg #[.int .i64 a0_0, .slice A0_1 l0_1.length c0_1], .int .i64 a1] w fun e w' => e = .returned (.int .i64 r) ∧ Below w.heap.size w w' := by
 have hu26 := Try.underlying26
 have HR0_1 := aQ hr0_1
 have HC0_1 := aQ hc0_1
 clear hr0_1 hc0_1
 have HB := aQ (Below.refl w.heap.size w)
 have H : ((impl_IsMatroid.f k a0_0 l0_1).bind fun t30002 => (if t30002 = true then (if a1 < 0 then (impl_UnionRank.j0 k a1 true a0_0 l0_1) else (impl_UnionRank.j0 k a1 (decide (a1 > 8)) a0_0 l0_1)) else (impl_UnionRank.j0 k a1 true a0_0 l0_1))) = some r := h
 clear h
 have HC3 := aQ H
 clear H
 go_enter Try.func29, Try.ntmps29
 go_upto_region 1 with (first | ((with_reducible refine gate_dst (N := 2) rfl ?_); refine box_event ?hg (N := 2) ?hd (cs := #[.int .i64 a0_0, .slice A0_1 l0_1.length c0_1]) (t := 26) ?hr ?_; (case hd => rfl); (case hg => rfl); (case hr => first | (go_simp; done) | (go_simp; rfl)); intro gb30001 hg w4 hbox hb; have BK30001 := aQ (hbox); have GW30001 := aQ ((by rw [hg]; exact (below_size (by repeat (first | (with_reducible first | exact HB.out | apply below_alloc | apply pw_below_drewN | apply below_drew1) | exact HB.out))) : w.heap.size ≤ gb30001)); have GE30001 := aQ ((by rw [hg]; exact (below_size (by repeat (first | (with_reducible first | exact HB.out | apply below_alloc | apply pw_below_drewN | apply below_drew1) | exact HB.out))) : w.heap.size ≤ gb30001)); replace HB := aQ (below_step (by repeat (first | (with_reducible first | exact HB.out | apply below_alloc | apply pw_below_drewN | apply below_drew1) | exact HB.out)) hb); clear hb hbox hg))
 (try simp only [Act.put, List.setIfInBounds_toArray, List.set_cons_zero, List.set_cons_succ])
 go_cut [20] (fun v20 wc => ∃ (kq : Nat) (x20_2 : Bool), v20 = .bool x20_2 ∧ Aside0 (impl_UnionRank.j0 kq a1 x20_2 a0_0 l0_1 = some r) ∧ Aside0 (kq ≤ k) ∧ Aside0 (wc.heap[gb30001]? = some (.cells #[.int .i64 a0_0, (.slice A0_1 l0_1.length c0_1)] 26 (0, 0))) ∧ Aside0 (Below w.heap.size w wc))
 case first =>
  have H := HC3.out
  clear HC3
  replace H := Option.bind_eq_some_iff.mp H
  obtain ⟨t30002, A50, H⟩ := H
  replace H : (if t30002 = true then (if a1 < 0 then (impl_UnionRank.j0 k a1 true a0_0 l0_1) else (impl_UnionRank.j0 k a1 (decide (a1 > 8)) a0_0 l0_1)) else (impl_UnionRank.j0 k a1 true a0_0 l0_1)) = some r := H
  have A5 := aQ A50
  clear A50
  by_cases c6 : t30002 = true
  ·subst c6
   have H1 : (if a1 < 0 then (impl_UnionRank.j0 k a1 true a0_0 l0_1) else (impl_UnionRank.j0 k a1 (decide (a1 > 8)) a0_0 l0_1)) = some r := by rw [if_pos rfl] at H; exact H
   clear H
   have H := H1
   clear H1
   by_cases c7 : a1 < 0
   ·rw [if_pos c7] at H
    have c7b0 : decide (a1 < 0) = true := decide_eq_true c7
    clear c7
    (first | rw [c7b0] | (simp only [i64_w, i32_w]; rw [c7b0]) | skip)
    have H' := aQ H
    clear H
    have hcz8_0 : w4.cell? ⟨gb30001, 0, none⟩ = some (.int .i64 a0_0) := (blk_cell BK30001.out 0).trans rfl
    have hcz8_1 : w4.cell? ⟨gb30001, 1, none⟩ = some (.slice A0_1 l0_1.length c0_1) := (blk_cell BK30001.out 1).trans rfl
    have hfz8_0 := blk_frozen BK30001.out 0
    have hfz8_1 := blk_frozen BK30001.out 1
    go_wp2_with (first | ((with_reducible refine gate_callee (f := 60) rfl ?_); refine goesL_ (some 11) rfl rfl Try.func60 (by kernel_rfl) rfl #[.agg #[.int .i64 a0_0, .slice A0_1 l0_1.length c0_1]] rfl (by (try simp only [List.map_toArray, List.map_cons, List.map_nil]); first | done | rfl | (simp only [List.length_drop, List.length_take]; rfl)) ?_; (with_reducible refine (impl_IsMatroid.calls k a0_0 _ _ l0_1 true _ ?side1 ?side2 A5.out).mono ?_); (case side1 => repeat (first | exact (Kd.C_below HR0_1.out HB.out) | (with_reducible refine Kd.C_alloc ?_ _) | (with_reducible refine Kd.C_drewN ?_ _) | (with_reducible refine Kd.C_drew ?_))); (case side2 => exact HC0_1.out); rintro e w9 ⟨rfl, hb⟩; refine ⟨_, rfl, ?_⟩; replace BK30001 := aQ (blk_below (g := gb30001) (o := .cells #[.int .i64 a0_0, .slice A0_1 l0_1.length c0_1] 26 (0, 0)) (by (with_reducible repeat (first | refine blk_drewN ?_ _ | refine blk_drew ?_ | refine blk_alloc ?_ _)); exact BK30001.out) hb); replace HB := aQ (below_step (by repeat (first | (with_reducible first | exact HB.out | apply below_alloc | apply pw_below_drewN | apply below_drew1 | refine below_set ?_ GE30001.out) | exact HB.out)) hb); (try clear hb); (try clear hb2); (try clear hk); (try clear hi)))
    go_meet
    case rel => exact ⟨_, (true), (by first | rfl | (simp; done) | (simp [*]; done)), H', ⟨by first | omega | exact Nat.le_refl _⟩, ⟨by (with_reducible repeat (first | refine blk_drewN ?_ _ | refine blk_drew ?_ | refine blk_alloc ?_ _)); exact BK30001.out⟩, ⟨by repeat (first | (with_reducible first | exact HB.out | apply below_alloc | apply pw_below_drewN | apply below_drew1 | refine below_set ?_ GE30001.out) | exact HB.out)⟩⟩
   ·rw [if_neg c7] at H
    have c7b0 : decide (a1 < 0) = false := decide_eq_false c7
    clear c7
    (first | rw [c7b0] | (simp only [i64_w, i32_w]; rw [c7b0]) | skip)
    have H' := aQ H
    clear H
    have hcz10_0 : w4.cell? ⟨gb30001, 0, none⟩ = some (.int .i64 a0_0) := (blk_cell BK30001.out 0).trans rfl
    have hcz10_1 : w4.cell? ⟨gb30001, 1, none⟩ = some (.slice A0_1 l0_1.length c0_1) := (blk_cell BK30001.out 1).trans rfl
    have hfz10_0 := blk_frozen BK30001.out 0
    have hfz10_1 := blk_frozen BK30001.out 1
    go_wp2_with (first | ((with_reducible refine gate_callee (f := 60) rfl ?_); refine goesL_ (some 11) rfl rfl Try.func60 (by kernel_rfl) rfl #[.agg #[.int .i64 a0_0, .slice A0_1 l0_1.length c0_1]] rfl (by (try simp only [List.map_toArray, List.map_cons, List.map_nil]); first | done | rfl | (simp only [List.length_drop, List.length_take]; rfl)) ?_; (with_reducible refine (impl_IsMatroid.calls k a0_0 _ _ l0_1 true _ ?side1 ?side2 A5.out).mono ?_); (case side1 => repeat (first | exact (Kd.C_below HR0_1.out HB.out) | (with_reducible refine Kd.C_alloc ?_ _) | (with_reducible refine Kd.C_drewN ?_ _) | (with_reducible refine Kd.C_drew ?_))); (case side2 => exact HC0_1.out); rintro e w11 ⟨rfl, hb⟩; refine ⟨_, rfl, ?_⟩; replace BK30001 := aQ (blk_below (g := gb30001) (o := .cells #[.int .i64 a0_0, .slice A0_1 l0_1.length c0_1] 26 (0, 0)) (by (with_reducible repeat (first | refine blk_drewN ?_ _ | refine blk_drew ?_ | refine blk_alloc ?_ _)); exact BK30001.out) hb); replace HB := aQ (below_step (by repeat (first | (with_reducible first | exact HB.out | apply below_alloc | apply pw_below_drewN | apply below_drew1 | refine below_set ?_ GE30001.out) | exact HB.out)) hb); (try clear hb); (try clear hb2); (try clear hk); (try clear hi)))
    go_meet
    case rel => exact ⟨_, (decide (a1 > 8)), (by first | rfl | (simp; done) | (simp [*]; done)), H', ⟨by first | omega | exact Nat.le_refl _⟩, ⟨by (with_reducible repeat (first | refine blk_drewN ?_ _ | refine blk_drew ?_ | refine blk_alloc ?_ _)); exact BK30001.out⟩, ⟨by repeat (first | (with_reducible first | exact HB.out | apply below_alloc | apply pw_below_drewN | apply below_drew1 | refine below_set ?_ GE30001.out) | exact HB.out)⟩⟩
  ·replace c6 := Bool.eq_false_iff.mpr c6
   subst c6
   have H1 : (impl_UnionRank.j0 k a1 true a0_0 l0_1) = some r := by rw [if_neg (show ¬ (false = true) by decide)] at H; exact H
   clear H
   have H := H1
   clear H1
   have H' := aQ H
   clear H
   have hcz12_0 : w4.cell? ⟨gb30001, 0, none⟩ = some (.int .i64 a0_0) := (blk_cell BK30001.out 0).trans rfl
   have hcz12_1 : w4.cell? ⟨gb30001, 1, none⟩ = some (.slice A0_1 l0_1.length c0_1) := (blk_cell BK30001.out 1).trans rfl
   have hfz12_0 := blk_frozen BK30001.out 0
   have hfz12_1 := blk_frozen BK30001.out 1
   go_wp2_with (first | ((with_reducible refine gate_callee (f := 60) rfl ?_); refine goesL_ (some 11) rfl rfl Try.func60 (by kernel_rfl) rfl #[.agg #[.int .i64 a0_0, .slice A0_1 l0_1.length c0_1]] rfl (by (try simp only [List.map_toArray, List.map_cons, List.map_nil]); first | done | rfl | (simp only [List.length_drop, List.length_take]; rfl)) ?_; (with_reducible refine (impl_IsMatroid.calls k a0_0 _ _ l0_1 false _ ?side1 ?side2 A5.out).mono ?_); (case side1 => repeat (first | exact (Kd.C_below HR0_1.out HB.out) | (with_reducible refine Kd.C_alloc ?_ _) | (with_reducible refine Kd.C_drewN ?_ _) | (with_reducible refine Kd.C_drew ?_))); (case side2 => exact HC0_1.out); rintro e w13 ⟨rfl, hb⟩; refine ⟨_, rfl, ?_⟩; replace BK30001 := aQ (blk_below (g := gb30001) (o := .cells #[.int .i64 a0_0, .slice A0_1 l0_1.length c0_1] 26 (0, 0)) (by (with_reducible repeat (first | refine blk_drewN ?_ _ | refine blk_drew ?_ | refine blk_alloc ?_ _)); exact BK30001.out) hb); replace HB := aQ (below_step (by repeat (first | (with_reducible first | exact HB.out | apply below_alloc | apply pw_below_drewN | apply below_drew1 | refine below_set ?_ GE30001.out) | exact HB.out)) hb); (try clear hb); (try clear hb2); (try clear hk); (try clear hi)))
   go_meet
   case rel => exact ⟨_, (true), (by first | rfl | (simp; done) | (simp [*]; done)), H', ⟨by first | omega | exact Nat.le_refl _⟩, ⟨by (with_reducible repeat (first | refine blk_drewN ?_ _ | refine blk_drew ?_ | refine blk_alloc ?_ _)); exact BK30001.out⟩, ⟨by repeat (first | (with_reducible first | exact HB.out | apply below_alloc | apply pw_below_drewN | apply below_drew1 | refine below_set ?_ GE30001.out) | exact HB.out)⟩⟩
 case rest =>
  clear HC3
  try clear c2
  try clear p2
  try clear c6
  try clear c7
  try clear c7b0
  try clear hcz10_0
  try clear hcz10_1
  try clear hcz12_0
  try clear hcz12_1
  try clear hcz8_0
  try clear hcz8_1
  try clear hfz10_0
  try clear hfz10_1
  try clear hfz12_0
  try clear hfz12_1
  try clear hfz8_0
  try clear hfz8_1
  obtain ⟨kq, x20_2, rfl, HA, HJ2, BK30001, HB⟩ := hcut
  cases kq with
  | zero => exact absurd HA.out (by simp [impl_UnionRank.j0])
  | succ kj2 =>
   have H := HA.out
   clear HA
   simp only [impl_UnionRank.j0] at H
   by_cases c14 : x20_2 = true
   ·subst c14
    have H1 : (some (-1)) = some r := by rw [if_pos rfl] at H; exact H
    clear H
    have H := H1
    clear H1
    obtain rfl := Option.some.inj H
    go_wp2
    go_ret
    exact ⟨by first | rfl | (simp [errW_none, errW_some] <;> rfl) | (simp [*, errW_none, errW_some] <;> rfl), by repeat (first | (with_reducible first | exact HB.out | apply below_alloc | apply pw_below_drewN | apply below_drew1 | refine below_set ?_ GE30001.out) | exact HB.out)⟩
   ·replace c14 := Bool.eq_false_iff.mpr c14
    subst c14
    have H1 : (impl_UnionRank.l0 kj2 a1 (([0] : List Int)) 0 a0_0 l0_1) = some r := by rw [if_neg (show ¬ (false = true) by decide)] at H; exact H
    clear H
    have H := H1
    clear H1
    obtain ⟨y30003, hy30003⟩ : ∃ y_ : List Int, y_ = (([0] : List Int)) := ⟨_, rfl⟩
    replace H : (impl_UnionRank.l0 kj2 a1 y30003 0 a0_0 l0_1) = some r := by first | (rw [hy30003]; with_reducible exact H) | (have H2_ := (Option.bind_some _ _).symm.trans H; rw [hy30003]; with_reducible exact H2_) | (have H2_ := (Option.bind_some _ _).symm.trans H; with_reducible exact H2_) | with_reducible exact H | (rw [hy30003]; exact H) | exact H
    have Ny30003 := aQ hy30003
    clear hy30003
    have H' := aQ H
    clear H
    go_wp2_with (first | ((with_reducible refine gate_dst (N := 21) rfl ?_); refine Kd.R_lit (Kd.int .i64) _ 3 ?hg (N := 21) ?hd (xs := ([0] : List Int)) (inner := [.int .i64 0]) (ok := fun _ => True) (okp := fun _ => True) ?hr ?hp (fun _ hk => hk) trivial (Below.refl _ _) (Nat.le_refl _) (by simp) ?_; (case hd => rfl); (case hg => rfl); (case hr => first | (go_simp; done) | (go_simp; rfl)); (case hp => exact (Reps.one (show Kd.M (Kd.int .i64) _ _ _ 0 [.int .i64 0] from rfl) (Reps.none _ _))); intro v30004 w15 ho16 hb hg_ hnew_; clear hg_ hnew_; (first | rw [← Ny30003.out] at ho16 | (simp only [Int.reduceToNat] at ho16; rw [← Ny30003.out] at ho16)); have HO30005 := aQ (Kd.R_lower ho16 (below_size (by repeat (first | (with_reducible first | exact HB.out | apply below_alloc | apply pw_below_drewN | apply below_drew1 | refine below_set ?_ GE30001.out) | exact HB.out)))); replace BK30001 := aQ (blk_below (g := gb30001) (o := .cells #[.int .i64 a0_0, .slice A0_1 l0_1.length c0_1] 26 (0, 0)) (by (with_reducible repeat (first | refine blk_drewN ?_ _ | refine blk_drew ?_ | refine blk_alloc ?_ _)); exact BK30001.out) hb); replace HB := aQ (below_step (by repeat (first | (with_reducible first | exact HB.out | apply below_alloc | apply pw_below_drewN | apply below_drew1 | refine below_set ?_ GE30001.out) | exact HB.out)) hb); clear hb ho16))
    go_loopg [5, 6] kj2 (fun kq v5 v6 w' => ∃ (x5_2 : List Int) (x6_2 : Int), v6 = .int .i64 x6_2 ∧ Aside0 (impl_UnionRank.l0 kq a1 x5_2 x6_2 a0_0 l0_1 = some r) ∧ Aside0 (kq ≤ kj2) ∧ Aside0 (Kd.R (Kd.int .i64) 3 w' w.heap.size (fun _ => True) v5 x5_2) ∧ Aside0 (w'.heap[gb30001]? = some (.cells #[.int .i64 a0_0, (.slice A0_1 l0_1.length c0_1)] 26 (0, 0))) ∧ Aside0 (Below w.heap.size w w'))
    case atStart => exact ⟨(y30003), (0), (by first | rfl | (simp; done) | (simp [*]; done)), H', ⟨Nat.le_refl _⟩, ⟨by (with_reducible repeat (first | apply Kd.R_alloc | apply Kd.R_drewN | apply Kd.R_drew)); exact HO30005.out⟩, ⟨by (with_reducible repeat (first | refine blk_drewN ?_ _ | refine blk_drew ?_ | refine blk_alloc ?_ _)); exact BK30001.out⟩, ⟨by repeat (first | (with_reducible first | exact HB.out | apply below_alloc | apply pw_below_drewN | apply below_drew1 | refine below_set ?_ GE30001.out) | exact HB.out)⟩⟩
    case round =>
     clear H'
     try clear c1
     try clear c2
     try clear p2
     try clear c6
     try clear c7
     try clear c7b0
     try clear c14
     try clear hcz10_0
     try clear hcz10_1
     try clear hcz12_0
     try clear hcz12_1
     try clear hcz8_0
     try clear hcz8_1
     try clear hfz10_0
     try clear hfz10_1
     try clear hfz12_0
     try clear hfz12_1
     try clear hfz8_0
     try clear hfz8_1
     try clear p2
     obtain ⟨x5_2, x6_2, rfl, HA, HK2, HO_5, BK30001, HB⟩ := hrel
     cases gk with
     | zero => exact absurd HA.out (by simp [impl_UnionRank.l0])
     | succ k2 =>
      have H := HA.out
      clear HA
      simp only [impl_UnionRank.l0] at H
      by_cases c17 : x6_2 < a1
      ·rw [if_pos c17] at H
       have c17b0 : decide (x6_2 < a1) = true := decide_eq_true c17
       clear c17
       replace H := Option.bind_eq_some_iff.mp H
       obtain ⟨t30006, A180, H⟩ := H
       replace H : ((impl_unions.f a0_0 x5_2 t30006).bind fun t30009 => (impl_UnionRank.l0 k2 a1 t30009 (wrap64 (x6_2 + 1)) a0_0 l0_1)) = some r := H
       have A18 := aQ A180
       clear A180
       replace H := Option.bind_eq_some_iff.mp H
       obtain ⟨t30009, A190, H⟩ := H
       replace H : (impl_UnionRank.l0 k2 a1 t30009 (wrap64 (x6_2 + 1)) a0_0 l0_1) = some r := H
       have A19 := aQ A190
       clear A190
       have H' := aQ H
       clear H
       try go_wp2
       have n0_ := aQ (Kd.R_drew HO_5.out)
       have n1_ := aQ (blk_drew BK30001.out)
       have n2_ := aQ (below_drew1 HB.out)
       clear HO_5
       clear BK30001
       clear HB
       have HO_5 := n0_
       have BK30001 := n1_
       have HB := n2_
       clear n0_ n1_ n2_
       refine start_ (n := 7) (S := fun w' => w'.cell? ⟨gb30001, 0, none⟩ = some (.int .i64 a0_0) ∧ w'.cell? ⟨gb30001, 1, none⟩ = some (.slice A0_1 l0_1.length c0_1)) (ds := []) #[false, false, false, false, false, false, false] (by kernel_rfl) rfl rfl ⟨(blk_cell BK30001.out 0).trans rfl, (blk_cell BK30001.out 1).trans rfl⟩ (fun hHeld => ?_)
       generalize wr.drew = w20 at HO_5 BK30001 HB hHeld ⊢
       refine pure_ (i := 0) (N := some 27) (v := ?_) (a' := ?_) #[true, false, false, false, false, false, false] rfl rfl (by kernel_rfl) (fun _ _ _ h => h) (Or.inl ⟨by rfl, ?_⟩) ?_ ?_
       rotate_left
       ·intro w'
        go_simp
        with_reducible rfl
       rotate_left
       ·simp only [Act.put, List.setIfInBounds_toArray, List.set_cons_zero, List.set_cons_succ, i64_w, i32_w]
        rfl
       refine pure_ (i := 2) (N := some 29) (v := ?_) (a' := ?_) #[true, false, true, false, false, false, false] rfl rfl (by kernel_rfl) (fun _ _ _ h => h) (Or.inl ⟨by rfl, ?_⟩) ?_ ?_
       rotate_left
       ·intro w'
        go_simp
        with_reducible rfl
       rotate_left
       ·simp only [Act.put, List.setIfInBounds_toArray, List.set_cons_zero, List.set_cons_succ, i64_w, i32_w]
        rfl
       refine take_ (i := 1) (N := some 28) (v := ?_) (a' := ?_) #[true, true, true, false, false, false, false] rfl rfl (by kernel_rfl) (fun _ _ _ h => h) (Or.inl ⟨by rfl, ?_⟩) hHeld ?_ ?_
       rotate_left
       ·rintro w' ⟨s0, s1⟩
        go_simp
        with_reducible rfl
       rotate_left
       ·simp only [Act.put, List.setIfInBounds_toArray, List.set_cons_zero, List.set_cons_succ, i64_w, i32_w]
        rfl
       refine take_ (i := 3) (N := some 30) (v := ?_) (a' := ?_) #[true, true, true, true, false, false, false] rfl rfl (by kernel_rfl) (fun _ _ _ h => h) (Or.inl ⟨by rfl, ?_⟩) hHeld ?_ ?_
       rotate_left
       ·rintro w' ⟨s0, s1⟩
        go_simp
        with_reducible rfl
       rotate_left
       ·simp only [Act.put, List.setIfInBounds_toArray, List.set_cons_zero, List.set_cons_succ, i64_w, i32_w]
        rfl
       refine one_ (i := 4) (N := some 31) #[true, true, true, true, true, false, false] rfl rfl (by kernel_rfl) (by decide) (fun K hK => ?_)
       refine goes_ Try.func77 (by kernel_rfl) rfl #[.agg #[.int .i64 a0_0, .slice A0_1 l0_1.length c0_1]] (by rfl) rfl rfl (by (try simp only [List.map_toArray, List.map_cons, List.map_nil]); first | done | rfl | (simp only [List.length_drop, List.length_take]; rfl)) ?_
       with_reducible refine (impl_IndependentSets.calls k2 a0_0 _ _ l0_1 t30006 _ ?side1 ?side2 A18.out).mono ?_
       (case side1 => repeat (first | exact (Kd.C_below HR0_1.out HB.out) | (with_reducible refine Kd.C_alloc ?_ _) | (with_reducible refine Kd.C_drewN ?_ _) | (with_reducible refine Kd.C_drew ?_)))
       (case side2 => exact HC0_1.out)
       rintro e w21 ⟨v30007, rfl, ho0, hb⟩
       refine ⟨_, rfl, ?_⟩
       have n0_ := aQ (Kd.R_elder' (by (with_reducible repeat (first | apply Kd.R_alloc | apply Kd.R_drewN | apply Kd.R_drew)); exact HO_5.out) (Kd.R_base ho0) hb)
       have n1_ := aQ (Kd.R_lower (Kd.R_new' ho0 (Kd.R_lt (by (with_reducible repeat (first | apply Kd.R_alloc | apply Kd.R_drewN | apply Kd.R_drew)); exact HO_5.out))) (below_size (by repeat (first | (with_reducible first | exact HB.out | apply below_alloc | apply pw_below_drewN | apply below_drew1 | refine below_set ?_ GE30001.out) | exact HB.out))))
       have n2_ := aQ (blk_below (g := gb30001) (o := .cells #[.int .i64 a0_0, .slice A0_1 l0_1.length c0_1] 26 (0, 0)) (by (with_reducible repeat (first | refine blk_drewN ?_ _ | refine blk_drew ?_ | refine blk_alloc ?_ _)); exact BK30001.out) hb)
       have n3_ := aQ (below_step (by repeat (first | (with_reducible first | exact HB.out | apply below_alloc | apply pw_below_drewN | apply below_drew1 | refine below_set ?_ GE30001.out) | exact HB.out)) hb)
       clear HO_5
       clear BK30001
       clear HB
       have HO_5 := n0_
       have HO30008 := n1_
       have BK30001 := n2_
       have HB := n3_
       clear n0_ n1_ n2_ n3_
       (try clear hb)
       (try clear hb2)
       (try clear hk)
       (try clear hi)
       (try clear ho0)
       obtain ⟨Ao22, co22, eo22⟩ := Kd.R_slice HO_5.out
       (first | subst eo22 | (injection eo22 with f1_ f2_ f3_; have f4_ := f1_.symm; have f5_ := f3_.symm; clear f1_ f2_ f3_; subst f4_; subst f5_))
       obtain ⟨Ao23, co23, eo23⟩ := Kd.R_slice HO30008.out
       (first | subst eo23 | (injection eo23 with f1_ f2_ f3_; have f4_ := f1_.symm; have f5_ := f3_.symm; clear f1_ f2_ f3_; subst f4_; subst f5_))
       refine hK.out _ _ ⟨(blk_cell BK30001.out 0).trans rfl, (blk_cell BK30001.out 1).trans rfl⟩ (fun hHeld => ?_)
       clear hK K
       refine norm_ (a' := ?_) ?_ ?_
       rotate_left
       ·show Act.put _ (some 31) _ = _
        simp only [Act.put, List.setIfInBounds_toArray, List.set_cons_zero, List.set_cons_succ, i64_w, i32_w]
        rfl
       refine one_ (i := 5) (N := some 32) #[true, true, true, true, true, true, false] rfl rfl (by kernel_rfl) (by decide) (fun K hK => ?_)
       refine goes_ Try.func76 (by kernel_rfl) rfl #[.int .i64 a0_0, .slice Ao22 x5_2.length co22, .slice Ao23 t30006.length co23] (by rfl) rfl rfl (by (try simp only [List.map_toArray, List.map_cons, List.map_nil]); first | done | rfl | (simp only [List.length_drop, List.length_take]; rfl)) ?_
       with_reducible refine (impl_unions.calls a0_0 _ _ x5_2 _ _ t30006 t30009 _ ?side1 ?side2 ?side3 ?side4 A19.out).mono ?_
       (case side1 => repeat (first | exact (Kd.R_reads' HO_5.out).2.2 | (with_reducible refine Kd.C_alloc ?_ _) | (with_reducible refine Kd.C_drewN ?_ _) | (with_reducible refine Kd.C_drew ?_)))
       (case side2 => exact (Kd.R_reads' HO_5.out).2.1)
       (case side3 => repeat (first | exact (Kd.R_reads' HO30008.out).2.2 | (with_reducible refine Kd.C_alloc ?_ _) | (with_reducible refine Kd.C_drewN ?_ _) | (with_reducible refine Kd.C_drew ?_)))
       (case side4 => exact (Kd.R_reads' HO30008.out).2.1)
       rintro e w24 ⟨v30010, rfl, ho0, hb⟩
       refine ⟨_, rfl, ?_⟩
       have n0_ := aQ (Kd.R_elder' (by (with_reducible repeat (first | apply Kd.R_alloc | apply Kd.R_drewN | apply Kd.R_drew)); exact HO_5.out) (Kd.R_base ho0) hb)
       have n1_ := aQ (Kd.R_elder' (by (with_reducible repeat (first | apply Kd.R_alloc | apply Kd.R_drewN | apply Kd.R_drew)); exact HO30008.out) (Kd.R_base ho0) hb)
       have n2_ := aQ (Kd.R_lower (Kd.R_new' (Kd.R_new' ho0 (Kd.R_lt (by (with_reducible repeat (first | apply Kd.R_alloc | apply Kd.R_drewN | apply Kd.R_drew)); exact HO_5.out))) (Kd.R_lt (by (with_reducible repeat (first | apply Kd.R_alloc | apply Kd.R_drewN | apply Kd.R_drew)); exact HO30008.out))) (below_size (by repeat (first | (with_reducible first | exact HB.out | apply below_alloc | apply pw_below_drewN | apply below_drew1 | refine below_set ?_ GE30001.out) | exact HB.out))))
       have n3_ := aQ (blk_below (g := gb30001) (o := .cells #[.int .i64 a0_0, .slice A0_1 l0_1.length c0_1] 26 (0, 0)) (by (with_reducible repeat (first | refine blk_drewN ?_ _ | refine blk_drew ?_ | refine blk_alloc ?_ _)); exact BK30001.out) hb)
       have n4_ := aQ (below_step (by repeat (first | (with_reducible first | exact HB.out | apply below_alloc | apply pw_below_drewN | apply below_drew1 | refine below_set ?_ GE30001.out) | exact HB.out)) hb)
       clear HO_5
       clear HO30008
       clear BK30001
       clear HB
       have HO_5 := n0_
       have HO30008 := n1_
       have HO30011 := n2_
       have BK30001 := n3_
       have HB := n4_
       clear n0_ n1_ n2_ n3_ n4_
       (try clear hb)
       (try clear hb2)
       (try clear hk)
       (try clear hi)
       (try clear ho0)
       refine hK.out _ _ ⟨(blk_cell BK30001.out 0).trans rfl, (blk_cell BK30001.out 1).trans rfl⟩ (fun hHeld => ?_)
       clear hK K
       refine norm_ (a' := ?_) ?_ ?_
       rotate_left
       ·show Act.put _ (some 32) _ = _
        simp only [Act.put, List.setIfInBounds_toArray, List.set_cons_zero, List.set_cons_succ, i64_w, i32_w]
        rfl
       refine pure_ (i := 6) (N := some 5) (v := ?_) (a' := ?_) #[true, true, true, true, true, true, true] rfl rfl (by kernel_rfl) (fun _ _ _ h => h) (Or.inl ⟨by rfl, ?_⟩) ?_ ?_
       rotate_left
       ·intro w'
        go_simp
        with_reducible rfl
       rotate_left
       ·simp only [Act.put, List.setIfInBounds_toArray, List.set_cons_zero, List.set_cons_succ, i64_w, i32_w]
        rfl
       refine done_ (by kernel_rfl) ?_
       try go_wp2
       go_roundg k2
       case measure => have := HJ2.out; have := HK2.out; omega
       case rel => exact ⟨(t30009), (wrap64 (x6_2 + 1)), (by first | rfl | (simp; done) | (simp [*]; done)), H', ⟨by have := HJ2.out; have := HK2.out; omega⟩, ⟨by (with_reducible repeat (first | apply Kd.R_alloc | apply Kd.R_drewN | apply Kd.R_drew)); exact Kd.R_mono HO30011.out (fun _ hk => trivial)⟩, ⟨by (with_reducible repeat (first | refine blk_drewN ?_ _ | refine blk_drew ?_ | refine blk_alloc ?_ _)); exact BK30001.out⟩, ⟨by repeat (first | (with_reducible first | exact HB.out | apply below_alloc | apply pw_below_drewN | apply below_drew1 | refine below_set ?_ GE30001.out) | exact HB.out)⟩⟩
      ·rw [if_neg c17] at H
       have c17b0 : decide (x6_2 < a1) = false := decide_eq_false c17
       clear c17
       have H' := aQ H
       clear H
       obtain ⟨Ao25, co25, eo25⟩ := Kd.R_slice HO_5.out
       subst eo25
       go_wp2
       go_loopg [7, 35] k2 (fun kq v7 v35 w' => ∃ (x7_3 : Int) (x35_3 : Int), v7 = .int .i64 x7_3 ∧ v35 = .int .i64 x35_3 ∧ Aside0 (impl_UnionRank.l1 kq x7_3 x5_2 (x5_2.length : Int) x35_3 = some r) ∧ Aside0 (kq ≤ k2) ∧ Aside0 (Kd.R (Kd.int .i64) 3 w' w.heap.size (fun _ => True) (.slice Ao25 x5_2.length co25) x5_2) ∧ Aside0 (w'.heap[gb30001]? = some (.cells #[.int .i64 a0_0, (.slice A0_1 l0_1.length c0_1)] 26 (0, 0))) ∧ Aside0 (Below w.heap.size w w'))
       case atStart => exact ⟨(0), (0), (by first | rfl | (simp; done) | (simp [*]; done)), (by first | rfl | (simp; done) | (simp [*]; done)), H', ⟨Nat.le_refl _⟩, ⟨by (with_reducible repeat (first | apply Kd.R_alloc | apply Kd.R_drewN | apply Kd.R_drew)); exact HO_5.out⟩, ⟨by (with_reducible repeat (first | refine blk_drewN ?_ _ | refine blk_drew ?_ | refine blk_alloc ?_ _)); exact BK30001.out⟩, ⟨by repeat (first | (with_reducible first | exact HB.out | apply below_alloc | apply pw_below_drewN | apply below_drew1 | refine below_set ?_ GE30001.out) | exact HB.out)⟩⟩
       case round =>
        clear H'
        try clear c1
        try clear c2
        try clear p2
        try clear c6
        try clear p6
        try clear c7
        try clear c7b0
        try clear c14
        try clear c17
        try clear c17b0
        try clear hcz10_0
        try clear hcz10_1
        try clear hcz12_0
        try clear hcz12_1
        try clear hcz8_0
        try clear hcz8_1
        try clear hfz10_0
        try clear hfz10_1
        try clear hfz12_0
        try clear hfz12_1
        try clear hfz8_0
        try clear hfz8_1
        try clear p2
        obtain ⟨x7_3, x35_3, rfl, rfl, HA, HK3, HO_33, BK30001, HB⟩ := hrel
        cases gk with
        | zero => exact absurd HA.out (by simp [impl_UnionRank.l1])
        | succ k3 =>
         have H := HA.out
         clear HA
         simp only [impl_UnionRank.l1] at H
         by_cases c26 : x35_3 < (x5_2.length : Int)
         ·rw [if_pos c26] at H
          have c26b0 : decide (x35_3 < (x5_2.length : Int)) = true := decide_eq_true c26
          clear c26
          by_cases c27 : 0 ≤ x35_3
          ·rw [if_pos c27] at H
           have c27b0 : decide (0 ≤ x35_3) = true := decide_eq_true c27
           clear c27
           by_cases c28 : x35_3 < (x5_2.length : Int)
           ·rw [if_pos c28] at H
            have c28b0 : decide (x35_3 < (x5_2.length : Int)) = true := decide_eq_true c28
            clear c28
            replace H := Option.bind_eq_some_iff.mp H
            obtain ⟨t30013, A290, H⟩ := H
            replace H : (impl_UnionRank.l1 k3 (mx x7_3 t30013) x5_2 (x5_2.length : Int) (wrap64 (x35_3 + 1))) = some r := H
            have A29 := aQ A290
            clear A290
            obtain ⟨ji30, hji30⟩ : ∃ j_ : Int, (mx x7_3 t30013) = j_ := ⟨_, rfl⟩
            replace H : (impl_UnionRank.l1 k3 ji30 x5_2 (x5_2.length : Int) (wrap64 (x35_3 + 1))) = some r := by first | (rw [hji30] at H; exact H) | (simp only [hji30] at H ⊢; exact H)
            (try rw [hji30] at A29)
            have hji30_ : (if x7_3 < t30013 then t30013 else x7_3) = ji30 := hji30
            have H' := aQ H
            clear H
            have p30012 : 0 ≤ (x35_3 : Int) := of_decide_eq_true (by first | (with_reducible assumption) | assumption)
            have q30012 : x35_3 < (x5_2.length : Int) := of_decide_eq_true (by first | (with_reducible assumption) | assumption)
            obtain ⟨ad30012, e30012, hx30012_0⟩ := Kd.at_int (Kd.R_reads' HO_33.out).2.2 x35_3 p30012 q30012
            cases e30012
            replace p30012 := eq_true p30012
            replace q30012 := eq_true q30012
            go_wp2_with (first | ((with_reducible refine gate_callee (f := 64) rfl ?_); refine goesL_ (some 41) rfl rfl Try.func64 (by kernel_rfl) rfl #[.int .i64 (rd x5_2 x35_3)] rfl (by (try simp only [List.map_toArray, List.map_cons, List.map_nil]); first | done | rfl | (simp only [List.length_drop, List.length_take]; rfl)) ?_; (with_reducible refine (impl_CountOf.calls (rd x5_2 x35_3) t30013 _ A29.out).mono ?_); rintro e w' ⟨rfl, ⟨nd, rfl⟩⟩; refine ⟨_, rfl, ?_⟩))
            go_roundg k3
            case measure => have := HJ2.out; have := HK2.out; have := HK3.out; omega
            case rel => exact ⟨(ji30), (wrap64 (x35_3 + 1)), (by first | rfl | (simp; done) | (simp only [← hji30] <;> (first | rfl | simp)) | (simp [*]; done)), (by first | rfl | (simp; done) | (simp [*]; done)), H', ⟨by have := HJ2.out; have := HK2.out; have := HK3.out; omega⟩, ⟨by (with_reducible repeat (first | apply Kd.R_alloc | apply Kd.R_drewN | apply Kd.R_drew)); exact HO_33.out⟩, ⟨by (with_reducible repeat (first | refine blk_drewN ?_ _ | refine blk_drew ?_ | refine blk_alloc ?_ _)); exact BK30001.out⟩, ⟨by repeat (first | (with_reducible first | exact HB.out | apply below_alloc | apply pw_below_drewN | apply below_drew1 | refine below_set ?_ GE30001.out) | exact HB.out)⟩⟩
           ·rw [if_neg c28] at H
            exact absurd H (by simp)
          ·rw [if_neg c27] at H
           exact absurd H (by simp)
         ·rw [if_neg c26] at H
          have c26b0 : decide (x35_3 < (x5_2.length : Int)) = false := decide_eq_false c26
          clear c26
          obtain rfl := Option.some.inj H
          go_wp2
          go_ret
          exact ⟨by first | rfl | (simp [errW_none, errW_some] <;> rfl) | (simp [*, errW_none, errW_some] <;> rfl), by repeat (first | (with_reducible first | exact HB.out | apply below_alloc | apply pw_below_drewN | apply below_drew1 | refine below_set ?_ GE30001.out) | exact HB.out)⟩
/-! ### laws_FnExactUnionRank: function 5 -/
def laws_FnExactUnionRank.f (k : Nat) (a0_0 : Int) (l0_1 : List Int) (a1 : Int) : Option (Bool) := (laws_szMatroid.f a0_0 l0_1 1048576).bind fun t6002 => (if t6002 < 0 then (some true) else ((laws_toMatroid.f k a0_0 l0_1).bind fun bt6003 => ((spec_UnionRank.f k bt6003.1 bt6003.2 a1).bind fun t6007 => ((laws_toMatroid.f k a0_0 l0_1).bind fun bt6008 => ((impl_UnionRank.f k bt6008.1 bt6008.2 a1).bind fun t6013 => (if t6013 = t6007 then ((laws_toMatroid.f k a0_0 l0_1).bind fun bt6014 => ((laws_eqMatroid.f k bt6008.1 bt6008.2 bt6014.1 bt6014.2).bind fun t6018 => (if t6018 = true then (some true) else (some false)))) else (some false)))))))
theorem laws_FnExactUnionRank.mono : ∀ a0 a1 a2 k, LeO (laws_FnExactUnionRank.f k a0 a1 a2) (laws_FnExactUnionRank.f (k + 1) a0 a1 a2) := by
 intro a0 a1 a2 k
 unfold laws_FnExactUnionRank.f
 repeat' first
   | (with_reducible exact impl_UnionRank.mono _ _ _ _)
   | (with_reducible exact laws_eqMatroid.mono _ _ _ _ _)
   | (with_reducible exact laws_toMatroid.mono _ _ _)
   | (with_reducible exact spec_UnionRank.mono _ _ _ _)
   | (with_reducible exact LeO.refl _)
   | (with_reducible exact LeO.none _)
   | (with_reducible refine LeO.ite ?_ ?_)
   | (with_reducible refine LeO.bind ?_ (fun _ => ?_))
   | exact impl_UnionRank.mono _ _ _ _
   | exact laws_eqMatroid.mono _ _ _ _ _
   | exact laws_toMatroid.mono _ _ _
   | exact spec_UnionRank.mono _ _ _ _
   | exact LeO.none _
   | refine LeO.ite ?_ ?_
   | refine LeO.bind ?_ (fun _ => ?_)
set_option maxHeartbeats 8000000 in
set_option maxRecDepth 100000 in
theorem laws_FnExactUnionRank.calls (k : Nat) (a0_0 : Int) (A0_1 : Option Addr) (c0_1 : Nat) (l0_1 : List Int) (a1 : Int) (w : World) (hr0_1 : Kd.C (Kd.int .i64) w A0_1 l0_1.length l0_1) (hc0_1 : l0_1.length ≤ c0_1) (h : laws_FnExactUnionRank.f k a0_0 l0_1 a1 = some true) :
  Calls Try.prog 5 #[.agg #[.int .i64 a0_0, .slice A0_1 l0_1.length c0_1], .int .i64 a1] w fun e w' => e = .returned (.bool true) ∧ Below w.heap.size w w' := by
 have hu24 := Try.underlying24
 have hu26 := Try.underlying26
 have HR0_1 := aQ hr0_1
 have HC0_1 := aQ hc0_1
 clear hr0_1 hc0_1
 have HB := aQ (Below.refl w.heap.size w)
 have H : ((laws_szMatroid.f a0_0 l0_1 1048576).bind fun t6002 => (if t6002 < 0 then (some true) else ((laws_toMatroid.f k a0_0 l0_1).bind fun bt6003 => ((spec_UnionRank.f k bt6003.1 bt6003.2 a1).bind fun t6007 => ((laws_toMatroid.f k a0_0 l0_1).bind fun bt6008 => ((impl_UnionRank.f k bt6008.1 bt6008.2 a1).bind fun t6013 => (if t6013 = t6007 then ((laws_toMatroid.f k a0_0 l0_1).bind fun bt6014 => ((laws_eqMatroid.f k bt6008.1 bt6008.2 bt6014.1 bt6014.2).bind fun t6018 => (if t6018 = true then (some true) else (some false)))) else (some false)))))))) = some true := h
 clear h
 replace H := Option.bind_eq_some_iff.mp H
 obtain ⟨t6002, A30, H⟩ := H
 replace H : (if t6002 < 0 then (some true) else ((laws_toMatroid.f k a0_0 l0_1).bind fun bt6003 => ((spec_UnionRank.f k bt6003.1 bt6003.2 a1).bind fun t6007 => ((laws_toMatroid.f k a0_0 l0_1).bind fun bt6008 => ((impl_UnionRank.f k bt6008.1 bt6008.2 a1).bind fun t6013 => (if t6013 = t6007 then ((laws_toMatroid.f k a0_0 l0_1).bind fun bt6014 => ((laws_eqMatroid.f k bt6008.1 bt6008.2 bt6014.1 bt6014.2).bind fun t6018 => (if t6018 = true then (some true) else (some false)))) else (some false))))))) = some true := H
 have A3 := aQ A30
 clear A30
 by_cases c4 : t6002 < 0
 ·rw [if_pos c4] at H
  have c4b0 : decide (t6002 < 0) = true := decide_eq_true c4
  clear c4
  clear H
  go_enter Try.func5, Try.ntmps5
  go_wp2_with (first | ((with_reducible refine gate_dst (N := 2) rfl ?_); refine box_event ?hg (N := 2) ?hd (cs := #[.int .i64 a0_0, .slice A0_1 l0_1.length c0_1]) (t := 24) ?hr ?_; (case hd => rfl); (case hg => rfl); (case hr => first | (go_simp; done) | (go_simp; rfl)); intro gb6001 hg w5 hbox hb; have BK6001 := aQ (hbox); have GW6001 := aQ ((by rw [hg]; exact (below_size (by repeat (first | (with_reducible first | exact HB.out | apply below_alloc | apply pw_below_drewN | apply below_drew1) | exact HB.out))) : w.heap.size ≤ gb6001)); have GE6001 := aQ ((by rw [hg]; exact (below_size (by repeat (first | (with_reducible first | exact HB.out | apply below_alloc | apply pw_below_drewN | apply below_drew1) | exact HB.out))) : w.heap.size ≤ gb6001)); replace HB := aQ (below_step (by repeat (first | (with_reducible first | exact HB.out | apply below_alloc | apply pw_below_drewN | apply below_drew1) | exact HB.out)) hb); clear hb hbox hg; have hcz6_0 : w5.cell? ⟨gb6001, 0, none⟩ = some (.int .i64 a0_0) := (blk_cell BK6001.out 0).trans rfl; have hcz6_1 : w5.cell? ⟨gb6001, 1, none⟩ = some (.slice A0_1 l0_1.length c0_1) := (blk_cell BK6001.out 1).trans rfl; have hfz6_0 := blk_frozen BK6001.out 0; have hfz6_1 := blk_frozen BK6001.out 1) | ((with_reducible refine gate_callee (f := 16) rfl ?_); refine goesL_ (some 11) rfl rfl Try.func16 (by kernel_rfl) rfl #[.agg #[.int .i64 a0_0, .slice A0_1 l0_1.length c0_1], .int .i64 1048576] rfl (by (try simp only [List.map_toArray, List.map_cons, List.map_nil]); first | done | rfl | (simp only [List.length_drop, List.length_take]; rfl)) ?_; (with_reducible refine (laws_szMatroid.calls a0_0 _ _ l0_1 1048576 t6002 _ ?side1 ?side2 A3.out).mono ?_); (case side1 => repeat (first | exact (Kd.C_below HR0_1.out HB.out) | (with_reducible refine Kd.C_alloc ?_ _) | (with_reducible refine Kd.C_drewN ?_ _) | (with_reducible refine Kd.C_drew ?_))); (case side2 => exact HC0_1.out); rintro e w7 ⟨rfl, hb⟩; refine ⟨_, rfl, ?_⟩; replace BK6001 := aQ (blk_below (g := gb6001) (o := .cells #[.int .i64 a0_0, .slice A0_1 l0_1.length c0_1] 24 (0, 0)) (by (with_reducible repeat (first | refine blk_drewN ?_ _ | refine blk_drew ?_ | refine blk_alloc ?_ _)); exact BK6001.out) hb); replace HB := aQ (below_step (by repeat (first | (with_reducible first | exact HB.out | apply below_alloc | apply pw_below_drewN | apply below_drew1 | refine below_set ?_ GE6001.out) | exact HB.out)) hb); (try clear hb); (try clear hb2); (try clear hk); (try clear hi)))
  go_ret
  exact ⟨by first | rfl | (simp [errW_none, errW_some] <;> rfl) | (simp [*, errW_none, errW_some] <;> rfl), by repeat (first | (with_reducible first | exact HB.out | apply below_alloc | apply pw_below_drewN | apply below_drew1 | refine below_set ?_ GE6001.out) | exact HB.out)⟩
 ·rw [if_neg c4] at H
  have c4b0 : decide (t6002 < 0) = false := decide_eq_false c4
  clear c4
  replace H := Option.bind_eq_some_iff.mp H
  obtain ⟨⟨t6003, t6004⟩, A80, H⟩ := H
  replace H : ((spec_UnionRank.f k t6003 t6004 a1).bind fun t6007 => ((laws_toMatroid.f k a0_0 l0_1).bind fun bt6008 => ((impl_UnionRank.f k bt6008.1 bt6008.2 a1).bind fun t6013 => (if t6013 = t6007 then ((laws_toMatroid.f k a0_0 l0_1).bind fun bt6014 => ((laws_eqMatroid.f k bt6008.1 bt6008.2 bt6014.1 bt6014.2).bind fun t6018 => (if t6018 = true then (some true) else (some false)))) else (some false))))) = some true := H
  have A8 := aQ A80
  clear A80
  replace H := Option.bind_eq_some_iff.mp H
  obtain ⟨t6007, A90, H⟩ := H
  replace H : ((laws_toMatroid.f k a0_0 l0_1).bind fun bt6008 => ((impl_UnionRank.f k bt6008.1 bt6008.2 a1).bind fun t6013 => (if t6013 = t6007 then ((laws_toMatroid.f k a0_0 l0_1).bind fun bt6014 => ((laws_eqMatroid.f k bt6008.1 bt6008.2 bt6014.1 bt6014.2).bind fun t6018 => (if t6018 = true then (some true) else (some false)))) else (some false)))) = some true := H
  have A9 := aQ A90
  clear A90
  replace H := Option.bind_eq_some_iff.mp H
  obtain ⟨⟨t6008, t6009⟩, A100, H⟩ := H
  replace H : ((impl_UnionRank.f k t6008 t6009 a1).bind fun t6013 => (if t6013 = t6007 then ((laws_toMatroid.f k a0_0 l0_1).bind fun bt6014 => ((laws_eqMatroid.f k t6008 t6009 bt6014.1 bt6014.2).bind fun t6018 => (if t6018 = true then (some true) else (some false)))) else (some false))) = some true := H
  have A10 := aQ A100
  clear A100
  replace H := Option.bind_eq_some_iff.mp H
  obtain ⟨t6013, A110, H⟩ := H
  replace H : (if t6013 = t6007 then ((laws_toMatroid.f k a0_0 l0_1).bind fun bt6014 => ((laws_eqMatroid.f k t6008 t6009 bt6014.1 bt6014.2).bind fun t6018 => (if t6018 = true then (some true) else (some false)))) else (some false)) = some true := H
  have A11 := aQ A110
  clear A110
  by_cases c12 : t6013 = t6007
  ·rw [if_pos c12] at H
   have c12b0 : (t6013 == t6007) = true := beq_iff_eq.mpr c12
   have c12b1 : (t6013 != t6007) = false := bne_eq_false_iff_eq.mpr c12
   clear c12
   replace H := Option.bind_eq_some_iff.mp H
   obtain ⟨⟨t6014, t6015⟩, A130, H⟩ := H
   replace H : ((laws_eqMatroid.f k t6008 t6009 t6014 t6015).bind fun t6018 => (if t6018 = true then (some true) else (some false))) = some true := H
   have A13 := aQ A130
   clear A130
   replace H := Option.bind_eq_some_iff.mp H
   obtain ⟨t6018, A140, H⟩ := H
   replace H : (if t6018 = true then (some true) else (some false)) = some true := H
   have A14 := aQ A140
   clear A140
   by_cases c15 : t6018 = true
   ·subst c15
    have H1 : (some true) = some true := rfl
    clear H
    have H := H1
    clear H1
    clear H
    go_enter Try.func5, Try.ntmps5
    try go_wp2_with (first | ((with_reducible refine gate_dst (N := 2) rfl ?_); refine box_event ?hg (N := 2) ?hd (cs := #[.int .i64 a0_0, .slice A0_1 l0_1.length c0_1]) (t := 24) ?hr ?_; (case hd => rfl); (case hg => rfl); (case hr => first | (go_simp; done) | (go_simp; rfl)); intro gb6001 hg w16 hbox hb; have BK6001 := aQ (hbox); have GW6001 := aQ ((by rw [hg]; exact (below_size (by repeat (first | (with_reducible first | exact HB.out | apply below_alloc | apply pw_below_drewN | apply below_drew1) | exact HB.out))) : w.heap.size ≤ gb6001)); have GE6001 := aQ ((by rw [hg]; exact (below_size (by repeat (first | (with_reducible first | exact HB.out | apply below_alloc | apply pw_below_drewN | apply below_drew1) | exact HB.out))) : w.heap.size ≤ gb6001)); replace HB := aQ (below_step (by repeat (first | (with_reducible first | exact HB.out | apply below_alloc | apply pw_below_drewN | apply below_drew1) | exact HB.out)) hb); clear hb hbox hg; have hcz17_0 : w16.cell? ⟨gb6001, 0, none⟩ = some (.int .i64 a0_0) := (blk_cell BK6001.out 0).trans rfl; have hcz17_1 : w16.cell? ⟨gb6001, 1, none⟩ = some (.slice A0_1 l0_1.length c0_1) := (blk_cell BK6001.out 1).trans rfl; have hfz17_0 := blk_frozen BK6001.out 0; have hfz17_1 := blk_frozen BK6001.out 1) | ((with_reducible refine gate_callee (f := 16) rfl ?_); refine goesL_ (some 11) rfl rfl Try.func16 (by kernel_rfl) rfl #[.agg #[.int .i64 a0_0, .slice A0_1 l0_1.length c0_1], .int .i64 1048576] rfl (by (try simp only [List.map_toArray, List.map_cons, List.map_nil]); first | done | rfl | (simp only [List.length_drop, List.length_take]; rfl)) ?_; (with_reducible refine (laws_szMatroid.calls a0_0 _ _ l0_1 1048576 t6002 _ ?side1 ?side2 A3.out).mono ?_); (case side1 => repeat (first | exact (Kd.C_below HR0_1.out HB.out) | (with_reducible refine Kd.C_alloc ?_ _) | (with_reducible refine Kd.C_drewN ?_ _) | (with_reducible refine Kd.C_drew ?_))); (case side2 => exact HC0_1.out); rintro e w18 ⟨rfl, hb⟩; refine ⟨_, rfl, ?_⟩; replace BK6001 := aQ (blk_below (g := gb6001) (o := .cells #[.int .i64 a0_0, .slice A0_1 l0_1.length c0_1] 24 (0, 0)) (by (with_reducible repeat (first | refine blk_drewN ?_ _ | refine blk_drew ?_ | refine blk_alloc ?_ _)); exact BK6001.out) hb); replace HB := aQ (below_step (by repeat (first | (with_reducible first | exact HB.out | apply below_alloc | apply pw_below_drewN | apply below_drew1 | refine below_set ?_ GE6001.out) | exact HB.out)) hb); (try clear hb); (try clear hb2); (try clear hk); (try clear hi); have hcz19_0 : w18.cell? ⟨gb6001, 0, none⟩ = some (.int .i64 a0_0) := (blk_cell BK6001.out 0).trans rfl; have hcz19_1 : w18.cell? ⟨gb6001, 1, none⟩ = some (.slice A0_1 l0_1.length c0_1) := (blk_cell BK6001.out 1).trans rfl; have hfz19_0 := blk_frozen BK6001.out 0; have hfz19_1 := blk_frozen BK6001.out 1) | ((with_reducible refine gate_callee (f := 18) rfl ?_); refine goesL_ (some 15) rfl rfl Try.func18 (by kernel_rfl) rfl #[.agg #[.int .i64 a0_0, .slice A0_1 l0_1.length c0_1]] rfl (by (try simp only [List.map_toArray, List.map_cons, List.map_nil]); first | done | rfl | (simp only [List.length_drop, List.length_take]; rfl)) ?_; (with_reducible refine (laws_toMatroid.calls k a0_0 _ _ l0_1 t6003 t6004 _ ?side1 ?side2 A8.out).mono ?_); (case side1 => repeat (first | exact (Kd.C_below HR0_1.out HB.out) | (with_reducible refine Kd.C_alloc ?_ _) | (with_reducible refine Kd.C_drewN ?_ _) | (with_reducible refine Kd.C_drew ?_))); (case side2 => exact HC0_1.out); rintro e w20 ⟨v6005, rfl, ho0, hb⟩; refine ⟨_, rfl, ?_⟩; have HO6006 := aQ (Kd.R_lower ho0 (below_size (by repeat (first | (with_reducible first | exact HB.out | apply below_alloc | apply pw_below_drewN | apply below_drew1 | refine below_set ?_ GE6001.out) | exact HB.out)))); replace BK6001 := aQ (blk_below (g := gb6001) (o := .cells #[.int .i64 a0_0, .slice A0_1 l0_1.length c0_1] 24 (0, 0)) (by (with_reducible repeat (first | refine blk_drewN ?_ _ | refine blk_drew ?_ | refine blk_alloc ?_ _)); exact BK6001.out) hb); replace HB := aQ (below_step (by repeat (first | (with_reducible first | exact HB.out | apply below_alloc | apply pw_below_drewN | apply below_drew1 | refine below_set ?_ GE6001.out) | exact HB.out)) hb); (try clear hb); (try clear hb2); (try clear hk); (try clear hi); (try clear ho0); obtain ⟨Ao21, co21, eo21⟩ := Kd.R_slice HO6006.out; subst eo21) | ((with_reducible refine gate_callee (f := 28) rfl ?_); refine goesL_ (some 17) rfl rfl Try.func28 (by kernel_rfl) rfl #[.agg #[.int .i64 t6003, .slice Ao21 t6004.length co21], .int .i64 a1] rfl (by (try simp only [List.map_toArray, List.map_cons, List.map_nil]); first | done | rfl | (simp only [List.length_drop, List.length_take]; rfl)) ?_; (with_reducible refine (spec_UnionRank.calls k t6003 _ _ t6004 a1 t6007 _ ?side1 ?side2 A9.out).mono ?_); (case side1 => repeat (first | exact (Kd.R_reads' HO6006.out).2.2 | (with_reducible refine Kd.C_alloc ?_ _) | (with_reducible refine Kd.C_drewN ?_ _) | (with_reducible refine Kd.C_drew ?_))); (case side2 => exact (Kd.R_reads' HO6006.out).2.1); rintro e w22 ⟨rfl, hb⟩; refine ⟨_, rfl, ?_⟩; replace HO6006 := aQ (Kd.R_below (by (with_reducible repeat (first | apply Kd.R_alloc | apply Kd.R_drewN | apply Kd.R_drew)); exact HO6006.out) hb); replace BK6001 := aQ (blk_below (g := gb6001) (o := .cells #[.int .i64 a0_0, .slice A0_1 l0_1.length c0_1] 24 (0, 0)) (by (with_reducible repeat (first | refine blk_drewN ?_ _ | refine blk_drew ?_ | refine blk_alloc ?_ _)); exact BK6001.out) hb); replace HB := aQ (below_step (by repeat (first | (with_reducible first | exact HB.out | apply below_alloc | apply pw_below_drewN | apply below_drew1 | refine below_set ?_ GE6001.out) | exact HB.out)) hb); (try clear hb); (try clear hb2); (try clear hk); (try clear hi); have hcz23_0 : w22.cell? ⟨gb6001, 0, none⟩ = some (.int .i64 a0_0) := (blk_cell BK6001.out 0).trans rfl; have hcz23_1 : w22.cell? ⟨gb6001, 1, none⟩ = some (.slice A0_1 l0_1.length c0_1) := (blk_cell BK6001.out 1).trans rfl; have hfz23_0 := blk_frozen BK6001.out 0; have hfz23_1 := blk_frozen BK6001.out 1) | ((with_reducible refine gate_callee (f := 18) rfl ?_); refine goesL_ (some 19) rfl rfl Try.func18 (by kernel_rfl) rfl #[.agg #[.int .i64 a0_0, .slice A0_1 l0_1.length c0_1]] rfl (by (try simp only [List.map_toArray, List.map_cons, List.map_nil]); first | done | rfl | (simp only [List.length_drop, List.length_take]; rfl)) ?_; (with_reducible refine (laws_toMatroid.calls k a0_0 _ _ l0_1 t6008 t6009 _ ?side1 ?side2 A10.out).mono ?_); (case side1 => repeat (first | exact (Kd.C_below HR0_1.out HB.out) | (with_reducible refine Kd.C_alloc ?_ _) | (with_reducible refine Kd.C_drewN ?_ _) | (with_reducible refine Kd.C_drew ?_))); (case side2 => exact HC0_1.out); rintro e w24 ⟨v6010, rfl, ho0, hb⟩; refine ⟨_, rfl, ?_⟩; have HO6011 := aQ (Kd.R_lower (Kd.R_new' ho0 (Kd.R_lt (by (with_reducible repeat (first | apply Kd.R_alloc | apply Kd.R_drewN | apply Kd.R_drew)); exact HO6006.out))) (below_size (by repeat (first | (with_reducible first | exact HB.out | apply below_alloc | apply pw_below_drewN | apply below_drew1 | refine below_set ?_ GE6001.out) | exact HB.out)))); replace HO6006 := aQ (Kd.R_elder' (by (with_reducible repeat (first | apply Kd.R_alloc | apply Kd.R_drewN | apply Kd.R_drew)); exact HO6006.out) (Kd.R_base ho0) hb); replace BK6001 := aQ (blk_below (g := gb6001) (o := .cells #[.int .i64 a0_0, .slice A0_1 l0_1.length c0_1] 24 (0, 0)) (by (with_reducible repeat (first | refine blk_drewN ?_ _ | refine blk_drew ?_ | refine blk_alloc ?_ _)); exact BK6001.out) hb); replace HB := aQ (below_step (by repeat (first | (with_reducible first | exact HB.out | apply below_alloc | apply pw_below_drewN | apply below_drew1 | refine below_set ?_ GE6001.out) | exact HB.out)) hb); (try clear hb); (try clear hb2); (try clear hk); (try clear hi); (try clear ho0)) | ((with_reducible refine gate_dst (N := 7) rfl ?_); refine box_event ?hg (N := 7) ?hd (cs := #[.int .i64 0, .slice none 0 0]) (t := 26) ?hr ?_; (case hd => rfl); (case hg => rfl); (case hr => first | (go_simp; done) | (go_simp; rfl)); intro gb6012 hg w25 hbox hb; replace HO6006 := aQ (Kd.R_below (by (with_reducible repeat (first | apply Kd.R_alloc | apply Kd.R_drewN | apply Kd.R_drew)); exact HO6006.out) hb); replace HO6011 := aQ (Kd.R_below (by (with_reducible repeat (first | apply Kd.R_alloc | apply Kd.R_drewN | apply Kd.R_drew)); exact HO6011.out) hb); have BK6012 := aQ (hbox); have GW6012 := aQ ((by rw [hg]; exact (below_size (by repeat (first | (with_reducible first | exact HB.out | apply below_alloc | apply pw_below_drewN | apply below_drew1 | refine below_set ?_ GE6001.out) | exact HB.out))) : w.heap.size ≤ gb6012)); have GE6012 := aQ ((by rw [hg]; exact (below_size (by repeat (first | (with_reducible first | exact HB.out | apply below_alloc | apply pw_below_drewN | apply below_drew1 | refine below_set ?_ GE6001.out) | exact HB.out))) : w.heap.size ≤ gb6012)); replace HB := aQ (below_step (by repeat (first | (with_reducible first | exact HB.out | apply below_alloc | apply pw_below_drewN | apply below_drew1 | refine below_set ?_ GE6001.out) | exact HB.out)) hb); have NB6001_6012 := aQ ((by rw [hg]; exact Nat.ne_of_lt (blk_lt (g := gb6001) (o := .cells #[.int .i64 a0_0, .slice A0_1 l0_1.length c0_1] 24 (0, 0)) (by (with_reducible repeat (first | refine blk_drewN ?_ _ | refine blk_drew ?_ | refine blk_alloc ?_ _)); exact BK6001.out)) : gb6001 ≠ gb6012)); have NB6012_6001 := aQ ((by rw [hg]; exact Nat.ne_of_gt (blk_lt (g := gb6001) (o := .cells #[.int .i64 a0_0, .slice A0_1 l0_1.length c0_1] 24 (0, 0)) (by (with_reducible repeat (first | refine blk_drewN ?_ _ | refine blk_drew ?_ | refine blk_alloc ?_ _)); exact BK6001.out)) : gb6012 ≠ gb6001)); replace BK6001 := aQ (blk_below (g := gb6001) (o := .cells #[.int .i64 a0_0, .slice A0_1 l0_1.length c0_1] 24 (0, 0)) (by (with_reducible repeat (first | refine blk_drewN ?_ _ | refine blk_drew ?_ | refine blk_alloc ?_ _)); exact BK6001.out) hb); clear hb hbox hg; have hnb26 := NB6012_6001.out; have hnc26 := NB6001_6012.out; have hcz27_0 : w25.cell? ⟨gb6012, 0, none⟩ = some (.int .i64 0) := (blk_cell BK6012.out 0).trans rfl; have hcz27_1 : w25.cell? ⟨gb6012, 1, none⟩ = some (.slice none 0 0) := (blk_cell BK6012.out 1).trans rfl; have hfz27_0 := blk_frozen BK6012.out 0; have hfz27_1 := blk_frozen BK6012.out 1; obtain ⟨Ao28, co28, eo28⟩ := Kd.R_slice HO6011.out; subst eo28) | ((with_reducible refine gate_callee (f := 29) rfl ?_); refine goesL_ (some 22) rfl rfl Try.func29 (by kernel_rfl) rfl #[.agg #[.int .i64 t6008, .slice Ao28 t6009.length co28], .int .i64 a1] rfl (by (try simp only [List.map_toArray, List.map_cons, List.map_nil]); first | done | rfl | (simp only [List.length_drop, List.length_take]; rfl)) ?_; (with_reducible refine (impl_UnionRank.calls k t6008 _ _ t6009 a1 t6013 _ ?side1 ?side2 A11.out).mono ?_); (case side1 => refine (Kd.R_reads' (e := 3) (base := w.heap.size) (ok := fun k_ => (True ∧ some k_ ≠ (.slice Ao21 t6004.length co21 : Value).ownBlock)) (n := t6009.length) (c := co28) ?_).2.2; exact (by (with_reducible repeat (first | apply Kd.R_alloc | apply Kd.R_drewN | apply Kd.R_drew)); exact (Kd.R_mono (Kd.R_far (p := ⟨gb6012, 1, none⟩) (Kd.R_far (p := ⟨gb6012, 0, none⟩) (Kd.R_types HO6011.out BK6012.out (by decide)) (fun _ hk => hk.2) (.int .i64 t6008)) (fun _ hk => hk.2) (.slice Ao28 t6009.length co28)) (fun _ h_ => h_.1)))); (case side2 => exact (Kd.R_reads' HO6011.out).2.1); rintro e w29 ⟨rfl, hb⟩; refine ⟨_, rfl, ?_⟩; replace HO6006 := aQ (Kd.R_below (by (with_reducible repeat (first | apply Kd.R_alloc | apply Kd.R_drewN | apply Kd.R_drew)); exact (Kd.R_mono (Kd.R_far (p := ⟨gb6012, 1, none⟩) (Kd.R_far (p := ⟨gb6012, 0, none⟩) (Kd.R_types HO6006.out BK6012.out (by decide)) (fun _ hk => hk.2) (.int .i64 t6008)) (fun _ hk => hk.2) (.slice Ao28 t6009.length co28)) (fun _ h_ => h_.1))) hb); replace HO6011 := aQ (Kd.R_below (by (with_reducible repeat (first | apply Kd.R_alloc | apply Kd.R_drewN | apply Kd.R_drew)); exact (Kd.R_mono (Kd.R_far (p := ⟨gb6012, 1, none⟩) (Kd.R_far (p := ⟨gb6012, 0, none⟩) (Kd.R_types HO6011.out BK6012.out (by decide)) (fun _ hk => hk.2) (.int .i64 t6008)) (fun _ hk => hk.2) (.slice Ao28 t6009.length co28)) (fun _ h_ => h_.1))) hb); replace BK6001 := aQ (blk_below (g := gb6001) (o := .cells #[.int .i64 a0_0, .slice A0_1 l0_1.length c0_1] 24 (0, 0)) (by (with_reducible repeat (first | refine blk_drewN ?_ _ | refine blk_drew ?_ | refine blk_alloc ?_ _)); refine blk_far ?_ NB6001_6012.out _; (with_reducible repeat (first | refine blk_drewN ?_ _ | refine blk_drew ?_ | refine blk_alloc ?_ _)); refine blk_far ?_ NB6001_6012.out _; (with_reducible repeat (first | refine blk_drewN ?_ _ | refine blk_drew ?_ | refine blk_alloc ?_ _)); exact BK6001.out) hb); replace BK6012 := aQ (blk_below (g := gb6012) (o := .cells #[.int .i64 t6008, .slice Ao28 t6009.length co28] 26 (0, 0)) (by (with_reducible repeat (first | refine blk_drewN ?_ _ | refine blk_drew ?_ | refine blk_alloc ?_ _)); refine blk_put (cs := #[.int .i64 t6008, .slice none 0 0]) ?_ 1 _ rfl; (with_reducible repeat (first | refine blk_drewN ?_ _ | refine blk_drew ?_ | refine blk_alloc ?_ _)); refine blk_put (cs := #[.int .i64 0, .slice none 0 0]) ?_ 0 _ rfl; (with_reducible repeat (first | refine blk_drewN ?_ _ | refine blk_drew ?_ | refine blk_alloc ?_ _)); exact BK6012.out) hb); replace HB := aQ (below_step (by repeat (first | (with_reducible first | exact HB.out | apply below_alloc | apply pw_below_drewN | apply below_drew1 | refine below_set ?_ GE6001.out | refine below_set ?_ GE6012.out) | exact HB.out)) hb); (try clear hb); (try clear hb2); (try clear hk); (try clear hi)))
    have n0_ := aQ (Kd.R_drew HO6006.out)
    have n1_ := aQ (Kd.R_drew HO6011.out)
    have n2_ := aQ (blk_drew BK6001.out)
    have n3_ := aQ (blk_drew BK6012.out)
    have n4_ := aQ (below_drew1 HB.out)
    clear HO6006
    clear HO6011
    clear BK6001
    clear BK6012
    clear HB
    have HO6006 := n0_
    have HO6011 := n1_
    have BK6001 := n2_
    have BK6012 := n3_
    have HB := n4_
    clear n0_ n1_ n2_ n3_ n4_
    refine start_ (n := 5) (S := fun w' => w'.cell? ⟨gb6012, 0, none⟩ = some (.int .i64 t6008) ∧ w'.cell? ⟨gb6012, 1, none⟩ = some (.slice Ao28 t6009.length co28) ∧ w'.cell? ⟨gb6001, 0, none⟩ = some (.int .i64 a0_0) ∧ w'.cell? ⟨gb6001, 1, none⟩ = some (.slice A0_1 l0_1.length c0_1)) (ds := []) #[false, false, false, false, false] (by kernel_rfl) rfl rfl ⟨(blk_cell BK6012.out 0).trans rfl, (blk_cell BK6012.out 1).trans rfl, (blk_cell BK6001.out 0).trans rfl, (blk_cell BK6001.out 1).trans rfl⟩ (fun hHeld => ?_)
    generalize w29.drew = w30 at HO6006 HO6011 BK6001 BK6012 HB hHeld ⊢
    refine take_ (i := 0) (N := some 26) (v := ?_) (a' := ?_) #[true, false, false, false, false] rfl rfl (by kernel_rfl) (fun _ _ _ h => h) (Or.inl ⟨by rfl, ?_⟩) hHeld ?_ ?_
    rotate_left
    ·rintro w' ⟨s0, s1, s2, s3⟩
     go_simp
     with_reducible rfl
    rotate_left
    ·simp only [Act.put, List.setIfInBounds_toArray, List.set_cons_zero, List.set_cons_succ, i64_w, i32_w]
     rfl
    refine take_ (i := 1) (N := some 27) (v := ?_) (a' := ?_) #[true, true, false, false, false] rfl rfl (by kernel_rfl) (fun _ _ _ h => h) (Or.inl ⟨by rfl, ?_⟩) hHeld ?_ ?_
    rotate_left
    ·rintro w' ⟨s0, s1, s2, s3⟩
     go_simp
     with_reducible rfl
    rotate_left
    ·simp only [Act.put, List.setIfInBounds_toArray, List.set_cons_zero, List.set_cons_succ, i64_w, i32_w]
     rfl
    refine one_ (i := 2) (N := some 28) #[true, true, true, false, false] rfl rfl (by kernel_rfl) (by decide) (fun K hK => ?_)
    refine goes_ Try.func18 (by kernel_rfl) rfl #[.agg #[.int .i64 a0_0, .slice A0_1 l0_1.length c0_1]] (by rfl) rfl rfl (by (try simp only [List.map_toArray, List.map_cons, List.map_nil]); first | done | rfl | (simp only [List.length_drop, List.length_take]; rfl)) ?_
    with_reducible refine (laws_toMatroid.calls k a0_0 _ _ l0_1 t6014 t6015 _ ?side1 ?side2 A13.out).mono ?_
    (case side1 => repeat (first | exact (Kd.C_below HR0_1.out HB.out) | (with_reducible refine Kd.C_alloc ?_ _) | (with_reducible refine Kd.C_drewN ?_ _) | (with_reducible refine Kd.C_drew ?_)))
    (case side2 => exact HC0_1.out)
    rintro e w31 ⟨v6016, rfl, ho0, hb⟩
    refine ⟨_, rfl, ?_⟩
    have n0_ := aQ (Kd.R_elder' (by (with_reducible repeat (first | apply Kd.R_alloc | apply Kd.R_drewN | apply Kd.R_drew)); exact HO6006.out) (Kd.R_base ho0) hb)
    have n1_ := aQ (Kd.R_elder' (by (with_reducible repeat (first | apply Kd.R_alloc | apply Kd.R_drewN | apply Kd.R_drew)); exact HO6011.out) (Kd.R_base ho0) hb)
    have n2_ := aQ (Kd.R_lower (Kd.R_new' (Kd.R_new' ho0 (Kd.R_lt (by (with_reducible repeat (first | apply Kd.R_alloc | apply Kd.R_drewN | apply Kd.R_drew)); exact HO6006.out))) (Kd.R_lt (by (with_reducible repeat (first | apply Kd.R_alloc | apply Kd.R_drewN | apply Kd.R_drew)); exact HO6011.out))) (below_size (by repeat (first | (with_reducible first | exact HB.out | apply below_alloc | apply pw_below_drewN | apply below_drew1 | refine below_set ?_ GE6001.out | refine below_set ?_ GE6012.out) | exact HB.out))))
    have n3_ := aQ (blk_below (g := gb6001) (o := .cells #[.int .i64 a0_0, .slice A0_1 l0_1.length c0_1] 24 (0, 0)) (by (with_reducible repeat (first | refine blk_drewN ?_ _ | refine blk_drew ?_ | refine blk_alloc ?_ _)); exact BK6001.out) hb)
    have n4_ := aQ (blk_below (g := gb6012) (o := .cells #[.int .i64 t6008, .slice Ao28 t6009.length co28] 26 (0, 0)) (by (with_reducible repeat (first | refine blk_drewN ?_ _ | refine blk_drew ?_ | refine blk_alloc ?_ _)); exact BK6012.out) hb)
    have n5_ := aQ (below_step (by repeat (first | (with_reducible first | exact HB.out | apply below_alloc | apply pw_below_drewN | apply below_drew1 | refine below_set ?_ GE6001.out | refine below_set ?_ GE6012.out) | exact HB.out)) hb)
    clear HO6006
    clear HO6011
    clear BK6001
    clear BK6012
    clear HB
    have HO6006 := n0_
    have HO6011 := n1_
    have HO6017 := n2_
    have BK6001 := n3_
    have BK6012 := n4_
    have HB := n5_
    clear n0_ n1_ n2_ n3_ n4_ n5_
    (try clear hb)
    (try clear hb2)
    (try clear hk)
    (try clear hi)
    (try clear ho0)
    obtain ⟨Ao32, co32, eo32⟩ := Kd.R_slice HO6017.out
    (first | subst eo32 | (injection eo32 with f1_ f2_ f3_; have f4_ := f1_.symm; have f5_ := f3_.symm; clear f1_ f2_ f3_; subst f4_; subst f5_))
    refine hK.out _ _ ⟨(blk_cell BK6012.out 0).trans rfl, (blk_cell BK6012.out 1).trans rfl, (blk_cell BK6001.out 0).trans rfl, (blk_cell BK6001.out 1).trans rfl⟩ (fun hHeld => ?_)
    clear hK K
    refine norm_ (a' := ?_) ?_ ?_
    rotate_left
    ·show Act.put _ (some 28) _ = _
     simp only [Act.put, List.setIfInBounds_toArray, List.set_cons_zero, List.set_cons_succ, i64_w, i32_w]
     rfl
    refine one_ (i := 3) (N := some 29) #[true, true, true, true, false] rfl rfl (by kernel_rfl) (by decide) (fun K hK => ?_)
    refine goes_ Try.func20 (by kernel_rfl) rfl #[.agg #[.int .i64 t6008, .slice Ao28 t6009.length co28], .agg #[.int .i64 t6014, .slice Ao32 t6015.length co32]] (by rfl) rfl rfl (by (try simp only [List.map_toArray, List.map_cons, List.map_nil]); first | done | rfl | (simp only [List.length_drop, List.length_take]; rfl)) ?_
    with_reducible refine (laws_eqMatroid.calls k t6008 _ _ t6009 t6014 _ _ t6015 true _ ?side1 ?side2 ?side3 ?side4 A14.out).mono ?_
    (case side1 => repeat (first | exact (Kd.R_reads' HO6011.out).2.2 | (with_reducible refine Kd.C_alloc ?_ _) | (with_reducible refine Kd.C_drewN ?_ _) | (with_reducible refine Kd.C_drew ?_)))
    (case side2 => exact (Kd.R_reads' HO6011.out).2.1)
    (case side3 => repeat (first | exact (Kd.R_reads' HO6017.out).2.2 | (with_reducible refine Kd.C_alloc ?_ _) | (with_reducible refine Kd.C_drewN ?_ _) | (with_reducible refine Kd.C_drew ?_)))
    (case side4 => exact (Kd.R_reads' HO6017.out).2.1)
    rintro e w33 ⟨rfl, hb⟩
    refine ⟨_, rfl, ?_⟩
    have n0_ := aQ (Kd.R_below (by (with_reducible repeat (first | apply Kd.R_alloc | apply Kd.R_drewN | apply Kd.R_drew)); exact HO6006.out) hb)
    have n1_ := aQ (Kd.R_below (by (with_reducible repeat (first | apply Kd.R_alloc | apply Kd.R_drewN | apply Kd.R_drew)); exact HO6011.out) hb)
    have n2_ := aQ (Kd.R_below (by (with_reducible repeat (first | apply Kd.R_alloc | apply Kd.R_drewN | apply Kd.R_drew)); exact HO6017.out) hb)
    have n3_ := aQ (blk_below (g := gb6001) (o := .cells #[.int .i64 a0_0, .slice A0_1 l0_1.length c0_1] 24 (0, 0)) (by (with_reducible repeat (first | refine blk_drewN ?_ _ | refine blk_drew ?_ | refine blk_alloc ?_ _)); exact BK6001.out) hb)
    have n4_ := aQ (blk_below (g := gb6012) (o := .cells #[.int .i64 t6008, .slice Ao28 t6009.length co28] 26 (0, 0)) (by (with_reducible repeat (first | refine blk_drewN ?_ _ | refine blk_drew ?_ | refine blk_alloc ?_ _)); exact BK6012.out) hb)
    have n5_ := aQ (below_step (by repeat (first | (with_reducible first | exact HB.out | apply below_alloc | apply pw_below_drewN | apply below_drew1 | refine below_set ?_ GE6001.out | refine below_set ?_ GE6012.out) | exact HB.out)) hb)
    clear HO6006
    clear HO6011
    clear HO6017
    clear BK6001
    clear BK6012
    clear HB
    have HO6006 := n0_
    have HO6011 := n1_
    have HO6017 := n2_
    have BK6001 := n3_
    have BK6012 := n4_
    have HB := n5_
    clear n0_ n1_ n2_ n3_ n4_ n5_
    (try clear hb)
    (try clear hb2)
    (try clear hk)
    (try clear hi)
    refine hK.out _ _ ⟨(blk_cell BK6012.out 0).trans rfl, (blk_cell BK6012.out 1).trans rfl, (blk_cell BK6001.out 0).trans rfl, (blk_cell BK6001.out 1).trans rfl⟩ (fun hHeld => ?_)
    clear hK K
    refine norm_ (a' := ?_) ?_ ?_
    rotate_left
    ·show Act.put _ (some 29) _ = _
     simp only [Act.put, List.setIfInBounds_toArray, List.set_cons_zero, List.set_cons_succ, i64_w, i32_w]
     rfl
    refine pure_ (i := 4) (N := some 30) (v := ?_) (a' := ?_) #[true, true, true, true, true] rfl rfl (by kernel_rfl) (fun _ _ _ h => h) (Or.inl ⟨by rfl, ?_⟩) ?_ ?_
    rotate_left
    ·intro w'
     go_simp
     with_reducible rfl
    rotate_left
    ·simp only [Act.put, List.setIfInBounds_toArray, List.set_cons_zero, List.set_cons_succ, i64_w, i32_w]
     rfl
    refine done_ (by kernel_rfl) ?_
    try go_wp2
    go_ret
    exact ⟨by first | rfl | (simp [errW_none, errW_some] <;> rfl) | (simp [*, errW_none, errW_some] <;> rfl), by repeat (first | (with_reducible first | exact HB.out | apply below_alloc | apply pw_below_drewN | apply below_drew1 | refine below_set ?_ GE6001.out | refine below_set ?_ GE6012.out) | exact HB.out)⟩
   ·replace c15 := Bool.eq_false_iff.mpr c15
    subst c15
    have H1 : (some false) = some true := by rw [if_neg (show ¬ (false = true) by decide)] at H; exact H
    clear H
    have H := H1
    clear H1
    exact absurd (Option.some.inj H) (by decide)
  ·rw [if_neg c12] at H
   have c12b0 : (t6013 == t6007) = false := beq_eq_false_iff_ne.mpr c12
   have c12b1 : (t6013 != t6007) = true := bne_iff_ne.mpr c12
   exact absurd (Option.some.inj H) (by decide)
end Go.Proofs.Ytagncnjllpebjaa.A
