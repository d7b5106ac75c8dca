/- The machine side of the law FnExactFromGraph, laid by a program of this work over the kit's print and contracts by hand: Go functions as Lean functions, and proofs that calls come to what these tell. Conditions: those in each theorem. -/
import Derived.Test.YtinoamehdhgpgaaMFnExactFromGraph0
import Derived.Test.YtinoamehdhgpgaaMFnExactFromGraphq0
import Derived.Test.YtinoamehdhgpgaaMFnExactFromGraph1
import Derived.Test.YtinoamehdhgpgaaMFnExactFromGraph2
namespace Go.Proofs.Ytinoamehdhgpgaa.A
open Go.RowKit Go.Proofs.YtinoamehdhgpgaaW.PrintWords Go.Proofs.YtinoamehdhgpgaaW.PrintLast Go.Proofs.YtinoamehdhgpgaaW.PrintMore
attribute [local go_sem] max2_int min2_int max_two min_two max_three min_three max_four min_four   -- for this text's walks alone
set_option linter.unusedVariables false
set_option linter.unusedSimpArgs false

/-! ### impl_IsGraph: function 203 -/
mutual
def impl_IsGraph.j0 : Nat → Bool → Int → List Int → List Int → Option (Bool)
 | 0, _, _, _, _ => none
 | k + 1, x26, x204002000, x204002001, x204002002 => if x26 = true then (some false) else (impl_IsGraph.l0 k (x204002001.length : Int) 0 x204002000 x204002001 x204002002)
def impl_IsGraph.l0 : Nat → Int → Int → Int → List Int → List Int → Option (Bool)
 | 0, _, _, _, _, _ => none
 | k + 1, x29, x30, x204002000, x204002001, x204002002 => if x30 < x29 then (if 0 ≤ x30 then (if x30 < (x204002001.length : Int) then (if (rd x204002001 x30) < 0 then (some false) else (if (rd x204002001 x30) ≥ x204002000 then (some false) else (if x30 < (x204002002.length : Int) then (if (rd x204002002 x30) < 0 then (some false) else (if (rd x204002002 x30) ≥ x204002000 then (some false) else (impl_IsGraph.l0 k x29 (wrap64 (x30 + 1)) x204002000 x204002001 x204002002))) else (none)))) else (none)) else (none)) else (some true)
end
def impl_IsGraph.f (k : Nat) (a0_0 : Int) (l0_1 : List Int) (l0_2 : List Int) : Option (Bool) := if a0_0 < 0 then (impl_IsGraph.j0 k true a0_0 l0_1 l0_2) else (if a0_0 > 6 then (impl_IsGraph.j0 k true a0_0 l0_1 l0_2) else (if (l0_1.length : Int) > 8 then (impl_IsGraph.j0 k true a0_0 l0_1 l0_2) else (impl_IsGraph.j0 k ((l0_1.length : Int) != (l0_2.length : Int)) a0_0 l0_1 l0_2)))
theorem impl_IsGraph.mono_l : ∀ k, (∀ y0 y1 y2 y3, LeO (impl_IsGraph.j0 k y0 y1 y2 y3) (impl_IsGraph.j0 (k + 1) y0 y1 y2 y3)) ∧ (∀ y0 y1 y2 y3 y4, LeO (impl_IsGraph.l0 k y0 y1 y2 y3 y4) (impl_IsGraph.l0 (k + 1) y0 y1 y2 y3 y4))
 | 0 => ⟨fun _ _ _ _ r h => by simp [impl_IsGraph.j0] at h, fun _ _ _ _ _ r h => by simp [impl_IsGraph.l0] at h⟩
 | k + 1 => by
  obtain ⟨ih0, ih1⟩ := impl_IsGraph.mono_l k
  refine ⟨?_, ?_⟩
  ·intro y0 y1 y2 y3
   unfold impl_IsGraph.j0
   repeat' first
   | (with_reducible exact ih0 _ _ _ _)
   | (with_reducible exact ih1 _ _ _ _ _)
   | (with_reducible exact LeO.refl _)
   | (with_reducible exact LeO.none _)
   | (with_reducible refine LeO.ite ?_ ?_)
   | (with_reducible refine LeO.bind ?_ (fun _ => ?_))
   | exact ih0 _ _ _ _
   | exact ih1 _ _ _ _ _
   | exact LeO.none _
   | refine LeO.ite ?_ ?_
   | refine LeO.bind ?_ (fun _ => ?_)
  ·intro y0 y1 y2 y3 y4
   unfold impl_IsGraph.l0
   repeat' first
   | (with_reducible exact ih0 _ _ _ _)
   | (with_reducible exact ih1 _ _ _ _ _)
   | (with_reducible exact LeO.refl _)
   | (with_reducible exact LeO.none _)
   | (with_reducible refine LeO.ite ?_ ?_)
   | (with_reducible refine LeO.bind ?_ (fun _ => ?_))
   | exact ih0 _ _ _ _
   | exact ih1 _ _ _ _ _
   | exact LeO.none _
   | refine LeO.ite ?_ ?_
   | refine LeO.bind ?_ (fun _ => ?_)
theorem impl_IsGraph.mono : ∀ a0 a1 a2 k, LeO (impl_IsGraph.f k a0 a1 a2) (impl_IsGraph.f (k + 1) a0 a1 a2) := by
 intro a0 a1 a2 k
 obtain ⟨ih0, ih1⟩ := impl_IsGraph.mono_l k
 unfold impl_IsGraph.f
 repeat' first
   | (with_reducible exact ih0 _ _ _ _)
   | (with_reducible exact ih1 _ _ _ _ _)
   | (with_reducible exact LeO.refl _)
   | (with_reducible exact LeO.none _)
   | (with_reducible refine LeO.ite ?_ ?_)
   | (with_reducible refine LeO.bind ?_ (fun _ => ?_))
   | exact ih0 _ _ _ _
   | exact ih1 _ _ _ _ _
   | exact LeO.none _
   | refine LeO.ite ?_ ?_
   | refine LeO.bind ?_ (fun _ => ?_)
set_option maxHeartbeats 8000000 in
set_option maxRecDepth 100000 in
theorem impl_IsGraph.calls (k : Nat) (a0_0 : Int) (A0_1 : Option Addr) (c0_1 : Nat) (l0_1 : List Int) (A0_2 : Option Addr) (c0_2 : Nat) (l0_2 : List Int) (r : Bool) (w : World) (hr0_1 : Kd.C (Kd.int .i64) w A0_1 l0_1.length l0_1) (hc0_1 : l0_1.length ≤ c0_1) (hr0_2 : Kd.C (Kd.int .i64) w A0_2 l0_2.length l0_2) (hc0_2 : l0_2.length ≤ c0_2) (h : impl_IsGraph.f k a0_0 l0_1 l0_2 = some r) :
  Calls Try.prog 203 #[.agg #[.int .i64 a0_0, .slice A0_1 l0_1.length c0_1, .slice A0_2 l0_2.length c0_2]] w fun e w' => e = .returned (.bool r) ∧ Below w.heap.size w w' := by
 have hu71 := Try.underlying71
 have HR0_1 := aQ hr0_1
 have HC0_1 := aQ hc0_1
 clear hr0_1 hc0_1
 have HR0_2 := aQ hr0_2
 have HC0_2 := aQ hc0_2
 clear hr0_2 hc0_2
 have HB := aQ (Below.refl w.heap.size w)
 have H : (if a0_0 < 0 then (impl_IsGraph.j0 k true a0_0 l0_1 l0_2) else (if a0_0 > 6 then (impl_IsGraph.j0 k true a0_0 l0_1 l0_2) else (if (l0_1.length : Int) > 8 then (impl_IsGraph.j0 k true a0_0 l0_1 l0_2) else (impl_IsGraph.j0 k ((l0_1.length : Int) != (l0_2.length : Int)) a0_0 l0_1 l0_2)))) = some r := h
 clear h
 have HC2 := aQ H
 clear H
 go_enter Try.func203, Try.ntmps203
 go_upto_region 1 with (first | ((with_reducible refine gate_dst (N := 1) rfl ?_); (try (refine gate_guard (by rfl) ?_; dsimp only)); refine box_event ?hg (N := 1) ?hd (cs := #[.int .i64 a0_0, .slice A0_1 l0_1.length c0_1, .slice A0_2 l0_2.length c0_2]) (t := 71) ?hr ?_; (case hd => rfl); (case hg => rfl); (case hr => first | (go_simp; done) | (go_simp; rfl)); intro gb204001 hg w3 hbox hb; have BK204001 := aQ (hbox); have GW204001 := aQ ((by rw [hg]; exact (below_size (by repeat (first | (with_reducible first | exact HB.out | apply below_alloc | apply pw_below_drewN | apply below_drew1) | exact HB.out))) : w.heap.size ≤ gb204001)); have GE204001 := aQ ((by rw [hg]; exact (below_size (by repeat (first | (with_reducible first | exact HB.out | apply below_alloc | apply pw_below_drewN | apply below_drew1) | exact HB.out))) : w.heap.size ≤ gb204001)); replace HB := aQ (below_step (by repeat (first | (with_reducible first | exact HB.out | apply below_alloc | apply pw_below_drewN | apply below_drew1) | exact HB.out)) hb); clear hb hbox hg))
 repeat (go_quiet (first | ((with_reducible refine gate_dst (N := 1) rfl ?_); (try (refine gate_guard (by rfl) ?_; dsimp only)); refine box_event ?hg (N := 1) ?hd (cs := #[.int .i64 a0_0, .slice A0_1 l0_1.length c0_1, .slice A0_2 l0_2.length c0_2]) (t := 71) ?hr ?_; (case hd => rfl); (case hg => rfl); (case hr => first | (go_simp; done) | (go_simp; rfl)); intro gb204001 hg w3 hbox hb; have BK204001 := aQ (hbox); have GW204001 := aQ ((by rw [hg]; exact (below_size (by repeat (first | (with_reducible first | exact HB.out | apply below_alloc | apply pw_below_drewN | apply below_drew1) | exact HB.out))) : w.heap.size ≤ gb204001)); have GE204001 := aQ ((by rw [hg]; exact (below_size (by repeat (first | (with_reducible first | exact HB.out | apply below_alloc | apply pw_below_drewN | apply below_drew1) | exact HB.out))) : w.heap.size ≤ gb204001)); replace HB := aQ (below_step (by repeat (first | (with_reducible first | exact HB.out | apply below_alloc | apply pw_below_drewN | apply below_drew1) | exact HB.out)) hb); clear hb hbox hg)); go_upto_region 1 with (first | ((with_reducible refine gate_dst (N := 1) rfl ?_); (try (refine gate_guard (by rfl) ?_; dsimp only)); refine box_event ?hg (N := 1) ?hd (cs := #[.int .i64 a0_0, .slice A0_1 l0_1.length c0_1, .slice A0_2 l0_2.length c0_2]) (t := 71) ?hr ?_; (case hd => rfl); (case hg => rfl); (case hr => first | (go_simp; done) | (go_simp; rfl)); intro gb204001 hg w3 hbox hb; have BK204001 := aQ (hbox); have GW204001 := aQ ((by rw [hg]; exact (below_size (by repeat (first | (with_reducible first | exact HB.out | apply below_alloc | apply pw_below_drewN | apply below_drew1) | exact HB.out))) : w.heap.size ≤ gb204001)); have GE204001 := aQ ((by rw [hg]; exact (below_size (by repeat (first | (with_reducible first | exact HB.out | apply below_alloc | apply pw_below_drewN | apply below_drew1) | exact HB.out))) : w.heap.size ≤ gb204001)); replace HB := aQ (below_step (by repeat (first | (with_reducible first | exact HB.out | apply below_alloc | apply pw_below_drewN | apply below_drew1) | exact HB.out)) hb); clear hb hbox hg)))
 (try simp only [Act.put, List.setIfInBounds_toArray, List.set_cons_zero, List.set_cons_succ])
 go_cut [26] (fun v26 wc => ∃ (kq : Nat) (x26_1 : Bool), v26 = .bool x26_1 ∧ Aside0 (impl_IsGraph.j0 kq x26_1 a0_0 l0_1 l0_2 = some r) ∧ Aside0 (kq ≤ k) ∧ Aside0 (wc.heap[gb204001]? = some (.cells #[.int .i64 a0_0, (.slice A0_1 l0_1.length c0_1), (.slice A0_2 l0_2.length c0_2)] 71 (0, 0))) ∧ Aside0 (Below w.heap.size w wc))
 case first =>
  have H := HC2.out
  clear HC2
  by_cases c4 : a0_0 < 0
  ·rw [if_pos c4] at H
   have c4b0 : decide (a0_0 < 0) = true := decide_eq_true c4
   clear c4
   (first | rw [c4b0] | (simp only [i64_w, i32_w]; rw [c4b0]) | skip)
   have H' := aQ H
   clear H
   have hcz5_0 : w3.cell? ⟨gb204001, 0, none⟩ = some (.int .i64 a0_0) := (blk_cell BK204001.out 0).trans rfl
   have hcz5_1 : w3.cell? ⟨gb204001, 1, none⟩ = some (.slice A0_1 l0_1.length c0_1) := (blk_cell BK204001.out 1).trans rfl
   have hcz5_2 : w3.cell? ⟨gb204001, 2, none⟩ = some (.slice A0_2 l0_2.length c0_2) := (blk_cell BK204001.out 2).trans rfl
   have hfz5_0 := blk_frozen BK204001.out 0
   have hfz5_1 := blk_frozen BK204001.out 1
   have hfz5_2 := blk_frozen BK204001.out 2
   go_wp2
   repeat (go_quiet (fail); try go_wp2)
   go_meet
   case rel => exact ⟨_, (true), (by first | rfl | (simp; done) | (simp [*]; done)), H', ⟨by first | omega | exact Nat.le_refl _⟩, ⟨by (with_reducible repeat (first | refine blk_drewN ?_ _ | refine blk_drew ?_ | refine blk_alloc ?_ _)); exact BK204001.out⟩, ⟨by repeat (first | (with_reducible first | exact HB.out | apply below_alloc | apply pw_below_drewN | apply below_drew1 | refine below_set ?_ GE204001.out) | exact HB.out)⟩⟩
  ·rw [if_neg c4] at H
   have c4b0 : decide (a0_0 < 0) = false := decide_eq_false c4
   clear c4
   (first | rw [c4b0] | (simp only [i64_w, i32_w]; rw [c4b0]) | skip)
   by_cases c6 : a0_0 > 6
   ·rw [if_pos c6] at H
    have c6b0 : decide (6 < a0_0) = true := decide_eq_true c6
    clear c6
    have H' := aQ H
    clear H
    have hcz7_0 : w3.cell? ⟨gb204001, 0, none⟩ = some (.int .i64 a0_0) := (blk_cell BK204001.out 0).trans rfl
    have hcz7_1 : w3.cell? ⟨gb204001, 1, none⟩ = some (.slice A0_1 l0_1.length c0_1) := (blk_cell BK204001.out 1).trans rfl
    have hcz7_2 : w3.cell? ⟨gb204001, 2, none⟩ = some (.slice A0_2 l0_2.length c0_2) := (blk_cell BK204001.out 2).trans rfl
    have hfz7_0 := blk_frozen BK204001.out 0
    have hfz7_1 := blk_frozen BK204001.out 1
    have hfz7_2 := blk_frozen BK204001.out 2
    go_wp2
    repeat (go_quiet (fail); try go_wp2)
    go_meet
    case rel => exact ⟨_, (true), (by first | rfl | (simp; done) | (simp [*]; done)), H', ⟨by first | omega | exact Nat.le_refl _⟩, ⟨by (with_reducible repeat (first | refine blk_drewN ?_ _ | refine blk_drew ?_ | refine blk_alloc ?_ _)); exact BK204001.out⟩, ⟨by repeat (first | (with_reducible first | exact HB.out | apply below_alloc | apply pw_below_drewN | apply below_drew1 | refine below_set ?_ GE204001.out) | exact HB.out)⟩⟩
   ·rw [if_neg c6] at H
    have c6b0 : decide (6 < a0_0) = false := decide_eq_false c6
    clear c6
    by_cases c8 : (l0_1.length : Int) > 8
    ·rw [if_pos c8] at H
     have c8b0 : decide (8 < (l0_1.length : Int)) = true := decide_eq_true c8
     have c8b1 : decide (8 < l0_1.length) = true := decide_eq_true (by omega)
     clear c8
     have H' := aQ H
     clear H
     have hcz9_0 : w3.cell? ⟨gb204001, 0, none⟩ = some (.int .i64 a0_0) := (blk_cell BK204001.out 0).trans rfl
     have hcz9_1 : w3.cell? ⟨gb204001, 1, none⟩ = some (.slice A0_1 l0_1.length c0_1) := (blk_cell BK204001.out 1).trans rfl
     have hcz9_2 : w3.cell? ⟨gb204001, 2, none⟩ = some (.slice A0_2 l0_2.length c0_2) := (blk_cell BK204001.out 2).trans rfl
     have hfz9_0 := blk_frozen BK204001.out 0
     have hfz9_1 := blk_frozen BK204001.out 1
     have hfz9_2 := blk_frozen BK204001.out 2
     go_wp2
     repeat (go_quiet (fail); try go_wp2)
     go_meet
     case rel => exact ⟨_, (true), (by first | rfl | (simp; done) | (simp [*]; done)), H', ⟨by first | omega | exact Nat.le_refl _⟩, ⟨by (with_reducible repeat (first | refine blk_drewN ?_ _ | refine blk_drew ?_ | refine blk_alloc ?_ _)); exact BK204001.out⟩, ⟨by repeat (first | (with_reducible first | exact HB.out | apply below_alloc | apply pw_below_drewN | apply below_drew1 | refine below_set ?_ GE204001.out) | exact HB.out)⟩⟩
    ·rw [if_neg c8] at H
     have c8b0 : decide (8 < (l0_1.length : Int)) = false := decide_eq_false c8
     have c8b1 : decide (8 < l0_1.length) = false := decide_eq_false (by omega)
     clear c8
     have H' := aQ H
     clear H
     have hcz10_0 : w3.cell? ⟨gb204001, 0, none⟩ = some (.int .i64 a0_0) := (blk_cell BK204001.out 0).trans rfl
     have hcz10_1 : w3.cell? ⟨gb204001, 1, none⟩ = some (.slice A0_1 l0_1.length c0_1) := (blk_cell BK204001.out 1).trans rfl
     have hcz10_2 : w3.cell? ⟨gb204001, 2, none⟩ = some (.slice A0_2 l0_2.length c0_2) := (blk_cell BK204001.out 2).trans rfl
     have hfz10_0 := blk_frozen BK204001.out 0
     have hfz10_1 := blk_frozen BK204001.out 1
     have hfz10_2 := blk_frozen BK204001.out 2
     go_wp2
     repeat (go_quiet (fail); try go_wp2)
     go_meet
     case rel => exact ⟨_, (((l0_1.length : Int) != (l0_2.length : Int))), (by first | rfl | (simp; done) | (simp [*]; done)), H', ⟨by first | omega | exact Nat.le_refl _⟩, ⟨by (with_reducible repeat (first | refine blk_drewN ?_ _ | refine blk_drew ?_ | refine blk_alloc ?_ _)); exact BK204001.out⟩, ⟨by repeat (first | (with_reducible first | exact HB.out | apply below_alloc | apply pw_below_drewN | apply below_drew1 | refine below_set ?_ GE204001.out) | exact HB.out)⟩⟩
 case rest =>
  clear HC2
  try clear c2
  try clear p2
  try clear c4
  try clear c4b0
  try clear c6
  try clear c6b0
  try clear c8
  try clear c8b0
  try clear c8b1
  try clear hcz10_0
  try clear hcz10_1
  try clear hcz10_2
  try clear hcz5_0
  try clear hcz5_1
  try clear hcz5_2
  try clear hcz7_0
  try clear hcz7_1
  try clear hcz7_2
  try clear hcz9_0
  try clear hcz9_1
  try clear hcz9_2
  try clear hfz10_0
  try clear hfz10_1
  try clear hfz10_2
  try clear hfz5_0
  try clear hfz5_1
  try clear hfz5_2
  try clear hfz7_0
  try clear hfz7_1
  try clear hfz7_2
  try clear hfz9_0
  try clear hfz9_1
  try clear hfz9_2
  obtain ⟨kq, x26_1, rfl, HA, HJ1, BK204001, HB⟩ := hcut
  cases kq with
  | zero => exact absurd HA.out (by simp [impl_IsGraph.j0])
  | succ kj1 =>
   have H := HA.out
   clear HA
   simp only [impl_IsGraph.j0] at H
   by_cases c11 : x26_1 = true
   ·subst c11
    have H1 : (some false) = some r := by rw [if_pos rfl] at H; exact H
    clear H
    have H := H1
    clear H1
    obtain rfl := Option.some.inj H
    go_wp2
    repeat (go_quiet (fail); try go_wp2)
    go_ret
    exact ⟨by first | rfl | (simp [errW_none, errW_some] <;> rfl) | (simp [*, errW_none, errW_some] <;> rfl), by repeat (first | (with_reducible first | exact HB.out | apply below_alloc | apply pw_below_drewN | apply below_drew1 | refine below_set ?_ GE204001.out) | exact HB.out)⟩
   ·replace c11 := Bool.eq_false_iff.mpr c11
    subst c11
    have H1 : (impl_IsGraph.l0 kj1 (l0_1.length : Int) 0 a0_0 l0_1 l0_2) = some r := by rw [if_neg (show ¬ (false = true) by decide)] at H; exact H
    clear H
    have H := H1
    clear H1
    have H' := aQ H
    clear H
    have hcz12_0 : wc.cell? ⟨gb204001, 0, none⟩ = some (.int .i64 a0_0) := (blk_cell BK204001.out 0).trans rfl
    have hcz12_1 : wc.cell? ⟨gb204001, 1, none⟩ = some (.slice A0_1 l0_1.length c0_1) := (blk_cell BK204001.out 1).trans rfl
    have hcz12_2 : wc.cell? ⟨gb204001, 2, none⟩ = some (.slice A0_2 l0_2.length c0_2) := (blk_cell BK204001.out 2).trans rfl
    have hfz12_0 := blk_frozen BK204001.out 0
    have hfz12_1 := blk_frozen BK204001.out 1
    have hfz12_2 := blk_frozen BK204001.out 2
    go_wp2
    repeat (go_quiet (fail); try go_wp2)
    go_loopg [30] kj1 (fun kq v30 w' => ∃ (x30_2 : Int), v30 = .int .i64 x30_2 ∧ Aside0 (impl_IsGraph.l0 kq (l0_1.length : Int) x30_2 a0_0 l0_1 l0_2 = some r) ∧ Aside0 (kq ≤ kj1) ∧ Aside0 (w'.heap[gb204001]? = some (.cells #[.int .i64 a0_0, (.slice A0_1 l0_1.length c0_1), (.slice A0_2 l0_2.length c0_2)] 71 (0, 0))) ∧ Aside0 (Below w.heap.size w w'))
    case atStart => exact ⟨(0), (by first | rfl | (simp; done) | (simp [*]; done)), H', ⟨Nat.le_refl _⟩, ⟨by (with_reducible repeat (first | refine blk_drewN ?_ _ | refine blk_drew ?_ | refine blk_alloc ?_ _)); exact BK204001.out⟩, ⟨by repeat (first | (with_reducible first | exact HB.out | apply below_alloc | apply pw_below_drewN | apply below_drew1 | refine below_set ?_ GE204001.out) | exact HB.out)⟩⟩
    case round =>
     clear H'
     try clear c1
     try clear c2
     try clear p2
     try clear c4
     try clear c4b0
     try clear c6
     try clear c6b0
     try clear c8
     try clear c8b0
     try clear c8b1
     try clear c11
     try clear hcz10_0
     try clear hcz10_1
     try clear hcz10_2
     try clear hcz12_0
     try clear hcz12_1
     try clear hcz12_2
     try clear hcz5_0
     try clear hcz5_1
     try clear hcz5_2
     try clear hcz7_0
     try clear hcz7_1
     try clear hcz7_2
     try clear hcz9_0
     try clear hcz9_1
     try clear hcz9_2
     try clear hfz10_0
     try clear hfz10_1
     try clear hfz10_2
     try clear hfz12_0
     try clear hfz12_1
     try clear hfz12_2
     try clear hfz5_0
     try clear hfz5_1
     try clear hfz5_2
     try clear hfz7_0
     try clear hfz7_1
     try clear hfz7_2
     try clear hfz9_0
     try clear hfz9_1
     try clear hfz9_2
     try clear p2
     obtain ⟨x30_2, rfl, HA, HK2, BK204001, HB⟩ := hrel
     cases gk with
     | zero => exact absurd HA.out (by simp [impl_IsGraph.l0])
     | succ k2 =>
      have H := HA.out
      clear HA
      simp only [impl_IsGraph.l0] at H
      by_cases c13 : x30_2 < (l0_1.length : Int)
      ·rw [if_pos c13] at H
       have c13b0 : decide (x30_2 < (l0_1.length : Int)) = true := decide_eq_true c13
       clear c13
       by_cases c14 : 0 ≤ x30_2
       ·rw [if_pos c14] at H
        have c14b0 : decide (0 ≤ x30_2) = true := decide_eq_true c14
        clear c14
        by_cases c15 : x30_2 < (l0_1.length : Int)
        ·rw [if_pos c15] at H
         have c15b0 : decide (x30_2 < (l0_1.length : Int)) = true := decide_eq_true c15
         clear c15
         by_cases c16 : (rd l0_1 x30_2) < 0
         ·rw [if_pos c16] at H
          have c16b0 : decide ((rd l0_1 x30_2) < 0) = true := decide_eq_true c16
          clear c16
          obtain rfl := Option.some.inj H
          have hcz17_0 : wr.cell? ⟨gb204001, 0, none⟩ = some (.int .i64 a0_0) := (blk_cell BK204001.out 0).trans rfl
          have hcz17_1 : wr.cell? ⟨gb204001, 1, none⟩ = some (.slice A0_1 l0_1.length c0_1) := (blk_cell BK204001.out 1).trans rfl
          have hcz17_2 : wr.cell? ⟨gb204001, 2, none⟩ = some (.slice A0_2 l0_2.length c0_2) := (blk_cell BK204001.out 2).trans rfl
          have hfz17_0 := blk_frozen BK204001.out 0
          have hfz17_1 := blk_frozen BK204001.out 1
          have hfz17_2 := blk_frozen BK204001.out 2
          have p204002 : 0 ≤ (x30_2 : Int) := of_decide_eq_true (by first | (with_reducible assumption) | assumption)
          have q204002 : x30_2 < (l0_1.length : Int) := of_decide_eq_true (by first | (with_reducible assumption) | assumption)
          obtain ⟨ad204002, e204002, hx204002_0⟩ := Kd.at_int HR0_1.out x30_2 p204002 q204002
          cases e204002
          replace hx204002_0 := (HB.out.cell (World.block_lt_of_cell? w _ hx204002_0)).trans hx204002_0
          replace p204002 := eq_true p204002
          replace q204002 := eq_true q204002
          go_wp2
          repeat (go_quiet (fail); try go_wp2)
          go_ret
          exact ⟨by first | rfl | (simp [errW_none, errW_some] <;> rfl) | (simp [*, errW_none, errW_some] <;> rfl), by repeat (first | (with_reducible first | exact HB.out | apply below_alloc | apply pw_below_drewN | apply below_drew1 | refine below_set ?_ GE204001.out) | exact HB.out)⟩
         ·rw [if_neg c16] at H
          have c16b0 : decide ((rd l0_1 x30_2) < 0) = false := decide_eq_false c16
          clear c16
          by_cases c18 : (rd l0_1 x30_2) ≥ a0_0
          ·rw [if_pos c18] at H
           have c18b0 : decide (a0_0 ≤ (rd l0_1 x30_2)) = true := decide_eq_true c18
           clear c18
           obtain rfl := Option.some.inj H
           have hcz19_0 : wr.cell? ⟨gb204001, 0, none⟩ = some (.int .i64 a0_0) := (blk_cell BK204001.out 0).trans rfl
           have hcz19_1 : wr.cell? ⟨gb204001, 1, none⟩ = some (.slice A0_1 l0_1.length c0_1) := (blk_cell BK204001.out 1).trans rfl
           have hcz19_2 : wr.cell? ⟨gb204001, 2, none⟩ = some (.slice A0_2 l0_2.length c0_2) := (blk_cell BK204001.out 2).trans rfl
           have hfz19_0 := blk_frozen BK204001.out 0
           have hfz19_1 := blk_frozen BK204001.out 1
           have hfz19_2 := blk_frozen BK204001.out 2
           have p204002 : 0 ≤ (x30_2 : Int) := of_decide_eq_true (by first | (with_reducible assumption) | assumption)
           have q204002 : x30_2 < (l0_1.length : Int) := of_decide_eq_true (by first | (with_reducible assumption) | assumption)
           obtain ⟨ad204002, e204002, hx204002_0⟩ := Kd.at_int HR0_1.out x30_2 p204002 q204002
           cases e204002
           replace hx204002_0 := (HB.out.cell (World.block_lt_of_cell? w _ hx204002_0)).trans hx204002_0
           replace p204002 := eq_true p204002
           replace q204002 := eq_true q204002
           have p204003 : 0 ≤ (x30_2 : Int) := of_decide_eq_true (by first | (with_reducible assumption) | assumption)
           have q204003 : x30_2 < (l0_1.length : Int) := of_decide_eq_true (by first | (with_reducible assumption) | assumption)
           obtain ⟨ad204003, e204003, hx204003_0⟩ := Kd.at_int HR0_1.out x30_2 p204003 q204003
           obtain rfl : ad204002 = ad204003 := (by injection e204003)
           replace hx204003_0 := (HB.out.cell (World.block_lt_of_cell? w _ hx204003_0)).trans hx204003_0
           replace p204003 := eq_true p204003
           replace q204003 := eq_true q204003
           go_wp2
           repeat (go_quiet (fail); try go_wp2)
           go_ret
           exact ⟨by first | rfl | (simp [errW_none, errW_some] <;> rfl) | (simp [*, errW_none, errW_some] <;> rfl), by repeat (first | (with_reducible first | exact HB.out | apply below_alloc | apply pw_below_drewN | apply below_drew1 | refine below_set ?_ GE204001.out) | exact HB.out)⟩
          ·rw [if_neg c18] at H
           have c18b0 : decide (a0_0 ≤ (rd l0_1 x30_2)) = false := decide_eq_false c18
           clear c18
           by_cases c20 : x30_2 < (l0_2.length : Int)
           ·rw [if_pos c20] at H
            have c20b0 : decide (x30_2 < (l0_2.length : Int)) = true := decide_eq_true c20
            clear c20
            by_cases c21 : (rd l0_2 x30_2) < 0
            ·rw [if_pos c21] at H
             have c21b0 : decide ((rd l0_2 x30_2) < 0) = true := decide_eq_true c21
             clear c21
             obtain rfl := Option.some.inj H
             have hcz22_0 : wr.cell? ⟨gb204001, 0, none⟩ = some (.int .i64 a0_0) := (blk_cell BK204001.out 0).trans rfl
             have hcz22_1 : wr.cell? ⟨gb204001, 1, none⟩ = some (.slice A0_1 l0_1.length c0_1) := (blk_cell BK204001.out 1).trans rfl
             have hcz22_2 : wr.cell? ⟨gb204001, 2, none⟩ = some (.slice A0_2 l0_2.length c0_2) := (blk_cell BK204001.out 2).trans rfl
             have hfz22_0 := blk_frozen BK204001.out 0
             have hfz22_1 := blk_frozen BK204001.out 1
             have hfz22_2 := blk_frozen BK204001.out 2
             have p204002 : 0 ≤ (x30_2 : Int) := of_decide_eq_true (by first | (with_reducible assumption) | assumption)
             have q204002 : x30_2 < (l0_1.length : Int) := of_decide_eq_true (by first | (with_reducible assumption) | assumption)
             obtain ⟨ad204002, e204002, hx204002_0⟩ := Kd.at_int HR0_1.out x30_2 p204002 q204002
             cases e204002
             replace hx204002_0 := (HB.out.cell (World.block_lt_of_cell? w _ hx204002_0)).trans hx204002_0
             replace p204002 := eq_true p204002
             replace q204002 := eq_true q204002
             have p204003 : 0 ≤ (x30_2 : Int) := of_decide_eq_true (by first | (with_reducible assumption) | assumption)
             have q204003 : x30_2 < (l0_1.length : Int) := of_decide_eq_true (by first | (with_reducible assumption) | assumption)
             obtain ⟨ad204003, e204003, hx204003_0⟩ := Kd.at_int HR0_1.out x30_2 p204003 q204003
             obtain rfl : ad204002 = ad204003 := (by injection e204003)
             replace hx204003_0 := (HB.out.cell (World.block_lt_of_cell? w _ hx204003_0)).trans hx204003_0
             replace p204003 := eq_true p204003
             replace q204003 := eq_true q204003
             have p204004 : 0 ≤ (x30_2 : Int) := of_decide_eq_true (by first | (with_reducible assumption) | assumption)
             have q204004 : x30_2 < (l0_2.length : Int) := of_decide_eq_true (by first | (with_reducible assumption) | assumption)
             obtain ⟨ad204004, e204004, hx204004_0⟩ := Kd.at_int HR0_2.out x30_2 p204004 q204004
             cases e204004
             replace hx204004_0 := (HB.out.cell (World.block_lt_of_cell? w _ hx204004_0)).trans hx204004_0
             replace p204004 := eq_true p204004
             replace q204004 := eq_true q204004
             go_wp2
             repeat (go_quiet (fail); try go_wp2)
             go_ret
             exact ⟨by first | rfl | (simp [errW_none, errW_some] <;> rfl) | (simp [*, errW_none, errW_some] <;> rfl), by repeat (first | (with_reducible first | exact HB.out | apply below_alloc | apply pw_below_drewN | apply below_drew1 | refine below_set ?_ GE204001.out) | exact HB.out)⟩
            ·rw [if_neg c21] at H
             have c21b0 : decide ((rd l0_2 x30_2) < 0) = false := decide_eq_false c21
             clear c21
             by_cases c23 : (rd l0_2 x30_2) ≥ a0_0
             ·rw [if_pos c23] at H
              have c23b0 : decide (a0_0 ≤ (rd l0_2 x30_2)) = true := decide_eq_true c23
              clear c23
              obtain rfl := Option.some.inj H
              have hcz24_0 : wr.cell? ⟨gb204001, 0, none⟩ = some (.int .i64 a0_0) := (blk_cell BK204001.out 0).trans rfl
              have hcz24_1 : wr.cell? ⟨gb204001, 1, none⟩ = some (.slice A0_1 l0_1.length c0_1) := (blk_cell BK204001.out 1).trans rfl
              have hcz24_2 : wr.cell? ⟨gb204001, 2, none⟩ = some (.slice A0_2 l0_2.length c0_2) := (blk_cell BK204001.out 2).trans rfl
              have hfz24_0 := blk_frozen BK204001.out 0
              have hfz24_1 := blk_frozen BK204001.out 1
              have hfz24_2 := blk_frozen BK204001.out 2
              have p204002 : 0 ≤ (x30_2 : Int) := of_decide_eq_true (by first | (with_reducible assumption) | assumption)
              have q204002 : x30_2 < (l0_1.length : Int) := of_decide_eq_true (by first | (with_reducible assumption) | assumption)
              obtain ⟨ad204002, e204002, hx204002_0⟩ := Kd.at_int HR0_1.out x30_2 p204002 q204002
              cases e204002
              replace hx204002_0 := (HB.out.cell (World.block_lt_of_cell? w _ hx204002_0)).trans hx204002_0
              replace p204002 := eq_true p204002
              replace q204002 := eq_true q204002
              have p204003 : 0 ≤ (x30_2 : Int) := of_decide_eq_true (by first | (with_reducible assumption) | assumption)
              have q204003 : x30_2 < (l0_1.length : Int) := of_decide_eq_true (by first | (with_reducible assumption) | assumption)
              obtain ⟨ad204003, e204003, hx204003_0⟩ := Kd.at_int HR0_1.out x30_2 p204003 q204003
              obtain rfl : ad204002 = ad204003 := (by injection e204003)
              replace hx204003_0 := (HB.out.cell (World.block_lt_of_cell? w _ hx204003_0)).trans hx204003_0
              replace p204003 := eq_true p204003
              replace q204003 := eq_true q204003
              have p204004 : 0 ≤ (x30_2 : Int) := of_decide_eq_true (by first | (with_reducible assumption) | assumption)
              have q204004 : x30_2 < (l0_2.length : Int) := of_decide_eq_true (by first | (with_reducible assumption) | assumption)
              obtain ⟨ad204004, e204004, hx204004_0⟩ := Kd.at_int HR0_2.out x30_2 p204004 q204004
              cases e204004
              replace hx204004_0 := (HB.out.cell (World.block_lt_of_cell? w _ hx204004_0)).trans hx204004_0
              replace p204004 := eq_true p204004
              replace q204004 := eq_true q204004
              have p204005 : 0 ≤ (x30_2 : Int) := of_decide_eq_true (by first | (with_reducible assumption) | assumption)
              have q204005 : x30_2 < (l0_2.length : Int) := of_decide_eq_true (by first | (with_reducible assumption) | assumption)
              obtain ⟨ad204005, e204005, hx204005_0⟩ := Kd.at_int HR0_2.out x30_2 p204005 q204005
              obtain rfl : ad204004 = ad204005 := (by injection e204005)
              replace hx204005_0 := (HB.out.cell (World.block_lt_of_cell? w _ hx204005_0)).trans hx204005_0
              replace p204005 := eq_true p204005
              replace q204005 := eq_true q204005
              go_wp2
              repeat (go_quiet (fail); try go_wp2)
              go_ret
              exact ⟨by first | rfl | (simp [errW_none, errW_some] <;> rfl) | (simp [*, errW_none, errW_some] <;> rfl), by repeat (first | (with_reducible first | exact HB.out | apply below_alloc | apply pw_below_drewN | apply below_drew1 | refine below_set ?_ GE204001.out) | exact HB.out)⟩
             ·rw [if_neg c23] at H
              have c23b0 : decide (a0_0 ≤ (rd l0_2 x30_2)) = false := decide_eq_false c23
              clear c23
              have H' := aQ H
              clear H
              have hcz25_0 : wr.cell? ⟨gb204001, 0, none⟩ = some (.int .i64 a0_0) := (blk_cell BK204001.out 0).trans rfl
              have hcz25_1 : wr.cell? ⟨gb204001, 1, none⟩ = some (.slice A0_1 l0_1.length c0_1) := (blk_cell BK204001.out 1).trans rfl
              have hcz25_2 : wr.cell? ⟨gb204001, 2, none⟩ = some (.slice A0_2 l0_2.length c0_2) := (blk_cell BK204001.out 2).trans rfl
              have hfz25_0 := blk_frozen BK204001.out 0
              have hfz25_1 := blk_frozen BK204001.out 1
              have hfz25_2 := blk_frozen BK204001.out 2
              have p204002 : 0 ≤ (x30_2 : Int) := of_decide_eq_true (by first | (with_reducible assumption) | assumption)
              have q204002 : x30_2 < (l0_1.length : Int) := of_decide_eq_true (by first | (with_reducible assumption) | assumption)
              obtain ⟨ad204002, e204002, hx204002_0⟩ := Kd.at_int HR0_1.out x30_2 p204002 q204002
              cases e204002
              replace hx204002_0 := (HB.out.cell (World.block_lt_of_cell? w _ hx204002_0)).trans hx204002_0
              replace p204002 := eq_true p204002
              replace q204002 := eq_true q204002
              have p204003 : 0 ≤ (x30_2 : Int) := of_decide_eq_true (by first | (with_reducible assumption) | assumption)
              have q204003 : x30_2 < (l0_1.length : Int) := of_decide_eq_true (by first | (with_reducible assumption) | assumption)
              obtain ⟨ad204003, e204003, hx204003_0⟩ := Kd.at_int HR0_1.out x30_2 p204003 q204003
              obtain rfl : ad204002 = ad204003 := (by injection e204003)
              replace hx204003_0 := (HB.out.cell (World.block_lt_of_cell? w _ hx204003_0)).trans hx204003_0
              replace p204003 := eq_true p204003
              replace q204003 := eq_true q204003
              have p204004 : 0 ≤ (x30_2 : Int) := of_decide_eq_true (by first | (with_reducible assumption) | assumption)
              have q204004 : x30_2 < (l0_2.length : Int) := of_decide_eq_true (by first | (with_reducible assumption) | assumption)
              obtain ⟨ad204004, e204004, hx204004_0⟩ := Kd.at_int HR0_2.out x30_2 p204004 q204004
              cases e204004
              replace hx204004_0 := (HB.out.cell (World.block_lt_of_cell? w _ hx204004_0)).trans hx204004_0
              replace p204004 := eq_true p204004
              replace q204004 := eq_true q204004
              have p204005 : 0 ≤ (x30_2 : Int) := of_decide_eq_true (by first | (with_reducible assumption) | assumption)
              have q204005 : x30_2 < (l0_2.length : Int) := of_decide_eq_true (by first | (with_reducible assumption) | assumption)
              obtain ⟨ad204005, e204005, hx204005_0⟩ := Kd.at_int HR0_2.out x30_2 p204005 q204005
              obtain rfl : ad204004 = ad204005 := (by injection e204005)
              replace hx204005_0 := (HB.out.cell (World.block_lt_of_cell? w _ hx204005_0)).trans hx204005_0
              replace p204005 := eq_true p204005
              replace q204005 := eq_true q204005
              go_wp2
              repeat (go_quiet (fail); try go_wp2)
              go_roundg k2
              case measure => have := HJ1.out; have := HK2.out; omega
              case rel => exact ⟨(wrap64 (x30_2 + 1)), (by first | rfl | (simp; done) | (simp [*]; done)), H', ⟨by have := HJ1.out; have := HK2.out; omega⟩, ⟨by (with_reducible repeat (first | refine blk_drewN ?_ _ | refine blk_drew ?_ | refine blk_alloc ?_ _)); exact BK204001.out⟩, ⟨by repeat (first | (with_reducible first | exact HB.out | apply below_alloc | apply pw_below_drewN | apply below_drew1 | refine below_set ?_ GE204001.out) | exact HB.out)⟩⟩
           ·rw [if_neg c20] at H
            exact absurd H (by simp)
        ·rw [if_neg c15] at H
         exact absurd H (by simp)
       ·rw [if_neg c14] at H
        exact absurd H (by simp)
      ·rw [if_neg c13] at H
       have c13b0 : decide (x30_2 < (l0_1.length : Int)) = false := decide_eq_false c13
       clear c13
       obtain rfl := Option.some.inj H
       go_wp2
       repeat (go_quiet (fail); try go_wp2)
       go_ret
       exact ⟨by first | rfl | (simp [errW_none, errW_some] <;> rfl) | (simp [*, errW_none, errW_some] <;> rfl), by repeat (first | (with_reducible first | exact HB.out | apply below_alloc | apply pw_below_drewN | apply below_drew1 | refine below_set ?_ GE204001.out) | exact HB.out)⟩
/-! ### impl_pieces: function 205 -/
mutual
def impl_pieces.l0 : Nat → Int → List Int → Int → Int → Int → List Int → List Int → Option (Int)
 | 0, _, _, _, _, _, _, _ => none
 | k + 1, x1, x5, x17, x18, x206002000, x206002001, x206002002 => if x18 < x17 then (if 0 ≤ x18 then (if x18 < (x5.length : Int) then (impl_pieces.l0 k x1 (x5.set (x18 : Int).toNat x18) x17 (wrap64 (x18 + 1)) x206002000 x206002001 x206002002) else (none)) else (none)) else ((impl_ElementsOf.f k x1).bind fun t206006 => (impl_pieces.l1 k x5 x206002000 t206006 (t206006.length : Int) 0 x206002000 x206002001 x206002002))
def impl_pieces.l1 : Nat → List Int → Int → List Int → Int → Int → Int → List Int → List Int → Option (Int)
 | 0, _, _, _, _, _, _, _, _ => none
 | k + 1, x5, x7, x29, x30, x31, x206002000, x206002001, x206002002 => if x31 < x30 then (if 0 ≤ x31 then (if x31 < (x29.length : Int) then (if 0 ≤ (rd x29 x31) then (if (rd x29 x31) < (x206002001.length : Int) then (if 0 ≤ (rd x206002001 (rd x29 x31)) then (if (rd x206002001 (rd x29 x31)) < (x5.length : Int) then (if (rd x29 x31) < (x206002002.length : Int) then (if 0 ≤ (rd x206002002 (rd x29 x31)) then (if (rd x206002002 (rd x29 x31)) < (x5.length : Int) then (if (rd x5 (rd x206002001 (rd x29 x31))) = (rd x5 (rd x206002002 (rd x29 x31))) then (impl_pieces.l1 k x5 x7 x29 x30 (wrap64 (x31 + 1)) x206002000 x206002001 x206002002) else (impl_pieces.l2 k x5 (wrap64 (x7 - 1)) (rd x5 (rd x206002001 (rd x29 x31))) (rd x5 (rd x206002002 (rd x29 x31))) x29 x30 x31 (x5.length : Int) 0 x206002000 x206002001 x206002002)) else (none)) else (none)) else (none)) else (none)) else (none)) else (none)) else (none)) else (none)) else (none)) else (some x7)
def impl_pieces.l2 : Nat → List Int → Int → Int → Int → List Int → Int → Int → Int → Int → Int → List Int → List Int → Option (Int)
 | 0, _, _, _, _, _, _, _, _, _, _, _, _ => none
 | k + 1, x5, x7, x10, x11, x29, x30, x31, x57, x58, x206002000, x206002001, x206002002 => if x58 < x57 then (if 0 ≤ x58 then (if x58 < (x5.length : Int) then (if (rd x5 x58) = x11 then (impl_pieces.l2 k (x5.set (x58 : Int).toNat x10) x7 x10 x11 x29 x30 x31 x57 (wrap64 (x58 + 1)) x206002000 x206002001 x206002002) else (impl_pieces.l2 k x5 x7 x10 x11 x29 x30 x31 x57 (wrap64 (x58 + 1)) x206002000 x206002001 x206002002)) else (none)) else (none)) else (impl_pieces.l1 k x5 x7 x29 x30 (wrap64 (x31 + 1)) x206002000 x206002001 x206002002)
end
def impl_pieces.f (k : Nat) (a0_0 : Int) (l0_1 : List Int) (l0_2 : List Int) (a1 : Int) : Option (Int) := if 0 ≤ a0_0 then (if (a0_0 : Int).toNat ≤ 35184372088832 then ((some (List.replicate (a0_0 : Int).toNat 0 : List Int)).bind fun y206002 => (impl_pieces.l0 k a1 y206002 (y206002.length : Int) 0 a0_0 l0_1 l0_2)) else (none)) else (none)
theorem impl_pieces.mono_l : ∀ k, (∀ y0 y1 y2 y3 y4 y5 y6, LeO (impl_pieces.l0 k y0 y1 y2 y3 y4 y5 y6) (impl_pieces.l0 (k + 1) y0 y1 y2 y3 y4 y5 y6)) ∧ (∀ y0 y1 y2 y3 y4 y5 y6 y7, LeO (impl_pieces.l1 k y0 y1 y2 y3 y4 y5 y6 y7) (impl_pieces.l1 (k + 1) y0 y1 y2 y3 y4 y5 y6 y7)) ∧ (∀ y0 y1 y2 y3 y4 y5 y6 y7 y8 y9 y10 y11, LeO (impl_pieces.l2 k y0 y1 y2 y3 y4 y5 y6 y7 y8 y9 y10 y11) (impl_pieces.l2 (k + 1) y0 y1 y2 y3 y4 y5 y6 y7 y8 y9 y10 y11))
 | 0 => ⟨fun _ _ _ _ _ _ _ r h => by simp [impl_pieces.l0] at h, fun _ _ _ _ _ _ _ _ r h => by simp [impl_pieces.l1] at h, fun _ _ _ _ _ _ _ _ _ _ _ _ r h => by simp [impl_pieces.l2] at h⟩
 | k + 1 => by
  obtain ⟨ih0, ih1, ih2⟩ := impl_pieces.mono_l k
  refine ⟨?_, ?_, ?_⟩
  ·intro y0 y1 y2 y3 y4 y5 y6
   unfold impl_pieces.l0
   repeat' first
   | (with_reducible exact ih0 _ _ _ _ _ _ _)
   | (with_reducible exact ih1 _ _ _ _ _ _ _ _)
   | (with_reducible exact ih2 _ _ _ _ _ _ _ _ _ _ _ _)
   | (with_reducible exact impl_ElementsOf.mono _ _)
   | (with_reducible exact LeO.refl _)
   | (with_reducible exact LeO.none _)
   | (with_reducible refine LeO.ite ?_ ?_)
   | (with_reducible refine LeO.bind ?_ (fun _ => ?_))
   | exact ih0 _ _ _ _ _ _ _
   | exact ih1 _ _ _ _ _ _ _ _
   | exact ih2 _ _ _ _ _ _ _ _ _ _ _ _
   | exact impl_ElementsOf.mono _ _
   | exact LeO.none _
   | refine LeO.ite ?_ ?_
   | refine LeO.bind ?_ (fun _ => ?_)
  ·intro y0 y1 y2 y3 y4 y5 y6 y7
   unfold impl_pieces.l1
   repeat' first
   | (with_reducible exact ih0 _ _ _ _ _ _ _)
   | (with_reducible exact ih1 _ _ _ _ _ _ _ _)
   | (with_reducible exact ih2 _ _ _ _ _ _ _ _ _ _ _ _)
   | (with_reducible exact impl_ElementsOf.mono _ _)
   | (with_reducible exact LeO.refl _)
   | (with_reducible exact LeO.none _)
   | (with_reducible refine LeO.ite ?_ ?_)
   | (with_reducible refine LeO.bind ?_ (fun _ => ?_))
   | exact ih0 _ _ _ _ _ _ _
   | exact ih1 _ _ _ _ _ _ _ _
   | exact ih2 _ _ _ _ _ _ _ _ _ _ _ _
   | exact impl_ElementsOf.mono _ _
   | exact LeO.none _
   | refine LeO.ite ?_ ?_
   | refine LeO.bind ?_ (fun _ => ?_)
  ·intro y0 y1 y2 y3 y4 y5 y6 y7 y8 y9 y10 y11
   unfold impl_pieces.l2
   repeat' first
   | (with_reducible exact ih0 _ _ _ _ _ _ _)
   | (with_reducible exact ih1 _ _ _ _ _ _ _ _)
   | (with_reducible exact ih2 _ _ _ _ _ _ _ _ _ _ _ _)
   | (with_reducible exact impl_ElementsOf.mono _ _)
   | (with_reducible exact LeO.refl _)
   | (with_reducible exact LeO.none _)
   | (with_reducible refine LeO.ite ?_ ?_)
   | (with_reducible refine LeO.bind ?_ (fun _ => ?_))
   | exact ih0 _ _ _ _ _ _ _
   | exact ih1 _ _ _ _ _ _ _ _
   | exact ih2 _ _ _ _ _ _ _ _ _ _ _ _
   | exact impl_ElementsOf.mono _ _
   | exact LeO.none _
   | refine LeO.ite ?_ ?_
   | refine LeO.bind ?_ (fun _ => ?_)
theorem impl_pieces.mono : ∀ a0 a1 a2 a3 k, LeO (impl_pieces.f k a0 a1 a2 a3) (impl_pieces.f (k + 1) a0 a1 a2 a3) := by
 intro a0 a1 a2 a3 k
 obtain ⟨ih0, ih1, ih2⟩ := impl_pieces.mono_l k
 unfold impl_pieces.f
 repeat' first
   | (with_reducible exact ih0 _ _ _ _ _ _ _)
   | (with_reducible exact ih1 _ _ _ _ _ _ _ _)
   | (with_reducible exact ih2 _ _ _ _ _ _ _ _ _ _ _ _)
   | (with_reducible exact impl_ElementsOf.mono _ _)
   | (with_reducible exact LeO.refl _)
   | (with_reducible exact LeO.none _)
   | (with_reducible refine LeO.ite ?_ ?_)
   | (with_reducible refine LeO.bind ?_ (fun _ => ?_))
   | exact ih0 _ _ _ _ _ _ _
   | exact ih1 _ _ _ _ _ _ _ _
   | exact ih2 _ _ _ _ _ _ _ _ _ _ _ _
   | exact impl_ElementsOf.mono _ _
   | exact LeO.none _
   | refine LeO.ite ?_ ?_
   | refine LeO.bind ?_ (fun _ => ?_)
set_option maxHeartbeats 8000000 in
set_option maxRecDepth 100000 in
theorem impl_pieces.calls (k : Nat) (a0_0 : Int) (A0_1 : Option Addr) (c0_1 : Nat) (l0_1 : List Int) (A0_2 : Option Addr) (c0_2 : Nat) (l0_2 : List Int) (a1 : Int) (r : Int) (w : World) (hr0_1 : Kd.C (Kd.int .i64) w A0_1 l0_1.length l0_1) (hc0_1 : l0_1.length ≤ c0_1) (hr0_2 : Kd.C (Kd.int .i64) w A0_2 l0_2.length l0_2) (hc0_2 : l0_2.length ≤ c0_2) (h : impl_pieces.f k a0_0 l0_1 l0_2 a1 = some r) :
  Calls Try.prog 205 #[.agg #[.int .i64 a0_0, .slice A0_1 l0_1.length c0_1, .slice A0_2 l0_2.length c0_2], .int .i64 a1] w fun e w' => e = .returned (.int .i64 r) ∧ Below w.heap.size w w' := by
 have hu71 := Try.underlying71
 have HR0_1 := aQ hr0_1
 have HC0_1 := aQ hc0_1
 clear hr0_1 hc0_1
 have HR0_2 := aQ hr0_2
 have HC0_2 := aQ hc0_2
 clear hr0_2 hc0_2
 have HB := aQ (Below.refl w.heap.size w)
 have H : (if 0 ≤ a0_0 then (if (a0_0 : Int).toNat ≤ 35184372088832 then ((some (List.replicate (a0_0 : Int).toNat 0 : List Int)).bind fun y206002 => (impl_pieces.l0 k a1 y206002 (y206002.length : Int) 0 a0_0 l0_1 l0_2)) else (none)) else (none)) = some r := h
 clear h
 by_cases c3 : 0 ≤ a0_0
 ·rw [if_pos c3] at H
  have c3b0 := eq_true c3
  have c3b1 : decide (0 ≤ a0_0) = true := decide_eq_true c3
  clear c3
  by_cases c4 : (a0_0 : Int).toNat ≤ 35184372088832
  ·rw [if_pos c4] at H
   have c4b0 := eq_true c4
   have c4b1 : decide ((a0_0 : Int).toNat ≤ 35184372088832) = true := decide_eq_true c4
   clear c4
   obtain ⟨y206002, hy206002⟩ : ∃ y_ : List Int, y_ = (List.replicate (a0_0 : Int).toNat 0) := ⟨_, rfl⟩
   replace H : (impl_pieces.l0 k a1 y206002 (y206002.length : Int) 0 a0_0 l0_1 l0_2) = some r := by first | (rw [hy206002]; with_reducible exact H) | (have H2_ := (Option.bind_some _ _).symm.trans H; rw [hy206002]; with_reducible exact H2_) | (have H2_ := (Option.bind_some _ _).symm.trans H; with_reducible exact H2_) | with_reducible exact H | (rw [hy206002]; exact H) | exact H
   have Ny206002 := aQ hy206002
   clear hy206002
   have H' := aQ H
   clear H
   go_enter Try.func205, Try.ntmps205
   go_wp2_with (first | ((with_reducible refine gate_dst (N := 2) rfl ?_); refine box_event ?hg (N := 2) ?hd (cs := #[.int .i64 a0_0, .slice A0_1 l0_1.length c0_1, .slice A0_2 l0_2.length c0_2]) (t := 71) ?hr ?_; (case hd => rfl); (case hg => rfl); (case hr => first | (go_simp; done) | (go_simp; rfl)); intro gb206001 hg w5 hbox hb; have BK206001 := aQ (hbox); have GW206001 := aQ ((by rw [hg]; exact (below_size (by repeat (first | (with_reducible first | exact HB.out | apply below_alloc | apply pw_below_drewN | apply below_drew1) | exact HB.out))) : w.heap.size ≤ gb206001)); have GE206001 := aQ ((by rw [hg]; exact (below_size (by repeat (first | (with_reducible first | exact HB.out | apply below_alloc | apply pw_below_drewN | apply below_drew1) | exact HB.out))) : w.heap.size ≤ gb206001)); replace HB := aQ (below_step (by repeat (first | (with_reducible first | exact HB.out | apply below_alloc | apply pw_below_drewN | apply below_drew1) | exact HB.out)) hb); clear hb hbox hg; have hcz6_0 : w5.cell? ⟨gb206001, 0, none⟩ = some (.int .i64 a0_0) := (blk_cell BK206001.out 0).trans rfl; have hcz6_1 : w5.cell? ⟨gb206001, 1, none⟩ = some (.slice A0_1 l0_1.length c0_1) := (blk_cell BK206001.out 1).trans rfl; have hcz6_2 : w5.cell? ⟨gb206001, 2, none⟩ = some (.slice A0_2 l0_2.length c0_2) := (blk_cell BK206001.out 2).trans rfl; have hfz6_0 := blk_frozen BK206001.out 0; have hfz6_1 := blk_frozen BK206001.out 1; have hfz6_2 := blk_frozen BK206001.out 2) | ((with_reducible refine gate_dst (N := 15) rfl ?_); refine Kd.R_make (Kd.int .i64) _ 3 rfl (N := 15) rfl 22 _ _ rfl a0_0 rfl rfl Try.underlying22 (.int .i64 0) 8 info3 rfl (by decide) (by omega) 0 (ok := fun _ => True) (okp := fun _ => True) rfl (fun _ hk => hk) trivial (of_decide_eq_true (by first | (with_reducible assumption) | assumption)) (Nat.le_trans (Nat.mul_le_mul_right _ (of_decide_eq_true (by first | (with_reducible assumption) | assumption) : a0_0.toNat ≤ 35184372088832)) (by omega)) (Below.refl _ _) (Nat.le_refl _) ?_; intro v206003 w7 ho8 hb hg_ hnew_; clear hg_ hnew_; (first | rw [← Ny206002.out] at ho8 | (simp only [Int.reduceToNat] at ho8; rw [← Ny206002.out] at ho8)); have HO206004 := aQ (Kd.R_lower ho8 (below_size (by repeat (first | (with_reducible first | exact HB.out | apply below_alloc | apply pw_below_drewN | apply below_drew1 | refine below_set ?_ GE206001.out) | exact HB.out)))); replace BK206001 := aQ (blk_below (g := gb206001) (o := .cells #[.int .i64 a0_0, .slice A0_1 l0_1.length c0_1, .slice A0_2 l0_2.length c0_2] 71 (0, 0)) (by (with_reducible repeat (first | refine blk_drewN ?_ _ | refine blk_drew ?_ | refine blk_alloc ?_ _)); exact BK206001.out) hb); replace HB := aQ (below_step (by repeat (first | (with_reducible first | exact HB.out | apply below_alloc | apply pw_below_drewN | apply below_drew1 | refine below_set ?_ GE206001.out) | exact HB.out)) hb); clear hb ho8; obtain ⟨Ao9, co9, eo9⟩ := Kd.R_slice HO206004.out; subst eo9))
   go_loopg [18] k (fun kq v18 w' => ∃ (x5_1 : List Int) (x18_1 : Int), v18 = .int .i64 x18_1 ∧ Aside0 (impl_pieces.l0 kq a1 x5_1 (y206002.length : Int) x18_1 a0_0 l0_1 l0_2 = some r) ∧ Aside0 (kq ≤ k) ∧ Aside0 (Kd.R (Kd.int .i64) 3 w' w.heap.size (fun _ => True) (.slice Ao9 y206002.length co9) x5_1) ∧ Aside0 (w'.heap[gb206001]? = some (.cells #[.int .i64 a0_0, (.slice A0_1 l0_1.length c0_1), (.slice A0_2 l0_2.length c0_2)] 71 (0, 0))) ∧ Aside0 (Below w.heap.size w w'))
   case atStart => exact ⟨(y206002), (0), (by first | rfl | (simp; done) | (simp [*]; done)), H', ⟨Nat.le_refl _⟩, ⟨by (with_reducible repeat (first | apply Kd.R_alloc | apply Kd.R_drewN | apply Kd.R_drew)); exact HO206004.out⟩, ⟨by (with_reducible repeat (first | refine blk_drewN ?_ _ | refine blk_drew ?_ | refine blk_alloc ?_ _)); exact BK206001.out⟩, ⟨by repeat (first | (with_reducible first | exact HB.out | apply below_alloc | apply pw_below_drewN | apply below_drew1 | refine below_set ?_ GE206001.out) | exact HB.out)⟩⟩
   case round =>
    clear H'
    try clear c2
    try clear p2
    try clear c3
    try clear c3b0
    try clear c3b1
    try clear c4
    try clear c4b0
    try clear c4b1
    try clear hcz6_0
    try clear hcz6_1
    try clear hcz6_2
    try clear hfz6_0
    try clear hfz6_1
    try clear hfz6_2
    obtain ⟨x5_1, x18_1, rfl, HA, HK1, HO_5, BK206001, HB⟩ := hrel
    have hl5_1 := (Kd.R_reads' HO_5.out).1
    rw [hl5_1] at HO_5
    (try simp only [hl5_1])
    (try simp only [hl5_1] at BK206001)
    cases gk with
    | zero => exact absurd HA.out (by simp [impl_pieces.l0])
    | succ k1 =>
     have H := HA.out
     clear HA
     simp only [impl_pieces.l0] at H
     by_cases c10 : x18_1 < (y206002.length : Int)
     ·rw [if_pos c10] at H
      have c10b0 : decide (x18_1 < (y206002.length : Int)) = true := decide_eq_true c10
      have c10b9 := c10b0
      (try simp only [hl5_1] at c10b9)
      clear c10
      by_cases c11 : 0 ≤ x18_1
      ·rw [if_pos c11] at H
       have c11b0 : decide (0 ≤ x18_1) = true := decide_eq_true c11
       clear c11
       by_cases c12 : x18_1 < (x5_1.length : Int)
       ·rw [if_pos c12] at H
        have c12b0 : decide (x18_1 < (x5_1.length : Int)) = true := decide_eq_true c12
        have c12b9 := c12b0
        (try simp only [hl5_1] at c12b9)
        clear c12
        obtain ⟨y206005, hy206005⟩ : ∃ y_ : List Int, y_ = (x5_1.set (x18_1 : Int).toNat x18_1) := ⟨_, rfl⟩
        replace H : (impl_pieces.l0 k1 a1 y206005 (y206002.length : Int) (wrap64 (x18_1 + 1)) a0_0 l0_1 l0_2) = some r := by first | (rw [hy206005]; with_reducible exact H) | (have H2_ := (Option.bind_some _ _).symm.trans H; rw [hy206005]; with_reducible exact H2_) | (have H2_ := (Option.bind_some _ _).symm.trans H; with_reducible exact H2_) | with_reducible exact H | (rw [hy206005]; exact H) | exact H
        have Ny206005 := aQ hy206005
        clear hy206005
        have H' := aQ H
        clear H
        have p13 : 0 ≤ (x18_1 : Int) := of_decide_eq_true (by first | (with_reducible assumption) | assumption)
        have q13 : (x18_1 : Int) < ((x5_1.length : Int) : Int) := of_decide_eq_true (by first | (with_reducible assumption) | assumption)
        obtain ⟨go13, co13, eo13, gb13, gl13, cl13, HG13⟩ := Kd.R_form HO_5.out (by omega)
        (first | cases eo13 | (injection eo13 with ea_ en_ ec_; (first | subst ea_ | (injection ea_ with ea_; subst ea_)); subst ec_; clear en_))
        have GB13 := aQ gb13
        have GG13 := aQ HG13
        clear gb13 gl13 HG13
        obtain ⟨hx13_0, hf13_0⟩ := Kd.R_celln 0 HO_5.out (x18_1 : Int) p13 q13
        replace p13 := eq_true p13
        replace q13 := eq_true q13
        have HP14 := Kd.R_putg HO_5.out (x18_1 : Int) x18_1
        go_wp2_with (first | ((with_reducible refine gate_store (t := 3) (p := 24) rfl ?_); refine store_event (t := 3) (p := 24) (v := ?vo_w15) (w1 := (wr.setCell ⟨go13, (x18_1 : Int).toNat, none⟩ (.int .i64 x18_1))) ?hg ?ho ?hn ?hr ?_; (case ho => rfl); (case hg => rfl); (case hn => rfl); (case hr => first | (go_simp; done) | (go_simp; rfl)); intro w15 hw; have hg : wr.grownBy w15 (some go13) := (by rw [hw]; exact HP14.2); have hp_ : Kd.R (Kd.int .i64) 3 w15 w.heap.size (fun _ => True) (.slice (some ⟨go13, 0, none⟩) x5_1.length co9) y206005 := (by rw [hw, Ny206005.out]; exact HP14.1); clear HP14; replace BK206001 := aQ (blk_grown (g := gb206001) (o := .cells #[.int .i64 a0_0, .slice A0_1 l0_1.length c0_1, .slice A0_2 l0_2.length c0_2] 71 (0, 0)) (by (with_reducible repeat (first | refine blk_drewN ?_ _ | refine blk_drew ?_ | refine blk_alloc ?_ _)); exact BK206001.out) hg (Kd.R_ne HO_5.out BK206001.out (by decide))); replace HO_5 := aQ (hp_); replace HB := aQ ((by rw [hw]; exact below_set (HB.out) GB13.out : Below w.heap.size w w15)); clear hg hw hp_))
        (try simp only [← hl5_1])
        go_roundg k1
        case measure => have := HK1.out; omega
        case rel => exact ⟨(y206005), (wrap64 (x18_1 + 1)), (by first | rfl | (simp; done) | (simp [*]; done)), H', ⟨by have := HK1.out; omega⟩, ⟨by (try simp only [hl5_1]); (with_reducible repeat (first | apply Kd.R_alloc | apply Kd.R_drewN | apply Kd.R_drew)); exact HO_5.out⟩, ⟨by (try simp only [hl5_1]); (with_reducible repeat (first | refine blk_drewN ?_ _ | refine blk_drew ?_ | refine blk_alloc ?_ _)); exact BK206001.out⟩, ⟨by repeat (first | (with_reducible first | exact HB.out | apply below_alloc | apply pw_below_drewN | apply below_drew1 | refine below_set ?_ GE206001.out) | exact HB.out)⟩⟩
       ·rw [if_neg c12] at H
        exact absurd H (by simp)
      ·rw [if_neg c11] at H
       exact absurd H (by simp)
     ·rw [if_neg c10] at H
      have c10b0 : decide (x18_1 < (y206002.length : Int)) = false := decide_eq_false c10
      have c10b9 := c10b0
      (try simp only [hl5_1] at c10b9)
      clear c10
      replace H := Option.bind_eq_some_iff.mp H
      obtain ⟨t206006, A160, H⟩ := H
      replace H : (impl_pieces.l1 k1 x5_1 a0_0 t206006 (t206006.length : Int) 0 a0_0 l0_1 l0_2) = some r := H
      have A16 := aQ A160
      clear A160
      have H' := aQ H
      clear H
      have hcz17_0 : wr.cell? ⟨gb206001, 0, none⟩ = some (.int .i64 a0_0) := (blk_cell BK206001.out 0).trans rfl
      have hcz17_1 : wr.cell? ⟨gb206001, 1, none⟩ = some (.slice A0_1 l0_1.length c0_1) := (blk_cell BK206001.out 1).trans rfl
      have hcz17_2 : wr.cell? ⟨gb206001, 2, none⟩ = some (.slice A0_2 l0_2.length c0_2) := (blk_cell BK206001.out 2).trans rfl
      have hfz17_0 := blk_frozen BK206001.out 0
      have hfz17_1 := blk_frozen BK206001.out 1
      have hfz17_2 := blk_frozen BK206001.out 2
      go_wp2_with (first | ((with_reducible refine gate_callee (f := 226) rfl ?_); refine goesL_ (some 29) rfl rfl Try.func226 (by kernel_rfl) rfl #[.int .i64 a1] rfl (by (try simp only [List.map_toArray, List.map_cons, List.map_nil]); first | done | rfl | (simp only [List.length_drop, List.length_take]; rfl)) ?_; (with_reducible refine (impl_ElementsOf.calls k1 a1 t206006 _ A16.out).mono ?_); rintro e w18 ⟨v206007, rfl, ho0, hb⟩; refine ⟨_, rfl, ?_⟩; have HO206008 := aQ (Kd.R_lower (Kd.R_new' ho0 (Kd.R_lt (by (with_reducible repeat (first | apply Kd.R_alloc | apply Kd.R_drewN | apply Kd.R_drew)); exact HO_5.out))) (below_size (by repeat (first | (with_reducible first | exact HB.out | apply below_alloc | apply pw_below_drewN | apply below_drew1 | refine below_set ?_ GE206001.out) | exact HB.out)))); replace HO_5 := aQ (Kd.R_elder' (by (with_reducible repeat (first | apply Kd.R_alloc | apply Kd.R_drewN | apply Kd.R_drew)); exact HO_5.out) (Kd.R_base ho0) hb); replace BK206001 := aQ (blk_below (g := gb206001) (o := .cells #[.int .i64 a0_0, .slice A0_1 l0_1.length c0_1, .slice A0_2 l0_2.length c0_2] 71 (0, 0)) (by (with_reducible repeat (first | refine blk_drewN ?_ _ | refine blk_drew ?_ | refine blk_alloc ?_ _)); exact BK206001.out) hb); replace HB := aQ (below_step (by repeat (first | (with_reducible first | exact HB.out | apply below_alloc | apply pw_below_drewN | apply below_drew1 | refine below_set ?_ GE206001.out) | exact HB.out)) hb); (try clear hb); (try clear hb2); (try clear hk); (try clear hi); (try clear ho0); obtain ⟨Ao19, co19, eo19⟩ := Kd.R_slice HO206008.out; subst eo19))
      go_loopg [7, 31] k1 (fun kq v7 v31 w' => ∃ (x5_2 : List Int) (x7_2 : Int) (x31_2 : Int), v7 = .int .i64 x7_2 ∧ v31 = .int .i64 x31_2 ∧ Aside0 (impl_pieces.l1 kq x5_2 x7_2 t206006 (t206006.length : Int) x31_2 a0_0 l0_1 l0_2 = some r) ∧ Aside0 (kq ≤ k1) ∧ Aside0 (Kd.R (Kd.int .i64) 3 w' w.heap.size (fun k_ => some k_ ≠ ((.slice Ao19 t206006.length co19) : Value).ownBlock) (.slice Ao9 x5_1.length co9) x5_2) ∧ Aside0 (Kd.R (Kd.int .i64) 3 w' w.heap.size (fun k_ => some k_ ≠ ((.slice Ao9 x5_1.length co9) : Value).ownBlock) (.slice Ao19 t206006.length co19) t206006) ∧ Aside0 (w'.heap[gb206001]? = some (.cells #[.int .i64 a0_0, (.slice A0_1 l0_1.length c0_1), (.slice A0_2 l0_2.length c0_2)] 71 (0, 0))) ∧ Aside0 (Below w.heap.size w w'))
      case atStart => exact ⟨(x5_1), (a0_0), (0), (by first | rfl | (simp; done) | (simp [*]; done)), (by first | rfl | (simp; done) | (simp [*]; done)), H', ⟨Nat.le_refl _⟩, ⟨by (try simp only [hl5_1]); (with_reducible repeat (first | apply Kd.R_alloc | apply Kd.R_drewN | apply Kd.R_drew)); exact Kd.R_mono HO_5.out (fun _ hk => hk.2)⟩, ⟨by (try simp only [hl5_1]); (with_reducible repeat (first | apply Kd.R_alloc | apply Kd.R_drewN | apply Kd.R_drew)); exact Kd.R_mono HO206008.out (fun _ hk => hk.2)⟩, ⟨by (try simp only [hl5_1]); (with_reducible repeat (first | refine blk_drewN ?_ _ | refine blk_drew ?_ | refine blk_alloc ?_ _)); exact BK206001.out⟩, ⟨by repeat (first | (with_reducible first | exact HB.out | apply below_alloc | apply pw_below_drewN | apply below_drew1 | refine below_set ?_ GE206001.out) | exact HB.out)⟩⟩
      case round =>
       clear H'
       try clear c1
       try clear p1
       try clear q1
       try clear hx1
       try clear c2
       try clear p2
       try clear c3
       try clear c3b0
       try clear c3b1
       try clear c4
       try clear c4b0
       try clear c4b1
       try clear p6
       try clear c10
       try clear c10b0
       try clear c11
       try clear c11b0
       try clear c12
       try clear c12b0
       try clear p13
       try clear q13
       try clear hx13
       try clear hf13
       try clear hcz17_0
       try clear hcz17_1
       try clear hcz17_2
       try clear hcz6_0
       try clear hcz6_1
       try clear hcz6_2
       try clear hfz17_0
       try clear hfz17_1
       try clear hfz17_2
       try clear hfz6_0
       try clear hfz6_1
       try clear hfz6_2
       try clear hx13_0
       try clear p13
       try clear p2
       try clear q13
       obtain ⟨x5_2, x7_2, x31_2, rfl, rfl, HA, HK2, HO_5, HO_29, BK206001, HB⟩ := hrel
       have hl5_2 := (Kd.R_reads' HO_5.out).1
       rw [hl5_2] at HO_5
       (try simp only [hl5_2])
       (try simp only [hl5_2] at BK206001)
       (try simp only [hl5_2] at HO_29)
       cases gk with
       | zero => exact absurd HA.out (by simp [impl_pieces.l1])
       | succ k2 =>
        have H := HA.out
        clear HA
        simp only [impl_pieces.l1] at H
        by_cases c20 : x31_2 < (t206006.length : Int)
        ·rw [if_pos c20] at H
         have c20b0 : decide (x31_2 < (t206006.length : Int)) = true := decide_eq_true c20
         clear c20
         by_cases c21 : 0 ≤ x31_2
         ·rw [if_pos c21] at H
          have c21b0 : decide (0 ≤ x31_2) = true := decide_eq_true c21
          clear c21
          by_cases c22 : x31_2 < (t206006.length : Int)
          ·rw [if_pos c22] at H
           have c22b0 : decide (x31_2 < (t206006.length : Int)) = true := decide_eq_true c22
           clear c22
           by_cases c23 : 0 ≤ (rd t206006 x31_2)
           ·rw [if_pos c23] at H
            have c23b0 : decide (0 ≤ (rd t206006 x31_2)) = true := decide_eq_true c23
            clear c23
            by_cases c24 : (rd t206006 x31_2) < (l0_1.length : Int)
            ·rw [if_pos c24] at H
             have c24b0 : decide ((rd t206006 x31_2) < (l0_1.length : Int)) = true := decide_eq_true c24
             clear c24
             by_cases c25 : 0 ≤ (rd l0_1 (rd t206006 x31_2))
             ·rw [if_pos c25] at H
              have c25b0 : decide (0 ≤ (rd l0_1 (rd t206006 x31_2))) = true := decide_eq_true c25
              clear c25
              by_cases c26 : (rd l0_1 (rd t206006 x31_2)) < (x5_2.length : Int)
              ·rw [if_pos c26] at H
               have c26b0 : decide ((rd l0_1 (rd t206006 x31_2)) < (x5_2.length : Int)) = true := decide_eq_true c26
               clear c26
               by_cases c27 : (rd t206006 x31_2) < (l0_2.length : Int)
               ·rw [if_pos c27] at H
                have c27b0 : decide ((rd t206006 x31_2) < (l0_2.length : Int)) = true := decide_eq_true c27
                clear c27
                by_cases c28 : 0 ≤ (rd l0_2 (rd t206006 x31_2))
                ·rw [if_pos c28] at H
                 have c28b0 : decide (0 ≤ (rd l0_2 (rd t206006 x31_2))) = true := decide_eq_true c28
                 clear c28
                 by_cases c29 : (rd l0_2 (rd t206006 x31_2)) < (x5_2.length : Int)
                 ·rw [if_pos c29] at H
                  have c29b0 : decide ((rd l0_2 (rd t206006 x31_2)) < (x5_2.length : Int)) = true := decide_eq_true c29
                  clear c29
                  by_cases c30 : (rd x5_2 (rd l0_1 (rd t206006 x31_2))) = (rd x5_2 (rd l0_2 (rd t206006 x31_2)))
                  ·rw [if_pos c30] at H
                   have c30b0 : ((rd x5_2 (rd l0_1 (rd t206006 x31_2))) == (rd x5_2 (rd l0_2 (rd t206006 x31_2)))) = true := beq_iff_eq.mpr c30
                   have c30b1 : ((rd x5_2 (rd l0_1 (rd t206006 x31_2))) != (rd x5_2 (rd l0_2 (rd t206006 x31_2)))) = false := bne_eq_false_iff_eq.mpr c30
                   clear c30
                   have H' := aQ H
                   clear H
                   have p206009 : 0 ≤ (x31_2 : Int) := of_decide_eq_true (by first | (with_reducible assumption) | assumption)
                   have q206009 : x31_2 < (t206006.length : Int) := of_decide_eq_true (by first | (with_reducible assumption) | assumption)
                   obtain ⟨ad206009, e206009, hx206009_0⟩ := Kd.at_int (Kd.R_reads' HO_29.out).2.2 x31_2 p206009 q206009
                   cases e206009
                   replace p206009 := eq_true p206009
                   replace q206009 := eq_true q206009
                   have hcz31_0 : wr.cell? ⟨gb206001, 0, none⟩ = some (.int .i64 a0_0) := (blk_cell BK206001.out 0).trans rfl
                   have hcz31_1 : wr.cell? ⟨gb206001, 1, none⟩ = some (.slice A0_1 l0_1.length c0_1) := (blk_cell BK206001.out 1).trans rfl
                   have hcz31_2 : wr.cell? ⟨gb206001, 2, none⟩ = some (.slice A0_2 l0_2.length c0_2) := (blk_cell BK206001.out 2).trans rfl
                   have hfz31_0 := blk_frozen BK206001.out 0
                   have hfz31_1 := blk_frozen BK206001.out 1
                   have hfz31_2 := blk_frozen BK206001.out 2
                   have p206010 : 0 ≤ ((rd t206006 x31_2) : Int) := of_decide_eq_true (by first | (with_reducible assumption) | assumption)
                   have q206010 : (rd t206006 x31_2) < (l0_1.length : Int) := of_decide_eq_true (by first | (with_reducible assumption) | assumption)
                   obtain ⟨ad206010, e206010, hx206010_0⟩ := Kd.at_int HR0_1.out (rd t206006 x31_2) p206010 q206010
                   cases e206010
                   replace hx206010_0 := (HB.out.cell (World.block_lt_of_cell? w _ hx206010_0)).trans hx206010_0
                   replace p206010 := eq_true p206010
                   replace q206010 := eq_true q206010
                   have p206011 : 0 ≤ ((rd l0_1 (rd t206006 x31_2)) : Int) := of_decide_eq_true (by first | (with_reducible assumption) | assumption)
                   have q206011 : (rd l0_1 (rd t206006 x31_2)) < (x5_2.length : Int) := of_decide_eq_true (by first | (with_reducible assumption) | assumption)
                   obtain ⟨ad206011, e206011, hx206011_0⟩ := Kd.at_int (Kd.R_reads' HO_5.out).2.2 (rd l0_1 (rd t206006 x31_2)) p206011 q206011
                   cases e206011
                   replace p206011 := eq_true p206011
                   replace q206011 := eq_true q206011
                   have p206012 : 0 ≤ ((rd t206006 x31_2) : Int) := of_decide_eq_true (by first | (with_reducible assumption) | assumption)
                   have q206012 : (rd t206006 x31_2) < (l0_2.length : Int) := of_decide_eq_true (by first | (with_reducible assumption) | assumption)
                   obtain ⟨ad206012, e206012, hx206012_0⟩ := Kd.at_int HR0_2.out (rd t206006 x31_2) p206012 q206012
                   cases e206012
                   replace hx206012_0 := (HB.out.cell (World.block_lt_of_cell? w _ hx206012_0)).trans hx206012_0
                   replace p206012 := eq_true p206012
                   replace q206012 := eq_true q206012
                   have p206013 : 0 ≤ ((rd l0_2 (rd t206006 x31_2)) : Int) := of_decide_eq_true (by first | (with_reducible assumption) | assumption)
                   have q206013 : (rd l0_2 (rd t206006 x31_2)) < (x5_2.length : Int) := of_decide_eq_true (by first | (with_reducible assumption) | assumption)
                   obtain ⟨ad206013, e206013, hx206013_0⟩ := Kd.at_int (Kd.R_reads' HO_5.out).2.2 (rd l0_2 (rd t206006 x31_2)) p206013 q206013
                   obtain rfl : ad206011 = ad206013 := (by injection e206013)
                   replace p206013 := eq_true p206013
                   replace q206013 := eq_true q206013
                   go_wp2
                   (try simp only [← hl5_2])
                   go_roundg k2
                   case measure => have := HK1.out; have := HK2.out; omega
                   case rel => exact ⟨(x5_2), (x7_2), (wrap64 (x31_2 + 1)), (by first | rfl | (simp; done) | (simp [*]; done)), (by first | rfl | (simp; done) | (simp [*]; done)), H', ⟨by have := HK1.out; have := HK2.out; omega⟩, ⟨by (try simp only [hl5_1]); (try simp only [hl5_2]); (with_reducible repeat (first | apply Kd.R_alloc | apply Kd.R_drewN | apply Kd.R_drew)); exact HO_5.out⟩, ⟨by (try simp only [hl5_1]); (try simp only [hl5_2]); (with_reducible repeat (first | apply Kd.R_alloc | apply Kd.R_drewN | apply Kd.R_drew)); exact HO_29.out⟩, ⟨by (try simp only [hl5_1]); (try simp only [hl5_2]); (with_reducible repeat (first | refine blk_drewN ?_ _ | refine blk_drew ?_ | refine blk_alloc ?_ _)); exact BK206001.out⟩, ⟨by repeat (first | (with_reducible first | exact HB.out | apply below_alloc | apply pw_below_drewN | apply below_drew1 | refine below_set ?_ GE206001.out) | exact HB.out)⟩⟩
                  ·rw [if_neg c30] at H
                   have c30b0 : ((rd x5_2 (rd l0_1 (rd t206006 x31_2))) == (rd x5_2 (rd l0_2 (rd t206006 x31_2)))) = false := beq_eq_false_iff_ne.mpr c30
                   have c30b1 : ((rd x5_2 (rd l0_1 (rd t206006 x31_2))) != (rd x5_2 (rd l0_2 (rd t206006 x31_2)))) = true := bne_iff_ne.mpr c30
                   have H' := aQ H
                   clear H
                   have p206009 : 0 ≤ (x31_2 : Int) := of_decide_eq_true (by first | (with_reducible assumption) | assumption)
                   have q206009 : x31_2 < (t206006.length : Int) := of_decide_eq_true (by first | (with_reducible assumption) | assumption)
                   obtain ⟨ad206009, e206009, hx206009_0⟩ := Kd.at_int (Kd.R_reads' HO_29.out).2.2 x31_2 p206009 q206009
                   cases e206009
                   replace p206009 := eq_true p206009
                   replace q206009 := eq_true q206009
                   have hcz32_0 : wr.cell? ⟨gb206001, 0, none⟩ = some (.int .i64 a0_0) := (blk_cell BK206001.out 0).trans rfl
                   have hcz32_1 : wr.cell? ⟨gb206001, 1, none⟩ = some (.slice A0_1 l0_1.length c0_1) := (blk_cell BK206001.out 1).trans rfl
                   have hcz32_2 : wr.cell? ⟨gb206001, 2, none⟩ = some (.slice A0_2 l0_2.length c0_2) := (blk_cell BK206001.out 2).trans rfl
                   have hfz32_0 := blk_frozen BK206001.out 0
                   have hfz32_1 := blk_frozen BK206001.out 1
                   have hfz32_2 := blk_frozen BK206001.out 2
                   have p206010 : 0 ≤ ((rd t206006 x31_2) : Int) := of_decide_eq_true (by first | (with_reducible assumption) | assumption)
                   have q206010 : (rd t206006 x31_2) < (l0_1.length : Int) := of_decide_eq_true (by first | (with_reducible assumption) | assumption)
                   obtain ⟨ad206010, e206010, hx206010_0⟩ := Kd.at_int HR0_1.out (rd t206006 x31_2) p206010 q206010
                   cases e206010
                   replace hx206010_0 := (HB.out.cell (World.block_lt_of_cell? w _ hx206010_0)).trans hx206010_0
                   replace p206010 := eq_true p206010
                   replace q206010 := eq_true q206010
                   have p206011 : 0 ≤ ((rd l0_1 (rd t206006 x31_2)) : Int) := of_decide_eq_true (by first | (with_reducible assumption) | assumption)
                   have q206011 : (rd l0_1 (rd t206006 x31_2)) < (x5_2.length : Int) := of_decide_eq_true (by first | (with_reducible assumption) | assumption)
                   obtain ⟨ad206011, e206011, hx206011_0⟩ := Kd.at_int (Kd.R_reads' HO_5.out).2.2 (rd l0_1 (rd t206006 x31_2)) p206011 q206011
                   cases e206011
                   replace p206011 := eq_true p206011
                   replace q206011 := eq_true q206011
                   have p206012 : 0 ≤ ((rd t206006 x31_2) : Int) := of_decide_eq_true (by first | (with_reducible assumption) | assumption)
                   have q206012 : (rd t206006 x31_2) < (l0_2.length : Int) := of_decide_eq_true (by first | (with_reducible assumption) | assumption)
                   obtain ⟨ad206012, e206012, hx206012_0⟩ := Kd.at_int HR0_2.out (rd t206006 x31_2) p206012 q206012
                   cases e206012
                   replace hx206012_0 := (HB.out.cell (World.block_lt_of_cell? w _ hx206012_0)).trans hx206012_0
                   replace p206012 := eq_true p206012
                   replace q206012 := eq_true q206012
                   have p206013 : 0 ≤ ((rd l0_2 (rd t206006 x31_2)) : Int) := of_decide_eq_true (by first | (with_reducible assumption) | assumption)
                   have q206013 : (rd l0_2 (rd t206006 x31_2)) < (x5_2.length : Int) := of_decide_eq_true (by first | (with_reducible assumption) | assumption)
                   obtain ⟨ad206013, e206013, hx206013_0⟩ := Kd.at_int (Kd.R_reads' HO_5.out).2.2 (rd l0_2 (rd t206006 x31_2)) p206013 q206013
                   obtain rfl : ad206011 = ad206013 := (by injection e206013)
                   replace p206013 := eq_true p206013
                   replace q206013 := eq_true q206013
                   obtain ⟨go37, co37, eo37, gb37, gl37, cl37, HG37⟩ := Kd.R_form HO_5.out (by have := of_eq_true p206011; have := of_eq_true q206011; omega)
                   (first | cases eo37 | (injection eo37 with ea_ en_ ec_; (first | subst ea_ | (injection ea_ with ea_; subst ea_)); subst ec_; clear en_))
                   clear gb37 gl37 HG37
                   (first | simp only [add_plain] at hx206011_0 | skip)
                   (first | simp only [add_plain] at hx206013_0 | skip)
                   go_wp2
                   go_loopg [58] k2 (fun kq v58 w' => ∃ (x5_3 : List Int) (x58_3 : Int), v58 = .int .i64 x58_3 ∧ Aside0 (impl_pieces.l2 kq x5_3 (wrap64 (x7_2 - 1)) (rd x5_2 (rd l0_1 (rd t206006 x31_2))) (rd x5_2 (rd l0_2 (rd t206006 x31_2))) t206006 (t206006.length : Int) x31_2 (x5_2.length : Int) x58_3 a0_0 l0_1 l0_2 = some r) ∧ Aside0 (kq ≤ k2) ∧ Aside0 (Kd.R (Kd.int .i64) 3 w' w.heap.size (fun k_ => some k_ ≠ ((.slice (some ad206009) t206006.length co19) : Value).ownBlock) (.slice (some ⟨go37, 0, none⟩) x5_2.length co9) x5_3) ∧ Aside0 (Kd.R (Kd.int .i64) 3 w' w.heap.size (fun k_ => some k_ ≠ ((.slice (some ⟨go37, 0, none⟩) x5_2.length co9) : Value).ownBlock) (.slice (some ad206009) t206006.length co19) t206006) ∧ Aside0 (w'.heap[gb206001]? = some (.cells #[.int .i64 a0_0, (.slice (some ad206010) l0_1.length c0_1), (.slice (some ad206012) l0_2.length c0_2)] 71 (0, 0))) ∧ Aside0 (Below w.heap.size w w'))
                   case atStart => exact ⟨(x5_2), (0), (by first | rfl | (simp; done) | (simp [*]; done)), H', ⟨Nat.le_refl _⟩, ⟨by (try simp only [hl5_1]); (try simp only [hl5_2]); (with_reducible repeat (first | apply Kd.R_alloc | apply Kd.R_drewN | apply Kd.R_drew)); exact HO_5.out⟩, ⟨by (try simp only [hl5_1]); (try simp only [hl5_2]); (with_reducible repeat (first | apply Kd.R_alloc | apply Kd.R_drewN | apply Kd.R_drew)); exact HO_29.out⟩, ⟨by (try simp only [hl5_1]); (try simp only [hl5_2]); (with_reducible repeat (first | refine blk_drewN ?_ _ | refine blk_drew ?_ | refine blk_alloc ?_ _)); exact BK206001.out⟩, ⟨by repeat (first | (with_reducible first | exact HB.out | apply below_alloc | apply pw_below_drewN | apply below_drew1 | refine below_set ?_ GE206001.out) | exact HB.out)⟩⟩
                   case round =>
                    clear H'
                    try clear c1
                    try clear p1
                    try clear q1
                    try clear hx1
                    try clear c2
                    try clear p2
                    try clear q2
                    try clear hx2
                    try clear c3
                    try clear c3b0
                    try clear c3b1
                    try clear c4
                    try clear c4b0
                    try clear c4b1
                    try clear p6
                    try clear c10
                    try clear c10b0
                    try clear c11
                    try clear c11b0
                    try clear c12
                    try clear c12b0
                    try clear p13
                    try clear q13
                    try clear hx13
                    try clear hf13
                    try clear c20
                    try clear c20b0
                    try clear p20
                    try clear q20
                    try clear hx20
                    try clear c21
                    try clear c21b0
                    try clear c22
                    try clear c22b0
                    try clear c23
                    try clear c23b0
                    try clear c24
                    try clear c24b0
                    try clear c25
                    try clear c25b0
                    try clear c26
                    try clear c26b0
                    try clear c27
                    try clear c27b0
                    try clear c28
                    try clear c28b0
                    try clear c29
                    try clear c29b0
                    try clear c30
                    try clear c30b0
                    try clear c30b1
                    try clear hcz17_0
                    try clear hcz17_1
                    try clear hcz17_2
                    try clear hcz31_0
                    try clear hcz31_1
                    try clear hcz31_2
                    try clear hcz32_0
                    try clear hcz32_1
                    try clear hcz32_2
                    try clear hcz6_0
                    try clear hcz6_1
                    try clear hcz6_2
                    try clear hfz17_0
                    try clear hfz17_1
                    try clear hfz17_2
                    try clear hfz31_0
                    try clear hfz31_1
                    try clear hfz31_2
                    try clear hfz32_0
                    try clear hfz32_1
                    try clear hfz32_2
                    try clear hfz6_0
                    try clear hfz6_1
                    try clear hfz6_2
                    try clear hx13_0
                    try clear hx206009_0
                    try clear hx206010_0
                    try clear hx206011_0
                    try clear hx206012_0
                    try clear hx206013_0
                    try clear p1
                    try clear p13
                    try clear p2
                    try clear p206009
                    try clear p206010
                    try clear p206011
                    try clear p206012
                    try clear p206013
                    try clear p6
                    try clear q1
                    try clear q13
                    try clear q206009
                    try clear q206010
                    try clear q206011
                    try clear q206012
                    try clear q206013
                    obtain ⟨x5_3, x58_3, rfl, HA, HK3, HO_5, HO_29, BK206001, HB⟩ := hrel
                    have hl5_3 := (Kd.R_reads' HO_5.out).1
                    rw [hl5_3] at HO_5
                    (try simp only [hl5_3])
                    (try simp only [hl5_3] at BK206001)
                    (try simp only [hl5_3] at HO_29)
                    cases gk with
                    | zero => exact absurd HA.out (by simp [impl_pieces.l2])
                    | succ k3 =>
                     have H := HA.out
                     clear HA
                     simp only [impl_pieces.l2] at H
                     by_cases c33 : x58_3 < (x5_2.length : Int)
                     ·rw [if_pos c33] at H
                      have c33b0 : decide (x58_3 < (x5_2.length : Int)) = true := decide_eq_true c33
                      have c33b9 := c33b0
                      (try simp only [hl5_3] at c33b9)
                      clear c33
                      by_cases c34 : 0 ≤ x58_3
                      ·rw [if_pos c34] at H
                       have c34b0 : decide (0 ≤ x58_3) = true := decide_eq_true c34
                       clear c34
                       by_cases c35 : x58_3 < (x5_3.length : Int)
                       ·rw [if_pos c35] at H
                        have c35b0 : decide (x58_3 < (x5_3.length : Int)) = true := decide_eq_true c35
                        have c35b9 := c35b0
                        (try simp only [hl5_3] at c35b9)
                        clear c35
                        by_cases c36 : (rd x5_3 x58_3) = (rd x5_2 (rd l0_2 (rd t206006 x31_2)))
                        ·rw [if_pos c36] at H
                         have c36b0 : ((rd x5_3 x58_3) == (rd x5_2 (rd l0_2 (rd t206006 x31_2)))) = true := beq_iff_eq.mpr c36
                         have c36b1 : ((rd x5_3 x58_3) != (rd x5_2 (rd l0_2 (rd t206006 x31_2)))) = false := bne_eq_false_iff_eq.mpr c36
                         clear c36
                         obtain ⟨y206015, hy206015⟩ : ∃ y_ : List Int, y_ = (x5_3.set (x58_3 : Int).toNat (rd x5_2 (rd l0_1 (rd t206006 x31_2)))) := ⟨_, rfl⟩
                         replace H : (impl_pieces.l2 k3 y206015 (wrap64 (x7_2 - 1)) (rd x5_2 (rd l0_1 (rd t206006 x31_2))) (rd x5_2 (rd l0_2 (rd t206006 x31_2))) t206006 (t206006.length : Int) x31_2 (x5_2.length : Int) (wrap64 (x58_3 + 1)) a0_0 l0_1 l0_2) = some r := by first | (rw [hy206015]; with_reducible exact H) | (have H2_ := (Option.bind_some _ _).symm.trans H; rw [hy206015]; with_reducible exact H2_) | (have H2_ := (Option.bind_some _ _).symm.trans H; with_reducible exact H2_) | with_reducible exact H | (rw [hy206015]; exact H) | exact H
                         have Ny206015 := aQ hy206015
                         clear hy206015
                         have H' := aQ H
                         clear H
                         have p206014 : 0 ≤ (x58_3 : Int) := of_decide_eq_true (by first | (with_reducible assumption) | assumption)
                         have q206014 : x58_3 < (x5_3.length : Int) := of_decide_eq_true (by first | (with_reducible assumption) | assumption)
                         obtain ⟨ad206014, e206014, hx206014_0⟩ := Kd.at_int (Kd.R_reads' HO_5.out).2.2 x58_3 p206014 q206014
                         cases e206014
                         replace p206014 := eq_true p206014
                         replace q206014 := eq_true q206014
                         have p37 : 0 ≤ (x58_3 : Int) := of_decide_eq_true (by first | (with_reducible assumption) | assumption)
                         have q37 : (x58_3 : Int) < ((x5_3.length : Int) : Int) := of_decide_eq_true (by first | (with_reducible assumption) | assumption)
                         obtain ⟨go37z, co37, eo37, gb37, gl37, cl37, HG37⟩ := Kd.R_form HO_5.out (by omega)
                         obtain rfl : go37 = go37z := (by have h_ := eo37; simp at h_; first | exact h_ | exact h_.1)
                         (first | cases eo37 | (injection eo37 with ea_ en_ ec_; (first | subst ea_ | (injection ea_ with ea_; subst ea_)); subst ec_; clear en_))
                         have GB37 := aQ gb37
                         have GG37 := aQ HG37
                         clear gb37 gl37 HG37
                         (first | simp only [add_plain] at hx206011_0 | skip)
                         (first | simp only [add_plain] at hx206013_0 | skip)
                         (first | simp only [add_plain] at hx206014_0 | skip)
                         obtain ⟨hx37_0, hf37_0⟩ := Kd.R_celln 0 HO_5.out (x58_3 : Int) p37 q37
                         replace p37 := eq_true p37
                         replace q37 := eq_true q37
                         have HP38 := Kd.R_putg HO_5.out (x58_3 : Int) (rd x5_2 (rd l0_1 (rd t206006 x31_2)))
                         go_wp2_with (first | ((with_reducible refine gate_store (t := 3) (p := 70) rfl ?_); refine store_event (t := 3) (p := 70) (v := ?vo_w39) (w1 := (wr.setCell ⟨go37, (x58_3 : Int).toNat, none⟩ (.int .i64 (rd x5_2 (rd l0_1 (rd t206006 x31_2)))))) ?hg ?ho ?hn ?hr ?_; (case ho => rfl); (case hg => rfl); (case hn => rfl); (case hr => first | (go_simp; done) | (go_simp; rfl)); intro w39 hw; have hg : wr.grownBy w39 (some go37) := (by rw [hw]; exact HP38.2); have hp_ : Kd.R (Kd.int .i64) 3 w39 w.heap.size (fun k_ => some k_ ≠ (.slice (some ad206009) t206006.length co19 : Value).ownBlock) (.slice (some ⟨go37, 0, none⟩) x5_3.length co9) y206015 := (by rw [hw, Ny206015.out]; exact HP38.1); clear HP38; replace HO_29 := aQ (Kd.R_after (v := (.slice (some ⟨go37, 0, none⟩) x5_3.length co9)) (v1 := (.slice (some ⟨go37, 0, none⟩) x5_3.length co9)) (ok := (fun _ => True)) (by (with_reducible repeat (first | apply Kd.R_alloc | apply Kd.R_drewN | apply Kd.R_drew)); exact Kd.R_mono HO_29.out (fun _ hk => ⟨trivial, hk⟩)) hg (.inl rfl)); replace BK206001 := aQ (blk_grown (g := gb206001) (o := .cells #[.int .i64 a0_0, .slice (some ad206010) l0_1.length c0_1, .slice (some ad206012) l0_2.length c0_2] 71 (0, 0)) (by (with_reducible repeat (first | refine blk_drewN ?_ _ | refine blk_drew ?_ | refine blk_alloc ?_ _)); exact BK206001.out) hg (Kd.R_ne HO_5.out BK206001.out (by decide))); replace HO_5 := aQ (hp_); replace HB := aQ ((by rw [hw]; exact below_set (HB.out) GB37.out : Below w.heap.size w w39)); clear hg hw hp_))
                         (try simp only [← hl5_3])
                         go_roundg k3
                         case measure => have := HK1.out; have := HK2.out; have := HK3.out; omega
                         case rel => exact ⟨(y206015), (wrap64 (x58_3 + 1)), (by first | rfl | (simp; done) | (simp [*]; done)), H', ⟨by have := HK1.out; have := HK2.out; have := HK3.out; omega⟩, ⟨by (try simp only [hl5_1]); (try simp only [hl5_2]); (try simp only [hl5_3]); (with_reducible repeat (first | apply Kd.R_alloc | apply Kd.R_drewN | apply Kd.R_drew)); exact HO_5.out⟩, ⟨by (try simp only [hl5_1]); (try simp only [hl5_2]); (try simp only [hl5_3]); (with_reducible repeat (first | apply Kd.R_alloc | apply Kd.R_drewN | apply Kd.R_drew)); exact Kd.R_mono HO_29.out (fun _ hk => hk.2)⟩, ⟨by (try simp only [hl5_1]); (try simp only [hl5_2]); (try simp only [hl5_3]); (with_reducible repeat (first | refine blk_drewN ?_ _ | refine blk_drew ?_ | refine blk_alloc ?_ _)); exact BK206001.out⟩, ⟨by repeat (first | (with_reducible first | exact HB.out | apply below_alloc | apply pw_below_drewN | apply below_drew1 | refine below_set ?_ GE206001.out) | exact HB.out)⟩⟩
                        ·rw [if_neg c36] at H
                         have c36b0 : ((rd x5_3 x58_3) == (rd x5_2 (rd l0_2 (rd t206006 x31_2)))) = false := beq_eq_false_iff_ne.mpr c36
                         have c36b1 : ((rd x5_3 x58_3) != (rd x5_2 (rd l0_2 (rd t206006 x31_2)))) = true := bne_iff_ne.mpr c36
                         have H' := aQ H
                         clear H
                         have p206014 : 0 ≤ (x58_3 : Int) := of_decide_eq_true (by first | (with_reducible assumption) | assumption)
                         have q206014 : x58_3 < (x5_3.length : Int) := of_decide_eq_true (by first | (with_reducible assumption) | assumption)
                         obtain ⟨ad206014, e206014, hx206014_0⟩ := Kd.at_int (Kd.R_reads' HO_5.out).2.2 x58_3 p206014 q206014
                         cases e206014
                         replace p206014 := eq_true p206014
                         replace q206014 := eq_true q206014
                         (first | simp only [add_plain] at hx206014_0 | skip)
                         go_wp2
                         (try simp only [← hl5_3])
                         go_roundg k3
                         case measure => have := HK1.out; have := HK2.out; have := HK3.out; omega
                         case rel => exact ⟨(x5_3), (wrap64 (x58_3 + 1)), (by first | rfl | (simp; done) | (simp [*]; done)), H', ⟨by have := HK1.out; have := HK2.out; have := HK3.out; omega⟩, ⟨by (try simp only [hl5_1]); (try simp only [hl5_2]); (try simp only [hl5_3]); (with_reducible repeat (first | apply Kd.R_alloc | apply Kd.R_drewN | apply Kd.R_drew)); exact HO_5.out⟩, ⟨by (try simp only [hl5_1]); (try simp only [hl5_2]); (try simp only [hl5_3]); (with_reducible repeat (first | apply Kd.R_alloc | apply Kd.R_drewN | apply Kd.R_drew)); exact HO_29.out⟩, ⟨by (try simp only [hl5_1]); (try simp only [hl5_2]); (try simp only [hl5_3]); (with_reducible repeat (first | refine blk_drewN ?_ _ | refine blk_drew ?_ | refine blk_alloc ?_ _)); exact BK206001.out⟩, ⟨by repeat (first | (with_reducible first | exact HB.out | apply below_alloc | apply pw_below_drewN | apply below_drew1 | refine below_set ?_ GE206001.out) | exact HB.out)⟩⟩
                       ·rw [if_neg c35] at H
                        exact absurd H (by simp)
                      ·rw [if_neg c34] at H
                       exact absurd H (by simp)
                     ·rw [if_neg c33] at H
                      have c33b0 : decide (x58_3 < (x5_2.length : Int)) = false := decide_eq_false c33
                      have c33b9 := c33b0
                      (try simp only [hl5_3] at c33b9)
                      clear c33
                      have H' := aQ H
                      clear H
                      go_wp2
                      (try simp only [← hl5_2, ← hl5_3])
                      go_roundg k3
                      case measure => have := HK1.out; have := HK2.out; have := HK3.out; omega
                      case rel => exact ⟨(x5_3), ((wrap64 (x7_2 - 1))), (wrap64 (x31_2 + 1)), (by first | rfl | (simp; done) | (simp [*]; done)), (by first | rfl | (simp; done) | (simp [*]; done)), H', ⟨by have := HK1.out; have := HK2.out; have := HK3.out; omega⟩, ⟨by (try simp only [hl5_1]); (try simp only [hl5_2]); (try simp only [hl5_3]); (with_reducible repeat (first | apply Kd.R_alloc | apply Kd.R_drewN | apply Kd.R_drew)); exact HO_5.out⟩, ⟨by (try simp only [hl5_1]); (try simp only [hl5_2]); (try simp only [hl5_3]); (with_reducible repeat (first | apply Kd.R_alloc | apply Kd.R_drewN | apply Kd.R_drew)); exact HO_29.out⟩, ⟨by (try simp only [hl5_1]); (try simp only [hl5_2]); (try simp only [hl5_3]); (with_reducible repeat (first | refine blk_drewN ?_ _ | refine blk_drew ?_ | refine blk_alloc ?_ _)); exact BK206001.out⟩, ⟨by repeat (first | (with_reducible first | exact HB.out | apply below_alloc | apply pw_below_drewN | apply below_drew1 | refine below_set ?_ GE206001.out) | exact HB.out)⟩⟩
                 ·rw [if_neg c29] at H
                  exact absurd H (by simp)
                ·rw [if_neg c28] at H
                 exact absurd H (by simp)
               ·rw [if_neg c27] at H
                exact absurd H (by simp)
              ·rw [if_neg c26] at H
               exact absurd H (by simp)
             ·rw [if_neg c25] at H
              exact absurd H (by simp)
            ·rw [if_neg c24] at H
             exact absurd H (by simp)
           ·rw [if_neg c23] at H
            exact absurd H (by simp)
          ·rw [if_neg c22] at H
           exact absurd H (by simp)
         ·rw [if_neg c21] at H
          exact absurd H (by simp)
        ·rw [if_neg c20] at H
         have c20b0 : decide (x31_2 < (t206006.length : Int)) = false := decide_eq_false c20
         clear c20
         obtain rfl := Option.some.inj H
         go_wp2
         go_ret
         exact ⟨by first | rfl | (simp [errW_none, errW_some] <;> rfl) | (simp [*, errW_none, errW_some] <;> rfl), by repeat (first | (with_reducible first | exact HB.out | apply below_alloc | apply pw_below_drewN | apply below_drew1 | refine below_set ?_ GE206001.out) | exact HB.out)⟩
  ·rw [if_neg c4] at H
   exact absurd H (by simp)
 ·rw [if_neg c3] at H
  exact absurd H (by simp)
end Go.Proofs.Ytinoamehdhgpgaa.A
namespace Go.Proofs.Ytinoamehdhgpgaa.A
open Go.RowKit Go.Proofs.YtinoamehdhgpgaaW.PrintWords Go.Proofs.YtinoamehdhgpgaaW.PrintLast Go.Proofs.YtinoamehdhgpgaaW.PrintMore Go.Proofs.Ytinoamehdhgpgaa.Z
attribute [local go_sem] max2_int min2_int max_two min_two max_three min_three max_four min_four   -- for this text's walks alone
set_option linter.unusedVariables false
set_option linter.unusedSimpArgs false

/-! ### impl_FromGraph: function 95 (by hand) -/
def impl_FromGraph.c (k : Nat) (n : Int) (l l' : List Int) (s : Int) : Option Bool := (impl_pieces.f k n l l' s).bind fun t => (impl_CountOf.f s).bind fun q => some (wrap64 (n - t) == q)
theorem impl_FromGraph.c_mono (n : Int) (l l' : List Int) (s : Int) (k : Nat) : LeO (impl_FromGraph.c k n l l' s) (impl_FromGraph.c (k + 1) n l l' s) := by
 unfold impl_FromGraph.c
 exact LeO.bind (impl_pieces.mono _ _ _ _ _) (fun t => LeO.refl _)
def impl_FromGraph.f (k : Nat) (a0_0 : Int) (l0_1 : List Int) (l0_2 : List Int) : Option (Int × List Int) := (impl_IsGraph.f k a0_0 l0_1 l0_2).bind fun t => if t = true then (impl_FullSet.f (l0_1.length : Int)).bind fun m => if 0 ≤ m ∧ m ≤ 1000 then (setsO (fun s => impl_FromGraph.c k a0_0 l0_1 l0_2 s) m).bind fun y => (impl_fromIndependent.f k (l0_1.length : Int) y).bind fun b => some (b.1, b.2.1) else none else some (0, ([] : List Int))
theorem impl_FromGraph.mono : ∀ a0 a1 a2 k, LeO (impl_FromGraph.f k a0 a1 a2) (impl_FromGraph.f (k + 1) a0 a1 a2) := by
 intro a0 a1 a2 k
 unfold impl_FromGraph.f
 exact LeO.bind (impl_IsGraph.mono _ _ _ _) (fun t => LeO.ite (LeO.bind (LeO.refl _) (fun m => LeO.ite (LeO.bind (LeO_setsO (fun s => impl_FromGraph.c_mono a0 a1 a2 s k) m) (fun y => LeO.bind (impl_fromIndependent.mono _ _ _) (fun b => LeO.refl _))) (LeO.none _))) (LeO.refl _))
set_option maxHeartbeats 4000000 in
set_option maxRecDepth 100000 in
theorem FromGraph1_walk (k : Nat) (n : Int) (A : Option Addr) (c : Nat) (l : List Int) (A' : Option Addr) (c' : Nat) (l' : List Int) (s : Int) (b : Bool) (gg : Nat) (w : World)
  (hr : Kd.C (Kd.int .i64) w A l.length l) (hc : l.length ≤ c) (hr' : Kd.C (Kd.int .i64) w A' l'.length l') (hc' : l'.length ≤ c')
  (hm : w.heap[gg]? = some (.cells #[.int .i64 n, .slice A l.length c, .slice A' l'.length c'] 71 (0, 0))) (h : impl_FromGraph.c k n l l' s = some b) :
  Calls Try.prog 204 #[.int .i64 s, .pointer (some ⟨gg, 0, none⟩)] w fun e w' => e = .returned (.bool b) ∧ Below w.heap.size w w' := by
 unfold impl_FromGraph.c at h
 obtain ⟨t, hT, h⟩ := Option.bind_eq_some_iff.1 h
 obtain ⟨q, hQ, h⟩ := Option.bind_eq_some_iff.1 h
 simp only [Option.some.injEq] at h
 subst h
 have hu := Try.underlying71
 have hcm0 : w.cell? ⟨gg, 0, none⟩ = some (.int .i64 n) := (blk_cell hm 0).trans rfl
 have hcm1 : w.cell? ⟨gg, 1, none⟩ = some (.slice A l.length c) := (blk_cell hm 1).trans rfl
 have hcm2 : w.cell? ⟨gg, 2, none⟩ = some (.slice A' l'.length c') := (blk_cell hm 2).trans rfl
 have HT := Lib.hid hT
 have HQ := Lib.hid hQ
 have HR1 := Lib.hid hr
 have HC1 := Lib.hid hc
 have HR2 := Lib.hid hr'
 have HC2 := Lib.hid hc'
 have BG := Lib.hid hm
 clear hm hr hc hr' hc' hT hQ
 go_enter Try.func204, Try.ntmps204
 go_wp2
 go_region_with (first | (go_at_call 205; (with_reducible refine (impl_pieces.calls k n _ _ l _ _ l' s t _ ?side1 ?side2 ?side3 ?side4 HT.out).mono ?_); (case side1 => repeat (first | exact HR1.out | (with_reducible refine Kd.C_drewN ?_ _) | (with_reducible refine Kd.C_drew ?_))); (case side2 => exact HC1.out); (case side3 => repeat (first | exact HR2.out | (with_reducible refine Kd.C_drewN ?_ _) | (with_reducible refine Kd.C_drew ?_))); (case side4 => exact HC2.out); rintro e w1_ ⟨rfl, hb⟩; have HB := aQ (below_step (by repeat (first | (with_reducible first | exact Below.refl _ _ | apply below_alloc | apply pw_below_drewN | apply below_drew1) | exact Below.refl _ _) : Below w.heap.size w _) hb); have hc0_ : w1_.cell? ⟨gg, 0, none⟩ = some (.int .i64 n) := (blk_cell (blk_below (g := gg) (o := .cells #[.int .i64 n, .slice A l.length c, .slice A' l'.length c'] 71 (0, 0)) (by (with_reducible repeat (first | refine blk_drewN ?_ _ | refine blk_drew ?_ | refine blk_alloc ?_ _)); exact BG.out) hb) 0).trans rfl; have hc1_ : w1_.cell? ⟨gg, 1, none⟩ = some (.slice A l.length c) := (blk_cell (blk_below (g := gg) (o := .cells #[.int .i64 n, .slice A l.length c, .slice A' l'.length c'] 71 (0, 0)) (by (with_reducible repeat (first | refine blk_drewN ?_ _ | refine blk_drew ?_ | refine blk_alloc ?_ _)); exact BG.out) hb) 1).trans rfl; have hc2_ : w1_.cell? ⟨gg, 2, none⟩ = some (.slice A' l'.length c') := (blk_cell (blk_below (g := gg) (o := .cells #[.int .i64 n, .slice A l.length c, .slice A' l'.length c'] 71 (0, 0)) (by (with_reducible repeat (first | refine blk_drewN ?_ _ | refine blk_drew ?_ | refine blk_alloc ?_ _)); exact BG.out) hb) 2).trans rfl; clear hb) | (go_at_call 120; (with_reducible refine (impl_CountOf.calls s q _ HQ.out).mono ?_); rintro e w2_ ⟨rfl, ⟨nd, rfl⟩⟩))
 all_goals (go_wp2; go_ret; exact ⟨by first | rfl | (simp only [i64_w]; rfl) | (simp [i64_w]; done) | (simp [Act.put, i64_w]; done) | (simp [*]; done), (by repeat (first | (with_reducible first | exact HB.out | apply below_alloc | apply pw_below_drewN | apply below_drew1) | exact HB.out))⟩)
set_option maxHeartbeats 4000000 in
set_option maxRecDepth 100000 in
theorem impl_FromGraph.calls (k : Nat) (a0_0 : Int) (A0_1 : Option Addr) (c0_1 : Nat) (l0_1 : List Int) (A0_2 : Option Addr) (c0_2 : Nat) (l0_2 : List Int) (r1 : Int) (r2 : List Int) (w : World) (hr0_1 : Kd.C (Kd.int .i64) w A0_1 l0_1.length l0_1) (hc0_1 : l0_1.length ≤ c0_1) (hr0_2 : Kd.C (Kd.int .i64) w A0_2 l0_2.length l0_2) (hc0_2 : l0_2.length ≤ c0_2) (h : impl_FromGraph.f k a0_0 l0_1 l0_2 = some (r1, r2)) :
  Calls Try.prog 95 #[.agg #[.int .i64 a0_0, .slice A0_1 l0_1.length c0_1, .slice A0_2 l0_2.length c0_2]] w fun e w' => ∃ v1_ : Value, e = .returned (.agg #[.int .i64 r1, v1_]) ∧ Kd.R (Kd.int .i64) 3 w' w.heap.size (fun _ => True) v1_ r2 ∧ Below w.heap.size w w' := by
 have hu := Try.underlying71
 have hu2 := Try.underlying28
 have HR1 := aQ hr0_1
 have HC1 := aQ hc0_1
 have HR2 := aQ hr0_2
 have HC2 := aQ hc0_2
 have HB := aQ (Below.refl w.heap.size w)
 clear hr0_1 hc0_1 hr0_2 hc0_2
 have EG := aQ (show ∀ args w, (callFunc 204 args).run Try.prog w = .ok (.enter 204 args) w from runs_of Try.func204 (by kernel_rfl) rfl)
 unfold impl_FromGraph.f at h
 obtain ⟨t, hT, h⟩ := Option.bind_eq_some_iff.1 h
 have HT := aQ hT
 clear hT
 by_cases c3 : t = true
 ·subst c3
  rw [if_pos rfl] at h
  obtain ⟨m, hF, h⟩ := Option.bind_eq_some_iff.1 h
  by_cases hm : 0 ≤ m ∧ m ≤ 1000
  ·rw [if_pos hm] at h
   obtain ⟨y, hS, h⟩ := Option.bind_eq_some_iff.1 h
   obtain ⟨⟨b1, b2, b3⟩, hI, h⟩ := Option.bind_eq_some_iff.1 h
   simp only [Option.some.injEq, Prod.mk.injEq] at h
   obtain ⟨rfl, rfl⟩ := h
   have HF := aQ hF
   have HM := aQ hm
   have HS := Lib.hid hS
   have HI := Lib.hid hI
   clear hF hm hS hI
   go_enter Try.func95, Try.ntmps95
   go_wp2_with (first | ((with_reducible refine gate_dst (N := 1) rfl ?_); refine box_event ?hg (N := 1) ?hd (cs := #[.int .i64 a0_0, .slice A0_1 l0_1.length c0_1, .slice A0_2 l0_2.length c0_2]) (t := 71) ?hr ?_; (case hd => rfl); (case hg => rfl); (case hr => first | (go_simp; done) | (go_simp; rfl)); intro gg hg w1_ hbox hb; have n_HB := aQ (below_step (by repeat (first | (with_reducible first | exact HB.out | apply below_alloc | apply pw_below_drewN | apply below_drew1) | exact HB.out)) hb); have GBG := aQ ((by rw [hg]; exact below_size (by repeat (first | (with_reducible first | exact HB.out | apply below_alloc | apply pw_below_drewN | apply below_drew1) | exact HB.out))) : w.heap.size ≤ gg); clear HB; have HB := n_HB; clear n_HB; have BG := aQ hbox; clear hb hbox hg; have zBG0 : w1_.cell? ⟨gg, 0, none⟩ = some (.int .i64 a0_0) := (blk_cell BG.out 0).trans rfl; have zBG1 : w1_.cell? ⟨gg, 1, none⟩ = some (.slice A0_1 l0_1.length c0_1) := (blk_cell BG.out 1).trans rfl; have zBG2 : w1_.cell? ⟨gg, 2, none⟩ = some (.slice A0_2 l0_2.length c0_2) := (blk_cell BG.out 2).trans rfl) | ((with_reducible refine gate_dst (N := 2) rfl ?_); refine box_event ?hg (N := 2) ?hd (cs := #[.int .i64 0, .slice none 0 0]) (t := 28) ?hr ?_; (case hd => rfl); (case hg => rfl); (case hr => first | (go_simp; done) | (go_simp; rfl)); intro gr hg w1_ hbox hb; have n_BG := aQ (blk_below (g := gg) (o := .cells #[.int .i64 a0_0, .slice A0_1 l0_1.length c0_1, .slice A0_2 l0_2.length c0_2] 71 (0, 0)) (by (with_reducible repeat (first | refine blk_drewN ?_ _ | refine blk_drew ?_ | refine blk_alloc ?_ _)); exact BG.out) hb); have NBGBR := aQ ((by rw [hg]; exact Nat.ne_of_lt (blk_lt (g := gg) (o := .cells #[.int .i64 a0_0, .slice A0_1 l0_1.length c0_1, .slice A0_2 l0_2.length c0_2] 71 (0, 0)) (by (with_reducible repeat (first | refine blk_drewN ?_ _ | refine blk_drew ?_ | refine blk_alloc ?_ _)); exact BG.out))) : gg ≠ gr); have n_HB := aQ (below_step (by repeat (first | (with_reducible first | exact HB.out | apply below_alloc | apply pw_below_drewN | apply below_drew1) | exact HB.out)) hb); have GBR := aQ ((by rw [hg]; exact below_size (by repeat (first | (with_reducible first | exact HB.out | apply below_alloc | apply pw_below_drewN | apply below_drew1) | exact HB.out))) : w.heap.size ≤ gr); clear HB; clear BG; have BG := n_BG; clear n_BG; have HB := n_HB; clear n_HB; have BR := aQ hbox; clear hb hbox hg; have zBG0 : w1_.cell? ⟨gg, 0, none⟩ = some (.int .i64 a0_0) := (blk_cell BG.out 0).trans rfl; have zBG1 : w1_.cell? ⟨gg, 1, none⟩ = some (.slice A0_1 l0_1.length c0_1) := (blk_cell BG.out 1).trans rfl; have zBG2 : w1_.cell? ⟨gg, 2, none⟩ = some (.slice A0_2 l0_2.length c0_2) := (blk_cell BG.out 2).trans rfl; have zBR0 : w1_.cell? ⟨gr, 0, none⟩ = some (.int .i64 0) := (blk_cell BR.out 0).trans rfl; have zBR1 : w1_.cell? ⟨gr, 1, none⟩ = some (.slice none 0 0) := (blk_cell BR.out 1).trans rfl; have hf0BR := blk_frozen BR.out 0; have hf1BR := blk_frozen BR.out 1) | (go_at_call 203; (with_reducible refine (impl_IsGraph.calls k a0_0 _ _ l0_1 _ _ l0_2 true _ ?side1 ?side2 ?side3 ?side4 HT.out).mono ?_); (case side1 => repeat (first | exact HR1.out | exact (Kd.C_below HR1.out (by repeat (first | (with_reducible first | exact HB.out | apply below_alloc | apply pw_below_drewN | apply below_drew1) | exact HB.out))))); (case side2 => exact HC1.out); (case side3 => repeat (first | exact HR2.out | exact (Kd.C_below HR2.out (by repeat (first | (with_reducible first | exact HB.out | apply below_alloc | apply pw_below_drewN | apply below_drew1) | exact HB.out))))); (case side4 => exact HC2.out); rintro e w1_ ⟨rfl, hb⟩; have n_BG := aQ (blk_below (g := gg) (o := .cells #[.int .i64 a0_0, .slice A0_1 l0_1.length c0_1, .slice A0_2 l0_2.length c0_2] 71 (0, 0)) (by (with_reducible repeat (first | refine blk_drewN ?_ _ | refine blk_drew ?_ | refine blk_alloc ?_ _)); exact BG.out) hb); have n_BR := aQ (blk_below (g := gr) (o := .cells #[.int .i64 0, .slice none 0 0] 28 (0, 0)) (by (with_reducible repeat (first | refine blk_drewN ?_ _ | refine blk_drew ?_ | refine blk_alloc ?_ _)); exact BR.out) hb); have n_HB := aQ (below_step (by repeat (first | (with_reducible first | exact HB.out | apply below_alloc | apply pw_below_drewN | apply below_drew1) | exact HB.out)) hb); clear HB hb; clear BG; have BG := n_BG; clear n_BG; clear BR; have BR := n_BR; clear n_BR; have HB := n_HB; clear n_HB; have zBG0 : w1_.cell? ⟨gg, 0, none⟩ = some (.int .i64 a0_0) := (blk_cell BG.out 0).trans rfl; have zBG1 : w1_.cell? ⟨gg, 1, none⟩ = some (.slice A0_1 l0_1.length c0_1) := (blk_cell BG.out 1).trans rfl; have zBG2 : w1_.cell? ⟨gg, 2, none⟩ = some (.slice A0_2 l0_2.length c0_2) := (blk_cell BG.out 2).trans rfl; have zBR0 : w1_.cell? ⟨gr, 0, none⟩ = some (.int .i64 0) := (blk_cell BR.out 0).trans rfl; have zBR1 : w1_.cell? ⟨gr, 1, none⟩ = some (.slice none 0 0) := (blk_cell BR.out 1).trans rfl; have hf0BR := blk_frozen BR.out 0; have hf1BR := blk_frozen BR.out 1) | (go_at_call 139; (with_reducible refine (setsOf_walk (fun s => impl_FromGraph.c k a0_0 l0_1 l0_2 s) 204 _ EG.out (l0_1.length : Int) m y _ HF.out HM.out.1 HM.out.2 HS.out (fun W x b hb hg => calls_of_args (by simp) (FromGraph1_walk k a0_0 A0_1 c0_1 l0_1 A0_2 c0_2 l0_2 x b gg W (Kd.C_below (Kd.C_below HR1.out HB.out) hb) HC1.out (Kd.C_below (Kd.C_below HR2.out HB.out) hb) HC2.out (blk_below BG.out hb) hg))).mono ?_); rintro e w1_ ⟨v_, rfl, ho_, hb⟩; have HO := aQ (Kd.R_lower ho_ (below_size (by repeat (first | (with_reducible first | exact HB.out | apply below_alloc | apply pw_below_drewN | apply below_drew1) | exact HB.out)))); have n_BG := aQ (blk_below (g := gg) (o := .cells #[.int .i64 a0_0, .slice A0_1 l0_1.length c0_1, .slice A0_2 l0_2.length c0_2] 71 (0, 0)) (by (with_reducible repeat (first | refine blk_drewN ?_ _ | refine blk_drew ?_ | refine blk_alloc ?_ _)); exact BG.out) hb); have n_BR := aQ (blk_below (g := gr) (o := .cells #[.int .i64 0, .slice none 0 0] 28 (0, 0)) (by (with_reducible repeat (first | refine blk_drewN ?_ _ | refine blk_drew ?_ | refine blk_alloc ?_ _)); exact BR.out) hb); have n_HB := aQ (below_step (by repeat (first | (with_reducible first | exact HB.out | apply below_alloc | apply pw_below_drewN | apply below_drew1) | exact HB.out)) hb); clear HB hb; clear BG; have BG := n_BG; clear n_BG; clear BR; have BR := n_BR; clear n_BR; have HB := n_HB; clear n_HB; have zBG0 : w1_.cell? ⟨gg, 0, none⟩ = some (.int .i64 a0_0) := (blk_cell BG.out 0).trans rfl; have zBG1 : w1_.cell? ⟨gg, 1, none⟩ = some (.slice A0_1 l0_1.length c0_1) := (blk_cell BG.out 1).trans rfl; have zBG2 : w1_.cell? ⟨gg, 2, none⟩ = some (.slice A0_2 l0_2.length c0_2) := (blk_cell BG.out 2).trans rfl; have zBR0 : w1_.cell? ⟨gr, 0, none⟩ = some (.int .i64 0) := (blk_cell BR.out 0).trans rfl; have zBR1 : w1_.cell? ⟨gr, 1, none⟩ = some (.slice none 0 0) := (blk_cell BR.out 1).trans rfl; have hf0BR := blk_frozen BR.out 0; have hf1BR := blk_frozen BR.out 1; clear ho_; obtain ⟨AO, cO, eO⟩ := Kd.R_slice HO.out; subst eO) | (go_at_call 187; (with_reducible refine (impl_fromIndependent.calls k (l0_1.length : Int) _ _ y b1 b2 b3 _ ?side1 ?side2 HI.out).mono ?_); (case side1 => exact (Kd.R_reads' HO.out).2.2); (case side2 => exact (Kd.R_reads' HO.out).2.1); rintro e w1_ ⟨v_, rfl, ho_, hb⟩; have HP := aQ (Kd.R_lower ho_ (below_size (by repeat (first | (with_reducible first | exact HB.out | apply below_alloc | apply pw_below_drewN | apply below_drew1) | exact HB.out)))); have n_BG := aQ (blk_below (g := gg) (o := .cells #[.int .i64 a0_0, .slice A0_1 l0_1.length c0_1, .slice A0_2 l0_2.length c0_2] 71 (0, 0)) (by (with_reducible repeat (first | refine blk_drewN ?_ _ | refine blk_drew ?_ | refine blk_alloc ?_ _)); exact BG.out) hb); have n_BR := aQ (blk_below (g := gr) (o := .cells #[.int .i64 0, .slice none 0 0] 28 (0, 0)) (by (with_reducible repeat (first | refine blk_drewN ?_ _ | refine blk_drew ?_ | refine blk_alloc ?_ _)); exact BR.out) hb); have n_HB := aQ (below_step (by repeat (first | (with_reducible first | exact HB.out | apply below_alloc | apply pw_below_drewN | apply below_drew1) | exact HB.out)) hb); clear HB hb; clear BG; have BG := n_BG; clear n_BG; clear BR; have BR := n_BR; clear n_BR; have HB := n_HB; clear n_HB; have zBR0 : w1_.cell? ⟨gr, 0, none⟩ = some (.int .i64 0) := (blk_cell BR.out 0).trans rfl; have zBR1 : w1_.cell? ⟨gr, 1, none⟩ = some (.slice none 0 0) := (blk_cell BR.out 1).trans rfl; have hf0BR := blk_frozen BR.out 0; have hf1BR := blk_frozen BR.out 1; clear ho_ HO; obtain ⟨AP, cP, eP⟩ := Kd.R_slice HP.out; subst eP) | ((with_reducible refine gate_dst (N := 4) rfl ?_); refine box_event ?hg (N := 4) ?hd (cs := #[.int .i64 0, .slice none 0 0]) (t := 28) ?hr ?_; (case hd => rfl); (case hg => rfl); (case hr => first | (go_simp; done) | (go_simp; rfl)); intro gm hg w1_ hbox hb; have n_BG := aQ (blk_below (g := gg) (o := .cells #[.int .i64 a0_0, .slice A0_1 l0_1.length c0_1, .slice A0_2 l0_2.length c0_2] 71 (0, 0)) (by (with_reducible repeat (first | refine blk_drewN ?_ _ | refine blk_drew ?_ | refine blk_alloc ?_ _)); exact BG.out) hb); have n_BR := aQ (blk_below (g := gr) (o := .cells #[.int .i64 0, .slice none 0 0] 28 (0, 0)) (by (with_reducible repeat (first | refine blk_drewN ?_ _ | refine blk_drew ?_ | refine blk_alloc ?_ _)); exact BR.out) hb); have NBGBM := aQ ((by rw [hg]; exact Nat.ne_of_lt (blk_lt (g := gg) (o := .cells #[.int .i64 a0_0, .slice A0_1 l0_1.length c0_1, .slice A0_2 l0_2.length c0_2] 71 (0, 0)) (by (with_reducible repeat (first | refine blk_drewN ?_ _ | refine blk_drew ?_ | refine blk_alloc ?_ _)); exact BG.out))) : gg ≠ gm); have NBRBM := aQ ((by rw [hg]; exact Nat.ne_of_lt (blk_lt (g := gr) (o := .cells #[.int .i64 0, .slice none 0 0] 28 (0, 0)) (by (with_reducible repeat (first | refine blk_drewN ?_ _ | refine blk_drew ?_ | refine blk_alloc ?_ _)); exact BR.out))) : gr ≠ gm); have n_HB := aQ (below_step (by repeat (first | (with_reducible first | exact HB.out | apply below_alloc | apply pw_below_drewN | apply below_drew1) | exact HB.out)) hb); have GBM := aQ ((by rw [hg]; exact below_size (by repeat (first | (with_reducible first | exact HB.out | apply below_alloc | apply pw_below_drewN | apply below_drew1) | exact HB.out))) : w.heap.size ≤ gm); replace HP := aQ (Kd.R_below HP.out hb); clear HB; clear BG; have BG := n_BG; clear n_BG; clear BR; have BR := n_BR; clear n_BR; have HB := n_HB; clear n_HB; have BM := aQ hbox; clear hb hbox hg; have zBR0 : w1_.cell? ⟨gr, 0, none⟩ = some (.int .i64 0) := (blk_cell BR.out 0).trans rfl; have zBR1 : w1_.cell? ⟨gr, 1, none⟩ = some (.slice none 0 0) := (blk_cell BR.out 1).trans rfl; have zBM0 : w1_.cell? ⟨gm, 0, none⟩ = some (.int .i64 0) := (blk_cell BM.out 0).trans rfl; have zBM1 : w1_.cell? ⟨gm, 1, none⟩ = some (.slice none 0 0) := (blk_cell BM.out 1).trans rfl; have hf0BR := blk_frozen BR.out 0; have hf1BR := blk_frozen BR.out 1; have hf0BM := blk_frozen BM.out 0; have hf1BM := blk_frozen BM.out 1; have hne1 := NBRBM.out; have hne2 := Ne.symm NBRBM.out))
   refine bodyPost_ret (results_cell_row rfl _ _ gr 28 #[.int .i64 b1, .slice AP b2.length cP] (0, 0) _ rfl (by (with_reducible repeat (first | refine blk_drewN ?_ _ | refine blk_drew ?_ | refine blk_alloc ?_ _)); refine blk_put (cs := #[.int .i64 b1, .slice none 0 0]) ?_ 1 _ rfl; (with_reducible repeat (first | refine blk_drewN ?_ _ | refine blk_drew ?_ | refine blk_alloc ?_ _)); refine blk_put (cs := #[.int .i64 0, .slice none 0 0]) ?_ 0 _ rfl; (with_reducible repeat (first | refine blk_drewN ?_ _ | refine blk_drew ?_ | refine blk_alloc ?_ _)); refine blk_far (p := ⟨gm, 1, none⟩) ?_ NBRBM.out _; (with_reducible repeat (first | refine blk_drewN ?_ _ | refine blk_drew ?_ | refine blk_alloc ?_ _)); refine blk_far (p := ⟨gm, 0, none⟩) ?_ NBRBM.out _; (with_reducible repeat (first | refine blk_drewN ?_ _ | refine blk_drew ?_ | refine blk_alloc ?_ _)); exact BR.out) Try.underlying28 rfl (by kernel_rfl)) rfl ?_
   exact ⟨_, by first | rfl | (simp; done) | (simp [*]; done), by (with_reducible repeat (first | apply Kd.R_alloc | apply Kd.R_drewN | apply Kd.R_drew)); exact Kd.R_mono (Kd.R_far (p := ⟨gr, 1, none⟩) (Kd.R_far (p := ⟨gr, 0, none⟩) (Kd.R_far (p := ⟨gm, 1, none⟩) (Kd.R_far (p := ⟨gm, 0, none⟩) (Kd.R_types (Kd.R_types HP.out BR.out (by decide)) BM.out (by decide)) (fun _ hk => hk.2) _) (fun _ hk => hk.2) _) (fun _ hk => hk.1.2) _) (fun _ hk => hk.1.2) _) (fun _ hk => trivial), (by repeat (first | (with_reducible first | exact HB.out | apply below_alloc | apply pw_below_drewN | apply below_drew1 | refine below_set ?_ GBR.out | refine below_set ?_ GBM.out) | exact HB.out))⟩
  ·rw [if_neg hm] at h; cases h
 ·have c4 := Bool.eq_false_iff.mpr c3
  subst c4
  clear c3
  rw [if_neg (by decide)] at h
  simp only [Option.some.injEq, Prod.mk.injEq] at h
  obtain ⟨rfl, rfl⟩ := h
  go_enter Try.func95, Try.ntmps95
  go_wp2_with (first | ((with_reducible refine gate_dst (N := 1) rfl ?_); refine box_event ?hg (N := 1) ?hd (cs := #[.int .i64 a0_0, .slice A0_1 l0_1.length c0_1, .slice A0_2 l0_2.length c0_2]) (t := 71) ?hr ?_; (case hd => rfl); (case hg => rfl); (case hr => first | (go_simp; done) | (go_simp; rfl)); intro gg hg w1_ hbox hb; have n_HB := aQ (below_step (by repeat (first | (with_reducible first | exact HB.out | apply below_alloc | apply pw_below_drewN | apply below_drew1) | exact HB.out)) hb); have GBG := aQ ((by rw [hg]; exact below_size (by repeat (first | (with_reducible first | exact HB.out | apply below_alloc | apply pw_below_drewN | apply below_drew1) | exact HB.out))) : w.heap.size ≤ gg); clear HB; have HB := n_HB; clear n_HB; have BG := aQ hbox; clear hb hbox hg; have zBG0 : w1_.cell? ⟨gg, 0, none⟩ = some (.int .i64 a0_0) := (blk_cell BG.out 0).trans rfl; have zBG1 : w1_.cell? ⟨gg, 1, none⟩ = some (.slice A0_1 l0_1.length c0_1) := (blk_cell BG.out 1).trans rfl; have zBG2 : w1_.cell? ⟨gg, 2, none⟩ = some (.slice A0_2 l0_2.length c0_2) := (blk_cell BG.out 2).trans rfl) | ((with_reducible refine gate_dst (N := 2) rfl ?_); refine box_event ?hg (N := 2) ?hd (cs := #[.int .i64 0, .slice none 0 0]) (t := 28) ?hr ?_; (case hd => rfl); (case hg => rfl); (case hr => first | (go_simp; done) | (go_simp; rfl)); intro gr hg w1_ hbox hb; have n_BG := aQ (blk_below (g := gg) (o := .cells #[.int .i64 a0_0, .slice A0_1 l0_1.length c0_1, .slice A0_2 l0_2.length c0_2] 71 (0, 0)) (by (with_reducible repeat (first | refine blk_drewN ?_ _ | refine blk_drew ?_ | refine blk_alloc ?_ _)); exact BG.out) hb); have NBGBR := aQ ((by rw [hg]; exact Nat.ne_of_lt (blk_lt (g := gg) (o := .cells #[.int .i64 a0_0, .slice A0_1 l0_1.length c0_1, .slice A0_2 l0_2.length c0_2] 71 (0, 0)) (by (with_reducible repeat (first | refine blk_drewN ?_ _ | refine blk_drew ?_ | refine blk_alloc ?_ _)); exact BG.out))) : gg ≠ gr); have n_HB := aQ (below_step (by repeat (first | (with_reducible first | exact HB.out | apply below_alloc | apply pw_below_drewN | apply below_drew1) | exact HB.out)) hb); have GBR := aQ ((by rw [hg]; exact below_size (by repeat (first | (with_reducible first | exact HB.out | apply below_alloc | apply pw_below_drewN | apply below_drew1) | exact HB.out))) : w.heap.size ≤ gr); clear HB; clear BG; have BG := n_BG; clear n_BG; have HB := n_HB; clear n_HB; have BR := aQ hbox; clear hb hbox hg; have zBG0 : w1_.cell? ⟨gg, 0, none⟩ = some (.int .i64 a0_0) := (blk_cell BG.out 0).trans rfl; have zBG1 : w1_.cell? ⟨gg, 1, none⟩ = some (.slice A0_1 l0_1.length c0_1) := (blk_cell BG.out 1).trans rfl; have zBG2 : w1_.cell? ⟨gg, 2, none⟩ = some (.slice A0_2 l0_2.length c0_2) := (blk_cell BG.out 2).trans rfl; have zBR0 : w1_.cell? ⟨gr, 0, none⟩ = some (.int .i64 0) := (blk_cell BR.out 0).trans rfl; have zBR1 : w1_.cell? ⟨gr, 1, none⟩ = some (.slice none 0 0) := (blk_cell BR.out 1).trans rfl; have hf0BR := blk_frozen BR.out 0; have hf1BR := blk_frozen BR.out 1) | (go_at_call 203; (with_reducible refine (impl_IsGraph.calls k a0_0 _ _ l0_1 _ _ l0_2 false _ ?side1 ?side2 ?side3 ?side4 HT.out).mono ?_); (case side1 => repeat (first | exact HR1.out | exact (Kd.C_below HR1.out (by repeat (first | (with_reducible first | exact HB.out | apply below_alloc | apply pw_below_drewN | apply below_drew1) | exact HB.out))))); (case side2 => exact HC1.out); (case side3 => repeat (first | exact HR2.out | exact (Kd.C_below HR2.out (by repeat (first | (with_reducible first | exact HB.out | apply below_alloc | apply pw_below_drewN | apply below_drew1) | exact HB.out))))); (case side4 => exact HC2.out); rintro e w1_ ⟨rfl, hb⟩; have n_BG := aQ (blk_below (g := gg) (o := .cells #[.int .i64 a0_0, .slice A0_1 l0_1.length c0_1, .slice A0_2 l0_2.length c0_2] 71 (0, 0)) (by (with_reducible repeat (first | refine blk_drewN ?_ _ | refine blk_drew ?_ | refine blk_alloc ?_ _)); exact BG.out) hb); have n_BR := aQ (blk_below (g := gr) (o := .cells #[.int .i64 0, .slice none 0 0] 28 (0, 0)) (by (with_reducible repeat (first | refine blk_drewN ?_ _ | refine blk_drew ?_ | refine blk_alloc ?_ _)); exact BR.out) hb); have n_HB := aQ (below_step (by repeat (first | (with_reducible first | exact HB.out | apply below_alloc | apply pw_below_drewN | apply below_drew1) | exact HB.out)) hb); clear HB hb; clear BG; have BG := n_BG; clear n_BG; clear BR; have BR := n_BR; clear n_BR; have HB := n_HB; clear n_HB; have zBG0 : w1_.cell? ⟨gg, 0, none⟩ = some (.int .i64 a0_0) := (blk_cell BG.out 0).trans rfl; have zBG1 : w1_.cell? ⟨gg, 1, none⟩ = some (.slice A0_1 l0_1.length c0_1) := (blk_cell BG.out 1).trans rfl; have zBG2 : w1_.cell? ⟨gg, 2, none⟩ = some (.slice A0_2 l0_2.length c0_2) := (blk_cell BG.out 2).trans rfl; have zBR0 : w1_.cell? ⟨gr, 0, none⟩ = some (.int .i64 0) := (blk_cell BR.out 0).trans rfl; have zBR1 : w1_.cell? ⟨gr, 1, none⟩ = some (.slice none 0 0) := (blk_cell BR.out 1).trans rfl; have hf0BR := blk_frozen BR.out 0; have hf1BR := blk_frozen BR.out 1))
  refine bodyPost_ret (results_cell_row rfl _ _ gr 28 #[.int .i64 0, .slice none 0 0] (0, 0) _ rfl (by (with_reducible repeat (first | refine blk_drewN ?_ _ | refine blk_drew ?_ | refine blk_alloc ?_ _)); refine blk_put (cs := #[.int .i64 0, .slice none 0 0]) ?_ 1 _ rfl; (with_reducible repeat (first | refine blk_drewN ?_ _ | refine blk_drew ?_ | refine blk_alloc ?_ _)); refine blk_put (cs := #[.int .i64 0, .slice none 0 0]) ?_ 0 _ rfl; (with_reducible repeat (first | refine blk_drewN ?_ _ | refine blk_drew ?_ | refine blk_alloc ?_ _)); exact BR.out) Try.underlying28 rfl (by kernel_rfl)) rfl ?_
  exact ⟨_, by first | rfl | (simp; done) | (simp [*]; done), Kd.R_nil _ _ _ _ _, (by repeat (first | (with_reducible first | exact HB.out | apply below_alloc | apply pw_below_drewN | apply below_drew1 | refine below_set ?_ GBR.out) | exact HB.out))⟩
end Go.Proofs.Ytinoamehdhgpgaa.A
namespace Go.Proofs.Ytinoamehdhgpgaa.A
open Go.RowKit Go.Proofs.YtinoamehdhgpgaaW.PrintWords Go.Proofs.YtinoamehdhgpgaaW.PrintLast Go.Proofs.YtinoamehdhgpgaaW.PrintMore
attribute [local go_sem] max2_int min2_int max_two min_two max_three min_three max_four min_four   -- for this text's walks alone
set_option linter.unusedVariables false
set_option linter.unusedSimpArgs false

/-! ### laws_eqGraph: function 96 -/
def laws_eqGraph.f (k : Nat) (a0_0 : Int) (l0_1 : List Int) (l0_2 : List Int) (a1_0 : Int) (l1_1 : List Int) (l1_2 : List Int) : Option (Bool) := if a0_0 = a1_0 then ((laws_eqIntS.f k l0_1 l1_1).bind fun t97003 => (if t97003 = true then ((laws_eqIntS.f k l0_2 l1_2).bind fun t97004 => (if t97004 = true then (some true) else (some false))) else (some false))) else (some false)
theorem laws_eqGraph.mono : ∀ a0 a1 a2 a3 a4 a5 k, LeO (laws_eqGraph.f k a0 a1 a2 a3 a4 a5) (laws_eqGraph.f (k + 1) a0 a1 a2 a3 a4 a5) := by
 intro a0 a1 a2 a3 a4 a5 k
 unfold laws_eqGraph.f
 repeat' first
   | (with_reducible exact laws_eqIntS.mono _ _ _)
   | (with_reducible exact LeO.refl _)
   | (with_reducible exact LeO.none _)
   | (with_reducible refine LeO.ite ?_ ?_)
   | (with_reducible refine LeO.bind ?_ (fun _ => ?_))
   | exact laws_eqIntS.mono _ _ _
   | exact LeO.none _
   | refine LeO.ite ?_ ?_
   | refine LeO.bind ?_ (fun _ => ?_)
set_option maxHeartbeats 8000000 in
set_option maxRecDepth 100000 in
theorem laws_eqGraph.calls (k : Nat) (a0_0 : Int) (A0_1 : Option Addr) (c0_1 : Nat) (l0_1 : List Int) (A0_2 : Option Addr) (c0_2 : Nat) (l0_2 : List Int) (a1_0 : Int) (A1_1 : Option Addr) (c1_1 : Nat) (l1_1 : List Int) (A1_2 : Option Addr) (c1_2 : Nat) (l1_2 : List Int) (r : Bool) (w : World) (hr0_1 : Kd.C (Kd.int .i64) w A0_1 l0_1.length l0_1) (hc0_1 : l0_1.length ≤ c0_1) (hr0_2 : Kd.C (Kd.int .i64) w A0_2 l0_2.length l0_2) (hc0_2 : l0_2.length ≤ c0_2) (hr1_1 : Kd.C (Kd.int .i64) w A1_1 l1_1.length l1_1) (hc1_1 : l1_1.length ≤ c1_1) (hr1_2 : Kd.C (Kd.int .i64) w A1_2 l1_2.length l1_2) (hc1_2 : l1_2.length ≤ c1_2) (h : laws_eqGraph.f k a0_0 l0_1 l0_2 a1_0 l1_1 l1_2 = some r) :
  Calls Try.prog 96 #[.agg #[.int .i64 a0_0, .slice A0_1 l0_1.length c0_1, .slice A0_2 l0_2.length c0_2], .agg #[.int .i64 a1_0, .slice A1_1 l1_1.length c1_1, .slice A1_2 l1_2.length c1_2]] w fun e w' => e = .returned (.bool r) ∧ Below w.heap.size w w' := by
 have hu71 := Try.underlying71
 have HR0_1 := aQ hr0_1
 have HC0_1 := aQ hc0_1
 clear hr0_1 hc0_1
 have HR0_2 := aQ hr0_2
 have HC0_2 := aQ hc0_2
 clear hr0_2 hc0_2
 have HR1_1 := aQ hr1_1
 have HC1_1 := aQ hc1_1
 clear hr1_1 hc1_1
 have HR1_2 := aQ hr1_2
 have HC1_2 := aQ hc1_2
 clear hr1_2 hc1_2
 have HB := aQ (Below.refl w.heap.size w)
 have H : (if a0_0 = a1_0 then ((laws_eqIntS.f k l0_1 l1_1).bind fun t97003 => (if t97003 = true then ((laws_eqIntS.f k l0_2 l1_2).bind fun t97004 => (if t97004 = true then (some true) else (some false))) else (some false))) else (some false)) = some r := h
 clear h
 by_cases c3 : a0_0 = a1_0
 ·rw [if_pos c3] at H
  have c3b0 : (a0_0 == a1_0) = true := beq_iff_eq.mpr c3
  have c3b1 : (a0_0 != a1_0) = false := bne_eq_false_iff_eq.mpr c3
  clear c3
  replace H := Option.bind_eq_some_iff.mp H
  obtain ⟨t97003, A40, H⟩ := H
  replace H : (if t97003 = true then ((laws_eqIntS.f k l0_2 l1_2).bind fun t97004 => (if t97004 = true then (some true) else (some false))) else (some false)) = some r := H
  have A4 := aQ A40
  clear A40
  by_cases c5 : t97003 = true
  ·subst c5
   have H1 : ((laws_eqIntS.f k l0_2 l1_2).bind fun t97004 => (if t97004 = true then (some true) else (some false))) = some r := by rw [if_pos rfl] at H; exact H
   clear H
   have H := H1
   clear H1
   replace H := Option.bind_eq_some_iff.mp H
   obtain ⟨t97004, A60, H⟩ := H
   replace H : (if t97004 = true then (some true) else (some false)) = some r := H
   have A6 := aQ A60
   clear A60
   by_cases c7 : t97004 = true
   ·subst c7
    have H1 : (some true) = some r := by rw [if_pos rfl] at H; exact H
    clear H
    have H := H1
    clear H1
    obtain rfl := Option.some.inj H
    go_enter Try.func96, Try.ntmps96
    go_wp2_with (first | ((with_reducible refine gate_dst (N := 2) rfl ?_); refine box_event ?hg (N := 2) ?hd (cs := #[.int .i64 a0_0, .slice A0_1 l0_1.length c0_1, .slice A0_2 l0_2.length c0_2]) (t := 71) ?hr ?_; (case hd => rfl); (case hg => rfl); (case hr => first | (go_simp; done) | (go_simp; rfl)); intro gb97001 hg w8 hbox hb; have BK97001 := aQ (hbox); have GW97001 := aQ ((by rw [hg]; exact (below_size (by repeat (first | (with_reducible first | exact HB.out | apply below_alloc | apply pw_below_drewN | apply below_drew1) | exact HB.out))) : w.heap.size ≤ gb97001)); have GE97001 := aQ ((by rw [hg]; exact (below_size (by repeat (first | (with_reducible first | exact HB.out | apply below_alloc | apply pw_below_drewN | apply below_drew1) | exact HB.out))) : w.heap.size ≤ gb97001)); replace HB := aQ (below_step (by repeat (first | (with_reducible first | exact HB.out | apply below_alloc | apply pw_below_drewN | apply below_drew1) | exact HB.out)) hb); clear hb hbox hg) | ((with_reducible refine gate_dst (N := 3) rfl ?_); refine box_event ?hg (N := 3) ?hd (cs := #[.int .i64 a1_0, .slice A1_1 l1_1.length c1_1, .slice A1_2 l1_2.length c1_2]) (t := 71) ?hr ?_; (case hd => rfl); (case hg => rfl); (case hr => first | (go_simp; done) | (go_simp; rfl)); intro gb97002 hg w9 hbox hb; have BK97002 := aQ (hbox); have GW97002 := aQ ((by rw [hg]; exact (below_size (by repeat (first | (with_reducible first | exact HB.out | apply below_alloc | apply pw_below_drewN | apply below_drew1 | refine below_set ?_ GE97001.out) | exact HB.out))) : w.heap.size ≤ gb97002)); have GE97002 := aQ ((by rw [hg]; exact (below_size (by repeat (first | (with_reducible first | exact HB.out | apply below_alloc | apply pw_below_drewN | apply below_drew1 | refine below_set ?_ GE97001.out) | exact HB.out))) : w.heap.size ≤ gb97002)); replace HB := aQ (below_step (by repeat (first | (with_reducible first | exact HB.out | apply below_alloc | apply pw_below_drewN | apply below_drew1 | refine below_set ?_ GE97001.out) | exact HB.out)) hb); have NB97001_97002 := aQ ((by rw [hg]; exact Nat.ne_of_lt (blk_lt (g := gb97001) (o := .cells #[.int .i64 a0_0, .slice A0_1 l0_1.length c0_1, .slice A0_2 l0_2.length c0_2] 71 (0, 0)) (by (with_reducible repeat (first | refine blk_drewN ?_ _ | refine blk_drew ?_ | refine blk_alloc ?_ _)); exact BK97001.out)) : gb97001 ≠ gb97002)); have NB97002_97001 := aQ ((by rw [hg]; exact Nat.ne_of_gt (blk_lt (g := gb97001) (o := .cells #[.int .i64 a0_0, .slice A0_1 l0_1.length c0_1, .slice A0_2 l0_2.length c0_2] 71 (0, 0)) (by (with_reducible repeat (first | refine blk_drewN ?_ _ | refine blk_drew ?_ | refine blk_alloc ?_ _)); exact BK97001.out)) : gb97002 ≠ gb97001)); replace BK97001 := aQ (blk_below (g := gb97001) (o := .cells #[.int .i64 a0_0, .slice A0_1 l0_1.length c0_1, .slice A0_2 l0_2.length c0_2] 71 (0, 0)) (by (with_reducible repeat (first | refine blk_drewN ?_ _ | refine blk_drew ?_ | refine blk_alloc ?_ _)); exact BK97001.out) hb); clear hb hbox hg; have hnb10 := NB97001_97002.out; have hnc10 := NB97002_97001.out; have hcz11_0 : w9.cell? ⟨gb97001, 0, none⟩ = some (.int .i64 a0_0) := (blk_cell BK97001.out 0).trans rfl; have hcz11_1 : w9.cell? ⟨gb97001, 1, none⟩ = some (.slice A0_1 l0_1.length c0_1) := (blk_cell BK97001.out 1).trans rfl; have hcz11_2 : w9.cell? ⟨gb97001, 2, none⟩ = some (.slice A0_2 l0_2.length c0_2) := (blk_cell BK97001.out 2).trans rfl; have hfz11_0 := blk_frozen BK97001.out 0; have hfz11_1 := blk_frozen BK97001.out 1; have hfz11_2 := blk_frozen BK97001.out 2; have hcz12_0 : w9.cell? ⟨gb97002, 0, none⟩ = some (.int .i64 a1_0) := (blk_cell BK97002.out 0).trans rfl; have hcz12_1 : w9.cell? ⟨gb97002, 1, none⟩ = some (.slice A1_1 l1_1.length c1_1) := (blk_cell BK97002.out 1).trans rfl; have hcz12_2 : w9.cell? ⟨gb97002, 2, none⟩ = some (.slice A1_2 l1_2.length c1_2) := (blk_cell BK97002.out 2).trans rfl; have hfz12_0 := blk_frozen BK97002.out 0; have hfz12_1 := blk_frozen BK97002.out 1; have hfz12_2 := blk_frozen BK97002.out 2) | ((with_reducible refine gate_callee (f := 37) rfl ?_); refine goesL_ (some 14) rfl rfl Try.func37 (by kernel_rfl) rfl #[.slice A0_1 l0_1.length c0_1, .slice A1_1 l1_1.length c1_1] rfl (by (try simp only [List.map_toArray, List.map_cons, List.map_nil]); first | done | rfl | (simp only [List.length_drop, List.length_take]; rfl)) ?_; (with_reducible refine (laws_eqIntS.calls k _ _ l0_1 _ _ l1_1 true _ ?side1 ?side2 ?side3 ?side4 A4.out).mono ?_); (case side1 => repeat (first | exact (Kd.C_below HR0_1.out HB.out) | (with_reducible refine Kd.C_alloc ?_ _) | (with_reducible refine Kd.C_drewN ?_ _) | (with_reducible refine Kd.C_drew ?_))); (case side2 => exact HC0_1.out); (case side3 => repeat (first | exact (Kd.C_below HR1_1.out HB.out) | (with_reducible refine Kd.C_alloc ?_ _) | (with_reducible refine Kd.C_drewN ?_ _) | (with_reducible refine Kd.C_drew ?_))); (case side4 => exact HC1_1.out); rintro e w' ⟨rfl, ⟨nd, rfl⟩⟩; refine ⟨_, rfl, ?_⟩) | ((with_reducible refine gate_callee (f := 37) rfl ?_); refine goesL_ (some 20) rfl rfl Try.func37 (by kernel_rfl) rfl #[.slice A0_2 l0_2.length c0_2, .slice A1_2 l1_2.length c1_2] rfl (by (try simp only [List.map_toArray, List.map_cons, List.map_nil]); first | done | rfl | (simp only [List.length_drop, List.length_take]; rfl)) ?_; (with_reducible refine (laws_eqIntS.calls k _ _ l0_2 _ _ l1_2 true _ ?side1 ?side2 ?side3 ?side4 A6.out).mono ?_); (case side1 => repeat (first | exact (Kd.C_below HR0_2.out (by repeat (first | (with_reducible first | exact HB.out | apply below_alloc | apply pw_below_drewN | apply below_drew1 | refine below_set ?_ GE97001.out | refine below_set ?_ GE97002.out) | exact HB.out))) | (with_reducible refine Kd.C_alloc ?_ _) | (with_reducible refine Kd.C_drewN ?_ _) | (with_reducible refine Kd.C_drew ?_))); (case side2 => exact HC0_2.out); (case side3 => repeat (first | exact (Kd.C_below HR1_2.out (by repeat (first | (with_reducible first | exact HB.out | apply below_alloc | apply pw_below_drewN | apply below_drew1 | refine below_set ?_ GE97001.out | refine below_set ?_ GE97002.out) | exact HB.out))) | (with_reducible refine Kd.C_alloc ?_ _) | (with_reducible refine Kd.C_drewN ?_ _) | (with_reducible refine Kd.C_drew ?_))); (case side4 => exact HC1_2.out); rintro e w' ⟨rfl, ⟨nd, rfl⟩⟩; refine ⟨_, rfl, ?_⟩))
    go_ret
    exact ⟨by first | rfl | (simp [errW_none, errW_some] <;> rfl) | (simp [*, errW_none, errW_some] <;> rfl), by repeat (first | (with_reducible first | exact HB.out | apply below_alloc | apply pw_below_drewN | apply below_drew1 | refine below_set ?_ GE97001.out | refine below_set ?_ GE97002.out) | exact HB.out)⟩
   ·replace c7 := Bool.eq_false_iff.mpr c7
    subst c7
    have H1 : (some false) = some r := by rw [if_neg (show ¬ (false = true) by decide)] at H; exact H
    clear H
    have H := H1
    clear H1
    obtain rfl := Option.some.inj H
    go_enter Try.func96, Try.ntmps96
    go_wp2_with (first | ((with_reducible refine gate_dst (N := 2) rfl ?_); refine box_event ?hg (N := 2) ?hd (cs := #[.int .i64 a0_0, .slice A0_1 l0_1.length c0_1, .slice A0_2 l0_2.length c0_2]) (t := 71) ?hr ?_; (case hd => rfl); (case hg => rfl); (case hr => first | (go_simp; done) | (go_simp; rfl)); intro gb97001 hg w13 hbox hb; have BK97001 := aQ (hbox); have GW97001 := aQ ((by rw [hg]; exact (below_size (by repeat (first | (with_reducible first | exact HB.out | apply below_alloc | apply pw_below_drewN | apply below_drew1) | exact HB.out))) : w.heap.size ≤ gb97001)); have GE97001 := aQ ((by rw [hg]; exact (below_size (by repeat (first | (with_reducible first | exact HB.out | apply below_alloc | apply pw_below_drewN | apply below_drew1) | exact HB.out))) : w.heap.size ≤ gb97001)); replace HB := aQ (below_step (by repeat (first | (with_reducible first | exact HB.out | apply below_alloc | apply pw_below_drewN | apply below_drew1) | exact HB.out)) hb); clear hb hbox hg) | ((with_reducible refine gate_dst (N := 3) rfl ?_); refine box_event ?hg (N := 3) ?hd (cs := #[.int .i64 a1_0, .slice A1_1 l1_1.length c1_1, .slice A1_2 l1_2.length c1_2]) (t := 71) ?hr ?_; (case hd => rfl); (case hg => rfl); (case hr => first | (go_simp; done) | (go_simp; rfl)); intro gb97002 hg w14 hbox hb; have BK97002 := aQ (hbox); have GW97002 := aQ ((by rw [hg]; exact (below_size (by repeat (first | (with_reducible first | exact HB.out | apply below_alloc | apply pw_below_drewN | apply below_drew1 | refine below_set ?_ GE97001.out) | exact HB.out))) : w.heap.size ≤ gb97002)); have GE97002 := aQ ((by rw [hg]; exact (below_size (by repeat (first | (with_reducible first | exact HB.out | apply below_alloc | apply pw_below_drewN | apply below_drew1 | refine below_set ?_ GE97001.out) | exact HB.out))) : w.heap.size ≤ gb97002)); replace HB := aQ (below_step (by repeat (first | (with_reducible first | exact HB.out | apply below_alloc | apply pw_below_drewN | apply below_drew1 | refine below_set ?_ GE97001.out) | exact HB.out)) hb); have NB97001_97002 := aQ ((by rw [hg]; exact Nat.ne_of_lt (blk_lt (g := gb97001) (o := .cells #[.int .i64 a0_0, .slice A0_1 l0_1.length c0_1, .slice A0_2 l0_2.length c0_2] 71 (0, 0)) (by (with_reducible repeat (first | refine blk_drewN ?_ _ | refine blk_drew ?_ | refine blk_alloc ?_ _)); exact BK97001.out)) : gb97001 ≠ gb97002)); have NB97002_97001 := aQ ((by rw [hg]; exact Nat.ne_of_gt (blk_lt (g := gb97001) (o := .cells #[.int .i64 a0_0, .slice A0_1 l0_1.length c0_1, .slice A0_2 l0_2.length c0_2] 71 (0, 0)) (by (with_reducible repeat (first | refine blk_drewN ?_ _ | refine blk_drew ?_ | refine blk_alloc ?_ _)); exact BK97001.out)) : gb97002 ≠ gb97001)); replace BK97001 := aQ (blk_below (g := gb97001) (o := .cells #[.int .i64 a0_0, .slice A0_1 l0_1.length c0_1, .slice A0_2 l0_2.length c0_2] 71 (0, 0)) (by (with_reducible repeat (first | refine blk_drewN ?_ _ | refine blk_drew ?_ | refine blk_alloc ?_ _)); exact BK97001.out) hb); clear hb hbox hg; have hnb15 := NB97001_97002.out; have hnc15 := NB97002_97001.out; have hcz16_0 : w14.cell? ⟨gb97001, 0, none⟩ = some (.int .i64 a0_0) := (blk_cell BK97001.out 0).trans rfl; have hcz16_1 : w14.cell? ⟨gb97001, 1, none⟩ = some (.slice A0_1 l0_1.length c0_1) := (blk_cell BK97001.out 1).trans rfl; have hcz16_2 : w14.cell? ⟨gb97001, 2, none⟩ = some (.slice A0_2 l0_2.length c0_2) := (blk_cell BK97001.out 2).trans rfl; have hfz16_0 := blk_frozen BK97001.out 0; have hfz16_1 := blk_frozen BK97001.out 1; have hfz16_2 := blk_frozen BK97001.out 2; have hcz17_0 : w14.cell? ⟨gb97002, 0, none⟩ = some (.int .i64 a1_0) := (blk_cell BK97002.out 0).trans rfl; have hcz17_1 : w14.cell? ⟨gb97002, 1, none⟩ = some (.slice A1_1 l1_1.length c1_1) := (blk_cell BK97002.out 1).trans rfl; have hcz17_2 : w14.cell? ⟨gb97002, 2, none⟩ = some (.slice A1_2 l1_2.length c1_2) := (blk_cell BK97002.out 2).trans rfl; have hfz17_0 := blk_frozen BK97002.out 0; have hfz17_1 := blk_frozen BK97002.out 1; have hfz17_2 := blk_frozen BK97002.out 2) | ((with_reducible refine gate_callee (f := 37) rfl ?_); refine goesL_ (some 14) rfl rfl Try.func37 (by kernel_rfl) rfl #[.slice A0_1 l0_1.length c0_1, .slice A1_1 l1_1.length c1_1] rfl (by (try simp only [List.map_toArray, List.map_cons, List.map_nil]); first | done | rfl | (simp only [List.length_drop, List.length_take]; rfl)) ?_; (with_reducible refine (laws_eqIntS.calls k _ _ l0_1 _ _ l1_1 true _ ?side1 ?side2 ?side3 ?side4 A4.out).mono ?_); (case side1 => repeat (first | exact (Kd.C_below HR0_1.out HB.out) | (with_reducible refine Kd.C_alloc ?_ _) | (with_reducible refine Kd.C_drewN ?_ _) | (with_reducible refine Kd.C_drew ?_))); (case side2 => exact HC0_1.out); (case side3 => repeat (first | exact (Kd.C_below HR1_1.out HB.out) | (with_reducible refine Kd.C_alloc ?_ _) | (with_reducible refine Kd.C_drewN ?_ _) | (with_reducible refine Kd.C_drew ?_))); (case side4 => exact HC1_1.out); rintro e w' ⟨rfl, ⟨nd, rfl⟩⟩; refine ⟨_, rfl, ?_⟩) | ((with_reducible refine gate_callee (f := 37) rfl ?_); refine goesL_ (some 20) rfl rfl Try.func37 (by kernel_rfl) rfl #[.slice A0_2 l0_2.length c0_2, .slice A1_2 l1_2.length c1_2] rfl (by (try simp only [List.map_toArray, List.map_cons, List.map_nil]); first | done | rfl | (simp only [List.length_drop, List.length_take]; rfl)) ?_; (with_reducible refine (laws_eqIntS.calls k _ _ l0_2 _ _ l1_2 false _ ?side1 ?side2 ?side3 ?side4 A6.out).mono ?_); (case side1 => repeat (first | exact (Kd.C_below HR0_2.out (by repeat (first | (with_reducible first | exact HB.out | apply below_alloc | apply pw_below_drewN | apply below_drew1 | refine below_set ?_ GE97001.out | refine below_set ?_ GE97002.out) | exact HB.out))) | (with_reducible refine Kd.C_alloc ?_ _) | (with_reducible refine Kd.C_drewN ?_ _) | (with_reducible refine Kd.C_drew ?_))); (case side2 => exact HC0_2.out); (case side3 => repeat (first | exact (Kd.C_below HR1_2.out (by repeat (first | (with_reducible first | exact HB.out | apply below_alloc | apply pw_below_drewN | apply below_drew1 | refine below_set ?_ GE97001.out | refine below_set ?_ GE97002.out) | exact HB.out))) | (with_reducible refine Kd.C_alloc ?_ _) | (with_reducible refine Kd.C_drewN ?_ _) | (with_reducible refine Kd.C_drew ?_))); (case side4 => exact HC1_2.out); rintro e w' ⟨rfl, ⟨nd, rfl⟩⟩; refine ⟨_, rfl, ?_⟩))
    go_ret
    exact ⟨by first | rfl | (simp [errW_none, errW_some] <;> rfl) | (simp [*, errW_none, errW_some] <;> rfl), by repeat (first | (with_reducible first | exact HB.out | apply below_alloc | apply pw_below_drewN | apply below_drew1 | refine below_set ?_ GE97001.out | refine below_set ?_ GE97002.out) | exact HB.out)⟩
  ·replace c5 := Bool.eq_false_iff.mpr c5
   subst c5
   have H1 : (some false) = some r := by rw [if_neg (show ¬ (false = true) by decide)] at H; exact H
   clear H
   have H := H1
   clear H1
   obtain rfl := Option.some.inj H
   go_enter Try.func96, Try.ntmps96
   go_wp2_with (first | ((with_reducible refine gate_dst (N := 2) rfl ?_); refine box_event ?hg (N := 2) ?hd (cs := #[.int .i64 a0_0, .slice A0_1 l0_1.length c0_1, .slice A0_2 l0_2.length c0_2]) (t := 71) ?hr ?_; (case hd => rfl); (case hg => rfl); (case hr => first | (go_simp; done) | (go_simp; rfl)); intro gb97001 hg w18 hbox hb; have BK97001 := aQ (hbox); have GW97001 := aQ ((by rw [hg]; exact (below_size (by repeat (first | (with_reducible first | exact HB.out | apply below_alloc | apply pw_below_drewN | apply below_drew1) | exact HB.out))) : w.heap.size ≤ gb97001)); have GE97001 := aQ ((by rw [hg]; exact (below_size (by repeat (first | (with_reducible first | exact HB.out | apply below_alloc | apply pw_below_drewN | apply below_drew1) | exact HB.out))) : w.heap.size ≤ gb97001)); replace HB := aQ (below_step (by repeat (first | (with_reducible first | exact HB.out | apply below_alloc | apply pw_below_drewN | apply below_drew1) | exact HB.out)) hb); clear hb hbox hg) | ((with_reducible refine gate_dst (N := 3) rfl ?_); refine box_event ?hg (N := 3) ?hd (cs := #[.int .i64 a1_0, .slice A1_1 l1_1.length c1_1, .slice A1_2 l1_2.length c1_2]) (t := 71) ?hr ?_; (case hd => rfl); (case hg => rfl); (case hr => first | (go_simp; done) | (go_simp; rfl)); intro gb97002 hg w19 hbox hb; have BK97002 := aQ (hbox); have GW97002 := aQ ((by rw [hg]; exact (below_size (by repeat (first | (with_reducible first | exact HB.out | apply below_alloc | apply pw_below_drewN | apply below_drew1 | refine below_set ?_ GE97001.out) | exact HB.out))) : w.heap.size ≤ gb97002)); have GE97002 := aQ ((by rw [hg]; exact (below_size (by repeat (first | (with_reducible first | exact HB.out | apply below_alloc | apply pw_below_drewN | apply below_drew1 | refine below_set ?_ GE97001.out) | exact HB.out))) : w.heap.size ≤ gb97002)); replace HB := aQ (below_step (by repeat (first | (with_reducible first | exact HB.out | apply below_alloc | apply pw_below_drewN | apply below_drew1 | refine below_set ?_ GE97001.out) | exact HB.out)) hb); have NB97001_97002 := aQ ((by rw [hg]; exact Nat.ne_of_lt (blk_lt (g := gb97001) (o := .cells #[.int .i64 a0_0, .slice A0_1 l0_1.length c0_1, .slice A0_2 l0_2.length c0_2] 71 (0, 0)) (by (with_reducible repeat (first | refine blk_drewN ?_ _ | refine blk_drew ?_ | refine blk_alloc ?_ _)); exact BK97001.out)) : gb97001 ≠ gb97002)); have NB97002_97001 := aQ ((by rw [hg]; exact Nat.ne_of_gt (blk_lt (g := gb97001) (o := .cells #[.int .i64 a0_0, .slice A0_1 l0_1.length c0_1, .slice A0_2 l0_2.length c0_2] 71 (0, 0)) (by (with_reducible repeat (first | refine blk_drewN ?_ _ | refine blk_drew ?_ | refine blk_alloc ?_ _)); exact BK97001.out)) : gb97002 ≠ gb97001)); replace BK97001 := aQ (blk_below (g := gb97001) (o := .cells #[.int .i64 a0_0, .slice A0_1 l0_1.length c0_1, .slice A0_2 l0_2.length c0_2] 71 (0, 0)) (by (with_reducible repeat (first | refine blk_drewN ?_ _ | refine blk_drew ?_ | refine blk_alloc ?_ _)); exact BK97001.out) hb); clear hb hbox hg; have hnb20 := NB97001_97002.out; have hnc20 := NB97002_97001.out; have hcz21_0 : w19.cell? ⟨gb97001, 0, none⟩ = some (.int .i64 a0_0) := (blk_cell BK97001.out 0).trans rfl; have hcz21_1 : w19.cell? ⟨gb97001, 1, none⟩ = some (.slice A0_1 l0_1.length c0_1) := (blk_cell BK97001.out 1).trans rfl; have hcz21_2 : w19.cell? ⟨gb97001, 2, none⟩ = some (.slice A0_2 l0_2.length c0_2) := (blk_cell BK97001.out 2).trans rfl; have hfz21_0 := blk_frozen BK97001.out 0; have hfz21_1 := blk_frozen BK97001.out 1; have hfz21_2 := blk_frozen BK97001.out 2; have hcz22_0 : w19.cell? ⟨gb97002, 0, none⟩ = some (.int .i64 a1_0) := (blk_cell BK97002.out 0).trans rfl; have hcz22_1 : w19.cell? ⟨gb97002, 1, none⟩ = some (.slice A1_1 l1_1.length c1_1) := (blk_cell BK97002.out 1).trans rfl; have hcz22_2 : w19.cell? ⟨gb97002, 2, none⟩ = some (.slice A1_2 l1_2.length c1_2) := (blk_cell BK97002.out 2).trans rfl; have hfz22_0 := blk_frozen BK97002.out 0; have hfz22_1 := blk_frozen BK97002.out 1; have hfz22_2 := blk_frozen BK97002.out 2) | ((with_reducible refine gate_callee (f := 37) rfl ?_); refine goesL_ (some 14) rfl rfl Try.func37 (by kernel_rfl) rfl #[.slice A0_1 l0_1.length c0_1, .slice A1_1 l1_1.length c1_1] rfl (by (try simp only [List.map_toArray, List.map_cons, List.map_nil]); first | done | rfl | (simp only [List.length_drop, List.length_take]; rfl)) ?_; (with_reducible refine (laws_eqIntS.calls k _ _ l0_1 _ _ l1_1 false _ ?side1 ?side2 ?side3 ?side4 A4.out).mono ?_); (case side1 => repeat (first | exact (Kd.C_below HR0_1.out HB.out) | (with_reducible refine Kd.C_alloc ?_ _) | (with_reducible refine Kd.C_drewN ?_ _) | (with_reducible refine Kd.C_drew ?_))); (case side2 => exact HC0_1.out); (case side3 => repeat (first | exact (Kd.C_below HR1_1.out HB.out) | (with_reducible refine Kd.C_alloc ?_ _) | (with_reducible refine Kd.C_drewN ?_ _) | (with_reducible refine Kd.C_drew ?_))); (case side4 => exact HC1_1.out); rintro e w' ⟨rfl, ⟨nd, rfl⟩⟩; refine ⟨_, rfl, ?_⟩))
   go_ret
   exact ⟨by first | rfl | (simp [errW_none, errW_some] <;> rfl) | (simp [*, errW_none, errW_some] <;> rfl), by repeat (first | (with_reducible first | exact HB.out | apply below_alloc | apply pw_below_drewN | apply below_drew1 | refine below_set ?_ GE97001.out | refine below_set ?_ GE97002.out) | exact HB.out)⟩
 ·rw [if_neg c3] at H
  have c3b0 : (a0_0 == a1_0) = false := beq_eq_false_iff_ne.mpr c3
  have c3b1 : (a0_0 != a1_0) = true := bne_iff_ne.mpr c3
  obtain rfl := Option.some.inj H
  go_enter Try.func96, Try.ntmps96
  go_wp2_with (first | ((with_reducible refine gate_dst (N := 2) rfl ?_); refine box_event ?hg (N := 2) ?hd (cs := #[.int .i64 a0_0, .slice A0_1 l0_1.length c0_1, .slice A0_2 l0_2.length c0_2]) (t := 71) ?hr ?_; (case hd => rfl); (case hg => rfl); (case hr => first | (go_simp; done) | (go_simp; rfl)); intro gb97001 hg w23 hbox hb; have BK97001 := aQ (hbox); have GW97001 := aQ ((by rw [hg]; exact (below_size (by repeat (first | (with_reducible first | exact HB.out | apply below_alloc | apply pw_below_drewN | apply below_drew1) | exact HB.out))) : w.heap.size ≤ gb97001)); have GE97001 := aQ ((by rw [hg]; exact (below_size (by repeat (first | (with_reducible first | exact HB.out | apply below_alloc | apply pw_below_drewN | apply below_drew1) | exact HB.out))) : w.heap.size ≤ gb97001)); replace HB := aQ (below_step (by repeat (first | (with_reducible first | exact HB.out | apply below_alloc | apply pw_below_drewN | apply below_drew1) | exact HB.out)) hb); clear hb hbox hg) | ((with_reducible refine gate_dst (N := 3) rfl ?_); refine box_event ?hg (N := 3) ?hd (cs := #[.int .i64 a1_0, .slice A1_1 l1_1.length c1_1, .slice A1_2 l1_2.length c1_2]) (t := 71) ?hr ?_; (case hd => rfl); (case hg => rfl); (case hr => first | (go_simp; done) | (go_simp; rfl)); intro gb97002 hg w24 hbox hb; have BK97002 := aQ (hbox); have GW97002 := aQ ((by rw [hg]; exact (below_size (by repeat (first | (with_reducible first | exact HB.out | apply below_alloc | apply pw_below_drewN | apply below_drew1 | refine below_set ?_ GE97001.out) | exact HB.out))) : w.heap.size ≤ gb97002)); have GE97002 := aQ ((by rw [hg]; exact (below_size (by repeat (first | (with_reducible first | exact HB.out | apply below_alloc | apply pw_below_drewN | apply below_drew1 | refine below_set ?_ GE97001.out) | exact HB.out))) : w.heap.size ≤ gb97002)); replace HB := aQ (below_step (by repeat (first | (with_reducible first | exact HB.out | apply below_alloc | apply pw_below_drewN | apply below_drew1 | refine below_set ?_ GE97001.out) | exact HB.out)) hb); have NB97001_97002 := aQ ((by rw [hg]; exact Nat.ne_of_lt (blk_lt (g := gb97001) (o := .cells #[.int .i64 a0_0, .slice A0_1 l0_1.length c0_1, .slice A0_2 l0_2.length c0_2] 71 (0, 0)) (by (with_reducible repeat (first | refine blk_drewN ?_ _ | refine blk_drew ?_ | refine blk_alloc ?_ _)); exact BK97001.out)) : gb97001 ≠ gb97002)); have NB97002_97001 := aQ ((by rw [hg]; exact Nat.ne_of_gt (blk_lt (g := gb97001) (o := .cells #[.int .i64 a0_0, .slice A0_1 l0_1.length c0_1, .slice A0_2 l0_2.length c0_2] 71 (0, 0)) (by (with_reducible repeat (first | refine blk_drewN ?_ _ | refine blk_drew ?_ | refine blk_alloc ?_ _)); exact BK97001.out)) : gb97002 ≠ gb97001)); replace BK97001 := aQ (blk_below (g := gb97001) (o := .cells #[.int .i64 a0_0, .slice A0_1 l0_1.length c0_1, .slice A0_2 l0_2.length c0_2] 71 (0, 0)) (by (with_reducible repeat (first | refine blk_drewN ?_ _ | refine blk_drew ?_ | refine blk_alloc ?_ _)); exact BK97001.out) hb); clear hb hbox hg; have hnb25 := NB97001_97002.out; have hnc25 := NB97002_97001.out; have hcz26_0 : w24.cell? ⟨gb97001, 0, none⟩ = some (.int .i64 a0_0) := (blk_cell BK97001.out 0).trans rfl; have hcz26_1 : w24.cell? ⟨gb97001, 1, none⟩ = some (.slice A0_1 l0_1.length c0_1) := (blk_cell BK97001.out 1).trans rfl; have hcz26_2 : w24.cell? ⟨gb97001, 2, none⟩ = some (.slice A0_2 l0_2.length c0_2) := (blk_cell BK97001.out 2).trans rfl; have hfz26_0 := blk_frozen BK97001.out 0; have hfz26_1 := blk_frozen BK97001.out 1; have hfz26_2 := blk_frozen BK97001.out 2; have hcz27_0 : w24.cell? ⟨gb97002, 0, none⟩ = some (.int .i64 a1_0) := (blk_cell BK97002.out 0).trans rfl; have hcz27_1 : w24.cell? ⟨gb97002, 1, none⟩ = some (.slice A1_1 l1_1.length c1_1) := (blk_cell BK97002.out 1).trans rfl; have hcz27_2 : w24.cell? ⟨gb97002, 2, none⟩ = some (.slice A1_2 l1_2.length c1_2) := (blk_cell BK97002.out 2).trans rfl; have hfz27_0 := blk_frozen BK97002.out 0; have hfz27_1 := blk_frozen BK97002.out 1; have hfz27_2 := blk_frozen BK97002.out 2))
  go_ret
  exact ⟨by first | rfl | (simp [errW_none, errW_some] <;> rfl) | (simp [*, errW_none, errW_some] <;> rfl), by repeat (first | (with_reducible first | exact HB.out | apply below_alloc | apply pw_below_drewN | apply below_drew1 | refine below_set ?_ GE97001.out | refine below_set ?_ GE97002.out) | exact HB.out)⟩
/-! ### laws_markGraph: function 97 -/
def laws_markGraph.f (k : Nat) (a0_0 : Int) (l0_1 : List Int) (l0_2 : List Int) (a1 : Int) : Option (Int × List Int × List Int) := (laws_markIntS.f k l0_1 a1).bind fun bt98002 => ((laws_markIntS.f k l0_2 bt98002.1).bind fun bt98004 => (some (bt98004.1, bt98002.2, bt98004.2)))
theorem laws_markGraph.mono : ∀ a0 a1 a2 a3 k, LeO (laws_markGraph.f k a0 a1 a2 a3) (laws_markGraph.f (k + 1) a0 a1 a2 a3) := by
 intro a0 a1 a2 a3 k
 unfold laws_markGraph.f
 repeat' first
   | (with_reducible exact laws_markIntS.mono _ _ _)
   | (with_reducible exact LeO.refl _)
   | (with_reducible exact LeO.none _)
   | (with_reducible refine LeO.ite ?_ ?_)
   | (with_reducible refine LeO.bind ?_ (fun _ => ?_))
   | exact laws_markIntS.mono _ _ _
   | exact LeO.none _
   | refine LeO.ite ?_ ?_
   | refine LeO.bind ?_ (fun _ => ?_)
set_option maxHeartbeats 8000000 in
set_option maxRecDepth 100000 in
theorem laws_markGraph.calls (k : Nat) (a0_0 : Int) (P0_1_ : Nat → Prop) (u9000_ : Value) (l0_1 : List Int) (P0_2_ : Nat → Prop) (u9001_ : Value) (l0_2 : List Int) (a1 : Int) (r1 : Int) (r2 : List Int) (r3 : List Int) (w0 w : World) (hB : Below w0.heap.size w0 w) (ho0_1 : Kd.R (Kd.int .i64) 3 w w0.heap.size P0_1_ u9000_ l0_1) (hp0_1_0_2 : ∀ k_, P0_1_ k_ → ¬ P0_2_ k_) (ho0_2 : Kd.R (Kd.int .i64) 3 w w0.heap.size P0_2_ u9001_ l0_2) (hp0_2_0_1 : ∀ k_, P0_2_ k_ → ¬ P0_1_ k_) (h : laws_markGraph.f k a0_0 l0_1 l0_2 a1 = some (r1, r2, r3)) :
  Calls Try.prog 97 #[.agg #[.int .i64 a0_0, u9000_, u9001_], .int .i64 a1] w fun e w' => e = .returned (.int .i64 r1) ∧ Kd.R (Kd.int .i64) 3 w' w0.heap.size (fun k_ => ((P0_1_ k_ ∨ P0_2_ k_) ∨ w.heap.size ≤ k_)) u9000_ r2 ∧ Kd.R (Kd.int .i64) 3 w' w0.heap.size (fun k_ => ((P0_1_ k_ ∨ P0_2_ k_) ∨ w.heap.size ≤ k_)) u9001_ r3 ∧ Below w0.heap.size w0 w' ∧ Kept w w' (fun k_ => P0_1_ k_ ∨ P0_2_ k_) := by
 have hu71 := Try.underlying71
 have HO0_1 := aQ (show Kd.R (Kd.int .i64) 3 w w0.heap.size (fun k_ => ((P0_1_ k_ ∨ P0_2_ k_) ∨ w.heap.size ≤ k_) ∧ some k_ ≠ (u9001_ : Value).ownBlock) u9000_ l0_1 from Kd.R_mono ho0_1 (fun k_ hk => ⟨(.inl (.inl hk)), fun e_ => hp0_1_0_2 k_ hk (ho0_2.1 k_ e_.symm)⟩))
 have HO0_2 := aQ (show Kd.R (Kd.int .i64) 3 w w0.heap.size (fun k_ => ((P0_1_ k_ ∨ P0_2_ k_) ∨ w.heap.size ≤ k_) ∧ some k_ ≠ (u9000_ : Value).ownBlock) u9001_ l0_2 from Kd.R_mono ho0_2 (fun k_ hk => ⟨(.inl (.inr hk)), fun e_ => hp0_2_0_1 k_ hk (ho0_1.1 k_ e_.symm)⟩))
 have HK := aQ (Kept.refl w (fun k_ => P0_1_ k_ ∨ P0_2_ k_))
 have HW0 := aQ hB.size
 have HB := aQ hB
 clear hB
 have H : ((laws_markIntS.f k l0_1 a1).bind fun bt98002 => ((laws_markIntS.f k l0_2 bt98002.1).bind fun bt98004 => (some (bt98004.1, bt98002.2, bt98004.2)))) = some (r1, r2, r3) := h
 clear h
 replace H := Option.bind_eq_some_iff.mp H
 obtain ⟨⟨t98002, t98003⟩, A30, H⟩ := H
 replace H : ((laws_markIntS.f k l0_2 t98002).bind fun bt98004 => (some (bt98004.1, t98003, bt98004.2))) = some (r1, r2, r3) := H
 have A3 := aQ A30
 clear A30
 replace H := Option.bind_eq_some_iff.mp H
 obtain ⟨⟨t98004, t98005⟩, A40, H⟩ := H
 replace H : (some (t98004, t98003, t98005)) = some (r1, r2, r3) := H
 have A4 := aQ A40
 clear A40
 simp only [Option.some.injEq, Prod.mk.injEq] at H
 obtain ⟨rfl, rfl, rfl⟩ := H
 obtain ⟨Ao5, co5, eo5⟩ := Kd.R_slice HO0_1.out
 subst eo5
 obtain ⟨Ao6, co6, eo6⟩ := Kd.R_slice HO0_2.out
 subst eo6
 go_enter Try.func97, Try.ntmps97
 go_wp2_with (first | ((with_reducible refine gate_dst (N := 2) rfl ?_); refine box_event ?hg (N := 2) ?hd (cs := #[.int .i64 a0_0, .slice Ao5 l0_1.length co5, .slice Ao6 l0_2.length co6]) (t := 71) ?hr ?_; (case hd => rfl); (case hg => rfl); (case hr => first | (go_simp; done) | (go_simp; rfl)); intro gb98001 hg w7 hbox hb; replace HO0_1 := aQ (Kd.R_below (by (with_reducible repeat (first | apply Kd.R_alloc | apply Kd.R_drewN | apply Kd.R_drew)); exact HO0_1.out) hb); replace HO0_2 := aQ (Kd.R_below (by (with_reducible repeat (first | apply Kd.R_alloc | apply Kd.R_drewN | apply Kd.R_drew)); exact HO0_2.out) hb); have BK98001 := aQ (hbox); have GW98001 := aQ ((by rw [hg]; exact (by first | exact HK.out.1 | exact (show Kept w _ (fun k_ => P0_1_ k_ ∨ P0_2_ k_) from by repeat (first | (with_reducible first | exact HK.out | apply Kept.alloc | apply Kept.drewN | apply Kept.drew) | exact HK.out)).1) : w.heap.size ≤ gb98001)); replace HK := aQ (Kept.below (S := (fun k_ => P0_1_ k_ ∨ P0_2_ k_)) (by repeat (first | (with_reducible first | exact HK.out | apply Kept.alloc | apply Kept.drewN | apply Kept.drew) | exact HK.out)) hb); have GE98001 := aQ ((by rw [hg]; exact (below_size (by repeat (first | (with_reducible first | exact HB.out | apply below_alloc | apply pw_below_drewN | apply below_drew1) | exact HB.out))) : w0.heap.size ≤ gb98001)); replace HB := aQ (below_step (by repeat (first | (with_reducible first | exact HB.out | apply below_alloc | apply pw_below_drewN | apply below_drew1) | exact HB.out)) hb); clear hb hbox hg; have hcz8_0 : w7.cell? ⟨gb98001, 0, none⟩ = some (.int .i64 a0_0) := (blk_cell BK98001.out 0).trans rfl; have hcz8_1 : w7.cell? ⟨gb98001, 1, none⟩ = some (.slice Ao5 l0_1.length co5) := (blk_cell BK98001.out 1).trans rfl; have hcz8_2 : w7.cell? ⟨gb98001, 2, none⟩ = some (.slice Ao6 l0_2.length co6) := (blk_cell BK98001.out 2).trans rfl; have hfz8_0 := blk_frozen BK98001.out 0; have hfz8_1 := blk_frozen BK98001.out 1; have hfz8_2 := blk_frozen BK98001.out 2) | ((with_reducible refine gate_callee (f := 40) rfl ?_); refine goesL_ (some 8) rfl rfl Try.func40 (by kernel_rfl) rfl #[.slice Ao5 l0_1.length co5, .int .i64 a1] rfl (by (try simp only [List.map_toArray, List.map_cons, List.map_nil]); first | done | rfl | (simp only [List.length_drop, List.length_take]; rfl)) ?_; (with_reducible refine (laws_markIntS.calls k (fun k_ => some k_ = (.slice Ao5 l0_1.length co5 : Value).ownBlock) (.slice Ao5 l0_1.length co5) l0_1 a1 t98002 t98003 w0 _ ?side1 ?side2 A3.out).mono ?_); (case side1 => repeat (first | (with_reducible first | exact HB.out | apply below_alloc | apply pw_below_drewN | apply below_drew1 | refine below_set ?_ GE98001.out) | exact HB.out)); (case side2 => exact Kd.R_tight rfl HO0_1.out); rintro e w9 ⟨rfl, hy0, hb, hkp⟩; refine ⟨_, rfl, ?_⟩; replace HO0_2 := aQ (Kd.R_mono (ok' := fun k_ => ((P0_1_ k_ ∨ P0_2_ k_) ∨ w.heap.size ≤ k_) ∧ some k_ ≠ (.slice Ao5 l0_1.length co5 : Value).ownBlock) (Kd.R_keptB (HO0_2.out) hkp (fun k_ hk_ hs_ => (hk_.2) hs_)) (fun k_ hk_ => ⟨hk_.1.1, hk_.1.2⟩)); replace BK98001 := aQ (blk_kept (by (with_reducible repeat (first | refine blk_drewN ?_ _ | refine blk_drew ?_ | refine blk_alloc ?_ _)); exact BK98001.out) hkp (fun hs_ => (fun e_ => (Kd.R_ne HO0_1.out BK98001.out (by decide)) e_) hs_)); replace HK := aQ (Kept.then_ (S := (fun k_ => P0_1_ k_ ∨ P0_2_ k_)) (by repeat (first | (with_reducible first | exact HK.out | apply Kept.alloc | apply Kept.drewN | apply Kept.drew | refine Kept.setCell ?_ (.inr GW98001.out) _) | exact HK.out)) hkp (fun k_ hs_ => (fun e_ => (HO0_1.out.1 k_ e_.symm).1) hs_)); replace HO0_1 := aQ (Kd.R_reok rfl hy0 (fun k_ e_ => HO0_1.out.1 k_ e_)); replace HB := aQ (hb); (try clear hb); (try clear hkp); (try clear hy0); have hcz10_0 : w9.cell? ⟨gb98001, 0, none⟩ = some (.int .i64 a0_0) := (blk_cell BK98001.out 0).trans rfl; have hcz10_1 : w9.cell? ⟨gb98001, 1, none⟩ = some (.slice Ao5 l0_1.length co5) := (blk_cell BK98001.out 1).trans rfl; have hcz10_2 : w9.cell? ⟨gb98001, 2, none⟩ = some (.slice Ao6 l0_2.length co6) := (blk_cell BK98001.out 2).trans rfl; have hfz10_0 := blk_frozen BK98001.out 0; have hfz10_1 := blk_frozen BK98001.out 1; have hfz10_2 := blk_frozen BK98001.out 2) | ((with_reducible refine gate_callee (f := 40) rfl ?_); refine goesL_ (some 12) rfl rfl Try.func40 (by kernel_rfl) rfl #[.slice Ao6 l0_2.length co6, .int .i64 t98002] rfl (by (try simp only [List.map_toArray, List.map_cons, List.map_nil]); first | done | rfl | (simp only [List.length_drop, List.length_take]; rfl)) ?_; (with_reducible refine (laws_markIntS.calls k (fun k_ => some k_ = (.slice Ao6 l0_2.length co6 : Value).ownBlock) (.slice Ao6 l0_2.length co6) l0_2 t98002 t98004 t98005 w0 _ ?side1 ?side2 A4.out).mono ?_); (case side1 => repeat (first | (with_reducible first | exact HB.out | apply below_alloc | apply pw_below_drewN | apply below_drew1 | refine below_set ?_ GE98001.out) | exact HB.out)); (case side2 => exact Kd.R_tight rfl HO0_2.out); rintro e w11 ⟨rfl, hy0, hb, hkp⟩; refine ⟨_, rfl, ?_⟩; replace HO0_1 := aQ (Kd.R_mono (ok' := fun k_ => ((P0_1_ k_ ∨ P0_2_ k_) ∨ w.heap.size ≤ k_) ∧ some k_ ≠ (.slice Ao6 l0_2.length co6 : Value).ownBlock) (Kd.R_keptB (HO0_1.out) hkp (fun k_ hk_ hs_ => (hk_.2) hs_)) (fun k_ hk_ => ⟨hk_.1.1, hk_.1.2⟩)); replace BK98001 := aQ (blk_kept (by (with_reducible repeat (first | refine blk_drewN ?_ _ | refine blk_drew ?_ | refine blk_alloc ?_ _)); exact BK98001.out) hkp (fun hs_ => (fun e_ => (Kd.R_ne HO0_2.out BK98001.out (by decide)) e_) hs_)); replace HK := aQ (Kept.then_ (S := (fun k_ => P0_1_ k_ ∨ P0_2_ k_)) (by repeat (first | (with_reducible first | exact HK.out | apply Kept.alloc | apply Kept.drewN | apply Kept.drew | refine Kept.setCell ?_ (.inr GW98001.out) _) | exact HK.out)) hkp (fun k_ hs_ => (fun e_ => (HO0_2.out.1 k_ e_.symm).1) hs_)); replace HO0_2 := aQ (Kd.R_reok rfl hy0 (fun k_ e_ => HO0_2.out.1 k_ e_)); replace HB := aQ (hb); (try clear hb); (try clear hkp); (try clear hy0)))
 go_ret
 exact ⟨by first | rfl | (simp [errW_none, errW_some] <;> rfl) | (simp [*, errW_none, errW_some] <;> rfl), by (with_reducible repeat (first | apply Kd.R_alloc | apply Kd.R_drewN | apply Kd.R_drew)); exact Kd.R_mono HO0_1.out (fun _ hk => hk.1), by (with_reducible repeat (first | apply Kd.R_alloc | apply Kd.R_drewN | apply Kd.R_drew)); exact Kd.R_mono HO0_2.out (fun _ hk => hk.1), by repeat (first | (with_reducible first | exact HB.out | apply below_alloc | apply pw_below_drewN | apply below_drew1 | refine below_set ?_ GE98001.out) | exact HB.out), by repeat (first | (with_reducible first | exact HK.out | apply Kept.alloc | apply Kept.drewN | apply Kept.drew | refine Kept.setCell ?_ (.inr GW98001.out) _) | exact HK.out)⟩
end Go.Proofs.Ytinoamehdhgpgaa.A
