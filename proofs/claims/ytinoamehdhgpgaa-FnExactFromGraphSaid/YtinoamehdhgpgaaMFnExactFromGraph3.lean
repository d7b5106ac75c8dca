/- The machine side of the law FnExactFromGraph, laid by a program of this work over the kit's print and contracts by hand: Go functions as Lean functions, and proofs that calls come to what these tell. Conditions: those in each theorem. -/
import Derived.Test.YtinoamehdhgpgaaMFnExactFromGraph0
import Derived.Test.YtinoamehdhgpgaaMFnExactFromGraph1
import Derived.Test.YtinoamehdhgpgaaMFnExactFromGraph2
namespace Go.Proofs.Ytinoamehdhgpgaa.A
open Go.RowKit Go.Proofs.YtinoamehdhgpgaaW.PrintWords Go.Proofs.YtinoamehdhgpgaaW.PrintLast Go.Proofs.YtinoamehdhgpgaaW.PrintMore
attribute [local go_sem] max2_int min2_int max_two min_two max_three min_three max_four min_four   -- for this text's walks alone
set_option linter.unusedVariables false
set_option linter.unusedSimpArgs false

/-! ### spec_l14Pieces: function 202 -/
mutual
def spec_l14Pieces.l0 : Nat → Int → List Int → Int → Int → List Int → List Int → Option (Int)
 | 0, _, _, _, _, _, _ => none
 | k + 1, x1, x5, x6, x203002000, x203002001, x203002002 => if x6 < x203002000 then (if x5.length < 17592186044416 then (spec_l14Pieces.l0 k x1 (x5 ++ [x6]) (wrap64 (x6 + 1)) x203002000 x203002001 x203002002) else (none)) else (spec_l14Pieces.l1 k x1 x5 x203002000 0 x203002000 x203002001 x203002002)
def spec_l14Pieces.l1 : Nat → Int → List Int → Int → Int → Int → List Int → List Int → Option (Int)
 | 0, _, _, _, _, _, _, _ => none
 | k + 1, x1, x5, x7, x8, x203002000, x203002001, x203002002 => if x8 < (x203002001.length : Int) then (if 0 ≤ x8 then (if 0 ≤ (rd x203002001 x8) then (if (rd x203002001 x8) < (x5.length : Int) then (if x8 < (x203002002.length : Int) then (if 0 ≤ (rd x203002002 x8) then (if (rd x203002002 x8) < (x5.length : Int) then ((spec_l2Has.f x1 x8).bind fun t203012 => (if t203012 = true then (spec_l14Pieces.j2 k x1 x5 x7 x8 (rd x5 (rd x203002001 x8)) (rd x5 (rd x203002002 x8)) ((rd x5 (rd x203002001 x8)) == (rd x5 (rd x203002002 x8))) x203002000 x203002001 x203002002) else (spec_l14Pieces.j2 k x1 x5 x7 x8 (rd x5 (rd x203002001 x8)) (rd x5 (rd x203002002 x8)) true x203002000 x203002001 x203002002))) else (none)) else (none)) else (none)) else (none)) else (none)) else (none)) else (some x7)
def spec_l14Pieces.j2 : Nat → Int → List Int → Int → Int → Int → Int → Bool → Int → List Int → List Int → Option (Int)
 | 0, _, _, _, _, _, _, _, _, _, _ => none
 | k + 1, x1, x5, x7, x8, x9, x10, x56, x203002000, x203002001, x203002002 => if x56 = true then (spec_l14Pieces.l1 k x1 x5 x7 (wrap64 (x8 + 1)) x203002000 x203002001 x203002002) else (spec_l14Pieces.l2 k x1 x5 x7 x8 x9 x10 0 x203002000 x203002001 x203002002)
def spec_l14Pieces.l2 : Nat → Int → List Int → Int → Int → Int → Int → Int → Int → List Int → List Int → Option (Int)
 | 0, _, _, _, _, _, _, _, _, _, _ => none
 | k + 1, x1, x5, x7, x8, x9, x10, x11, x203002000, x203002001, x203002002 => if x11 < x203002000 then (if 0 ≤ x11 then (if x11 < (x5.length : Int) then (if (rd x5 x11) = x10 then (spec_l14Pieces.l2 k x1 (x5.set (x11 : Int).toNat x9) x7 x8 x9 x10 (wrap64 (x11 + 1)) x203002000 x203002001 x203002002) else (spec_l14Pieces.l2 k x1 x5 x7 x8 x9 x10 (wrap64 (x11 + 1)) x203002000 x203002001 x203002002)) else (none)) else (none)) else (spec_l14Pieces.l1 k x1 x5 (wrap64 (x7 - 1)) (wrap64 (x8 + 1)) x203002000 x203002001 x203002002)
end
def spec_l14Pieces.f (k : Nat) (a0_0 : Int) (l0_1 : List Int) (l0_2 : List Int) (a1 : Int) : Option (Int) := spec_l14Pieces.l0 k a1 (([] : List Int)) 0 a0_0 l0_1 l0_2
theorem spec_l14Pieces.mono_l : ∀ k, (∀ y0 y1 y2 y3 y4 y5, LeO (spec_l14Pieces.l0 k y0 y1 y2 y3 y4 y5) (spec_l14Pieces.l0 (k + 1) y0 y1 y2 y3 y4 y5)) ∧ (∀ y0 y1 y2 y3 y4 y5 y6, LeO (spec_l14Pieces.l1 k y0 y1 y2 y3 y4 y5 y6) (spec_l14Pieces.l1 (k + 1) y0 y1 y2 y3 y4 y5 y6)) ∧ (∀ y0 y1 y2 y3 y4 y5 y6 y7 y8 y9, LeO (spec_l14Pieces.j2 k y0 y1 y2 y3 y4 y5 y6 y7 y8 y9) (spec_l14Pieces.j2 (k + 1) y0 y1 y2 y3 y4 y5 y6 y7 y8 y9)) ∧ (∀ y0 y1 y2 y3 y4 y5 y6 y7 y8 y9, LeO (spec_l14Pieces.l2 k y0 y1 y2 y3 y4 y5 y6 y7 y8 y9) (spec_l14Pieces.l2 (k + 1) y0 y1 y2 y3 y4 y5 y6 y7 y8 y9))
 | 0 => ⟨fun _ _ _ _ _ _ r h => by simp [spec_l14Pieces.l0] at h, fun _ _ _ _ _ _ _ r h => by simp [spec_l14Pieces.l1] at h, fun _ _ _ _ _ _ _ _ _ _ r h => by simp [spec_l14Pieces.j2] at h, fun _ _ _ _ _ _ _ _ _ _ r h => by simp [spec_l14Pieces.l2] at h⟩
 | k + 1 => by
  obtain ⟨ih0, ih1, ih2, ih3⟩ := spec_l14Pieces.mono_l k
  refine ⟨?_, ?_, ?_, ?_⟩
  ·intro y0 y1 y2 y3 y4 y5
   unfold spec_l14Pieces.l0
   repeat' first
   | (with_reducible exact ih0 _ _ _ _ _ _)
   | (with_reducible exact ih1 _ _ _ _ _ _ _)
   | (with_reducible exact ih2 _ _ _ _ _ _ _ _ _ _)
   | (with_reducible exact ih3 _ _ _ _ _ _ _ _ _ _)
   | (with_reducible exact LeO.refl _)
   | (with_reducible exact LeO.none _)
   | (with_reducible refine LeO.ite ?_ ?_)
   | (with_reducible refine LeO.bind ?_ (fun _ => ?_))
   | exact ih0 _ _ _ _ _ _
   | exact ih1 _ _ _ _ _ _ _
   | exact ih2 _ _ _ _ _ _ _ _ _ _
   | exact ih3 _ _ _ _ _ _ _ _ _ _
   | exact LeO.none _
   | refine LeO.ite ?_ ?_
   | refine LeO.bind ?_ (fun _ => ?_)
  ·intro y0 y1 y2 y3 y4 y5 y6
   unfold spec_l14Pieces.l1
   repeat' first
   | (with_reducible exact ih0 _ _ _ _ _ _)
   | (with_reducible exact ih1 _ _ _ _ _ _ _)
   | (with_reducible exact ih2 _ _ _ _ _ _ _ _ _ _)
   | (with_reducible exact ih3 _ _ _ _ _ _ _ _ _ _)
   | (with_reducible exact LeO.refl _)
   | (with_reducible exact LeO.none _)
   | (with_reducible refine LeO.ite ?_ ?_)
   | (with_reducible refine LeO.bind ?_ (fun _ => ?_))
   | exact ih0 _ _ _ _ _ _
   | exact ih1 _ _ _ _ _ _ _
   | exact ih2 _ _ _ _ _ _ _ _ _ _
   | exact ih3 _ _ _ _ _ _ _ _ _ _
   | exact LeO.none _
   | refine LeO.ite ?_ ?_
   | refine LeO.bind ?_ (fun _ => ?_)
  ·intro y0 y1 y2 y3 y4 y5 y6 y7 y8 y9
   unfold spec_l14Pieces.j2
   repeat' first
   | (with_reducible exact ih0 _ _ _ _ _ _)
   | (with_reducible exact ih1 _ _ _ _ _ _ _)
   | (with_reducible exact ih2 _ _ _ _ _ _ _ _ _ _)
   | (with_reducible exact ih3 _ _ _ _ _ _ _ _ _ _)
   | (with_reducible exact LeO.refl _)
   | (with_reducible exact LeO.none _)
   | (with_reducible refine LeO.ite ?_ ?_)
   | (with_reducible refine LeO.bind ?_ (fun _ => ?_))
   | exact ih0 _ _ _ _ _ _
   | exact ih1 _ _ _ _ _ _ _
   | exact ih2 _ _ _ _ _ _ _ _ _ _
   | exact ih3 _ _ _ _ _ _ _ _ _ _
   | exact LeO.none _
   | refine LeO.ite ?_ ?_
   | refine LeO.bind ?_ (fun _ => ?_)
  ·intro y0 y1 y2 y3 y4 y5 y6 y7 y8 y9
   unfold spec_l14Pieces.l2
   repeat' first
   | (with_reducible exact ih0 _ _ _ _ _ _)
   | (with_reducible exact ih1 _ _ _ _ _ _ _)
   | (with_reducible exact ih2 _ _ _ _ _ _ _ _ _ _)
   | (with_reducible exact ih3 _ _ _ _ _ _ _ _ _ _)
   | (with_reducible exact LeO.refl _)
   | (with_reducible exact LeO.none _)
   | (with_reducible refine LeO.ite ?_ ?_)
   | (with_reducible refine LeO.bind ?_ (fun _ => ?_))
   | exact ih0 _ _ _ _ _ _
   | exact ih1 _ _ _ _ _ _ _
   | exact ih2 _ _ _ _ _ _ _ _ _ _
   | exact ih3 _ _ _ _ _ _ _ _ _ _
   | exact LeO.none _
   | refine LeO.ite ?_ ?_
   | refine LeO.bind ?_ (fun _ => ?_)
theorem spec_l14Pieces.mono : ∀ a0 a1 a2 a3 k, LeO (spec_l14Pieces.f k a0 a1 a2 a3) (spec_l14Pieces.f (k + 1) a0 a1 a2 a3) := by
 intro a0 a1 a2 a3 k
 obtain ⟨ih0, ih1, ih2, ih3⟩ := spec_l14Pieces.mono_l k
 unfold spec_l14Pieces.f
 repeat' first
   | (with_reducible exact ih0 _ _ _ _ _ _)
   | (with_reducible exact ih1 _ _ _ _ _ _ _)
   | (with_reducible exact ih2 _ _ _ _ _ _ _ _ _ _)
   | (with_reducible exact ih3 _ _ _ _ _ _ _ _ _ _)
   | (with_reducible exact LeO.refl _)
   | (with_reducible exact LeO.none _)
   | (with_reducible refine LeO.ite ?_ ?_)
   | (with_reducible refine LeO.bind ?_ (fun _ => ?_))
   | exact ih0 _ _ _ _ _ _
   | exact ih1 _ _ _ _ _ _ _
   | exact ih2 _ _ _ _ _ _ _ _ _ _
   | exact ih3 _ _ _ _ _ _ _ _ _ _
   | exact LeO.none _
   | refine LeO.ite ?_ ?_
   | refine LeO.bind ?_ (fun _ => ?_)
set_option maxHeartbeats 8000000 in
set_option maxRecDepth 100000 in
theorem spec_l14Pieces.calls (k : Nat) (a0_0 : Int) (A0_1 : Option Addr) (c0_1 : Nat) (l0_1 : List Int) (A0_2 : Option Addr) (c0_2 : Nat) (l0_2 : List Int) (a1 : Int) (r : Int) (w : World) (hr0_1 : Kd.C (Kd.int .i64) w A0_1 l0_1.length l0_1) (hc0_1 : l0_1.length ≤ c0_1) (hr0_2 : Kd.C (Kd.int .i64) w A0_2 l0_2.length l0_2) (hc0_2 : l0_2.length ≤ c0_2) (h : spec_l14Pieces.f k a0_0 l0_1 l0_2 a1 = some r) :
  Calls Try.prog 202 #[.agg #[.int .i64 a0_0, .slice A0_1 l0_1.length c0_1, .slice A0_2 l0_2.length c0_2], .int .i64 a1] w fun e w' => e = .returned (.int .i64 r) ∧ Below w.heap.size w w' := by
 have hu71 := Try.underlying71
 have HR0_1 := aQ hr0_1
 have HC0_1 := aQ hc0_1
 clear hr0_1 hc0_1
 have HR0_2 := aQ hr0_2
 have HC0_2 := aQ hc0_2
 clear hr0_2 hc0_2
 have HB := aQ (Below.refl w.heap.size w)
 have H : (spec_l14Pieces.l0 k a1 (([] : List Int)) 0 a0_0 l0_1 l0_2) = some r := h
 clear h
 obtain ⟨y203002, hy203002⟩ : ∃ y_ : List Int, y_ = (([] : List Int)) := ⟨_, rfl⟩
 replace H : (spec_l14Pieces.l0 k a1 y203002 0 a0_0 l0_1 l0_2) = some r := by first | (rw [hy203002]; with_reducible exact H) | (have H2_ := (Option.bind_some _ _).symm.trans H; rw [hy203002]; with_reducible exact H2_) | (have H2_ := (Option.bind_some _ _).symm.trans H; with_reducible exact H2_) | with_reducible exact H | (rw [hy203002]; exact H) | exact H
 have Ny203002 := aQ hy203002
 clear hy203002
 have H' := aQ H
 clear H
 go_enter Try.func202, Try.ntmps202
 go_wp2_with (first | ((with_reducible refine gate_dst (N := 2) rfl ?_); refine box_event ?hg (N := 2) ?hd (cs := #[.int .i64 a0_0, .slice A0_1 l0_1.length c0_1, .slice A0_2 l0_2.length c0_2]) (t := 71) ?hr ?_; (case hd => rfl); (case hg => rfl); (case hr => first | (go_simp; done) | (go_simp; rfl)); intro gb203001 hg w3 hbox hb; have BK203001 := aQ (hbox); have GW203001 := aQ ((by rw [hg]; exact (below_size (by repeat (first | (with_reducible first | exact HB.out | apply below_alloc | apply pw_below_drewN | apply below_drew1) | exact HB.out))) : w.heap.size ≤ gb203001)); have GE203001 := aQ ((by rw [hg]; exact (below_size (by repeat (first | (with_reducible first | exact HB.out | apply below_alloc | apply pw_below_drewN | apply below_drew1) | exact HB.out))) : w.heap.size ≤ gb203001)); replace HB := aQ (below_step (by repeat (first | (with_reducible first | exact HB.out | apply below_alloc | apply pw_below_drewN | apply below_drew1) | exact HB.out)) hb); clear hb hbox hg) | ((with_reducible refine gate_dst (N := 12) rfl ?_); refine Kd.R_lit (Kd.int .i64) _ 3 ?hg (N := 12) ?hd (xs := ([] : List Int)) (inner := []) (ok := fun _ => True) (okp := fun _ => True) ?hr ?hp (fun _ hk => hk) trivial (Below.refl _ _) (Nat.le_refl _) (by simp) ?_; (case hd => rfl); (case hg => rfl); (case hr => first | (go_simp; done) | (go_simp; rfl)); (case hp => exact (Reps.none _ _)); intro v203003 w4 ho5 hb hg_ hnew_; clear hg_ hnew_; (first | rw [← Ny203002.out] at ho5 | (simp only [Int.reduceToNat] at ho5; rw [← Ny203002.out] at ho5)); have HO203004 := aQ (Kd.R_lower ho5 (below_size (by repeat (first | (with_reducible first | exact HB.out | apply below_alloc | apply pw_below_drewN | apply below_drew1 | refine below_set ?_ GE203001.out) | exact HB.out)))); replace BK203001 := aQ (blk_below (g := gb203001) (o := .cells #[.int .i64 a0_0, .slice A0_1 l0_1.length c0_1, .slice A0_2 l0_2.length c0_2] 71 (0, 0)) (by (with_reducible repeat (first | refine blk_drewN ?_ _ | refine blk_drew ?_ | refine blk_alloc ?_ _)); exact BK203001.out) hb); replace HB := aQ (below_step (by repeat (first | (with_reducible first | exact HB.out | apply below_alloc | apply pw_below_drewN | apply below_drew1 | refine below_set ?_ GE203001.out) | exact HB.out)) hb); clear hb ho5))
 go_loopg [5, 6] k (fun kq v5 v6 w' => ∃ (x5_1 : List Int) (x6_1 : Int), v6 = .int .i64 x6_1 ∧ Aside0 (spec_l14Pieces.l0 kq a1 x5_1 x6_1 a0_0 l0_1 l0_2 = some r) ∧ Aside0 (kq ≤ k) ∧ Aside0 (Kd.R (Kd.int .i64) 3 w' w.heap.size (fun _ => True) v5 x5_1) ∧ Aside0 (w'.heap[gb203001]? = some (.cells #[.int .i64 a0_0, (.slice A0_1 l0_1.length c0_1), (.slice A0_2 l0_2.length c0_2)] 71 (0, 0))) ∧ Aside0 (Below w.heap.size w w'))
 case atStart => exact ⟨(y203002), (0), (by first | rfl | (simp; done) | (simp [*]; done)), H', ⟨Nat.le_refl _⟩, ⟨by (with_reducible repeat (first | apply Kd.R_alloc | apply Kd.R_drewN | apply Kd.R_drew)); exact HO203004.out⟩, ⟨by (with_reducible repeat (first | refine blk_drewN ?_ _ | refine blk_drew ?_ | refine blk_alloc ?_ _)); exact BK203001.out⟩, ⟨by repeat (first | (with_reducible first | exact HB.out | apply below_alloc | apply pw_below_drewN | apply below_drew1 | refine below_set ?_ GE203001.out) | exact HB.out)⟩⟩
 case round =>
  clear H'
  try clear c2
  try clear p2
  obtain ⟨x5_1, x6_1, rfl, HA, HK1, HO_5, BK203001, HB⟩ := hrel
  cases gk with
  | zero => exact absurd HA.out (by simp [spec_l14Pieces.l0])
  | succ k1 =>
   have H := HA.out
   clear HA
   simp only [spec_l14Pieces.l0] at H
   by_cases c6 : x6_1 < a0_0
   ·rw [if_pos c6] at H
    have c6b0 : decide (x6_1 < a0_0) = true := decide_eq_true c6
    clear c6
    by_cases c7 : x5_1.length < 17592186044416
    ·rw [if_pos c7] at H
     have LMc7 := aQ c7
     clear c7
     obtain ⟨y203005, hy203005⟩ : ∃ y_ : List Int, y_ = (x5_1 ++ [x6_1]) := ⟨_, rfl⟩
     replace H : (spec_l14Pieces.l0 k1 a1 y203005 (wrap64 (x6_1 + 1)) a0_0 l0_1 l0_2) = some r := by first | (rw [hy203005]; with_reducible exact H) | (have H2_ := (Option.bind_some _ _).symm.trans H; rw [hy203005]; with_reducible exact H2_) | (have H2_ := (Option.bind_some _ _).symm.trans H; with_reducible exact H2_) | with_reducible exact H | (rw [hy203005]; exact H) | exact H
     have Ny203005 := aQ hy203005
     clear hy203005
     have H' := aQ H
     clear H
     have hcz8_0 : wr.cell? ⟨gb203001, 0, none⟩ = some (.int .i64 a0_0) := (blk_cell BK203001.out 0).trans rfl
     have hcz8_1 : wr.cell? ⟨gb203001, 1, none⟩ = some (.slice A0_1 l0_1.length c0_1) := (blk_cell BK203001.out 1).trans rfl
     have hcz8_2 : wr.cell? ⟨gb203001, 2, none⟩ = some (.slice A0_2 l0_2.length c0_2) := (blk_cell BK203001.out 2).trans rfl
     have hfz8_0 := blk_frozen BK203001.out 0
     have hfz8_1 := blk_frozen BK203001.out 1
     have hfz8_2 := blk_frozen BK203001.out 2
     go_wp2_with (first | ((with_reducible refine gate_builtin (b := .append) (xs := #[.tmp 19, .tmp 21]) rfl ?_); at_builtin; refine Kd.R_append (Kd.int .i64) (w0 := w) w.heap.size rfl (.tmp 19) (.tmp 21) 22 3 (.int .i64 0) 8 rfl Try.underlying22 info3 rfl (by decide) (by omega) u5 x5_1 x6_1 [.int .i64 x6_1] (fun _ => True) (fun _ => False) rfl rfl ?aP (fun _ hk => hk.elim) ?aF ?aO ?aB ?aS ?aL ?_; (case aP => exact rfl); (case aB => exact (by repeat (first | (with_reducible first | exact HB.out | apply below_alloc | apply pw_below_drewN | apply below_drew1 | refine below_set ?_ GE203001.out) | exact HB.out))); (case aF => exact (fun _ _ => trivial)); (case aO => exact (by (with_reducible repeat (first | apply Kd.R_alloc | apply Kd.R_drewN | apply Kd.R_drew)); exact HO_5.out)); (case aS => exact (below_size (by repeat (first | (with_reducible first | exact HB.out | apply below_alloc | apply pw_below_drewN | apply below_drew1 | refine below_set ?_ GE203001.out) | exact HB.out)))); (case aL => have := LMc7.out; omega); intro v203006 w9 ho hb hg hat; rw [← Ny203005.out] at ho; replace BK203001 := aQ (blk_grown (g := gb203001) (o := .cells #[.int .i64 a0_0, .slice A0_1 l0_1.length c0_1, .slice A0_2 l0_2.length c0_2] 71 (0, 0)) (by (with_reducible repeat (first | refine blk_drewN ?_ _ | refine blk_drew ?_ | refine blk_alloc ?_ _)); exact BK203001.out) hg (Kd.R_ne HO_5.out BK203001.out (by decide))); replace HB := aQ (hb); have HO203007 := aQ (ho); clear HO_5; clear ho hb hg hat))
     go_roundg k1
     case measure => have := HK1.out; omega
     case rel => exact ⟨(y203005), (wrap64 (x6_1 + 1)), (by first | rfl | (simp; done) | (simp [*]; done)), H', ⟨by have := HK1.out; omega⟩, ⟨by (with_reducible repeat (first | apply Kd.R_alloc | apply Kd.R_drewN | apply Kd.R_drew)); exact HO203007.out⟩, ⟨by (with_reducible repeat (first | refine blk_drewN ?_ _ | refine blk_drew ?_ | refine blk_alloc ?_ _)); exact BK203001.out⟩, ⟨by repeat (first | (with_reducible first | exact HB.out | apply below_alloc | apply pw_below_drewN | apply below_drew1 | refine below_set ?_ GE203001.out) | exact HB.out)⟩⟩
    ·rw [if_neg c7] at H
     exact absurd H (by simp)
   ·rw [if_neg c6] at H
    have c6b0 : decide (x6_1 < a0_0) = false := decide_eq_false c6
    clear c6
    have H' := aQ H
    clear H
    have hcz10_0 : wr.cell? ⟨gb203001, 0, none⟩ = some (.int .i64 a0_0) := (blk_cell BK203001.out 0).trans rfl
    have hcz10_1 : wr.cell? ⟨gb203001, 1, none⟩ = some (.slice A0_1 l0_1.length c0_1) := (blk_cell BK203001.out 1).trans rfl
    have hcz10_2 : wr.cell? ⟨gb203001, 2, none⟩ = some (.slice A0_2 l0_2.length c0_2) := (blk_cell BK203001.out 2).trans rfl
    have hfz10_0 := blk_frozen BK203001.out 0
    have hfz10_1 := blk_frozen BK203001.out 1
    have hfz10_2 := blk_frozen BK203001.out 2
    go_wp2
    go_loopg [7, 8] k1 (fun kq v7 v8 w' => ∃ (x5_2 : List Int) (x7_2 : Int) (x8_2 : Int), v7 = .int .i64 x7_2 ∧ v8 = .int .i64 x8_2 ∧ Aside0 (spec_l14Pieces.l1 kq a1 x5_2 x7_2 x8_2 a0_0 l0_1 l0_2 = some r) ∧ Aside0 (kq ≤ k1) ∧ Aside0 (Kd.R (Kd.int .i64) 3 w' w.heap.size (fun _ => True) u5 x5_2) ∧ Aside0 (w'.heap[gb203001]? = some (.cells #[.int .i64 a0_0, (.slice A0_1 l0_1.length c0_1), (.slice A0_2 l0_2.length c0_2)] 71 (0, 0))) ∧ Aside0 (Below w.heap.size w w'))
    case atStart => exact ⟨(x5_1), (a0_0), (0), (by first | rfl | (simp; done) | (simp [*]; done)), (by first | rfl | (simp; done) | (simp [*]; done)), H', ⟨Nat.le_refl _⟩, ⟨by (with_reducible repeat (first | apply Kd.R_alloc | apply Kd.R_drewN | apply Kd.R_drew)); exact HO_5.out⟩, ⟨by (with_reducible repeat (first | refine blk_drewN ?_ _ | refine blk_drew ?_ | refine blk_alloc ?_ _)); exact BK203001.out⟩, ⟨by repeat (first | (with_reducible first | exact HB.out | apply below_alloc | apply pw_below_drewN | apply below_drew1 | refine below_set ?_ GE203001.out) | exact HB.out)⟩⟩
    case round =>
     clear H'
     try clear c2
     try clear p2
     try clear c6
     try clear c6b0
     try clear p6
     try clear c7
     try clear hcz10_0
     try clear hcz10_1
     try clear hcz10_2
     try clear hcz8_0
     try clear hcz8_1
     try clear hcz8_2
     try clear hfz10_0
     try clear hfz10_1
     try clear hfz10_2
     try clear hfz8_0
     try clear hfz8_1
     try clear hfz8_2
     try clear p2
     obtain ⟨x5_2, x7_2, x8_2, rfl, rfl, HA, HK2, HO_5, BK203001, HB⟩ := hrel
     cases gk with
     | zero => exact absurd HA.out (by simp [spec_l14Pieces.l1])
     | succ k2 =>
      have H := HA.out
      clear HA
      simp only [spec_l14Pieces.l1] at H
      by_cases c11 : x8_2 < (l0_1.length : Int)
      ·rw [if_pos c11] at H
       have c11b0 : decide (x8_2 < (l0_1.length : Int)) = true := decide_eq_true c11
       clear c11
       by_cases c12 : 0 ≤ x8_2
       ·rw [if_pos c12] at H
        have c12b0 : decide (0 ≤ x8_2) = true := decide_eq_true c12
        clear c12
        by_cases c13 : 0 ≤ (rd l0_1 x8_2)
        ·rw [if_pos c13] at H
         have c13b0 : decide (0 ≤ (rd l0_1 x8_2)) = true := decide_eq_true c13
         clear c13
         by_cases c14 : (rd l0_1 x8_2) < (x5_2.length : Int)
         ·rw [if_pos c14] at H
          have c14b0 : decide ((rd l0_1 x8_2) < (x5_2.length : Int)) = true := decide_eq_true c14
          clear c14
          by_cases c15 : x8_2 < (l0_2.length : Int)
          ·rw [if_pos c15] at H
           have c15b0 : decide (x8_2 < (l0_2.length : Int)) = true := decide_eq_true c15
           clear c15
           by_cases c16 : 0 ≤ (rd l0_2 x8_2)
           ·rw [if_pos c16] at H
            have c16b0 : decide (0 ≤ (rd l0_2 x8_2)) = true := decide_eq_true c16
            clear c16
            by_cases c17 : (rd l0_2 x8_2) < (x5_2.length : Int)
            ·rw [if_pos c17] at H
             have c17b0 : decide ((rd l0_2 x8_2) < (x5_2.length : Int)) = true := decide_eq_true c17
             clear c17
             have HC18 := aQ H
             clear H
             have hcz19_0 : wr.cell? ⟨gb203001, 0, none⟩ = some (.int .i64 a0_0) := (blk_cell BK203001.out 0).trans rfl
             have hcz19_1 : wr.cell? ⟨gb203001, 1, none⟩ = some (.slice A0_1 l0_1.length c0_1) := (blk_cell BK203001.out 1).trans rfl
             have hcz19_2 : wr.cell? ⟨gb203001, 2, none⟩ = some (.slice A0_2 l0_2.length c0_2) := (blk_cell BK203001.out 2).trans rfl
             have hfz19_0 := blk_frozen BK203001.out 0
             have hfz19_1 := blk_frozen BK203001.out 1
             have hfz19_2 := blk_frozen BK203001.out 2
             have p203008 : 0 ≤ (x8_2 : Int) := of_decide_eq_true (by first | (with_reducible assumption) | assumption)
             have q203008 : x8_2 < (l0_1.length : Int) := of_decide_eq_true (by first | (with_reducible assumption) | assumption)
             obtain ⟨ad203008, e203008, hx203008_0⟩ := Kd.at_int HR0_1.out x8_2 p203008 q203008
             cases e203008
             replace hx203008_0 := (HB.out.cell (World.block_lt_of_cell? w _ hx203008_0)).trans hx203008_0
             replace p203008 := eq_true p203008
             replace q203008 := eq_true q203008
             obtain ⟨Ao20, co20, eo20⟩ := Kd.R_slice HO_5.out
             subst eo20
             have p203009 : 0 ≤ ((rd l0_1 x8_2) : Int) := of_decide_eq_true (by first | (with_reducible assumption) | assumption)
             have q203009 : (rd l0_1 x8_2) < (x5_2.length : Int) := of_decide_eq_true (by first | (with_reducible assumption) | assumption)
             obtain ⟨ad203009, e203009, hx203009_0⟩ := Kd.at_int (Kd.R_reads' HO_5.out).2.2 (rd l0_1 x8_2) p203009 q203009
             cases e203009
             replace p203009 := eq_true p203009
             replace q203009 := eq_true q203009
             have p203010 : 0 ≤ (x8_2 : Int) := of_decide_eq_true (by first | (with_reducible assumption) | assumption)
             have q203010 : x8_2 < (l0_2.length : Int) := of_decide_eq_true (by first | (with_reducible assumption) | assumption)
             obtain ⟨ad203010, e203010, hx203010_0⟩ := Kd.at_int HR0_2.out x8_2 p203010 q203010
             cases e203010
             replace hx203010_0 := (HB.out.cell (World.block_lt_of_cell? w _ hx203010_0)).trans hx203010_0
             replace p203010 := eq_true p203010
             replace q203010 := eq_true q203010
             have p203011 : 0 ≤ ((rd l0_2 x8_2) : Int) := of_decide_eq_true (by first | (with_reducible assumption) | assumption)
             have q203011 : (rd l0_2 x8_2) < (x5_2.length : Int) := of_decide_eq_true (by first | (with_reducible assumption) | assumption)
             obtain ⟨ad203011, e203011, hx203011_0⟩ := Kd.at_int (Kd.R_reads' HO_5.out).2.2 (rd l0_2 x8_2) p203011 q203011
             obtain rfl : ad203009 = ad203011 := (by injection e203011)
             replace p203011 := eq_true p203011
             replace q203011 := eq_true q203011
             go_upto_region 12 with (fail)
             go_cut [56] (fun v56 wc => ∃ (kq : Nat) (x56_17 : Bool), v56 = .bool x56_17 ∧ Aside0 (spec_l14Pieces.j2 kq a1 x5_2 x7_2 x8_2 (rd x5_2 (rd l0_1 x8_2)) (rd x5_2 (rd l0_2 x8_2)) x56_17 a0_0 l0_1 l0_2 = some r) ∧ Aside0 (kq ≤ k2) ∧ Aside0 (Kd.R (Kd.int .i64) 3 wc w.heap.size (fun _ => True) (.slice (some ad203009) x5_2.length co20) x5_2) ∧ Aside0 (wc.heap[gb203001]? = some (.cells #[.int .i64 a0_0, (.slice (some ad203008) l0_1.length c0_1), (.slice (some ad203010) l0_2.length c0_2)] 71 (0, 0))) ∧ Aside0 (Below w.heap.size w wc))
             case first =>
              have H := HC18.out
              clear HC18
              replace H := Option.bind_eq_some_iff.mp H
              obtain ⟨t203012, A210, H⟩ := H
              replace H : (if t203012 = true then (spec_l14Pieces.j2 k2 a1 x5_2 x7_2 x8_2 (rd x5_2 (rd l0_1 x8_2)) (rd x5_2 (rd l0_2 x8_2)) ((rd x5_2 (rd l0_1 x8_2)) == (rd x5_2 (rd l0_2 x8_2))) a0_0 l0_1 l0_2) else (spec_l14Pieces.j2 k2 a1 x5_2 x7_2 x8_2 (rd x5_2 (rd l0_1 x8_2)) (rd x5_2 (rd l0_2 x8_2)) true a0_0 l0_1 l0_2)) = some r := H
              have A21 := aQ A210
              clear A210
              by_cases c22 : t203012 = true
              ·subst c22
               have H1 : (spec_l14Pieces.j2 k2 a1 x5_2 x7_2 x8_2 (rd x5_2 (rd l0_1 x8_2)) (rd x5_2 (rd l0_2 x8_2)) ((rd x5_2 (rd l0_1 x8_2)) == (rd x5_2 (rd l0_2 x8_2))) a0_0 l0_1 l0_2) = some r := by rw [if_pos rfl] at H; exact H
               clear H
               have H := H1
               clear H1
               have H' := aQ H
               clear H
               go_wp2_with (first | ((with_reducible refine gate_callee (f := 127) rfl ?_); refine goesL_ (some 50) rfl rfl Try.func127 (by kernel_rfl) rfl #[.int .i64 a1, .int .i64 x8_2] rfl (by (try simp only [List.map_toArray, List.map_cons, List.map_nil]); first | done | rfl | (simp only [List.length_drop, List.length_take]; rfl)) ?_; (with_reducible refine (spec_l2Has.calls a1 x8_2 true _ A21.out).mono ?_); rintro e w' ⟨rfl, ⟨nd, rfl⟩⟩; refine ⟨_, rfl, ?_⟩))
               go_meet
               case rel => exact ⟨_, (((rd x5_2 (rd l0_1 x8_2)) == (rd x5_2 (rd l0_2 x8_2)))), (by first | rfl | (simp; done) | (simp [*]; done)), H', ⟨by have := HK1.out; have := HK2.out; first | omega | exact Nat.le_refl _⟩, ⟨by (with_reducible repeat (first | apply Kd.R_alloc | apply Kd.R_drewN | apply Kd.R_drew)); exact HO_5.out⟩, ⟨by (with_reducible repeat (first | refine blk_drewN ?_ _ | refine blk_drew ?_ | refine blk_alloc ?_ _)); exact BK203001.out⟩, ⟨by repeat (first | (with_reducible first | exact HB.out | apply below_alloc | apply pw_below_drewN | apply below_drew1 | refine below_set ?_ GE203001.out) | exact HB.out)⟩⟩
              ·replace c22 := Bool.eq_false_iff.mpr c22
               subst c22
               have H1 : (spec_l14Pieces.j2 k2 a1 x5_2 x7_2 x8_2 (rd x5_2 (rd l0_1 x8_2)) (rd x5_2 (rd l0_2 x8_2)) true a0_0 l0_1 l0_2) = some r := by rw [if_neg (show ¬ (false = true) by decide)] at H; exact H
               clear H
               have H := H1
               clear H1
               have H' := aQ H
               clear H
               go_wp2_with (first | ((with_reducible refine gate_callee (f := 127) rfl ?_); refine goesL_ (some 50) rfl rfl Try.func127 (by kernel_rfl) rfl #[.int .i64 a1, .int .i64 x8_2] rfl (by (try simp only [List.map_toArray, List.map_cons, List.map_nil]); first | done | rfl | (simp only [List.length_drop, List.length_take]; rfl)) ?_; (with_reducible refine (spec_l2Has.calls a1 x8_2 false _ A21.out).mono ?_); rintro e w' ⟨rfl, ⟨nd, rfl⟩⟩; refine ⟨_, rfl, ?_⟩))
               go_meet
               case rel => exact ⟨_, (true), (by first | rfl | (simp; done) | (simp [*]; done)), H', ⟨by have := HK1.out; have := HK2.out; first | omega | exact Nat.le_refl _⟩, ⟨by (with_reducible repeat (first | apply Kd.R_alloc | apply Kd.R_drewN | apply Kd.R_drew)); exact HO_5.out⟩, ⟨by (with_reducible repeat (first | refine blk_drewN ?_ _ | refine blk_drew ?_ | refine blk_alloc ?_ _)); exact BK203001.out⟩, ⟨by repeat (first | (with_reducible first | exact HB.out | apply below_alloc | apply pw_below_drewN | apply below_drew1 | refine below_set ?_ GE203001.out) | exact HB.out)⟩⟩
             case rest =>
              clear HC18
              try clear c1
              try clear c2
              try clear p2
              try clear q2
              try clear hx2
              try clear c6
              try clear c6b0
              try clear p6
              try clear c7
              try clear c11
              try clear c11b0
              try clear c12
              try clear c12b0
              try clear c13
              try clear c13b0
              try clear c14
              try clear c14b0
              try clear c15
              try clear c15b0
              try clear c16
              try clear c16b0
              try clear c17
              try clear c17b0
              try clear c20
              try clear p20
              try clear q20
              try clear hx20
              try clear c22
              try clear hcz10_0
              try clear hcz10_1
              try clear hcz10_2
              try clear hcz19_0
              try clear hcz19_1
              try clear hcz19_2
              try clear hcz8_0
              try clear hcz8_1
              try clear hcz8_2
              try clear hfz10_0
              try clear hfz10_1
              try clear hfz10_2
              try clear hfz19_0
              try clear hfz19_1
              try clear hfz19_2
              try clear hfz8_0
              try clear hfz8_1
              try clear hfz8_2
              try clear hx203008_0
              try clear hx203009_0
              try clear hx203010_0
              try clear hx203011_0
              try clear p2
              try clear p203008
              try clear p203009
              try clear p203010
              try clear p203011
              try clear p6
              try clear q203008
              try clear q203009
              try clear q203010
              try clear q203011
              obtain ⟨kq, x56_17, rfl, HA, HJ17, HO_5, BK203001, HB⟩ := hcut
              cases kq with
              | zero => exact absurd HA.out (by simp [spec_l14Pieces.j2])
              | succ kj17 =>
               have H := HA.out
               clear HA
               simp only [spec_l14Pieces.j2] at H
               by_cases c23 : x56_17 = true
               ·subst c23
                have H1 : (spec_l14Pieces.l1 kj17 a1 x5_2 x7_2 (wrap64 (x8_2 + 1)) a0_0 l0_1 l0_2) = some r := by rw [if_pos rfl] at H; exact H
                clear H
                have H := H1
                clear H1
                have H' := aQ H
                clear H
                go_wp2
                go_roundg kj17
                case measure => have := HK1.out; have := HK2.out; have := HJ17.out; omega
                case rel => exact ⟨(x5_2), (x7_2), (wrap64 (x8_2 + 1)), (by first | rfl | (simp; done) | (simp [*]; done)), (by first | rfl | (simp; done) | (simp [*]; done)), H', ⟨by have := HK1.out; have := HK2.out; have := HJ17.out; omega⟩, ⟨by (with_reducible repeat (first | apply Kd.R_alloc | apply Kd.R_drewN | apply Kd.R_drew)); exact HO_5.out⟩, ⟨by (with_reducible repeat (first | refine blk_drewN ?_ _ | refine blk_drew ?_ | refine blk_alloc ?_ _)); exact BK203001.out⟩, ⟨by repeat (first | (with_reducible first | exact HB.out | apply below_alloc | apply pw_below_drewN | apply below_drew1 | refine below_set ?_ GE203001.out) | exact HB.out)⟩⟩
               ·replace c23 := Bool.eq_false_iff.mpr c23
                subst c23
                have H1 : (spec_l14Pieces.l2 kj17 a1 x5_2 x7_2 x8_2 (rd x5_2 (rd l0_1 x8_2)) (rd x5_2 (rd l0_2 x8_2)) 0 a0_0 l0_1 l0_2) = some r := by rw [if_neg (show ¬ (false = true) by decide)] at H; exact H
                clear H
                have H := H1
                clear H1
                have H' := aQ H
                clear H
                go_wp2
                go_loopg [11] kj17 (fun kq v11 w' => ∃ (x5_4 : List Int) (x11_4 : Int), v11 = .int .i64 x11_4 ∧ Aside0 (spec_l14Pieces.l2 kq a1 x5_4 x7_2 x8_2 (rd x5_2 (rd l0_1 x8_2)) (rd x5_2 (rd l0_2 x8_2)) x11_4 a0_0 l0_1 l0_2 = some r) ∧ Aside0 (kq ≤ kj17) ∧ Aside0 (Kd.R (Kd.int .i64) 3 w' w.heap.size (fun _ => True) (.slice (some ad203009) x5_2.length co20) x5_4) ∧ Aside0 (w'.heap[gb203001]? = some (.cells #[.int .i64 a0_0, (.slice (some ad203008) l0_1.length c0_1), (.slice (some ad203010) l0_2.length c0_2)] 71 (0, 0))) ∧ Aside0 (Below w.heap.size w w'))
                case atStart => exact ⟨(x5_2), (0), (by first | rfl | (simp; done) | (simp [*]; done)), H', ⟨Nat.le_refl _⟩, ⟨by (with_reducible repeat (first | apply Kd.R_alloc | apply Kd.R_drewN | apply Kd.R_drew)); exact HO_5.out⟩, ⟨by (with_reducible repeat (first | refine blk_drewN ?_ _ | refine blk_drew ?_ | refine blk_alloc ?_ _)); exact BK203001.out⟩, ⟨by repeat (first | (with_reducible first | exact HB.out | apply below_alloc | apply pw_below_drewN | apply below_drew1 | refine below_set ?_ GE203001.out) | exact HB.out)⟩⟩
                case round =>
                 clear H'
                 try clear c1
                 try clear c2
                 try clear p2
                 try clear q2
                 try clear hx2
                 try clear c6
                 try clear c6b0
                 try clear p6
                 try clear c7
                 try clear c11
                 try clear c11b0
                 try clear c12
                 try clear c12b0
                 try clear c13
                 try clear c13b0
                 try clear c14
                 try clear c14b0
                 try clear c15
                 try clear c15b0
                 try clear c16
                 try clear c16b0
                 try clear c17
                 try clear c17b0
                 try clear c20
                 try clear p20
                 try clear q20
                 try clear hx20
                 try clear c22
                 try clear c23
                 try clear hcz10_0
                 try clear hcz10_1
                 try clear hcz10_2
                 try clear hcz19_0
                 try clear hcz19_1
                 try clear hcz19_2
                 try clear hcz8_0
                 try clear hcz8_1
                 try clear hcz8_2
                 try clear hfz10_0
                 try clear hfz10_1
                 try clear hfz10_2
                 try clear hfz19_0
                 try clear hfz19_1
                 try clear hfz19_2
                 try clear hfz8_0
                 try clear hfz8_1
                 try clear hfz8_2
                 try clear hx203008_0
                 try clear hx203009_0
                 try clear hx203010_0
                 try clear hx203011_0
                 try clear p2
                 try clear p20
                 try clear p203008
                 try clear p203009
                 try clear p203010
                 try clear p203011
                 try clear p6
                 try clear q2
                 try clear q20
                 try clear q203008
                 try clear q203009
                 try clear q203010
                 try clear q203011
                 obtain ⟨x5_4, x11_4, rfl, HA, HK4, HO_5, BK203001, HB⟩ := hrel
                 have hl5_4 := (Kd.R_reads' HO_5.out).1
                 rw [hl5_4] at HO_5
                 (try simp only [hl5_4])
                 (try simp only [hl5_4] at BK203001)
                 cases gk with
                 | zero => exact absurd HA.out (by simp [spec_l14Pieces.l2])
                 | succ k4 =>
                  have H := HA.out
                  clear HA
                  simp only [spec_l14Pieces.l2] at H
                  by_cases c24 : x11_4 < a0_0
                  ·rw [if_pos c24] at H
                   have c24b0 : decide (x11_4 < a0_0) = true := decide_eq_true c24
                   clear c24
                   by_cases c25 : 0 ≤ x11_4
                   ·rw [if_pos c25] at H
                    have c25b0 : decide (0 ≤ x11_4) = true := decide_eq_true c25
                    clear c25
                    by_cases c26 : x11_4 < (x5_4.length : Int)
                    ·rw [if_pos c26] at H
                     have c26b0 : decide (x11_4 < (x5_4.length : Int)) = true := decide_eq_true c26
                     clear c26
                     by_cases c27 : (rd x5_4 x11_4) = (rd x5_2 (rd l0_2 x8_2))
                     ·rw [if_pos c27] at H
                      have c27b0 : ((rd x5_4 x11_4) == (rd x5_2 (rd l0_2 x8_2))) = true := beq_iff_eq.mpr c27
                      have c27b1 : ((rd x5_4 x11_4) != (rd x5_2 (rd l0_2 x8_2))) = false := bne_eq_false_iff_eq.mpr c27
                      clear c27
                      obtain ⟨y203014, hy203014⟩ : ∃ y_ : List Int, y_ = (x5_4.set (x11_4 : Int).toNat (rd x5_2 (rd l0_1 x8_2))) := ⟨_, rfl⟩
                      replace H : (spec_l14Pieces.l2 k4 a1 y203014 x7_2 x8_2 (rd x5_2 (rd l0_1 x8_2)) (rd x5_2 (rd l0_2 x8_2)) (wrap64 (x11_4 + 1)) a0_0 l0_1 l0_2) = some r := by first | (rw [hy203014]; with_reducible exact H) | (have H2_ := (Option.bind_some _ _).symm.trans H; rw [hy203014]; with_reducible exact H2_) | (have H2_ := (Option.bind_some _ _).symm.trans H; with_reducible exact H2_) | with_reducible exact H | (rw [hy203014]; exact H) | exact H
                      have Ny203014 := aQ hy203014
                      clear hy203014
                      have H' := aQ H
                      clear H
                      have hcz29_0 : wr.cell? ⟨gb203001, 0, none⟩ = some (.int .i64 a0_0) := (blk_cell BK203001.out 0).trans rfl
                      have hcz29_1 : wr.cell? ⟨gb203001, 1, none⟩ = some (.slice (some ad203008) l0_1.length c0_1) := (blk_cell BK203001.out 1).trans rfl
                      have hcz29_2 : wr.cell? ⟨gb203001, 2, none⟩ = some (.slice (some ad203010) l0_2.length c0_2) := (blk_cell BK203001.out 2).trans rfl
                      have hfz29_0 := blk_frozen BK203001.out 0
                      have hfz29_1 := blk_frozen BK203001.out 1
                      have hfz29_2 := blk_frozen BK203001.out 2
                      have p203013 : 0 ≤ (x11_4 : Int) := of_decide_eq_true (by first | (with_reducible assumption) | assumption)
                      have q203013 : x11_4 < (x5_4.length : Int) := of_decide_eq_true (by first | (with_reducible assumption) | assumption)
                      obtain ⟨ad203013, e203013, hx203013_0⟩ := Kd.at_int (Kd.R_reads' HO_5.out).2.2 x11_4 p203013 q203013
                      obtain rfl : ad203009 = ad203013 := (by injection e203013)
                      replace p203013 := eq_true p203013
                      replace q203013 := eq_true q203013
                      have p28 : 0 ≤ (x11_4 : Int) := of_decide_eq_true (by first | (with_reducible assumption) | assumption)
                      have q28 : (x11_4 : Int) < ((x5_4.length : Int) : Int) := of_decide_eq_true (by first | (with_reducible assumption) | assumption)
                      obtain ⟨go28, co28, eo28, gb28, gl28, cl28, HG28⟩ := Kd.R_form HO_5.out (by omega)
                      (first | cases eo28 | (injection eo28 with ea_ en_ ec_; (first | subst ea_ | (injection ea_ with ea_; subst ea_)); subst ec_; clear en_))
                      have GB28 := aQ gb28
                      have GG28 := aQ HG28
                      clear gb28 gl28 HG28
                      (first | simp only [add_plain] at hx203009_0 | skip)
                      (first | simp only [add_plain] at hx203011_0 | skip)
                      (first | simp only [add_plain] at hx203013_0 | skip)
                      obtain ⟨hx28_0, hf28_0⟩ := Kd.R_celln 0 HO_5.out (x11_4 : Int) p28 q28
                      replace p28 := eq_true p28
                      replace q28 := eq_true q28
                      have HP30 := Kd.R_putg HO_5.out (x11_4 : Int) (rd x5_2 (rd l0_1 x8_2))
                      go_wp2_with (first | ((with_reducible refine gate_store (t := 3) (p := 72) rfl ?_); refine store_event (t := 3) (p := 72) (v := ?vo_w31) (w1 := (wr.setCell ⟨go28, (x11_4 : Int).toNat, none⟩ (.int .i64 (rd x5_2 (rd l0_1 x8_2))))) ?hg ?ho ?hn ?hr ?_; (case ho => rfl); (case hg => rfl); (case hn => rfl); (case hr => first | (go_simp; done) | (go_simp; rfl)); intro w31 hw; have hg : wr.grownBy w31 (some go28) := (by rw [hw]; exact HP30.2); have hp_ : Kd.R (Kd.int .i64) 3 w31 w.heap.size (fun _ => True) (.slice (some ⟨go28, 0, none⟩) x5_4.length co20) y203014 := (by rw [hw, Ny203014.out]; exact HP30.1); clear HP30; replace BK203001 := aQ (blk_grown (g := gb203001) (o := .cells #[.int .i64 a0_0, .slice (some ad203008) l0_1.length c0_1, .slice (some ad203010) l0_2.length c0_2] 71 (0, 0)) (by (with_reducible repeat (first | refine blk_drewN ?_ _ | refine blk_drew ?_ | refine blk_alloc ?_ _)); exact BK203001.out) hg (Kd.R_ne HO_5.out BK203001.out (by decide))); replace HO_5 := aQ (hp_); replace HB := aQ ((by rw [hw]; exact below_set (HB.out) GB28.out : Below w.heap.size w w31)); clear hg hw hp_))
                      (try simp only [← hl5_4])
                      go_roundg k4
                      case measure => have := HK1.out; have := HK2.out; have := HJ17.out; have := HK4.out; omega
                      case rel => exact ⟨(y203014), (wrap64 (x11_4 + 1)), (by first | rfl | (simp; done) | (simp [*]; done)), H', ⟨by have := HK1.out; have := HK2.out; have := HJ17.out; have := HK4.out; omega⟩, ⟨by (try simp only [hl5_4]); (with_reducible repeat (first | apply Kd.R_alloc | apply Kd.R_drewN | apply Kd.R_drew)); exact HO_5.out⟩, ⟨by (try simp only [hl5_4]); (with_reducible repeat (first | refine blk_drewN ?_ _ | refine blk_drew ?_ | refine blk_alloc ?_ _)); exact BK203001.out⟩, ⟨by repeat (first | (with_reducible first | exact HB.out | apply below_alloc | apply pw_below_drewN | apply below_drew1 | refine below_set ?_ GE203001.out) | exact HB.out)⟩⟩
                     ·rw [if_neg c27] at H
                      have c27b0 : ((rd x5_4 x11_4) == (rd x5_2 (rd l0_2 x8_2))) = false := beq_eq_false_iff_ne.mpr c27
                      have c27b1 : ((rd x5_4 x11_4) != (rd x5_2 (rd l0_2 x8_2))) = true := bne_iff_ne.mpr c27
                      have H' := aQ H
                      clear H
                      have hcz32_0 : wr.cell? ⟨gb203001, 0, none⟩ = some (.int .i64 a0_0) := (blk_cell BK203001.out 0).trans rfl
                      have hcz32_1 : wr.cell? ⟨gb203001, 1, none⟩ = some (.slice (some ad203008) l0_1.length c0_1) := (blk_cell BK203001.out 1).trans rfl
                      have hcz32_2 : wr.cell? ⟨gb203001, 2, none⟩ = some (.slice (some ad203010) l0_2.length c0_2) := (blk_cell BK203001.out 2).trans rfl
                      have hfz32_0 := blk_frozen BK203001.out 0
                      have hfz32_1 := blk_frozen BK203001.out 1
                      have hfz32_2 := blk_frozen BK203001.out 2
                      have p203013 : 0 ≤ (x11_4 : Int) := of_decide_eq_true (by first | (with_reducible assumption) | assumption)
                      have q203013 : x11_4 < (x5_4.length : Int) := of_decide_eq_true (by first | (with_reducible assumption) | assumption)
                      obtain ⟨ad203013, e203013, hx203013_0⟩ := Kd.at_int (Kd.R_reads' HO_5.out).2.2 x11_4 p203013 q203013
                      obtain rfl : ad203009 = ad203013 := (by injection e203013)
                      replace p203013 := eq_true p203013
                      replace q203013 := eq_true q203013
                      go_wp2
                      (try simp only [← hl5_4])
                      go_roundg k4
                      case measure => have := HK1.out; have := HK2.out; have := HJ17.out; have := HK4.out; omega
                      case rel => exact ⟨(x5_4), (wrap64 (x11_4 + 1)), (by first | rfl | (simp; done) | (simp [*]; done)), H', ⟨by have := HK1.out; have := HK2.out; have := HJ17.out; have := HK4.out; omega⟩, ⟨by (try simp only [hl5_4]); (with_reducible repeat (first | apply Kd.R_alloc | apply Kd.R_drewN | apply Kd.R_drew)); exact HO_5.out⟩, ⟨by (try simp only [hl5_4]); (with_reducible repeat (first | refine blk_drewN ?_ _ | refine blk_drew ?_ | refine blk_alloc ?_ _)); exact BK203001.out⟩, ⟨by repeat (first | (with_reducible first | exact HB.out | apply below_alloc | apply pw_below_drewN | apply below_drew1 | refine below_set ?_ GE203001.out) | exact HB.out)⟩⟩
                    ·rw [if_neg c26] at H
                     exact absurd H (by simp)
                   ·rw [if_neg c25] at H
                    exact absurd H (by simp)
                  ·rw [if_neg c24] at H
                   have c24b0 : decide (x11_4 < a0_0) = false := decide_eq_false c24
                   clear c24
                   have H' := aQ H
                   clear H
                   have hcz33_0 : wr.cell? ⟨gb203001, 0, none⟩ = some (.int .i64 a0_0) := (blk_cell BK203001.out 0).trans rfl
                   have hcz33_1 : wr.cell? ⟨gb203001, 1, none⟩ = some (.slice (some ad203008) l0_1.length c0_1) := (blk_cell BK203001.out 1).trans rfl
                   have hcz33_2 : wr.cell? ⟨gb203001, 2, none⟩ = some (.slice (some ad203010) l0_2.length c0_2) := (blk_cell BK203001.out 2).trans rfl
                   have hfz33_0 := blk_frozen BK203001.out 0
                   have hfz33_1 := blk_frozen BK203001.out 1
                   have hfz33_2 := blk_frozen BK203001.out 2
                   go_wp2
                   (try simp only [← hl5_4])
                   go_roundg k4
                   case measure => have := HK1.out; have := HK2.out; have := HJ17.out; have := HK4.out; omega
                   case rel => exact ⟨(x5_4), (wrap64 (x7_2 - 1)), (wrap64 (x8_2 + 1)), (by first | rfl | (simp; done) | (simp [*]; done)), (by first | rfl | (simp; done) | (simp [*]; done)), H', ⟨by have := HK1.out; have := HK2.out; have := HJ17.out; have := HK4.out; omega⟩, ⟨by (try simp only [hl5_4]); (with_reducible repeat (first | apply Kd.R_alloc | apply Kd.R_drewN | apply Kd.R_drew)); exact HO_5.out⟩, ⟨by (try simp only [hl5_4]); (with_reducible repeat (first | refine blk_drewN ?_ _ | refine blk_drew ?_ | refine blk_alloc ?_ _)); exact BK203001.out⟩, ⟨by repeat (first | (with_reducible first | exact HB.out | apply below_alloc | apply pw_below_drewN | apply below_drew1 | refine below_set ?_ GE203001.out) | exact HB.out)⟩⟩
            ·rw [if_neg c17] at H
             exact absurd H (by simp)
           ·rw [if_neg c16] at H
            exact absurd H (by simp)
          ·rw [if_neg c15] at H
           exact absurd H (by simp)
         ·rw [if_neg c14] at H
          exact absurd H (by simp)
        ·rw [if_neg c13] at H
         exact absurd H (by simp)
       ·rw [if_neg c12] at H
        exact absurd H (by simp)
      ·rw [if_neg c11] at H
       have c11b0 : decide (x8_2 < (l0_1.length : Int)) = false := decide_eq_false c11
       clear c11
       obtain rfl := Option.some.inj H
       have hcz34_0 : wr.cell? ⟨gb203001, 0, none⟩ = some (.int .i64 a0_0) := (blk_cell BK203001.out 0).trans rfl
       have hcz34_1 : wr.cell? ⟨gb203001, 1, none⟩ = some (.slice A0_1 l0_1.length c0_1) := (blk_cell BK203001.out 1).trans rfl
       have hcz34_2 : wr.cell? ⟨gb203001, 2, none⟩ = some (.slice A0_2 l0_2.length c0_2) := (blk_cell BK203001.out 2).trans rfl
       have hfz34_0 := blk_frozen BK203001.out 0
       have hfz34_1 := blk_frozen BK203001.out 1
       have hfz34_2 := blk_frozen BK203001.out 2
       go_wp2
       go_ret
       exact ⟨by first | rfl | (simp [errW_none, errW_some] <;> rfl) | (simp [*, errW_none, errW_some] <;> rfl), by repeat (first | (with_reducible first | exact HB.out | apply below_alloc | apply pw_below_drewN | apply below_drew1 | refine below_set ?_ GE203001.out) | exact HB.out)⟩
/-! ### spec_FromGraph: function 93 -/
def spec_FromGraph.l0 : Nat → Int → Int → Int → List Int → List Int → Int → List Int → Option (Int × List Int)
 | 0, _, _, _, _, _, _, _ => none
 | k + 1, x4, x5, x94002000, x94002001, x94002002, x94005000, x94005001 => (spec_FullSet.f x94005000).bind fun t94007 => (if x5 ≤ t94007 then ((spec_CountOf.f k x5).bind fun t94008 => (if t94008 = x4 then ((spec_l14Pieces.f k x94002000 x94002001 x94002002 x5).bind fun t94009 => (if (wrap64 (x94002000 - t94009)) = x4 then (if x94005001.length < 17592186044416 then (spec_FromGraph.l0 k x4 (wrap64 (x5 + 1)) x94002000 x94002001 x94002002 x94005000 (x94005001 ++ [x5])) else (none)) else (spec_FromGraph.l0 k x4 (wrap64 (x5 + 1)) x94002000 x94002001 x94002002 x94005000 x94005001))) else (spec_FromGraph.l0 k x4 (wrap64 (x5 + 1)) x94002000 x94002001 x94002002 x94005000 x94005001))) else (some (x94005000, x94005001)))
def spec_FromGraph.f (k : Nat) (a0_0 : Int) (l0_1 : List Int) (l0_2 : List Int) : Option (Int × List Int) := (spec_IsGraph.f k a0_0 l0_1 l0_2).bind fun t94003 => (if t94003 = true then ((spec_FullSet.f (l0_1.length : Int)).bind fun t94005 => ((spec_l14Pieces.f k a0_0 l0_1 l0_2 t94005).bind fun t94006 => (spec_FromGraph.l0 k (wrap64 (a0_0 - t94006)) 0 a0_0 l0_1 l0_2 (l0_1.length : Int) ([] : List Int)))) else (some (0, ([] : List Int))))
theorem spec_FromGraph.mono_l : ∀ k, (∀ y0 y1 y2 y3 y4 y5 y6, LeO (spec_FromGraph.l0 k y0 y1 y2 y3 y4 y5 y6) (spec_FromGraph.l0 (k + 1) y0 y1 y2 y3 y4 y5 y6))
 | 0 => fun _ _ _ _ _ _ _ r h => by simp [spec_FromGraph.l0] at h
 | k + 1 => by
  have ih0 := spec_FromGraph.mono_l k
  ·intro y0 y1 y2 y3 y4 y5 y6
   unfold spec_FromGraph.l0
   repeat' first
   | (with_reducible exact ih0 _ _ _ _ _ _ _)
   | (with_reducible exact spec_CountOf.mono _ _)
   | (with_reducible exact spec_IsGraph.mono _ _ _ _)
   | (with_reducible exact spec_l14Pieces.mono _ _ _ _ _)
   | (with_reducible exact LeO.refl _)
   | (with_reducible exact LeO.none _)
   | (with_reducible refine LeO.ite ?_ ?_)
   | (with_reducible refine LeO.bind ?_ (fun _ => ?_))
   | exact ih0 _ _ _ _ _ _ _
   | exact spec_CountOf.mono _ _
   | exact spec_IsGraph.mono _ _ _ _
   | exact spec_l14Pieces.mono _ _ _ _ _
   | exact LeO.none _
   | refine LeO.ite ?_ ?_
   | refine LeO.bind ?_ (fun _ => ?_)
theorem spec_FromGraph.mono : ∀ a0 a1 a2 k, LeO (spec_FromGraph.f k a0 a1 a2) (spec_FromGraph.f (k + 1) a0 a1 a2) := by
 intro a0 a1 a2 k
 have ih0 := spec_FromGraph.mono_l k
 unfold spec_FromGraph.f
 repeat' first
   | (with_reducible exact ih0 _ _ _ _ _ _ _)
   | (with_reducible exact spec_CountOf.mono _ _)
   | (with_reducible exact spec_IsGraph.mono _ _ _ _)
   | (with_reducible exact spec_l14Pieces.mono _ _ _ _ _)
   | (with_reducible exact LeO.refl _)
   | (with_reducible exact LeO.none _)
   | (with_reducible refine LeO.ite ?_ ?_)
   | (with_reducible refine LeO.bind ?_ (fun _ => ?_))
   | exact ih0 _ _ _ _ _ _ _
   | exact spec_CountOf.mono _ _
   | exact spec_IsGraph.mono _ _ _ _
   | exact spec_l14Pieces.mono _ _ _ _ _
   | exact LeO.none _
   | refine LeO.ite ?_ ?_
   | refine LeO.bind ?_ (fun _ => ?_)
def spec_FromGraph.T4 : Bool × List (List Nat × List Nat) := (true, [([], []), ([0], [0]), ([], []), ([], []), ([3], [3]), ([4], [4]), ([2, 5, 5], [2, 5]), ([1, 6], [1, 6]), ([7, 6, 0, 1, 2, 3, 4, 5, 6, 7], [7])])
def spec_FromGraph.B4 : List Nat := [0, 1, 0, 0, 8, 24, 60, 127, 255]
theorem spec_FromGraph.tab4 : rtab .any (opsOf Try.f93 4) = spec_FromGraph.T4 := by kernel_rfl
theorem spec_FromGraph.bits4 : waitsOk spec_FromGraph.T4.2 spec_FromGraph.B4 = true := by kernel_rfl
def spec_FromGraph.T8 : Bool × List (List Nat × List Nat) := (true, [([], []), ([0], [0]), ([], []), ([1, 2], [1, 2]), ([3, 1], [3]), ([4], [4]), ([5, 4], [4, 5]), ([4], [4]), ([4], [4]), ([7, 8, 4, 4], [4, 7, 8]), ([6, 9, 4], [4, 6, 9]), ([4], [4]), ([10, 11, 4], [4, 10, 11]), ([4, 12], [4, 12])])
def spec_FromGraph.B8 : List Nat := [0, 1, 0, 7, 15, 31, 63, 31, 31, 415, 1023, 31, 4095, 8191]
theorem spec_FromGraph.tab8 : rtab .any (opsOf Try.f93 8) = spec_FromGraph.T8 := by kernel_rfl
theorem spec_FromGraph.bits8 : waitsOk spec_FromGraph.T8.2 spec_FromGraph.B8 = true := by kernel_rfl
set_option maxHeartbeats 8000000 in
set_option maxRecDepth 100000 in
theorem spec_FromGraph.calls (k : Nat) (a0_0 : Int) (A0_1 : Option Addr) (c0_1 : Nat) (l0_1 : List Int) (A0_2 : Option Addr) (c0_2 : Nat) (l0_2 : List Int) (r1 : Int) (r2 : List Int) (w : World) (hr0_1 : Kd.C (Kd.int .i64) w A0_1 l0_1.length l0_1) (hc0_1 : l0_1.length ≤ c0_1) (hr0_2 : Kd.C (Kd.int .i64) w A0_2 l0_2.length l0_2) (hc0_2 : l0_2.length ≤ c0_2) (h : spec_FromGraph.f k a0_0 l0_1 l0_2 = some (r1, r2)) :
  Calls Try.prog 93 #[.agg #[.int .i64 a0_0, .slice A0_1 l0_1.length c0_1, .slice A0_2 l0_2.length c0_2]] w fun e w' => ∃ v1_ : Value, e = .returned (.agg #[.int .i64 r1, v1_]) ∧ Kd.R (Kd.int .i64) 3 w' w.heap.size (fun _ => True) v1_ r2 ∧ Below w.heap.size w w' := by
 have hu71 := Try.underlying71
 have hu28 := Try.underlying28
 have HR0_1 := aQ hr0_1
 have HC0_1 := aQ hc0_1
 clear hr0_1 hc0_1
 have HR0_2 := aQ hr0_2
 have HC0_2 := aQ hc0_2
 clear hr0_2 hc0_2
 have HB := aQ (Below.refl w.heap.size w)
 have H : ((spec_IsGraph.f k a0_0 l0_1 l0_2).bind fun t94003 => (if t94003 = true then ((spec_FullSet.f (l0_1.length : Int)).bind fun t94005 => ((spec_l14Pieces.f k a0_0 l0_1 l0_2 t94005).bind fun t94006 => (spec_FromGraph.l0 k (wrap64 (a0_0 - t94006)) 0 a0_0 l0_1 l0_2 (l0_1.length : Int) ([] : List Int)))) else (some (0, ([] : List Int))))) = some (r1, r2) := h
 clear h
 replace H := Option.bind_eq_some_iff.mp H
 obtain ⟨t94003, A20, H⟩ := H
 replace H : (if t94003 = true then ((spec_FullSet.f (l0_1.length : Int)).bind fun t94005 => ((spec_l14Pieces.f k a0_0 l0_1 l0_2 t94005).bind fun t94006 => (spec_FromGraph.l0 k (wrap64 (a0_0 - t94006)) 0 a0_0 l0_1 l0_2 (l0_1.length : Int) ([] : List Int)))) else (some (0, ([] : List Int)))) = some (r1, r2) := H
 have A2 := aQ A20
 clear A20
 by_cases c3 : t94003 = true
 ·subst c3
  have H1 : ((spec_FullSet.f (l0_1.length : Int)).bind fun t94005 => ((spec_l14Pieces.f k a0_0 l0_1 l0_2 t94005).bind fun t94006 => (spec_FromGraph.l0 k (wrap64 (a0_0 - t94006)) 0 a0_0 l0_1 l0_2 (l0_1.length : Int) ([] : List Int)))) = some (r1, r2) := by rw [if_pos rfl] at H; exact H
  clear H
  have H := H1
  clear H1
  replace H := Option.bind_eq_some_iff.mp H
  obtain ⟨t94005, A40, H⟩ := H
  replace H : ((spec_l14Pieces.f k a0_0 l0_1 l0_2 t94005).bind fun t94006 => (spec_FromGraph.l0 k (wrap64 (a0_0 - t94006)) 0 a0_0 l0_1 l0_2 (l0_1.length : Int) ([] : List Int))) = some (r1, r2) := H
  have A4 := aQ A40
  clear A40
  replace H := Option.bind_eq_some_iff.mp H
  obtain ⟨t94006, A50, H⟩ := H
  replace H : (spec_FromGraph.l0 k (wrap64 (a0_0 - t94006)) 0 a0_0 l0_1 l0_2 (l0_1.length : Int) ([] : List Int)) = some (r1, r2) := H
  have A5 := aQ A50
  clear A50
  have H' := aQ H
  clear H
  go_enter Try.func93, Try.ntmps93
  try go_wp2_with (first | ((with_reducible refine gate_dst (N := 1) rfl ?_); refine box_event ?hg (N := 1) ?hd (cs := #[.int .i64 a0_0, .slice A0_1 l0_1.length c0_1, .slice A0_2 l0_2.length c0_2]) (t := 71) ?hr ?_; (case hd => rfl); (case hg => rfl); (case hr => first | (go_simp; done) | (go_simp; rfl)); intro gb94001 hg w6 hbox hb; have BK94001 := aQ (hbox); have GW94001 := aQ ((by rw [hg]; exact (below_size (by repeat (first | (with_reducible first | exact HB.out | apply below_alloc | apply pw_below_drewN | apply below_drew1) | exact HB.out))) : w.heap.size ≤ gb94001)); have GE94001 := aQ ((by rw [hg]; exact (below_size (by repeat (first | (with_reducible first | exact HB.out | apply below_alloc | apply pw_below_drewN | apply below_drew1) | exact HB.out))) : w.heap.size ≤ gb94001)); replace HB := aQ (below_step (by repeat (first | (with_reducible first | exact HB.out | apply below_alloc | apply pw_below_drewN | apply below_drew1) | exact HB.out)) hb); clear hb hbox hg) | ((with_reducible refine gate_dst (N := 2) rfl ?_); refine box_event ?hg (N := 2) ?hd (cs := #[.int .i64 0, .slice none 0 0]) (t := 28) ?hr ?_; (case hd => rfl); (case hg => rfl); (case hr => first | (go_simp; done) | (go_simp; rfl)); intro gb94002 hg w7 hbox hb; have BK94002 := aQ (hbox); have GW94002 := aQ ((by rw [hg]; exact (below_size (by repeat (first | (with_reducible first | exact HB.out | apply below_alloc | apply pw_below_drewN | apply below_drew1 | refine below_set ?_ GE94001.out) | exact HB.out))) : w.heap.size ≤ gb94002)); have GE94002 := aQ ((by rw [hg]; exact (below_size (by repeat (first | (with_reducible first | exact HB.out | apply below_alloc | apply pw_below_drewN | apply below_drew1 | refine below_set ?_ GE94001.out) | exact HB.out))) : w.heap.size ≤ gb94002)); replace HB := aQ (below_step (by repeat (first | (with_reducible first | exact HB.out | apply below_alloc | apply pw_below_drewN | apply below_drew1 | refine below_set ?_ GE94001.out) | exact HB.out)) hb); have NB94001_94002 := aQ ((by rw [hg]; exact Nat.ne_of_lt (blk_lt (g := gb94001) (o := .cells #[.int .i64 a0_0, .slice A0_1 l0_1.length c0_1, .slice A0_2 l0_2.length c0_2] 71 (0, 0)) (by (with_reducible repeat (first | refine blk_drewN ?_ _ | refine blk_drew ?_ | refine blk_alloc ?_ _)); exact BK94001.out)) : gb94001 ≠ gb94002)); have NB94002_94001 := aQ ((by rw [hg]; exact Nat.ne_of_gt (blk_lt (g := gb94001) (o := .cells #[.int .i64 a0_0, .slice A0_1 l0_1.length c0_1, .slice A0_2 l0_2.length c0_2] 71 (0, 0)) (by (with_reducible repeat (first | refine blk_drewN ?_ _ | refine blk_drew ?_ | refine blk_alloc ?_ _)); exact BK94001.out)) : gb94002 ≠ gb94001)); replace BK94001 := aQ (blk_below (g := gb94001) (o := .cells #[.int .i64 a0_0, .slice A0_1 l0_1.length c0_1, .slice A0_2 l0_2.length c0_2] 71 (0, 0)) (by (with_reducible repeat (first | refine blk_drewN ?_ _ | refine blk_drew ?_ | refine blk_alloc ?_ _)); exact BK94001.out) hb); clear hb hbox hg; have hnb8 := NB94001_94002.out; have hnc8 := NB94002_94001.out; have hcz9_0 : w7.cell? ⟨gb94001, 0, none⟩ = some (.int .i64 a0_0) := (blk_cell BK94001.out 0).trans rfl; have hcz9_1 : w7.cell? ⟨gb94001, 1, none⟩ = some (.slice A0_1 l0_1.length c0_1) := (blk_cell BK94001.out 1).trans rfl; have hcz9_2 : w7.cell? ⟨gb94001, 2, none⟩ = some (.slice A0_2 l0_2.length c0_2) := (blk_cell BK94001.out 2).trans rfl; have hfz9_0 := blk_frozen BK94001.out 0; have hfz9_1 := blk_frozen BK94001.out 1; have hfz9_2 := blk_frozen BK94001.out 2) | ((with_reducible refine gate_callee (f := 201) rfl ?_); refine goesL_ (some 7) rfl rfl Try.func201 (by kernel_rfl) rfl #[.agg #[.int .i64 a0_0, .slice A0_1 l0_1.length c0_1, .slice A0_2 l0_2.length c0_2]] rfl (by (try simp only [List.map_toArray, List.map_cons, List.map_nil]); first | done | rfl | (simp only [List.length_drop, List.length_take]; rfl)) ?_; (with_reducible refine (spec_IsGraph.calls k a0_0 _ _ l0_1 _ _ l0_2 true _ ?side1 ?side2 ?side3 ?side4 A2.out).mono ?_); (case side1 => repeat (first | exact (Kd.C_below HR0_1.out HB.out) | (with_reducible refine Kd.C_alloc ?_ _) | (with_reducible refine Kd.C_drewN ?_ _) | (with_reducible refine Kd.C_drew ?_))); (case side2 => exact HC0_1.out); (case side3 => repeat (first | exact (Kd.C_below HR0_2.out HB.out) | (with_reducible refine Kd.C_alloc ?_ _) | (with_reducible refine Kd.C_drewN ?_ _) | (with_reducible refine Kd.C_drew ?_))); (case side4 => exact HC0_2.out); rintro e w10 ⟨rfl, hb⟩; refine ⟨_, rfl, ?_⟩; replace BK94001 := aQ (blk_below (g := gb94001) (o := .cells #[.int .i64 a0_0, .slice A0_1 l0_1.length c0_1, .slice A0_2 l0_2.length c0_2] 71 (0, 0)) (by (with_reducible repeat (first | refine blk_drewN ?_ _ | refine blk_drew ?_ | refine blk_alloc ?_ _)); exact BK94001.out) hb); replace BK94002 := aQ (blk_below (g := gb94002) (o := .cells #[.int .i64 0, .slice none 0 0] 28 (0, 0)) (by (with_reducible repeat (first | refine blk_drewN ?_ _ | refine blk_drew ?_ | refine blk_alloc ?_ _)); exact BK94002.out) hb); replace HB := aQ (below_step (by repeat (first | (with_reducible first | exact HB.out | apply below_alloc | apply pw_below_drewN | apply below_drew1 | refine below_set ?_ GE94001.out | refine below_set ?_ GE94002.out) | exact HB.out)) hb); (try clear hb); (try clear hb2); (try clear hk); (try clear hi); have hcz11_0 : w10.cell? ⟨gb94001, 0, none⟩ = some (.int .i64 a0_0) := (blk_cell BK94001.out 0).trans rfl; have hcz11_1 : w10.cell? ⟨gb94001, 1, none⟩ = some (.slice A0_1 l0_1.length c0_1) := (blk_cell BK94001.out 1).trans rfl; have hcz11_2 : w10.cell? ⟨gb94001, 2, none⟩ = some (.slice A0_2 l0_2.length c0_2) := (blk_cell BK94001.out 2).trans rfl; have hfz11_0 := blk_frozen BK94001.out 0; have hfz11_1 := blk_frozen BK94001.out 1; have hfz11_2 := blk_frozen BK94001.out 2) | ((with_reducible refine gate_dst (N := 3) rfl ?_); refine box_event ?hg (N := 3) ?hd (cs := #[.int .i64 0, .slice none 0 0]) (t := 28) ?hr ?_; (case hd => rfl); (case hg => rfl); (case hr => first | (go_simp; done) | (go_simp; rfl)); intro gb94004 hg w12 hbox hb; have BK94004 := aQ (hbox); have GW94004 := aQ ((by rw [hg]; exact (below_size (by repeat (first | (with_reducible first | exact HB.out | apply below_alloc | apply pw_below_drewN | apply below_drew1 | refine below_set ?_ GE94001.out | refine below_set ?_ GE94002.out) | exact HB.out))) : w.heap.size ≤ gb94004)); have GE94004 := aQ ((by rw [hg]; exact (below_size (by repeat (first | (with_reducible first | exact HB.out | apply below_alloc | apply pw_below_drewN | apply below_drew1 | refine below_set ?_ GE94001.out | refine below_set ?_ GE94002.out) | exact HB.out))) : w.heap.size ≤ gb94004)); replace HB := aQ (below_step (by repeat (first | (with_reducible first | exact HB.out | apply below_alloc | apply pw_below_drewN | apply below_drew1 | refine below_set ?_ GE94001.out | refine below_set ?_ GE94002.out) | exact HB.out)) hb); have NB94001_94004 := aQ ((by rw [hg]; exact Nat.ne_of_lt (blk_lt (g := gb94001) (o := .cells #[.int .i64 a0_0, .slice A0_1 l0_1.length c0_1, .slice A0_2 l0_2.length c0_2] 71 (0, 0)) (by (with_reducible repeat (first | refine blk_drewN ?_ _ | refine blk_drew ?_ | refine blk_alloc ?_ _)); exact BK94001.out)) : gb94001 ≠ gb94004)); have NB94004_94001 := aQ ((by rw [hg]; exact Nat.ne_of_gt (blk_lt (g := gb94001) (o := .cells #[.int .i64 a0_0, .slice A0_1 l0_1.length c0_1, .slice A0_2 l0_2.length c0_2] 71 (0, 0)) (by (with_reducible repeat (first | refine blk_drewN ?_ _ | refine blk_drew ?_ | refine blk_alloc ?_ _)); exact BK94001.out)) : gb94004 ≠ gb94001)); replace BK94001 := aQ (blk_below (g := gb94001) (o := .cells #[.int .i64 a0_0, .slice A0_1 l0_1.length c0_1, .slice A0_2 l0_2.length c0_2] 71 (0, 0)) (by (with_reducible repeat (first | refine blk_drewN ?_ _ | refine blk_drew ?_ | refine blk_alloc ?_ _)); exact BK94001.out) hb); have NB94002_94004 := aQ ((by rw [hg]; exact Nat.ne_of_lt (blk_lt (g := gb94002) (o := .cells #[.int .i64 0, .slice none 0 0] 28 (0, 0)) (by (with_reducible repeat (first | refine blk_drewN ?_ _ | refine blk_drew ?_ | refine blk_alloc ?_ _)); exact BK94002.out)) : gb94002 ≠ gb94004)); have NB94004_94002 := aQ ((by rw [hg]; exact Nat.ne_of_gt (blk_lt (g := gb94002) (o := .cells #[.int .i64 0, .slice none 0 0] 28 (0, 0)) (by (with_reducible repeat (first | refine blk_drewN ?_ _ | refine blk_drew ?_ | refine blk_alloc ?_ _)); exact BK94002.out)) : gb94004 ≠ gb94002)); replace BK94002 := aQ (blk_below (g := gb94002) (o := .cells #[.int .i64 0, .slice none 0 0] 28 (0, 0)) (by (with_reducible repeat (first | refine blk_drewN ?_ _ | refine blk_drew ?_ | refine blk_alloc ?_ _)); exact BK94002.out) hb); clear hb hbox hg; have hnb13 := NB94004_94001.out; have hnc13 := NB94001_94004.out; have hnb14 := NB94004_94002.out; have hnc14 := NB94002_94004.out; have hcz15_0 : w12.cell? ⟨gb94004, 0, none⟩ = some (.int .i64 0) := (blk_cell BK94004.out 0).trans rfl; have hcz15_1 : w12.cell? ⟨gb94004, 1, none⟩ = some (.slice none 0 0) := (blk_cell BK94004.out 1).trans rfl; have hfz15_0 := blk_frozen BK94004.out 0; have hfz15_1 := blk_frozen BK94004.out 1))
  have n0_ : Aside0 (((w12.setCell ⟨gb94004, 0, none⟩ (.int .i64 (l0_1.length : Int))).setCell ⟨gb94004, 1, none⟩ (.slice none 0 0)).heap[gb94001]? = some (.cells #[.int .i64 a0_0, .slice A0_1 l0_1.length c0_1, .slice A0_2 l0_2.length c0_2] 71 (0, 0))) := ⟨by (with_reducible repeat (first | refine blk_drewN ?_ _ | refine blk_drew ?_ | refine blk_alloc ?_ _)); refine blk_far ?_ NB94001_94004.out _; (with_reducible repeat (first | refine blk_drewN ?_ _ | refine blk_drew ?_ | refine blk_alloc ?_ _)); refine blk_far ?_ NB94001_94004.out _; (with_reducible repeat (first | refine blk_drewN ?_ _ | refine blk_drew ?_ | refine blk_alloc ?_ _)); exact BK94001.out⟩
  have n1_ : Aside0 (((w12.setCell ⟨gb94004, 0, none⟩ (.int .i64 (l0_1.length : Int))).setCell ⟨gb94004, 1, none⟩ (.slice none 0 0)).heap[gb94002]? = some (.cells #[.int .i64 0, .slice none 0 0] 28 (0, 0))) := ⟨by (with_reducible repeat (first | refine blk_drewN ?_ _ | refine blk_drew ?_ | refine blk_alloc ?_ _)); refine blk_far ?_ NB94002_94004.out _; (with_reducible repeat (first | refine blk_drewN ?_ _ | refine blk_drew ?_ | refine blk_alloc ?_ _)); refine blk_far ?_ NB94002_94004.out _; (with_reducible repeat (first | refine blk_drewN ?_ _ | refine blk_drew ?_ | refine blk_alloc ?_ _)); exact BK94002.out⟩
  have n2_ : Aside0 (((w12.setCell ⟨gb94004, 0, none⟩ (.int .i64 (l0_1.length : Int))).setCell ⟨gb94004, 1, none⟩ (.slice none 0 0)).heap[gb94004]? = some (.cells #[.int .i64 (l0_1.length : Int), .slice none 0 0] 28 (0, 0))) := ⟨by (with_reducible repeat (first | refine blk_drewN ?_ _ | refine blk_drew ?_ | refine blk_alloc ?_ _)); refine blk_put (cs := #[.int .i64 (l0_1.length : Int), .slice none 0 0]) ?_ 1 _ rfl; (with_reducible repeat (first | refine blk_drewN ?_ _ | refine blk_drew ?_ | refine blk_alloc ?_ _)); refine blk_put (cs := #[.int .i64 0, .slice none 0 0]) ?_ 0 _ rfl; (with_reducible repeat (first | refine blk_drewN ?_ _ | refine blk_drew ?_ | refine blk_alloc ?_ _)); exact BK94004.out⟩
  have n3_ : Aside0 (Below w.heap.size w ((w12.setCell ⟨gb94004, 0, none⟩ (.int .i64 (l0_1.length : Int))).setCell ⟨gb94004, 1, none⟩ (.slice none 0 0))) := ⟨by repeat (first | (with_reducible first | exact HB.out | apply below_alloc | apply pw_below_drewN | apply below_drew1 | refine below_set ?_ GE94001.out | refine below_set ?_ GE94002.out | refine below_set ?_ GE94004.out) | exact HB.out)⟩
  (try clear BK94001)
  (try clear BK94002)
  (try clear BK94004)
  (try clear HB)
  generalize ((w12.setCell ⟨gb94004, 0, none⟩ (.int .i64 (l0_1.length : Int))).setCell ⟨gb94004, 1, none⟩ (.slice none 0 0)) = w16 at n0_ n1_ n2_ n3_ ⊢
  have BK94001 := n0_
  have BK94002 := n1_
  have BK94004 := n2_
  have HB := n3_
  clear n0_ n1_ n2_ n3_
  have n0_ := aQ (blk_drew BK94001.out)
  have n1_ := aQ (blk_drew BK94002.out)
  have n2_ := aQ (blk_drew BK94004.out)
  have n3_ := aQ (below_drew1 HB.out)
  clear BK94001
  clear BK94002
  clear BK94004
  clear HB
  have BK94001 := n0_
  have BK94002 := n1_
  have BK94004 := n2_
  have HB := n3_
  clear n0_ n1_ n2_ n3_
  refine start_ (n := 9) (S := fun w' => w'.cell? ⟨gb94001, 0, none⟩ = some (.int .i64 a0_0) ∧ w'.cell? ⟨gb94001, 1, none⟩ = some (.slice A0_1 l0_1.length c0_1) ∧ w'.cell? ⟨gb94001, 2, none⟩ = some (.slice A0_2 l0_2.length c0_2) ∧ w'.cell? ⟨gb94004, 0, none⟩ = some (.int .i64 (l0_1.length : Int)) ∧ w'.cell? ⟨gb94004, 1, none⟩ = some (.slice none 0 0)) (ds := []) #[false, false, false, false, false, false, false, false, false] (by kernel_rfl) rfl rfl ⟨(blk_cell BK94001.out 0).trans rfl, (blk_cell BK94001.out 1).trans rfl, (blk_cell BK94001.out 2).trans rfl, (blk_cell BK94004.out 0).trans rfl, (blk_cell BK94004.out 1).trans rfl⟩ (fun hHeld => ?_); refine with_tabW spec_FromGraph.tab4 spec_FromGraph.bits4 (fun HT_ HW_ => ?_)
  generalize w16.drew = w17 at BK94001 BK94002 BK94004 HB hHeld ⊢
  refine pure_ (i := 0) (N := some 14) (v := ?_) (a' := ?_) #[true, false, false, false, false, false, false, false, false] rfl rfl (any_of HT_.out (by kernel_rfl)) (fun _ _ _ h => h) (Or.inl ⟨by rfl, ?_⟩) ?_ ?_
  rotate_left
  ·intro w'
   go_simp
   with_reducible rfl
  rotate_left
  ·simp only [Act.put, List.setIfInBounds_toArray, List.set_cons_zero, List.set_cons_succ, i64_w, i32_w]
   rfl
  refine pure_ (i := 3) (N := some 17) (v := ?_) (a' := ?_) #[true, false, false, true, false, false, false, false, false] rfl rfl (any_of HT_.out (by kernel_rfl)) (fun _ _ _ h => h) (Or.inl ⟨by rfl, ?_⟩) ?_ ?_
  rotate_left
  ·intro w'
   go_simp
   with_reducible rfl
  rotate_left
  ·simp only [Act.put, List.setIfInBounds_toArray, List.set_cons_zero, List.set_cons_succ, i64_w, i32_w]
   rfl
  refine take_ (i := 1) (N := some 15) (v := ?_) (a' := ?_) #[true, true, false, true, false, false, false, false, false] rfl rfl (take_ofW HT_.out HW_.out (by kernel_rfl)) (fun _ _ _ h => h) (Or.inl ⟨by rfl, ?_⟩) hHeld ?_ ?_
  rotate_left
  ·rintro w' ⟨s0, s1, s2, s3, s4⟩
   go_simp
   with_reducible rfl
  rotate_left
  ·simp only [Act.put, List.setIfInBounds_toArray, List.set_cons_zero, List.set_cons_succ, i64_w, i32_w]
   rfl
  refine take_ (i := 2) (N := some 16) (v := ?_) (a' := ?_) #[true, true, true, true, false, false, false, false, false] rfl rfl (take_ofW HT_.out HW_.out (by kernel_rfl)) (fun _ _ _ h => h) (Or.inl ⟨by rfl, ?_⟩) hHeld ?_ ?_
  rotate_left
  ·rintro w' ⟨s0, s1, s2, s3, s4⟩
   go_simp
   with_reducible rfl
  rotate_left
  ·simp only [Act.put, List.setIfInBounds_toArray, List.set_cons_zero, List.set_cons_succ, i64_w, i32_w]
   rfl
  refine take_ (i := 4) (N := some 18) (v := ?_) (a' := ?_) #[true, true, true, true, true, false, false, false, false] rfl rfl (take_ofW HT_.out HW_.out (by kernel_rfl)) (fun _ _ _ h => h) (Or.inl ⟨by rfl, ?_⟩) hHeld ?_ ?_
  rotate_left
  ·rintro w' ⟨s0, s1, s2, s3, s4⟩
   go_simp
   with_reducible rfl
  rotate_left
  ·simp only [Act.put, List.setIfInBounds_toArray, List.set_cons_zero, List.set_cons_succ, i64_w, i32_w]
   rfl
  refine one_ (i := 5) (N := some 19) #[true, true, true, true, true, true, false, false, false] rfl rfl (one_of HT_.out (by kernel_rfl)) (by decide) (fun K hK => ?_)
  refine goes_ Try.func115 (by kernel_rfl) rfl #[.int .i64 (l0_1.length : Int)] (by rfl) rfl rfl (by (try simp only [List.map_toArray, List.map_cons, List.map_nil]); first | done | rfl | (simp only [List.length_drop, List.length_take]; rfl)) ?_
  with_reducible refine (spec_FullSet.calls (l0_1.length : Int) t94005 _ A4.out).mono ?_
  rintro e w' ⟨rfl, ⟨nd, rfl⟩⟩
  refine ⟨_, rfl, ?_⟩
  refine hK.out _ _ ⟨(blk_cell BK94001.out 0).trans rfl, (blk_cell BK94001.out 1).trans rfl, (blk_cell BK94001.out 2).trans rfl, (blk_cell BK94004.out 0).trans rfl, (blk_cell BK94004.out 1).trans rfl⟩ (fun hHeld => ?_)
  clear hK K
  refine norm_ (a' := ?_) ?_ ?_
  rotate_left
  ·show Act.put _ (some 19) _ = _
   simp only [Act.put, List.setIfInBounds_toArray, List.set_cons_zero, List.set_cons_succ, i64_w, i32_w]
   rfl
  refine one_ (i := 6) (N := some 20) #[true, true, true, true, true, true, true, false, false] rfl rfl (one_of HT_.out (by kernel_rfl)) (by decide) (fun K hK => ?_)
  refine goes_ Try.func202 (by kernel_rfl) rfl #[.agg #[.int .i64 a0_0, .slice A0_1 l0_1.length c0_1, .slice A0_2 l0_2.length c0_2], .int .i64 t94005] (by rfl) rfl rfl (by (try simp only [List.map_toArray, List.map_cons, List.map_nil]); first | done | rfl | (simp only [List.length_drop, List.length_take]; rfl)) ?_
  with_reducible refine (spec_l14Pieces.calls k a0_0 _ _ l0_1 _ _ l0_2 t94005 t94006 _ ?side1 ?side2 ?side3 ?side4 A5.out).mono ?_
  (case side1 => repeat (first | exact (Kd.C_below HR0_1.out (by repeat (first | (with_reducible first | exact HB.out | apply below_alloc | apply pw_below_drewN | apply below_drew1 | refine below_set ?_ GE94001.out | refine below_set ?_ GE94002.out | refine below_set ?_ GE94004.out) | exact HB.out))) | (with_reducible refine Kd.C_alloc ?_ _) | (with_reducible refine Kd.C_drewN ?_ _) | (with_reducible refine Kd.C_drew ?_)))
  (case side2 => exact HC0_1.out)
  (case side3 => repeat (first | exact (Kd.C_below HR0_2.out (by repeat (first | (with_reducible first | exact HB.out | apply below_alloc | apply pw_below_drewN | apply below_drew1 | refine below_set ?_ GE94001.out | refine below_set ?_ GE94002.out | refine below_set ?_ GE94004.out) | exact HB.out))) | (with_reducible refine Kd.C_alloc ?_ _) | (with_reducible refine Kd.C_drewN ?_ _) | (with_reducible refine Kd.C_drew ?_)))
  (case side4 => exact HC0_2.out)
  rintro e w18 ⟨rfl, hb⟩
  refine ⟨_, rfl, ?_⟩
  have n0_ := aQ (blk_below (g := gb94001) (o := .cells #[.int .i64 a0_0, .slice A0_1 l0_1.length c0_1, .slice A0_2 l0_2.length c0_2] 71 (0, 0)) (by (with_reducible repeat (first | refine blk_drewN ?_ _ | refine blk_drew ?_ | refine blk_alloc ?_ _)); exact BK94001.out) hb)
  have n1_ := aQ (blk_below (g := gb94002) (o := .cells #[.int .i64 0, .slice none 0 0] 28 (0, 0)) (by (with_reducible repeat (first | refine blk_drewN ?_ _ | refine blk_drew ?_ | refine blk_alloc ?_ _)); exact BK94002.out) hb)
  have n2_ := aQ (blk_below (g := gb94004) (o := .cells #[.int .i64 (l0_1.length : Int), .slice none 0 0] 28 (0, 0)) (by (with_reducible repeat (first | refine blk_drewN ?_ _ | refine blk_drew ?_ | refine blk_alloc ?_ _)); exact BK94004.out) hb)
  have n3_ := aQ (below_step (by repeat (first | (with_reducible first | exact HB.out | apply below_alloc | apply pw_below_drewN | apply below_drew1 | refine below_set ?_ GE94001.out | refine below_set ?_ GE94002.out | refine below_set ?_ GE94004.out) | exact HB.out)) hb)
  clear BK94001
  clear BK94002
  clear BK94004
  clear HB
  have BK94001 := n0_
  have BK94002 := n1_
  have BK94004 := n2_
  have HB := n3_
  clear n0_ n1_ n2_ n3_
  (try clear hb)
  (try clear hb2)
  (try clear hk)
  (try clear hi)
  refine hK.out _ _ ⟨(blk_cell BK94001.out 0).trans rfl, (blk_cell BK94001.out 1).trans rfl, (blk_cell BK94001.out 2).trans rfl, (blk_cell BK94004.out 0).trans rfl, (blk_cell BK94004.out 1).trans rfl⟩ (fun hHeld => ?_)
  clear hK K
  refine norm_ (a' := ?_) ?_ ?_
  rotate_left
  ·show Act.put _ (some 20) _ = _
   simp only [Act.put, List.setIfInBounds_toArray, List.set_cons_zero, List.set_cons_succ, i64_w, i32_w]
   rfl
  refine pure_ (i := 7) (N := some 21) (v := ?_) (a' := ?_) #[true, true, true, true, true, true, true, true, false] rfl rfl (any_of HT_.out (by kernel_rfl)) (fun _ _ _ h => h) (Or.inl ⟨by rfl, ?_⟩) ?_ ?_
  rotate_left
  ·intro w'
   go_simp
   with_reducible rfl
  rotate_left
  ·simp only [Act.put, List.setIfInBounds_toArray, List.set_cons_zero, List.set_cons_succ, i64_w, i32_w]
   rfl
  refine pure_ (i := 8) (N := some 4) (v := ?_) (a' := ?_) #[true, true, true, true, true, true, true, true, true] rfl rfl (any_of HT_.out (by kernel_rfl)) (fun _ _ _ h => h) (Or.inl ⟨by rfl, ?_⟩) ?_ ?_
  rotate_left
  ·intro w'
   go_simp
   with_reducible rfl
  rotate_left
  ·simp only [Act.put, List.setIfInBounds_toArray, List.set_cons_zero, List.set_cons_succ, i64_w, i32_w]
   rfl
  refine done_ (done_of HT_.out (by kernel_rfl)) ?_
  try go_wp2
  go_loopg [5] k (fun kq v5 w' => ∃ (x5_1 : Int) (x94005001_1 : List Int) (u94005001 : Value), v5 = .int .i64 x5_1 ∧ Aside0 (spec_FromGraph.l0 kq (wrap64 (a0_0 - t94006)) x5_1 a0_0 l0_1 l0_2 (l0_1.length : Int) x94005001_1 = some (r1, r2)) ∧ Aside0 (kq ≤ k) ∧ Aside0 (Kd.R (Kd.int .i64) 3 w' w.heap.size (fun _ => True) u94005001 x94005001_1) ∧ Aside0 (w'.heap[gb94001]? = some (.cells #[.int .i64 a0_0, (.slice A0_1 l0_1.length c0_1), (.slice A0_2 l0_2.length c0_2)] 71 (0, 0))) ∧ Aside0 (w'.heap[gb94002]? = some (.cells #[.int .i64 0, (.slice none 0 0)] 28 (0, 0))) ∧ Aside0 (w'.heap[gb94004]? = some (.cells #[.int .i64 (l0_1.length : Int), u94005001] 28 (0, 0))) ∧ Aside0 (Below w.heap.size w w'))
  case atStart => exact ⟨(0), (([] : List Int)), (.slice none 0 0), (by first | rfl | (simp; done) | (simp [*]; done)), H', ⟨Nat.le_refl _⟩, ⟨by first | exact Kd.R_nil _ _ _ _ _ | exact Kd.N_nil _ _ _ _ _ | exact Kd.V_nil _ _ _ _ _ | exact Kd.Q_nil _ _ _ _ _ | exact Kd.S_nil _ _ _ _ _⟩, ⟨by (with_reducible repeat (first | refine blk_drewN ?_ _ | refine blk_drew ?_ | refine blk_alloc ?_ _)); exact BK94001.out⟩, ⟨by (with_reducible repeat (first | refine blk_drewN ?_ _ | refine blk_drew ?_ | refine blk_alloc ?_ _)); exact BK94002.out⟩, ⟨by (with_reducible repeat (first | refine blk_drewN ?_ _ | refine blk_drew ?_ | refine blk_alloc ?_ _)); exact BK94004.out⟩, ⟨by repeat (first | (with_reducible first | exact HB.out | apply below_alloc | apply pw_below_drewN | apply below_drew1 | refine below_set ?_ GE94001.out | refine below_set ?_ GE94002.out | refine below_set ?_ GE94004.out) | exact HB.out)⟩⟩
  case round =>
   clear H'
   try clear c1
   try clear c2
   try clear p2
   try clear c3
   try clear p6
   try clear c8
   try clear c9
   try clear c11
   try clear c13
   try clear c14
   try clear hcz11_0
   try clear hcz11_1
   try clear hcz11_2
   try clear hcz15_0
   try clear hcz15_1
   try clear hcz9_0
   try clear hcz9_1
   try clear hcz9_2
   try clear hfz11_0
   try clear hfz11_1
   try clear hfz11_2
   try clear hfz15_0
   try clear hfz15_1
   try clear hfz9_0
   try clear hfz9_1
   try clear hfz9_2
   obtain ⟨x5_1, x94005001_1, u94005001, rfl, HA, HK1, HO_94005001, BK94001, BK94002, BK94004, HB⟩ := hrel
   cases gk with
   | zero => exact absurd HA.out (by simp [spec_FromGraph.l0])
   | succ k1 =>
    have H := HA.out
    clear HA
    simp only [spec_FromGraph.l0] at H
    replace H := Option.bind_eq_some_iff.mp H
    obtain ⟨t94007, A190, H⟩ := H
    replace H : (if x5_1 ≤ t94007 then ((spec_CountOf.f k1 x5_1).bind fun t94008 => (if t94008 = (wrap64 (a0_0 - t94006)) then ((spec_l14Pieces.f k1 a0_0 l0_1 l0_2 x5_1).bind fun t94009 => (if (wrap64 (a0_0 - t94009)) = (wrap64 (a0_0 - t94006)) then (if x94005001_1.length < 17592186044416 then (spec_FromGraph.l0 k1 (wrap64 (a0_0 - t94006)) (wrap64 (x5_1 + 1)) a0_0 l0_1 l0_2 (l0_1.length : Int) (x94005001_1 ++ [x5_1])) else (none)) else (spec_FromGraph.l0 k1 (wrap64 (a0_0 - t94006)) (wrap64 (x5_1 + 1)) a0_0 l0_1 l0_2 (l0_1.length : Int) x94005001_1))) else (spec_FromGraph.l0 k1 (wrap64 (a0_0 - t94006)) (wrap64 (x5_1 + 1)) a0_0 l0_1 l0_2 (l0_1.length : Int) x94005001_1))) else (some ((l0_1.length : Int), x94005001_1))) = some (r1, r2) := H
    have A19 := aQ A190
    clear A190
    by_cases c20 : x5_1 ≤ t94007
    ·rw [if_pos c20] at H
     have c20b0 : decide (x5_1 ≤ t94007) = true := decide_eq_true c20
     clear c20
     replace H := Option.bind_eq_some_iff.mp H
     obtain ⟨t94008, A210, H⟩ := H
     replace H : (if t94008 = (wrap64 (a0_0 - t94006)) then ((spec_l14Pieces.f k1 a0_0 l0_1 l0_2 x5_1).bind fun t94009 => (if (wrap64 (a0_0 - t94009)) = (wrap64 (a0_0 - t94006)) then (if x94005001_1.length < 17592186044416 then (spec_FromGraph.l0 k1 (wrap64 (a0_0 - t94006)) (wrap64 (x5_1 + 1)) a0_0 l0_1 l0_2 (l0_1.length : Int) (x94005001_1 ++ [x5_1])) else (none)) else (spec_FromGraph.l0 k1 (wrap64 (a0_0 - t94006)) (wrap64 (x5_1 + 1)) a0_0 l0_1 l0_2 (l0_1.length : Int) x94005001_1))) else (spec_FromGraph.l0 k1 (wrap64 (a0_0 - t94006)) (wrap64 (x5_1 + 1)) a0_0 l0_1 l0_2 (l0_1.length : Int) x94005001_1)) = some (r1, r2) := H
     have A21 := aQ A210
     clear A210
     by_cases c22 : t94008 = (wrap64 (a0_0 - t94006))
     ·rw [if_pos c22] at H
      have c22b0 : (t94008 == (wrap64 (a0_0 - t94006))) = true := beq_iff_eq.mpr c22
      have c22b1 : (t94008 != (wrap64 (a0_0 - t94006))) = false := bne_eq_false_iff_eq.mpr c22
      clear c22
      replace H := Option.bind_eq_some_iff.mp H
      obtain ⟨t94009, A230, H⟩ := H
      replace H : (if (wrap64 (a0_0 - t94009)) = (wrap64 (a0_0 - t94006)) then (if x94005001_1.length < 17592186044416 then (spec_FromGraph.l0 k1 (wrap64 (a0_0 - t94006)) (wrap64 (x5_1 + 1)) a0_0 l0_1 l0_2 (l0_1.length : Int) (x94005001_1 ++ [x5_1])) else (none)) else (spec_FromGraph.l0 k1 (wrap64 (a0_0 - t94006)) (wrap64 (x5_1 + 1)) a0_0 l0_1 l0_2 (l0_1.length : Int) x94005001_1)) = some (r1, r2) := H
      have A23 := aQ A230
      clear A230
      by_cases c24 : (wrap64 (a0_0 - t94009)) = (wrap64 (a0_0 - t94006))
      ·rw [if_pos c24] at H
       have c24b0 : ((wrap64 (a0_0 - t94009)) == (wrap64 (a0_0 - t94006))) = true := beq_iff_eq.mpr c24
       have c24b1 : ((wrap64 (a0_0 - t94009)) != (wrap64 (a0_0 - t94006))) = false := bne_eq_false_iff_eq.mpr c24
       clear c24
       by_cases c25 : x94005001_1.length < 17592186044416
       ·rw [if_pos c25] at H
        have LMc25 := aQ c25
        clear c25
        obtain ⟨y94010, hy94010⟩ : ∃ y_ : List Int, y_ = (x94005001_1 ++ [x5_1]) := ⟨_, rfl⟩
        replace H : (spec_FromGraph.l0 k1 (wrap64 (a0_0 - t94006)) (wrap64 (x5_1 + 1)) a0_0 l0_1 l0_2 (l0_1.length : Int) y94010) = some (r1, r2) := by first | (rw [hy94010]; with_reducible exact H) | (have H2_ := (Option.bind_some _ _).symm.trans H; rw [hy94010]; with_reducible exact H2_) | (have H2_ := (Option.bind_some _ _).symm.trans H; with_reducible exact H2_) | with_reducible exact H | (rw [hy94010]; exact H) | exact H
        have Ny94010 := aQ hy94010
        clear hy94010
        have H' := aQ H
        clear H
        have hnb26 := NB94004_94001.out
        have hnc26 := NB94001_94004.out
        have hnb27 := NB94004_94002.out
        have hnc27 := NB94002_94004.out
        have hcz28_0 : wr.cell? ⟨gb94004, 0, none⟩ = some (.int .i64 (l0_1.length : Int)) := (blk_cell BK94004.out 0).trans rfl
        have hcz28_1 : wr.cell? ⟨gb94004, 1, none⟩ = some (u94005001) := (blk_cell BK94004.out 1).trans rfl
        have hfz28_0 := blk_frozen BK94004.out 0
        have hfz28_1 := blk_frozen BK94004.out 1
        try go_wp2_with (first | ((with_reducible refine gate_callee (f := 115) rfl ?_); refine goesL_ (some 25) rfl rfl Try.func115 (by kernel_rfl) rfl #[.int .i64 (l0_1.length : Int)] rfl (by (try simp only [List.map_toArray, List.map_cons, List.map_nil]); first | done | rfl | (simp only [List.length_drop, List.length_take]; rfl)) ?_; (with_reducible refine (spec_FullSet.calls (l0_1.length : Int) t94007 _ A19.out).mono ?_); rintro e w' ⟨rfl, ⟨nd, rfl⟩⟩; refine ⟨_, rfl, ?_⟩; (try (rw [drewN_self wr]; generalize hq_ : World.drewN wr _ = wr; have n0_ : Aside0 (Kd.R (Kd.int .i64) 3 wr w.heap.size (fun _ => True) u94005001 x94005001_1) := ⟨by rw [← hq_]; exact (by (with_reducible repeat (first | apply Kd.R_alloc | apply Kd.R_drewN | apply Kd.R_drew)); exact HO_94005001.out)⟩; have n1_ : Aside0 (wr.heap[gb94001]? = some (.cells #[.int .i64 a0_0, .slice A0_1 l0_1.length c0_1, .slice A0_2 l0_2.length c0_2] 71 (0, 0))) := ⟨by rw [← hq_]; exact (by (with_reducible repeat (first | refine blk_drewN ?_ _ | refine blk_drew ?_ | refine blk_alloc ?_ _)); exact BK94001.out)⟩; have n2_ : Aside0 (wr.heap[gb94002]? = some (.cells #[.int .i64 0, .slice none 0 0] 28 (0, 0))) := ⟨by rw [← hq_]; exact (by (with_reducible repeat (first | refine blk_drewN ?_ _ | refine blk_drew ?_ | refine blk_alloc ?_ _)); exact BK94002.out)⟩; have n3_ : Aside0 (wr.heap[gb94004]? = some (.cells #[.int .i64 (l0_1.length : Int), u94005001] 28 (0, 0))) := ⟨by rw [← hq_]; exact (by (with_reducible repeat (first | refine blk_drewN ?_ _ | refine blk_drew ?_ | refine blk_alloc ?_ _)); exact BK94004.out)⟩; have n4_ : Aside0 (Below w.heap.size w wr) := ⟨by rw [← hq_]; exact (by repeat (first | (with_reducible first | exact HB.out | apply below_alloc | apply pw_below_drewN | apply below_drew1 | refine below_set ?_ GE94001.out | refine below_set ?_ GE94002.out | refine below_set ?_ GE94004.out) | exact HB.out))⟩; clear HO_94005001 BK94001 BK94002 BK94004 HB hq_; have HO_94005001 := n0_; have BK94001 := n1_; have BK94002 := n2_; have BK94004 := n3_; have HB := n4_; clear n0_ n1_ n2_ n3_ n4_; have hcqgb94001_0 : wr.cell? ⟨gb94001, 0, none⟩ = some (.int .i64 a0_0) := (blk_cell BK94001.out 0).trans rfl; have hfqgb94001_0 := blk_frozen BK94001.out 0; have hcqgb94001_1 : wr.cell? ⟨gb94001, 1, none⟩ = some (.slice A0_1 l0_1.length c0_1) := (blk_cell BK94001.out 1).trans rfl; have hfqgb94001_1 := blk_frozen BK94001.out 1; have hcqgb94001_2 : wr.cell? ⟨gb94001, 2, none⟩ = some (.slice A0_2 l0_2.length c0_2) := (blk_cell BK94001.out 2).trans rfl; have hfqgb94001_2 := blk_frozen BK94001.out 2; have hcqgb94002_0 : wr.cell? ⟨gb94002, 0, none⟩ = some (.int .i64 0) := (blk_cell BK94002.out 0).trans rfl; have hfqgb94002_0 := blk_frozen BK94002.out 0; have hcqgb94002_1 : wr.cell? ⟨gb94002, 1, none⟩ = some (.slice none 0 0) := (blk_cell BK94002.out 1).trans rfl; have hfqgb94002_1 := blk_frozen BK94002.out 1; have hcqgb94004_0 : wr.cell? ⟨gb94004, 0, none⟩ = some (.int .i64 (l0_1.length : Int)) := (blk_cell BK94004.out 0).trans rfl; have hfqgb94004_0 := blk_frozen BK94004.out 0; have hcqgb94004_1 : wr.cell? ⟨gb94004, 1, none⟩ = some (u94005001) := (blk_cell BK94004.out 1).trans rfl; have hfqgb94004_1 := blk_frozen BK94004.out 1))))
        have n0_ := aQ (Kd.R_drew HO_94005001.out)
        have n1_ := aQ (blk_drew BK94001.out)
        have n2_ := aQ (blk_drew BK94002.out)
        have n3_ := aQ (blk_drew BK94004.out)
        have n4_ := aQ (below_drew1 HB.out)
        clear HO_94005001
        clear BK94001
        clear BK94002
        clear BK94004
        clear HB
        have HO_94005001 := n0_
        have BK94001 := n1_
        have BK94002 := n2_
        have BK94004 := n3_
        have HB := n4_
        clear n0_ n1_ n2_ n3_ n4_
        refine start_ (n := 14) (S := fun w' => w'.cell? ⟨gb94001, 0, none⟩ = some (.int .i64 a0_0) ∧ w'.cell? ⟨gb94001, 1, none⟩ = some (.slice A0_1 l0_1.length c0_1) ∧ w'.cell? ⟨gb94001, 2, none⟩ = some (.slice A0_2 l0_2.length c0_2)) (ds := []) #[false, false, false, false, false, false, false, false, false, false, false, false, false, false] (by kernel_rfl) rfl rfl ⟨(blk_cell BK94001.out 0).trans rfl, (blk_cell BK94001.out 1).trans rfl, (blk_cell BK94001.out 2).trans rfl⟩ (fun hHeld => ?_); refine with_tabW spec_FromGraph.tab8 spec_FromGraph.bits8 (fun HT_ HW_ => ?_)
        generalize wr.drew = w29 at HO_94005001 BK94001 BK94002 BK94004 HB hHeld ⊢
        refine pure_ (i := 0) (N := some 29) (v := ?_) (a' := ?_) #[true, false, false, false, false, false, false, false, false, false, false, false, false, false] rfl rfl (any_of HT_.out (by kernel_rfl)) (fun _ _ _ h => h) (Or.inl ⟨by rfl, ?_⟩) ?_ ?_
        rotate_left
        ·intro w'
         go_simp
         with_reducible rfl
        rotate_left
        ·simp only [Act.put, List.setIfInBounds_toArray, List.set_cons_zero, List.set_cons_succ, i64_w, i32_w]
         rfl
        refine pure_ (i := 2) (N := some 31) (v := ?_) (a' := ?_) #[true, false, true, false, false, false, false, false, false, false, false, false, false, false] rfl rfl (any_of HT_.out (by kernel_rfl)) (fun _ _ _ h => h) (Or.inl ⟨by rfl, ?_⟩) ?_ ?_
        rotate_left
        ·intro w'
         go_simp
         with_reducible rfl
        rotate_left
        ·simp only [Act.put, List.setIfInBounds_toArray, List.set_cons_zero, List.set_cons_succ, i64_w, i32_w]
         rfl
        refine one_ (i := 1) (N := some 30) #[true, true, true, false, false, false, false, false, false, false, false, false, false, false] rfl rfl (one_of HT_.out (by kernel_rfl)) (by decide) (fun K hK => ?_)
        refine goes_ Try.func116 (by kernel_rfl) rfl #[.int .i64 x5_1] (by rfl) rfl rfl (by (try simp only [List.map_toArray, List.map_cons, List.map_nil]); first | done | rfl | (simp only [List.length_drop, List.length_take]; rfl)) ?_
        with_reducible refine (spec_CountOf.calls k1 x5_1 t94008 _ A21.out).mono ?_
        rintro e w' ⟨rfl, ⟨nd, rfl⟩⟩
        refine ⟨_, rfl, ?_⟩
        refine hK.out _ _ ⟨(blk_cell BK94001.out 0).trans rfl, (blk_cell BK94001.out 1).trans rfl, (blk_cell BK94001.out 2).trans rfl⟩ (fun hHeld => ?_)
        clear hK K
        refine norm_ (a' := ?_) ?_ ?_
        rotate_left
        ·show Act.put _ (some 30) _ = _
         simp only [Act.put, List.setIfInBounds_toArray, List.set_cons_zero, List.set_cons_succ, i64_w, i32_w]
         rfl
        refine pure_ (i := 3) (N := some 32) (v := ?_) (a' := ?_) #[true, true, true, true, false, false, false, false, false, false, false, false, false, false] rfl rfl (any_of HT_.out (by kernel_rfl)) (fun _ _ _ h => h) (Or.inl ⟨by rfl, ?_⟩) ?_ ?_
        rotate_left
        ·intro w'
         go_simp
         with_reducible rfl
        rotate_left
        ·simp only [Act.put, List.setIfInBounds_toArray, List.set_cons_zero, List.set_cons_succ, i64_w, i32_w]
         rfl
        refine pure_ (i := 4) (N := some 33) (v := ?_) (a' := ?_) #[true, true, true, true, true, false, false, false, false, false, false, false, false, false] rfl rfl (any_of HT_.out (by kernel_rfl)) (fun _ _ _ h => h) (Or.inl ⟨by rfl, ?_⟩) ?_ ?_
        rotate_left
        ·intro w'
         go_simp
         with_reducible rfl
        rotate_left
        ·simp only [Act.put, List.setIfInBounds_toArray, List.set_cons_zero, List.set_cons_succ, i64_w, i32_w]
         rfl
        refine pure_ (i := 5) (N := some 34) (v := ?_) (a' := ?_) #[true, true, true, true, true, true, false, false, false, false, false, false, false, false] rfl rfl (any_of HT_.out (by kernel_rfl)) (fun _ _ _ h => h) (Or.inl ⟨by rfl, ?_⟩) ?_ ?_
        rotate_left
        ·intro w'
         go_simp
         with_reducible rfl
        rotate_left
        ·simp only [Act.put, List.setIfInBounds_toArray, List.set_cons_zero, List.set_cons_succ, i64_w, i32_w]
         rfl
        refine pure_ (i := 8) (N := some 37) (v := ?_) (a' := ?_) #[true, true, true, true, true, true, false, false, true, false, false, false, false, false] rfl rfl (any_of HT_.out (by kernel_rfl)) (fun _ _ _ h => h) (Or.inl ⟨by rfl, ?_⟩) ?_ ?_
        rotate_left
        ·intro w'
         go_simp
         with_reducible rfl
        rotate_left
        ·simp only [Act.put, List.setIfInBounds_toArray, List.set_cons_zero, List.set_cons_succ, i64_w, i32_w]
         rfl
        refine pure_ (i := 11) (N := some 40) (v := ?_) (a' := ?_) #[true, true, true, true, true, true, false, false, true, false, false, true, false, false] rfl rfl (any_of HT_.out (by kernel_rfl)) (fun _ _ _ h => h) (Or.inl ⟨by rfl, ?_⟩) ?_ ?_
        rotate_left
        ·intro w'
         go_simp
         with_reducible rfl
        rotate_left
        ·simp only [Act.put, List.setIfInBounds_toArray, List.set_cons_zero, List.set_cons_succ, i64_w, i32_w]
         rfl
        refine take_ (i := 6) (N := some 35) (v := ?_) (a' := ?_) #[true, true, true, true, true, true, true, false, true, false, false, true, false, false] rfl rfl (take_ofW HT_.out HW_.out (by kernel_rfl)) (fun _ _ _ h => h) (Or.inl ⟨by rfl, ?_⟩) hHeld ?_ ?_
        rotate_left
        ·rintro w' ⟨s0, s1, s2⟩
         go_simp
         with_reducible rfl
        rotate_left
        ·simp only [Act.put, List.setIfInBounds_toArray, List.set_cons_zero, List.set_cons_succ, i64_w, i32_w]
         rfl
        refine take_ (i := 7) (N := some 36) (v := ?_) (a' := ?_) #[true, true, true, true, true, true, true, true, true, false, false, true, false, false] rfl rfl (take_ofW HT_.out HW_.out (by kernel_rfl)) (fun _ _ _ h => h) (Or.inl ⟨by rfl, ?_⟩) hHeld ?_ ?_
        rotate_left
        ·rintro w' ⟨s0, s1, s2⟩
         go_simp
         with_reducible rfl
        rotate_left
        ·simp only [Act.put, List.setIfInBounds_toArray, List.set_cons_zero, List.set_cons_succ, i64_w, i32_w]
         rfl
        refine one_ (i := 9) (N := some 38) #[true, true, true, true, true, true, true, true, true, true, false, true, false, false] rfl rfl (one_of HT_.out (by kernel_rfl)) (by decide) (fun K hK => ?_)
        refine goes_ Try.func202 (by kernel_rfl) rfl #[.agg #[.int .i64 a0_0, .slice A0_1 l0_1.length c0_1, .slice A0_2 l0_2.length c0_2], .int .i64 x5_1] (by rfl) rfl rfl (by (try simp only [List.map_toArray, List.map_cons, List.map_nil]); first | done | rfl | (simp only [List.length_drop, List.length_take]; rfl)) ?_
        with_reducible refine (spec_l14Pieces.calls k1 a0_0 _ _ l0_1 _ _ l0_2 x5_1 t94009 _ ?side1 ?side2 ?side3 ?side4 A23.out).mono ?_
        (case side1 => repeat (first | exact (Kd.C_below HR0_1.out (by repeat (first | (with_reducible first | exact HB.out | apply below_alloc | apply pw_below_drewN | apply below_drew1 | refine below_set ?_ GE94001.out | refine below_set ?_ GE94002.out | refine below_set ?_ GE94004.out) | exact HB.out))) | (with_reducible refine Kd.C_alloc ?_ _) | (with_reducible refine Kd.C_drewN ?_ _) | (with_reducible refine Kd.C_drew ?_)))
        (case side2 => exact HC0_1.out)
        (case side3 => repeat (first | exact (Kd.C_below HR0_2.out (by repeat (first | (with_reducible first | exact HB.out | apply below_alloc | apply pw_below_drewN | apply below_drew1 | refine below_set ?_ GE94001.out | refine below_set ?_ GE94002.out | refine below_set ?_ GE94004.out) | exact HB.out))) | (with_reducible refine Kd.C_alloc ?_ _) | (with_reducible refine Kd.C_drewN ?_ _) | (with_reducible refine Kd.C_drew ?_)))
        (case side4 => exact HC0_2.out)
        rintro e w30 ⟨rfl, hb⟩
        refine ⟨_, rfl, ?_⟩
        have n0_ := aQ (Kd.R_below (by (with_reducible repeat (first | apply Kd.R_alloc | apply Kd.R_drewN | apply Kd.R_drew)); exact HO_94005001.out) hb)
        have n1_ := aQ (blk_below (g := gb94001) (o := .cells #[.int .i64 a0_0, .slice A0_1 l0_1.length c0_1, .slice A0_2 l0_2.length c0_2] 71 (0, 0)) (by (with_reducible repeat (first | refine blk_drewN ?_ _ | refine blk_drew ?_ | refine blk_alloc ?_ _)); exact BK94001.out) hb)
        have n2_ := aQ (blk_below (g := gb94002) (o := .cells #[.int .i64 0, .slice none 0 0] 28 (0, 0)) (by (with_reducible repeat (first | refine blk_drewN ?_ _ | refine blk_drew ?_ | refine blk_alloc ?_ _)); exact BK94002.out) hb)
        have n3_ := aQ (blk_below (g := gb94004) (o := .cells #[.int .i64 (l0_1.length : Int), u94005001] 28 (0, 0)) (by (with_reducible repeat (first | refine blk_drewN ?_ _ | refine blk_drew ?_ | refine blk_alloc ?_ _)); exact BK94004.out) hb)
        have n4_ := aQ (below_step (by repeat (first | (with_reducible first | exact HB.out | apply below_alloc | apply pw_below_drewN | apply below_drew1 | refine below_set ?_ GE94001.out | refine below_set ?_ GE94002.out | refine below_set ?_ GE94004.out) | exact HB.out)) hb)
        clear HO_94005001
        clear BK94001
        clear BK94002
        clear BK94004
        clear HB
        have HO_94005001 := n0_
        have BK94001 := n1_
        have BK94002 := n2_
        have BK94004 := n3_
        have HB := n4_
        clear n0_ n1_ n2_ n3_ n4_
        (try clear hb)
        (try clear hb2)
        (try clear hk)
        (try clear hi)
        refine hK.out _ _ ⟨(blk_cell BK94001.out 0).trans rfl, (blk_cell BK94001.out 1).trans rfl, (blk_cell BK94001.out 2).trans rfl⟩ (fun hHeld => ?_)
        clear hK K
        refine norm_ (a' := ?_) ?_ ?_
        rotate_left
        ·show Act.put _ (some 38) _ = _
         simp only [Act.put, List.setIfInBounds_toArray, List.set_cons_zero, List.set_cons_succ, i64_w, i32_w]
         rfl
        refine pure_ (i := 10) (N := some 39) (v := ?_) (a' := ?_) #[true, true, true, true, true, true, true, true, true, true, true, true, false, false] rfl rfl (any_of HT_.out (by kernel_rfl)) (fun _ _ _ h => h) (Or.inl ⟨by rfl, ?_⟩) ?_ ?_
        rotate_left
        ·intro w'
         go_simp
         with_reducible rfl
        rotate_left
        ·simp only [Act.put, List.setIfInBounds_toArray, List.set_cons_zero, List.set_cons_succ, i64_w, i32_w]
         rfl
        refine pure_ (i := 12) (N := some 41) (v := ?_) (a' := ?_) #[true, true, true, true, true, true, true, true, true, true, true, true, true, false] rfl rfl (any_of HT_.out (by kernel_rfl)) (fun _ _ _ h => h) (Or.inl ⟨by rfl, ?_⟩) ?_ ?_
        rotate_left
        ·intro w'
         go_simp
         with_reducible rfl
        rotate_left
        ·simp only [Act.put, List.setIfInBounds_toArray, List.set_cons_zero, List.set_cons_succ, i64_w, i32_w]
         rfl
        refine pure_ (i := 13) (N := some 42) (v := ?_) (a' := ?_) #[true, true, true, true, true, true, true, true, true, true, true, true, true, true] rfl rfl (any_of HT_.out (by kernel_rfl)) (fun _ _ _ h => h) (Or.inl ⟨by rfl, ?_⟩) ?_ ?_
        rotate_left
        ·intro w'
         go_simp
         with_reducible rfl
        rotate_left
        ·simp only [Act.put, List.setIfInBounds_toArray, List.set_cons_zero, List.set_cons_succ, i64_w, i32_w]
         rfl
        refine done_ (done_of HT_.out (by kernel_rfl)) ?_
        have hcz31_0 : w30.cell? ⟨gb94004, 0, none⟩ = some (.int .i64 (l0_1.length : Int)) := (blk_cell BK94004.out 0).trans rfl
        have hcz31_1 : w30.cell? ⟨gb94004, 1, none⟩ = some (u94005001) := (blk_cell BK94004.out 1).trans rfl
        have hfz31_0 := blk_frozen BK94004.out 0
        have hfz31_1 := blk_frozen BK94004.out 1
        try go_wp2_with (first | ((with_reducible refine gate_builtin (b := .append) (xs := #[.tmp 44, .tmp 46]) rfl ?_); at_builtin; refine Kd.R_append (Kd.int .i64) (w0 := w) w.heap.size rfl (.tmp 44) (.tmp 46) 22 3 (.int .i64 0) 8 rfl Try.underlying22 info3 rfl (by decide) (by omega) u94005001 x94005001_1 x5_1 [.int .i64 x5_1] (fun _ => True) (fun _ => False) rfl rfl ?aP (fun _ hk => hk.elim) ?aF ?aO ?aB ?aS ?aL ?_; (case aP => exact rfl); (case aB => exact (by repeat (first | (with_reducible first | exact HB.out | apply below_alloc | apply pw_below_drewN | apply below_drew1 | refine below_set ?_ GE94001.out | refine below_set ?_ GE94002.out | refine below_set ?_ GE94004.out) | exact HB.out))); (case aF => exact (fun _ _ => trivial)); (case aO => exact (by (with_reducible repeat (first | apply Kd.R_alloc | apply Kd.R_drewN | apply Kd.R_drew)); exact HO_94005001.out)); (case aS => exact (below_size (by repeat (first | (with_reducible first | exact HB.out | apply below_alloc | apply pw_below_drewN | apply below_drew1 | refine below_set ?_ GE94001.out | refine below_set ?_ GE94002.out | refine below_set ?_ GE94004.out) | exact HB.out)))); (case aL => have := LMc25.out; omega); intro v94011 w32 ho hb hg hat; rw [← Ny94010.out] at ho; replace BK94001 := aQ (blk_grown (g := gb94001) (o := .cells #[.int .i64 a0_0, .slice A0_1 l0_1.length c0_1, .slice A0_2 l0_2.length c0_2] 71 (0, 0)) (by (with_reducible repeat (first | refine blk_drewN ?_ _ | refine blk_drew ?_ | refine blk_alloc ?_ _)); exact BK94001.out) hg (Kd.R_ne HO_94005001.out BK94001.out (by decide))); replace BK94002 := aQ (blk_grown (g := gb94002) (o := .cells #[.int .i64 0, .slice none 0 0] 28 (0, 0)) (by (with_reducible repeat (first | refine blk_drewN ?_ _ | refine blk_drew ?_ | refine blk_alloc ?_ _)); exact BK94002.out) hg (Kd.R_ne HO_94005001.out BK94002.out (by decide))); replace BK94004 := aQ (blk_grown (g := gb94004) (o := .cells #[.int .i64 (l0_1.length : Int), u94005001] 28 (0, 0)) (by (with_reducible repeat (first | refine blk_drewN ?_ _ | refine blk_drew ?_ | refine blk_alloc ?_ _)); exact BK94004.out) hg (Kd.R_ne HO_94005001.out BK94004.out (by decide))); replace HB := aQ (hb); have HO94012 := aQ (ho); clear HO_94005001; clear ho hb hg hat; obtain ⟨Ao33, co33, eo33⟩ := Kd.R_slice HO94012.out; subst eo33; have hcz34_0 : w32.cell? ⟨gb94004, 0, none⟩ = some (.int .i64 (l0_1.length : Int)) := (blk_cell BK94004.out 0).trans rfl; have hcz34_1 : w32.cell? ⟨gb94004, 1, none⟩ = some (u94005001) := (blk_cell BK94004.out 1).trans rfl; have hfz34_0 := blk_frozen BK94004.out 0; have hfz34_1 := blk_frozen BK94004.out 1))
        go_roundg k1
        case measure => have := HK1.out; omega
        case rel => exact ⟨(wrap64 (x5_1 + 1)), (y94010), (.slice Ao33 y94010.length co33), (by first | rfl | (simp; done) | (simp [*]; done)), H', ⟨by have := HK1.out; omega⟩, ⟨by (with_reducible repeat (first | apply Kd.R_alloc | apply Kd.R_drewN | apply Kd.R_drew)); exact Kd.R_mono (Kd.R_far (p := ⟨gb94004, 1, none⟩) (Kd.R_types HO94012.out BK94004.out (by decide)) (fun _ hk => hk.2) (.slice Ao33 y94010.length co33)) (fun _ hk => trivial)⟩, ⟨by (with_reducible repeat (first | refine blk_drewN ?_ _ | refine blk_drew ?_ | refine blk_alloc ?_ _)); refine blk_far ?_ NB94001_94004.out _; (with_reducible repeat (first | refine blk_drewN ?_ _ | refine blk_drew ?_ | refine blk_alloc ?_ _)); exact BK94001.out⟩, ⟨by (with_reducible repeat (first | refine blk_drewN ?_ _ | refine blk_drew ?_ | refine blk_alloc ?_ _)); refine blk_far ?_ NB94002_94004.out _; (with_reducible repeat (first | refine blk_drewN ?_ _ | refine blk_drew ?_ | refine blk_alloc ?_ _)); exact BK94002.out⟩, ⟨by (with_reducible repeat (first | refine blk_drewN ?_ _ | refine blk_drew ?_ | refine blk_alloc ?_ _)); refine blk_put (cs := #[.int .i64 (l0_1.length : Int), u94005001]) ?_ 1 _ rfl; (with_reducible repeat (first | refine blk_drewN ?_ _ | refine blk_drew ?_ | refine blk_alloc ?_ _)); exact BK94004.out⟩, ⟨by repeat (first | (with_reducible first | exact HB.out | apply below_alloc | apply pw_below_drewN | apply below_drew1 | refine below_set ?_ GE94001.out | refine below_set ?_ GE94002.out | refine below_set ?_ GE94004.out) | exact HB.out)⟩⟩
       ·rw [if_neg c25] at H
        exact absurd H (by simp)
      ·rw [if_neg c24] at H
       have c24b0 : ((wrap64 (a0_0 - t94009)) == (wrap64 (a0_0 - t94006))) = false := beq_eq_false_iff_ne.mpr c24
       have c24b1 : ((wrap64 (a0_0 - t94009)) != (wrap64 (a0_0 - t94006))) = true := bne_iff_ne.mpr c24
       have H' := aQ H
       clear H
       have hnb35 := NB94004_94001.out
       have hnc35 := NB94001_94004.out
       have hnb36 := NB94004_94002.out
       have hnc36 := NB94002_94004.out
       have hcz37_0 : wr.cell? ⟨gb94004, 0, none⟩ = some (.int .i64 (l0_1.length : Int)) := (blk_cell BK94004.out 0).trans rfl
       have hcz37_1 : wr.cell? ⟨gb94004, 1, none⟩ = some (u94005001) := (blk_cell BK94004.out 1).trans rfl
       have hfz37_0 := blk_frozen BK94004.out 0
       have hfz37_1 := blk_frozen BK94004.out 1
       try go_wp2_with (first | ((with_reducible refine gate_callee (f := 115) rfl ?_); refine goesL_ (some 25) rfl rfl Try.func115 (by kernel_rfl) rfl #[.int .i64 (l0_1.length : Int)] rfl (by (try simp only [List.map_toArray, List.map_cons, List.map_nil]); first | done | rfl | (simp only [List.length_drop, List.length_take]; rfl)) ?_; (with_reducible refine (spec_FullSet.calls (l0_1.length : Int) t94007 _ A19.out).mono ?_); rintro e w' ⟨rfl, ⟨nd, rfl⟩⟩; refine ⟨_, rfl, ?_⟩))
       (try (rw [drewN_self wr]; generalize hq_ : World.drewN wr _ = wr; have n0_ : Aside0 (Kd.R (Kd.int .i64) 3 wr w.heap.size (fun _ => True) u94005001 x94005001_1) := ⟨by rw [← hq_]; exact (by (with_reducible repeat (first | apply Kd.R_alloc | apply Kd.R_drewN | apply Kd.R_drew)); exact HO_94005001.out)⟩; have n1_ : Aside0 (wr.heap[gb94001]? = some (.cells #[.int .i64 a0_0, .slice A0_1 l0_1.length c0_1, .slice A0_2 l0_2.length c0_2] 71 (0, 0))) := ⟨by rw [← hq_]; exact (by (with_reducible repeat (first | refine blk_drewN ?_ _ | refine blk_drew ?_ | refine blk_alloc ?_ _)); exact BK94001.out)⟩; have n2_ : Aside0 (wr.heap[gb94002]? = some (.cells #[.int .i64 0, .slice none 0 0] 28 (0, 0))) := ⟨by rw [← hq_]; exact (by (with_reducible repeat (first | refine blk_drewN ?_ _ | refine blk_drew ?_ | refine blk_alloc ?_ _)); exact BK94002.out)⟩; have n3_ : Aside0 (wr.heap[gb94004]? = some (.cells #[.int .i64 (l0_1.length : Int), u94005001] 28 (0, 0))) := ⟨by rw [← hq_]; exact (by (with_reducible repeat (first | refine blk_drewN ?_ _ | refine blk_drew ?_ | refine blk_alloc ?_ _)); exact BK94004.out)⟩; have n4_ : Aside0 (Below w.heap.size w wr) := ⟨by rw [← hq_]; exact (by repeat (first | (with_reducible first | exact HB.out | apply below_alloc | apply pw_below_drewN | apply below_drew1 | refine below_set ?_ GE94001.out | refine below_set ?_ GE94002.out | refine below_set ?_ GE94004.out) | exact HB.out))⟩; clear HO_94005001 BK94001 BK94002 BK94004 HB hq_; have HO_94005001 := n0_; have BK94001 := n1_; have BK94002 := n2_; have BK94004 := n3_; have HB := n4_; clear n0_ n1_ n2_ n3_ n4_; have hcqgb94001_0 : wr.cell? ⟨gb94001, 0, none⟩ = some (.int .i64 a0_0) := (blk_cell BK94001.out 0).trans rfl; have hfqgb94001_0 := blk_frozen BK94001.out 0; have hcqgb94001_1 : wr.cell? ⟨gb94001, 1, none⟩ = some (.slice A0_1 l0_1.length c0_1) := (blk_cell BK94001.out 1).trans rfl; have hfqgb94001_1 := blk_frozen BK94001.out 1; have hcqgb94001_2 : wr.cell? ⟨gb94001, 2, none⟩ = some (.slice A0_2 l0_2.length c0_2) := (blk_cell BK94001.out 2).trans rfl; have hfqgb94001_2 := blk_frozen BK94001.out 2; have hcqgb94002_0 : wr.cell? ⟨gb94002, 0, none⟩ = some (.int .i64 0) := (blk_cell BK94002.out 0).trans rfl; have hfqgb94002_0 := blk_frozen BK94002.out 0; have hcqgb94002_1 : wr.cell? ⟨gb94002, 1, none⟩ = some (.slice none 0 0) := (blk_cell BK94002.out 1).trans rfl; have hfqgb94002_1 := blk_frozen BK94002.out 1; have hcqgb94004_0 : wr.cell? ⟨gb94004, 0, none⟩ = some (.int .i64 (l0_1.length : Int)) := (blk_cell BK94004.out 0).trans rfl; have hfqgb94004_0 := blk_frozen BK94004.out 0; have hcqgb94004_1 : wr.cell? ⟨gb94004, 1, none⟩ = some (u94005001) := (blk_cell BK94004.out 1).trans rfl; have hfqgb94004_1 := blk_frozen BK94004.out 1))
       have n0_ := aQ (Kd.R_drew HO_94005001.out)
       have n1_ := aQ (blk_drew BK94001.out)
       have n2_ := aQ (blk_drew BK94002.out)
       have n3_ := aQ (blk_drew BK94004.out)
       have n4_ := aQ (below_drew1 HB.out)
       clear HO_94005001
       clear BK94001
       clear BK94002
       clear BK94004
       clear HB
       have HO_94005001 := n0_
       have BK94001 := n1_
       have BK94002 := n2_
       have BK94004 := n3_
       have HB := n4_
       clear n0_ n1_ n2_ n3_ n4_
       refine start_ (n := 14) (S := fun w' => w'.cell? ⟨gb94001, 0, none⟩ = some (.int .i64 a0_0) ∧ w'.cell? ⟨gb94001, 1, none⟩ = some (.slice A0_1 l0_1.length c0_1) ∧ w'.cell? ⟨gb94001, 2, none⟩ = some (.slice A0_2 l0_2.length c0_2)) (ds := []) #[false, false, false, false, false, false, false, false, false, false, false, false, false, false] (by kernel_rfl) rfl rfl ⟨(blk_cell BK94001.out 0).trans rfl, (blk_cell BK94001.out 1).trans rfl, (blk_cell BK94001.out 2).trans rfl⟩ (fun hHeld => ?_); refine with_tabW spec_FromGraph.tab8 spec_FromGraph.bits8 (fun HT_ HW_ => ?_)
       generalize wr.drew = w38 at HO_94005001 BK94001 BK94002 BK94004 HB hHeld ⊢
       refine pure_ (i := 0) (N := some 29) (v := ?_) (a' := ?_) #[true, false, false, false, false, false, false, false, false, false, false, false, false, false] rfl rfl (any_of HT_.out (by kernel_rfl)) (fun _ _ _ h => h) (Or.inl ⟨by rfl, ?_⟩) ?_ ?_
       rotate_left
       ·intro w'
        go_simp
        with_reducible rfl
       rotate_left
       ·simp only [Act.put, List.setIfInBounds_toArray, List.set_cons_zero, List.set_cons_succ, i64_w, i32_w]
        rfl
       refine pure_ (i := 2) (N := some 31) (v := ?_) (a' := ?_) #[true, false, true, false, false, false, false, false, false, false, false, false, false, false] rfl rfl (any_of HT_.out (by kernel_rfl)) (fun _ _ _ h => h) (Or.inl ⟨by rfl, ?_⟩) ?_ ?_
       rotate_left
       ·intro w'
        go_simp
        with_reducible rfl
       rotate_left
       ·simp only [Act.put, List.setIfInBounds_toArray, List.set_cons_zero, List.set_cons_succ, i64_w, i32_w]
        rfl
       refine one_ (i := 1) (N := some 30) #[true, true, true, false, false, false, false, false, false, false, false, false, false, false] rfl rfl (one_of HT_.out (by kernel_rfl)) (by decide) (fun K hK => ?_)
       refine goes_ Try.func116 (by kernel_rfl) rfl #[.int .i64 x5_1] (by rfl) rfl rfl (by (try simp only [List.map_toArray, List.map_cons, List.map_nil]); first | done | rfl | (simp only [List.length_drop, List.length_take]; rfl)) ?_
       with_reducible refine (spec_CountOf.calls k1 x5_1 t94008 _ A21.out).mono ?_
       rintro e w' ⟨rfl, ⟨nd, rfl⟩⟩
       refine ⟨_, rfl, ?_⟩
       refine hK.out _ _ ⟨(blk_cell BK94001.out 0).trans rfl, (blk_cell BK94001.out 1).trans rfl, (blk_cell BK94001.out 2).trans rfl⟩ (fun hHeld => ?_)
       clear hK K
       refine norm_ (a' := ?_) ?_ ?_
       rotate_left
       ·show Act.put _ (some 30) _ = _
        simp only [Act.put, List.setIfInBounds_toArray, List.set_cons_zero, List.set_cons_succ, i64_w, i32_w]
        rfl
       refine pure_ (i := 3) (N := some 32) (v := ?_) (a' := ?_) #[true, true, true, true, false, false, false, false, false, false, false, false, false, false] rfl rfl (any_of HT_.out (by kernel_rfl)) (fun _ _ _ h => h) (Or.inl ⟨by rfl, ?_⟩) ?_ ?_
       rotate_left
       ·intro w'
        go_simp
        with_reducible rfl
       rotate_left
       ·simp only [Act.put, List.setIfInBounds_toArray, List.set_cons_zero, List.set_cons_succ, i64_w, i32_w]
        rfl
       refine pure_ (i := 4) (N := some 33) (v := ?_) (a' := ?_) #[true, true, true, true, true, false, false, false, false, false, false, false, false, false] rfl rfl (any_of HT_.out (by kernel_rfl)) (fun _ _ _ h => h) (Or.inl ⟨by rfl, ?_⟩) ?_ ?_
       rotate_left
       ·intro w'
        go_simp
        with_reducible rfl
       rotate_left
       ·simp only [Act.put, List.setIfInBounds_toArray, List.set_cons_zero, List.set_cons_succ, i64_w, i32_w]
        rfl
       refine pure_ (i := 5) (N := some 34) (v := ?_) (a' := ?_) #[true, true, true, true, true, true, false, false, false, false, false, false, false, false] rfl rfl (any_of HT_.out (by kernel_rfl)) (fun _ _ _ h => h) (Or.inl ⟨by rfl, ?_⟩) ?_ ?_
       rotate_left
       ·intro w'
        go_simp
        with_reducible rfl
       rotate_left
       ·simp only [Act.put, List.setIfInBounds_toArray, List.set_cons_zero, List.set_cons_succ, i64_w, i32_w]
        rfl
       refine pure_ (i := 8) (N := some 37) (v := ?_) (a' := ?_) #[true, true, true, true, true, true, false, false, true, false, false, false, false, false] rfl rfl (any_of HT_.out (by kernel_rfl)) (fun _ _ _ h => h) (Or.inl ⟨by rfl, ?_⟩) ?_ ?_
       rotate_left
       ·intro w'
        go_simp
        with_reducible rfl
       rotate_left
       ·simp only [Act.put, List.setIfInBounds_toArray, List.set_cons_zero, List.set_cons_succ, i64_w, i32_w]
        rfl
       refine pure_ (i := 11) (N := some 40) (v := ?_) (a' := ?_) #[true, true, true, true, true, true, false, false, true, false, false, true, false, false] rfl rfl (any_of HT_.out (by kernel_rfl)) (fun _ _ _ h => h) (Or.inl ⟨by rfl, ?_⟩) ?_ ?_
       rotate_left
       ·intro w'
        go_simp
        with_reducible rfl
       rotate_left
       ·simp only [Act.put, List.setIfInBounds_toArray, List.set_cons_zero, List.set_cons_succ, i64_w, i32_w]
        rfl
       refine take_ (i := 6) (N := some 35) (v := ?_) (a' := ?_) #[true, true, true, true, true, true, true, false, true, false, false, true, false, false] rfl rfl (take_ofW HT_.out HW_.out (by kernel_rfl)) (fun _ _ _ h => h) (Or.inl ⟨by rfl, ?_⟩) hHeld ?_ ?_
       rotate_left
       ·rintro w' ⟨s0, s1, s2⟩
        go_simp
        with_reducible rfl
       rotate_left
       ·simp only [Act.put, List.setIfInBounds_toArray, List.set_cons_zero, List.set_cons_succ, i64_w, i32_w]
        rfl
       refine take_ (i := 7) (N := some 36) (v := ?_) (a' := ?_) #[true, true, true, true, true, true, true, true, true, false, false, true, false, false] rfl rfl (take_ofW HT_.out HW_.out (by kernel_rfl)) (fun _ _ _ h => h) (Or.inl ⟨by rfl, ?_⟩) hHeld ?_ ?_
       rotate_left
       ·rintro w' ⟨s0, s1, s2⟩
        go_simp
        with_reducible rfl
       rotate_left
       ·simp only [Act.put, List.setIfInBounds_toArray, List.set_cons_zero, List.set_cons_succ, i64_w, i32_w]
        rfl
       refine one_ (i := 9) (N := some 38) #[true, true, true, true, true, true, true, true, true, true, false, true, false, false] rfl rfl (one_of HT_.out (by kernel_rfl)) (by decide) (fun K hK => ?_)
       refine goes_ Try.func202 (by kernel_rfl) rfl #[.agg #[.int .i64 a0_0, .slice A0_1 l0_1.length c0_1, .slice A0_2 l0_2.length c0_2], .int .i64 x5_1] (by rfl) rfl rfl (by (try simp only [List.map_toArray, List.map_cons, List.map_nil]); first | done | rfl | (simp only [List.length_drop, List.length_take]; rfl)) ?_
       with_reducible refine (spec_l14Pieces.calls k1 a0_0 _ _ l0_1 _ _ l0_2 x5_1 t94009 _ ?side1 ?side2 ?side3 ?side4 A23.out).mono ?_
       (case side1 => repeat (first | exact (Kd.C_below HR0_1.out (by repeat (first | (with_reducible first | exact HB.out | apply below_alloc | apply pw_below_drewN | apply below_drew1 | refine below_set ?_ GE94001.out | refine below_set ?_ GE94002.out | refine below_set ?_ GE94004.out) | exact HB.out))) | (with_reducible refine Kd.C_alloc ?_ _) | (with_reducible refine Kd.C_drewN ?_ _) | (with_reducible refine Kd.C_drew ?_)))
       (case side2 => exact HC0_1.out)
       (case side3 => repeat (first | exact (Kd.C_below HR0_2.out (by repeat (first | (with_reducible first | exact HB.out | apply below_alloc | apply pw_below_drewN | apply below_drew1 | refine below_set ?_ GE94001.out | refine below_set ?_ GE94002.out | refine below_set ?_ GE94004.out) | exact HB.out))) | (with_reducible refine Kd.C_alloc ?_ _) | (with_reducible refine Kd.C_drewN ?_ _) | (with_reducible refine Kd.C_drew ?_)))
       (case side4 => exact HC0_2.out)
       rintro e w39 ⟨rfl, hb⟩
       refine ⟨_, rfl, ?_⟩
       have n0_ := aQ (Kd.R_below (by (with_reducible repeat (first | apply Kd.R_alloc | apply Kd.R_drewN | apply Kd.R_drew)); exact HO_94005001.out) hb)
       have n1_ := aQ (blk_below (g := gb94001) (o := .cells #[.int .i64 a0_0, .slice A0_1 l0_1.length c0_1, .slice A0_2 l0_2.length c0_2] 71 (0, 0)) (by (with_reducible repeat (first | refine blk_drewN ?_ _ | refine blk_drew ?_ | refine blk_alloc ?_ _)); exact BK94001.out) hb)
       have n2_ := aQ (blk_below (g := gb94002) (o := .cells #[.int .i64 0, .slice none 0 0] 28 (0, 0)) (by (with_reducible repeat (first | refine blk_drewN ?_ _ | refine blk_drew ?_ | refine blk_alloc ?_ _)); exact BK94002.out) hb)
       have n3_ := aQ (blk_below (g := gb94004) (o := .cells #[.int .i64 (l0_1.length : Int), u94005001] 28 (0, 0)) (by (with_reducible repeat (first | refine blk_drewN ?_ _ | refine blk_drew ?_ | refine blk_alloc ?_ _)); exact BK94004.out) hb)
       have n4_ := aQ (below_step (by repeat (first | (with_reducible first | exact HB.out | apply below_alloc | apply pw_below_drewN | apply below_drew1 | refine below_set ?_ GE94001.out | refine below_set ?_ GE94002.out | refine below_set ?_ GE94004.out) | exact HB.out)) hb)
       clear HO_94005001
       clear BK94001
       clear BK94002
       clear BK94004
       clear HB
       have HO_94005001 := n0_
       have BK94001 := n1_
       have BK94002 := n2_
       have BK94004 := n3_
       have HB := n4_
       clear n0_ n1_ n2_ n3_ n4_
       (try clear hb)
       (try clear hb2)
       (try clear hk)
       (try clear hi)
       refine hK.out _ _ ⟨(blk_cell BK94001.out 0).trans rfl, (blk_cell BK94001.out 1).trans rfl, (blk_cell BK94001.out 2).trans rfl⟩ (fun hHeld => ?_)
       clear hK K
       refine norm_ (a' := ?_) ?_ ?_
       rotate_left
       ·show Act.put _ (some 38) _ = _
        simp only [Act.put, List.setIfInBounds_toArray, List.set_cons_zero, List.set_cons_succ, i64_w, i32_w]
        rfl
       refine pure_ (i := 10) (N := some 39) (v := ?_) (a' := ?_) #[true, true, true, true, true, true, true, true, true, true, true, true, false, false] rfl rfl (any_of HT_.out (by kernel_rfl)) (fun _ _ _ h => h) (Or.inl ⟨by rfl, ?_⟩) ?_ ?_
       rotate_left
       ·intro w'
        go_simp
        with_reducible rfl
       rotate_left
       ·simp only [Act.put, List.setIfInBounds_toArray, List.set_cons_zero, List.set_cons_succ, i64_w, i32_w]
        rfl
       refine pure_ (i := 12) (N := some 41) (v := ?_) (a' := ?_) #[true, true, true, true, true, true, true, true, true, true, true, true, true, false] rfl rfl (any_of HT_.out (by kernel_rfl)) (fun _ _ _ h => h) (Or.inl ⟨by rfl, ?_⟩) ?_ ?_
       rotate_left
       ·intro w'
        go_simp
        with_reducible rfl
       rotate_left
       ·simp only [Act.put, List.setIfInBounds_toArray, List.set_cons_zero, List.set_cons_succ, i64_w, i32_w]
        rfl
       refine pure_ (i := 13) (N := some 42) (v := ?_) (a' := ?_) #[true, true, true, true, true, true, true, true, true, true, true, true, true, true] rfl rfl (any_of HT_.out (by kernel_rfl)) (fun _ _ _ h => h) (Or.inl ⟨by rfl, ?_⟩) ?_ ?_
       rotate_left
       ·intro w'
        go_simp
        with_reducible rfl
       rotate_left
       ·simp only [Act.put, List.setIfInBounds_toArray, List.set_cons_zero, List.set_cons_succ, i64_w, i32_w]
        rfl
       refine done_ (done_of HT_.out (by kernel_rfl)) ?_
       try go_wp2
       go_roundg k1
       case measure => have := HK1.out; omega
       case rel => exact ⟨(wrap64 (x5_1 + 1)), (x94005001_1), (u94005001), (by first | rfl | (simp; done) | (simp [*]; done)), H', ⟨by have := HK1.out; omega⟩, ⟨by (with_reducible repeat (first | apply Kd.R_alloc | apply Kd.R_drewN | apply Kd.R_drew)); exact HO_94005001.out⟩, ⟨by (with_reducible repeat (first | refine blk_drewN ?_ _ | refine blk_drew ?_ | refine blk_alloc ?_ _)); exact BK94001.out⟩, ⟨by (with_reducible repeat (first | refine blk_drewN ?_ _ | refine blk_drew ?_ | refine blk_alloc ?_ _)); exact BK94002.out⟩, ⟨by (with_reducible repeat (first | refine blk_drewN ?_ _ | refine blk_drew ?_ | refine blk_alloc ?_ _)); exact BK94004.out⟩, ⟨by repeat (first | (with_reducible first | exact HB.out | apply below_alloc | apply pw_below_drewN | apply below_drew1 | refine below_set ?_ GE94001.out | refine below_set ?_ GE94002.out | refine below_set ?_ GE94004.out) | exact HB.out)⟩⟩
     ·rw [if_neg c22] at H
      have c22b0 : (t94008 == (wrap64 (a0_0 - t94006))) = false := beq_eq_false_iff_ne.mpr c22
      have c22b1 : (t94008 != (wrap64 (a0_0 - t94006))) = true := bne_iff_ne.mpr c22
      have H' := aQ H
      clear H
      have hnb40 := NB94004_94001.out
      have hnc40 := NB94001_94004.out
      have hnb41 := NB94004_94002.out
      have hnc41 := NB94002_94004.out
      have hcz42_0 : wr.cell? ⟨gb94004, 0, none⟩ = some (.int .i64 (l0_1.length : Int)) := (blk_cell BK94004.out 0).trans rfl
      have hcz42_1 : wr.cell? ⟨gb94004, 1, none⟩ = some (u94005001) := (blk_cell BK94004.out 1).trans rfl
      have hfz42_0 := blk_frozen BK94004.out 0
      have hfz42_1 := blk_frozen BK94004.out 1
      try go_wp2_with (first | ((with_reducible refine gate_callee (f := 115) rfl ?_); refine goesL_ (some 25) rfl rfl Try.func115 (by kernel_rfl) rfl #[.int .i64 (l0_1.length : Int)] rfl (by (try simp only [List.map_toArray, List.map_cons, List.map_nil]); first | done | rfl | (simp only [List.length_drop, List.length_take]; rfl)) ?_; (with_reducible refine (spec_FullSet.calls (l0_1.length : Int) t94007 _ A19.out).mono ?_); rintro e w' ⟨rfl, ⟨nd, rfl⟩⟩; refine ⟨_, rfl, ?_⟩))
      (try (rw [drewN_self wr]; generalize hq_ : World.drewN wr _ = wr; have n0_ : Aside0 (Kd.R (Kd.int .i64) 3 wr w.heap.size (fun _ => True) u94005001 x94005001_1) := ⟨by rw [← hq_]; exact (by (with_reducible repeat (first | apply Kd.R_alloc | apply Kd.R_drewN | apply Kd.R_drew)); exact HO_94005001.out)⟩; have n1_ : Aside0 (wr.heap[gb94001]? = some (.cells #[.int .i64 a0_0, .slice A0_1 l0_1.length c0_1, .slice A0_2 l0_2.length c0_2] 71 (0, 0))) := ⟨by rw [← hq_]; exact (by (with_reducible repeat (first | refine blk_drewN ?_ _ | refine blk_drew ?_ | refine blk_alloc ?_ _)); exact BK94001.out)⟩; have n2_ : Aside0 (wr.heap[gb94002]? = some (.cells #[.int .i64 0, .slice none 0 0] 28 (0, 0))) := ⟨by rw [← hq_]; exact (by (with_reducible repeat (first | refine blk_drewN ?_ _ | refine blk_drew ?_ | refine blk_alloc ?_ _)); exact BK94002.out)⟩; have n3_ : Aside0 (wr.heap[gb94004]? = some (.cells #[.int .i64 (l0_1.length : Int), u94005001] 28 (0, 0))) := ⟨by rw [← hq_]; exact (by (with_reducible repeat (first | refine blk_drewN ?_ _ | refine blk_drew ?_ | refine blk_alloc ?_ _)); exact BK94004.out)⟩; have n4_ : Aside0 (Below w.heap.size w wr) := ⟨by rw [← hq_]; exact (by repeat (first | (with_reducible first | exact HB.out | apply below_alloc | apply pw_below_drewN | apply below_drew1 | refine below_set ?_ GE94001.out | refine below_set ?_ GE94002.out | refine below_set ?_ GE94004.out) | exact HB.out))⟩; clear HO_94005001 BK94001 BK94002 BK94004 HB hq_; have HO_94005001 := n0_; have BK94001 := n1_; have BK94002 := n2_; have BK94004 := n3_; have HB := n4_; clear n0_ n1_ n2_ n3_ n4_; have hcqgb94001_0 : wr.cell? ⟨gb94001, 0, none⟩ = some (.int .i64 a0_0) := (blk_cell BK94001.out 0).trans rfl; have hfqgb94001_0 := blk_frozen BK94001.out 0; have hcqgb94001_1 : wr.cell? ⟨gb94001, 1, none⟩ = some (.slice A0_1 l0_1.length c0_1) := (blk_cell BK94001.out 1).trans rfl; have hfqgb94001_1 := blk_frozen BK94001.out 1; have hcqgb94001_2 : wr.cell? ⟨gb94001, 2, none⟩ = some (.slice A0_2 l0_2.length c0_2) := (blk_cell BK94001.out 2).trans rfl; have hfqgb94001_2 := blk_frozen BK94001.out 2; have hcqgb94002_0 : wr.cell? ⟨gb94002, 0, none⟩ = some (.int .i64 0) := (blk_cell BK94002.out 0).trans rfl; have hfqgb94002_0 := blk_frozen BK94002.out 0; have hcqgb94002_1 : wr.cell? ⟨gb94002, 1, none⟩ = some (.slice none 0 0) := (blk_cell BK94002.out 1).trans rfl; have hfqgb94002_1 := blk_frozen BK94002.out 1; have hcqgb94004_0 : wr.cell? ⟨gb94004, 0, none⟩ = some (.int .i64 (l0_1.length : Int)) := (blk_cell BK94004.out 0).trans rfl; have hfqgb94004_0 := blk_frozen BK94004.out 0; have hcqgb94004_1 : wr.cell? ⟨gb94004, 1, none⟩ = some (u94005001) := (blk_cell BK94004.out 1).trans rfl; have hfqgb94004_1 := blk_frozen BK94004.out 1))
      have n0_ := aQ (Kd.R_drew HO_94005001.out)
      have n1_ := aQ (blk_drew BK94001.out)
      have n2_ := aQ (blk_drew BK94002.out)
      have n3_ := aQ (blk_drew BK94004.out)
      have n4_ := aQ (below_drew1 HB.out)
      clear HO_94005001
      clear BK94001
      clear BK94002
      clear BK94004
      clear HB
      have HO_94005001 := n0_
      have BK94001 := n1_
      have BK94002 := n2_
      have BK94004 := n3_
      have HB := n4_
      clear n0_ n1_ n2_ n3_ n4_
      refine start_ (n := 14) (S := fun w' => True) (ds := []) #[false, false, false, false, false, false, false, false, false, false, false, false, false, false] (by kernel_rfl) rfl rfl trivial (fun hHeld => ?_); refine with_tabW spec_FromGraph.tab8 spec_FromGraph.bits8 (fun HT_ HW_ => ?_)
      generalize wr.drew = w43 at HO_94005001 BK94001 BK94002 BK94004 HB hHeld ⊢
      refine pure_ (i := 0) (N := some 29) (v := ?_) (a' := ?_) #[true, false, false, false, false, false, false, false, false, false, false, false, false, false] rfl rfl (any_of HT_.out (by kernel_rfl)) (fun _ _ _ h => h) (Or.inl ⟨by rfl, ?_⟩) ?_ ?_
      rotate_left
      ·intro w'
       go_simp
       with_reducible rfl
      rotate_left
      ·simp only [Act.put, List.setIfInBounds_toArray, List.set_cons_zero, List.set_cons_succ, i64_w, i32_w]
       rfl
      refine pure_ (i := 2) (N := some 31) (v := ?_) (a' := ?_) #[true, false, true, false, false, false, false, false, false, false, false, false, false, false] rfl rfl (any_of HT_.out (by kernel_rfl)) (fun _ _ _ h => h) (Or.inl ⟨by rfl, ?_⟩) ?_ ?_
      rotate_left
      ·intro w'
       go_simp
       with_reducible rfl
      rotate_left
      ·simp only [Act.put, List.setIfInBounds_toArray, List.set_cons_zero, List.set_cons_succ, i64_w, i32_w]
       rfl
      refine one_ (i := 1) (N := some 30) #[true, true, true, false, false, false, false, false, false, false, false, false, false, false] rfl rfl (one_of HT_.out (by kernel_rfl)) (by decide) (fun K hK => ?_)
      refine goes_ Try.func116 (by kernel_rfl) rfl #[.int .i64 x5_1] (by rfl) rfl rfl (by (try simp only [List.map_toArray, List.map_cons, List.map_nil]); first | done | rfl | (simp only [List.length_drop, List.length_take]; rfl)) ?_
      with_reducible refine (spec_CountOf.calls k1 x5_1 t94008 _ A21.out).mono ?_
      rintro e w' ⟨rfl, ⟨nd, rfl⟩⟩
      refine ⟨_, rfl, ?_⟩
      refine hK.out _ _ trivial (fun hHeld => ?_)
      clear hK K
      refine norm_ (a' := ?_) ?_ ?_
      rotate_left
      ·show Act.put _ (some 30) _ = _
       simp only [Act.put, List.setIfInBounds_toArray, List.set_cons_zero, List.set_cons_succ, i64_w, i32_w]
       rfl
      refine pure_ (i := 3) (N := some 32) (v := ?_) (a' := ?_) #[true, true, true, true, false, false, false, false, false, false, false, false, false, false] rfl rfl (any_of HT_.out (by kernel_rfl)) (fun _ _ _ h => h) (Or.inl ⟨by rfl, ?_⟩) ?_ ?_
      rotate_left
      ·intro w'
       go_simp
       with_reducible rfl
      rotate_left
      ·simp only [Act.put, List.setIfInBounds_toArray, List.set_cons_zero, List.set_cons_succ, i64_w, i32_w]
       rfl
      refine pure_ (i := 4) (N := some 33) (v := ?_) (a' := ?_) #[true, true, true, true, true, false, false, false, false, false, false, false, false, false] rfl rfl (any_of HT_.out (by kernel_rfl)) (fun _ _ _ h => h) (Or.inl ⟨by rfl, ?_⟩) ?_ ?_
      rotate_left
      ·intro w'
       go_simp
       with_reducible rfl
      rotate_left
      ·simp only [Act.put, List.setIfInBounds_toArray, List.set_cons_zero, List.set_cons_succ, i64_w, i32_w]
       rfl
      refine pure_ (i := 5) (N := some 34) (v := undef) (a' := ?_) #[true, true, true, true, true, true, false, false, false, false, false, false, false, false] rfl rfl (any_of HT_.out (by kernel_rfl)) (fun _ _ _ h => h) (Or.inr ⟨by rfl, rfl⟩) ?_ ?_
      rotate_left
      ·simp only [Act.put, List.setIfInBounds_toArray, List.set_cons_zero, List.set_cons_succ, i64_w, i32_w]
       rfl
      refine pure_ (i := 6) (N := some 35) (v := undef) (a' := ?_) #[true, true, true, true, true, true, true, false, false, false, false, false, false, false] rfl rfl (any_of HT_.out (by kernel_rfl)) (fun _ _ _ h => h) (Or.inr ⟨by rfl, rfl⟩) ?_ ?_
      rotate_left
      ·simp only [Act.put, List.setIfInBounds_toArray, List.set_cons_zero, List.set_cons_succ, i64_w, i32_w]
       rfl
      refine pure_ (i := 7) (N := some 36) (v := undef) (a' := ?_) #[true, true, true, true, true, true, true, true, false, false, false, false, false, false] rfl rfl (any_of HT_.out (by kernel_rfl)) (fun _ _ _ h => h) (Or.inr ⟨by rfl, rfl⟩) ?_ ?_
      rotate_left
      ·simp only [Act.put, List.setIfInBounds_toArray, List.set_cons_zero, List.set_cons_succ, i64_w, i32_w]
       rfl
      refine pure_ (i := 8) (N := some 37) (v := undef) (a' := ?_) #[true, true, true, true, true, true, true, true, true, false, false, false, false, false] rfl rfl (any_of HT_.out (by kernel_rfl)) (fun _ _ _ h => h) (Or.inr ⟨by rfl, rfl⟩) ?_ ?_
      rotate_left
      ·simp only [Act.put, List.setIfInBounds_toArray, List.set_cons_zero, List.set_cons_succ, i64_w, i32_w]
       rfl
      refine pure_ (i := 9) (N := some 38) (v := undef) (a' := ?_) #[true, true, true, true, true, true, true, true, true, true, false, false, false, false] rfl rfl (any_of HT_.out (by kernel_rfl)) (fun _ _ _ h => h) (Or.inr ⟨by rfl, rfl⟩) ?_ ?_
      rotate_left
      ·simp only [Act.put, List.setIfInBounds_toArray, List.set_cons_zero, List.set_cons_succ, i64_w, i32_w]
       rfl
      refine pure_ (i := 10) (N := some 39) (v := undef) (a' := ?_) #[true, true, true, true, true, true, true, true, true, true, true, false, false, false] rfl rfl (any_of HT_.out (by kernel_rfl)) (fun _ _ _ h => h) (Or.inr ⟨by rfl, rfl⟩) ?_ ?_
      rotate_left
      ·simp only [Act.put, List.setIfInBounds_toArray, List.set_cons_zero, List.set_cons_succ, i64_w, i32_w]
       rfl
      refine pure_ (i := 11) (N := some 40) (v := undef) (a' := ?_) #[true, true, true, true, true, true, true, true, true, true, true, true, false, false] rfl rfl (any_of HT_.out (by kernel_rfl)) (fun _ _ _ h => h) (Or.inr ⟨by rfl, rfl⟩) ?_ ?_
      rotate_left
      ·simp only [Act.put, List.setIfInBounds_toArray, List.set_cons_zero, List.set_cons_succ, i64_w, i32_w]
       rfl
      refine pure_ (i := 12) (N := some 41) (v := undef) (a' := ?_) #[true, true, true, true, true, true, true, true, true, true, true, true, true, false] rfl rfl (any_of HT_.out (by kernel_rfl)) (fun _ _ _ h => h) (Or.inr ⟨by rfl, rfl⟩) ?_ ?_
      rotate_left
      ·simp only [Act.put, List.setIfInBounds_toArray, List.set_cons_zero, List.set_cons_succ, i64_w, i32_w]
       rfl
      refine pure_ (i := 13) (N := some 42) (v := ?_) (a' := ?_) #[true, true, true, true, true, true, true, true, true, true, true, true, true, true] rfl rfl (any_of HT_.out (by kernel_rfl)) (fun _ _ _ h => h) (Or.inl ⟨by rfl, ?_⟩) ?_ ?_
      rotate_left
      ·intro w'
       go_simp
       with_reducible rfl
      rotate_left
      ·simp only [Act.put, List.setIfInBounds_toArray, List.set_cons_zero, List.set_cons_succ, i64_w, i32_w]
       rfl
      refine done_ (done_of HT_.out (by kernel_rfl)) ?_
      try go_wp2
      go_roundg k1
      case measure => have := HK1.out; omega
      case rel => exact ⟨(wrap64 (x5_1 + 1)), (x94005001_1), (u94005001), (by first | rfl | (simp; done) | (simp [*]; done)), H', ⟨by have := HK1.out; omega⟩, ⟨by (with_reducible repeat (first | apply Kd.R_alloc | apply Kd.R_drewN | apply Kd.R_drew)); exact HO_94005001.out⟩, ⟨by (with_reducible repeat (first | refine blk_drewN ?_ _ | refine blk_drew ?_ | refine blk_alloc ?_ _)); exact BK94001.out⟩, ⟨by (with_reducible repeat (first | refine blk_drewN ?_ _ | refine blk_drew ?_ | refine blk_alloc ?_ _)); exact BK94002.out⟩, ⟨by (with_reducible repeat (first | refine blk_drewN ?_ _ | refine blk_drew ?_ | refine blk_alloc ?_ _)); exact BK94004.out⟩, ⟨by repeat (first | (with_reducible first | exact HB.out | apply below_alloc | apply pw_below_drewN | apply below_drew1 | refine below_set ?_ GE94001.out | refine below_set ?_ GE94002.out | refine below_set ?_ GE94004.out) | exact HB.out)⟩⟩
    ·rw [if_neg c20] at H
     have c20b0 : decide (x5_1 ≤ t94007) = false := decide_eq_false c20
     clear c20
     simp only [Option.some.injEq, Prod.mk.injEq] at H
     obtain ⟨rfl, rfl⟩ := H
     have hnb44 := NB94004_94001.out
     have hnc44 := NB94001_94004.out
     have hnb45 := NB94004_94002.out
     have hnc45 := NB94002_94004.out
     have hcz46_0 : wr.cell? ⟨gb94004, 0, none⟩ = some (.int .i64 (l0_1.length : Int)) := (blk_cell BK94004.out 0).trans rfl
     have hcz46_1 : wr.cell? ⟨gb94004, 1, none⟩ = some (u94005001) := (blk_cell BK94004.out 1).trans rfl
     have hfz46_0 := blk_frozen BK94004.out 0
     have hfz46_1 := blk_frozen BK94004.out 1
     go_wp2_with (first | ((with_reducible refine gate_callee (f := 115) rfl ?_); refine goesL_ (some 25) rfl rfl Try.func115 (by kernel_rfl) rfl #[.int .i64 (l0_1.length : Int)] rfl (by (try simp only [List.map_toArray, List.map_cons, List.map_nil]); first | done | rfl | (simp only [List.length_drop, List.length_take]; rfl)) ?_; (with_reducible refine (spec_FullSet.calls (l0_1.length : Int) t94007 _ A19.out).mono ?_); rintro e w' ⟨rfl, ⟨nd, rfl⟩⟩; refine ⟨_, rfl, ?_⟩; (try (rw [drewN_self wr]; generalize hq_ : World.drewN wr _ = wr; have n0_ : Aside0 (Kd.R (Kd.int .i64) 3 wr w.heap.size (fun _ => True) u94005001 x94005001_1) := ⟨by rw [← hq_]; exact (by (with_reducible repeat (first | apply Kd.R_alloc | apply Kd.R_drewN | apply Kd.R_drew)); exact HO_94005001.out)⟩; have n1_ : Aside0 (wr.heap[gb94001]? = some (.cells #[.int .i64 a0_0, .slice A0_1 l0_1.length c0_1, .slice A0_2 l0_2.length c0_2] 71 (0, 0))) := ⟨by rw [← hq_]; exact (by (with_reducible repeat (first | refine blk_drewN ?_ _ | refine blk_drew ?_ | refine blk_alloc ?_ _)); exact BK94001.out)⟩; have n2_ : Aside0 (wr.heap[gb94002]? = some (.cells #[.int .i64 0, .slice none 0 0] 28 (0, 0))) := ⟨by rw [← hq_]; exact (by (with_reducible repeat (first | refine blk_drewN ?_ _ | refine blk_drew ?_ | refine blk_alloc ?_ _)); exact BK94002.out)⟩; have n3_ : Aside0 (wr.heap[gb94004]? = some (.cells #[.int .i64 (l0_1.length : Int), u94005001] 28 (0, 0))) := ⟨by rw [← hq_]; exact (by (with_reducible repeat (first | refine blk_drewN ?_ _ | refine blk_drew ?_ | refine blk_alloc ?_ _)); exact BK94004.out)⟩; have n4_ : Aside0 (Below w.heap.size w wr) := ⟨by rw [← hq_]; exact (by repeat (first | (with_reducible first | exact HB.out | apply below_alloc | apply pw_below_drewN | apply below_drew1 | refine below_set ?_ GE94001.out | refine below_set ?_ GE94002.out | refine below_set ?_ GE94004.out) | exact HB.out))⟩; clear HO_94005001 BK94001 BK94002 BK94004 HB hq_; have HO_94005001 := n0_; have BK94001 := n1_; have BK94002 := n2_; have BK94004 := n3_; have HB := n4_; clear n0_ n1_ n2_ n3_ n4_; have hcqgb94001_0 : wr.cell? ⟨gb94001, 0, none⟩ = some (.int .i64 a0_0) := (blk_cell BK94001.out 0).trans rfl; have hfqgb94001_0 := blk_frozen BK94001.out 0; have hcqgb94001_1 : wr.cell? ⟨gb94001, 1, none⟩ = some (.slice A0_1 l0_1.length c0_1) := (blk_cell BK94001.out 1).trans rfl; have hfqgb94001_1 := blk_frozen BK94001.out 1; have hcqgb94001_2 : wr.cell? ⟨gb94001, 2, none⟩ = some (.slice A0_2 l0_2.length c0_2) := (blk_cell BK94001.out 2).trans rfl; have hfqgb94001_2 := blk_frozen BK94001.out 2; have hcqgb94002_0 : wr.cell? ⟨gb94002, 0, none⟩ = some (.int .i64 0) := (blk_cell BK94002.out 0).trans rfl; have hfqgb94002_0 := blk_frozen BK94002.out 0; have hcqgb94002_1 : wr.cell? ⟨gb94002, 1, none⟩ = some (.slice none 0 0) := (blk_cell BK94002.out 1).trans rfl; have hfqgb94002_1 := blk_frozen BK94002.out 1; have hcqgb94004_0 : wr.cell? ⟨gb94004, 0, none⟩ = some (.int .i64 (l0_1.length : Int)) := (blk_cell BK94004.out 0).trans rfl; have hfqgb94004_0 := blk_frozen BK94004.out 0; have hcqgb94004_1 : wr.cell? ⟨gb94004, 1, none⟩ = some (u94005001) := (blk_cell BK94004.out 1).trans rfl; have hfqgb94004_1 := blk_frozen BK94004.out 1)); have hnb47 := NB94002_94001.out; have hnc47 := NB94001_94002.out; have hcz48_0 : wr.cell? ⟨gb94002, 0, none⟩ = some (.int .i64 0) := (blk_cell BK94002.out 0).trans rfl; have hcz48_1 : wr.cell? ⟨gb94002, 1, none⟩ = some (.slice none 0 0) := (blk_cell BK94002.out 1).trans rfl; have hfz48_0 := blk_frozen BK94002.out 0; have hfz48_1 := blk_frozen BK94002.out 1; obtain ⟨Ao49, co49, eo49⟩ := Kd.R_slice HO_94005001.out; subst eo49))
     refine bodyPost_ret (results_cell_row rfl _ _ gb94002 28 #[.int .i64 (l0_1.length : Int), .slice Ao49 x94005001_1.length co49] (0, 0) _ rfl (by (with_reducible repeat (first | refine blk_drewN ?_ _ | refine blk_drew ?_ | refine blk_alloc ?_ _)); refine blk_put (cs := #[.int .i64 (l0_1.length : Int), .slice none 0 0]) ?_ 1 _ rfl; (with_reducible repeat (first | refine blk_drewN ?_ _ | refine blk_drew ?_ | refine blk_alloc ?_ _)); refine blk_put (cs := #[.int .i64 0, .slice none 0 0]) ?_ 0 _ rfl; (with_reducible repeat (first | refine blk_drewN ?_ _ | refine blk_drew ?_ | refine blk_alloc ?_ _)); exact BK94002.out) Try.underlying28 rfl (by kernel_rfl)) rfl ?_
     exact ⟨_, by first | rfl | (simp [errW_none, errW_some] <;> rfl) | (simp [*, errW_none, errW_some] <;> rfl), by (with_reducible repeat (first | apply Kd.R_alloc | apply Kd.R_drewN | apply Kd.R_drew)); exact Kd.R_mono (Kd.R_far (p := ⟨gb94002, 1, none⟩) (Kd.R_far (p := ⟨gb94002, 0, none⟩) (Kd.R_types HO_94005001.out BK94002.out (by decide)) (fun _ hk => hk.2) (.int .i64 (l0_1.length : Int))) (fun _ hk => hk.2) (.slice Ao49 x94005001_1.length co49)) (fun _ hk => trivial), by repeat (first | (with_reducible first | exact HB.out | apply below_alloc | apply pw_below_drewN | apply below_drew1 | refine below_set ?_ GE94001.out | refine below_set ?_ GE94002.out | refine below_set ?_ GE94004.out) | exact HB.out)⟩
 ·replace c3 := Bool.eq_false_iff.mpr c3
  subst c3
  have H1 : (some (0, ([] : List Int))) = some (r1, r2) := by rw [if_neg (show ¬ (false = true) by decide)] at H; exact H
  clear H
  have H := H1
  clear H1
  simp only [Option.some.injEq, Prod.mk.injEq] at H
  obtain ⟨rfl, rfl⟩ := H
  go_enter Try.func93, Try.ntmps93
  go_wp2_with (first | ((with_reducible refine gate_dst (N := 1) rfl ?_); refine box_event ?hg (N := 1) ?hd (cs := #[.int .i64 a0_0, .slice A0_1 l0_1.length c0_1, .slice A0_2 l0_2.length c0_2]) (t := 71) ?hr ?_; (case hd => rfl); (case hg => rfl); (case hr => first | (go_simp; done) | (go_simp; rfl)); intro gb94001 hg w50 hbox hb; have BK94001 := aQ (hbox); have GW94001 := aQ ((by rw [hg]; exact (below_size (by repeat (first | (with_reducible first | exact HB.out | apply below_alloc | apply pw_below_drewN | apply below_drew1) | exact HB.out))) : w.heap.size ≤ gb94001)); have GE94001 := aQ ((by rw [hg]; exact (below_size (by repeat (first | (with_reducible first | exact HB.out | apply below_alloc | apply pw_below_drewN | apply below_drew1) | exact HB.out))) : w.heap.size ≤ gb94001)); replace HB := aQ (below_step (by repeat (first | (with_reducible first | exact HB.out | apply below_alloc | apply pw_below_drewN | apply below_drew1) | exact HB.out)) hb); clear hb hbox hg) | ((with_reducible refine gate_dst (N := 2) rfl ?_); refine box_event ?hg (N := 2) ?hd (cs := #[.int .i64 0, .slice none 0 0]) (t := 28) ?hr ?_; (case hd => rfl); (case hg => rfl); (case hr => first | (go_simp; done) | (go_simp; rfl)); intro gb94002 hg w51 hbox hb; have BK94002 := aQ (hbox); have GW94002 := aQ ((by rw [hg]; exact (below_size (by repeat (first | (with_reducible first | exact HB.out | apply below_alloc | apply pw_below_drewN | apply below_drew1 | refine below_set ?_ GE94001.out) | exact HB.out))) : w.heap.size ≤ gb94002)); have GE94002 := aQ ((by rw [hg]; exact (below_size (by repeat (first | (with_reducible first | exact HB.out | apply below_alloc | apply pw_below_drewN | apply below_drew1 | refine below_set ?_ GE94001.out) | exact HB.out))) : w.heap.size ≤ gb94002)); replace HB := aQ (below_step (by repeat (first | (with_reducible first | exact HB.out | apply below_alloc | apply pw_below_drewN | apply below_drew1 | refine below_set ?_ GE94001.out) | exact HB.out)) hb); have NB94001_94002 := aQ ((by rw [hg]; exact Nat.ne_of_lt (blk_lt (g := gb94001) (o := .cells #[.int .i64 a0_0, .slice A0_1 l0_1.length c0_1, .slice A0_2 l0_2.length c0_2] 71 (0, 0)) (by (with_reducible repeat (first | refine blk_drewN ?_ _ | refine blk_drew ?_ | refine blk_alloc ?_ _)); exact BK94001.out)) : gb94001 ≠ gb94002)); have NB94002_94001 := aQ ((by rw [hg]; exact Nat.ne_of_gt (blk_lt (g := gb94001) (o := .cells #[.int .i64 a0_0, .slice A0_1 l0_1.length c0_1, .slice A0_2 l0_2.length c0_2] 71 (0, 0)) (by (with_reducible repeat (first | refine blk_drewN ?_ _ | refine blk_drew ?_ | refine blk_alloc ?_ _)); exact BK94001.out)) : gb94002 ≠ gb94001)); replace BK94001 := aQ (blk_below (g := gb94001) (o := .cells #[.int .i64 a0_0, .slice A0_1 l0_1.length c0_1, .slice A0_2 l0_2.length c0_2] 71 (0, 0)) (by (with_reducible repeat (first | refine blk_drewN ?_ _ | refine blk_drew ?_ | refine blk_alloc ?_ _)); exact BK94001.out) hb); clear hb hbox hg; have hnb52 := NB94001_94002.out; have hnc52 := NB94002_94001.out; have hcz53_0 : w51.cell? ⟨gb94001, 0, none⟩ = some (.int .i64 a0_0) := (blk_cell BK94001.out 0).trans rfl; have hcz53_1 : w51.cell? ⟨gb94001, 1, none⟩ = some (.slice A0_1 l0_1.length c0_1) := (blk_cell BK94001.out 1).trans rfl; have hcz53_2 : w51.cell? ⟨gb94001, 2, none⟩ = some (.slice A0_2 l0_2.length c0_2) := (blk_cell BK94001.out 2).trans rfl; have hfz53_0 := blk_frozen BK94001.out 0; have hfz53_1 := blk_frozen BK94001.out 1; have hfz53_2 := blk_frozen BK94001.out 2) | ((with_reducible refine gate_callee (f := 201) rfl ?_); refine goesL_ (some 7) rfl rfl Try.func201 (by kernel_rfl) rfl #[.agg #[.int .i64 a0_0, .slice A0_1 l0_1.length c0_1, .slice A0_2 l0_2.length c0_2]] rfl (by (try simp only [List.map_toArray, List.map_cons, List.map_nil]); first | done | rfl | (simp only [List.length_drop, List.length_take]; rfl)) ?_; (with_reducible refine (spec_IsGraph.calls k a0_0 _ _ l0_1 _ _ l0_2 false _ ?side1 ?side2 ?side3 ?side4 A2.out).mono ?_); (case side1 => repeat (first | exact (Kd.C_below HR0_1.out HB.out) | (with_reducible refine Kd.C_alloc ?_ _) | (with_reducible refine Kd.C_drewN ?_ _) | (with_reducible refine Kd.C_drew ?_))); (case side2 => exact HC0_1.out); (case side3 => repeat (first | exact (Kd.C_below HR0_2.out HB.out) | (with_reducible refine Kd.C_alloc ?_ _) | (with_reducible refine Kd.C_drewN ?_ _) | (with_reducible refine Kd.C_drew ?_))); (case side4 => exact HC0_2.out); rintro e w54 ⟨rfl, hb⟩; refine ⟨_, rfl, ?_⟩; replace BK94001 := aQ (blk_below (g := gb94001) (o := .cells #[.int .i64 a0_0, .slice A0_1 l0_1.length c0_1, .slice A0_2 l0_2.length c0_2] 71 (0, 0)) (by (with_reducible repeat (first | refine blk_drewN ?_ _ | refine blk_drew ?_ | refine blk_alloc ?_ _)); exact BK94001.out) hb); replace BK94002 := aQ (blk_below (g := gb94002) (o := .cells #[.int .i64 0, .slice none 0 0] 28 (0, 0)) (by (with_reducible repeat (first | refine blk_drewN ?_ _ | refine blk_drew ?_ | refine blk_alloc ?_ _)); exact BK94002.out) hb); replace HB := aQ (below_step (by repeat (first | (with_reducible first | exact HB.out | apply below_alloc | apply pw_below_drewN | apply below_drew1 | refine below_set ?_ GE94001.out | refine below_set ?_ GE94002.out) | exact HB.out)) hb); (try clear hb); (try clear hb2); (try clear hk); (try clear hi); have hcz55_0 : w54.cell? ⟨gb94002, 0, none⟩ = some (.int .i64 0) := (blk_cell BK94002.out 0).trans rfl; have hcz55_1 : w54.cell? ⟨gb94002, 1, none⟩ = some (.slice none 0 0) := (blk_cell BK94002.out 1).trans rfl; have hfz55_0 := blk_frozen BK94002.out 0; have hfz55_1 := blk_frozen BK94002.out 1))
  refine bodyPost_ret (results_cell_row rfl _ _ gb94002 28 #[.int .i64 0, .slice none 0 0] (0, 0) _ rfl (by (with_reducible repeat (first | refine blk_drewN ?_ _ | refine blk_drew ?_ | refine blk_alloc ?_ _)); refine blk_put (cs := #[.int .i64 0, .slice none 0 0]) ?_ 1 _ rfl; (with_reducible repeat (first | refine blk_drewN ?_ _ | refine blk_drew ?_ | refine blk_alloc ?_ _)); refine blk_put (cs := #[.int .i64 0, .slice none 0 0]) ?_ 0 _ rfl; (with_reducible repeat (first | refine blk_drewN ?_ _ | refine blk_drew ?_ | refine blk_alloc ?_ _)); exact BK94002.out) Try.underlying28 rfl (by kernel_rfl)) rfl ?_
  exact ⟨_, by first | rfl | (simp [errW_none, errW_some] <;> rfl) | (simp [*, errW_none, errW_some] <;> rfl), by first | exact Kd.R_nil _ _ _ _ _ | exact Kd.N_nil _ _ _ _ _ | exact Kd.V_nil _ _ _ _ _ | exact Kd.Q_nil _ _ _ _ _ | exact Kd.S_nil _ _ _ _ _, by repeat (first | (with_reducible first | exact HB.out | apply below_alloc | apply pw_below_drewN | apply below_drew1 | refine below_set ?_ GE94001.out | refine below_set ?_ GE94002.out) | exact HB.out)⟩
/-! ### laws_toGraph: function 94 -/
def laws_toGraph.f (k : Nat) (a0_0 : Int) (l0_1 : List Int) (l0_2 : List Int) : Option (Int × List Int × List Int) := (laws_toIntS.f k l0_1).bind fun t95004 => ((laws_toIntS.f k l0_2).bind fun t95007 => (some (a0_0, t95004, t95007)))
theorem laws_toGraph.mono : ∀ a0 a1 a2 k, LeO (laws_toGraph.f k a0 a1 a2) (laws_toGraph.f (k + 1) a0 a1 a2) := by
 intro a0 a1 a2 k
 unfold laws_toGraph.f
 repeat' first
   | (with_reducible exact laws_toIntS.mono _ _)
   | (with_reducible exact LeO.refl _)
   | (with_reducible exact LeO.none _)
   | (with_reducible refine LeO.ite ?_ ?_)
   | (with_reducible refine LeO.bind ?_ (fun _ => ?_))
   | exact laws_toIntS.mono _ _
   | exact LeO.none _
   | refine LeO.ite ?_ ?_
   | refine LeO.bind ?_ (fun _ => ?_)
set_option maxHeartbeats 8000000 in
set_option maxRecDepth 100000 in
theorem laws_toGraph.calls (k : Nat) (a0_0 : Int) (A0_1 : Option Addr) (c0_1 : Nat) (l0_1 : List Int) (A0_2 : Option Addr) (c0_2 : Nat) (l0_2 : List Int) (r1 : Int) (r2 : List Int) (r3 : List Int) (w : World) (hr0_1 : Kd.C (Kd.int .i64) w A0_1 l0_1.length l0_1) (hc0_1 : l0_1.length ≤ c0_1) (hr0_2 : Kd.C (Kd.int .i64) w A0_2 l0_2.length l0_2) (hc0_2 : l0_2.length ≤ c0_2) (h : laws_toGraph.f k a0_0 l0_1 l0_2 = some (r1, r2, r3)) :
  Calls Try.prog 94 #[.agg #[.int .i64 a0_0, .slice A0_1 l0_1.length c0_1, .slice A0_2 l0_2.length c0_2]] w fun e w' => ∃ v1_ v2_ : Value, e = .returned (.agg #[.int .i64 r1, v1_, v2_]) ∧ Kd.R (Kd.int .i64) 3 w' w.heap.size (fun k_ => some k_ ≠ (v2_ : Value).ownBlock) v1_ r2 ∧ Kd.R (Kd.int .i64) 3 w' w.heap.size (fun k_ => some k_ ≠ (v1_ : Value).ownBlock) v2_ r3 ∧ Below w.heap.size w w' := by
 have hu68 := Try.underlying68
 have hu71 := Try.underlying71
 have HR0_1 := aQ hr0_1
 have HC0_1 := aQ hc0_1
 clear hr0_1 hc0_1
 have HR0_2 := aQ hr0_2
 have HC0_2 := aQ hc0_2
 clear hr0_2 hc0_2
 have HB := aQ (Below.refl w.heap.size w)
 have H : ((laws_toIntS.f k l0_1).bind fun t95004 => ((laws_toIntS.f k l0_2).bind fun t95007 => (some (a0_0, t95004, t95007)))) = some (r1, r2, r3) := h
 clear h
 replace H := Option.bind_eq_some_iff.mp H
 obtain ⟨t95004, A20, H⟩ := H
 replace H : ((laws_toIntS.f k l0_2).bind fun t95007 => (some (a0_0, t95004, t95007))) = some (r1, r2, r3) := H
 have A2 := aQ A20
 clear A20
 replace H := Option.bind_eq_some_iff.mp H
 obtain ⟨t95007, A30, H⟩ := H
 replace H : (some (a0_0, t95004, t95007)) = some (r1, r2, r3) := H
 have A3 := aQ A30
 clear A30
 simp only [Option.some.injEq, Prod.mk.injEq] at H
 obtain ⟨rfl, rfl, rfl⟩ := H
 go_enter Try.func94, Try.ntmps94
 go_wp2_with (first | ((with_reducible refine gate_dst (N := 1) rfl ?_); refine box_event ?hg (N := 1) ?hd (cs := #[.int .i64 a0_0, .slice A0_1 l0_1.length c0_1, .slice A0_2 l0_2.length c0_2]) (t := 68) ?hr ?_; (case hd => rfl); (case hg => rfl); (case hr => first | (go_simp; done) | (go_simp; rfl)); intro gb95001 hg w4 hbox hb; have BK95001 := aQ (hbox); have GW95001 := aQ ((by rw [hg]; exact (below_size (by repeat (first | (with_reducible first | exact HB.out | apply below_alloc | apply pw_below_drewN | apply below_drew1) | exact HB.out))) : w.heap.size ≤ gb95001)); have GE95001 := aQ ((by rw [hg]; exact (below_size (by repeat (first | (with_reducible first | exact HB.out | apply below_alloc | apply pw_below_drewN | apply below_drew1) | exact HB.out))) : w.heap.size ≤ gb95001)); replace HB := aQ (below_step (by repeat (first | (with_reducible first | exact HB.out | apply below_alloc | apply pw_below_drewN | apply below_drew1) | exact HB.out)) hb); clear hb hbox hg) | ((with_reducible refine gate_dst (N := 2) rfl ?_); refine box_event ?hg (N := 2) ?hd (cs := #[.int .i64 0, .slice none 0 0, .slice none 0 0]) (t := 71) ?hr ?_; (case hd => rfl); (case hg => rfl); (case hr => first | (go_simp; done) | (go_simp; rfl)); intro gb95002 hg w5 hbox hb; have BK95002 := aQ (hbox); have GW95002 := aQ ((by rw [hg]; exact (below_size (by repeat (first | (with_reducible first | exact HB.out | apply below_alloc | apply pw_below_drewN | apply below_drew1 | refine below_set ?_ GE95001.out) | exact HB.out))) : w.heap.size ≤ gb95002)); have GE95002 := aQ ((by rw [hg]; exact (below_size (by repeat (first | (with_reducible first | exact HB.out | apply below_alloc | apply pw_below_drewN | apply below_drew1 | refine below_set ?_ GE95001.out) | exact HB.out))) : w.heap.size ≤ gb95002)); replace HB := aQ (below_step (by repeat (first | (with_reducible first | exact HB.out | apply below_alloc | apply pw_below_drewN | apply below_drew1 | refine below_set ?_ GE95001.out) | exact HB.out)) hb); have NB95001_95002 := aQ ((by rw [hg]; exact Nat.ne_of_lt (blk_lt (g := gb95001) (o := .cells #[.int .i64 a0_0, .slice A0_1 l0_1.length c0_1, .slice A0_2 l0_2.length c0_2] 68 (0, 0)) (by (with_reducible repeat (first | refine blk_drewN ?_ _ | refine blk_drew ?_ | refine blk_alloc ?_ _)); exact BK95001.out)) : gb95001 ≠ gb95002)); have NB95002_95001 := aQ ((by rw [hg]; exact Nat.ne_of_gt (blk_lt (g := gb95001) (o := .cells #[.int .i64 a0_0, .slice A0_1 l0_1.length c0_1, .slice A0_2 l0_2.length c0_2] 68 (0, 0)) (by (with_reducible repeat (first | refine blk_drewN ?_ _ | refine blk_drew ?_ | refine blk_alloc ?_ _)); exact BK95001.out)) : gb95002 ≠ gb95001)); replace BK95001 := aQ (blk_below (g := gb95001) (o := .cells #[.int .i64 a0_0, .slice A0_1 l0_1.length c0_1, .slice A0_2 l0_2.length c0_2] 68 (0, 0)) (by (with_reducible repeat (first | refine blk_drewN ?_ _ | refine blk_drew ?_ | refine blk_alloc ?_ _)); exact BK95001.out) hb); clear hb hbox hg) | ((with_reducible refine gate_dst (N := 3) rfl ?_); refine box_event ?hg (N := 3) ?hd (cs := #[.int .i64 0, .slice none 0 0, .slice none 0 0]) (t := 71) ?hr ?_; (case hd => rfl); (case hg => rfl); (case hr => first | (go_simp; done) | (go_simp; rfl)); intro gb95003 hg w6 hbox hb; have BK95003 := aQ (hbox); have GW95003 := aQ ((by rw [hg]; exact (below_size (by repeat (first | (with_reducible first | exact HB.out | apply below_alloc | apply pw_below_drewN | apply below_drew1 | refine below_set ?_ GE95001.out | refine below_set ?_ GE95002.out) | exact HB.out))) : w.heap.size ≤ gb95003)); have GE95003 := aQ ((by rw [hg]; exact (below_size (by repeat (first | (with_reducible first | exact HB.out | apply below_alloc | apply pw_below_drewN | apply below_drew1 | refine below_set ?_ GE95001.out | refine below_set ?_ GE95002.out) | exact HB.out))) : w.heap.size ≤ gb95003)); replace HB := aQ (below_step (by repeat (first | (with_reducible first | exact HB.out | apply below_alloc | apply pw_below_drewN | apply below_drew1 | refine below_set ?_ GE95001.out | refine below_set ?_ GE95002.out) | exact HB.out)) hb); have NB95001_95003 := aQ ((by rw [hg]; exact Nat.ne_of_lt (blk_lt (g := gb95001) (o := .cells #[.int .i64 a0_0, .slice A0_1 l0_1.length c0_1, .slice A0_2 l0_2.length c0_2] 68 (0, 0)) (by (with_reducible repeat (first | refine blk_drewN ?_ _ | refine blk_drew ?_ | refine blk_alloc ?_ _)); exact BK95001.out)) : gb95001 ≠ gb95003)); have NB95003_95001 := aQ ((by rw [hg]; exact Nat.ne_of_gt (blk_lt (g := gb95001) (o := .cells #[.int .i64 a0_0, .slice A0_1 l0_1.length c0_1, .slice A0_2 l0_2.length c0_2] 68 (0, 0)) (by (with_reducible repeat (first | refine blk_drewN ?_ _ | refine blk_drew ?_ | refine blk_alloc ?_ _)); exact BK95001.out)) : gb95003 ≠ gb95001)); replace BK95001 := aQ (blk_below (g := gb95001) (o := .cells #[.int .i64 a0_0, .slice A0_1 l0_1.length c0_1, .slice A0_2 l0_2.length c0_2] 68 (0, 0)) (by (with_reducible repeat (first | refine blk_drewN ?_ _ | refine blk_drew ?_ | refine blk_alloc ?_ _)); exact BK95001.out) hb); have NB95002_95003 := aQ ((by rw [hg]; exact Nat.ne_of_lt (blk_lt (g := gb95002) (o := .cells #[.int .i64 0, .slice none 0 0, .slice none 0 0] 71 (0, 0)) (by (with_reducible repeat (first | refine blk_drewN ?_ _ | refine blk_drew ?_ | refine blk_alloc ?_ _)); exact BK95002.out)) : gb95002 ≠ gb95003)); have NB95003_95002 := aQ ((by rw [hg]; exact Nat.ne_of_gt (blk_lt (g := gb95002) (o := .cells #[.int .i64 0, .slice none 0 0, .slice none 0 0] 71 (0, 0)) (by (with_reducible repeat (first | refine blk_drewN ?_ _ | refine blk_drew ?_ | refine blk_alloc ?_ _)); exact BK95002.out)) : gb95003 ≠ gb95002)); replace BK95002 := aQ (blk_below (g := gb95002) (o := .cells #[.int .i64 0, .slice none 0 0, .slice none 0 0] 71 (0, 0)) (by (with_reducible repeat (first | refine blk_drewN ?_ _ | refine blk_drew ?_ | refine blk_alloc ?_ _)); exact BK95002.out) hb); clear hb hbox hg; have hnb7 := NB95001_95002.out; have hnc7 := NB95002_95001.out; have hnb8 := NB95001_95003.out; have hnc8 := NB95003_95001.out; have hcz9_0 : w6.cell? ⟨gb95001, 0, none⟩ = some (.int .i64 a0_0) := (blk_cell BK95001.out 0).trans rfl; have hcz9_1 : w6.cell? ⟨gb95001, 1, none⟩ = some (.slice A0_1 l0_1.length c0_1) := (blk_cell BK95001.out 1).trans rfl; have hcz9_2 : w6.cell? ⟨gb95001, 2, none⟩ = some (.slice A0_2 l0_2.length c0_2) := (blk_cell BK95001.out 2).trans rfl; have hfz9_0 := blk_frozen BK95001.out 0; have hfz9_1 := blk_frozen BK95001.out 1; have hfz9_2 := blk_frozen BK95001.out 2; have hnb10 := NB95003_95002.out; have hnc10 := NB95002_95003.out; have hcz11_0 : w6.cell? ⟨gb95003, 0, none⟩ = some (.int .i64 0) := (blk_cell BK95003.out 0).trans rfl; have hcz11_1 : w6.cell? ⟨gb95003, 1, none⟩ = some (.slice none 0 0) := (blk_cell BK95003.out 1).trans rfl; have hcz11_2 : w6.cell? ⟨gb95003, 2, none⟩ = some (.slice none 0 0) := (blk_cell BK95003.out 2).trans rfl; have hfz11_0 := blk_frozen BK95003.out 0; have hfz11_1 := blk_frozen BK95003.out 1; have hfz11_2 := blk_frozen BK95003.out 2) | ((with_reducible refine gate_callee (f := 47) rfl ?_); refine goesL_ (some 9) rfl rfl Try.func47 (by kernel_rfl) rfl #[.slice A0_1 l0_1.length c0_1] rfl (by (try simp only [List.map_toArray, List.map_cons, List.map_nil]); first | done | rfl | (simp only [List.length_drop, List.length_take]; rfl)) ?_; (with_reducible refine (laws_toIntS.calls k _ _ l0_1 t95004 _ ?side1 ?side2 A2.out).mono ?_); (case side1 => exact Kd.C_below HR0_1.out (by repeat (first | (with_reducible first | exact HB.out | apply below_alloc | apply pw_below_drewN | apply below_drew1 | refine below_set ?_ GE95001.out | refine below_set ?_ GE95002.out | refine below_set ?_ GE95003.out) | exact HB.out))); (case side2 => exact HC0_1.out); rintro e w12 ⟨v95005, rfl, ho0, hb⟩; refine ⟨_, rfl, ?_⟩; have HO95006 := aQ (Kd.R_lower ho0 (below_size (by repeat (first | (with_reducible first | exact HB.out | apply below_alloc | apply pw_below_drewN | apply below_drew1 | refine below_set ?_ GE95001.out | refine below_set ?_ GE95002.out | refine below_set ?_ GE95003.out) | exact HB.out)))); replace BK95001 := aQ (blk_below (g := gb95001) (o := .cells #[.int .i64 a0_0, .slice A0_1 l0_1.length c0_1, .slice A0_2 l0_2.length c0_2] 68 (0, 0)) (by (with_reducible repeat (first | refine blk_drewN ?_ _ | refine blk_drew ?_ | refine blk_alloc ?_ _)); refine blk_far ?_ NB95001_95003.out _; (with_reducible repeat (first | refine blk_drewN ?_ _ | refine blk_drew ?_ | refine blk_alloc ?_ _)); exact BK95001.out) hb); replace BK95002 := aQ (blk_below (g := gb95002) (o := .cells #[.int .i64 0, .slice none 0 0, .slice none 0 0] 71 (0, 0)) (by (with_reducible repeat (first | refine blk_drewN ?_ _ | refine blk_drew ?_ | refine blk_alloc ?_ _)); refine blk_far ?_ NB95002_95003.out _; (with_reducible repeat (first | refine blk_drewN ?_ _ | refine blk_drew ?_ | refine blk_alloc ?_ _)); exact BK95002.out) hb); replace BK95003 := aQ (blk_below (g := gb95003) (o := .cells #[.int .i64 a0_0, .slice none 0 0, .slice none 0 0] 71 (0, 0)) (by (with_reducible repeat (first | refine blk_drewN ?_ _ | refine blk_drew ?_ | refine blk_alloc ?_ _)); refine blk_put (cs := #[.int .i64 0, .slice none 0 0, .slice none 0 0]) ?_ 0 _ rfl; (with_reducible repeat (first | refine blk_drewN ?_ _ | refine blk_drew ?_ | refine blk_alloc ?_ _)); exact BK95003.out) hb); replace HB := aQ (below_step (by repeat (first | (with_reducible first | exact HB.out | apply below_alloc | apply pw_below_drewN | apply below_drew1 | refine below_set ?_ GE95001.out | refine below_set ?_ GE95002.out | refine below_set ?_ GE95003.out) | exact HB.out)) hb); (try clear hb); (try clear hb2); (try clear hk); (try clear hi); (try clear ho0); obtain ⟨Ao13, co13, eo13⟩ := Kd.R_slice HO95006.out; subst eo13; have hcz14_0 : w12.cell? ⟨gb95003, 0, none⟩ = some (.int .i64 a0_0) := (blk_cell BK95003.out 0).trans rfl; have hcz14_1 : w12.cell? ⟨gb95003, 1, none⟩ = some (.slice none 0 0) := (blk_cell BK95003.out 1).trans rfl; have hcz14_2 : w12.cell? ⟨gb95003, 2, none⟩ = some (.slice none 0 0) := (blk_cell BK95003.out 2).trans rfl; have hfz14_0 := blk_frozen BK95003.out 0; have hfz14_1 := blk_frozen BK95003.out 1; have hfz14_2 := blk_frozen BK95003.out 2; have hcz15_0 : w12.cell? ⟨gb95001, 0, none⟩ = some (.int .i64 a0_0) := (blk_cell BK95001.out 0).trans rfl; have hcz15_1 : w12.cell? ⟨gb95001, 1, none⟩ = some (.slice A0_1 l0_1.length c0_1) := (blk_cell BK95001.out 1).trans rfl; have hcz15_2 : w12.cell? ⟨gb95001, 2, none⟩ = some (.slice A0_2 l0_2.length c0_2) := (blk_cell BK95001.out 2).trans rfl; have hfz15_0 := blk_frozen BK95001.out 0; have hfz15_1 := blk_frozen BK95001.out 1; have hfz15_2 := blk_frozen BK95001.out 2) | ((with_reducible refine gate_callee (f := 47) rfl ?_); refine goesL_ (some 13) rfl rfl Try.func47 (by kernel_rfl) rfl #[.slice A0_2 l0_2.length c0_2] rfl (by (try simp only [List.map_toArray, List.map_cons, List.map_nil]); first | done | rfl | (simp only [List.length_drop, List.length_take]; rfl)) ?_; (with_reducible refine (laws_toIntS.calls k _ _ l0_2 t95007 _ ?side1 ?side2 A3.out).mono ?_); (case side1 => exact Kd.C_below HR0_2.out (by repeat (first | (with_reducible first | exact HB.out | apply below_alloc | apply pw_below_drewN | apply below_drew1 | refine below_set ?_ GE95001.out | refine below_set ?_ GE95002.out | refine below_set ?_ GE95003.out) | exact HB.out))); (case side2 => exact HC0_2.out); rintro e w16 ⟨v95008, rfl, ho0, hb⟩; refine ⟨_, rfl, ?_⟩; have HO95009 := aQ (Kd.R_lower (Kd.R_new' ho0 (Kd.R_lt (by (with_reducible repeat (first | apply Kd.R_alloc | apply Kd.R_drewN | apply Kd.R_drew)); exact (Kd.R_mono (Kd.R_far (p := ⟨gb95003, 1, none⟩) (Kd.R_types HO95006.out BK95003.out (by decide)) (fun _ hk => hk.2) (.slice Ao13 t95004.length co13)) (fun _ h_ => h_.1))))) (below_size (by repeat (first | (with_reducible first | exact HB.out | apply below_alloc | apply pw_below_drewN | apply below_drew1 | refine below_set ?_ GE95001.out | refine below_set ?_ GE95002.out | refine below_set ?_ GE95003.out) | exact HB.out)))); replace HO95006 := aQ (Kd.R_elder' (by (with_reducible repeat (first | apply Kd.R_alloc | apply Kd.R_drewN | apply Kd.R_drew)); exact (Kd.R_mono (Kd.R_far (p := ⟨gb95003, 1, none⟩) (Kd.R_types HO95006.out BK95003.out (by decide)) (fun _ hk => hk.2) (.slice Ao13 t95004.length co13)) (fun _ h_ => h_.1))) (Kd.R_base ho0) hb); replace BK95001 := aQ (blk_below (g := gb95001) (o := .cells #[.int .i64 a0_0, .slice A0_1 l0_1.length c0_1, .slice A0_2 l0_2.length c0_2] 68 (0, 0)) (by (with_reducible repeat (first | refine blk_drewN ?_ _ | refine blk_drew ?_ | refine blk_alloc ?_ _)); refine blk_far ?_ NB95001_95003.out _; (with_reducible repeat (first | refine blk_drewN ?_ _ | refine blk_drew ?_ | refine blk_alloc ?_ _)); exact BK95001.out) hb); replace BK95002 := aQ (blk_below (g := gb95002) (o := .cells #[.int .i64 0, .slice none 0 0, .slice none 0 0] 71 (0, 0)) (by (with_reducible repeat (first | refine blk_drewN ?_ _ | refine blk_drew ?_ | refine blk_alloc ?_ _)); refine blk_far ?_ NB95002_95003.out _; (with_reducible repeat (first | refine blk_drewN ?_ _ | refine blk_drew ?_ | refine blk_alloc ?_ _)); exact BK95002.out) hb); replace BK95003 := aQ (blk_below (g := gb95003) (o := .cells #[.int .i64 a0_0, .slice Ao13 t95004.length co13, .slice none 0 0] 71 (0, 0)) (by (with_reducible repeat (first | refine blk_drewN ?_ _ | refine blk_drew ?_ | refine blk_alloc ?_ _)); refine blk_put (cs := #[.int .i64 a0_0, .slice none 0 0, .slice none 0 0]) ?_ 1 _ rfl; (with_reducible repeat (first | refine blk_drewN ?_ _ | refine blk_drew ?_ | refine blk_alloc ?_ _)); exact BK95003.out) hb); replace HB := aQ (below_step (by repeat (first | (with_reducible first | exact HB.out | apply below_alloc | apply pw_below_drewN | apply below_drew1 | refine below_set ?_ GE95001.out | refine below_set ?_ GE95002.out | refine below_set ?_ GE95003.out) | exact HB.out)) hb); (try clear hb); (try clear hb2); (try clear hk); (try clear hi); (try clear ho0); obtain ⟨Ao17, co17, eo17⟩ := Kd.R_slice HO95009.out; subst eo17; have hcz18_0 : w16.cell? ⟨gb95003, 0, none⟩ = some (.int .i64 a0_0) := (blk_cell BK95003.out 0).trans rfl; have hcz18_1 : w16.cell? ⟨gb95003, 1, none⟩ = some (.slice Ao13 t95004.length co13) := (blk_cell BK95003.out 1).trans rfl; have hcz18_2 : w16.cell? ⟨gb95003, 2, none⟩ = some (.slice none 0 0) := (blk_cell BK95003.out 2).trans rfl; have hfz18_0 := blk_frozen BK95003.out 0; have hfz18_1 := blk_frozen BK95003.out 1; have hfz18_2 := blk_frozen BK95003.out 2; have hcz19_0 : w16.cell? ⟨gb95002, 0, none⟩ = some (.int .i64 0) := (blk_cell BK95002.out 0).trans rfl; have hcz19_1 : w16.cell? ⟨gb95002, 1, none⟩ = some (.slice none 0 0) := (blk_cell BK95002.out 1).trans rfl; have hcz19_2 : w16.cell? ⟨gb95002, 2, none⟩ = some (.slice none 0 0) := (blk_cell BK95002.out 2).trans rfl; have hfz19_0 := blk_frozen BK95002.out 0; have hfz19_1 := blk_frozen BK95002.out 1; have hfz19_2 := blk_frozen BK95002.out 2))
 refine bodyPost_ret (results_cell_row rfl _ _ gb95002 71 #[.int .i64 a0_0, .slice Ao13 t95004.length co13, .slice Ao17 t95007.length co17] (0, 0) _ rfl (by (with_reducible repeat (first | refine blk_drewN ?_ _ | refine blk_drew ?_ | refine blk_alloc ?_ _)); refine blk_put (cs := #[.int .i64 a0_0, .slice Ao13 t95004.length co13, .slice none 0 0]) ?_ 2 _ rfl; (with_reducible repeat (first | refine blk_drewN ?_ _ | refine blk_drew ?_ | refine blk_alloc ?_ _)); refine blk_put (cs := #[.int .i64 a0_0, .slice none 0 0, .slice none 0 0]) ?_ 1 _ rfl; (with_reducible repeat (first | refine blk_drewN ?_ _ | refine blk_drew ?_ | refine blk_alloc ?_ _)); refine blk_put (cs := #[.int .i64 0, .slice none 0 0, .slice none 0 0]) ?_ 0 _ rfl; (with_reducible repeat (first | refine blk_drewN ?_ _ | refine blk_drew ?_ | refine blk_alloc ?_ _)); refine blk_far ?_ NB95002_95003.out _; (with_reducible repeat (first | refine blk_drewN ?_ _ | refine blk_drew ?_ | refine blk_alloc ?_ _)); exact BK95002.out) Try.underlying71 rfl (by kernel_rfl)) rfl ?_
 exact ⟨_, _, by first | rfl | (simp [errW_none, errW_some] <;> rfl) | (simp [*, errW_none, errW_some] <;> rfl), by (with_reducible repeat (first | apply Kd.R_alloc | apply Kd.R_drewN | apply Kd.R_drew)); exact Kd.R_mono (Kd.R_far (p := ⟨gb95002, 2, none⟩) (Kd.R_far (p := ⟨gb95002, 1, none⟩) (Kd.R_far (p := ⟨gb95002, 0, none⟩) (Kd.R_far (p := ⟨gb95003, 2, none⟩) (Kd.R_types (Kd.R_types HO95006.out BK95003.out (by decide)) BK95002.out (by decide)) (fun _ hk => hk.1.2) (.slice Ao17 t95007.length co17)) (fun _ hk => hk.2) (.int .i64 a0_0)) (fun _ hk => hk.2) (.slice Ao13 t95004.length co13)) (fun _ hk => hk.2) (.slice Ao17 t95007.length co17)) (fun _ hk => hk.1.1.2), by (with_reducible repeat (first | apply Kd.R_alloc | apply Kd.R_drewN | apply Kd.R_drew)); exact Kd.R_mono (Kd.R_far (p := ⟨gb95002, 2, none⟩) (Kd.R_far (p := ⟨gb95002, 1, none⟩) (Kd.R_far (p := ⟨gb95002, 0, none⟩) (Kd.R_far (p := ⟨gb95003, 2, none⟩) (Kd.R_types (Kd.R_types HO95009.out BK95003.out (by decide)) BK95002.out (by decide)) (fun _ hk => hk.1.2) (.slice Ao17 t95007.length co17)) (fun _ hk => hk.2) (.int .i64 a0_0)) (fun _ hk => hk.2) (.slice Ao13 t95004.length co13)) (fun _ hk => hk.2) (.slice Ao17 t95007.length co17)) (fun _ hk => hk.1.1.2), by repeat (first | (with_reducible first | exact HB.out | apply below_alloc | apply pw_below_drewN | apply below_drew1 | refine below_set ?_ GE95001.out | refine below_set ?_ GE95002.out | refine below_set ?_ GE95003.out) | exact HB.out)⟩
end Go.Proofs.Ytinoamehdhgpgaa.A
