/- The machine side of the law FnExactCutOf, laid by a program of this work over the kit's print and contracts by hand: Go functions as Lean functions, and proofs that calls come to what these tell. Conditions: those in each theorem. -/
import Derived.Test.YtinoamehdhgpgaaMFnExactCutOf0
import Derived.Test.YtinoamehdhgpgaaMFnExactCutOf1
import Derived.Test.YtinoamehdhgpgaaMFnExactCutOf2
import Derived.Test.YtinoamehdhgpgaaMFnExactCutOf3
import Derived.Test.YtinoamehdhgpgaaMFnExactCutOf4
namespace Go.Proofs.Ytinoamehdhgpgaa.A
open Go.RowKit Go.Proofs.YtinoamehdhgpgaaW.PrintWords Go.Proofs.YtinoamehdhgpgaaW.PrintLast Go.Proofs.YtinoamehdhgpgaaW.PrintMore
attribute [local go_sem] max2_int min2_int max_two min_two max_three min_three max_four min_four   -- for this text's walks alone
set_option linter.unusedVariables false
set_option linter.unusedSimpArgs false

/-! ### spec_BasesOf: function 239 -/
def spec_BasesOf.l0 : Nat → Int → List Int → Int → Int → Int → List Int → Option (List Int)
 | 0, _, _, _, _, _, _ => none
 | k + 1, x1, x5, x6, x7, x240002000, x240002001 => if x7 < (x240002001.length : Int) then (if 0 ≤ x7 then ((spec_CountOf.f k (Go.bits .and .i64 (rd x240002001 x7) x1)).bind fun t240007 => (if t240007 = x6 then (if x5.length < 17592186044416 then (spec_BasesOf.l0 k x1 (x5 ++ [Go.bits .and .i64 (rd x240002001 x7) x1]) x6 (wrap64 (x7 + 1)) x240002000 x240002001) else (none)) else (spec_BasesOf.l0 k x1 x5 x6 (wrap64 (x7 + 1)) x240002000 x240002001))) else (none)) else ((spec_SortSets.f k x5).bind fun t240012 => (some t240012))
def spec_BasesOf.f (k : Nat) (a0_0 : Int) (l0_1 : List Int) (a1 : Int) : Option (List Int) := (some (([] : List Int) : List Int)).bind fun y240002 => ((spec_RankOf.f k a0_0 l0_1 a1).bind fun t240005 => (if t240005 < 0 then (some y240002) else (spec_BasesOf.l0 k a1 y240002 t240005 0 a0_0 l0_1)))
theorem spec_BasesOf.mono_l : ∀ k, (∀ y0 y1 y2 y3 y4 y5, LeO (spec_BasesOf.l0 k y0 y1 y2 y3 y4 y5) (spec_BasesOf.l0 (k + 1) y0 y1 y2 y3 y4 y5))
 | 0 => fun _ _ _ _ _ _ r h => by simp [spec_BasesOf.l0] at h
 | k + 1 => by
  have ih0 := spec_BasesOf.mono_l k
  ·intro y0 y1 y2 y3 y4 y5
   unfold spec_BasesOf.l0
   repeat' first
   | (with_reducible exact ih0 _ _ _ _ _ _)
   | (with_reducible exact spec_CountOf.mono _ _)
   | (with_reducible exact spec_RankOf.mono _ _ _ _)
   | (with_reducible exact spec_SortSets.mono _ _)
   | (with_reducible exact LeO.refl _)
   | (with_reducible exact LeO.none _)
   | (with_reducible refine LeO.ite ?_ ?_)
   | (with_reducible refine LeO.bind ?_ (fun _ => ?_))
   | exact ih0 _ _ _ _ _ _
   | exact spec_CountOf.mono _ _
   | exact spec_RankOf.mono _ _ _ _
   | exact spec_SortSets.mono _ _
   | exact LeO.none _
   | refine LeO.ite ?_ ?_
   | refine LeO.bind ?_ (fun _ => ?_)
theorem spec_BasesOf.mono : ∀ a0 a1 a2 k, LeO (spec_BasesOf.f k a0 a1 a2) (spec_BasesOf.f (k + 1) a0 a1 a2) := by
 intro a0 a1 a2 k
 have ih0 := spec_BasesOf.mono_l k
 unfold spec_BasesOf.f
 repeat' first
   | (with_reducible exact ih0 _ _ _ _ _ _)
   | (with_reducible exact spec_CountOf.mono _ _)
   | (with_reducible exact spec_RankOf.mono _ _ _ _)
   | (with_reducible exact spec_SortSets.mono _ _)
   | (with_reducible exact LeO.refl _)
   | (with_reducible exact LeO.none _)
   | (with_reducible refine LeO.ite ?_ ?_)
   | (with_reducible refine LeO.bind ?_ (fun _ => ?_))
   | exact ih0 _ _ _ _ _ _
   | exact spec_CountOf.mono _ _
   | exact spec_RankOf.mono _ _ _ _
   | exact spec_SortSets.mono _ _
   | exact LeO.none _
   | refine LeO.ite ?_ ?_
   | refine LeO.bind ?_ (fun _ => ?_)
set_option maxHeartbeats 8000000 in
set_option maxRecDepth 100000 in
theorem spec_BasesOf.calls (k : Nat) (a0_0 : Int) (A0_1 : Option Addr) (c0_1 : Nat) (l0_1 : List Int) (a1 : Int) (r : List Int) (w : World) (hr0_1 : Kd.C (Kd.int .i64) w A0_1 l0_1.length l0_1) (hc0_1 : l0_1.length ≤ c0_1) (h : spec_BasesOf.f k a0_0 l0_1 a1 = some r) :
  Calls Try.prog 239 #[.agg #[.int .i64 a0_0, .slice A0_1 l0_1.length c0_1], .int .i64 a1] w fun e w' => ∃ v0_ : Value, e = .returned (v0_) ∧ Kd.R (Kd.int .i64) 3 w' w.heap.size (fun _ => True) v0_ r ∧ Below w.heap.size w w' := by
 have hu28 := Try.underlying28
 have HR0_1 := aQ hr0_1
 have HC0_1 := aQ hc0_1
 clear hr0_1 hc0_1
 have HB := aQ (Below.refl w.heap.size w)
 have H : ((some (([] : List Int) : List Int)).bind fun y240002 => ((spec_RankOf.f k a0_0 l0_1 a1).bind fun t240005 => (if t240005 < 0 then (some y240002) else (spec_BasesOf.l0 k a1 y240002 t240005 0 a0_0 l0_1)))) = some r := h
 clear h
 obtain ⟨y240002, hy240002⟩ : ∃ y_ : List Int, y_ = (([] : List Int)) := ⟨_, rfl⟩
 replace H : ((spec_RankOf.f k a0_0 l0_1 a1).bind fun t240005 => (if t240005 < 0 then (some y240002) else (spec_BasesOf.l0 k a1 y240002 t240005 0 a0_0 l0_1))) = some r := by first | (rw [hy240002]; with_reducible exact H) | (have H2_ := (Option.bind_some _ _).symm.trans H; rw [hy240002]; with_reducible exact H2_) | (have H2_ := (Option.bind_some _ _).symm.trans H; with_reducible exact H2_) | with_reducible exact H | (rw [hy240002]; exact H) | exact H
 have Ny240002 := aQ hy240002
 clear hy240002
 replace H := Option.bind_eq_some_iff.mp H
 obtain ⟨t240005, A30, H⟩ := H
 replace H : (if t240005 < 0 then (some y240002) else (spec_BasesOf.l0 k a1 y240002 t240005 0 a0_0 l0_1)) = some r := H
 have A3 := aQ A30
 clear A30
 by_cases c4 : t240005 < 0
 ·rw [if_pos c4] at H
  have c4b0 : decide (t240005 < 0) = true := decide_eq_true c4
  clear c4
  obtain rfl := Option.some.inj H
  go_enter Try.func239, Try.ntmps239
  go_wp2_with (first | ((with_reducible refine gate_dst (N := 2) rfl ?_); refine box_event ?hg (N := 2) ?hd (cs := #[.int .i64 a0_0, .slice A0_1 l0_1.length c0_1]) (t := 28) ?hr ?_; (case hd => rfl); (case hg => rfl); (case hr => first | (go_simp; done) | (go_simp; rfl)); intro gb240001 hg w5 hbox hb; have BK240001 := aQ (hbox); have GW240001 := aQ ((by rw [hg]; exact (below_size (by repeat (first | (with_reducible first | exact HB.out | apply below_alloc | apply pw_below_drewN | apply below_drew1) | exact HB.out))) : w.heap.size ≤ gb240001)); have GE240001 := aQ ((by rw [hg]; exact (below_size (by repeat (first | (with_reducible first | exact HB.out | apply below_alloc | apply pw_below_drewN | apply below_drew1) | exact HB.out))) : w.heap.size ≤ gb240001)); replace HB := aQ (below_step (by repeat (first | (with_reducible first | exact HB.out | apply below_alloc | apply pw_below_drewN | apply below_drew1) | exact HB.out)) hb); clear hb hbox hg) | ((with_reducible refine gate_dst (N := 8) rfl ?_); refine Kd.R_lit (Kd.int .i64) _ 3 ?hg (N := 8) ?hd (xs := ([] : List Int)) (inner := []) (ok := fun _ => True) (okp := fun _ => True) ?hr ?hp (fun _ hk => hk) trivial (Below.refl _ _) (Nat.le_refl _) (by simp) ?_; (case hd => rfl); (case hg => rfl); (case hr => first | (go_simp; done) | (go_simp; rfl)); (case hp => exact (Reps.none _ _)); intro v240003 w6 ho7 hb hg_ hnew_; clear hg_ hnew_; (first | rw [← Ny240002.out] at ho7 | (simp only [Int.reduceToNat] at ho7; rw [← Ny240002.out] at ho7)); have HO240004 := aQ (Kd.R_lower ho7 (below_size (by repeat (first | (with_reducible first | exact HB.out | apply below_alloc | apply pw_below_drewN | apply below_drew1 | refine below_set ?_ GE240001.out) | exact HB.out)))); replace BK240001 := aQ (blk_below (g := gb240001) (o := .cells #[.int .i64 a0_0, .slice A0_1 l0_1.length c0_1] 28 (0, 0)) (by (with_reducible repeat (first | refine blk_drewN ?_ _ | refine blk_drew ?_ | refine blk_alloc ?_ _)); exact BK240001.out) hb); replace HB := aQ (below_step (by repeat (first | (with_reducible first | exact HB.out | apply below_alloc | apply pw_below_drewN | apply below_drew1 | refine below_set ?_ GE240001.out) | exact HB.out)) hb); clear hb ho7; have hcz8_0 : w6.cell? ⟨gb240001, 0, none⟩ = some (.int .i64 a0_0) := (blk_cell BK240001.out 0).trans rfl; have hcz8_1 : w6.cell? ⟨gb240001, 1, none⟩ = some (.slice A0_1 l0_1.length c0_1) := (blk_cell BK240001.out 1).trans rfl; have hfz8_0 := blk_frozen BK240001.out 0; have hfz8_1 := blk_frozen BK240001.out 1) | ((with_reducible refine gate_callee (f := 147) rfl ?_); refine goesL_ (some 11) rfl rfl Try.func147 (by kernel_rfl) rfl #[.agg #[.int .i64 a0_0, .slice A0_1 l0_1.length c0_1], .int .i64 a1] rfl (by (try simp only [List.map_toArray, List.map_cons, List.map_nil]); first | done | rfl | (simp only [List.length_drop, List.length_take]; rfl)) ?_; (with_reducible refine (spec_RankOf.calls k a0_0 _ _ l0_1 a1 t240005 _ ?side1 ?side2 A3.out).mono ?_); (case side1 => repeat (first | exact (Kd.C_below HR0_1.out HB.out) | (with_reducible refine Kd.C_alloc ?_ _) | (with_reducible refine Kd.C_drewN ?_ _) | (with_reducible refine Kd.C_drew ?_))); (case side2 => exact HC0_1.out); rintro e w9 ⟨rfl, hb⟩; refine ⟨_, rfl, ?_⟩; replace HO240004 := aQ (Kd.R_below (by (with_reducible repeat (first | apply Kd.R_alloc | apply Kd.R_drewN | apply Kd.R_drew)); exact HO240004.out) hb); replace BK240001 := aQ (blk_below (g := gb240001) (o := .cells #[.int .i64 a0_0, .slice A0_1 l0_1.length c0_1] 28 (0, 0)) (by (with_reducible repeat (first | refine blk_drewN ?_ _ | refine blk_drew ?_ | refine blk_alloc ?_ _)); exact BK240001.out) hb); replace HB := aQ (below_step (by repeat (first | (with_reducible first | exact HB.out | apply below_alloc | apply pw_below_drewN | apply below_drew1 | refine below_set ?_ GE240001.out) | exact HB.out)) hb); (try clear hb); (try clear hb2); (try clear hk); (try clear hi)))
  go_ret
  exact ⟨_, by first | rfl | (simp [errW_none, errW_some] <;> rfl) | (simp [*, errW_none, errW_some] <;> rfl), by (with_reducible repeat (first | apply Kd.R_alloc | apply Kd.R_drewN | apply Kd.R_drew)); exact HO240004.out, by repeat (first | (with_reducible first | exact HB.out | apply below_alloc | apply pw_below_drewN | apply below_drew1 | refine below_set ?_ GE240001.out) | exact HB.out)⟩
 ·rw [if_neg c4] at H
  have c4b0 : decide (t240005 < 0) = false := decide_eq_false c4
  clear c4
  have H' := aQ H
  clear H
  go_enter Try.func239, Try.ntmps239
  go_wp2_with (first | ((with_reducible refine gate_dst (N := 2) rfl ?_); refine box_event ?hg (N := 2) ?hd (cs := #[.int .i64 a0_0, .slice A0_1 l0_1.length c0_1]) (t := 28) ?hr ?_; (case hd => rfl); (case hg => rfl); (case hr => first | (go_simp; done) | (go_simp; rfl)); intro gb240001 hg w10 hbox hb; have BK240001 := aQ (hbox); have GW240001 := aQ ((by rw [hg]; exact (below_size (by repeat (first | (with_reducible first | exact HB.out | apply below_alloc | apply pw_below_drewN | apply below_drew1) | exact HB.out))) : w.heap.size ≤ gb240001)); have GE240001 := aQ ((by rw [hg]; exact (below_size (by repeat (first | (with_reducible first | exact HB.out | apply below_alloc | apply pw_below_drewN | apply below_drew1) | exact HB.out))) : w.heap.size ≤ gb240001)); replace HB := aQ (below_step (by repeat (first | (with_reducible first | exact HB.out | apply below_alloc | apply pw_below_drewN | apply below_drew1) | exact HB.out)) hb); clear hb hbox hg) | ((with_reducible refine gate_dst (N := 8) rfl ?_); refine Kd.R_lit (Kd.int .i64) _ 3 ?hg (N := 8) ?hd (xs := ([] : List Int)) (inner := []) (ok := fun _ => True) (okp := fun _ => True) ?hr ?hp (fun _ hk => hk) trivial (Below.refl _ _) (Nat.le_refl _) (by simp) ?_; (case hd => rfl); (case hg => rfl); (case hr => first | (go_simp; done) | (go_simp; rfl)); (case hp => exact (Reps.none _ _)); intro v240003 w11 ho12 hb hg_ hnew_; clear hg_ hnew_; (first | rw [← Ny240002.out] at ho12 | (simp only [Int.reduceToNat] at ho12; rw [← Ny240002.out] at ho12)); have HO240004 := aQ (Kd.R_lower ho12 (below_size (by repeat (first | (with_reducible first | exact HB.out | apply below_alloc | apply pw_below_drewN | apply below_drew1 | refine below_set ?_ GE240001.out) | exact HB.out)))); replace BK240001 := aQ (blk_below (g := gb240001) (o := .cells #[.int .i64 a0_0, .slice A0_1 l0_1.length c0_1] 28 (0, 0)) (by (with_reducible repeat (first | refine blk_drewN ?_ _ | refine blk_drew ?_ | refine blk_alloc ?_ _)); exact BK240001.out) hb); replace HB := aQ (below_step (by repeat (first | (with_reducible first | exact HB.out | apply below_alloc | apply pw_below_drewN | apply below_drew1 | refine below_set ?_ GE240001.out) | exact HB.out)) hb); clear hb ho12; have hcz13_0 : w11.cell? ⟨gb240001, 0, none⟩ = some (.int .i64 a0_0) := (blk_cell BK240001.out 0).trans rfl; have hcz13_1 : w11.cell? ⟨gb240001, 1, none⟩ = some (.slice A0_1 l0_1.length c0_1) := (blk_cell BK240001.out 1).trans rfl; have hfz13_0 := blk_frozen BK240001.out 0; have hfz13_1 := blk_frozen BK240001.out 1) | ((with_reducible refine gate_callee (f := 147) rfl ?_); refine goesL_ (some 11) rfl rfl Try.func147 (by kernel_rfl) rfl #[.agg #[.int .i64 a0_0, .slice A0_1 l0_1.length c0_1], .int .i64 a1] rfl (by (try simp only [List.map_toArray, List.map_cons, List.map_nil]); first | done | rfl | (simp only [List.length_drop, List.length_take]; rfl)) ?_; (with_reducible refine (spec_RankOf.calls k a0_0 _ _ l0_1 a1 t240005 _ ?side1 ?side2 A3.out).mono ?_); (case side1 => repeat (first | exact (Kd.C_below HR0_1.out HB.out) | (with_reducible refine Kd.C_alloc ?_ _) | (with_reducible refine Kd.C_drewN ?_ _) | (with_reducible refine Kd.C_drew ?_))); (case side2 => exact HC0_1.out); rintro e w14 ⟨rfl, hb⟩; refine ⟨_, rfl, ?_⟩; replace HO240004 := aQ (Kd.R_below (by (with_reducible repeat (first | apply Kd.R_alloc | apply Kd.R_drewN | apply Kd.R_drew)); exact HO240004.out) hb); replace BK240001 := aQ (blk_below (g := gb240001) (o := .cells #[.int .i64 a0_0, .slice A0_1 l0_1.length c0_1] 28 (0, 0)) (by (with_reducible repeat (first | refine blk_drewN ?_ _ | refine blk_drew ?_ | refine blk_alloc ?_ _)); exact BK240001.out) hb); replace HB := aQ (below_step (by repeat (first | (with_reducible first | exact HB.out | apply below_alloc | apply pw_below_drewN | apply below_drew1 | refine below_set ?_ GE240001.out) | exact HB.out)) hb); (try clear hb); (try clear hb2); (try clear hk); (try clear hi)))
  go_loopg [5, 7] k (fun kq v5 v7 w' => ∃ (x5_1 : List Int) (x7_1 : Int), v7 = .int .i64 x7_1 ∧ Aside0 (spec_BasesOf.l0 kq a1 x5_1 t240005 x7_1 a0_0 l0_1 = some r) ∧ Aside0 (kq ≤ k) ∧ Aside0 (Kd.R (Kd.int .i64) 3 w' w.heap.size (fun _ => True) v5 x5_1) ∧ Aside0 (w'.heap[gb240001]? = some (.cells #[.int .i64 a0_0, (.slice A0_1 l0_1.length c0_1)] 28 (0, 0))) ∧ Aside0 (Below w.heap.size w w'))
  case atStart => exact ⟨(y240002), (0), (by first | rfl | (simp; done) | (simp [*]; done)), H', ⟨Nat.le_refl _⟩, ⟨by (with_reducible repeat (first | apply Kd.R_alloc | apply Kd.R_drewN | apply Kd.R_drew)); exact HO240004.out⟩, ⟨by (with_reducible repeat (first | refine blk_drewN ?_ _ | refine blk_drew ?_ | refine blk_alloc ?_ _)); exact BK240001.out⟩, ⟨by repeat (first | (with_reducible first | exact HB.out | apply below_alloc | apply pw_below_drewN | apply below_drew1 | refine below_set ?_ GE240001.out) | exact HB.out)⟩⟩
  case round =>
   clear H'
   try clear c1
   try clear c2
   try clear p2
   try clear c4
   try clear c4b0
   try clear c14
   try clear hcz13_0
   try clear hcz13_1
   try clear hcz8_0
   try clear hcz8_1
   try clear hfz13_0
   try clear hfz13_1
   try clear hfz8_0
   try clear hfz8_1
   obtain ⟨x5_1, x7_1, rfl, HA, HK1, HO_5, BK240001, HB⟩ := hrel
   cases gk with
   | zero => exact absurd HA.out (by simp [spec_BasesOf.l0])
   | succ k1 =>
    have H := HA.out
    clear HA
    simp only [spec_BasesOf.l0] at H
    by_cases c15 : x7_1 < (l0_1.length : Int)
    ·rw [if_pos c15] at H
     have c15b0 : decide (x7_1 < (l0_1.length : Int)) = true := decide_eq_true c15
     clear c15
     by_cases c16 : 0 ≤ x7_1
     ·rw [if_pos c16] at H
      have c16b0 : decide (0 ≤ x7_1) = true := decide_eq_true c16
      clear c16
      replace H := Option.bind_eq_some_iff.mp H
      obtain ⟨t240007, A170, H⟩ := H
      replace H : (if t240007 = t240005 then (if x5_1.length < 17592186044416 then (spec_BasesOf.l0 k1 a1 (x5_1 ++ [Go.bits .and .i64 (rd l0_1 x7_1) a1]) t240005 (wrap64 (x7_1 + 1)) a0_0 l0_1) else (none)) else (spec_BasesOf.l0 k1 a1 x5_1 t240005 (wrap64 (x7_1 + 1)) a0_0 l0_1)) = some r := H
      have A17 := aQ A170
      clear A170
      by_cases c18 : t240007 = t240005
      ·rw [if_pos c18] at H
       have c18b0 : (t240007 == t240005) = true := beq_iff_eq.mpr c18
       have c18b1 : (t240007 != t240005) = false := bne_eq_false_iff_eq.mpr c18
       clear c18
       by_cases c19 : x5_1.length < 17592186044416
       ·rw [if_pos c19] at H
        have LMc19 := aQ c19
        clear c19
        obtain ⟨y240009, hy240009⟩ : ∃ y_ : List Int, y_ = (x5_1 ++ [Go.bits .and .i64 (rd l0_1 x7_1) a1]) := ⟨_, rfl⟩
        replace H : (spec_BasesOf.l0 k1 a1 y240009 t240005 (wrap64 (x7_1 + 1)) a0_0 l0_1) = some r := by first | (rw [hy240009]; with_reducible exact H) | (have H2_ := (Option.bind_some _ _).symm.trans H; rw [hy240009]; with_reducible exact H2_) | (have H2_ := (Option.bind_some _ _).symm.trans H; with_reducible exact H2_) | with_reducible exact H | (rw [hy240009]; exact H) | exact H
        have Ny240009 := aQ hy240009
        clear hy240009
        have H' := aQ H
        clear H
        have hcz20_0 : wr.cell? ⟨gb240001, 0, none⟩ = some (.int .i64 a0_0) := (blk_cell BK240001.out 0).trans rfl
        have hcz20_1 : wr.cell? ⟨gb240001, 1, none⟩ = some (.slice A0_1 l0_1.length c0_1) := (blk_cell BK240001.out 1).trans rfl
        have hfz20_0 := blk_frozen BK240001.out 0
        have hfz20_1 := blk_frozen BK240001.out 1
        have p240006 : 0 ≤ (x7_1 : Int) := of_decide_eq_true (by first | (with_reducible assumption) | assumption)
        have q240006 : x7_1 < (l0_1.length : Int) := of_decide_eq_true (by first | (with_reducible assumption) | assumption)
        obtain ⟨ad240006, e240006, hx240006_0⟩ := Kd.at_int HR0_1.out x7_1 p240006 q240006
        cases e240006
        replace hx240006_0 := (HB.out.cell (World.block_lt_of_cell? w _ hx240006_0)).trans hx240006_0
        replace p240006 := eq_true p240006
        replace q240006 := eq_true q240006
        go_wp2_with (first | ((with_reducible refine gate_callee (f := 116) rfl ?_); refine goesL_ (some 29) rfl rfl Try.func116 (by kernel_rfl) rfl #[.int .i64 (Go.bits .and .i64 (rd l0_1 x7_1) a1)] rfl (by (try simp only [List.map_toArray, List.map_cons, List.map_nil]); first | done | rfl | (simp only [List.length_drop, List.length_take]; rfl)) ?_; (with_reducible refine (spec_CountOf.calls k1 (Go.bits .and .i64 (rd l0_1 x7_1) a1) t240007 _ A17.out).mono ?_); rintro e w' ⟨rfl, ⟨nd, rfl⟩⟩; refine ⟨_, rfl, ?_⟩; have p240008 : 0 ≤ (x7_1 : Int) := of_decide_eq_true (by first | (with_reducible assumption) | assumption); have q240008 : x7_1 < (l0_1.length : Int) := of_decide_eq_true (by first | (with_reducible assumption) | assumption); obtain ⟨ad240008, e240008, hx240008_0⟩ := Kd.at_int HR0_1.out x7_1 p240008 q240008; obtain rfl : ad240006 = ad240008 := (by injection e240008); replace hx240008_0 := (HB.out.cell (World.block_lt_of_cell? w _ hx240008_0)).trans hx240008_0; replace p240008 := eq_true p240008; replace q240008 := eq_true q240008) | ((with_reducible refine gate_builtin (b := .append) (xs := #[.tmp 32, .tmp 40]) rfl ?_); at_builtin; refine Kd.R_append (Kd.int .i64) (w0 := w) w.heap.size rfl (.tmp 32) (.tmp 40) 22 3 (.int .i64 0) 8 rfl Try.underlying22 info3 rfl (by decide) (by omega) u5 x5_1 (Go.bits .and .i64 (rd l0_1 x7_1) a1) [.int .i64 (Go.bits .and .i64 (rd l0_1 x7_1) a1)] (fun _ => True) (fun _ => False) rfl rfl ?aP (fun _ hk => hk.elim) ?aF ?aO ?aB ?aS ?aL ?_; (case aP => exact rfl); (case aB => exact (by repeat (first | (with_reducible first | exact HB.out | apply below_alloc | apply pw_below_drewN | apply below_drew1 | refine below_set ?_ GE240001.out) | exact HB.out))); (case aF => exact (fun _ _ => trivial)); (case aO => exact (by (with_reducible repeat (first | apply Kd.R_alloc | apply Kd.R_drewN | apply Kd.R_drew)); exact HO_5.out)); (case aS => exact (below_size (by repeat (first | (with_reducible first | exact HB.out | apply below_alloc | apply pw_below_drewN | apply below_drew1 | refine below_set ?_ GE240001.out) | exact HB.out)))); (case aL => have := LMc19.out; omega); intro v240010 w21 ho hb hg hat; rw [← Ny240009.out] at ho; replace BK240001 := aQ (blk_grown (g := gb240001) (o := .cells #[.int .i64 a0_0, .slice (some ad240006) l0_1.length c0_1] 28 (0, 0)) (by (with_reducible repeat (first | refine blk_drewN ?_ _ | refine blk_drew ?_ | refine blk_alloc ?_ _)); exact BK240001.out) hg (Kd.R_ne HO_5.out BK240001.out (by decide))); replace HB := aQ (hb); have HO240011 := aQ (ho); clear HO_5; clear ho hb hg hat))
        go_roundg k1
        case measure => have := HK1.out; omega
        case rel => exact ⟨(y240009), (wrap64 (x7_1 + 1)), (by first | rfl | (simp; done) | (simp [*]; done)), H', ⟨by have := HK1.out; omega⟩, ⟨by (with_reducible repeat (first | apply Kd.R_alloc | apply Kd.R_drewN | apply Kd.R_drew)); exact HO240011.out⟩, ⟨by (with_reducible repeat (first | refine blk_drewN ?_ _ | refine blk_drew ?_ | refine blk_alloc ?_ _)); exact BK240001.out⟩, ⟨by repeat (first | (with_reducible first | exact HB.out | apply below_alloc | apply pw_below_drewN | apply below_drew1 | refine below_set ?_ GE240001.out) | exact HB.out)⟩⟩
       ·rw [if_neg c19] at H
        exact absurd H (by simp)
      ·rw [if_neg c18] at H
       have c18b0 : (t240007 == t240005) = false := beq_eq_false_iff_ne.mpr c18
       have c18b1 : (t240007 != t240005) = true := bne_iff_ne.mpr c18
       have H' := aQ H
       clear H
       have hcz22_0 : wr.cell? ⟨gb240001, 0, none⟩ = some (.int .i64 a0_0) := (blk_cell BK240001.out 0).trans rfl
       have hcz22_1 : wr.cell? ⟨gb240001, 1, none⟩ = some (.slice A0_1 l0_1.length c0_1) := (blk_cell BK240001.out 1).trans rfl
       have hfz22_0 := blk_frozen BK240001.out 0
       have hfz22_1 := blk_frozen BK240001.out 1
       have p240006 : 0 ≤ (x7_1 : Int) := of_decide_eq_true (by first | (with_reducible assumption) | assumption)
       have q240006 : x7_1 < (l0_1.length : Int) := of_decide_eq_true (by first | (with_reducible assumption) | assumption)
       obtain ⟨ad240006, e240006, hx240006_0⟩ := Kd.at_int HR0_1.out x7_1 p240006 q240006
       cases e240006
       replace hx240006_0 := (HB.out.cell (World.block_lt_of_cell? w _ hx240006_0)).trans hx240006_0
       replace p240006 := eq_true p240006
       replace q240006 := eq_true q240006
       go_wp2_with (first | ((with_reducible refine gate_callee (f := 116) rfl ?_); refine goesL_ (some 29) rfl rfl Try.func116 (by kernel_rfl) rfl #[.int .i64 (Go.bits .and .i64 (rd l0_1 x7_1) a1)] rfl (by (try simp only [List.map_toArray, List.map_cons, List.map_nil]); first | done | rfl | (simp only [List.length_drop, List.length_take]; rfl)) ?_; (with_reducible refine (spec_CountOf.calls k1 (Go.bits .and .i64 (rd l0_1 x7_1) a1) t240007 _ A17.out).mono ?_); rintro e w' ⟨rfl, ⟨nd, rfl⟩⟩; refine ⟨_, rfl, ?_⟩))
       go_roundg k1
       case measure => have := HK1.out; omega
       case rel => exact ⟨(x5_1), (wrap64 (x7_1 + 1)), (by first | rfl | (simp; done) | (simp [*]; done)), H', ⟨by have := HK1.out; omega⟩, ⟨by (with_reducible repeat (first | apply Kd.R_alloc | apply Kd.R_drewN | apply Kd.R_drew)); exact HO_5.out⟩, ⟨by (with_reducible repeat (first | refine blk_drewN ?_ _ | refine blk_drew ?_ | refine blk_alloc ?_ _)); exact BK240001.out⟩, ⟨by repeat (first | (with_reducible first | exact HB.out | apply below_alloc | apply pw_below_drewN | apply below_drew1 | refine below_set ?_ GE240001.out) | exact HB.out)⟩⟩
     ·rw [if_neg c16] at H
      exact absurd H (by simp)
    ·rw [if_neg c15] at H
     have c15b0 : decide (x7_1 < (l0_1.length : Int)) = false := decide_eq_false c15
     clear c15
     replace H := Option.bind_eq_some_iff.mp H
     obtain ⟨t240012, A230, H⟩ := H
     replace H : (some t240012) = some r := H
     have A23 := aQ A230
     clear A230
     obtain rfl := Option.some.inj H
     have hcz24_0 : wr.cell? ⟨gb240001, 0, none⟩ = some (.int .i64 a0_0) := (blk_cell BK240001.out 0).trans rfl
     have hcz24_1 : wr.cell? ⟨gb240001, 1, none⟩ = some (.slice A0_1 l0_1.length c0_1) := (blk_cell BK240001.out 1).trans rfl
     have hfz24_0 := blk_frozen BK240001.out 0
     have hfz24_1 := blk_frozen BK240001.out 1
     obtain ⟨Ao25, co25, eo25⟩ := Kd.R_slice HO_5.out
     subst eo25
     go_wp2_with (first | ((with_reducible refine gate_callee (f := 168) rfl ?_); refine goesL_ (some 43) rfl rfl Try.func168 (by kernel_rfl) rfl #[.slice Ao25 x5_1.length co25] rfl (by (try simp only [List.map_toArray, List.map_cons, List.map_nil]); first | done | rfl | (simp only [List.length_drop, List.length_take]; rfl)) ?_; (with_reducible refine (spec_SortSets.calls k1 _ _ x5_1 t240012 _ ?side1 ?side2 A23.out).mono ?_); (case side1 => repeat (first | exact (Kd.R_reads' HO_5.out).2.2 | (with_reducible refine Kd.C_alloc ?_ _) | (with_reducible refine Kd.C_drewN ?_ _) | (with_reducible refine Kd.C_drew ?_))); (case side2 => exact (Kd.R_reads' HO_5.out).2.1); rintro e w26 ⟨v240013, rfl, ho0, hb⟩; refine ⟨_, rfl, ?_⟩; have HO240014 := aQ (Kd.R_lower (Kd.R_new' ho0 (Kd.R_lt (by (with_reducible repeat (first | apply Kd.R_alloc | apply Kd.R_drewN | apply Kd.R_drew)); exact HO_5.out))) (below_size (by repeat (first | (with_reducible first | exact HB.out | apply below_alloc | apply pw_below_drewN | apply below_drew1 | refine below_set ?_ GE240001.out) | exact HB.out)))); replace HO_5 := aQ (Kd.R_elder' (by (with_reducible repeat (first | apply Kd.R_alloc | apply Kd.R_drewN | apply Kd.R_drew)); exact HO_5.out) (Kd.R_base ho0) hb); replace BK240001 := aQ (blk_below (g := gb240001) (o := .cells #[.int .i64 a0_0, .slice A0_1 l0_1.length c0_1] 28 (0, 0)) (by (with_reducible repeat (first | refine blk_drewN ?_ _ | refine blk_drew ?_ | refine blk_alloc ?_ _)); exact BK240001.out) hb); replace HB := aQ (below_step (by repeat (first | (with_reducible first | exact HB.out | apply below_alloc | apply pw_below_drewN | apply below_drew1 | refine below_set ?_ GE240001.out) | exact HB.out)) hb); (try clear hb); (try clear hb2); (try clear hk); (try clear hi); (try clear ho0)))
     go_ret
     exact ⟨_, by first | rfl | (simp [errW_none, errW_some] <;> rfl) | (simp [*, errW_none, errW_some] <;> rfl), by (with_reducible repeat (first | apply Kd.R_alloc | apply Kd.R_drewN | apply Kd.R_drew)); exact Kd.R_mono HO240014.out (fun _ hk => trivial), by repeat (first | (with_reducible first | exact HB.out | apply below_alloc | apply pw_below_drewN | apply below_drew1 | refine below_set ?_ GE240001.out) | exact HB.out)⟩
/-! ### spec_DeleteSet: function 172 -/
def spec_DeleteSet.f (k : Nat) (a0_0 : Int) (l0_1 : List Int) (a1 : Int) : Option (Int × List Int) := (spec_RankOf.f k a0_0 l0_1 a1).bind fun t173003 => (if t173003 < 0 then (some (0, ([] : List Int))) else ((spec_FullSet.f a0_0).bind fun t173004 => ((spec_BasesOf.f k a0_0 l0_1 (wrap64 (t173004 - a1))).bind fun t173005 => ((spec_l10Pack.f k (wrap64 (t173004 - a1)) t173005).bind fun bt173008 => (some (bt173008.1, bt173008.2))))))
theorem spec_DeleteSet.mono : ∀ a0 a1 a2 k, LeO (spec_DeleteSet.f k a0 a1 a2) (spec_DeleteSet.f (k + 1) a0 a1 a2) := by
 intro a0 a1 a2 k
 unfold spec_DeleteSet.f
 repeat' first
   | (with_reducible exact spec_BasesOf.mono _ _ _ _)
   | (with_reducible exact spec_RankOf.mono _ _ _ _)
   | (with_reducible exact spec_l10Pack.mono _ _ _)
   | (with_reducible exact LeO.refl _)
   | (with_reducible exact LeO.none _)
   | (with_reducible refine LeO.ite ?_ ?_)
   | (with_reducible refine LeO.bind ?_ (fun _ => ?_))
   | exact spec_BasesOf.mono _ _ _ _
   | exact spec_RankOf.mono _ _ _ _
   | exact spec_l10Pack.mono _ _ _
   | exact LeO.none _
   | refine LeO.ite ?_ ?_
   | refine LeO.bind ?_ (fun _ => ?_)
set_option maxHeartbeats 8000000 in
set_option maxRecDepth 100000 in
theorem spec_DeleteSet.calls (k : Nat) (a0_0 : Int) (A0_1 : Option Addr) (c0_1 : Nat) (l0_1 : List Int) (a1 : Int) (r1 : Int) (r2 : List Int) (w : World) (hr0_1 : Kd.C (Kd.int .i64) w A0_1 l0_1.length l0_1) (hc0_1 : l0_1.length ≤ c0_1) (h : spec_DeleteSet.f k a0_0 l0_1 a1 = some (r1, r2)) :
  Calls Try.prog 172 #[.agg #[.int .i64 a0_0, .slice A0_1 l0_1.length c0_1], .int .i64 a1] w fun e w' => ∃ v1_ : Value, e = .returned (.agg #[.int .i64 r1, v1_]) ∧ Kd.R (Kd.int .i64) 3 w' w.heap.size (fun _ => True) v1_ r2 ∧ Below w.heap.size w w' := by
 have hu28 := Try.underlying28
 have HR0_1 := aQ hr0_1
 have HC0_1 := aQ hc0_1
 clear hr0_1 hc0_1
 have HB := aQ (Below.refl w.heap.size w)
 have H : ((spec_RankOf.f k a0_0 l0_1 a1).bind fun t173003 => (if t173003 < 0 then (some (0, ([] : List Int))) else ((spec_FullSet.f a0_0).bind fun t173004 => ((spec_BasesOf.f k a0_0 l0_1 (wrap64 (t173004 - a1))).bind fun t173005 => ((spec_l10Pack.f k (wrap64 (t173004 - a1)) t173005).bind fun bt173008 => (some (bt173008.1, bt173008.2))))))) = some (r1, r2) := h
 clear h
 replace H := Option.bind_eq_some_iff.mp H
 obtain ⟨t173003, A30, H⟩ := H
 replace H : (if t173003 < 0 then (some (0, ([] : List Int))) else ((spec_FullSet.f a0_0).bind fun t173004 => ((spec_BasesOf.f k a0_0 l0_1 (wrap64 (t173004 - a1))).bind fun t173005 => ((spec_l10Pack.f k (wrap64 (t173004 - a1)) t173005).bind fun bt173008 => (some (bt173008.1, bt173008.2)))))) = some (r1, r2) := H
 have A3 := aQ A30
 clear A30
 by_cases c4 : t173003 < 0
 ·rw [if_pos c4] at H
  have c4b0 : decide (t173003 < 0) = true := decide_eq_true c4
  clear c4
  simp only [Option.some.injEq, Prod.mk.injEq] at H
  obtain ⟨rfl, rfl⟩ := H
  go_enter Try.func172, Try.ntmps172
  go_wp2_with (first | ((with_reducible refine gate_dst (N := 2) rfl ?_); refine box_event ?hg (N := 2) ?hd (cs := #[.int .i64 a0_0, .slice A0_1 l0_1.length c0_1]) (t := 28) ?hr ?_; (case hd => rfl); (case hg => rfl); (case hr => first | (go_simp; done) | (go_simp; rfl)); intro gb173001 hg w5 hbox hb; have BK173001 := aQ (hbox); have GW173001 := aQ ((by rw [hg]; exact (below_size (by repeat (first | (with_reducible first | exact HB.out | apply below_alloc | apply pw_below_drewN | apply below_drew1) | exact HB.out))) : w.heap.size ≤ gb173001)); have GE173001 := aQ ((by rw [hg]; exact (below_size (by repeat (first | (with_reducible first | exact HB.out | apply below_alloc | apply pw_below_drewN | apply below_drew1) | exact HB.out))) : w.heap.size ≤ gb173001)); replace HB := aQ (below_step (by repeat (first | (with_reducible first | exact HB.out | apply below_alloc | apply pw_below_drewN | apply below_drew1) | exact HB.out)) hb); clear hb hbox hg) | ((with_reducible refine gate_dst (N := 4) rfl ?_); refine box_event ?hg (N := 4) ?hd (cs := #[.int .i64 0, .slice none 0 0]) (t := 28) ?hr ?_; (case hd => rfl); (case hg => rfl); (case hr => first | (go_simp; done) | (go_simp; rfl)); intro gb173002 hg w6 hbox hb; have BK173002 := aQ (hbox); have GW173002 := aQ ((by rw [hg]; exact (below_size (by repeat (first | (with_reducible first | exact HB.out | apply below_alloc | apply pw_below_drewN | apply below_drew1 | refine below_set ?_ GE173001.out) | exact HB.out))) : w.heap.size ≤ gb173002)); have GE173002 := aQ ((by rw [hg]; exact (below_size (by repeat (first | (with_reducible first | exact HB.out | apply below_alloc | apply pw_below_drewN | apply below_drew1 | refine below_set ?_ GE173001.out) | exact HB.out))) : w.heap.size ≤ gb173002)); replace HB := aQ (below_step (by repeat (first | (with_reducible first | exact HB.out | apply below_alloc | apply pw_below_drewN | apply below_drew1 | refine below_set ?_ GE173001.out) | exact HB.out)) hb); have NB173001_173002 := aQ ((by rw [hg]; exact Nat.ne_of_lt (blk_lt (g := gb173001) (o := .cells #[.int .i64 a0_0, .slice A0_1 l0_1.length c0_1] 28 (0, 0)) (by (with_reducible repeat (first | refine blk_drewN ?_ _ | refine blk_drew ?_ | refine blk_alloc ?_ _)); exact BK173001.out)) : gb173001 ≠ gb173002)); have NB173002_173001 := aQ ((by rw [hg]; exact Nat.ne_of_gt (blk_lt (g := gb173001) (o := .cells #[.int .i64 a0_0, .slice A0_1 l0_1.length c0_1] 28 (0, 0)) (by (with_reducible repeat (first | refine blk_drewN ?_ _ | refine blk_drew ?_ | refine blk_alloc ?_ _)); exact BK173001.out)) : gb173002 ≠ gb173001)); replace BK173001 := aQ (blk_below (g := gb173001) (o := .cells #[.int .i64 a0_0, .slice A0_1 l0_1.length c0_1] 28 (0, 0)) (by (with_reducible repeat (first | refine blk_drewN ?_ _ | refine blk_drew ?_ | refine blk_alloc ?_ _)); exact BK173001.out) hb); clear hb hbox hg; have hnb7 := NB173001_173002.out; have hnc7 := NB173002_173001.out; have hcz8_0 : w6.cell? ⟨gb173001, 0, none⟩ = some (.int .i64 a0_0) := (blk_cell BK173001.out 0).trans rfl; have hcz8_1 : w6.cell? ⟨gb173001, 1, none⟩ = some (.slice A0_1 l0_1.length c0_1) := (blk_cell BK173001.out 1).trans rfl; have hfz8_0 := blk_frozen BK173001.out 0; have hfz8_1 := blk_frozen BK173001.out 1) | ((with_reducible refine gate_callee (f := 147) rfl ?_); refine goesL_ (some 8) rfl rfl Try.func147 (by kernel_rfl) rfl #[.agg #[.int .i64 a0_0, .slice A0_1 l0_1.length c0_1], .int .i64 a1] rfl (by (try simp only [List.map_toArray, List.map_cons, List.map_nil]); first | done | rfl | (simp only [List.length_drop, List.length_take]; rfl)) ?_; (with_reducible refine (spec_RankOf.calls k a0_0 _ _ l0_1 a1 t173003 _ ?side1 ?side2 A3.out).mono ?_); (case side1 => repeat (first | exact (Kd.C_below HR0_1.out HB.out) | (with_reducible refine Kd.C_alloc ?_ _) | (with_reducible refine Kd.C_drewN ?_ _) | (with_reducible refine Kd.C_drew ?_))); (case side2 => exact HC0_1.out); rintro e w9 ⟨rfl, hb⟩; refine ⟨_, rfl, ?_⟩; replace BK173001 := aQ (blk_below (g := gb173001) (o := .cells #[.int .i64 a0_0, .slice A0_1 l0_1.length c0_1] 28 (0, 0)) (by (with_reducible repeat (first | refine blk_drewN ?_ _ | refine blk_drew ?_ | refine blk_alloc ?_ _)); exact BK173001.out) hb); replace BK173002 := aQ (blk_below (g := gb173002) (o := .cells #[.int .i64 0, .slice none 0 0] 28 (0, 0)) (by (with_reducible repeat (first | refine blk_drewN ?_ _ | refine blk_drew ?_ | refine blk_alloc ?_ _)); exact BK173002.out) hb); replace HB := aQ (below_step (by repeat (first | (with_reducible first | exact HB.out | apply below_alloc | apply pw_below_drewN | apply below_drew1 | refine below_set ?_ GE173001.out | refine below_set ?_ GE173002.out) | exact HB.out)) hb); (try clear hb); (try clear hb2); (try clear hk); (try clear hi); have hcz10_0 : w9.cell? ⟨gb173002, 0, none⟩ = some (.int .i64 0) := (blk_cell BK173002.out 0).trans rfl; have hcz10_1 : w9.cell? ⟨gb173002, 1, none⟩ = some (.slice none 0 0) := (blk_cell BK173002.out 1).trans rfl; have hfz10_0 := blk_frozen BK173002.out 0; have hfz10_1 := blk_frozen BK173002.out 1))
  refine bodyPost_ret (results_cell_row rfl _ _ gb173002 28 #[.int .i64 0, .slice none 0 0] (0, 0) _ rfl (by (with_reducible repeat (first | refine blk_drewN ?_ _ | refine blk_drew ?_ | refine blk_alloc ?_ _)); refine blk_put (cs := #[.int .i64 0, .slice none 0 0]) ?_ 1 _ rfl; (with_reducible repeat (first | refine blk_drewN ?_ _ | refine blk_drew ?_ | refine blk_alloc ?_ _)); refine blk_put (cs := #[.int .i64 0, .slice none 0 0]) ?_ 0 _ rfl; (with_reducible repeat (first | refine blk_drewN ?_ _ | refine blk_drew ?_ | refine blk_alloc ?_ _)); exact BK173002.out) Try.underlying28 rfl (by kernel_rfl)) rfl ?_
  exact ⟨_, by first | rfl | (simp [errW_none, errW_some] <;> rfl) | (simp [*, errW_none, errW_some] <;> rfl), by first | exact Kd.R_nil _ _ _ _ _ | exact Kd.N_nil _ _ _ _ _ | exact Kd.V_nil _ _ _ _ _ | exact Kd.Q_nil _ _ _ _ _ | exact Kd.S_nil _ _ _ _ _, by repeat (first | (with_reducible first | exact HB.out | apply below_alloc | apply pw_below_drewN | apply below_drew1 | refine below_set ?_ GE173001.out | refine below_set ?_ GE173002.out) | exact HB.out)⟩
 ·rw [if_neg c4] at H
  have c4b0 : decide (t173003 < 0) = false := decide_eq_false c4
  clear c4
  replace H := Option.bind_eq_some_iff.mp H
  obtain ⟨t173004, A110, H⟩ := H
  replace H : ((spec_BasesOf.f k a0_0 l0_1 (wrap64 (t173004 - a1))).bind fun t173005 => ((spec_l10Pack.f k (wrap64 (t173004 - a1)) t173005).bind fun bt173008 => (some (bt173008.1, bt173008.2)))) = some (r1, r2) := H
  have A11 := aQ A110
  clear A110
  replace H := Option.bind_eq_some_iff.mp H
  obtain ⟨t173005, A120, H⟩ := H
  replace H : ((spec_l10Pack.f k (wrap64 (t173004 - a1)) t173005).bind fun bt173008 => (some (bt173008.1, bt173008.2))) = some (r1, r2) := H
  have A12 := aQ A120
  clear A120
  replace H := Option.bind_eq_some_iff.mp H
  obtain ⟨⟨t173008, t173009⟩, A130, H⟩ := H
  replace H : (some (t173008, t173009)) = some (r1, r2) := H
  have A13 := aQ A130
  clear A130
  simp only [Option.some.injEq, Prod.mk.injEq] at H
  obtain ⟨rfl, rfl⟩ := H
  go_enter Try.func172, Try.ntmps172
  go_wp2_with (first | ((with_reducible refine gate_dst (N := 2) rfl ?_); refine box_event ?hg (N := 2) ?hd (cs := #[.int .i64 a0_0, .slice A0_1 l0_1.length c0_1]) (t := 28) ?hr ?_; (case hd => rfl); (case hg => rfl); (case hr => first | (go_simp; done) | (go_simp; rfl)); intro gb173001 hg w14 hbox hb; have BK173001 := aQ (hbox); have GW173001 := aQ ((by rw [hg]; exact (below_size (by repeat (first | (with_reducible first | exact HB.out | apply below_alloc | apply pw_below_drewN | apply below_drew1) | exact HB.out))) : w.heap.size ≤ gb173001)); have GE173001 := aQ ((by rw [hg]; exact (below_size (by repeat (first | (with_reducible first | exact HB.out | apply below_alloc | apply pw_below_drewN | apply below_drew1) | exact HB.out))) : w.heap.size ≤ gb173001)); replace HB := aQ (below_step (by repeat (first | (with_reducible first | exact HB.out | apply below_alloc | apply pw_below_drewN | apply below_drew1) | exact HB.out)) hb); clear hb hbox hg) | ((with_reducible refine gate_dst (N := 4) rfl ?_); refine box_event ?hg (N := 4) ?hd (cs := #[.int .i64 0, .slice none 0 0]) (t := 28) ?hr ?_; (case hd => rfl); (case hg => rfl); (case hr => first | (go_simp; done) | (go_simp; rfl)); intro gb173002 hg w15 hbox hb; have BK173002 := aQ (hbox); have GW173002 := aQ ((by rw [hg]; exact (below_size (by repeat (first | (with_reducible first | exact HB.out | apply below_alloc | apply pw_below_drewN | apply below_drew1 | refine below_set ?_ GE173001.out) | exact HB.out))) : w.heap.size ≤ gb173002)); have GE173002 := aQ ((by rw [hg]; exact (below_size (by repeat (first | (with_reducible first | exact HB.out | apply below_alloc | apply pw_below_drewN | apply below_drew1 | refine below_set ?_ GE173001.out) | exact HB.out))) : w.heap.size ≤ gb173002)); replace HB := aQ (below_step (by repeat (first | (with_reducible first | exact HB.out | apply below_alloc | apply pw_below_drewN | apply below_drew1 | refine below_set ?_ GE173001.out) | exact HB.out)) hb); have NB173001_173002 := aQ ((by rw [hg]; exact Nat.ne_of_lt (blk_lt (g := gb173001) (o := .cells #[.int .i64 a0_0, .slice A0_1 l0_1.length c0_1] 28 (0, 0)) (by (with_reducible repeat (first | refine blk_drewN ?_ _ | refine blk_drew ?_ | refine blk_alloc ?_ _)); exact BK173001.out)) : gb173001 ≠ gb173002)); have NB173002_173001 := aQ ((by rw [hg]; exact Nat.ne_of_gt (blk_lt (g := gb173001) (o := .cells #[.int .i64 a0_0, .slice A0_1 l0_1.length c0_1] 28 (0, 0)) (by (with_reducible repeat (first | refine blk_drewN ?_ _ | refine blk_drew ?_ | refine blk_alloc ?_ _)); exact BK173001.out)) : gb173002 ≠ gb173001)); replace BK173001 := aQ (blk_below (g := gb173001) (o := .cells #[.int .i64 a0_0, .slice A0_1 l0_1.length c0_1] 28 (0, 0)) (by (with_reducible repeat (first | refine blk_drewN ?_ _ | refine blk_drew ?_ | refine blk_alloc ?_ _)); exact BK173001.out) hb); clear hb hbox hg; have hnb16 := NB173001_173002.out; have hnc16 := NB173002_173001.out; have hcz17_0 : w15.cell? ⟨gb173001, 0, none⟩ = some (.int .i64 a0_0) := (blk_cell BK173001.out 0).trans rfl; have hcz17_1 : w15.cell? ⟨gb173001, 1, none⟩ = some (.slice A0_1 l0_1.length c0_1) := (blk_cell BK173001.out 1).trans rfl; have hfz17_0 := blk_frozen BK173001.out 0; have hfz17_1 := blk_frozen BK173001.out 1) | ((with_reducible refine gate_callee (f := 147) rfl ?_); refine goesL_ (some 8) rfl rfl Try.func147 (by kernel_rfl) rfl #[.agg #[.int .i64 a0_0, .slice A0_1 l0_1.length c0_1], .int .i64 a1] rfl (by (try simp only [List.map_toArray, List.map_cons, List.map_nil]); first | done | rfl | (simp only [List.length_drop, List.length_take]; rfl)) ?_; (with_reducible refine (spec_RankOf.calls k a0_0 _ _ l0_1 a1 t173003 _ ?side1 ?side2 A3.out).mono ?_); (case side1 => repeat (first | exact (Kd.C_below HR0_1.out HB.out) | (with_reducible refine Kd.C_alloc ?_ _) | (with_reducible refine Kd.C_drewN ?_ _) | (with_reducible refine Kd.C_drew ?_))); (case side2 => exact HC0_1.out); rintro e w18 ⟨rfl, hb⟩; refine ⟨_, rfl, ?_⟩; replace BK173001 := aQ (blk_below (g := gb173001) (o := .cells #[.int .i64 a0_0, .slice A0_1 l0_1.length c0_1] 28 (0, 0)) (by (with_reducible repeat (first | refine blk_drewN ?_ _ | refine blk_drew ?_ | refine blk_alloc ?_ _)); exact BK173001.out) hb); replace BK173002 := aQ (blk_below (g := gb173002) (o := .cells #[.int .i64 0, .slice none 0 0] 28 (0, 0)) (by (with_reducible repeat (first | refine blk_drewN ?_ _ | refine blk_drew ?_ | refine blk_alloc ?_ _)); exact BK173002.out) hb); replace HB := aQ (below_step (by repeat (first | (with_reducible first | exact HB.out | apply below_alloc | apply pw_below_drewN | apply below_drew1 | refine below_set ?_ GE173001.out | refine below_set ?_ GE173002.out) | exact HB.out)) hb); (try clear hb); (try clear hb2); (try clear hk); (try clear hi); have hcz19_0 : w18.cell? ⟨gb173001, 0, none⟩ = some (.int .i64 a0_0) := (blk_cell BK173001.out 0).trans rfl; have hcz19_1 : w18.cell? ⟨gb173001, 1, none⟩ = some (.slice A0_1 l0_1.length c0_1) := (blk_cell BK173001.out 1).trans rfl; have hfz19_0 := blk_frozen BK173001.out 0; have hfz19_1 := blk_frozen BK173001.out 1) | ((with_reducible refine gate_callee (f := 115) rfl ?_); refine goesL_ (some 13) rfl rfl Try.func115 (by kernel_rfl) rfl #[.int .i64 a0_0] rfl (by (try simp only [List.map_toArray, List.map_cons, List.map_nil]); first | done | rfl | (simp only [List.length_drop, List.length_take]; rfl)) ?_; (with_reducible refine (spec_FullSet.calls a0_0 t173004 _ A11.out).mono ?_); rintro e w' ⟨rfl, ⟨nd, rfl⟩⟩; refine ⟨_, rfl, ?_⟩; (try (rw [drewN_self w18]; generalize hq_ : World.drewN w18 _ = w18; have n0_ : Aside0 (w18.heap[gb173001]? = some (.cells #[.int .i64 a0_0, .slice A0_1 l0_1.length c0_1] 28 (0, 0))) := ⟨by rw [← hq_]; exact (by (with_reducible repeat (first | refine blk_drewN ?_ _ | refine blk_drew ?_ | refine blk_alloc ?_ _)); exact BK173001.out)⟩; have n1_ : Aside0 (w18.heap[gb173002]? = some (.cells #[.int .i64 0, .slice none 0 0] 28 (0, 0))) := ⟨by rw [← hq_]; exact (by (with_reducible repeat (first | refine blk_drewN ?_ _ | refine blk_drew ?_ | refine blk_alloc ?_ _)); exact BK173002.out)⟩; have n2_ : Aside0 (Below w.heap.size w w18) := ⟨by rw [← hq_]; exact (by repeat (first | (with_reducible first | exact HB.out | apply below_alloc | apply pw_below_drewN | apply below_drew1 | refine below_set ?_ GE173001.out | refine below_set ?_ GE173002.out) | exact HB.out))⟩; clear BK173001 BK173002 HB hq_; have BK173001 := n0_; have BK173002 := n1_; have HB := n2_; clear n0_ n1_ n2_; have hcqgb173001_0 : w18.cell? ⟨gb173001, 0, none⟩ = some (.int .i64 a0_0) := (blk_cell BK173001.out 0).trans rfl; have hfqgb173001_0 := blk_frozen BK173001.out 0; have hcqgb173001_1 : w18.cell? ⟨gb173001, 1, none⟩ = some (.slice A0_1 l0_1.length c0_1) := (blk_cell BK173001.out 1).trans rfl; have hfqgb173001_1 := blk_frozen BK173001.out 1; have hcqgb173002_0 : w18.cell? ⟨gb173002, 0, none⟩ = some (.int .i64 0) := (blk_cell BK173002.out 0).trans rfl; have hfqgb173002_0 := blk_frozen BK173002.out 0; have hcqgb173002_1 : w18.cell? ⟨gb173002, 1, none⟩ = some (.slice none 0 0) := (blk_cell BK173002.out 1).trans rfl; have hfqgb173002_1 := blk_frozen BK173002.out 1))) | ((with_reducible refine gate_callee (f := 239) rfl ?_); refine goesL_ (some 19) rfl rfl Try.func239 (by kernel_rfl) rfl #[.agg #[.int .i64 a0_0, .slice A0_1 l0_1.length c0_1], .int .i64 (wrap64 (t173004 - a1))] rfl (by (try simp only [List.map_toArray, List.map_cons, List.map_nil]); first | done | rfl | (simp only [List.length_drop, List.length_take]; rfl)) ?_; (with_reducible refine (spec_BasesOf.calls k a0_0 _ _ l0_1 (wrap64 (t173004 - a1)) t173005 _ ?side1 ?side2 A12.out).mono ?_); (case side1 => repeat (first | exact (Kd.C_below HR0_1.out HB.out) | (with_reducible refine Kd.C_alloc ?_ _) | (with_reducible refine Kd.C_drewN ?_ _) | (with_reducible refine Kd.C_drew ?_))); (case side2 => exact HC0_1.out); rintro e w20 ⟨v173006, rfl, ho0, hb⟩; refine ⟨_, rfl, ?_⟩; have HO173007 := aQ (Kd.R_lower ho0 (below_size (by repeat (first | (with_reducible first | exact HB.out | apply below_alloc | apply pw_below_drewN | apply below_drew1 | refine below_set ?_ GE173001.out | refine below_set ?_ GE173002.out) | exact HB.out)))); replace BK173001 := aQ (blk_below (g := gb173001) (o := .cells #[.int .i64 a0_0, .slice A0_1 l0_1.length c0_1] 28 (0, 0)) (by (with_reducible repeat (first | refine blk_drewN ?_ _ | refine blk_drew ?_ | refine blk_alloc ?_ _)); exact BK173001.out) hb); replace BK173002 := aQ (blk_below (g := gb173002) (o := .cells #[.int .i64 0, .slice none 0 0] 28 (0, 0)) (by (with_reducible repeat (first | refine blk_drewN ?_ _ | refine blk_drew ?_ | refine blk_alloc ?_ _)); exact BK173002.out) hb); replace HB := aQ (below_step (by repeat (first | (with_reducible first | exact HB.out | apply below_alloc | apply pw_below_drewN | apply below_drew1 | refine below_set ?_ GE173001.out | refine below_set ?_ GE173002.out) | exact HB.out)) hb); (try clear hb); (try clear hb2); (try clear hk); (try clear hi); (try clear ho0); obtain ⟨Ao21, co21, eo21⟩ := Kd.R_slice HO173007.out; subst eo21) | ((with_reducible refine gate_callee (f := 238) rfl ?_); refine goesL_ (some 20) rfl rfl Try.func238 (by kernel_rfl) rfl #[.int .i64 (wrap64 (t173004 - a1)), .slice Ao21 t173005.length co21] rfl (by (try simp only [List.map_toArray, List.map_cons, List.map_nil]); first | done | rfl | (simp only [List.length_drop, List.length_take]; rfl)) ?_; (with_reducible refine (spec_l10Pack.calls k (wrap64 (t173004 - a1)) _ _ t173005 t173008 t173009 _ ?side1 ?side2 A13.out).mono ?_); (case side1 => repeat (first | exact (Kd.R_reads' HO173007.out).2.2 | (with_reducible refine Kd.C_alloc ?_ _) | (with_reducible refine Kd.C_drewN ?_ _) | (with_reducible refine Kd.C_drew ?_))); (case side2 => exact (Kd.R_reads' HO173007.out).2.1); rintro e w22 ⟨v173010, rfl, ho0, hb⟩; refine ⟨_, rfl, ?_⟩; have HO173011 := aQ (Kd.R_lower (Kd.R_new' ho0 (Kd.R_lt (by (with_reducible repeat (first | apply Kd.R_alloc | apply Kd.R_drewN | apply Kd.R_drew)); exact HO173007.out))) (below_size (by repeat (first | (with_reducible first | exact HB.out | apply below_alloc | apply pw_below_drewN | apply below_drew1 | refine below_set ?_ GE173001.out | refine below_set ?_ GE173002.out) | exact HB.out)))); replace HO173007 := aQ (Kd.R_elder' (by (with_reducible repeat (first | apply Kd.R_alloc | apply Kd.R_drewN | apply Kd.R_drew)); exact HO173007.out) (Kd.R_base ho0) hb); replace BK173001 := aQ (blk_below (g := gb173001) (o := .cells #[.int .i64 a0_0, .slice A0_1 l0_1.length c0_1] 28 (0, 0)) (by (with_reducible repeat (first | refine blk_drewN ?_ _ | refine blk_drew ?_ | refine blk_alloc ?_ _)); exact BK173001.out) hb); replace BK173002 := aQ (blk_below (g := gb173002) (o := .cells #[.int .i64 0, .slice none 0 0] 28 (0, 0)) (by (with_reducible repeat (first | refine blk_drewN ?_ _ | refine blk_drew ?_ | refine blk_alloc ?_ _)); exact BK173002.out) hb); replace HB := aQ (below_step (by repeat (first | (with_reducible first | exact HB.out | apply below_alloc | apply pw_below_drewN | apply below_drew1 | refine below_set ?_ GE173001.out | refine below_set ?_ GE173002.out) | exact HB.out)) hb); (try clear hb); (try clear hb2); (try clear hk); (try clear hi); (try clear ho0); have hcz23_0 : w22.cell? ⟨gb173002, 0, none⟩ = some (.int .i64 0) := (blk_cell BK173002.out 0).trans rfl; have hcz23_1 : w22.cell? ⟨gb173002, 1, none⟩ = some (.slice none 0 0) := (blk_cell BK173002.out 1).trans rfl; have hfz23_0 := blk_frozen BK173002.out 0; have hfz23_1 := blk_frozen BK173002.out 1; obtain ⟨Ao24, co24, eo24⟩ := Kd.R_slice HO173011.out; subst eo24))
  refine bodyPost_ret (results_cell_row rfl _ _ gb173002 28 #[.int .i64 t173008, .slice Ao24 t173009.length co24] (0, 0) _ rfl (by (with_reducible repeat (first | refine blk_drewN ?_ _ | refine blk_drew ?_ | refine blk_alloc ?_ _)); refine blk_put (cs := #[.int .i64 t173008, .slice none 0 0]) ?_ 1 _ rfl; (with_reducible repeat (first | refine blk_drewN ?_ _ | refine blk_drew ?_ | refine blk_alloc ?_ _)); refine blk_put (cs := #[.int .i64 0, .slice none 0 0]) ?_ 0 _ rfl; (with_reducible repeat (first | refine blk_drewN ?_ _ | refine blk_drew ?_ | refine blk_alloc ?_ _)); exact BK173002.out) Try.underlying28 rfl (by kernel_rfl)) rfl ?_
  exact ⟨_, by first | rfl | (simp [errW_none, errW_some] <;> rfl) | (simp [*, errW_none, errW_some] <;> rfl), by (with_reducible repeat (first | apply Kd.R_alloc | apply Kd.R_drewN | apply Kd.R_drew)); exact Kd.R_mono (Kd.R_far (p := ⟨gb173002, 1, none⟩) (Kd.R_far (p := ⟨gb173002, 0, none⟩) (Kd.R_types HO173011.out BK173002.out (by decide)) (fun _ hk => hk.2) (.int .i64 t173008)) (fun _ hk => hk.2) (.slice Ao24 t173009.length co24)) (fun _ hk => trivial), by repeat (first | (with_reducible first | exact HB.out | apply below_alloc | apply pw_below_drewN | apply below_drew1 | refine below_set ?_ GE173001.out | refine below_set ?_ GE173002.out) | exact HB.out)⟩
/-! ### spec_CutOf: function 78 -/
mutual
def spec_CutOf.j0 : Nat → List Int → Bool → Int → List Int → Option (List Int)
 | 0, _, _, _, _ => none
 | k + 1, x3, x16, x79002000, x79002001 => if x16 = true then (some x3) else (if 0 ≤ (IntKind.u64.wrap (wrap64 (x79002000 - 1))) then ((spec_DeleteSet.f k x79002000 x79002001 (shl .i64 1 (IntKind.u64.wrap (wrap64 (x79002000 - 1))))).bind fun bt79006 => ((spec_l7Flats.f k bt79006.1 bt79006.2).bind fun t79011 => (spec_CutOf.l0 k x3 (shl .i64 1 (IntKind.u64.wrap (wrap64 (x79002000 - 1)))) t79011 0 x79002000 x79002001))) else (none))
def spec_CutOf.l0 : Nat → List Int → Int → List Int → Int → Int → List Int → Option (List Int)
 | 0, _, _, _, _, _, _ => none
 | k + 1, x3, x4, x6, x7, x79002000, x79002001 => if x7 < (x6.length : Int) then (if 0 ≤ x7 then ((spec_l5Rank.f k x79002000 x79002001 (rd x6 x7)).bind fun t79015 => ((spec_l5Rank.f k x79002000 x79002001 (wrap64 ((rd x6 x7) + x4))).bind fun t79017 => (if t79015 = t79017 then (if x3.length < 17592186044416 then (spec_CutOf.l0 k (x3 ++ [rd x6 x7]) x4 x6 (wrap64 (x7 + 1)) x79002000 x79002001) else (none)) else (spec_CutOf.l0 k x3 x4 x6 (wrap64 (x7 + 1)) x79002000 x79002001)))) else (none)) else (some x3)
end
def spec_CutOf.f (k : Nat) (a0_0 : Int) (l0_1 : List Int) : Option (List Int) := (some (([] : List Int) : List Int)).bind fun y79002 => ((spec_IsMatroid.f k a0_0 l0_1).bind fun t79005 => (if t79005 = true then (spec_CutOf.j0 k y79002 (a0_0 == 0) a0_0 l0_1) else (spec_CutOf.j0 k y79002 true a0_0 l0_1)))
theorem spec_CutOf.mono_l : ∀ k, (∀ y0 y1 y2 y3, LeO (spec_CutOf.j0 k y0 y1 y2 y3) (spec_CutOf.j0 (k + 1) y0 y1 y2 y3)) ∧ (∀ y0 y1 y2 y3 y4 y5, LeO (spec_CutOf.l0 k y0 y1 y2 y3 y4 y5) (spec_CutOf.l0 (k + 1) y0 y1 y2 y3 y4 y5))
 | 0 => ⟨fun _ _ _ _ r h => by simp [spec_CutOf.j0] at h, fun _ _ _ _ _ _ r h => by simp [spec_CutOf.l0] at h⟩
 | k + 1 => by
  obtain ⟨ih0, ih1⟩ := spec_CutOf.mono_l k
  refine ⟨?_, ?_⟩
  ·intro y0 y1 y2 y3
   unfold spec_CutOf.j0
   repeat' first
   | (with_reducible exact ih0 _ _ _ _)
   | (with_reducible exact ih1 _ _ _ _ _ _)
   | (with_reducible exact spec_DeleteSet.mono _ _ _ _)
   | (with_reducible exact spec_IsMatroid.mono _ _ _)
   | (with_reducible exact spec_l5Rank.mono _ _ _ _)
   | (with_reducible exact spec_l7Flats.mono _ _ _)
   | (with_reducible exact LeO.refl _)
   | (with_reducible exact LeO.none _)
   | (with_reducible refine LeO.ite ?_ ?_)
   | (with_reducible refine LeO.bind ?_ (fun _ => ?_))
   | exact ih0 _ _ _ _
   | exact ih1 _ _ _ _ _ _
   | exact spec_DeleteSet.mono _ _ _ _
   | exact spec_IsMatroid.mono _ _ _
   | exact spec_l5Rank.mono _ _ _ _
   | exact spec_l7Flats.mono _ _ _
   | exact LeO.none _
   | refine LeO.ite ?_ ?_
   | refine LeO.bind ?_ (fun _ => ?_)
  ·intro y0 y1 y2 y3 y4 y5
   unfold spec_CutOf.l0
   repeat' first
   | (with_reducible exact ih0 _ _ _ _)
   | (with_reducible exact ih1 _ _ _ _ _ _)
   | (with_reducible exact spec_DeleteSet.mono _ _ _ _)
   | (with_reducible exact spec_IsMatroid.mono _ _ _)
   | (with_reducible exact spec_l5Rank.mono _ _ _ _)
   | (with_reducible exact spec_l7Flats.mono _ _ _)
   | (with_reducible exact LeO.refl _)
   | (with_reducible exact LeO.none _)
   | (with_reducible refine LeO.ite ?_ ?_)
   | (with_reducible refine LeO.bind ?_ (fun _ => ?_))
   | exact ih0 _ _ _ _
   | exact ih1 _ _ _ _ _ _
   | exact spec_DeleteSet.mono _ _ _ _
   | exact spec_IsMatroid.mono _ _ _
   | exact spec_l5Rank.mono _ _ _ _
   | exact spec_l7Flats.mono _ _ _
   | exact LeO.none _
   | refine LeO.ite ?_ ?_
   | refine LeO.bind ?_ (fun _ => ?_)
theorem spec_CutOf.mono : ∀ a0 a1 k, LeO (spec_CutOf.f k a0 a1) (spec_CutOf.f (k + 1) a0 a1) := by
 intro a0 a1 k
 obtain ⟨ih0, ih1⟩ := spec_CutOf.mono_l k
 unfold spec_CutOf.f
 repeat' first
   | (with_reducible exact ih0 _ _ _ _)
   | (with_reducible exact ih1 _ _ _ _ _ _)
   | (with_reducible exact spec_DeleteSet.mono _ _ _ _)
   | (with_reducible exact spec_IsMatroid.mono _ _ _)
   | (with_reducible exact spec_l5Rank.mono _ _ _ _)
   | (with_reducible exact spec_l7Flats.mono _ _ _)
   | (with_reducible exact LeO.refl _)
   | (with_reducible exact LeO.none _)
   | (with_reducible refine LeO.ite ?_ ?_)
   | (with_reducible refine LeO.bind ?_ (fun _ => ?_))
   | exact ih0 _ _ _ _
   | exact ih1 _ _ _ _ _ _
   | exact spec_DeleteSet.mono _ _ _ _
   | exact spec_IsMatroid.mono _ _ _
   | exact spec_l5Rank.mono _ _ _ _
   | exact spec_l7Flats.mono _ _ _
   | exact LeO.none _
   | refine LeO.ite ?_ ?_
   | refine LeO.bind ?_ (fun _ => ?_)
def spec_CutOf.T10 : Bool × List (List Nat × List Nat) := (true, [([], []), ([], []), ([], []), ([1, 2], [1, 2]), ([3], [3]), ([0, 4], [0, 4]), ([], []), ([], []), ([], []), ([7, 8], [7, 8]), ([9], [9]), ([], []), ([10, 11], [10, 11]), ([6, 12, 5], [6, 12]), ([5, 13], [5, 13])])
def spec_CutOf.B10 : List Nat := [0, 0, 0, 6, 14, 31, 0, 0, 0, 384, 896, 0, 3968, 8191, 16383]
theorem spec_CutOf.tab10 : rtab .any (opsOf Try.f78 10) = spec_CutOf.T10 := by kernel_rfl
theorem spec_CutOf.bits10 : waitsOk spec_CutOf.T10.2 spec_CutOf.B10 = true := by kernel_rfl
set_option maxHeartbeats 8000000 in
set_option maxRecDepth 100000 in
theorem spec_CutOf.calls (k : Nat) (a0_0 : Int) (A0_1 : Option Addr) (c0_1 : Nat) (l0_1 : List Int) (r : List Int) (w : World) (hr0_1 : Kd.C (Kd.int .i64) w A0_1 l0_1.length l0_1) (hc0_1 : l0_1.length ≤ c0_1) (h : spec_CutOf.f k a0_0 l0_1 = some r) :
  Calls Try.prog 78 #[.agg #[.int .i64 a0_0, .slice A0_1 l0_1.length c0_1]] w fun e w' => ∃ v0_ : Value, e = .returned (v0_) ∧ Kd.R (Kd.int .i64) 3 w' w.heap.size (fun _ => True) v0_ r ∧ Below w.heap.size w w' := by
 have hu28 := Try.underlying28
 have HR0_1 := aQ hr0_1
 have HC0_1 := aQ hc0_1
 clear hr0_1 hc0_1
 have HB := aQ (Below.refl w.heap.size w)
 have H : ((some (([] : List Int) : List Int)).bind fun y79002 => ((spec_IsMatroid.f k a0_0 l0_1).bind fun t79005 => (if t79005 = true then (spec_CutOf.j0 k y79002 (a0_0 == 0) a0_0 l0_1) else (spec_CutOf.j0 k y79002 true a0_0 l0_1)))) = some r := h
 clear h
 obtain ⟨y79002, hy79002⟩ : ∃ y_ : List Int, y_ = (([] : List Int)) := ⟨_, rfl⟩
 replace H : ((spec_IsMatroid.f k a0_0 l0_1).bind fun t79005 => (if t79005 = true then (spec_CutOf.j0 k y79002 (a0_0 == 0) a0_0 l0_1) else (spec_CutOf.j0 k y79002 true a0_0 l0_1))) = some r := by first | (rw [hy79002]; with_reducible exact H) | (have H2_ := (Option.bind_some _ _).symm.trans H; rw [hy79002]; with_reducible exact H2_) | (have H2_ := (Option.bind_some _ _).symm.trans H; with_reducible exact H2_) | with_reducible exact H | (rw [hy79002]; exact H) | exact H
 have Ny79002 := aQ hy79002
 clear hy79002
 have HC2 := aQ H
 clear H
 go_enter Try.func78, Try.ntmps78
 go_upto_region 2 with (first | ((with_reducible refine gate_dst (N := 1) rfl ?_); refine box_event ?hg (N := 1) ?hd (cs := #[.int .i64 a0_0, .slice A0_1 l0_1.length c0_1]) (t := 28) ?hr ?_; (case hd => rfl); (case hg => rfl); (case hr => first | (go_simp; done) | (go_simp; rfl)); intro gb79001 hg w3 hbox hb; have BK79001 := aQ (hbox); have GW79001 := aQ ((by rw [hg]; exact (below_size (by repeat (first | (with_reducible first | exact HB.out | apply below_alloc | apply pw_below_drewN | apply below_drew1) | exact HB.out))) : w.heap.size ≤ gb79001)); have GE79001 := aQ ((by rw [hg]; exact (below_size (by repeat (first | (with_reducible first | exact HB.out | apply below_alloc | apply pw_below_drewN | apply below_drew1) | exact HB.out))) : w.heap.size ≤ gb79001)); replace HB := aQ (below_step (by repeat (first | (with_reducible first | exact HB.out | apply below_alloc | apply pw_below_drewN | apply below_drew1) | exact HB.out)) hb); clear hb hbox hg) | ((with_reducible refine gate_dst (N := 8) rfl ?_); refine Kd.R_lit (Kd.int .i64) _ 3 ?hg (N := 8) ?hd (xs := ([] : List Int)) (inner := []) (ok := fun _ => True) (okp := fun _ => True) ?hr ?hp (fun _ hk => hk) trivial (Below.refl _ _) (Nat.le_refl _) (by simp) ?_; (case hd => rfl); (case hg => rfl); (case hr => first | (go_simp; done) | (go_simp; rfl)); (case hp => exact (Reps.none _ _)); intro v79003 w4 ho5 hb hg_ hnew_; clear hg_ hnew_; (first | rw [← Ny79002.out] at ho5 | (simp only [Int.reduceToNat] at ho5; rw [← Ny79002.out] at ho5)); have HO79004 := aQ (Kd.R_lower ho5 (below_size (by repeat (first | (with_reducible first | exact HB.out | apply below_alloc | apply pw_below_drewN | apply below_drew1 | refine below_set ?_ GE79001.out) | exact HB.out)))); replace BK79001 := aQ (blk_below (g := gb79001) (o := .cells #[.int .i64 a0_0, .slice A0_1 l0_1.length c0_1] 28 (0, 0)) (by (with_reducible repeat (first | refine blk_drewN ?_ _ | refine blk_drew ?_ | refine blk_alloc ?_ _)); exact BK79001.out) hb); replace HB := aQ (below_step (by repeat (first | (with_reducible first | exact HB.out | apply below_alloc | apply pw_below_drewN | apply below_drew1 | refine below_set ?_ GE79001.out) | exact HB.out)) hb); clear hb ho5))
 (try simp only [Act.put, List.setIfInBounds_toArray, List.set_cons_zero, List.set_cons_succ])
 go_cut [16] (fun v16 wc => ∃ (kq : Nat) (x16_1 : Bool), v16 = .bool x16_1 ∧ Aside0 (spec_CutOf.j0 kq y79002 x16_1 a0_0 l0_1 = some r) ∧ Aside0 (kq ≤ k) ∧ Aside0 (Kd.R (Kd.int .i64) 3 wc w.heap.size (fun _ => True) v79003 y79002) ∧ Aside0 (wc.heap[gb79001]? = some (.cells #[.int .i64 a0_0, (.slice A0_1 l0_1.length c0_1)] 28 (0, 0))) ∧ Aside0 (Below w.heap.size w wc))
 case first =>
  have H := HC2.out
  clear HC2
  replace H := Option.bind_eq_some_iff.mp H
  obtain ⟨t79005, A60, H⟩ := H
  replace H : (if t79005 = true then (spec_CutOf.j0 k y79002 (a0_0 == 0) a0_0 l0_1) else (spec_CutOf.j0 k y79002 true a0_0 l0_1)) = some r := H
  have A6 := aQ A60
  clear A60
  by_cases c7 : t79005 = true
  ·subst c7
   have H1 : (spec_CutOf.j0 k y79002 (a0_0 == 0) a0_0 l0_1) = some r := by rw [if_pos rfl] at H; exact H
   clear H
   have H := H1
   clear H1
   have H' := aQ H
   clear H
   have hcz8_0 : w4.cell? ⟨gb79001, 0, none⟩ = some (.int .i64 a0_0) := (blk_cell BK79001.out 0).trans rfl
   have hcz8_1 : w4.cell? ⟨gb79001, 1, none⟩ = some (.slice A0_1 l0_1.length c0_1) := (blk_cell BK79001.out 1).trans rfl
   have hfz8_0 := blk_frozen BK79001.out 0
   have hfz8_1 := blk_frozen BK79001.out 1
   go_wp2_with (first | ((with_reducible refine gate_callee (f := 124) rfl ?_); refine goesL_ (some 10) rfl rfl Try.func124 (by kernel_rfl) rfl #[.agg #[.int .i64 a0_0, .slice A0_1 l0_1.length c0_1]] rfl (by (try simp only [List.map_toArray, List.map_cons, List.map_nil]); first | done | rfl | (simp only [List.length_drop, List.length_take]; rfl)) ?_; (with_reducible refine (spec_IsMatroid.calls k a0_0 _ _ l0_1 true _ ?side1 ?side2 A6.out).mono ?_); (case side1 => repeat (first | exact (Kd.C_below HR0_1.out HB.out) | (with_reducible refine Kd.C_alloc ?_ _) | (with_reducible refine Kd.C_drewN ?_ _) | (with_reducible refine Kd.C_drew ?_))); (case side2 => exact HC0_1.out); rintro e w9 ⟨rfl, hb⟩; refine ⟨_, rfl, ?_⟩; replace HO79004 := aQ (Kd.R_below (by (with_reducible repeat (first | apply Kd.R_alloc | apply Kd.R_drewN | apply Kd.R_drew)); exact HO79004.out) hb); replace BK79001 := aQ (blk_below (g := gb79001) (o := .cells #[.int .i64 a0_0, .slice A0_1 l0_1.length c0_1] 28 (0, 0)) (by (with_reducible repeat (first | refine blk_drewN ?_ _ | refine blk_drew ?_ | refine blk_alloc ?_ _)); exact BK79001.out) hb); replace HB := aQ (below_step (by repeat (first | (with_reducible first | exact HB.out | apply below_alloc | apply pw_below_drewN | apply below_drew1 | refine below_set ?_ GE79001.out) | exact HB.out)) hb); (try clear hb); (try clear hb2); (try clear hk); (try clear hi); have hcz10_0 : w9.cell? ⟨gb79001, 0, none⟩ = some (.int .i64 a0_0) := (blk_cell BK79001.out 0).trans rfl; have hcz10_1 : w9.cell? ⟨gb79001, 1, none⟩ = some (.slice A0_1 l0_1.length c0_1) := (blk_cell BK79001.out 1).trans rfl; have hfz10_0 := blk_frozen BK79001.out 0; have hfz10_1 := blk_frozen BK79001.out 1))
   go_meet
   case rel => exact ⟨_, ((a0_0 == 0)), (by first | rfl | (simp; done) | (simp [*]; done)), H', ⟨by first | omega | exact Nat.le_refl _⟩, ⟨by (with_reducible repeat (first | apply Kd.R_alloc | apply Kd.R_drewN | apply Kd.R_drew)); exact HO79004.out⟩, ⟨by (with_reducible repeat (first | refine blk_drewN ?_ _ | refine blk_drew ?_ | refine blk_alloc ?_ _)); exact BK79001.out⟩, ⟨by repeat (first | (with_reducible first | exact HB.out | apply below_alloc | apply pw_below_drewN | apply below_drew1 | refine below_set ?_ GE79001.out) | exact HB.out)⟩⟩
  ·replace c7 := Bool.eq_false_iff.mpr c7
   subst c7
   have H1 : (spec_CutOf.j0 k y79002 true a0_0 l0_1) = some r := by rw [if_neg (show ¬ (false = true) by decide)] at H; exact H
   clear H
   have H := H1
   clear H1
   have H' := aQ H
   clear H
   have hcz11_0 : w4.cell? ⟨gb79001, 0, none⟩ = some (.int .i64 a0_0) := (blk_cell BK79001.out 0).trans rfl
   have hcz11_1 : w4.cell? ⟨gb79001, 1, none⟩ = some (.slice A0_1 l0_1.length c0_1) := (blk_cell BK79001.out 1).trans rfl
   have hfz11_0 := blk_frozen BK79001.out 0
   have hfz11_1 := blk_frozen BK79001.out 1
   go_wp2_with (first | ((with_reducible refine gate_callee (f := 124) rfl ?_); refine goesL_ (some 10) rfl rfl Try.func124 (by kernel_rfl) rfl #[.agg #[.int .i64 a0_0, .slice A0_1 l0_1.length c0_1]] rfl (by (try simp only [List.map_toArray, List.map_cons, List.map_nil]); first | done | rfl | (simp only [List.length_drop, List.length_take]; rfl)) ?_; (with_reducible refine (spec_IsMatroid.calls k a0_0 _ _ l0_1 false _ ?side1 ?side2 A6.out).mono ?_); (case side1 => repeat (first | exact (Kd.C_below HR0_1.out HB.out) | (with_reducible refine Kd.C_alloc ?_ _) | (with_reducible refine Kd.C_drewN ?_ _) | (with_reducible refine Kd.C_drew ?_))); (case side2 => exact HC0_1.out); rintro e w12 ⟨rfl, hb⟩; refine ⟨_, rfl, ?_⟩; replace HO79004 := aQ (Kd.R_below (by (with_reducible repeat (first | apply Kd.R_alloc | apply Kd.R_drewN | apply Kd.R_drew)); exact HO79004.out) hb); replace BK79001 := aQ (blk_below (g := gb79001) (o := .cells #[.int .i64 a0_0, .slice A0_1 l0_1.length c0_1] 28 (0, 0)) (by (with_reducible repeat (first | refine blk_drewN ?_ _ | refine blk_drew ?_ | refine blk_alloc ?_ _)); exact BK79001.out) hb); replace HB := aQ (below_step (by repeat (first | (with_reducible first | exact HB.out | apply below_alloc | apply pw_below_drewN | apply below_drew1 | refine below_set ?_ GE79001.out) | exact HB.out)) hb); (try clear hb); (try clear hb2); (try clear hk); (try clear hi)))
   go_meet
   case rel => exact ⟨_, (true), (by first | rfl | (simp; done) | (simp [*]; done)), H', ⟨by first | omega | exact Nat.le_refl _⟩, ⟨by (with_reducible repeat (first | apply Kd.R_alloc | apply Kd.R_drewN | apply Kd.R_drew)); exact HO79004.out⟩, ⟨by (with_reducible repeat (first | refine blk_drewN ?_ _ | refine blk_drew ?_ | refine blk_alloc ?_ _)); exact BK79001.out⟩, ⟨by repeat (first | (with_reducible first | exact HB.out | apply below_alloc | apply pw_below_drewN | apply below_drew1 | refine below_set ?_ GE79001.out) | exact HB.out)⟩⟩
 case rest =>
  clear HC2
  try clear c1
  try clear p2
  try clear c7
  try clear c12
  try clear hcz10_0
  try clear hcz10_1
  try clear hcz11_0
  try clear hcz11_1
  try clear hcz8_0
  try clear hcz8_1
  try clear hfz10_0
  try clear hfz10_1
  try clear hfz11_0
  try clear hfz11_1
  try clear hfz8_0
  try clear hfz8_1
  obtain ⟨kq, x16_1, rfl, HA, HJ1, HO_3, BK79001, HB⟩ := hcut
  cases kq with
  | zero => exact absurd HA.out (by simp [spec_CutOf.j0])
  | succ kj1 =>
   have H := HA.out
   clear HA
   simp only [spec_CutOf.j0] at H
   by_cases c13 : x16_1 = true
   ·subst c13
    have H1 : (some y79002) = some r := by rw [if_pos rfl] at H; exact H
    clear H
    have H := H1
    clear H1
    obtain rfl := Option.some.inj H
    go_wp2
    go_ret
    exact ⟨_, by first | rfl | (simp [errW_none, errW_some] <;> rfl) | (simp [*, errW_none, errW_some] <;> rfl), by (with_reducible repeat (first | apply Kd.R_alloc | apply Kd.R_drewN | apply Kd.R_drew)); exact HO_3.out, by repeat (first | (with_reducible first | exact HB.out | apply below_alloc | apply pw_below_drewN | apply below_drew1 | refine below_set ?_ GE79001.out) | exact HB.out)⟩
   ·replace c13 := Bool.eq_false_iff.mpr c13
    subst c13
    have H1 : (if 0 ≤ (IntKind.u64.wrap (wrap64 (a0_0 - 1))) then ((spec_DeleteSet.f kj1 a0_0 l0_1 (shl .i64 1 (IntKind.u64.wrap (wrap64 (a0_0 - 1))))).bind fun bt79006 => ((spec_l7Flats.f kj1 bt79006.1 bt79006.2).bind fun t79011 => (spec_CutOf.l0 kj1 y79002 (shl .i64 1 (IntKind.u64.wrap (wrap64 (a0_0 - 1)))) t79011 0 a0_0 l0_1))) else (none)) = some r := by rw [if_neg (show ¬ (false = true) by decide)] at H; exact H
    clear H
    have H := H1
    clear H1
    obtain ⟨ji14, hji14⟩ : ∃ j_ : Int, (IntKind.u64.wrap (wrap64 (a0_0 - 1))) = j_ := ⟨_, rfl⟩
    replace H : (if 0 ≤ (ji14) then ((spec_DeleteSet.f kj1 a0_0 l0_1 (shl .i64 1 (ji14))).bind fun bt79006 => ((spec_l7Flats.f kj1 bt79006.1 bt79006.2).bind fun t79011 => (spec_CutOf.l0 kj1 y79002 (shl .i64 1 (ji14)) t79011 0 a0_0 l0_1))) else (none)) = some r := by first | (rw [hji14] at H; exact H) | (simp only [hji14] at H ⊢; exact H)
    by_cases c15 : 0 ≤ (ji14)
    ·rw [if_pos c15] at H
     have c15b0 := eq_true c15
     have c15b1 : decide (0 ≤ (ji14)) = true := decide_eq_true c15
     clear c15
     obtain ⟨ji16, hji16⟩ : ∃ j_ : Int, (shl .i64 1 (ji14)) = j_ := ⟨_, rfl⟩
     replace H : ((spec_DeleteSet.f kj1 a0_0 l0_1 (ji16)).bind fun bt79006 => ((spec_l7Flats.f kj1 bt79006.1 bt79006.2).bind fun t79011 => (spec_CutOf.l0 kj1 y79002 ji16 t79011 0 a0_0 l0_1))) = some r := by first | (rw [hji16] at H; exact H) | (simp only [hji16] at H ⊢; exact H)
     have hji16_ : (IntKind.i64.wrap (1 * 2 ^ min (ji14).toNat 64)) = ji16 := hji16
     have hji16z : (ji14) ≤ 64 → (IntKind.i64.wrap (1 * 2 ^ (ji14).toNat)) = ji16 := shl_small hji16
     have hji16u : (IntKind.i64.wrap (2 ^ min (ji14).toNat 64)) = ji16 := by have h_ := hji16_; rw [Int.one_mul] at h_; exact h_
     have hji16v : (ji14) ≤ 64 → (IntKind.i64.wrap (2 ^ (ji14).toNat)) = ji16 := fun hle_ => by have h_ := hji16z hle_; rw [Int.one_mul] at h_; exact h_
     have hji16y : (wrap64 (1 * 2 ^ min (ji14).toNat 64)) = ji16 := (i64_w _).symm.trans hji16_
     have hji16x : (ji14) ≤ 64 → (wrap64 (1 * 2 ^ (ji14).toNat)) = ji16 := fun h_ => (i64_w _).symm.trans (hji16z h_)
     replace H := Option.bind_eq_some_iff.mp H
     obtain ⟨⟨t79006, t79007⟩, A170, H⟩ := H
     replace H : ((spec_l7Flats.f kj1 t79006 t79007).bind fun t79011 => (spec_CutOf.l0 kj1 y79002 ji16 t79011 0 a0_0 l0_1)) = some r := H
     have A17 := aQ A170
     clear A170
     replace H := Option.bind_eq_some_iff.mp H
     obtain ⟨t79011, A180, H⟩ := H
     replace H : (spec_CutOf.l0 kj1 y79002 ji16 t79011 0 a0_0 l0_1) = some r := H
     have A18 := aQ A180
     clear A180
     have H' := aQ H
     clear H
     have hcz19_0 : wc.cell? ⟨gb79001, 0, none⟩ = some (.int .i64 a0_0) := (blk_cell BK79001.out 0).trans rfl
     have hcz19_1 : wc.cell? ⟨gb79001, 1, none⟩ = some (.slice A0_1 l0_1.length c0_1) := (blk_cell BK79001.out 1).trans rfl
     have hfz19_0 := blk_frozen BK79001.out 0
     have hfz19_1 := blk_frozen BK79001.out 1
     go_wp2_with (first | ((with_reducible refine gate_callee (f := 172) rfl ?_); refine goesL_ (some 25) rfl rfl Try.func172 (by kernel_rfl) rfl #[.agg #[.int .i64 a0_0, .slice A0_1 l0_1.length c0_1], .int .i64 ji16] rfl (by (try simp only [List.map_toArray, List.map_cons, List.map_nil]); first | done | (simp only [hji16]; rfl) | rfl | (simp only [List.length_drop, List.length_take]; rfl)) ?_; (with_reducible refine (spec_DeleteSet.calls kj1 a0_0 _ _ l0_1 ji16 t79006 t79007 _ ?side1 ?side2 A17.out).mono ?_); (case side1 => repeat (first | exact (Kd.C_below HR0_1.out HB.out) | (with_reducible refine Kd.C_alloc ?_ _) | (with_reducible refine Kd.C_drewN ?_ _) | (with_reducible refine Kd.C_drew ?_))); (case side2 => exact HC0_1.out); rintro e w20 ⟨v79008, rfl, ho0, hb⟩; refine ⟨_, rfl, ?_⟩; have HO79009 := aQ (Kd.R_lower (Kd.R_new' ho0 (Kd.R_lt (by (with_reducible repeat (first | apply Kd.R_alloc | apply Kd.R_drewN | apply Kd.R_drew)); exact HO_3.out))) (below_size (by repeat (first | (with_reducible first | exact HB.out | apply below_alloc | apply pw_below_drewN | apply below_drew1 | refine below_set ?_ GE79001.out) | exact HB.out)))); replace HO_3 := aQ (Kd.R_elder' (by (with_reducible repeat (first | apply Kd.R_alloc | apply Kd.R_drewN | apply Kd.R_drew)); exact HO_3.out) (Kd.R_base ho0) hb); replace BK79001 := aQ (blk_below (g := gb79001) (o := .cells #[.int .i64 a0_0, .slice A0_1 l0_1.length c0_1] 28 (0, 0)) (by (with_reducible repeat (first | refine blk_drewN ?_ _ | refine blk_drew ?_ | refine blk_alloc ?_ _)); exact BK79001.out) hb); replace HB := aQ (below_step (by repeat (first | (with_reducible first | exact HB.out | apply below_alloc | apply pw_below_drewN | apply below_drew1 | refine below_set ?_ GE79001.out) | exact HB.out)) hb); (try clear hb); (try clear hb2); (try clear hk); (try clear hi); (try clear ho0)) | ((with_reducible refine gate_dst (N := 5) rfl ?_); refine box_event ?hg (N := 5) ?hd (cs := #[.int .i64 0, .slice none 0 0]) (t := 28) ?hr ?_; (case hd => rfl); (case hg => rfl); (case hr => first | (go_simp; done) | (go_simp; rfl)); intro gb79010 hg w21 hbox hb; replace HO_3 := aQ (Kd.R_below (by (with_reducible repeat (first | apply Kd.R_alloc | apply Kd.R_drewN | apply Kd.R_drew)); exact HO_3.out) hb); replace HO79009 := aQ (Kd.R_below (by (with_reducible repeat (first | apply Kd.R_alloc | apply Kd.R_drewN | apply Kd.R_drew)); exact HO79009.out) hb); have BK79010 := aQ (hbox); have GW79010 := aQ ((by rw [hg]; exact (below_size (by repeat (first | (with_reducible first | exact HB.out | apply below_alloc | apply pw_below_drewN | apply below_drew1 | refine below_set ?_ GE79001.out) | exact HB.out))) : w.heap.size ≤ gb79010)); have GE79010 := aQ ((by rw [hg]; exact (below_size (by repeat (first | (with_reducible first | exact HB.out | apply below_alloc | apply pw_below_drewN | apply below_drew1 | refine below_set ?_ GE79001.out) | exact HB.out))) : w.heap.size ≤ gb79010)); replace HB := aQ (below_step (by repeat (first | (with_reducible first | exact HB.out | apply below_alloc | apply pw_below_drewN | apply below_drew1 | refine below_set ?_ GE79001.out) | exact HB.out)) hb); have NB79001_79010 := aQ ((by rw [hg]; exact Nat.ne_of_lt (blk_lt (g := gb79001) (o := .cells #[.int .i64 a0_0, .slice A0_1 l0_1.length c0_1] 28 (0, 0)) (by (with_reducible repeat (first | refine blk_drewN ?_ _ | refine blk_drew ?_ | refine blk_alloc ?_ _)); exact BK79001.out)) : gb79001 ≠ gb79010)); have NB79010_79001 := aQ ((by rw [hg]; exact Nat.ne_of_gt (blk_lt (g := gb79001) (o := .cells #[.int .i64 a0_0, .slice A0_1 l0_1.length c0_1] 28 (0, 0)) (by (with_reducible repeat (first | refine blk_drewN ?_ _ | refine blk_drew ?_ | refine blk_alloc ?_ _)); exact BK79001.out)) : gb79010 ≠ gb79001)); replace BK79001 := aQ (blk_below (g := gb79001) (o := .cells #[.int .i64 a0_0, .slice A0_1 l0_1.length c0_1] 28 (0, 0)) (by (with_reducible repeat (first | refine blk_drewN ?_ _ | refine blk_drew ?_ | refine blk_alloc ?_ _)); exact BK79001.out) hb); clear hb hbox hg; have hnb22 := NB79010_79001.out; have hnc22 := NB79001_79010.out; have hcz23_0 : w21.cell? ⟨gb79010, 0, none⟩ = some (.int .i64 0) := (blk_cell BK79010.out 0).trans rfl; have hcz23_1 : w21.cell? ⟨gb79010, 1, none⟩ = some (.slice none 0 0) := (blk_cell BK79010.out 1).trans rfl; have hfz23_0 := blk_frozen BK79010.out 0; have hfz23_1 := blk_frozen BK79010.out 1; obtain ⟨Ao24, co24, eo24⟩ := Kd.R_slice HO79009.out; subst eo24) | ((with_reducible refine gate_callee (f := 148) rfl ?_); refine goesL_ (some 27) rfl rfl Try.func148 (by kernel_rfl) rfl #[.agg #[.int .i64 t79006, .slice Ao24 t79007.length co24]] rfl (by (try simp only [List.map_toArray, List.map_cons, List.map_nil]); first | done | rfl | (simp only [List.length_drop, List.length_take]; rfl)) ?_; (with_reducible refine (spec_l7Flats.calls kj1 t79006 _ _ t79007 t79011 _ ?side1 ?side2 A18.out).mono ?_); (case side1 => refine (Kd.R_reads' (e := 3) (base := w.heap.size) (ok := fun k_ => (True ∧ some k_ ≠ (v79003 : Value).ownBlock)) (n := t79007.length) (c := co24) ?_).2.2; exact (by (with_reducible repeat (first | apply Kd.R_alloc | apply Kd.R_drewN | apply Kd.R_drew)); exact (Kd.R_mono (Kd.R_far (p := ⟨gb79010, 1, none⟩) (Kd.R_far (p := ⟨gb79010, 0, none⟩) (Kd.R_types HO79009.out BK79010.out (by decide)) (fun _ hk => hk.2) (.int .i64 t79006)) (fun _ hk => hk.2) (.slice Ao24 t79007.length co24)) (fun _ h_ => h_.1)))); (case side2 => exact (Kd.R_reads' HO79009.out).2.1); rintro e w25 ⟨v79012, rfl, ho0, hb⟩; refine ⟨_, rfl, ?_⟩; have HO79013 := aQ (Kd.R_lower (Kd.R_new' (Kd.R_new' ho0 (Kd.R_lt (by (with_reducible repeat (first | apply Kd.R_alloc | apply Kd.R_drewN | apply Kd.R_drew)); exact (Kd.R_mono (Kd.R_far (p := ⟨gb79010, 1, none⟩) (Kd.R_far (p := ⟨gb79010, 0, none⟩) (Kd.R_types HO_3.out BK79010.out (by decide)) (fun _ hk => hk.2) (.int .i64 t79006)) (fun _ hk => hk.2) (.slice Ao24 t79007.length co24)) (fun _ h_ => h_.1))))) (Kd.R_lt (by (with_reducible repeat (first | apply Kd.R_alloc | apply Kd.R_drewN | apply Kd.R_drew)); exact (Kd.R_mono (Kd.R_far (p := ⟨gb79010, 1, none⟩) (Kd.R_far (p := ⟨gb79010, 0, none⟩) (Kd.R_types HO79009.out BK79010.out (by decide)) (fun _ hk => hk.2) (.int .i64 t79006)) (fun _ hk => hk.2) (.slice Ao24 t79007.length co24)) (fun _ h_ => h_.1))))) (below_size (by repeat (first | (with_reducible first | exact HB.out | apply below_alloc | apply pw_below_drewN | apply below_drew1 | refine below_set ?_ GE79001.out | refine below_set ?_ GE79010.out) | exact HB.out)))); replace HO_3 := aQ (Kd.R_elder' (by (with_reducible repeat (first | apply Kd.R_alloc | apply Kd.R_drewN | apply Kd.R_drew)); exact (Kd.R_mono (Kd.R_far (p := ⟨gb79010, 1, none⟩) (Kd.R_far (p := ⟨gb79010, 0, none⟩) (Kd.R_types HO_3.out BK79010.out (by decide)) (fun _ hk => hk.2) (.int .i64 t79006)) (fun _ hk => hk.2) (.slice Ao24 t79007.length co24)) (fun _ h_ => h_.1))) (Kd.R_base ho0) hb); replace HO79009 := aQ (Kd.R_elder' (by (with_reducible repeat (first | apply Kd.R_alloc | apply Kd.R_drewN | apply Kd.R_drew)); exact (Kd.R_mono (Kd.R_far (p := ⟨gb79010, 1, none⟩) (Kd.R_far (p := ⟨gb79010, 0, none⟩) (Kd.R_types HO79009.out BK79010.out (by decide)) (fun _ hk => hk.2) (.int .i64 t79006)) (fun _ hk => hk.2) (.slice Ao24 t79007.length co24)) (fun _ h_ => h_.1))) (Kd.R_base ho0) hb); replace BK79001 := aQ (blk_below (g := gb79001) (o := .cells #[.int .i64 a0_0, .slice A0_1 l0_1.length c0_1] 28 (0, 0)) (by (with_reducible repeat (first | refine blk_drewN ?_ _ | refine blk_drew ?_ | refine blk_alloc ?_ _)); refine blk_far ?_ NB79001_79010.out _; (with_reducible repeat (first | refine blk_drewN ?_ _ | refine blk_drew ?_ | refine blk_alloc ?_ _)); refine blk_far ?_ NB79001_79010.out _; (with_reducible repeat (first | refine blk_drewN ?_ _ | refine blk_drew ?_ | refine blk_alloc ?_ _)); exact BK79001.out) hb); replace BK79010 := aQ (blk_below (g := gb79010) (o := .cells #[.int .i64 t79006, .slice Ao24 t79007.length co24] 28 (0, 0)) (by (with_reducible repeat (first | refine blk_drewN ?_ _ | refine blk_drew ?_ | refine blk_alloc ?_ _)); refine blk_put (cs := #[.int .i64 t79006, .slice none 0 0]) ?_ 1 _ rfl; (with_reducible repeat (first | refine blk_drewN ?_ _ | refine blk_drew ?_ | refine blk_alloc ?_ _)); refine blk_put (cs := #[.int .i64 0, .slice none 0 0]) ?_ 0 _ rfl; (with_reducible repeat (first | refine blk_drewN ?_ _ | refine blk_drew ?_ | refine blk_alloc ?_ _)); exact BK79010.out) hb); replace HB := aQ (below_step (by repeat (first | (with_reducible first | exact HB.out | apply below_alloc | apply pw_below_drewN | apply below_drew1 | refine below_set ?_ GE79001.out | refine below_set ?_ GE79010.out) | exact HB.out)) hb); (try clear hb); (try clear hb2); (try clear hk); (try clear hi); (try clear ho0)))
     go_loopg [3, 7] kj1 (fun kq v3 v7 w' => ∃ (x3_2 : List Int) (x7_2 : Int), v7 = .int .i64 x7_2 ∧ Aside0 (spec_CutOf.l0 kq x3_2 ji16 t79011 x7_2 a0_0 l0_1 = some r) ∧ Aside0 (kq ≤ kj1) ∧ Aside0 (Kd.R (Kd.int .i64) 3 w' w.heap.size (fun k_ => some k_ ≠ (v79012 : Value).ownBlock ∧ some k_ ≠ ((.slice Ao24 t79007.length co24) : Value).ownBlock) v3 x3_2) ∧ Aside0 (Kd.R (Kd.int .i64) 3 w' w.heap.size (fun k_ => some k_ ≠ (v3 : Value).ownBlock ∧ some k_ ≠ ((.slice Ao24 t79007.length co24) : Value).ownBlock) v79012 t79011) ∧ Aside0 (Kd.R (Kd.int .i64) 3 w' w.heap.size (fun k_ => some k_ ≠ (v3 : Value).ownBlock ∧ some k_ ≠ (v79012 : Value).ownBlock) (.slice Ao24 t79007.length co24) t79007) ∧ Aside0 (w'.heap[gb79001]? = some (.cells #[.int .i64 a0_0, (.slice A0_1 l0_1.length c0_1)] 28 (0, 0))) ∧ Aside0 (w'.heap[gb79010]? = some (.cells #[.int .i64 t79006, (.slice Ao24 t79007.length co24)] 28 (0, 0))) ∧ Aside0 (Below w.heap.size w w'))
     case atStart => exact ⟨(y79002), (0), (by first | rfl | (simp; done) | (simp [*]; done)), H', ⟨Nat.le_refl _⟩, ⟨by (with_reducible repeat (first | apply Kd.R_alloc | apply Kd.R_drewN | apply Kd.R_drew)); exact Kd.R_mono HO_3.out (fun _ hk => ⟨hk.2, hk.1.2⟩)⟩, ⟨by (with_reducible repeat (first | apply Kd.R_alloc | apply Kd.R_drewN | apply Kd.R_drew)); exact Kd.R_mono HO79013.out (fun _ hk => ⟨hk.1.2, hk.2⟩)⟩, ⟨by (with_reducible repeat (first | apply Kd.R_alloc | apply Kd.R_drewN | apply Kd.R_drew)); exact Kd.R_mono HO79009.out (fun _ hk => ⟨hk.1.2, hk.2⟩)⟩, ⟨by (with_reducible repeat (first | refine blk_drewN ?_ _ | refine blk_drew ?_ | refine blk_alloc ?_ _)); exact BK79001.out⟩, ⟨by (with_reducible repeat (first | refine blk_drewN ?_ _ | refine blk_drew ?_ | refine blk_alloc ?_ _)); exact BK79010.out⟩, ⟨by repeat (first | (with_reducible first | exact HB.out | apply below_alloc | apply pw_below_drewN | apply below_drew1 | refine below_set ?_ GE79001.out | refine below_set ?_ GE79010.out) | exact HB.out)⟩⟩
     case round =>
      clear H'
      try clear c1
      try clear c2
      try clear p2
      try clear p6
      try clear c7
      try clear c12
      try clear c13
      try clear c14
      try clear c15
      try clear c15b0
      try clear c15b1
      try clear c17
      try clear c22
      try clear hcz10_0
      try clear hcz10_1
      try clear hcz11_0
      try clear hcz11_1
      try clear hcz19_0
      try clear hcz19_1
      try clear hcz23_0
      try clear hcz23_1
      try clear hcz8_0
      try clear hcz8_1
      try clear hfz10_0
      try clear hfz10_1
      try clear hfz11_0
      try clear hfz11_1
      try clear hfz19_0
      try clear hfz19_1
      try clear hfz23_0
      try clear hfz23_1
      try clear hfz8_0
      try clear hfz8_1
      try clear p2
      obtain ⟨x3_2, x7_2, rfl, HA, HK2, HO_3, HO_6, HO_79011001, BK79001, BK79010, HB⟩ := hrel
      cases gk with
      | zero => exact absurd HA.out (by simp [spec_CutOf.l0])
      | succ k2 =>
       have H := HA.out
       clear HA
       simp only [spec_CutOf.l0] at H
       by_cases c26 : x7_2 < (t79011.length : Int)
       ·rw [if_pos c26] at H
        have c26b0 : decide (x7_2 < (t79011.length : Int)) = true := decide_eq_true c26
        clear c26
        by_cases c27 : 0 ≤ x7_2
        ·rw [if_pos c27] at H
         have c27b0 : decide (0 ≤ x7_2) = true := decide_eq_true c27
         clear c27
         replace H := Option.bind_eq_some_iff.mp H
         obtain ⟨t79015, A280, H⟩ := H
         replace H : ((spec_l5Rank.f k2 a0_0 l0_1 (wrap64 ((rd t79011 x7_2) + ji16))).bind fun t79017 => (if t79015 = t79017 then (if x3_2.length < 17592186044416 then (spec_CutOf.l0 k2 (x3_2 ++ [rd t79011 x7_2]) ji16 t79011 (wrap64 (x7_2 + 1)) a0_0 l0_1) else (none)) else (spec_CutOf.l0 k2 x3_2 ji16 t79011 (wrap64 (x7_2 + 1)) a0_0 l0_1))) = some r := H
         have A28 := aQ A280
         clear A280
         replace H := Option.bind_eq_some_iff.mp H
         obtain ⟨t79017, A290, H⟩ := H
         replace H : (if t79015 = t79017 then (if x3_2.length < 17592186044416 then (spec_CutOf.l0 k2 (x3_2 ++ [rd t79011 x7_2]) ji16 t79011 (wrap64 (x7_2 + 1)) a0_0 l0_1) else (none)) else (spec_CutOf.l0 k2 x3_2 ji16 t79011 (wrap64 (x7_2 + 1)) a0_0 l0_1)) = some r := H
         have A29 := aQ A290
         clear A290
         by_cases c30 : t79015 = t79017
         ·rw [if_pos c30] at H
          have c30b0 : (t79015 == t79017) = true := beq_iff_eq.mpr c30
          have c30b1 : (t79015 != t79017) = false := bne_eq_false_iff_eq.mpr c30
          clear c30
          by_cases c31 : x3_2.length < 17592186044416
          ·rw [if_pos c31] at H
           have LMc31 := aQ c31
           clear c31
           obtain ⟨y79019, hy79019⟩ : ∃ y_ : List Int, y_ = (x3_2 ++ [rd t79011 x7_2]) := ⟨_, rfl⟩
           replace H : (spec_CutOf.l0 k2 y79019 ji16 t79011 (wrap64 (x7_2 + 1)) a0_0 l0_1) = some r := by first | (rw [hy79019]; with_reducible exact H) | (have H2_ := (Option.bind_some _ _).symm.trans H; rw [hy79019]; with_reducible exact H2_) | (have H2_ := (Option.bind_some _ _).symm.trans H; with_reducible exact H2_) | with_reducible exact H | (rw [hy79019]; exact H) | exact H
           have Ny79019 := aQ hy79019
           clear hy79019
           have H' := aQ H
           clear H
           obtain ⟨Ao32, co32, eo32⟩ := Kd.R_slice HO_6.out
           subst eo32
           try go_wp2
           have n0_ := aQ (Kd.R_drew HO_3.out)
           have n1_ := aQ (Kd.R_drew HO_6.out)
           have n2_ := aQ (Kd.R_drew HO_79011001.out)
           have n3_ := aQ (blk_drew BK79001.out)
           have n4_ := aQ (blk_drew BK79010.out)
           have n5_ := aQ (below_drew1 HB.out)
           clear HO_3
           clear HO_6
           clear HO_79011001
           clear BK79001
           clear BK79010
           clear HB
           have HO_3 := n0_
           have HO_6 := n1_
           have HO_79011001 := n2_
           have BK79001 := n3_
           have BK79010 := n4_
           have HB := n5_
           clear n0_ n1_ n2_ n3_ n4_ n5_
           have p79014 : 0 ≤ (x7_2 : Int) := of_decide_eq_true (by first | (with_reducible assumption) | assumption)
           have q79014 : x7_2 < (t79011.length : Int) := of_decide_eq_true (by first | (with_reducible assumption) | assumption)
           obtain ⟨ad79014, e79014, hx79014_0⟩ := Kd.at_int (Kd.R_reads' HO_6.out).2.2 x7_2 p79014 q79014
           cases e79014
           replace p79014 := eq_true p79014
           replace q79014 := eq_true q79014
           have p79016 : 0 ≤ (x7_2 : Int) := of_decide_eq_true (by first | (with_reducible assumption) | assumption)
           have q79016 : x7_2 < (t79011.length : Int) := of_decide_eq_true (by first | (with_reducible assumption) | assumption)
           obtain ⟨ad79016, e79016, hx79016_0⟩ := Kd.at_int (Kd.R_reads' HO_6.out).2.2 x7_2 p79016 q79016
           obtain rfl : ad79014 = ad79016 := (by injection e79016)
           replace p79016 := eq_true p79016
           replace q79016 := eq_true q79016
           refine start_ (n := 15) (S := fun w' => w'.cell? ⟨gb79001, 0, none⟩ = some (.int .i64 a0_0) ∧ w'.cell? ⟨gb79001, 1, none⟩ = some (.slice A0_1 l0_1.length c0_1) ∧ w'.cell? (ad79014.add (x7_2).toNat) = some (.int .i64 (rd t79011 x7_2)) ∧ w'.cell? (ad79014.add (x7_2).toNat) = some (.int .i64 (rd t79011 x7_2))) (ds := []) #[false, false, false, false, false, false, false, false, false, false, false, false, false, false, false] (by kernel_rfl) rfl rfl ⟨(blk_cell BK79001.out 0).trans rfl, (blk_cell BK79001.out 1).trans rfl, hx79014_0, hx79016_0⟩ (fun hHeld => ?_); refine with_tabW spec_CutOf.tab10 spec_CutOf.bits10 (fun HT_ HW_ => ?_)
           generalize wr.drew = w33 at HO_3 HO_6 HO_79011001 BK79001 BK79010 HB hx79014_0 hx79016_0 hHeld ⊢
           refine pure_ (i := 1) (N := some 35) (v := ?_) (a' := ?_) #[false, true, false, false, false, false, false, false, false, false, false, false, false, false, false] rfl rfl (any_of HT_.out (by kernel_rfl)) (fun _ _ _ h => h) (Or.inl ⟨by rfl, ?_⟩) ?_ ?_
           rotate_left
           ·intro w'
            go_simp
            with_reducible rfl
           rotate_left
           ·simp only [Act.put, List.setIfInBounds_toArray, List.set_cons_zero, List.set_cons_succ, i64_w, i32_w]
            rfl
           refine pure_ (i := 2) (N := some 36) (v := ?_) (a' := ?_) #[false, true, true, false, false, false, false, false, false, false, false, false, false, false, false] rfl rfl (any_of HT_.out (by kernel_rfl)) (fun _ _ _ h => h) (Or.inl ⟨by rfl, ?_⟩) ?_ ?_
           rotate_left
           ·intro w'
            go_simp
            with_reducible rfl
           rotate_left
           ·simp only [Act.put, List.setIfInBounds_toArray, List.set_cons_zero, List.set_cons_succ, i64_w, i32_w]
            rfl
           refine pure_ (i := 3) (N := some 37) (v := ?_) (a' := ?_) #[false, true, true, true, false, false, false, false, false, false, false, false, false, false, false] rfl rfl (any_of HT_.out (by kernel_rfl)) (fun _ _ _ h => h) (Or.inl ⟨by rfl, ?_⟩) ?_ ?_
           rotate_left
           ·intro w'
            go_simp
            with_reducible rfl
           rotate_left
           ·simp only [Act.put, List.setIfInBounds_toArray, List.set_cons_zero, List.set_cons_succ, i64_w, i32_w]
            rfl
           refine pure_ (i := 7) (N := some 41) (v := ?_) (a' := ?_) #[false, true, true, true, false, false, false, true, false, false, false, false, false, false, false] rfl rfl (any_of HT_.out (by kernel_rfl)) (fun _ _ _ h => h) (Or.inl ⟨by rfl, ?_⟩) ?_ ?_
           rotate_left
           ·intro w'
            go_simp
            with_reducible rfl
           rotate_left
           ·simp only [Act.put, List.setIfInBounds_toArray, List.set_cons_zero, List.set_cons_succ, i64_w, i32_w]
            rfl
           refine pure_ (i := 8) (N := some 42) (v := ?_) (a' := ?_) #[false, true, true, true, false, false, false, true, true, false, false, false, false, false, false] rfl rfl (any_of HT_.out (by kernel_rfl)) (fun _ _ _ h => h) (Or.inl ⟨by rfl, ?_⟩) ?_ ?_
           rotate_left
           ·intro w'
            go_simp
            with_reducible rfl
           rotate_left
           ·simp only [Act.put, List.setIfInBounds_toArray, List.set_cons_zero, List.set_cons_succ, i64_w, i32_w]
            rfl
           refine pure_ (i := 9) (N := some 43) (v := ?_) (a' := ?_) #[false, true, true, true, false, false, false, true, true, true, false, false, false, false, false] rfl rfl (any_of HT_.out (by kernel_rfl)) (fun _ _ _ h => h) (Or.inl ⟨by rfl, ?_⟩) ?_ ?_
           rotate_left
           ·intro w'
            go_simp
            with_reducible rfl
           rotate_left
           ·simp only [Act.put, List.setIfInBounds_toArray, List.set_cons_zero, List.set_cons_succ, i64_w, i32_w]
            rfl
           refine pure_ (i := 11) (N := some 45) (v := ?_) (a' := ?_) #[false, true, true, true, false, false, false, true, true, true, false, true, false, false, false] rfl rfl (any_of HT_.out (by kernel_rfl)) (fun _ _ _ h => h) (Or.inl ⟨by rfl, ?_⟩) ?_ ?_
           rotate_left
           ·intro w'
            go_simp
            with_reducible rfl
           rotate_left
           ·simp only [Act.put, List.setIfInBounds_toArray, List.set_cons_zero, List.set_cons_succ, i64_w, i32_w]
            rfl
           refine take_ (i := 0) (N := some 34) (v := ?_) (a' := ?_) #[true, true, true, true, false, false, false, true, true, true, false, true, false, false, false] rfl rfl (take_ofW HT_.out HW_.out (by kernel_rfl)) (fun _ _ _ h => h) (Or.inl ⟨by rfl, ?_⟩) hHeld ?_ ?_
           rotate_left
           ·rintro w' ⟨s0, s1, s2, s3⟩
            go_simp
            with_reducible rfl
           rotate_left
           ·simp only [Act.put, List.setIfInBounds_toArray, List.set_cons_zero, List.set_cons_succ, i64_w, i32_w]
            rfl
           refine take_ (i := 4) (N := some 38) (v := ?_) (a' := ?_) #[true, true, true, true, true, false, false, true, true, true, false, true, false, false, false] rfl rfl (take_ofW HT_.out HW_.out (by kernel_rfl)) (fun _ _ _ h => h) (Or.inl ⟨by rfl, ?_⟩) hHeld ?_ ?_
           rotate_left
           ·rintro w' ⟨s0, s1, s2, s3⟩
            go_simp
            with_reducible rfl
           rotate_left
           ·simp only [Act.put, List.setIfInBounds_toArray, List.set_cons_zero, List.set_cons_succ, i64_w, i32_w]
            rfl
           refine take_ (i := 6) (N := some 40) (v := ?_) (a' := ?_) #[true, true, true, true, true, false, true, true, true, true, false, true, false, false, false] rfl rfl (take_ofW HT_.out HW_.out (by kernel_rfl)) (fun _ _ _ h => h) (Or.inl ⟨by rfl, ?_⟩) hHeld ?_ ?_
           rotate_left
           ·rintro w' ⟨s0, s1, s2, s3⟩
            go_simp
            with_reducible rfl
           rotate_left
           ·simp only [Act.put, List.setIfInBounds_toArray, List.set_cons_zero, List.set_cons_succ, i64_w, i32_w]
            rfl
           refine take_ (i := 10) (N := some 44) (v := ?_) (a' := ?_) #[true, true, true, true, true, false, true, true, true, true, true, true, false, false, false] rfl rfl (take_ofW HT_.out HW_.out (by kernel_rfl)) (fun _ _ _ h => h) (Or.inl ⟨by rfl, ?_⟩) hHeld ?_ ?_
           rotate_left
           ·rintro w' ⟨s0, s1, s2, s3⟩
            go_simp
            with_reducible rfl
           rotate_left
           ·simp only [Act.put, List.setIfInBounds_toArray, List.set_cons_zero, List.set_cons_succ, i64_w, i32_w]
            rfl
           refine pure_ (i := 12) (N := some 46) (v := ?_) (a' := ?_) #[true, true, true, true, true, false, true, true, true, true, true, true, true, false, false] rfl rfl (any_of HT_.out (by kernel_rfl)) (fun _ _ _ h => h) (Or.inl ⟨by rfl, ?_⟩) ?_ ?_
           rotate_left
           ·intro w'
            go_simp
            with_reducible rfl
           rotate_left
           ·simp only [Act.put, List.setIfInBounds_toArray, List.set_cons_zero, List.set_cons_succ, i64_w, i32_w]
            rfl
           refine one_ (i := 5) (N := some 39) #[true, true, true, true, true, true, true, true, true, true, true, true, true, false, false] rfl rfl (one_of HT_.out (by kernel_rfl)) (by decide) (fun K hK => ?_)
           refine goes_ Try.func121 (by kernel_rfl) rfl #[.agg #[.int .i64 a0_0, .slice A0_1 l0_1.length c0_1], .int .i64 (rd t79011 x7_2)] (by rfl) rfl rfl (by (try simp only [List.map_toArray, List.map_cons, List.map_nil]); first | done | rfl | (simp only [List.length_drop, List.length_take]; rfl)) ?_
           with_reducible refine (spec_l5Rank.calls k2 a0_0 _ _ l0_1 (rd t79011 x7_2) t79015 _ ?side1 ?side2 A28.out).mono ?_
           (case side1 => repeat (first | exact (Kd.C_below HR0_1.out HB.out) | (with_reducible refine Kd.C_alloc ?_ _) | (with_reducible refine Kd.C_drewN ?_ _) | (with_reducible refine Kd.C_drew ?_)))
           (case side2 => exact HC0_1.out)
           rintro e w34 ⟨rfl, hb⟩
           have HS2_ := (hb.cell (World.block_lt_of_cell? _ _ (hHeld.2.2.1))).trans (hHeld.2.2.1)
           have HS3_ := (hb.cell (World.block_lt_of_cell? _ _ (hHeld.2.2.2))).trans (hHeld.2.2.2)
           refine ⟨_, rfl, ?_⟩
           have n0_ := aQ (Kd.R_below (by (with_reducible repeat (first | apply Kd.R_alloc | apply Kd.R_drewN | apply Kd.R_drew)); exact HO_3.out) hb)
           have n1_ := aQ (Kd.R_below (by (with_reducible repeat (first | apply Kd.R_alloc | apply Kd.R_drewN | apply Kd.R_drew)); exact HO_6.out) hb)
           have n2_ := aQ (Kd.R_below (by (with_reducible repeat (first | apply Kd.R_alloc | apply Kd.R_drewN | apply Kd.R_drew)); exact HO_79011001.out) hb)
           have n3_ := aQ (blk_below (g := gb79001) (o := .cells #[.int .i64 a0_0, .slice A0_1 l0_1.length c0_1] 28 (0, 0)) (by (with_reducible repeat (first | refine blk_drewN ?_ _ | refine blk_drew ?_ | refine blk_alloc ?_ _)); exact BK79001.out) hb)
           have n4_ := aQ (blk_below (g := gb79010) (o := .cells #[.int .i64 t79006, .slice Ao24 t79007.length co24] 28 (0, 0)) (by (with_reducible repeat (first | refine blk_drewN ?_ _ | refine blk_drew ?_ | refine blk_alloc ?_ _)); exact BK79010.out) hb)
           have n5_ := aQ (below_step (by repeat (first | (with_reducible first | exact HB.out | apply below_alloc | apply pw_below_drewN | apply below_drew1 | refine below_set ?_ GE79001.out | refine below_set ?_ GE79010.out) | exact HB.out)) hb)
           clear HO_3
           clear HO_6
           clear HO_79011001
           clear BK79001
           clear BK79010
           clear HB
           have HO_3 := n0_
           have HO_6 := n1_
           have HO_79011001 := n2_
           have BK79001 := n3_
           have BK79010 := n4_
           have HB := n5_
           clear n0_ n1_ n2_ n3_ n4_ n5_
           (try clear hb)
           (try clear hb2)
           (try clear hk)
           (try clear hi)
           refine hK.out _ _ ⟨(blk_cell BK79001.out 0).trans rfl, (blk_cell BK79001.out 1).trans rfl, HS2_, HS3_⟩ (fun hHeld => ?_)
           clear hK K
           refine norm_ (a' := ?_) ?_ ?_
           rotate_left
           ·show Act.put _ (some 39) _ = _
            simp only [Act.put, List.setIfInBounds_toArray, List.set_cons_zero, List.set_cons_succ, i64_w, i32_w]
            rfl
           refine one_ (i := 13) (N := some 47) #[true, true, true, true, true, true, true, true, true, true, true, true, true, true, false] rfl rfl (one_of HT_.out (by kernel_rfl)) (by decide) (fun K hK => ?_)
           refine goes_ Try.func121 (by kernel_rfl) rfl #[.agg #[.int .i64 a0_0, .slice A0_1 l0_1.length c0_1], .int .i64 (wrap64 ((rd t79011 x7_2) + ji16))] (by rfl) rfl rfl (by (try simp only [List.map_toArray, List.map_cons, List.map_nil]); first | done | (simp only [hji16]; rfl) | rfl | (simp only [List.length_drop, List.length_take]; rfl)) ?_
           with_reducible refine (spec_l5Rank.calls k2 a0_0 _ _ l0_1 (wrap64 ((rd t79011 x7_2) + ji16)) t79017 _ ?side1 ?side2 A29.out).mono ?_
           (case side1 => repeat (first | exact (Kd.C_below HR0_1.out HB.out) | (with_reducible refine Kd.C_alloc ?_ _) | (with_reducible refine Kd.C_drewN ?_ _) | (with_reducible refine Kd.C_drew ?_)))
           (case side2 => exact HC0_1.out)
           rintro e w35 ⟨rfl, hb⟩
           have HS2_ := (hb.cell (World.block_lt_of_cell? _ _ (hHeld.2.2.1))).trans (hHeld.2.2.1)
           have HS3_ := (hb.cell (World.block_lt_of_cell? _ _ (hHeld.2.2.2))).trans (hHeld.2.2.2)
           refine ⟨_, rfl, ?_⟩
           have n0_ := aQ (Kd.R_below (by (with_reducible repeat (first | apply Kd.R_alloc | apply Kd.R_drewN | apply Kd.R_drew)); exact HO_3.out) hb)
           have n1_ := aQ (Kd.R_below (by (with_reducible repeat (first | apply Kd.R_alloc | apply Kd.R_drewN | apply Kd.R_drew)); exact HO_6.out) hb)
           have n2_ := aQ (Kd.R_below (by (with_reducible repeat (first | apply Kd.R_alloc | apply Kd.R_drewN | apply Kd.R_drew)); exact HO_79011001.out) hb)
           have n3_ := aQ (blk_below (g := gb79001) (o := .cells #[.int .i64 a0_0, .slice A0_1 l0_1.length c0_1] 28 (0, 0)) (by (with_reducible repeat (first | refine blk_drewN ?_ _ | refine blk_drew ?_ | refine blk_alloc ?_ _)); exact BK79001.out) hb)
           have n4_ := aQ (blk_below (g := gb79010) (o := .cells #[.int .i64 t79006, .slice Ao24 t79007.length co24] 28 (0, 0)) (by (with_reducible repeat (first | refine blk_drewN ?_ _ | refine blk_drew ?_ | refine blk_alloc ?_ _)); exact BK79010.out) hb)
           have n5_ := aQ (below_step (by repeat (first | (with_reducible first | exact HB.out | apply below_alloc | apply pw_below_drewN | apply below_drew1 | refine below_set ?_ GE79001.out | refine below_set ?_ GE79010.out) | exact HB.out)) hb)
           clear HO_3
           clear HO_6
           clear HO_79011001
           clear BK79001
           clear BK79010
           clear HB
           have HO_3 := n0_
           have HO_6 := n1_
           have HO_79011001 := n2_
           have BK79001 := n3_
           have BK79010 := n4_
           have HB := n5_
           clear n0_ n1_ n2_ n3_ n4_ n5_
           (try clear hb)
           (try clear hb2)
           (try clear hk)
           (try clear hi)
           refine hK.out _ _ ⟨(blk_cell BK79001.out 0).trans rfl, (blk_cell BK79001.out 1).trans rfl, HS2_, HS3_⟩ (fun hHeld => ?_)
           clear hK K
           refine norm_ (a' := ?_) ?_ ?_
           rotate_left
           ·show Act.put _ (some 47) _ = _
            simp only [Act.put, List.setIfInBounds_toArray, List.set_cons_zero, List.set_cons_succ, i64_w, i32_w]
            rfl
           refine pure_ (i := 14) (N := some 48) (v := ?_) (a' := ?_) #[true, true, true, true, true, true, true, true, true, true, true, true, true, true, true] rfl rfl (any_of HT_.out (by kernel_rfl)) (fun _ _ _ h => h) (Or.inl ⟨by rfl, ?_⟩) ?_ ?_
           rotate_left
           ·intro w'
            go_simp
            with_reducible rfl
           rotate_left
           ·simp only [Act.put, List.setIfInBounds_toArray, List.set_cons_zero, List.set_cons_succ, i64_w, i32_w]
            rfl
           refine done_ (done_of HT_.out (by kernel_rfl)) ?_
           have p79018 : 0 ≤ (x7_2 : Int) := of_decide_eq_true (by first | (with_reducible assumption) | assumption)
           have q79018 : x7_2 < (t79011.length : Int) := of_decide_eq_true (by first | (with_reducible assumption) | assumption)
           obtain ⟨ad79018, e79018, hx79018_0⟩ := Kd.at_int (Kd.R_reads' HO_6.out).2.2 x7_2 p79018 q79018
           obtain rfl : ad79014 = ad79018 := (by injection e79018)
           replace p79018 := eq_true p79018
           replace q79018 := eq_true q79018
           try go_wp2_with (first | ((with_reducible refine gate_builtin (b := .append) (xs := #[.tmp 49, .tmp 54]) rfl ?_); at_builtin; refine Kd.R_append (Kd.int .i64) (w0 := w) w.heap.size rfl (.tmp 49) (.tmp 54) 22 3 (.int .i64 0) 8 rfl Try.underlying22 info3 rfl (by decide) (by omega) u3 x3_2 (rd t79011 x7_2) [.int .i64 (rd t79011 x7_2)] (fun k_ => some k_ ≠ (.slice (some ad79014) t79011.length co32 : Value).ownBlock ∧ some k_ ≠ (.slice Ao24 t79007.length co24 : Value).ownBlock) (fun _ => False) rfl rfl ?aP (fun _ hk => hk.elim) ?aF ?aO ?aB ?aS ?aL ?_; (case aP => exact rfl); (case aB => exact (by repeat (first | (with_reducible first | exact HB.out | apply below_alloc | apply pw_below_drewN | apply below_drew1 | refine below_set ?_ GE79001.out | refine below_set ?_ GE79010.out) | exact HB.out))); (case aF => exact (fun k_ hk => ⟨Kd.fresh' (Kd.R_lt (by (with_reducible repeat (first | apply Kd.R_alloc | apply Kd.R_drewN | apply Kd.R_drew)); exact HO_6.out)) k_ hk, Kd.fresh' (Kd.R_lt (by (with_reducible repeat (first | apply Kd.R_alloc | apply Kd.R_drewN | apply Kd.R_drew)); exact HO_79011001.out)) k_ hk⟩)); (case aO => exact (by (with_reducible repeat (first | apply Kd.R_alloc | apply Kd.R_drewN | apply Kd.R_drew)); exact HO_3.out)); (case aS => exact (below_size (by repeat (first | (with_reducible first | exact HB.out | apply below_alloc | apply pw_below_drewN | apply below_drew1 | refine below_set ?_ GE79001.out | refine below_set ?_ GE79010.out) | exact HB.out)))); (case aL => have := LMc31.out; omega); intro v79020 w36 ho hb hg hat; rw [← Ny79019.out] at ho; replace HO_6 := aQ (Kd.R_after (ok := (fun k_ => some k_ ≠ (.slice Ao24 t79007.length co24 : Value).ownBlock)) (by (with_reducible repeat (first | apply Kd.R_alloc | apply Kd.R_drewN | apply Kd.R_drew)); exact Kd.R_mono HO_6.out (fun _ hk => ⟨hk.2, hk.1⟩)) hg hat); replace HO_79011001 := aQ (Kd.R_after (ok := (fun k_ => some k_ ≠ (.slice (some ad79014) t79011.length co32 : Value).ownBlock)) (by (with_reducible repeat (first | apply Kd.R_alloc | apply Kd.R_drewN | apply Kd.R_drew)); exact Kd.R_mono HO_79011001.out (fun _ hk => ⟨hk.2, hk.1⟩)) hg hat); replace BK79001 := aQ (blk_grown (g := gb79001) (o := .cells #[.int .i64 a0_0, .slice A0_1 l0_1.length c0_1] 28 (0, 0)) (by (with_reducible repeat (first | refine blk_drewN ?_ _ | refine blk_drew ?_ | refine blk_alloc ?_ _)); exact BK79001.out) hg (Kd.R_ne HO_3.out BK79001.out (by decide))); replace BK79010 := aQ (blk_grown (g := gb79010) (o := .cells #[.int .i64 t79006, .slice Ao24 t79007.length co24] 28 (0, 0)) (by (with_reducible repeat (first | refine blk_drewN ?_ _ | refine blk_drew ?_ | refine blk_alloc ?_ _)); exact BK79010.out) hg (Kd.R_ne HO_3.out BK79010.out (by decide))); replace HB := aQ (hb); have HO79021 := aQ (ho); clear HO_3; clear ho hb hg hat))
           go_roundg k2
           case measure => have := HJ1.out; have := HK2.out; omega
           case rel => exact ⟨(y79019), (wrap64 (x7_2 + 1)), (by first | rfl | (simp; done) | (simp [*]; done)), H', ⟨by have := HJ1.out; have := HK2.out; omega⟩, ⟨by (with_reducible repeat (first | apply Kd.R_alloc | apply Kd.R_drewN | apply Kd.R_drew)); exact HO79021.out⟩, ⟨by (with_reducible repeat (first | apply Kd.R_alloc | apply Kd.R_drewN | apply Kd.R_drew)); exact Kd.R_mono HO_6.out (fun _ hk => ⟨hk.2, hk.1⟩)⟩, ⟨by (with_reducible repeat (first | apply Kd.R_alloc | apply Kd.R_drewN | apply Kd.R_drew)); exact Kd.R_mono HO_79011001.out (fun _ hk => ⟨hk.2, hk.1⟩)⟩, ⟨by (with_reducible repeat (first | refine blk_drewN ?_ _ | refine blk_drew ?_ | refine blk_alloc ?_ _)); exact BK79001.out⟩, ⟨by (with_reducible repeat (first | refine blk_drewN ?_ _ | refine blk_drew ?_ | refine blk_alloc ?_ _)); exact BK79010.out⟩, ⟨by repeat (first | (with_reducible first | exact HB.out | apply below_alloc | apply pw_below_drewN | apply below_drew1 | refine below_set ?_ GE79001.out | refine below_set ?_ GE79010.out) | exact HB.out)⟩⟩
          ·rw [if_neg c31] at H
           exact absurd H (by simp)
         ·rw [if_neg c30] at H
          have c30b0 : (t79015 == t79017) = false := beq_eq_false_iff_ne.mpr c30
          have c30b1 : (t79015 != t79017) = true := bne_iff_ne.mpr c30
          have H' := aQ H
          clear H
          obtain ⟨Ao37, co37, eo37⟩ := Kd.R_slice HO_6.out
          subst eo37
          try go_wp2
          have n0_ := aQ (Kd.R_drew HO_3.out)
          have n1_ := aQ (Kd.R_drew HO_6.out)
          have n2_ := aQ (Kd.R_drew HO_79011001.out)
          have n3_ := aQ (blk_drew BK79001.out)
          have n4_ := aQ (blk_drew BK79010.out)
          have n5_ := aQ (below_drew1 HB.out)
          clear HO_3
          clear HO_6
          clear HO_79011001
          clear BK79001
          clear BK79010
          clear HB
          have HO_3 := n0_
          have HO_6 := n1_
          have HO_79011001 := n2_
          have BK79001 := n3_
          have BK79010 := n4_
          have HB := n5_
          clear n0_ n1_ n2_ n3_ n4_ n5_
          have p79014 : 0 ≤ (x7_2 : Int) := of_decide_eq_true (by first | (with_reducible assumption) | assumption)
          have q79014 : x7_2 < (t79011.length : Int) := of_decide_eq_true (by first | (with_reducible assumption) | assumption)
          obtain ⟨ad79014, e79014, hx79014_0⟩ := Kd.at_int (Kd.R_reads' HO_6.out).2.2 x7_2 p79014 q79014
          cases e79014
          replace p79014 := eq_true p79014
          replace q79014 := eq_true q79014
          have p79016 : 0 ≤ (x7_2 : Int) := of_decide_eq_true (by first | (with_reducible assumption) | assumption)
          have q79016 : x7_2 < (t79011.length : Int) := of_decide_eq_true (by first | (with_reducible assumption) | assumption)
          obtain ⟨ad79016, e79016, hx79016_0⟩ := Kd.at_int (Kd.R_reads' HO_6.out).2.2 x7_2 p79016 q79016
          obtain rfl : ad79014 = ad79016 := (by injection e79016)
          replace p79016 := eq_true p79016
          replace q79016 := eq_true q79016
          refine start_ (n := 15) (S := fun w' => w'.cell? ⟨gb79001, 0, none⟩ = some (.int .i64 a0_0) ∧ w'.cell? ⟨gb79001, 1, none⟩ = some (.slice A0_1 l0_1.length c0_1) ∧ w'.cell? (ad79014.add (x7_2).toNat) = some (.int .i64 (rd t79011 x7_2)) ∧ w'.cell? (ad79014.add (x7_2).toNat) = some (.int .i64 (rd t79011 x7_2))) (ds := []) #[false, false, false, false, false, false, false, false, false, false, false, false, false, false, false] (by kernel_rfl) rfl rfl ⟨(blk_cell BK79001.out 0).trans rfl, (blk_cell BK79001.out 1).trans rfl, hx79014_0, hx79016_0⟩ (fun hHeld => ?_); refine with_tabW spec_CutOf.tab10 spec_CutOf.bits10 (fun HT_ HW_ => ?_)
          generalize wr.drew = w38 at HO_3 HO_6 HO_79011001 BK79001 BK79010 HB hx79014_0 hx79016_0 hHeld ⊢
          refine pure_ (i := 1) (N := some 35) (v := ?_) (a' := ?_) #[false, true, false, false, false, false, false, false, false, false, false, false, false, false, false] rfl rfl (any_of HT_.out (by kernel_rfl)) (fun _ _ _ h => h) (Or.inl ⟨by rfl, ?_⟩) ?_ ?_
          rotate_left
          ·intro w'
           go_simp
           with_reducible rfl
          rotate_left
          ·simp only [Act.put, List.setIfInBounds_toArray, List.set_cons_zero, List.set_cons_succ, i64_w, i32_w]
           rfl
          refine pure_ (i := 2) (N := some 36) (v := ?_) (a' := ?_) #[false, true, true, false, false, false, false, false, false, false, false, false, false, false, false] rfl rfl (any_of HT_.out (by kernel_rfl)) (fun _ _ _ h => h) (Or.inl ⟨by rfl, ?_⟩) ?_ ?_
          rotate_left
          ·intro w'
           go_simp
           with_reducible rfl
          rotate_left
          ·simp only [Act.put, List.setIfInBounds_toArray, List.set_cons_zero, List.set_cons_succ, i64_w, i32_w]
           rfl
          refine pure_ (i := 3) (N := some 37) (v := ?_) (a' := ?_) #[false, true, true, true, false, false, false, false, false, false, false, false, false, false, false] rfl rfl (any_of HT_.out (by kernel_rfl)) (fun _ _ _ h => h) (Or.inl ⟨by rfl, ?_⟩) ?_ ?_
          rotate_left
          ·intro w'
           go_simp
           with_reducible rfl
          rotate_left
          ·simp only [Act.put, List.setIfInBounds_toArray, List.set_cons_zero, List.set_cons_succ, i64_w, i32_w]
           rfl
          refine pure_ (i := 7) (N := some 41) (v := ?_) (a' := ?_) #[false, true, true, true, false, false, false, true, false, false, false, false, false, false, false] rfl rfl (any_of HT_.out (by kernel_rfl)) (fun _ _ _ h => h) (Or.inl ⟨by rfl, ?_⟩) ?_ ?_
          rotate_left
          ·intro w'
           go_simp
           with_reducible rfl
          rotate_left
          ·simp only [Act.put, List.setIfInBounds_toArray, List.set_cons_zero, List.set_cons_succ, i64_w, i32_w]
           rfl
          refine pure_ (i := 8) (N := some 42) (v := ?_) (a' := ?_) #[false, true, true, true, false, false, false, true, true, false, false, false, false, false, false] rfl rfl (any_of HT_.out (by kernel_rfl)) (fun _ _ _ h => h) (Or.inl ⟨by rfl, ?_⟩) ?_ ?_
          rotate_left
          ·intro w'
           go_simp
           with_reducible rfl
          rotate_left
          ·simp only [Act.put, List.setIfInBounds_toArray, List.set_cons_zero, List.set_cons_succ, i64_w, i32_w]
           rfl
          refine pure_ (i := 9) (N := some 43) (v := ?_) (a' := ?_) #[false, true, true, true, false, false, false, true, true, true, false, false, false, false, false] rfl rfl (any_of HT_.out (by kernel_rfl)) (fun _ _ _ h => h) (Or.inl ⟨by rfl, ?_⟩) ?_ ?_
          rotate_left
          ·intro w'
           go_simp
           with_reducible rfl
          rotate_left
          ·simp only [Act.put, List.setIfInBounds_toArray, List.set_cons_zero, List.set_cons_succ, i64_w, i32_w]
           rfl
          refine pure_ (i := 11) (N := some 45) (v := ?_) (a' := ?_) #[false, true, true, true, false, false, false, true, true, true, false, true, false, false, false] rfl rfl (any_of HT_.out (by kernel_rfl)) (fun _ _ _ h => h) (Or.inl ⟨by rfl, ?_⟩) ?_ ?_
          rotate_left
          ·intro w'
           go_simp
           with_reducible rfl
          rotate_left
          ·simp only [Act.put, List.setIfInBounds_toArray, List.set_cons_zero, List.set_cons_succ, i64_w, i32_w]
           rfl
          refine take_ (i := 0) (N := some 34) (v := ?_) (a' := ?_) #[true, true, true, true, false, false, false, true, true, true, false, true, false, false, false] rfl rfl (take_ofW HT_.out HW_.out (by kernel_rfl)) (fun _ _ _ h => h) (Or.inl ⟨by rfl, ?_⟩) hHeld ?_ ?_
          rotate_left
          ·rintro w' ⟨s0, s1, s2, s3⟩
           go_simp
           with_reducible rfl
          rotate_left
          ·simp only [Act.put, List.setIfInBounds_toArray, List.set_cons_zero, List.set_cons_succ, i64_w, i32_w]
           rfl
          refine take_ (i := 4) (N := some 38) (v := ?_) (a' := ?_) #[true, true, true, true, true, false, false, true, true, true, false, true, false, false, false] rfl rfl (take_ofW HT_.out HW_.out (by kernel_rfl)) (fun _ _ _ h => h) (Or.inl ⟨by rfl, ?_⟩) hHeld ?_ ?_
          rotate_left
          ·rintro w' ⟨s0, s1, s2, s3⟩
           go_simp
           with_reducible rfl
          rotate_left
          ·simp only [Act.put, List.setIfInBounds_toArray, List.set_cons_zero, List.set_cons_succ, i64_w, i32_w]
           rfl
          refine take_ (i := 6) (N := some 40) (v := ?_) (a' := ?_) #[true, true, true, true, true, false, true, true, true, true, false, true, false, false, false] rfl rfl (take_ofW HT_.out HW_.out (by kernel_rfl)) (fun _ _ _ h => h) (Or.inl ⟨by rfl, ?_⟩) hHeld ?_ ?_
          rotate_left
          ·rintro w' ⟨s0, s1, s2, s3⟩
           go_simp
           with_reducible rfl
          rotate_left
          ·simp only [Act.put, List.setIfInBounds_toArray, List.set_cons_zero, List.set_cons_succ, i64_w, i32_w]
           rfl
          refine take_ (i := 10) (N := some 44) (v := ?_) (a' := ?_) #[true, true, true, true, true, false, true, true, true, true, true, true, false, false, false] rfl rfl (take_ofW HT_.out HW_.out (by kernel_rfl)) (fun _ _ _ h => h) (Or.inl ⟨by rfl, ?_⟩) hHeld ?_ ?_
          rotate_left
          ·rintro w' ⟨s0, s1, s2, s3⟩
           go_simp
           with_reducible rfl
          rotate_left
          ·simp only [Act.put, List.setIfInBounds_toArray, List.set_cons_zero, List.set_cons_succ, i64_w, i32_w]
           rfl
          refine pure_ (i := 12) (N := some 46) (v := ?_) (a' := ?_) #[true, true, true, true, true, false, true, true, true, true, true, true, true, false, false] rfl rfl (any_of HT_.out (by kernel_rfl)) (fun _ _ _ h => h) (Or.inl ⟨by rfl, ?_⟩) ?_ ?_
          rotate_left
          ·intro w'
           go_simp
           with_reducible rfl
          rotate_left
          ·simp only [Act.put, List.setIfInBounds_toArray, List.set_cons_zero, List.set_cons_succ, i64_w, i32_w]
           rfl
          refine one_ (i := 5) (N := some 39) #[true, true, true, true, true, true, true, true, true, true, true, true, true, false, false] rfl rfl (one_of HT_.out (by kernel_rfl)) (by decide) (fun K hK => ?_)
          refine goes_ Try.func121 (by kernel_rfl) rfl #[.agg #[.int .i64 a0_0, .slice A0_1 l0_1.length c0_1], .int .i64 (rd t79011 x7_2)] (by rfl) rfl rfl (by (try simp only [List.map_toArray, List.map_cons, List.map_nil]); first | done | rfl | (simp only [List.length_drop, List.length_take]; rfl)) ?_
          with_reducible refine (spec_l5Rank.calls k2 a0_0 _ _ l0_1 (rd t79011 x7_2) t79015 _ ?side1 ?side2 A28.out).mono ?_
          (case side1 => repeat (first | exact (Kd.C_below HR0_1.out HB.out) | (with_reducible refine Kd.C_alloc ?_ _) | (with_reducible refine Kd.C_drewN ?_ _) | (with_reducible refine Kd.C_drew ?_)))
          (case side2 => exact HC0_1.out)
          rintro e w39 ⟨rfl, hb⟩
          have HS2_ := (hb.cell (World.block_lt_of_cell? _ _ (hHeld.2.2.1))).trans (hHeld.2.2.1)
          have HS3_ := (hb.cell (World.block_lt_of_cell? _ _ (hHeld.2.2.2))).trans (hHeld.2.2.2)
          refine ⟨_, rfl, ?_⟩
          have n0_ := aQ (Kd.R_below (by (with_reducible repeat (first | apply Kd.R_alloc | apply Kd.R_drewN | apply Kd.R_drew)); exact HO_3.out) hb)
          have n1_ := aQ (Kd.R_below (by (with_reducible repeat (first | apply Kd.R_alloc | apply Kd.R_drewN | apply Kd.R_drew)); exact HO_6.out) hb)
          have n2_ := aQ (Kd.R_below (by (with_reducible repeat (first | apply Kd.R_alloc | apply Kd.R_drewN | apply Kd.R_drew)); exact HO_79011001.out) hb)
          have n3_ := aQ (blk_below (g := gb79001) (o := .cells #[.int .i64 a0_0, .slice A0_1 l0_1.length c0_1] 28 (0, 0)) (by (with_reducible repeat (first | refine blk_drewN ?_ _ | refine blk_drew ?_ | refine blk_alloc ?_ _)); exact BK79001.out) hb)
          have n4_ := aQ (blk_below (g := gb79010) (o := .cells #[.int .i64 t79006, .slice Ao24 t79007.length co24] 28 (0, 0)) (by (with_reducible repeat (first | refine blk_drewN ?_ _ | refine blk_drew ?_ | refine blk_alloc ?_ _)); exact BK79010.out) hb)
          have n5_ := aQ (below_step (by repeat (first | (with_reducible first | exact HB.out | apply below_alloc | apply pw_below_drewN | apply below_drew1 | refine below_set ?_ GE79001.out | refine below_set ?_ GE79010.out) | exact HB.out)) hb)
          clear HO_3
          clear HO_6
          clear HO_79011001
          clear BK79001
          clear BK79010
          clear HB
          have HO_3 := n0_
          have HO_6 := n1_
          have HO_79011001 := n2_
          have BK79001 := n3_
          have BK79010 := n4_
          have HB := n5_
          clear n0_ n1_ n2_ n3_ n4_ n5_
          (try clear hb)
          (try clear hb2)
          (try clear hk)
          (try clear hi)
          refine hK.out _ _ ⟨(blk_cell BK79001.out 0).trans rfl, (blk_cell BK79001.out 1).trans rfl, HS2_, HS3_⟩ (fun hHeld => ?_)
          clear hK K
          refine norm_ (a' := ?_) ?_ ?_
          rotate_left
          ·show Act.put _ (some 39) _ = _
           simp only [Act.put, List.setIfInBounds_toArray, List.set_cons_zero, List.set_cons_succ, i64_w, i32_w]
           rfl
          refine one_ (i := 13) (N := some 47) #[true, true, true, true, true, true, true, true, true, true, true, true, true, true, false] rfl rfl (one_of HT_.out (by kernel_rfl)) (by decide) (fun K hK => ?_)
          refine goes_ Try.func121 (by kernel_rfl) rfl #[.agg #[.int .i64 a0_0, .slice A0_1 l0_1.length c0_1], .int .i64 (wrap64 ((rd t79011 x7_2) + ji16))] (by rfl) rfl rfl (by (try simp only [List.map_toArray, List.map_cons, List.map_nil]); first | done | (simp only [hji16]; rfl) | rfl | (simp only [List.length_drop, List.length_take]; rfl)) ?_
          with_reducible refine (spec_l5Rank.calls k2 a0_0 _ _ l0_1 (wrap64 ((rd t79011 x7_2) + ji16)) t79017 _ ?side1 ?side2 A29.out).mono ?_
          (case side1 => repeat (first | exact (Kd.C_below HR0_1.out HB.out) | (with_reducible refine Kd.C_alloc ?_ _) | (with_reducible refine Kd.C_drewN ?_ _) | (with_reducible refine Kd.C_drew ?_)))
          (case side2 => exact HC0_1.out)
          rintro e w40 ⟨rfl, hb⟩
          have HS2_ := (hb.cell (World.block_lt_of_cell? _ _ (hHeld.2.2.1))).trans (hHeld.2.2.1)
          have HS3_ := (hb.cell (World.block_lt_of_cell? _ _ (hHeld.2.2.2))).trans (hHeld.2.2.2)
          refine ⟨_, rfl, ?_⟩
          have n0_ := aQ (Kd.R_below (by (with_reducible repeat (first | apply Kd.R_alloc | apply Kd.R_drewN | apply Kd.R_drew)); exact HO_3.out) hb)
          have n1_ := aQ (Kd.R_below (by (with_reducible repeat (first | apply Kd.R_alloc | apply Kd.R_drewN | apply Kd.R_drew)); exact HO_6.out) hb)
          have n2_ := aQ (Kd.R_below (by (with_reducible repeat (first | apply Kd.R_alloc | apply Kd.R_drewN | apply Kd.R_drew)); exact HO_79011001.out) hb)
          have n3_ := aQ (blk_below (g := gb79001) (o := .cells #[.int .i64 a0_0, .slice A0_1 l0_1.length c0_1] 28 (0, 0)) (by (with_reducible repeat (first | refine blk_drewN ?_ _ | refine blk_drew ?_ | refine blk_alloc ?_ _)); exact BK79001.out) hb)
          have n4_ := aQ (blk_below (g := gb79010) (o := .cells #[.int .i64 t79006, .slice Ao24 t79007.length co24] 28 (0, 0)) (by (with_reducible repeat (first | refine blk_drewN ?_ _ | refine blk_drew ?_ | refine blk_alloc ?_ _)); exact BK79010.out) hb)
          have n5_ := aQ (below_step (by repeat (first | (with_reducible first | exact HB.out | apply below_alloc | apply pw_below_drewN | apply below_drew1 | refine below_set ?_ GE79001.out | refine below_set ?_ GE79010.out) | exact HB.out)) hb)
          clear HO_3
          clear HO_6
          clear HO_79011001
          clear BK79001
          clear BK79010
          clear HB
          have HO_3 := n0_
          have HO_6 := n1_
          have HO_79011001 := n2_
          have BK79001 := n3_
          have BK79010 := n4_
          have HB := n5_
          clear n0_ n1_ n2_ n3_ n4_ n5_
          (try clear hb)
          (try clear hb2)
          (try clear hk)
          (try clear hi)
          refine hK.out _ _ ⟨(blk_cell BK79001.out 0).trans rfl, (blk_cell BK79001.out 1).trans rfl, HS2_, HS3_⟩ (fun hHeld => ?_)
          clear hK K
          refine norm_ (a' := ?_) ?_ ?_
          rotate_left
          ·show Act.put _ (some 47) _ = _
           simp only [Act.put, List.setIfInBounds_toArray, List.set_cons_zero, List.set_cons_succ, i64_w, i32_w]
           rfl
          refine pure_ (i := 14) (N := some 48) (v := ?_) (a' := ?_) #[true, true, true, true, true, true, true, true, true, true, true, true, true, true, true] rfl rfl (any_of HT_.out (by kernel_rfl)) (fun _ _ _ h => h) (Or.inl ⟨by rfl, ?_⟩) ?_ ?_
          rotate_left
          ·intro w'
           go_simp
           with_reducible rfl
          rotate_left
          ·simp only [Act.put, List.setIfInBounds_toArray, List.set_cons_zero, List.set_cons_succ, i64_w, i32_w]
           rfl
          refine done_ (done_of HT_.out (by kernel_rfl)) ?_
          try go_wp2
          go_roundg k2
          case measure => have := HJ1.out; have := HK2.out; omega
          case rel => exact ⟨(x3_2), (wrap64 (x7_2 + 1)), (by first | rfl | (simp; done) | (simp [*]; done)), H', ⟨by have := HJ1.out; have := HK2.out; omega⟩, ⟨by (with_reducible repeat (first | apply Kd.R_alloc | apply Kd.R_drewN | apply Kd.R_drew)); exact HO_3.out⟩, ⟨by (with_reducible repeat (first | apply Kd.R_alloc | apply Kd.R_drewN | apply Kd.R_drew)); exact HO_6.out⟩, ⟨by (with_reducible repeat (first | apply Kd.R_alloc | apply Kd.R_drewN | apply Kd.R_drew)); exact HO_79011001.out⟩, ⟨by (with_reducible repeat (first | refine blk_drewN ?_ _ | refine blk_drew ?_ | refine blk_alloc ?_ _)); exact BK79001.out⟩, ⟨by (with_reducible repeat (first | refine blk_drewN ?_ _ | refine blk_drew ?_ | refine blk_alloc ?_ _)); exact BK79010.out⟩, ⟨by repeat (first | (with_reducible first | exact HB.out | apply below_alloc | apply pw_below_drewN | apply below_drew1 | refine below_set ?_ GE79001.out | refine below_set ?_ GE79010.out) | exact HB.out)⟩⟩
        ·rw [if_neg c27] at H
         exact absurd H (by simp)
       ·rw [if_neg c26] at H
        have c26b0 : decide (x7_2 < (t79011.length : Int)) = false := decide_eq_false c26
        clear c26
        obtain rfl := Option.some.inj H
        obtain ⟨Ao41, co41, eo41⟩ := Kd.R_slice HO_6.out
        subst eo41
        go_wp2
        go_ret
        exact ⟨_, by first | rfl | (simp [errW_none, errW_some] <;> rfl) | (simp only [← hji14, ← hji16]; first | rfl | (simp [errW_none, errW_some] <;> rfl)) | (simp [*, errW_none, errW_some] <;> rfl), by (with_reducible repeat (first | apply Kd.R_alloc | apply Kd.R_drewN | apply Kd.R_drew)); exact Kd.R_mono HO_3.out (fun _ hk => trivial), by repeat (first | (with_reducible first | exact HB.out | apply below_alloc | apply pw_below_drewN | apply below_drew1 | refine below_set ?_ GE79001.out | refine below_set ?_ GE79010.out) | exact HB.out)⟩
    ·rw [if_neg c15] at H
     exact absurd H (by simp)
/-! ### impl_UnpackSet: function 267 -/
def impl_UnpackSet.l0 : Nat → List Int → Int → List Int → Int → Int → Option (Int)
 | 0, _, _, _, _, _ => none
 | k + 1, x5, x6, x12, x13, x14 => if x14 < x13 then (if 0 ≤ x14 then (if x14 < (x12.length : Int) then (if (rd x12 x14) ≥ (x5.length : Int) then (some 0) else (if 0 ≤ (rd x12 x14) then (if (rd x12 x14) < (x5.length : Int) then (if 0 ≤ (rd x5 (rd x12 x14)) then (impl_UnpackSet.l0 k x5 (Go.bits .or .i64 x6 (shl .i64 1 (rd x5 (rd x12 x14)))) x12 x13 (wrap64 (x14 + 1))) else (none)) else (none)) else (none))) else (none)) else (none)) else (some x6)
def impl_UnpackSet.f (k : Nat) (a0 : Int) (a1 : Int) : Option (Int) := (impl_ElementsOf.f k a1).bind fun t268001 => ((impl_ElementsOf.f k a0).bind fun t268004 => (impl_UnpackSet.l0 k t268001 0 t268004 (t268004.length : Int) 0))
theorem impl_UnpackSet.mono_l : ∀ k, (∀ y0 y1 y2 y3 y4, LeO (impl_UnpackSet.l0 k y0 y1 y2 y3 y4) (impl_UnpackSet.l0 (k + 1) y0 y1 y2 y3 y4))
 | 0 => fun _ _ _ _ _ r h => by simp [impl_UnpackSet.l0] at h
 | k + 1 => by
  have ih0 := impl_UnpackSet.mono_l k
  ·intro y0 y1 y2 y3 y4
   unfold impl_UnpackSet.l0
   repeat' first
   | (with_reducible exact ih0 _ _ _ _ _)
   | (with_reducible exact impl_ElementsOf.mono _ _)
   | (with_reducible exact LeO.refl _)
   | (with_reducible exact LeO.none _)
   | (with_reducible refine LeO.ite ?_ ?_)
   | (with_reducible refine LeO.bind ?_ (fun _ => ?_))
   | exact ih0 _ _ _ _ _
   | exact impl_ElementsOf.mono _ _
   | exact LeO.none _
   | refine LeO.ite ?_ ?_
   | refine LeO.bind ?_ (fun _ => ?_)
theorem impl_UnpackSet.mono : ∀ a0 a1 k, LeO (impl_UnpackSet.f k a0 a1) (impl_UnpackSet.f (k + 1) a0 a1) := by
 intro a0 a1 k
 have ih0 := impl_UnpackSet.mono_l k
 unfold impl_UnpackSet.f
 repeat' first
   | (with_reducible exact ih0 _ _ _ _ _)
   | (with_reducible exact impl_ElementsOf.mono _ _)
   | (with_reducible exact LeO.refl _)
   | (with_reducible exact LeO.none _)
   | (with_reducible refine LeO.ite ?_ ?_)
   | (with_reducible refine LeO.bind ?_ (fun _ => ?_))
   | exact ih0 _ _ _ _ _
   | exact impl_ElementsOf.mono _ _
   | exact LeO.none _
   | refine LeO.ite ?_ ?_
   | refine LeO.bind ?_ (fun _ => ?_)
set_option maxHeartbeats 8000000 in
set_option maxRecDepth 100000 in
theorem impl_UnpackSet.calls (k : Nat) (a0 : Int) (a1 : Int) (r : Int) (w : World) (h : impl_UnpackSet.f k a0 a1 = some r) :
  Calls Try.prog 267 #[.int .i64 a0, .int .i64 a1] w fun e w' => e = .returned (.int .i64 r) ∧ Below w.heap.size w w' := by
 have HB := aQ (Below.refl w.heap.size w)
 have H : ((impl_ElementsOf.f k a1).bind fun t268001 => ((impl_ElementsOf.f k a0).bind fun t268004 => (impl_UnpackSet.l0 k t268001 0 t268004 (t268004.length : Int) 0))) = some r := h
 clear h
 replace H := Option.bind_eq_some_iff.mp H
 obtain ⟨t268001, A30, H⟩ := H
 replace H : ((impl_ElementsOf.f k a0).bind fun t268004 => (impl_UnpackSet.l0 k t268001 0 t268004 (t268004.length : Int) 0)) = some r := H
 have A3 := aQ A30
 clear A30
 replace H := Option.bind_eq_some_iff.mp H
 obtain ⟨t268004, A40, H⟩ := H
 replace H : (impl_UnpackSet.l0 k t268001 0 t268004 (t268004.length : Int) 0) = some r := H
 have A4 := aQ A40
 clear A40
 have H' := aQ H
 clear H
 go_enter Try.func267, Try.ntmps267
 go_wp2_with (first | ((with_reducible refine gate_callee (f := 226) rfl ?_); refine goesL_ (some 10) rfl rfl Try.func226 (by kernel_rfl) rfl #[.int .i64 a1] rfl (by (try simp only [List.map_toArray, List.map_cons, List.map_nil]); first | done | rfl | (simp only [List.length_drop, List.length_take]; rfl)) ?_; (with_reducible refine (impl_ElementsOf.calls k a1 t268001 _ A3.out).mono ?_); rintro e w5 ⟨v268002, rfl, ho0, hb⟩; refine ⟨_, rfl, ?_⟩; have HO268003 := aQ (Kd.R_lower ho0 (below_size (by repeat (first | (with_reducible first | exact HB.out | apply below_alloc | apply pw_below_drewN | apply below_drew1) | exact HB.out)))); replace HB := aQ (below_step (by repeat (first | (with_reducible first | exact HB.out | apply below_alloc | apply pw_below_drewN | apply below_drew1) | exact HB.out)) hb); (try clear hb); (try clear hb2); (try clear hk); (try clear hi); (try clear ho0)) | ((with_reducible refine gate_callee (f := 226) rfl ?_); refine goesL_ (some 12) rfl rfl Try.func226 (by kernel_rfl) rfl #[.int .i64 a0] rfl (by (try simp only [List.map_toArray, List.map_cons, List.map_nil]); first | done | rfl | (simp only [List.length_drop, List.length_take]; rfl)) ?_; (with_reducible refine (impl_ElementsOf.calls k a0 t268004 _ A4.out).mono ?_); rintro e w6 ⟨v268005, rfl, ho0, hb⟩; refine ⟨_, rfl, ?_⟩; have HO268006 := aQ (Kd.R_lower (Kd.R_new' ho0 (Kd.R_lt (by (with_reducible repeat (first | apply Kd.R_alloc | apply Kd.R_drewN | apply Kd.R_drew)); exact HO268003.out))) (below_size (by repeat (first | (with_reducible first | exact HB.out | apply below_alloc | apply pw_below_drewN | apply below_drew1) | exact HB.out)))); replace HO268003 := aQ (Kd.R_elder' (by (with_reducible repeat (first | apply Kd.R_alloc | apply Kd.R_drewN | apply Kd.R_drew)); exact HO268003.out) (Kd.R_base ho0) hb); replace HB := aQ (below_step (by repeat (first | (with_reducible first | exact HB.out | apply below_alloc | apply pw_below_drewN | apply below_drew1) | exact HB.out)) hb); (try clear hb); (try clear hb2); (try clear hk); (try clear hi); (try clear ho0); obtain ⟨Ao7, co7, eo7⟩ := Kd.R_slice HO268006.out; subst eo7))
 go_loopg [6, 14] k (fun kq v6 v14 w' => ∃ (x6_1 : Int) (x14_1 : Int), v6 = .int .i64 x6_1 ∧ v14 = .int .i64 x14_1 ∧ Aside0 (impl_UnpackSet.l0 kq t268001 x6_1 t268004 (t268004.length : Int) x14_1 = some r) ∧ Aside0 (kq ≤ k) ∧ Aside0 (Kd.R (Kd.int .i64) 3 w' w.heap.size (fun k_ => some k_ ≠ ((.slice Ao7 t268004.length co7) : Value).ownBlock) v268002 t268001) ∧ Aside0 (Kd.R (Kd.int .i64) 3 w' w.heap.size (fun k_ => some k_ ≠ (v268002 : Value).ownBlock) (.slice Ao7 t268004.length co7) t268004) ∧ Aside0 (Below w.heap.size w w'))
 case atStart => exact ⟨(0), (0), (by first | rfl | (simp; done) | (simp [*]; done)), (by first | rfl | (simp; done) | (simp [*]; done)), H', ⟨Nat.le_refl _⟩, ⟨by (with_reducible repeat (first | apply Kd.R_alloc | apply Kd.R_drewN | apply Kd.R_drew)); exact Kd.R_mono HO268003.out (fun _ hk => hk.2)⟩, ⟨by (with_reducible repeat (first | apply Kd.R_alloc | apply Kd.R_drewN | apply Kd.R_drew)); exact Kd.R_mono HO268006.out (fun _ hk => hk.2)⟩, ⟨by repeat (first | (with_reducible first | exact HB.out | apply below_alloc | apply pw_below_drewN | apply below_drew1) | exact HB.out)⟩⟩
 case round =>
  clear H'
  try clear c2
  try clear p2
  obtain ⟨x6_1, x14_1, rfl, rfl, HA, HK1, HO_5, HO_12, HB⟩ := hrel
  cases gk with
  | zero => exact absurd HA.out (by simp [impl_UnpackSet.l0])
  | succ k1 =>
   have H := HA.out
   clear HA
   simp only [impl_UnpackSet.l0] at H
   by_cases c8 : x14_1 < (t268004.length : Int)
   ·rw [if_pos c8] at H
    have c8b0 : decide (x14_1 < (t268004.length : Int)) = true := decide_eq_true c8
    clear c8
    by_cases c9 : 0 ≤ x14_1
    ·rw [if_pos c9] at H
     have c9b0 : decide (0 ≤ x14_1) = true := decide_eq_true c9
     clear c9
     by_cases c10 : x14_1 < (t268004.length : Int)
     ·rw [if_pos c10] at H
      have c10b0 : decide (x14_1 < (t268004.length : Int)) = true := decide_eq_true c10
      clear c10
      by_cases c11 : (rd t268004 x14_1) ≥ (t268001.length : Int)
      ·rw [if_pos c11] at H
       have c11b0 : decide ((t268001.length : Int) ≤ (rd t268004 x14_1)) = true := decide_eq_true c11
       clear c11
       obtain rfl := Option.some.inj H
       have p268007 : 0 ≤ (x14_1 : Int) := of_decide_eq_true (by first | (with_reducible assumption) | assumption)
       have q268007 : x14_1 < (t268004.length : Int) := of_decide_eq_true (by first | (with_reducible assumption) | assumption)
       obtain ⟨ad268007, e268007, hx268007_0⟩ := Kd.at_int (Kd.R_reads' HO_12.out).2.2 x14_1 p268007 q268007
       cases e268007
       replace p268007 := eq_true p268007
       replace q268007 := eq_true q268007
       obtain ⟨Ao12, co12, eo12⟩ := Kd.R_slice HO_5.out
       subst eo12
       go_wp2
       go_ret
       exact ⟨by first | rfl | (simp [errW_none, errW_some] <;> rfl) | (simp [*, errW_none, errW_some] <;> rfl), by repeat (first | (with_reducible first | exact HB.out | apply below_alloc | apply pw_below_drewN | apply below_drew1) | exact HB.out)⟩
      ·rw [if_neg c11] at H
       have c11b0 : decide ((t268001.length : Int) ≤ (rd t268004 x14_1)) = false := decide_eq_false c11
       clear c11
       by_cases c13 : 0 ≤ (rd t268004 x14_1)
       ·rw [if_pos c13] at H
        have c13b0 : decide (0 ≤ (rd t268004 x14_1)) = true := decide_eq_true c13
        clear c13
        by_cases c14 : (rd t268004 x14_1) < (t268001.length : Int)
        ·rw [if_pos c14] at H
         have c14b0 : decide ((rd t268004 x14_1) < (t268001.length : Int)) = true := decide_eq_true c14
         clear c14
         by_cases c15 : 0 ≤ (rd t268001 (rd t268004 x14_1))
         ·rw [if_pos c15] at H
          have c15b0 := eq_true c15
          have c15b1 : decide (0 ≤ (rd t268001 (rd t268004 x14_1))) = true := decide_eq_true c15
          clear c15
          obtain ⟨ji16, hji16⟩ : ∃ j_ : Int, (shl .i64 1 (rd t268001 (rd t268004 x14_1))) = j_ := ⟨_, rfl⟩
          replace H : (impl_UnpackSet.l0 k1 t268001 (Go.bits .or .i64 x6_1 (ji16)) t268004 (t268004.length : Int) (wrap64 (x14_1 + 1))) = some r := by first | (rw [hji16] at H; exact H) | (simp only [hji16] at H ⊢; exact H)
          have hji16_ : (IntKind.i64.wrap (1 * 2 ^ min (rd t268001 (rd t268004 x14_1)).toNat 64)) = ji16 := hji16
          have hji16z : (rd t268001 (rd t268004 x14_1)) ≤ 64 → (IntKind.i64.wrap (1 * 2 ^ (rd t268001 (rd t268004 x14_1)).toNat)) = ji16 := shl_small hji16
          have hji16u : (IntKind.i64.wrap (2 ^ min (rd t268001 (rd t268004 x14_1)).toNat 64)) = ji16 := by have h_ := hji16_; rw [Int.one_mul] at h_; exact h_
          have hji16v : (rd t268001 (rd t268004 x14_1)) ≤ 64 → (IntKind.i64.wrap (2 ^ (rd t268001 (rd t268004 x14_1)).toNat)) = ji16 := fun hle_ => by have h_ := hji16z hle_; rw [Int.one_mul] at h_; exact h_
          have hji16y : (wrap64 (1 * 2 ^ min (rd t268001 (rd t268004 x14_1)).toNat 64)) = ji16 := (i64_w _).symm.trans hji16_
          have hji16x : (rd t268001 (rd t268004 x14_1)) ≤ 64 → (wrap64 (1 * 2 ^ (rd t268001 (rd t268004 x14_1)).toNat)) = ji16 := fun h_ => (i64_w _).symm.trans (hji16z h_)
          have H' := aQ H
          clear H
          have p268007 : 0 ≤ (x14_1 : Int) := of_decide_eq_true (by first | (with_reducible assumption) | assumption)
          have q268007 : x14_1 < (t268004.length : Int) := of_decide_eq_true (by first | (with_reducible assumption) | assumption)
          obtain ⟨ad268007, e268007, hx268007_0⟩ := Kd.at_int (Kd.R_reads' HO_12.out).2.2 x14_1 p268007 q268007
          cases e268007
          replace p268007 := eq_true p268007
          replace q268007 := eq_true q268007
          obtain ⟨Ao17, co17, eo17⟩ := Kd.R_slice HO_5.out
          subst eo17
          have p268008 : 0 ≤ ((rd t268004 x14_1) : Int) := of_decide_eq_true (by first | (with_reducible assumption) | assumption)
          have q268008 : (rd t268004 x14_1) < (t268001.length : Int) := of_decide_eq_true (by first | (with_reducible assumption) | assumption)
          obtain ⟨ad268008, e268008, hx268008_0⟩ := Kd.at_int (Kd.R_reads' HO_5.out).2.2 (rd t268004 x14_1) p268008 q268008
          cases e268008
          replace p268008 := eq_true p268008
          replace q268008 := eq_true q268008
          go_wp2
          go_roundg k1
          case measure => have := HK1.out; omega
          case rel => exact ⟨(Go.bits .or .i64 x6_1 (ji16)), (wrap64 (x14_1 + 1)), (by first | rfl | (simp; done) | (simp only [← hji16] <;> (first | rfl | simp)) | (simp [*]; done)), (by first | rfl | (simp; done) | (simp [*]; done)), H', ⟨by have := HK1.out; omega⟩, ⟨by (with_reducible repeat (first | apply Kd.R_alloc | apply Kd.R_drewN | apply Kd.R_drew)); exact HO_5.out⟩, ⟨by (with_reducible repeat (first | apply Kd.R_alloc | apply Kd.R_drewN | apply Kd.R_drew)); exact HO_12.out⟩, ⟨by repeat (first | (with_reducible first | exact HB.out | apply below_alloc | apply pw_below_drewN | apply below_drew1) | exact HB.out)⟩⟩
         ·rw [if_neg c15] at H
          exact absurd H (by simp)
        ·rw [if_neg c14] at H
         exact absurd H (by simp)
       ·rw [if_neg c13] at H
        exact absurd H (by simp)
     ·rw [if_neg c10] at H
      exact absurd H (by simp)
    ·rw [if_neg c9] at H
     exact absurd H (by simp)
   ·rw [if_neg c8] at H
    have c8b0 : decide (x14_1 < (t268004.length : Int)) = false := decide_eq_false c8
    clear c8
    obtain rfl := Option.some.inj H
    go_wp2
    go_ret
    exact ⟨by first | rfl | (simp [errW_none, errW_some] <;> rfl) | (simp [*, errW_none, errW_some] <;> rfl), by repeat (first | (with_reducible first | exact HB.out | apply below_alloc | apply pw_below_drewN | apply below_drew1) | exact HB.out)⟩
end Go.Proofs.Ytinoamehdhgpgaa.A
