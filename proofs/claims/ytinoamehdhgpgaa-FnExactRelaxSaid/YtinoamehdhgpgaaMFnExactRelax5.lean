/- The machine side of the law FnExactRelax, laid by a program of this work over the kit's print and contracts by hand: Go functions as Lean functions, and proofs that calls come to what these tell. Conditions: those in each theorem. -/
import Derived.Test.YtinoamehdhgpgaaMFnExactRelax0
import Derived.Test.YtinoamehdhgpgaaMFnExactRelaxq0
import Derived.Test.YtinoamehdhgpgaaMFnExactRelax1
import Derived.Test.YtinoamehdhgpgaaMFnExactRelax2
import Derived.Test.YtinoamehdhgpgaaMFnExactRelax3
import Derived.Test.YtinoamehdhgpgaaMFnExactRelax4
namespace Go.Proofs.Ytinoamehdhgpgaa.A
open Go.RowKit Go.Proofs.YtinoamehdhgpgaaW.PrintWords Go.Proofs.YtinoamehdhgpgaaW.PrintLast Go.Proofs.YtinoamehdhgpgaaW.PrintMore
attribute [local go_sem] max2_int min2_int max_two min_two max_three min_three max_four min_four   -- for this text's walks alone
set_option linter.unusedVariables false
set_option linter.unusedSimpArgs false

/-! ### spec_MinimalSets: function 255 -/
mutual
def spec_MinimalSets.l0 : Nat → List Int → List Int → Int → Option (List Int)
 | 0, _, _, _ => none
 | k + 1, x0, x3, x4 => if x4 < (x0.length : Int) then (spec_MinimalSets.l1 k x0 x3 x4 true 0) else ((spec_SortSets.f k x3).bind fun t256005 => (some t256005))
def spec_MinimalSets.l1 : Nat → List Int → List Int → Int → Bool → Int → Option (List Int)
 | 0, _, _, _, _, _ => none
 | k + 1, x0, x3, x4, x5, x6 => if x6 < (x0.length : Int) then (if x5 = true then (if 0 ≤ x6 then (if 0 ≤ x4 then (if x4 < (x0.length : Int) then (if (rd x0 x6) = (rd x0 x4) then (spec_MinimalSets.l1 k x0 x3 x4 true (wrap64 (x6 + 1))) else (spec_MinimalSets.l1 k x0 x3 x4 ((Go.bits .and .i64 (rd x0 x6) (rd x0 x4)) != (rd x0 x6)) (wrap64 (x6 + 1)))) else (none)) else (none)) else (none)) else (spec_MinimalSets.l1 k x0 x3 x4 false (wrap64 (x6 + 1)))) else (if x5 = true then (if 0 ≤ x4 then (if x4 < (x0.length : Int) then (if x3.length < 17592186044416 then (spec_MinimalSets.l0 k x0 (x3 ++ [rd x0 x4]) (wrap64 (x4 + 1))) else (none)) else (none)) else (none)) else (spec_MinimalSets.l0 k x0 x3 (wrap64 (x4 + 1))))
end
def spec_MinimalSets.f (k : Nat) (l0 : List Int) : Option (List Int) := (some (([] : List Int) : List Int)).bind fun y256001 => ((spec_l3Sets.f k 8 l0).bind fun t256004 => (if t256004 = true then (spec_MinimalSets.l0 k l0 y256001 0) else (some y256001)))
theorem spec_MinimalSets.mono_l : ∀ k, (∀ y0 y1 y2, LeO (spec_MinimalSets.l0 k y0 y1 y2) (spec_MinimalSets.l0 (k + 1) y0 y1 y2)) ∧ (∀ y0 y1 y2 y3 y4, LeO (spec_MinimalSets.l1 k y0 y1 y2 y3 y4) (spec_MinimalSets.l1 (k + 1) y0 y1 y2 y3 y4))
 | 0 => ⟨fun _ _ _ r h => by simp [spec_MinimalSets.l0] at h, fun _ _ _ _ _ r h => by simp [spec_MinimalSets.l1] at h⟩
 | k + 1 => by
  obtain ⟨ih0, ih1⟩ := spec_MinimalSets.mono_l k
  refine ⟨?_, ?_⟩
  ·intro y0 y1 y2
   unfold spec_MinimalSets.l0
   repeat' first
   | (with_reducible exact ih0 _ _ _)
   | (with_reducible exact ih1 _ _ _ _ _)
   | (with_reducible exact spec_SortSets.mono _ _)
   | (with_reducible exact spec_l3Sets.mono _ _ _)
   | (with_reducible exact LeO.refl _)
   | (with_reducible exact LeO.none _)
   | (with_reducible refine LeO.ite ?_ ?_)
   | (with_reducible refine LeO.bind ?_ (fun _ => ?_))
   | exact ih0 _ _ _
   | exact ih1 _ _ _ _ _
   | exact spec_SortSets.mono _ _
   | exact spec_l3Sets.mono _ _ _
   | exact LeO.none _
   | refine LeO.ite ?_ ?_
   | refine LeO.bind ?_ (fun _ => ?_)
  ·intro y0 y1 y2 y3 y4
   unfold spec_MinimalSets.l1
   repeat' first
   | (with_reducible exact ih0 _ _ _)
   | (with_reducible exact ih1 _ _ _ _ _)
   | (with_reducible exact spec_SortSets.mono _ _)
   | (with_reducible exact spec_l3Sets.mono _ _ _)
   | (with_reducible exact LeO.refl _)
   | (with_reducible exact LeO.none _)
   | (with_reducible refine LeO.ite ?_ ?_)
   | (with_reducible refine LeO.bind ?_ (fun _ => ?_))
   | exact ih0 _ _ _
   | exact ih1 _ _ _ _ _
   | exact spec_SortSets.mono _ _
   | exact spec_l3Sets.mono _ _ _
   | exact LeO.none _
   | refine LeO.ite ?_ ?_
   | refine LeO.bind ?_ (fun _ => ?_)
theorem spec_MinimalSets.mono : ∀ a0 k, LeO (spec_MinimalSets.f k a0) (spec_MinimalSets.f (k + 1) a0) := by
 intro a0 k
 obtain ⟨ih0, ih1⟩ := spec_MinimalSets.mono_l k
 unfold spec_MinimalSets.f
 repeat' first
   | (with_reducible exact ih0 _ _ _)
   | (with_reducible exact ih1 _ _ _ _ _)
   | (with_reducible exact spec_SortSets.mono _ _)
   | (with_reducible exact spec_l3Sets.mono _ _ _)
   | (with_reducible exact LeO.refl _)
   | (with_reducible exact LeO.none _)
   | (with_reducible refine LeO.ite ?_ ?_)
   | (with_reducible refine LeO.bind ?_ (fun _ => ?_))
   | exact ih0 _ _ _
   | exact ih1 _ _ _ _ _
   | exact spec_SortSets.mono _ _
   | exact spec_l3Sets.mono _ _ _
   | exact LeO.none _
   | refine LeO.ite ?_ ?_
   | refine LeO.bind ?_ (fun _ => ?_)
set_option maxHeartbeats 8000000 in
set_option maxRecDepth 100000 in
theorem spec_MinimalSets.calls (k : Nat) (A0 : Option Addr) (c0 : Nat) (l0 : List Int) (r : List Int) (w : World) (hr0 : Kd.C (Kd.int .i64) w A0 l0.length l0) (hc0 : l0.length ≤ c0) (h : spec_MinimalSets.f k l0 = some r) :
  Calls Try.prog 255 #[.slice A0 l0.length c0] w fun e w' => ∃ v0_ : Value, e = .returned (v0_) ∧ Kd.R (Kd.int .i64) 3 w' w.heap.size (fun _ => True) v0_ r ∧ Below w.heap.size w w' := by
 have HR0 := aQ hr0
 have HC0 := aQ hc0
 clear hr0 hc0
 have HB := aQ (Below.refl w.heap.size w)
 have H : ((some (([] : List Int) : List Int)).bind fun y256001 => ((spec_l3Sets.f k 8 l0).bind fun t256004 => (if t256004 = true then (spec_MinimalSets.l0 k l0 y256001 0) else (some y256001)))) = some r := h
 clear h
 obtain ⟨y256001, hy256001⟩ : ∃ y_ : List Int, y_ = (([] : List Int)) := ⟨_, rfl⟩
 replace H : ((spec_l3Sets.f k 8 l0).bind fun t256004 => (if t256004 = true then (spec_MinimalSets.l0 k l0 y256001 0) else (some y256001))) = some r := by first | (rw [hy256001]; with_reducible exact H) | (have H2_ := (Option.bind_some _ _).symm.trans H; rw [hy256001]; with_reducible exact H2_) | (have H2_ := (Option.bind_some _ _).symm.trans H; with_reducible exact H2_) | with_reducible exact H | (rw [hy256001]; exact H) | exact H
 have Ny256001 := aQ hy256001
 clear hy256001
 replace H := Option.bind_eq_some_iff.mp H
 obtain ⟨t256004, A20, H⟩ := H
 replace H : (if t256004 = true then (spec_MinimalSets.l0 k l0 y256001 0) else (some y256001)) = some r := H
 have A2 := aQ A20
 clear A20
 by_cases c3 : t256004 = true
 ·subst c3
  have H1 : (spec_MinimalSets.l0 k l0 y256001 0) = some r := by rw [if_pos rfl] at H; exact H
  clear H
  have H := H1
  clear H1
  have H' := aQ H
  clear H
  go_enter Try.func255, Try.ntmps255
  go_wp2_with (first | ((with_reducible refine gate_dst (N := 7) rfl ?_); refine Kd.R_lit (Kd.int .i64) _ 3 ?hg (N := 7) ?hd (xs := ([] : List Int)) (inner := []) (ok := fun _ => True) (okp := fun _ => True) ?hr ?hp (fun _ hk => hk) trivial (Below.refl _ _) (Nat.le_refl _) (by simp) ?_; (case hd => rfl); (case hg => rfl); (case hr => first | (go_simp; done) | (go_simp; rfl)); (case hp => exact (Reps.none _ _)); intro v256002 w4 ho5 hb hg_ hnew_; clear hg_ hnew_; (first | rw [← Ny256001.out] at ho5 | (simp only [Int.reduceToNat] at ho5; rw [← Ny256001.out] at ho5)); have HO256003 := aQ (Kd.R_lower ho5 (below_size (pB HB.out))); replace HB := aQ (below_step (pB HB.out) hb); clear hb ho5) | (go_at_call 245; (with_reducible refine (spec_l3Sets.calls k 8 _ _ l0 true _ ?side1 ?side2 A2.out).mono ?_); (case side1 => exact pC (Kd.C_below HR0.out HB.out)); (case side2 => exact HC0.out); rintro e w' ⟨rfl, ⟨nd, rfl⟩⟩; (try first | exact ⟨rfl, _, World.drewN_drewN _ _ _⟩ | exact ⟨rfl, _, Eq.trans (World.drewN_drewN _ _ _) (congrArg (World.drewN _) (Nat.add_assoc _ _ _))⟩)))
  repeat (go_quiet (first | ((with_reducible refine gate_dst (N := 7) rfl ?_); refine Kd.R_lit (Kd.int .i64) _ 3 ?hg (N := 7) ?hd (xs := ([] : List Int)) (inner := []) (ok := fun _ => True) (okp := fun _ => True) ?hr ?hp (fun _ hk => hk) trivial (Below.refl _ _) (Nat.le_refl _) (by simp) ?_; (case hd => rfl); (case hg => rfl); (case hr => first | (go_simp; done) | (go_simp; rfl)); (case hp => exact (Reps.none _ _)); intro v256002 w4 ho5 hb hg_ hnew_; clear hg_ hnew_; (first | rw [← Ny256001.out] at ho5 | (simp only [Int.reduceToNat] at ho5; rw [← Ny256001.out] at ho5)); have HO256003 := aQ (Kd.R_lower ho5 (below_size (pB HB.out))); replace HB := aQ (below_step (pB HB.out) hb); clear hb ho5) | (go_at_call 245; (with_reducible refine (spec_l3Sets.calls k 8 _ _ l0 true _ ?side1 ?side2 A2.out).mono ?_); (case side1 => exact pC (Kd.C_below HR0.out HB.out)); (case side2 => exact HC0.out); rintro e w' ⟨rfl, ⟨nd, rfl⟩⟩; (try first | exact ⟨rfl, _, World.drewN_drewN _ _ _⟩ | exact ⟨rfl, _, Eq.trans (World.drewN_drewN _ _ _) (congrArg (World.drewN _) (Nat.add_assoc _ _ _))⟩))); try go_wp2_with (first | ((with_reducible refine gate_dst (N := 7) rfl ?_); refine Kd.R_lit (Kd.int .i64) _ 3 ?hg (N := 7) ?hd (xs := ([] : List Int)) (inner := []) (ok := fun _ => True) (okp := fun _ => True) ?hr ?hp (fun _ hk => hk) trivial (Below.refl _ _) (Nat.le_refl _) (by simp) ?_; (case hd => rfl); (case hg => rfl); (case hr => first | (go_simp; done) | (go_simp; rfl)); (case hp => exact (Reps.none _ _)); intro v256002 w4 ho5 hb hg_ hnew_; clear hg_ hnew_; (first | rw [← Ny256001.out] at ho5 | (simp only [Int.reduceToNat] at ho5; rw [← Ny256001.out] at ho5)); have HO256003 := aQ (Kd.R_lower ho5 (below_size (pB HB.out))); replace HB := aQ (below_step (pB HB.out) hb); clear hb ho5) | (go_at_call 245; (with_reducible refine (spec_l3Sets.calls k 8 _ _ l0 true _ ?side1 ?side2 A2.out).mono ?_); (case side1 => exact pC (Kd.C_below HR0.out HB.out)); (case side2 => exact HC0.out); rintro e w' ⟨rfl, ⟨nd, rfl⟩⟩; (try first | exact ⟨rfl, _, World.drewN_drewN _ _ _⟩ | exact ⟨rfl, _, Eq.trans (World.drewN_drewN _ _ _) (congrArg (World.drewN _) (Nat.add_assoc _ _ _))⟩))))
  go_loopg [3, 4] k (fun kq v3 v4 w' => ∃ (x3_1 : List Int) (x4_1 : Int), v4 = .int .i64 x4_1 ∧ Aside0 (spec_MinimalSets.l0 kq l0 x3_1 x4_1 = some r) ∧ Aside0 (kq ≤ k) ∧ Aside0 (Kd.R (Kd.int .i64) 3 w' w.heap.size (fun _ => True) v3 x3_1) ∧ Aside0 (Below w.heap.size w w'))
  case atStart => exact ⟨(y256001), (0), rs_, H', ⟨Nat.le_refl _⟩, ⟨pR HO256003.out⟩, ⟨pB HB.out⟩⟩
  case round =>
   clear H'
   try clear c2
   try clear p2
   try clear c3
   obtain ⟨x3_1, x4_1, rfl, HA, HK1, HO_3, HB⟩ := hrel
   cases gk with
   | zero => exact absurd HA.out (by simp [spec_MinimalSets.l0])
   | succ k1 =>
    have H := HA.out
    clear HA
    simp only [spec_MinimalSets.l0] at H
    by_cases c6 : x4_1 < (l0.length : Int)
    ·rw [if_pos c6] at H
     have c6b0 : decide (x4_1 < (l0.length : Int)) = true := decide_eq_true c6
     clear c6
     have H' := aQ H
     clear H
     go_wp2
     repeat (go_quiet (fail); try go_wp2)
     go_loopg [5, 6] k1 (fun kq v5 v6 w' => ∃ (x5_2 : Bool) (x6_2 : Int), v5 = .bool x5_2 ∧ v6 = .int .i64 x6_2 ∧ Aside0 (spec_MinimalSets.l1 kq l0 x3_1 x4_1 x5_2 x6_2 = some r) ∧ Aside0 (kq ≤ k1) ∧ Aside0 (Kd.R (Kd.int .i64) 3 w' w.heap.size (fun _ => True) u3 x3_1) ∧ Aside0 (Below w.heap.size w w'))
     case atStart => exact ⟨(true), (0), rs_, rs_, H', ⟨Nat.le_refl _⟩, ⟨pR HO_3.out⟩, ⟨pB HB.out⟩⟩
     case round =>
      clear H'
      try clear c2
      try clear p2
      try clear c3
      try clear c6
      try clear c6b0
      try clear p2
      obtain ⟨x5_2, x6_2, rfl, rfl, HA, HK2, HO_3, HB⟩ := hrel
      cases gk with
      | zero => exact absurd HA.out (by simp [spec_MinimalSets.l1])
      | succ k2 =>
       have H := HA.out
       clear HA
       simp only [spec_MinimalSets.l1] at H
       by_cases c7 : x6_2 < (l0.length : Int)
       ·rw [if_pos c7] at H
        have c7b0 : decide (x6_2 < (l0.length : Int)) = true := decide_eq_true c7
        clear c7
        by_cases c8 : x5_2 = true
        ·subst c8
         have H1 : (if 0 ≤ x6_2 then (if 0 ≤ x4_1 then (if x4_1 < (l0.length : Int) then (if (rd l0 x6_2) = (rd l0 x4_1) then (spec_MinimalSets.l1 k2 l0 x3_1 x4_1 true (wrap64 (x6_2 + 1))) else (spec_MinimalSets.l1 k2 l0 x3_1 x4_1 ((Go.bits .and .i64 (rd l0 x6_2) (rd l0 x4_1)) != (rd l0 x6_2)) (wrap64 (x6_2 + 1)))) else (none)) else (none)) else (none)) = some r := by rw [if_pos rfl] at H; exact H
         clear H
         have H := H1
         clear H1
         by_cases c9 : 0 ≤ x6_2
         ·rw [if_pos c9] at H
          have c9b0 : decide (0 ≤ x6_2) = true := decide_eq_true c9
          clear c9
          by_cases c10 : 0 ≤ x4_1
          ·rw [if_pos c10] at H
           have c10b0 : decide (0 ≤ x4_1) = true := decide_eq_true c10
           clear c10
           by_cases c11 : x4_1 < (l0.length : Int)
           ·rw [if_pos c11] at H
            have c11b0 : decide (x4_1 < (l0.length : Int)) = true := decide_eq_true c11
            clear c11
            by_cases c12 : (rd l0 x6_2) = (rd l0 x4_1)
            ·rw [if_pos c12] at H
             have c12b0 : ((rd l0 x6_2) == (rd l0 x4_1)) = true := beq_iff_eq.mpr c12
             have c12b1 : ((rd l0 x6_2) != (rd l0 x4_1)) = false := bne_eq_false_iff_eq.mpr c12
             clear c12
             have H' := aQ H
             clear H
             have p256008 : 0 ≤ (x6_2 : Int) := of_decide_eq_true as_
             have q256008 : x6_2 < (l0.length : Int) := of_decide_eq_true as_
             obtain ⟨ad256008, e256008, hx256008_0⟩ := Kd.at_int HR0.out x6_2 p256008 q256008
             cases e256008
             replace hx256008_0 := (HB.out.cell (World.block_lt_of_cell? w _ hx256008_0)).trans hx256008_0
             replace p256008 := eq_true p256008
             replace q256008 := eq_true q256008
             have p256009 : 0 ≤ (x4_1 : Int) := of_decide_eq_true as_
             have q256009 : x4_1 < (l0.length : Int) := of_decide_eq_true as_
             obtain ⟨ad256009, e256009, hx256009_0⟩ := Kd.at_int HR0.out x4_1 p256009 q256009
             obtain rfl : ad256008 = ad256009 := (by injection e256009)
             replace hx256009_0 := (HB.out.cell (World.block_lt_of_cell? w _ hx256009_0)).trans hx256009_0
             replace p256009 := eq_true p256009
             replace q256009 := eq_true q256009
             go_wp2
             repeat (go_quiet (fail); try go_wp2)
             go_roundg k2
             case measure => have := HK1.out; have := HK2.out; omega
             case rel => exact ⟨(true), (wrap64 (x6_2 + 1)), rs_, rs_, H', ⟨by have := HK1.out; have := HK2.out; omega⟩, ⟨pR HO_3.out⟩, ⟨pB HB.out⟩⟩
            ·rw [if_neg c12] at H
             have c12b0 : ((rd l0 x6_2) == (rd l0 x4_1)) = false := beq_eq_false_iff_ne.mpr c12
             have c12b1 : ((rd l0 x6_2) != (rd l0 x4_1)) = true := bne_iff_ne.mpr c12
             have H' := aQ H
             clear H
             have p256008 : 0 ≤ (x6_2 : Int) := of_decide_eq_true as_
             have q256008 : x6_2 < (l0.length : Int) := of_decide_eq_true as_
             obtain ⟨ad256008, e256008, hx256008_0⟩ := Kd.at_int HR0.out x6_2 p256008 q256008
             cases e256008
             replace hx256008_0 := (HB.out.cell (World.block_lt_of_cell? w _ hx256008_0)).trans hx256008_0
             replace p256008 := eq_true p256008
             replace q256008 := eq_true q256008
             have p256009 : 0 ≤ (x4_1 : Int) := of_decide_eq_true as_
             have q256009 : x4_1 < (l0.length : Int) := of_decide_eq_true as_
             obtain ⟨ad256009, e256009, hx256009_0⟩ := Kd.at_int HR0.out x4_1 p256009 q256009
             obtain rfl : ad256008 = ad256009 := (by injection e256009)
             replace hx256009_0 := (HB.out.cell (World.block_lt_of_cell? w _ hx256009_0)).trans hx256009_0
             replace p256009 := eq_true p256009
             replace q256009 := eq_true q256009
             have p256010 : 0 ≤ (x6_2 : Int) := of_decide_eq_true as_
             have q256010 : x6_2 < (l0.length : Int) := of_decide_eq_true as_
             obtain ⟨ad256010, e256010, hx256010_0⟩ := Kd.at_int HR0.out x6_2 p256010 q256010
             obtain rfl : ad256008 = ad256010 := (by injection e256010)
             replace hx256010_0 := (HB.out.cell (World.block_lt_of_cell? w _ hx256010_0)).trans hx256010_0
             replace p256010 := eq_true p256010
             replace q256010 := eq_true q256010
             have p256011 : 0 ≤ (x4_1 : Int) := of_decide_eq_true as_
             have q256011 : x4_1 < (l0.length : Int) := of_decide_eq_true as_
             obtain ⟨ad256011, e256011, hx256011_0⟩ := Kd.at_int HR0.out x4_1 p256011 q256011
             obtain rfl : ad256008 = ad256011 := (by injection e256011)
             replace hx256011_0 := (HB.out.cell (World.block_lt_of_cell? w _ hx256011_0)).trans hx256011_0
             replace p256011 := eq_true p256011
             replace q256011 := eq_true q256011
             have p256012 : 0 ≤ (x6_2 : Int) := of_decide_eq_true as_
             have q256012 : x6_2 < (l0.length : Int) := of_decide_eq_true as_
             obtain ⟨ad256012, e256012, hx256012_0⟩ := Kd.at_int HR0.out x6_2 p256012 q256012
             obtain rfl : ad256008 = ad256012 := (by injection e256012)
             replace hx256012_0 := (HB.out.cell (World.block_lt_of_cell? w _ hx256012_0)).trans hx256012_0
             replace p256012 := eq_true p256012
             replace q256012 := eq_true q256012
             go_wp2
             repeat (go_quiet (fail); try go_wp2)
             go_roundg k2
             case measure => have := HK1.out; have := HK2.out; omega
             case rel => exact ⟨(((Go.bits .and .i64 (rd l0 x6_2) (rd l0 x4_1)) != (rd l0 x6_2))), (wrap64 (x6_2 + 1)), rs_, rs_, H', ⟨by have := HK1.out; have := HK2.out; omega⟩, ⟨pR HO_3.out⟩, ⟨pB HB.out⟩⟩
           ·rw [if_neg c11] at H
            exact absurd H (by simp)
          ·rw [if_neg c10] at H
           exact absurd H (by simp)
         ·rw [if_neg c9] at H
          exact absurd H (by simp)
        ·replace c8 := Bool.eq_false_iff.mpr c8
         subst c8
         have H1 : (spec_MinimalSets.l1 k2 l0 x3_1 x4_1 false (wrap64 (x6_2 + 1))) = some r := by rw [if_neg (show ¬ (false = true) by decide)] at H; exact H
         clear H
         have H := H1
         clear H1
         have H' := aQ H
         clear H
         go_wp2
         repeat (go_quiet (fail); try go_wp2)
         go_roundg k2
         case measure => have := HK1.out; have := HK2.out; omega
         case rel => exact ⟨(false), (wrap64 (x6_2 + 1)), rs_, rs_, H', ⟨by have := HK1.out; have := HK2.out; omega⟩, ⟨pR HO_3.out⟩, ⟨pB HB.out⟩⟩
       ·rw [if_neg c7] at H
        have c7b0 : decide (x6_2 < (l0.length : Int)) = false := decide_eq_false c7
        clear c7
        by_cases c13 : x5_2 = true
        ·subst c13
         have H1 : (if 0 ≤ x4_1 then (if x4_1 < (l0.length : Int) then (if x3_1.length < 17592186044416 then (spec_MinimalSets.l0 k2 l0 (x3_1 ++ [rd l0 x4_1]) (wrap64 (x4_1 + 1))) else (none)) else (none)) else (none)) = some r := by rw [if_pos rfl] at H; exact H
         clear H
         have H := H1
         clear H1
         by_cases c14 : 0 ≤ x4_1
         ·rw [if_pos c14] at H
          have c14b0 : decide (0 ≤ x4_1) = true := decide_eq_true c14
          clear c14
          by_cases c15 : x4_1 < (l0.length : Int)
          ·rw [if_pos c15] at H
           have c15b0 : decide (x4_1 < (l0.length : Int)) = true := decide_eq_true c15
           clear c15
           by_cases c16 : x3_1.length < 17592186044416
           ·rw [if_pos c16] at H
            have LMc16 := aQ c16
            clear c16
            obtain ⟨y256014, hy256014⟩ : ∃ y_ : List Int, y_ = (x3_1 ++ [rd l0 x4_1]) := ⟨_, rfl⟩
            replace H : (spec_MinimalSets.l0 k2 l0 y256014 (wrap64 (x4_1 + 1))) = some r := by first | (rw [hy256014]; with_reducible exact H) | (have H2_ := (Option.bind_some _ _).symm.trans H; rw [hy256014]; with_reducible exact H2_) | (have H2_ := (Option.bind_some _ _).symm.trans H; with_reducible exact H2_) | with_reducible exact H | (rw [hy256014]; exact H) | exact H
            have Ny256014 := aQ hy256014
            clear hy256014
            have H' := aQ H
            clear H
            have p256013 : 0 ≤ (x4_1 : Int) := of_decide_eq_true as_
            have q256013 : x4_1 < (l0.length : Int) := of_decide_eq_true as_
            obtain ⟨ad256013, e256013, hx256013_0⟩ := Kd.at_int HR0.out x4_1 p256013 q256013
            cases e256013
            replace hx256013_0 := (HB.out.cell (World.block_lt_of_cell? w _ hx256013_0)).trans hx256013_0
            replace p256013 := eq_true p256013
            replace q256013 := eq_true q256013
            go_wp2_with (first | ((with_reducible refine gate_builtin (b := .append) (xs := #[.tmp 53, .tmp 58]) rfl ?_); at_builtin; refine Kd.R_append (Kd.int .i64) (w0 := w) w.heap.size rfl (.tmp 53) (.tmp 58) 22 3 (.int .i64 0) 8 rfl Try.underlying22 info3 rfl (by decide) (by omega) u3 x3_1 (rd l0 x4_1) [.int .i64 (rd l0 x4_1)] (fun _ => True) (fun _ => False) rfl rfl ?aP (fun _ hk => hk.elim) ?aF ?aO ?aB ?aS ?aL ?_; (case aP => exact rfl); (case aB => exact (pB HB.out)); (case aF => exact (fun _ _ => trivial)); (case aO => exact (pR HO_3.out)); (case aS => exact (below_size (pB HB.out))); (case aL => have := LMc16.out; omega); intro v256015 w17 ho hb hg hat; rw [← Ny256014.out] at ho; replace HB := aQ (hb); have HO256016 := aQ (ho); clear HO_3; clear ho hb hg hat))
            repeat (go_quiet (first | ((with_reducible refine gate_builtin (b := .append) (xs := #[.tmp 53, .tmp 58]) rfl ?_); at_builtin; refine Kd.R_append (Kd.int .i64) (w0 := w) w.heap.size rfl (.tmp 53) (.tmp 58) 22 3 (.int .i64 0) 8 rfl Try.underlying22 info3 rfl (by decide) (by omega) u3 x3_1 (rd l0 x4_1) [.int .i64 (rd l0 x4_1)] (fun _ => True) (fun _ => False) rfl rfl ?aP (fun _ hk => hk.elim) ?aF ?aO ?aB ?aS ?aL ?_; (case aP => exact rfl); (case aB => exact (pB HB.out)); (case aF => exact (fun _ _ => trivial)); (case aO => exact (pR HO_3.out)); (case aS => exact (below_size (pB HB.out))); (case aL => have := LMc16.out; omega); intro v256015 w17 ho hb hg hat; rw [← Ny256014.out] at ho; replace HB := aQ (hb); have HO256016 := aQ (ho); clear HO_3; clear ho hb hg hat)); try go_wp2_with (first | ((with_reducible refine gate_builtin (b := .append) (xs := #[.tmp 53, .tmp 58]) rfl ?_); at_builtin; refine Kd.R_append (Kd.int .i64) (w0 := w) w.heap.size rfl (.tmp 53) (.tmp 58) 22 3 (.int .i64 0) 8 rfl Try.underlying22 info3 rfl (by decide) (by omega) u3 x3_1 (rd l0 x4_1) [.int .i64 (rd l0 x4_1)] (fun _ => True) (fun _ => False) rfl rfl ?aP (fun _ hk => hk.elim) ?aF ?aO ?aB ?aS ?aL ?_; (case aP => exact rfl); (case aB => exact (pB HB.out)); (case aF => exact (fun _ _ => trivial)); (case aO => exact (pR HO_3.out)); (case aS => exact (below_size (pB HB.out))); (case aL => have := LMc16.out; omega); intro v256015 w17 ho hb hg hat; rw [← Ny256014.out] at ho; replace HB := aQ (hb); have HO256016 := aQ (ho); clear HO_3; clear ho hb hg hat)))
            go_roundg k2
            case measure => have := HK1.out; have := HK2.out; omega
            case rel => exact ⟨(y256014), (wrap64 (x4_1 + 1)), rs_, H', ⟨by have := HK1.out; have := HK2.out; omega⟩, ⟨pR HO256016.out⟩, ⟨pB HB.out⟩⟩
           ·rw [if_neg c16] at H
            exact absurd H (by simp)
          ·rw [if_neg c15] at H
           exact absurd H (by simp)
         ·rw [if_neg c14] at H
          exact absurd H (by simp)
        ·replace c13 := Bool.eq_false_iff.mpr c13
         subst c13
         have H1 : (spec_MinimalSets.l0 k2 l0 x3_1 (wrap64 (x4_1 + 1))) = some r := by rw [if_neg (show ¬ (false = true) by decide)] at H; exact H
         clear H
         have H := H1
         clear H1
         have H' := aQ H
         clear H
         go_wp2
         repeat (go_quiet (fail); try go_wp2)
         go_roundg k2
         case measure => have := HK1.out; have := HK2.out; omega
         case rel => exact ⟨(x3_1), (wrap64 (x4_1 + 1)), rs_, H', ⟨by have := HK1.out; have := HK2.out; omega⟩, ⟨pR HO_3.out⟩, ⟨pB HB.out⟩⟩
    ·rw [if_neg c6] at H
     have c6b0 : decide (x4_1 < (l0.length : Int)) = false := decide_eq_false c6
     clear c6
     replace H := Option.bind_eq_some_iff.mp H
     obtain ⟨t256005, A180, H⟩ := H
     replace H : (some t256005) = some r := H
     have A18 := aQ A180
     clear A180
     obtain rfl := Option.some.inj H
     obtain ⟨Ao19, co19, eo19⟩ := Kd.R_slice HO_3.out
     subst eo19
     go_wp2_with (first | (go_at_call 168; (with_reducible refine (spec_SortSets.calls k1 _ _ x3_1 t256005 _ ?side1 ?side2 A18.out).mono ?_); (case side1 => repeat (first | exact (Kd.R_reads' HO_3.out).2.2 | (with_reducible refine Kd.C_alloc ?_ _) | (with_reducible refine Kd.C_drewN ?_ _) | (with_reducible refine Kd.C_drew ?_))); (case side2 => exact (Kd.R_reads' HO_3.out).2.1); rintro e w20 ⟨v256006, rfl, ho0, hb⟩; have HO256007 := aQ (Kd.R_lower (Kd.R_new' ho0 (Kd.R_lt (pR HO_3.out))) (below_size (pB HB.out))); replace HO_3 := aQ (Kd.R_elder' (pR HO_3.out) (Kd.R_base ho0) hb); replace HB := aQ (below_step (pB HB.out) hb); (try clear hb); (try clear ho0)))
     repeat (go_quiet (first | (go_at_call 168; (with_reducible refine (spec_SortSets.calls k1 _ _ x3_1 t256005 _ ?side1 ?side2 A18.out).mono ?_); (case side1 => repeat (first | exact (Kd.R_reads' HO_3.out).2.2 | (with_reducible refine Kd.C_alloc ?_ _) | (with_reducible refine Kd.C_drewN ?_ _) | (with_reducible refine Kd.C_drew ?_))); (case side2 => exact (Kd.R_reads' HO_3.out).2.1); rintro e w20 ⟨v256006, rfl, ho0, hb⟩; have HO256007 := aQ (Kd.R_lower (Kd.R_new' ho0 (Kd.R_lt (pR HO_3.out))) (below_size (pB HB.out))); replace HO_3 := aQ (Kd.R_elder' (pR HO_3.out) (Kd.R_base ho0) hb); replace HB := aQ (below_step (pB HB.out) hb); (try clear hb); (try clear ho0))); try go_wp2_with (first | (go_at_call 168; (with_reducible refine (spec_SortSets.calls k1 _ _ x3_1 t256005 _ ?side1 ?side2 A18.out).mono ?_); (case side1 => repeat (first | exact (Kd.R_reads' HO_3.out).2.2 | (with_reducible refine Kd.C_alloc ?_ _) | (with_reducible refine Kd.C_drewN ?_ _) | (with_reducible refine Kd.C_drew ?_))); (case side2 => exact (Kd.R_reads' HO_3.out).2.1); rintro e w20 ⟨v256006, rfl, ho0, hb⟩; have HO256007 := aQ (Kd.R_lower (Kd.R_new' ho0 (Kd.R_lt (pR HO_3.out))) (below_size (pB HB.out))); replace HO_3 := aQ (Kd.R_elder' (pR HO_3.out) (Kd.R_base ho0) hb); replace HB := aQ (below_step (pB HB.out) hb); (try clear hb); (try clear ho0))))
     go_ret
     exact ⟨_, by first | rfl | (simp [errW_none, errW_some] <;> rfl) | (simp [*, errW_none, errW_some] <;> rfl), by (with_reducible repeat (first | apply Kd.R_alloc | apply Kd.R_drewN | apply Kd.R_drew)); exact Kd.R_mono HO256007.out (fun _ hk => trivial), pB HB.out⟩
 ·replace c3 := Bool.eq_false_iff.mpr c3
  subst c3
  have H1 : (some y256001) = some r := by rw [if_neg (show ¬ (false = true) by decide)] at H; exact H
  clear H
  have H := H1
  clear H1
  obtain rfl := Option.some.inj H
  go_enter Try.func255, Try.ntmps255
  go_wp2_with (first | ((with_reducible refine gate_dst (N := 7) rfl ?_); refine Kd.R_lit (Kd.int .i64) _ 3 ?hg (N := 7) ?hd (xs := ([] : List Int)) (inner := []) (ok := fun _ => True) (okp := fun _ => True) ?hr ?hp (fun _ hk => hk) trivial (Below.refl _ _) (Nat.le_refl _) (by simp) ?_; (case hd => rfl); (case hg => rfl); (case hr => first | (go_simp; done) | (go_simp; rfl)); (case hp => exact (Reps.none _ _)); intro v256002 w21 ho22 hb hg_ hnew_; clear hg_ hnew_; (first | rw [← Ny256001.out] at ho22 | (simp only [Int.reduceToNat] at ho22; rw [← Ny256001.out] at ho22)); have HO256003 := aQ (Kd.R_lower ho22 (below_size (pB HB.out))); replace HB := aQ (below_step (pB HB.out) hb); clear hb ho22) | (go_at_call 245; (with_reducible refine (spec_l3Sets.calls k 8 _ _ l0 false _ ?side1 ?side2 A2.out).mono ?_); (case side1 => exact pC (Kd.C_below HR0.out HB.out)); (case side2 => exact HC0.out); rintro e w' ⟨rfl, ⟨nd, rfl⟩⟩; (try first | exact ⟨rfl, _, World.drewN_drewN _ _ _⟩ | exact ⟨rfl, _, Eq.trans (World.drewN_drewN _ _ _) (congrArg (World.drewN _) (Nat.add_assoc _ _ _))⟩)))
  repeat (go_quiet (first | ((with_reducible refine gate_dst (N := 7) rfl ?_); refine Kd.R_lit (Kd.int .i64) _ 3 ?hg (N := 7) ?hd (xs := ([] : List Int)) (inner := []) (ok := fun _ => True) (okp := fun _ => True) ?hr ?hp (fun _ hk => hk) trivial (Below.refl _ _) (Nat.le_refl _) (by simp) ?_; (case hd => rfl); (case hg => rfl); (case hr => first | (go_simp; done) | (go_simp; rfl)); (case hp => exact (Reps.none _ _)); intro v256002 w21 ho22 hb hg_ hnew_; clear hg_ hnew_; (first | rw [← Ny256001.out] at ho22 | (simp only [Int.reduceToNat] at ho22; rw [← Ny256001.out] at ho22)); have HO256003 := aQ (Kd.R_lower ho22 (below_size (pB HB.out))); replace HB := aQ (below_step (pB HB.out) hb); clear hb ho22) | (go_at_call 245; (with_reducible refine (spec_l3Sets.calls k 8 _ _ l0 false _ ?side1 ?side2 A2.out).mono ?_); (case side1 => exact pC (Kd.C_below HR0.out HB.out)); (case side2 => exact HC0.out); rintro e w' ⟨rfl, ⟨nd, rfl⟩⟩; (try first | exact ⟨rfl, _, World.drewN_drewN _ _ _⟩ | exact ⟨rfl, _, Eq.trans (World.drewN_drewN _ _ _) (congrArg (World.drewN _) (Nat.add_assoc _ _ _))⟩))); try go_wp2_with (first | ((with_reducible refine gate_dst (N := 7) rfl ?_); refine Kd.R_lit (Kd.int .i64) _ 3 ?hg (N := 7) ?hd (xs := ([] : List Int)) (inner := []) (ok := fun _ => True) (okp := fun _ => True) ?hr ?hp (fun _ hk => hk) trivial (Below.refl _ _) (Nat.le_refl _) (by simp) ?_; (case hd => rfl); (case hg => rfl); (case hr => first | (go_simp; done) | (go_simp; rfl)); (case hp => exact (Reps.none _ _)); intro v256002 w21 ho22 hb hg_ hnew_; clear hg_ hnew_; (first | rw [← Ny256001.out] at ho22 | (simp only [Int.reduceToNat] at ho22; rw [← Ny256001.out] at ho22)); have HO256003 := aQ (Kd.R_lower ho22 (below_size (pB HB.out))); replace HB := aQ (below_step (pB HB.out) hb); clear hb ho22) | (go_at_call 245; (with_reducible refine (spec_l3Sets.calls k 8 _ _ l0 false _ ?side1 ?side2 A2.out).mono ?_); (case side1 => exact pC (Kd.C_below HR0.out HB.out)); (case side2 => exact HC0.out); rintro e w' ⟨rfl, ⟨nd, rfl⟩⟩; (try first | exact ⟨rfl, _, World.drewN_drewN _ _ _⟩ | exact ⟨rfl, _, Eq.trans (World.drewN_drewN _ _ _) (congrArg (World.drewN _) (Nat.add_assoc _ _ _))⟩))))
  go_ret
  exact ⟨_, by first | rfl | (simp [errW_none, errW_some] <;> rfl) | (simp [*, errW_none, errW_some] <;> rfl), by (with_reducible repeat (first | apply Kd.R_alloc | apply Kd.R_drewN | apply Kd.R_drew)); exact HO256003.out, pB HB.out⟩
/-! ### spec_l6Circuits: function 210 -/
def spec_l6Circuits.l0 : Nat → List Int → Int → Int → List Int → Option (List Int)
 | 0, _, _, _, _ => none
 | k + 1, x3, x4, x211002000, x211002001 => (spec_FullSet.f x211002000).bind fun t211005 => (if x4 ≤ t211005 then ((spec_l5Rank.f k x211002000 x211002001 x4).bind fun t211009 => ((spec_CountOf.f k x4).bind fun t211010 => (if t211009 < t211010 then (if x3.length < 17592186044416 then (spec_l6Circuits.l0 k (x3 ++ [x4]) (wrap64 (x4 + 1)) x211002000 x211002001) else (none)) else (spec_l6Circuits.l0 k x3 (wrap64 (x4 + 1)) x211002000 x211002001)))) else ((spec_MinimalSets.f k x3).bind fun t211006 => (some t211006)))
def spec_l6Circuits.f (k : Nat) (a0_0 : Int) (l0_1 : List Int) : Option (List Int) := spec_l6Circuits.l0 k (([] : List Int)) 0 a0_0 l0_1
theorem spec_l6Circuits.mono_l : ∀ k, (∀ y0 y1 y2 y3, LeO (spec_l6Circuits.l0 k y0 y1 y2 y3) (spec_l6Circuits.l0 (k + 1) y0 y1 y2 y3))
 | 0 => fun _ _ _ _ r h => by simp [spec_l6Circuits.l0] at h
 | k + 1 => by
  have ih0 := spec_l6Circuits.mono_l k
  ·intro y0 y1 y2 y3
   unfold spec_l6Circuits.l0
   repeat' first
   | (with_reducible exact ih0 _ _ _ _)
   | (with_reducible exact spec_CountOf.mono _ _)
   | (with_reducible exact spec_MinimalSets.mono _ _)
   | (with_reducible exact spec_l5Rank.mono _ _ _ _)
   | (with_reducible exact LeO.refl _)
   | (with_reducible exact LeO.none _)
   | (with_reducible refine LeO.ite ?_ ?_)
   | (with_reducible refine LeO.bind ?_ (fun _ => ?_))
   | exact ih0 _ _ _ _
   | exact spec_CountOf.mono _ _
   | exact spec_MinimalSets.mono _ _
   | exact spec_l5Rank.mono _ _ _ _
   | exact LeO.none _
   | refine LeO.ite ?_ ?_
   | refine LeO.bind ?_ (fun _ => ?_)
theorem spec_l6Circuits.mono : ∀ a0 a1 k, LeO (spec_l6Circuits.f k a0 a1) (spec_l6Circuits.f (k + 1) a0 a1) := by
 intro a0 a1 k
 have ih0 := spec_l6Circuits.mono_l k
 unfold spec_l6Circuits.f
 repeat' first
   | (with_reducible exact ih0 _ _ _ _)
   | (with_reducible exact spec_CountOf.mono _ _)
   | (with_reducible exact spec_MinimalSets.mono _ _)
   | (with_reducible exact spec_l5Rank.mono _ _ _ _)
   | (with_reducible exact LeO.refl _)
   | (with_reducible exact LeO.none _)
   | (with_reducible refine LeO.ite ?_ ?_)
   | (with_reducible refine LeO.bind ?_ (fun _ => ?_))
   | exact ih0 _ _ _ _
   | exact spec_CountOf.mono _ _
   | exact spec_MinimalSets.mono _ _
   | exact spec_l5Rank.mono _ _ _ _
   | exact LeO.none _
   | refine LeO.ite ?_ ?_
   | refine LeO.bind ?_ (fun _ => ?_)
set_option maxHeartbeats 8000000 in
set_option maxRecDepth 100000 in
theorem spec_l6Circuits.calls (k : Nat) (a0_0 : Int) (A0_1 : Option Addr) (c0_1 : Nat) (l0_1 : List Int) (r : List Int) (w : World) (hr0_1 : Kd.C (Kd.int .i64) w A0_1 l0_1.length l0_1) (hc0_1 : l0_1.length ≤ c0_1) (h : spec_l6Circuits.f k a0_0 l0_1 = some r) :
  Calls Try.prog 210 #[.agg #[.int .i64 a0_0, .slice A0_1 l0_1.length c0_1]] w fun e w' => ∃ v0_ : Value, e = .returned (v0_) ∧ Kd.R (Kd.int .i64) 3 w' w.heap.size (fun _ => True) v0_ r ∧ Below w.heap.size w w' := by
 have hu28 := Try.underlying28
 have HR0_1 := aQ hr0_1
 have HC0_1 := aQ hc0_1
 clear hr0_1 hc0_1
 have HB := aQ (Below.refl w.heap.size w)
 have H : (spec_l6Circuits.l0 k (([] : List Int)) 0 a0_0 l0_1) = some r := h
 clear h
 obtain ⟨y211002, hy211002⟩ : ∃ y_ : List Int, y_ = (([] : List Int)) := ⟨_, rfl⟩
 replace H : (spec_l6Circuits.l0 k y211002 0 a0_0 l0_1) = some r := by first | (rw [hy211002]; with_reducible exact H) | (have H2_ := (Option.bind_some _ _).symm.trans H; rw [hy211002]; with_reducible exact H2_) | (have H2_ := (Option.bind_some _ _).symm.trans H; with_reducible exact H2_) | with_reducible exact H | (rw [hy211002]; exact H) | exact H
 have Ny211002 := aQ hy211002
 clear hy211002
 have H' := aQ H
 clear H
 go_enter Try.func210, Try.ntmps210
 go_wp2_with (first | ((with_reducible refine gate_dst (N := 1) rfl ?_); refine box_event ?hg (N := 1) ?hd (cs := #[.int .i64 a0_0, .slice A0_1 l0_1.length c0_1]) (t := 28) ?hr ?_; (case hd => rfl); (case hg => rfl); (case hr => first | (go_simp; done) | (go_simp; rfl)); intro gb211001 hg w2 hbox hb; have BK211001 := aQ (hbox); have GW211001 := aQ ((by rw [hg]; exact (below_size (pB HB.out)) : w.heap.size ≤ gb211001)); have GE211001 := aQ ((by rw [hg]; exact (below_size (pB HB.out)) : w.heap.size ≤ gb211001)); replace HB := aQ (below_step (pB HB.out) hb); clear hb hbox hg) | ((with_reducible refine gate_dst (N := 5) rfl ?_); refine Kd.R_lit (Kd.int .i64) _ 3 ?hg (N := 5) ?hd (xs := ([] : List Int)) (inner := []) (ok := fun _ => True) (okp := fun _ => True) ?hr ?hp (fun _ hk => hk) trivial (Below.refl _ _) (Nat.le_refl _) (by simp) ?_; (case hd => rfl); (case hg => rfl); (case hr => first | (go_simp; done) | (go_simp; rfl)); (case hp => exact (Reps.none _ _)); intro v211003 w3 ho4 hb hg_ hnew_; clear hg_ hnew_; (first | rw [← Ny211002.out] at ho4 | (simp only [Int.reduceToNat] at ho4; rw [← Ny211002.out] at ho4)); have HO211004 := aQ (Kd.R_lower ho4 (below_size (pB1 HB.out GE211001.out))); replace BK211001 := aQ (blk_below (g := gb211001) (o := .cells #[.int .i64 a0_0, .slice A0_1 l0_1.length c0_1] 28 (0, 0)) (pk BK211001.out) hb); replace HB := aQ (below_step (pB1 HB.out GE211001.out) hb); clear hb ho4))
 go_loopg [3, 4] k (fun kq v3 v4 w' => ∃ (x3_1 : List Int) (x4_1 : Int), v4 = .int .i64 x4_1 ∧ Aside0 (spec_l6Circuits.l0 kq x3_1 x4_1 a0_0 l0_1 = some r) ∧ Aside0 (kq ≤ k) ∧ Aside0 (Kd.R (Kd.int .i64) 3 w' w.heap.size (fun _ => True) v3 x3_1) ∧ Aside0 (w'.heap[gb211001]? = some (.cells #[.int .i64 a0_0, (.slice A0_1 l0_1.length c0_1)] 28 (0, 0))) ∧ Aside0 (Below w.heap.size w w'))
 case atStart => exact ⟨(y211002), (0), rs_, H', ⟨Nat.le_refl _⟩, ⟨pR HO211004.out⟩, ⟨pk BK211001.out⟩, ⟨pB1 HB.out GE211001.out⟩⟩
 case round =>
  clear H'
  try clear c2
  try clear p2
  obtain ⟨x3_1, x4_1, rfl, HA, HK1, HO_3, BK211001, HB⟩ := hrel
  cases gk with
  | zero => exact absurd HA.out (by simp [spec_l6Circuits.l0])
  | succ k1 =>
   have H := HA.out
   clear HA
   simp only [spec_l6Circuits.l0] at H
   replace H := Option.bind_eq_some_iff.mp H
   obtain ⟨t211005, A50, H⟩ := H
   replace H : (if x4_1 ≤ t211005 then ((spec_l5Rank.f k1 a0_0 l0_1 x4_1).bind fun t211009 => ((spec_CountOf.f k1 x4_1).bind fun t211010 => (if t211009 < t211010 then (if x3_1.length < 17592186044416 then (spec_l6Circuits.l0 k1 (x3_1 ++ [x4_1]) (wrap64 (x4_1 + 1)) a0_0 l0_1) else (none)) else (spec_l6Circuits.l0 k1 x3_1 (wrap64 (x4_1 + 1)) a0_0 l0_1)))) else ((spec_MinimalSets.f k1 x3_1).bind fun t211006 => (some t211006))) = some r := H
   have A5 := aQ A50
   clear A50
   by_cases c6 : x4_1 ≤ t211005
   ·rw [if_pos c6] at H
    have c6b0 : decide (x4_1 ≤ t211005) = true := decide_eq_true c6
    clear c6
    replace H := Option.bind_eq_some_iff.mp H
    obtain ⟨t211009, A70, H⟩ := H
    replace H : ((spec_CountOf.f k1 x4_1).bind fun t211010 => (if t211009 < t211010 then (if x3_1.length < 17592186044416 then (spec_l6Circuits.l0 k1 (x3_1 ++ [x4_1]) (wrap64 (x4_1 + 1)) a0_0 l0_1) else (none)) else (spec_l6Circuits.l0 k1 x3_1 (wrap64 (x4_1 + 1)) a0_0 l0_1))) = some r := H
    have A7 := aQ A70
    clear A70
    replace H := Option.bind_eq_some_iff.mp H
    obtain ⟨t211010, A80, H⟩ := H
    replace H : (if t211009 < t211010 then (if x3_1.length < 17592186044416 then (spec_l6Circuits.l0 k1 (x3_1 ++ [x4_1]) (wrap64 (x4_1 + 1)) a0_0 l0_1) else (none)) else (spec_l6Circuits.l0 k1 x3_1 (wrap64 (x4_1 + 1)) a0_0 l0_1)) = some r := H
    have A8 := aQ A80
    clear A80
    by_cases c9 : t211009 < t211010
    ·rw [if_pos c9] at H
     have c9b0 : decide (t211009 < t211010) = true := decide_eq_true c9
     clear c9
     by_cases c10 : x3_1.length < 17592186044416
     ·rw [if_pos c10] at H
      have LMc10 := aQ c10
      clear c10
      obtain ⟨y211011, hy211011⟩ : ∃ y_ : List Int, y_ = (x3_1 ++ [x4_1]) := ⟨_, rfl⟩
      replace H : (spec_l6Circuits.l0 k1 y211011 (wrap64 (x4_1 + 1)) a0_0 l0_1) = some r := by first | (rw [hy211011]; with_reducible exact H) | (have H2_ := (Option.bind_some _ _).symm.trans H; rw [hy211011]; with_reducible exact H2_) | (have H2_ := (Option.bind_some _ _).symm.trans H; with_reducible exact H2_) | with_reducible exact H | (rw [hy211011]; exact H) | exact H
      have Ny211011 := aQ hy211011
      clear hy211011
      have H' := aQ H
      clear H
      have hcz11_0 := bc (v := (.int .i64 a0_0)) BK211001.out 0
      have hcz11_1 := bc (v := (.slice A0_1 l0_1.length c0_1)) BK211001.out 1
      have hfz11_0 := blk_frozen BK211001.out 0
      have hfz11_1 := blk_frozen BK211001.out 1
      go_wp2_with (first | ((with_reducible refine gate_callee (f := 115) rfl ?_); refine goesL_ (some 9) rfl rfl Try.func115 (by kernel_rfl) rfl #[.int .i64 a0_0] rfl lm ?_; (with_reducible refine (spec_FullSet.calls a0_0 t211005 _ A5.out).mono ?_); rintro e w' ⟨rfl, ⟨nd, rfl⟩⟩; refine ⟨_, rfl, ?_⟩) | ((with_reducible refine gate_callee (f := 121) rfl ?_); refine goesL_ (some 15) rfl rfl Try.func121 (by kernel_rfl) rfl #[.agg #[.int .i64 a0_0, .slice A0_1 l0_1.length c0_1], .int .i64 x4_1] rfl lm ?_; (with_reducible refine (spec_l5Rank.calls k1 a0_0 _ _ l0_1 x4_1 t211009 _ ?side1 ?side2 A7.out).mono ?_); (case side1 => repeat (first | exact (Kd.C_below HR0_1.out (pB1 HB.out GE211001.out)) | (with_reducible refine Kd.C_alloc ?_ _) | (with_reducible refine Kd.C_drewN ?_ _) | (with_reducible refine Kd.C_drew ?_))); (case side2 => exact HC0_1.out); rintro e w12 ⟨rfl, hb⟩; refine ⟨_, rfl, ?_⟩; replace HO_3 := aQ (Kd.R_below (pR HO_3.out) hb); replace BK211001 := aQ (blk_below (g := gb211001) (o := .cells #[.int .i64 a0_0, .slice A0_1 l0_1.length c0_1] 28 (0, 0)) (pk BK211001.out) hb); replace HB := aQ (below_step (pB1 HB.out GE211001.out) hb); (try clear hb)) | ((with_reducible refine gate_callee (f := 116) rfl ?_); refine goesL_ (some 17) rfl rfl Try.func116 (by kernel_rfl) rfl #[.int .i64 x4_1] rfl lm ?_; (with_reducible refine (spec_CountOf.calls k1 x4_1 t211010 _ A8.out).mono ?_); rintro e w' ⟨rfl, ⟨nd, rfl⟩⟩; refine ⟨_, rfl, ?_⟩) | ((with_reducible refine gate_builtin (b := .append) (xs := #[.tmp 19, .tmp 21]) rfl ?_); at_builtin; refine Kd.R_append (Kd.int .i64) (w0 := w) w.heap.size rfl (.tmp 19) (.tmp 21) 22 3 (.int .i64 0) 8 rfl Try.underlying22 info3 rfl (by decide) (by omega) u3 x3_1 x4_1 [.int .i64 x4_1] (fun _ => True) (fun _ => False) rfl rfl ?aP (fun _ hk => hk.elim) ?aF ?aO ?aB ?aS ?aL ?_; (case aP => exact rfl); (case aB => exact (pB1 HB.out GE211001.out)); (case aF => exact (fun _ _ => trivial)); (case aO => exact (pR HO_3.out)); (case aS => exact (below_size (pB1 HB.out GE211001.out))); (case aL => have := LMc10.out; omega); intro v211012 w13 ho hb hg hat; rw [← Ny211011.out] at ho; replace BK211001 := aQ (blk_grown (g := gb211001) (o := .cells #[.int .i64 a0_0, .slice A0_1 l0_1.length c0_1] 28 (0, 0)) (pk BK211001.out) hg (Kd.R_ne HO_3.out BK211001.out (by decide))); replace HB := aQ (hb); have HO211013 := aQ (ho); clear HO_3; clear ho hb hg hat))
      go_roundg k1
      case measure => have := HK1.out; omega
      case rel => exact ⟨(y211011), (wrap64 (x4_1 + 1)), rs_, H', ⟨by have := HK1.out; omega⟩, ⟨pR HO211013.out⟩, ⟨pk BK211001.out⟩, ⟨pB1 HB.out GE211001.out⟩⟩
     ·rw [if_neg c10] at H
      exact absurd H (by simp)
    ·rw [if_neg c9] at H
     have c9b0 : decide (t211009 < t211010) = false := decide_eq_false c9
     clear c9
     have H' := aQ H
     clear H
     have hcz14_0 := bc (v := (.int .i64 a0_0)) BK211001.out 0
     have hcz14_1 := bc (v := (.slice A0_1 l0_1.length c0_1)) BK211001.out 1
     have hfz14_0 := blk_frozen BK211001.out 0
     have hfz14_1 := blk_frozen BK211001.out 1
     go_wp2_with (first | ((with_reducible refine gate_callee (f := 115) rfl ?_); refine goesL_ (some 9) rfl rfl Try.func115 (by kernel_rfl) rfl #[.int .i64 a0_0] rfl lm ?_; (with_reducible refine (spec_FullSet.calls a0_0 t211005 _ A5.out).mono ?_); rintro e w' ⟨rfl, ⟨nd, rfl⟩⟩; refine ⟨_, rfl, ?_⟩) | ((with_reducible refine gate_callee (f := 121) rfl ?_); refine goesL_ (some 15) rfl rfl Try.func121 (by kernel_rfl) rfl #[.agg #[.int .i64 a0_0, .slice A0_1 l0_1.length c0_1], .int .i64 x4_1] rfl lm ?_; (with_reducible refine (spec_l5Rank.calls k1 a0_0 _ _ l0_1 x4_1 t211009 _ ?side1 ?side2 A7.out).mono ?_); (case side1 => repeat (first | exact (Kd.C_below HR0_1.out (pB1 HB.out GE211001.out)) | (with_reducible refine Kd.C_alloc ?_ _) | (with_reducible refine Kd.C_drewN ?_ _) | (with_reducible refine Kd.C_drew ?_))); (case side2 => exact HC0_1.out); rintro e w15 ⟨rfl, hb⟩; refine ⟨_, rfl, ?_⟩; replace HO_3 := aQ (Kd.R_below (pR HO_3.out) hb); replace BK211001 := aQ (blk_below (g := gb211001) (o := .cells #[.int .i64 a0_0, .slice A0_1 l0_1.length c0_1] 28 (0, 0)) (pk BK211001.out) hb); replace HB := aQ (below_step (pB1 HB.out GE211001.out) hb); (try clear hb)) | ((with_reducible refine gate_callee (f := 116) rfl ?_); refine goesL_ (some 17) rfl rfl Try.func116 (by kernel_rfl) rfl #[.int .i64 x4_1] rfl lm ?_; (with_reducible refine (spec_CountOf.calls k1 x4_1 t211010 _ A8.out).mono ?_); rintro e w' ⟨rfl, ⟨nd, rfl⟩⟩; refine ⟨_, rfl, ?_⟩))
     go_roundg k1
     case measure => have := HK1.out; omega
     case rel => exact ⟨(x3_1), (wrap64 (x4_1 + 1)), rs_, H', ⟨by have := HK1.out; omega⟩, ⟨pR HO_3.out⟩, ⟨pk BK211001.out⟩, ⟨pB1 HB.out GE211001.out⟩⟩
   ·rw [if_neg c6] at H
    have c6b0 : decide (x4_1 ≤ t211005) = false := decide_eq_false c6
    clear c6
    replace H := Option.bind_eq_some_iff.mp H
    obtain ⟨t211006, A160, H⟩ := H
    replace H : (some t211006) = some r := H
    have A16 := aQ A160
    clear A160
    obtain rfl := Option.some.inj H
    have hcz17_0 := bc (v := (.int .i64 a0_0)) BK211001.out 0
    have hcz17_1 := bc (v := (.slice A0_1 l0_1.length c0_1)) BK211001.out 1
    have hfz17_0 := blk_frozen BK211001.out 0
    have hfz17_1 := blk_frozen BK211001.out 1
    go_wp2_with (first | ((with_reducible refine gate_callee (f := 115) rfl ?_); refine goesL_ (some 9) rfl rfl Try.func115 (by kernel_rfl) rfl #[.int .i64 a0_0] rfl lm ?_; (with_reducible refine (spec_FullSet.calls a0_0 t211005 _ A5.out).mono ?_); rintro e w' ⟨rfl, ⟨nd, rfl⟩⟩; refine ⟨_, rfl, ?_⟩; obtain ⟨Ao18, co18, eo18⟩ := Kd.R_slice HO_3.out; subst eo18) | ((with_reducible refine gate_callee (f := 255) rfl ?_); refine goesL_ (some 24) rfl rfl Try.func255 (by kernel_rfl) rfl #[.slice Ao18 x3_1.length co18] rfl lm ?_; (with_reducible refine (spec_MinimalSets.calls k1 _ _ x3_1 t211006 _ ?side1 ?side2 A16.out).mono ?_); (case side1 => repeat (first | exact (Kd.R_reads' HO_3.out).2.2 | (with_reducible refine Kd.C_alloc ?_ _) | (with_reducible refine Kd.C_drewN ?_ _) | (with_reducible refine Kd.C_drew ?_))); (case side2 => exact (Kd.R_reads' HO_3.out).2.1); rintro e w19 ⟨v211007, rfl, ho0, hb⟩; refine ⟨_, rfl, ?_⟩; have HO211008 := aQ (Kd.R_lower (Kd.R_new' ho0 (Kd.R_lt (pR HO_3.out))) (below_size (pB1 HB.out GE211001.out))); replace HO_3 := aQ (Kd.R_elder' (pR HO_3.out) (Kd.R_base ho0) hb); replace BK211001 := aQ (blk_below (g := gb211001) (o := .cells #[.int .i64 a0_0, .slice A0_1 l0_1.length c0_1] 28 (0, 0)) (pk BK211001.out) hb); replace HB := aQ (below_step (pB1 HB.out GE211001.out) hb); (try clear hb); (try clear ho0)))
    go_ret
    exact ⟨_, by first | rfl | (simp [errW_none, errW_some] <;> rfl) | (simp [*, errW_none, errW_some] <;> rfl), by (with_reducible repeat (first | apply Kd.R_alloc | apply Kd.R_drewN | apply Kd.R_drew)); exact Kd.R_mono HO211008.out (fun _ hk => trivial), pB1 HB.out GE211001.out⟩
end Go.Proofs.Ytinoamehdhgpgaa.A
namespace Go.Proofs.Ytinoamehdhgpgaa.A
open Go.RowKit Go.Proofs.YtinoamehdhgpgaaW.PrintWords Go.Proofs.YtinoamehdhgpgaaW.PrintLast Go.Proofs.YtinoamehdhgpgaaW.PrintMore Go.Proofs.Ytinoamehdhgpgaa.Z
attribute [local go_sem] max2_int min2_int max_two min_two max_three min_three max_four min_four   -- for this text's walks alone
set_option linter.unusedVariables false
set_option linter.unusedSimpArgs false

/-! ### impl_MinimalSets: function 253 (by hand) -/
/-- Does t speak against s? -/
def impl_MinimalSets.c (s t : Int) : Option Bool := if t = s then some false else impl_IsSubset.f t s
def impl_MinimalSets.p (l : List Int) (s : Int) : Option Bool := (anyO (fun t => impl_MinimalSets.c s t) l).bind fun b => some (!b)
def impl_MinimalSets.f (k : Nat) (l : List Int) : Option (List Int) := (impl_areSets.f k l).bind fun t => if t = true then (impl_SortSets.f l).bind fun ys => filterO (fun s => impl_MinimalSets.p l s) ys else some []
theorem impl_MinimalSets.mono : ∀ a0 k, LeO (impl_MinimalSets.f k a0) (impl_MinimalSets.f (k + 1) a0) := by
 intro a0 k
 unfold impl_MinimalSets.f
 exact LeO.bind (impl_areSets.mono _ _) (fun t => LeO.ite (LeO.refl _) (LeO.refl _))
set_option maxHeartbeats 4000000 in
set_option maxRecDepth 100000 in
theorem MinimalSets1_walk (s t : Int) (b : Bool) (gs : Nat) (w : World) (hs : w.heap[gs]? = some (.cells #[.int .i64 s] 3 (0, 0))) (h : impl_MinimalSets.c s t = some b) :
  Calls Try.prog 282 #[.int .i64 t, .pointer (some ⟨gs, 0, none⟩)] w fun e w' => e = .returned (.bool b) ∧ Below w.heap.size w w' := by
 unfold impl_MinimalSets.c at h
 have hcs : w.cell? ⟨gs, 0, none⟩ = some (.int .i64 s) := (blk_cell hs 0).trans rfl
 clear hs
 by_cases hne : t = s
 ·rw [if_pos hne] at h
  simp only [Option.some.injEq] at h
  subst h
  subst hne
  go_enter Try.func282, Try.ntmps282
  go_wp2
  go_ret
  exact ⟨rs_, by repeat (first | exact Below.refl _ _ | apply pw_below_drewN | apply below_drew1)⟩
 ·rw [if_neg hne] at h
  have HT := Lib.hid h
  have e1 : (t == s) = false := beq_eq_false_iff_ne.2 hne
  have e2 : (t != s) = true := bne_iff_ne.2 hne
  clear h
  go_enter Try.func282, Try.ntmps282
  go_wp2_with (first | (go_at_call 151; (with_reducible refine (impl_IsSubset.calls _ _ b _ HT.out).mono ?_); rintro e w' ⟨rfl, ⟨nd, rfl⟩⟩))
  go_ret
  exact ⟨rs_, by repeat (first | exact Below.refl _ _ | apply pw_below_drewN | apply below_drew1)⟩
set_option maxHeartbeats 4000000 in
set_option maxRecDepth 100000 in
theorem impl_MinimalSets.calls (k : Nat) (A0 : Option Addr) (c0 : Nat) (l0 : List Int) (r : List Int) (w : World) (hr0 : Kd.C (Kd.int .i64) w A0 l0.length l0) (hc0 : l0.length ≤ c0) (h : impl_MinimalSets.f k l0 = some r) :
  Calls Try.prog 253 #[.slice A0 l0.length c0] w fun e w' => ∃ v0_ : Value, e = .returned (v0_) ∧ Kd.R (Kd.int .i64) 3 w' w.heap.size (fun _ => True) v0_ r ∧ Below w.heap.size w w' := by
 have HR := aQ hr0
 have HC := aQ hc0
 have HB := aQ (Below.refl w.heap.size w)
 clear hr0 hc0
 have EG := aQ (show ∀ args w, (callFunc 282 args).run Try.prog w = .ok (.enter 282 args) w from runs_of Try.func282 (by kernel_rfl) rfl)
 unfold impl_MinimalSets.f at h
 obtain ⟨t, hT, h⟩ := Option.bind_eq_some_iff.1 h
 have HT := aQ hT
 clear hT
 by_cases c3 : t = true
 ·subst c3
  rw [if_pos rfl] at h
  obtain ⟨ys, hY, h⟩ := Option.bind_eq_some_iff.1 h
  have hyl : ys.length < 17592186044416 := by
   unfold impl_SortSets.f at hY
   by_cases hc : l0.length < 17592186044416
   ·rw [if_pos hc, Option.some.injEq] at hY; subst hY; have := sortC_len l0; omega
   ·rw [if_neg hc] at hY; cases hY
  have HY := aQ hY
  have HI := Lib.hid h
  have HYL := aQ hyl
  clear hY h hyl
  go_enter Try.func253, Try.ntmps253
  go_wp2_with (first | ((with_reducible refine gate_dst (N := 6) rfl ?_); refine Kd.R_lit (Kd.int .i64) _ 3 ?hg (N := 6) ?hd (xs := ([] : List Int)) (inner := []) (ok := fun _ => True) (okp := fun _ => True) ?hr ?hp (fun _ hk => hk) trivial (Below.refl _ _) (Nat.le_refl _) (by simp) ?_; (case hd => rfl); (case hg => rfl); (case hr => first | (go_simp; done) | (go_simp; rfl)); (case hp => exact (Reps.none _ _)); intro v9_ w2 ho3 hb hg_ hnew_; clear hg_ hnew_; have HO := aQ (Kd.R_lower ho3 (below_size (pB HB.out))); replace HB := aQ (below_step (pB HB.out) hb); clear hb ho3) | (go_at_call 279; (with_reducible refine (impl_areSets.calls k _ _ l0 true _ ?side1 ?side2 HT.out).mono ?_); (case side1 => repeat (first | exact (Kd.C_below HR.out (pB HB.out)) | (with_reducible refine Kd.C_alloc ?_ _) | (with_reducible refine Kd.C_drewN ?_ _) | (with_reducible refine Kd.C_drew ?_))); (case side2 => exact HC.out); rintro e w' ⟨rfl, ⟨nd, rfl⟩⟩) | (go_at_call 217; (with_reducible refine (impl_SortSets.calls _ _ l0 ys _ ?side1 ?side2 HY.out).mono ?_); (case side1 => repeat (first | exact (Kd.C_below HR.out (pB HB.out)) | (with_reducible refine Kd.C_alloc ?_ _) | (with_reducible refine Kd.C_drewN ?_ _) | (with_reducible refine Kd.C_drew ?_))); (case side2 => exact HC.out); rintro e w3_ ⟨v_, rfl, ho_, hb⟩; have HP := aQ (Kd.R_lower (R_apart2 ho_ (pR HO.out)) (below_size (pB HB.out))); replace HO := aQ (Kd.R_below (R_apart (pR HO.out) ho_) hb); replace HB := aQ (below_step (pB HB.out) hb); clear ho_ hb; obtain ⟨AP, cP, eP⟩ := Kd.R_slice HP.out; subst eP))
  go_loopg [3, 13] ys.length (fun gg v3 v13 wr => ∃ (x : Int) (acc rest : List Int), v13 = .int .i64 x ∧ Aside0 (0 ≤ x ∧ x ≤ (ys.length : Int)) ∧ Aside0 (ys.length - x.toNat ≤ gg) ∧ Aside0 (acc.length ≤ x.toNat) ∧ Aside0 (filterO (fun s => impl_MinimalSets.p l0 s) (ys.drop x.toNat) = some rest) ∧ Aside0 (acc ++ rest = r) ∧ Aside0 (Kd.R (Kd.int .i64) 3 wr w.heap.size (fun k_ => some k_ ≠ ((.slice AP ys.length cP : Value)).ownBlock) v3 acc) ∧ Aside0 (Kd.R (Kd.int .i64) 3 wr w.heap.size (fun k_ => some k_ ≠ (v3 : Value).ownBlock) (.slice AP ys.length cP) ys) ∧ Aside0 (Below w.heap.size w wr))
  case atStart => exact ⟨0, [], r, rfl, ⟨by omega⟩, ⟨by omega⟩, ⟨by simp⟩, ⟨HI.out⟩, ⟨rfl⟩, ⟨pR HO.out⟩, ⟨pR HP.out⟩, ⟨(pB HB.out)⟩⟩
  case round =>
   clear HI HO HP HB
   obtain ⟨x, acc, rest, rfl, HX, HG, HA, HI, HE, HO, HP, HB⟩ := hrel
   by_cases hlt : x < (ys.length : Int)
   ·have p1 : 0 ≤ x := HX.out.1
    have l1 : decide (x < (ys.length : Int)) = true := decide_eq_true hlt
    obtain ⟨ad, ea, hx⟩ := Kd.at_int ((Kd.R_reads' HP.out).2.2) x p1 hlt
    cases ea
    have hI := HI.out
    rw [int_drop ys x p1 hlt] at hI
    simp only [filterO] at hI
    obtain ⟨b, hgb, hI⟩ := Option.bind_eq_some_iff.1 hI
    obtain ⟨zs, hzs, hI⟩ := Option.bind_eq_some_iff.1 hI
    unfold impl_MinimalSets.p at hgb
    obtain ⟨tb, hA, hgb⟩ := Option.bind_eq_some_iff.1 hgb
    simp only [Option.some.injEq] at hgb
    subst hgb
    have HTA := Lib.hid hA
    have HZ := Lib.hid hzs
    have HK := Lib.hid hI
    have E1 := Lib.hid (wrap64_of (n := x + 1) (by omega) (by have := HYL.out; omega))
    have Q1 := aQ hlt
    clear HI hA hzs hI
    replace p1 := eq_true p1
    replace hlt := eq_true hlt
    go_wp2_with (first | ((with_reducible refine gate_dst (N := 5) rfl ?_); refine box_event ?hg (N := 5) ?hd (cs := #[.int .i64 0]) (t := 3) ?hr ?_; (case hd => rfl); (case hg => rfl); (case hr => first | (go_simp; done) | (go_simp; rfl)); intro gs hg w1_ hbox hb; have n_HO := aQ (Kd.R_below (Kd.R_elderB (pR HO.out) gs (by rw [hg]; exact Nat.le_refl _)) hb); have n_HP := aQ (Kd.R_below (Kd.R_elderB (pR HP.out) gs (by rw [hg]; exact Nat.le_refl _)) hb); have n_HB := aQ (below_step (pB HB.out) hb); have GBS := aQ ((by rw [hg]; exact below_size (pB HB.out)) : w.heap.size ≤ gs); clear HO HP HB; have HO := n_HO; have HP := n_HP; have HB := n_HB; have BS := aQ hbox; clear n_HO n_HP n_HB; clear hb hbox hg; have zBS : w1_.cell? ⟨gs, 0, none⟩ = some (.int .i64 0) := (blk_cell BS.out 0).trans rfl; have fBS := blk_frozen BS.out 0))
    (with_reducible refine (ContainsFunc_walk (fun t => impl_MinimalSets.c (rd ys x) t) 282 _ EG.out _ _ l0 tb _ (Kd.C_below HR.out (by repeat (first | (with_reducible first | exact HB.out | apply below_alloc | apply pw_below_drewN | apply below_drew1 | refine below_set ?_ GBS.out) | exact HB.out))) HTA.out (fun W t_ b_ hb hg => calls_of_args (by simp) (MinimalSets1_walk (rd ys x) t_ b_ gs W (blk_below (g := gs) (o := .cells #[.int .i64 (rd ys x)] 3 (0, 0)) (by (with_reducible repeat (first | refine blk_drewN ?_ _ | refine blk_drew ?_ | refine blk_alloc ?_ _)); refine blk_put (cs := #[.int .i64 0]) ?_ 0 _ rfl; (with_reducible repeat (first | refine blk_drewN ?_ _ | refine blk_drew ?_ | refine blk_alloc ?_ _)); exact BS.out) hb) hg))).mono ?_)
    rintro e w9_ ⟨rfl, hb⟩
    have n_HO := aQ (Kd.R_below (Kd.R_mono (Kd.R_far (p := ⟨gs, 0, none⟩) (pR HO.out) (fun k_ (hk : _ ∧ k_ ≠ gs) => hk.2) (.int .i64 (rd ys x))) (fun k_ (hk : _ ∧ k_ ≠ gs) => hk.1)) hb)
    have n_HP := aQ (Kd.R_below (Kd.R_mono (Kd.R_far (p := ⟨gs, 0, none⟩) (pR HP.out) (fun k_ (hk : _ ∧ k_ ≠ gs) => hk.2) (.int .i64 (rd ys x))) (fun k_ (hk : _ ∧ k_ ≠ gs) => hk.1)) hb)
    have n_BS := aQ (blk_below (g := gs) (o := .cells #[.int .i64 (rd ys x)] 3 (0, 0)) (by (with_reducible repeat (first | refine blk_drewN ?_ _ | refine blk_drew ?_ | refine blk_alloc ?_ _)); refine blk_put (cs := #[.int .i64 0]) ?_ 0 _ rfl; (with_reducible repeat (first | refine blk_drewN ?_ _ | refine blk_drew ?_ | refine blk_alloc ?_ _)); exact BS.out) hb)
    have n_HB := aQ (below_step (by repeat (first | (with_reducible first | exact HB.out | apply below_alloc | apply pw_below_drewN | apply below_drew1 | refine below_set ?_ GBS.out) | exact HB.out)) hb)
    clear HO HP HB BS hb HTA zBS fBS
    have HO := n_HO
    have HP := n_HP
    have HB := n_HB
    have BS := n_BS
    clear n_HO n_HP n_HB n_BS
    have zBS : w9_.cell? ⟨gs, 0, none⟩ = some (.int .i64 (rd ys x)) := (blk_cell BS.out 0).trans rfl
    try clear hx
    have hc := HK.out
    clear HK
    cases tb with
    | false =>
     rw [if_pos (by decide)] at hc
     simp only [Option.some.injEq] at hc
     have HR2 := Lib.hid hc
     have HLM := aQ (show acc.length < 17592186044416 by have := HA.out; have := HX.out; have := Q1.out; have := HYL.out; omega)
     clear hc
     go_wp2_with (first | ((with_reducible refine gate_builtin (b := .append) (xs := #[.tmp 21, .tmp 23]) rfl ?_); at_builtin; refine Kd.R_append (Kd.int .i64) (w0 := w) w.heap.size rfl (.tmp 21) (.tmp 23) 22 3 (.int .i64 0) 8 rfl Try.underlying22 info3 rfl (by decide) (by omega) u3 acc (rd ys x) [.int .i64 (rd ys x)] (fun k_ => some k_ ≠ ((.slice (some ad) ys.length cP : Value)).ownBlock) (fun _ => False) rfl rfl ?aP (fun _ hk => hk.elim) ?aF ?aO ?aB ?aS ?aL ?_; (case aP => exact rfl); (case aB => exact (pB HB.out)); (case aF => exact (fun k_ hk => Kd.fresh' (Kd.R_lt (pR HP.out)) k_ hk)); (case aO => exact (pR HO.out)); (case aS => exact (below_size (pB HB.out))); (case aL => have := HLM.out; omega); intro v8_ w8 ho hb hg hat; have n0_ := aQ (Kd.R_after (ok := (fun _ => True)) (by (with_reducible repeat (first | apply Kd.R_alloc | apply Kd.R_drewN | apply Kd.R_drew)); exact Kd.R_mono HP.out (fun _ hk => ⟨trivial, hk⟩)) hg hat); have n1_ := aQ hb; have n2_ := aQ ho; clear HB; clear HO; clear HP; have HP := aQ (Kd.R_mono n0_.out (fun _ hk => hk.2)); have HB := n1_; have HO := n2_; clear n0_ n1_ n2_; clear ho hb hg hat))
     go_roundg (ys.length - (x + 1).toNat)
     case measure => have := HG.out; have := HX.out; have := Q1.out; omega
     case rel =>
      refine ⟨x + 1, acc ++ [rd ys x], zs, by rw [E1.out], ⟨by have := HX.out; have := Q1.out; omega⟩, ⟨Nat.le_refl _⟩, ⟨by rw [List.length_append, List.length_singleton]; have := HA.out; have := HX.out; omega⟩, ⟨HZ.out⟩, ⟨by rw [List.append_assoc]; have h1 := HR2.out; have h2 := HE.out; rw [← h1] at h2; exact h2⟩, ⟨pR HO.out⟩, ⟨pR HP.out⟩, ⟨(pB HB.out)⟩⟩
    | true =>
     rw [if_neg (by decide)] at hc
     simp only [Option.some.injEq] at hc
     have HR2 := Lib.hid hc
     clear hc
     go_wp2
     go_roundg (ys.length - (x + 1).toNat)
     case measure => have := HG.out; have := HX.out; have := Q1.out; omega
     case rel =>
      refine ⟨x + 1, acc, zs, by rw [E1.out], ⟨by have := HX.out; have := Q1.out; omega⟩, ⟨Nat.le_refl _⟩, ⟨by have := HA.out; have := HX.out; omega⟩, ⟨HZ.out⟩, ⟨by have h1 := HR2.out; have h2 := HE.out; rw [← h1] at h2; exact h2⟩, ⟨pR HO.out⟩, ⟨pR HP.out⟩, ⟨(pB HB.out)⟩⟩
   ·have l1 : decide (x < (ys.length : Int)) = false := decide_eq_false hlt
    have hI := HI.out
    rw [int_drop_end ys x hlt] at hI
    simp only [filterO, Option.some.injEq] at hI
    have hE := HE.out
    rw [← hI, List.append_nil] at hE
    subst hE
    clear HI hI hlt HE
    go_wp2
    go_ret
    exact ⟨_, rs_, by (with_reducible repeat (first | apply Kd.R_alloc | apply Kd.R_drewN | apply Kd.R_drew)); exact Kd.R_mono HO.out (fun _ _ => trivial), (pB HB.out)⟩
 ·have c4 := Bool.eq_false_iff.mpr c3
  subst c4
  clear c3
  rw [if_neg (by decide)] at h
  simp only [Option.some.injEq] at h
  subst h
  go_enter Try.func253, Try.ntmps253
  go_wp2_with (first | ((with_reducible refine gate_dst (N := 6) rfl ?_); refine Kd.R_lit (Kd.int .i64) _ 3 ?hg (N := 6) ?hd (xs := ([] : List Int)) (inner := []) (ok := fun _ => True) (okp := fun _ => True) ?hr ?hp (fun _ hk => hk) trivial (Below.refl _ _) (Nat.le_refl _) (by simp) ?_; (case hd => rfl); (case hg => rfl); (case hr => first | (go_simp; done) | (go_simp; rfl)); (case hp => exact (Reps.none _ _)); intro v9_ w2 ho3 hb hg_ hnew_; clear hg_ hnew_; have HO := aQ (Kd.R_lower ho3 (below_size (pB HB.out))); replace HB := aQ (below_step (pB HB.out) hb); clear hb ho3) | (go_at_call 279; (with_reducible refine (impl_areSets.calls k _ _ l0 false _ ?side1 ?side2 HT.out).mono ?_); (case side1 => repeat (first | exact (Kd.C_below HR.out (pB HB.out)) | (with_reducible refine Kd.C_alloc ?_ _) | (with_reducible refine Kd.C_drewN ?_ _) | (with_reducible refine Kd.C_drew ?_))); (case side2 => exact HC.out); rintro e w' ⟨rfl, ⟨nd, rfl⟩⟩))
  go_ret
  exact ⟨_, rs_, Kd.R_nil _ _ _ _ _, (pB HB.out)⟩
/-! ### impl_Circuits: function 208 (by hand) -/
def impl_Circuits.c (k : Nat) (n : Int) (l : List Int) (s : Int) : Option Bool := (impl_independent.f k n l s).bind fun t => some (!t)
theorem impl_Circuits.c_mono (n : Int) (l : List Int) (s : Int) (k : Nat) : LeO (impl_Circuits.c k n l s) (impl_Circuits.c (k + 1) n l s) := by
 unfold impl_Circuits.c
 exact LeO.bind (impl_independent.mono _ _ _ _) (fun _ => LeO.refl _)
set_option maxHeartbeats 4000000 in
set_option maxRecDepth 100000 in
theorem Circuits1_walk (k : Nat) (n : Int) (A : Option Addr) (c : Nat) (l : List Int) (s : Int) (b : Bool) (gm : Nat) (w : World)
  (hr : Kd.C (Kd.int .i64) w A l.length l) (hc : l.length ≤ c)
  (hm : w.heap[gm]? = some (.cells #[.int .i64 n, .slice A l.length c] 28 (0, 0))) (h : impl_Circuits.c k n l s = some b) :
  Calls Try.prog 254 #[.int .i64 s, .pointer (some ⟨gm, 0, none⟩)] w fun e w' => e = .returned (.bool b) ∧ Below w.heap.size w w' := by
 unfold impl_Circuits.c at h
 obtain ⟨t, hT, h⟩ := Option.bind_eq_some_iff.1 h
 simp only [Option.some.injEq] at h
 subst h
 have hu := Try.underlying28
 have hcm0 : w.cell? ⟨gm, 0, none⟩ = some (.int .i64 n) := (blk_cell hm 0).trans rfl
 have hcm1 : w.cell? ⟨gm, 1, none⟩ = some (.slice A l.length c) := (blk_cell hm 1).trans rfl
 have HT := Lib.hid hT
 have HR := Lib.hid hr
 have HC := Lib.hid hc
 clear hm hr hc hT
 go_enter Try.func254, Try.ntmps254
 go_wp2_with (first | (go_at_call 141; (with_reducible refine (impl_independent.calls k n _ _ l s t _ ?side1 ?side2 HT.out).mono ?_); (case side1 => exact HR.out); (case side2 => exact HC.out); rintro e w1_ ⟨rfl, hb⟩; have HB := aQ hb; clear hb))
 go_ret
 exact ⟨rs_, HB.out⟩
def impl_Circuits.f (k : Nat) (a0_0 : Int) (l0_1 : List Int) : Option (List Int) := (impl_IsMatroid.f k a0_0 l0_1).bind fun t => if t = true then (((impl_FullSet.f a0_0).bind fun m => if 0 ≤ m ∧ m ≤ 1000 then setsO (fun s => impl_Circuits.c k a0_0 l0_1 s) m else none).bind fun y => impl_MinimalSets.f k y) else some []
theorem impl_Circuits.mono : ∀ a0 a1 k, LeO (impl_Circuits.f k a0 a1) (impl_Circuits.f (k + 1) a0 a1) := by
 intro a0 a1 k
 unfold impl_Circuits.f
 exact LeO.bind (impl_IsMatroid.mono _ _ _) (fun t => LeO.ite (LeO.bind (LeO.bind (LeO.refl _) (fun m => LeO.ite (LeO_setsO (fun s => impl_Circuits.c_mono a0 a1 s k) m) (LeO.none _))) (fun y => impl_MinimalSets.mono y k)) (LeO.refl _))
set_option maxHeartbeats 4000000 in
set_option maxRecDepth 100000 in
theorem impl_Circuits.calls (k : Nat) (a0_0 : Int) (A0_1 : Option Addr) (c0_1 : Nat) (l0_1 : List Int) (r : List Int) (w : World) (hr0_1 : Kd.C (Kd.int .i64) w A0_1 l0_1.length l0_1) (hc0_1 : l0_1.length ≤ c0_1) (h : impl_Circuits.f k a0_0 l0_1 = some r) :
  Calls Try.prog 208 #[.agg #[.int .i64 a0_0, .slice A0_1 l0_1.length c0_1]] w fun e w' => ∃ v0_ : Value, e = .returned (v0_) ∧ Kd.R (Kd.int .i64) 3 w' w.heap.size (fun _ => True) v0_ r ∧ Below w.heap.size w w' := by
 have hu := Try.underlying28
 have HR := aQ hr0_1
 have HC := aQ hc0_1
 have HB := aQ (Below.refl w.heap.size w)
 clear hr0_1 hc0_1
 have EG := aQ (show ∀ args w, (callFunc 254 args).run Try.prog w = .ok (.enter 254 args) w from runs_of Try.func254 (by kernel_rfl) rfl)
 unfold impl_Circuits.f at h
 obtain ⟨t, hT, h⟩ := Option.bind_eq_some_iff.1 h
 have HT := aQ hT
 clear hT
 by_cases c3 : t = true
 ·subst c3
  rw [if_pos rfl] at h
  obtain ⟨y, h, hy⟩ := Option.bind_eq_some_iff.1 h
  have HY := aQ hy
  clear hy
  obtain ⟨m, hF, h⟩ := Option.bind_eq_some_iff.1 h
  by_cases hm : 0 ≤ m ∧ m ≤ 1000
  ·rw [if_pos hm] at h
   have HF := aQ hF
   have HM := aQ hm
   have HS := Lib.hid h
   clear hF hm h
   go_enter Try.func208, Try.ntmps208
   go_wp2_with (first | ((with_reducible refine gate_dst (N := 1) rfl ?_); refine box_event ?hg (N := 1) ?hd (cs := #[.int .i64 a0_0, .slice A0_1 l0_1.length c0_1]) (t := 28) ?hr ?_; (case hd => rfl); (case hg => rfl); (case hr => first | (go_simp; done) | (go_simp; rfl)); intro gm hg w1_ hbox hb; have n_HB := aQ (below_step (pB HB.out) hb); have n_GBM := aQ ((by rw [hg]; exact below_size (pB HB.out)) : w.heap.size ≤ gm); clear HB; have HB := n_HB; have GBM := n_GBM; have BM := aQ hbox; clear n_HB n_GBM; clear hb hbox hg; have zBM0 : w1_.cell? ⟨gm, 0, none⟩ = some (.int .i64 a0_0) := (blk_cell BM.out 0).trans rfl; have zBM1 : w1_.cell? ⟨gm, 1, none⟩ = some (.slice A0_1 l0_1.length c0_1) := (blk_cell BM.out 1).trans rfl) | (go_at_call 132; (with_reducible refine (impl_IsMatroid.calls k a0_0 _ _ l0_1 true _ ?side1 ?side2 HT.out).mono ?_); (case side1 => repeat (first | exact HR.out | exact (Kd.C_below HR.out HB.out) | (with_reducible refine Kd.C_alloc ?_ _) | (with_reducible refine Kd.C_drewN ?_ _) | (with_reducible refine Kd.C_drew ?_))); (case side2 => exact HC.out); rintro e w9_ ⟨rfl, hb⟩; have n_BM := aQ (blk_below (g := gm) (o := .cells #[.int .i64 a0_0, .slice A0_1 l0_1.length c0_1] 28 (0, 0)) (pk BM.out) hb); have n_HB := aQ (below_step (pB HB.out) hb); clear HB; clear BM; have BM := n_BM; clear n_BM; have HB := n_HB; clear n_HB hb; have zBM0 : w9_.cell? ⟨gm, 0, none⟩ = some (.int .i64 a0_0) := (blk_cell BM.out 0).trans rfl; have zBM1 : w9_.cell? ⟨gm, 1, none⟩ = some (.slice A0_1 l0_1.length c0_1) := (blk_cell BM.out 1).trans rfl))
   refine (setsOf_walk (fun s => impl_Circuits.c k a0_0 l0_1 s) 254 _ EG.out a0_0 m y _ HF.out HM.out.1 HM.out.2 HS.out (fun W x b hb hg => calls_of_args (by simp) (Circuits1_walk k a0_0 A0_1 c0_1 l0_1 x b gm W (Kd.C_below (Kd.C_below HR.out HB.out) hb) HC.out (blk_below BM.out hb) hg))).mono ?_
   rintro e w9_ ⟨v_, rfl, ho_, hb⟩
   have HO := aQ (Kd.R_lower ho_ (below_size (pB HB.out)))
   have n_HB := aQ (below_step (pB HB.out) hb)
   clear HB ho_ hb
   have HB := n_HB
   clear n_HB
   obtain ⟨AO, cO, eO⟩ := Kd.R_slice HO.out
   subst eO
   go_wp2_with (first | (go_at_call 253; (with_reducible refine (impl_MinimalSets.calls k _ _ y r _ ?side1 ?side2 HY.out).mono ?_); (case side1 => repeat (first | exact (Kd.R_reads' HO.out).2.2 | (with_reducible refine Kd.C_alloc ?_ _) | (with_reducible refine Kd.C_drewN ?_ _) | (with_reducible refine Kd.C_drew ?_))); (case side2 => exact (Kd.R_reads' HO.out).2.1); rintro e w8_ ⟨v_, rfl, ho_, hb⟩; replace HO := aQ (Kd.R_lower ho_ (below_size (pB HB.out))); replace HB := aQ (below_step (pB HB.out) hb); clear ho_ hb; obtain ⟨AP, cP, eP⟩ := Kd.R_slice HO.out; subst eP))
   go_ret
   exact ⟨_, rs_, by (with_reducible repeat (first | apply Kd.R_alloc | apply Kd.R_drewN | apply Kd.R_drew)); exact HO.out, (pB HB.out)⟩
  ·rw [if_neg hm] at h; cases h
 ·have c4 := Bool.eq_false_iff.mpr c3
  subst c4
  clear c3
  rw [if_neg (by decide)] at h
  simp only [Option.some.injEq] at h
  subst h
  go_enter Try.func208, Try.ntmps208
  go_wp2_with (first | ((with_reducible refine gate_dst (N := 1) rfl ?_); refine box_event ?hg (N := 1) ?hd (cs := #[.int .i64 a0_0, .slice A0_1 l0_1.length c0_1]) (t := 28) ?hr ?_; (case hd => rfl); (case hg => rfl); (case hr => first | (go_simp; done) | (go_simp; rfl)); intro gm hg w1_ hbox hb; have n_HB := aQ (below_step (pB HB.out) hb); have n_GBM := aQ ((by rw [hg]; exact below_size (pB HB.out)) : w.heap.size ≤ gm); clear HB; have HB := n_HB; have GBM := n_GBM; have BM := aQ hbox; clear n_HB n_GBM; clear hb hbox hg; have zBM0 : w1_.cell? ⟨gm, 0, none⟩ = some (.int .i64 a0_0) := (blk_cell BM.out 0).trans rfl; have zBM1 : w1_.cell? ⟨gm, 1, none⟩ = some (.slice A0_1 l0_1.length c0_1) := (blk_cell BM.out 1).trans rfl) | (go_at_call 132; (with_reducible refine (impl_IsMatroid.calls k a0_0 _ _ l0_1 false _ ?side1 ?side2 HT.out).mono ?_); (case side1 => repeat (first | exact HR.out | exact (Kd.C_below HR.out HB.out) | (with_reducible refine Kd.C_alloc ?_ _) | (with_reducible refine Kd.C_drewN ?_ _) | (with_reducible refine Kd.C_drew ?_))); (case side2 => exact HC.out); rintro e w9_ ⟨rfl, hb⟩; have n_BM := aQ (blk_below (g := gm) (o := .cells #[.int .i64 a0_0, .slice A0_1 l0_1.length c0_1] 28 (0, 0)) (pk BM.out) hb); have n_HB := aQ (below_step (pB HB.out) hb); clear HB; clear BM; have BM := n_BM; clear n_BM; have HB := n_HB; clear n_HB hb; have zBM0 : w9_.cell? ⟨gm, 0, none⟩ = some (.int .i64 a0_0) := (blk_cell BM.out 0).trans rfl; have zBM1 : w9_.cell? ⟨gm, 1, none⟩ = some (.slice A0_1 l0_1.length c0_1) := (blk_cell BM.out 1).trans rfl))
  go_ret
  exact ⟨_, rs_, Kd.R_nil _ _ _ _ _, (pB HB.out)⟩
end Go.Proofs.Ytinoamehdhgpgaa.A
namespace Go.Proofs.Ytinoamehdhgpgaa.A
open Go.RowKit Go.Proofs.YtinoamehdhgpgaaW.PrintWords Go.Proofs.YtinoamehdhgpgaaW.PrintLast Go.Proofs.YtinoamehdhgpgaaW.PrintMore
attribute [local go_sem] max2_int min2_int max_two min_two max_three min_three max_four min_four   -- for this text's walks alone
set_option linter.unusedVariables false
set_option linter.unusedSimpArgs false

/-! ### spec_FlatsOfRank: function 256 -/
def spec_FlatsOfRank.l0 : Nat → Int → List Int → List Int → Int → Int → List Int → Option (List Int)
 | 0, _, _, _, _, _, _ => none
 | k + 1, x1, x5, x6, x7, x257002000, x257002001 => if x7 < (x6.length : Int) then (if 0 ≤ x7 then ((spec_l5Rank.f k x257002000 x257002001 (rd x6 x7)).bind fun t257009 => (if t257009 = x1 then (if x5.length < 17592186044416 then (spec_FlatsOfRank.l0 k x1 (x5 ++ [rd x6 x7]) x6 (wrap64 (x7 + 1)) x257002000 x257002001) else (none)) else (spec_FlatsOfRank.l0 k x1 x5 x6 (wrap64 (x7 + 1)) x257002000 x257002001))) else (none)) else (some x5)
def spec_FlatsOfRank.f (k : Nat) (a0_0 : Int) (l0_1 : List Int) (a1 : Int) : Option (List Int) := (spec_Flats.f k a0_0 l0_1).bind fun t257005 => (spec_FlatsOfRank.l0 k a1 (([] : List Int)) t257005 0 a0_0 l0_1)
theorem spec_FlatsOfRank.mono_l : ∀ k, (∀ y0 y1 y2 y3 y4 y5, LeO (spec_FlatsOfRank.l0 k y0 y1 y2 y3 y4 y5) (spec_FlatsOfRank.l0 (k + 1) y0 y1 y2 y3 y4 y5))
 | 0 => fun _ _ _ _ _ _ r h => by simp [spec_FlatsOfRank.l0] at h
 | k + 1 => by
  have ih0 := spec_FlatsOfRank.mono_l k
  ·intro y0 y1 y2 y3 y4 y5
   unfold spec_FlatsOfRank.l0
   repeat' first
   | (with_reducible exact ih0 _ _ _ _ _ _)
   | (with_reducible exact spec_Flats.mono _ _ _)
   | (with_reducible exact spec_l5Rank.mono _ _ _ _)
   | (with_reducible exact LeO.refl _)
   | (with_reducible exact LeO.none _)
   | (with_reducible refine LeO.ite ?_ ?_)
   | (with_reducible refine LeO.bind ?_ (fun _ => ?_))
   | exact ih0 _ _ _ _ _ _
   | exact spec_Flats.mono _ _ _
   | exact spec_l5Rank.mono _ _ _ _
   | exact LeO.none _
   | refine LeO.ite ?_ ?_
   | refine LeO.bind ?_ (fun _ => ?_)
theorem spec_FlatsOfRank.mono : ∀ a0 a1 a2 k, LeO (spec_FlatsOfRank.f k a0 a1 a2) (spec_FlatsOfRank.f (k + 1) a0 a1 a2) := by
 intro a0 a1 a2 k
 have ih0 := spec_FlatsOfRank.mono_l k
 unfold spec_FlatsOfRank.f
 repeat' first
   | (with_reducible exact ih0 _ _ _ _ _ _)
   | (with_reducible exact spec_Flats.mono _ _ _)
   | (with_reducible exact spec_l5Rank.mono _ _ _ _)
   | (with_reducible exact LeO.refl _)
   | (with_reducible exact LeO.none _)
   | (with_reducible refine LeO.ite ?_ ?_)
   | (with_reducible refine LeO.bind ?_ (fun _ => ?_))
   | exact ih0 _ _ _ _ _ _
   | exact spec_Flats.mono _ _ _
   | exact spec_l5Rank.mono _ _ _ _
   | exact LeO.none _
   | refine LeO.ite ?_ ?_
   | refine LeO.bind ?_ (fun _ => ?_)
def spec_FlatsOfRank.T6 : Bool × List (List Nat × List Nat) := (true, [([], []), ([], []), ([], []), ([1, 2], [1, 2]), ([3], [3]), ([0, 4], [0, 4]), ([], []), ([5, 6], [5, 6])])
def spec_FlatsOfRank.B6 : List Nat := [0, 0, 0, 6, 14, 31, 0, 127]
theorem spec_FlatsOfRank.tab6 : rtab .any (opsOf Try.f256 6) = spec_FlatsOfRank.T6 := by kernel_rfl
theorem spec_FlatsOfRank.bits6 : waitsOk spec_FlatsOfRank.T6.2 spec_FlatsOfRank.B6 = true := by kernel_rfl
set_option maxHeartbeats 8000000 in
set_option maxRecDepth 100000 in
theorem spec_FlatsOfRank.calls (k : Nat) (a0_0 : Int) (A0_1 : Option Addr) (c0_1 : Nat) (l0_1 : List Int) (a1 : Int) (r : List Int) (w : World) (hr0_1 : Kd.C (Kd.int .i64) w A0_1 l0_1.length l0_1) (hc0_1 : l0_1.length ≤ c0_1) (h : spec_FlatsOfRank.f k a0_0 l0_1 a1 = some r) :
  Calls Try.prog 256 #[.agg #[.int .i64 a0_0, .slice A0_1 l0_1.length c0_1], .int .i64 a1] w fun e w' => ∃ v0_ : Value, e = .returned (v0_) ∧ Kd.R (Kd.int .i64) 3 w' w.heap.size (fun _ => True) v0_ r ∧ Below w.heap.size w w' := by
 have hu28 := Try.underlying28
 have HR0_1 := aQ hr0_1
 have HC0_1 := aQ hc0_1
 clear hr0_1 hc0_1
 have HB := aQ (Below.refl w.heap.size w)
 have H : ((spec_Flats.f k a0_0 l0_1).bind fun t257005 => (spec_FlatsOfRank.l0 k a1 (([] : List Int)) t257005 0 a0_0 l0_1)) = some r := h
 clear h
 obtain ⟨y257002, hy257002⟩ : ∃ y_ : List Int, y_ = (([] : List Int)) := ⟨_, rfl⟩
 replace H : ((spec_Flats.f k a0_0 l0_1).bind fun t257005 => (spec_FlatsOfRank.l0 k a1 y257002 t257005 0 a0_0 l0_1)) = some r := by first | (rw [hy257002]; with_reducible exact H) | (have H2_ := (Option.bind_some _ _).symm.trans H; rw [hy257002]; with_reducible exact H2_) | (have H2_ := (Option.bind_some _ _).symm.trans H; with_reducible exact H2_) | with_reducible exact H | (rw [hy257002]; exact H) | exact H
 have Ny257002 := aQ hy257002
 clear hy257002
 replace H := Option.bind_eq_some_iff.mp H
 obtain ⟨t257005, A30, H⟩ := H
 replace H : (spec_FlatsOfRank.l0 k a1 y257002 t257005 0 a0_0 l0_1) = some r := H
 have A3 := aQ A30
 clear A30
 have H' := aQ H
 clear H
 go_enter Try.func256, Try.ntmps256
 go_wp2_with (first | ((with_reducible refine gate_dst (N := 2) rfl ?_); refine box_event ?hg (N := 2) ?hd (cs := #[.int .i64 a0_0, .slice A0_1 l0_1.length c0_1]) (t := 28) ?hr ?_; (case hd => rfl); (case hg => rfl); (case hr => first | (go_simp; done) | (go_simp; rfl)); intro gb257001 hg w4 hbox hb; have BK257001 := aQ (hbox); have GW257001 := aQ ((by rw [hg]; exact (below_size (pB HB.out)) : w.heap.size ≤ gb257001)); have GE257001 := aQ ((by rw [hg]; exact (below_size (pB HB.out)) : w.heap.size ≤ gb257001)); replace HB := aQ (below_step (pB HB.out) hb); clear hb hbox hg) | ((with_reducible refine gate_dst (N := 8) rfl ?_); refine Kd.R_lit (Kd.int .i64) _ 3 ?hg (N := 8) ?hd (xs := ([] : List Int)) (inner := []) (ok := fun _ => True) (okp := fun _ => True) ?hr ?hp (fun _ hk => hk) trivial (Below.refl _ _) (Nat.le_refl _) (by simp) ?_; (case hd => rfl); (case hg => rfl); (case hr => first | (go_simp; done) | (go_simp; rfl)); (case hp => exact (Reps.none _ _)); intro v257003 w5 ho6 hb hg_ hnew_; clear hg_ hnew_; (first | rw [← Ny257002.out] at ho6 | (simp only [Int.reduceToNat] at ho6; rw [← Ny257002.out] at ho6)); have HO257004 := aQ (Kd.R_lower ho6 (below_size (pB1 HB.out GE257001.out))); replace BK257001 := aQ (blk_below (g := gb257001) (o := .cells #[.int .i64 a0_0, .slice A0_1 l0_1.length c0_1] 28 (0, 0)) (pk BK257001.out) hb); replace HB := aQ (below_step (pB1 HB.out GE257001.out) hb); clear hb ho6; have hcz7_0 := bc (v := (.int .i64 a0_0)) BK257001.out 0; have hcz7_1 := bc (v := (.slice A0_1 l0_1.length c0_1)) BK257001.out 1; have hfz7_0 := blk_frozen BK257001.out 0; have hfz7_1 := blk_frozen BK257001.out 1) | ((with_reducible refine gate_callee (f := 152) rfl ?_); refine goesL_ (some 10) rfl rfl Try.func152 (by kernel_rfl) rfl #[.agg #[.int .i64 a0_0, .slice A0_1 l0_1.length c0_1]] rfl lm ?_; (with_reducible refine (spec_Flats.calls k a0_0 _ _ l0_1 t257005 _ ?side1 ?side2 A3.out).mono ?_); (case side1 => exact pC (Kd.C_below HR0_1.out HB.out)); (case side2 => exact HC0_1.out); rintro e w8 ⟨v257006, rfl, ho0, hb⟩; refine ⟨_, rfl, ?_⟩; have HO257007 := aQ (Kd.R_lower (Kd.R_new' ho0 (Kd.R_lt (pR HO257004.out))) (below_size (pB1 HB.out GE257001.out))); replace HO257004 := aQ (Kd.R_elder' (pR HO257004.out) (Kd.R_base ho0) hb); replace BK257001 := aQ (blk_below (g := gb257001) (o := .cells #[.int .i64 a0_0, .slice A0_1 l0_1.length c0_1] 28 (0, 0)) (pk BK257001.out) hb); replace HB := aQ (below_step (pB1 HB.out GE257001.out) hb); (try clear hb); (try clear ho0)))
 go_loopg [5, 7] k (fun kq v5 v7 w' => ∃ (x5_1 : List Int) (x7_1 : Int), v7 = .int .i64 x7_1 ∧ Aside0 (spec_FlatsOfRank.l0 kq a1 x5_1 t257005 x7_1 a0_0 l0_1 = some r) ∧ Aside0 (kq ≤ k) ∧ Aside0 (Kd.R (Kd.int .i64) 3 w' w.heap.size (fun k_ => some k_ ≠ (v257006 : Value).ownBlock) v5 x5_1) ∧ Aside0 (Kd.R (Kd.int .i64) 3 w' w.heap.size (fun k_ => some k_ ≠ (v5 : Value).ownBlock) v257006 t257005) ∧ Aside0 (w'.heap[gb257001]? = some (.cells #[.int .i64 a0_0, (.slice A0_1 l0_1.length c0_1)] 28 (0, 0))) ∧ Aside0 (Below w.heap.size w w'))
 case atStart => exact ⟨(y257002), (0), rs_, H', ⟨Nat.le_refl _⟩, ⟨by (with_reducible repeat (first | apply Kd.R_alloc | apply Kd.R_drewN | apply Kd.R_drew)); exact Kd.R_mono HO257004.out (fun _ hk => hk.2)⟩, ⟨by (with_reducible repeat (first | apply Kd.R_alloc | apply Kd.R_drewN | apply Kd.R_drew)); exact Kd.R_mono HO257007.out (fun _ hk => hk.2)⟩, ⟨pk BK257001.out⟩, ⟨pB1 HB.out GE257001.out⟩⟩
 case round =>
  clear H'
  try clear c1
  try clear c2
  try clear p2
  try clear hcz7_0
  try clear hcz7_1
  try clear hfz7_0
  try clear hfz7_1
  obtain ⟨x5_1, x7_1, rfl, HA, HK1, HO_5, HO_6, BK257001, HB⟩ := hrel
  cases gk with
  | zero => exact absurd HA.out (by simp [spec_FlatsOfRank.l0])
  | succ k1 =>
   have H := HA.out
   clear HA
   simp only [spec_FlatsOfRank.l0] at H
   by_cases c9 : x7_1 < (t257005.length : Int)
   ·rw [if_pos c9] at H
    have c9b0 : decide (x7_1 < (t257005.length : Int)) = true := decide_eq_true c9
    clear c9
    by_cases c10 : 0 ≤ x7_1
    ·rw [if_pos c10] at H
     have c10b0 : decide (0 ≤ x7_1) = true := decide_eq_true c10
     clear c10
     replace H := Option.bind_eq_some_iff.mp H
     obtain ⟨t257009, A110, H⟩ := H
     replace H : (if t257009 = a1 then (if x5_1.length < 17592186044416 then (spec_FlatsOfRank.l0 k1 a1 (x5_1 ++ [rd t257005 x7_1]) t257005 (wrap64 (x7_1 + 1)) a0_0 l0_1) else (none)) else (spec_FlatsOfRank.l0 k1 a1 x5_1 t257005 (wrap64 (x7_1 + 1)) a0_0 l0_1)) = some r := H
     have A11 := aQ A110
     clear A110
     by_cases c12 : t257009 = a1
     ·rw [if_pos c12] at H
      have c12b0 : (t257009 == a1) = true := beq_iff_eq.mpr c12
      have c12b1 : (t257009 != a1) = false := bne_eq_false_iff_eq.mpr c12
      clear c12
      by_cases c13 : x5_1.length < 17592186044416
      ·rw [if_pos c13] at H
       have LMc13 := aQ c13
       clear c13
       obtain ⟨y257011, hy257011⟩ : ∃ y_ : List Int, y_ = (x5_1 ++ [rd t257005 x7_1]) := ⟨_, rfl⟩
       replace H : (spec_FlatsOfRank.l0 k1 a1 y257011 t257005 (wrap64 (x7_1 + 1)) a0_0 l0_1) = some r := by first | (rw [hy257011]; with_reducible exact H) | (have H2_ := (Option.bind_some _ _).symm.trans H; rw [hy257011]; with_reducible exact H2_) | (have H2_ := (Option.bind_some _ _).symm.trans H; with_reducible exact H2_) | with_reducible exact H | (rw [hy257011]; exact H) | exact H
       have Ny257011 := aQ hy257011
       clear hy257011
       have H' := aQ H
       clear H
       obtain ⟨Ao14, co14, eo14⟩ := Kd.R_slice HO_6.out
       subst eo14
       try go_wp2
       have n0_ := aQ (Kd.R_drew HO_5.out)
       have n1_ := aQ (Kd.R_drew HO_6.out)
       have n2_ := aQ (blk_drew BK257001.out)
       have n3_ := aQ (below_drew1 HB.out)
       clear HO_5
       clear HO_6
       clear BK257001
       clear HB
       have HO_5 := n0_
       have HO_6 := n1_
       have BK257001 := n2_
       have HB := n3_
       clear n0_ n1_ n2_ n3_
       have p257008 : 0 ≤ (x7_1 : Int) := of_decide_eq_true as_
       have q257008 : x7_1 < (t257005.length : Int) := of_decide_eq_true as_
       obtain ⟨ad257008, e257008, hx257008_0⟩ := Kd.at_int (Kd.R_reads' HO_6.out).2.2 x7_1 p257008 q257008
       cases e257008
       replace p257008 := eq_true p257008
       replace q257008 := eq_true q257008
       refine start_ (n := 8) (S := fun w' => w'.cell? ⟨gb257001, 0, none⟩ = some (.int .i64 a0_0) ∧ w'.cell? ⟨gb257001, 1, none⟩ = some (.slice A0_1 l0_1.length c0_1) ∧ w'.cell? (ad257008.add (x7_1).toNat) = some (.int .i64 (rd t257005 x7_1))) (ds := []) #[false, false, false, false, false, false, false, false] (by kernel_rfl) rfl rfl ⟨(blk_cell BK257001.out 0).trans rfl, (blk_cell BK257001.out 1).trans rfl, hx257008_0⟩ (fun hHeld => ?_); refine with_tabW spec_FlatsOfRank.tab6 spec_FlatsOfRank.bits6 (fun HT_ HW_ => ?_)
       generalize wr.drew = w15 at HO_5 HO_6 BK257001 HB hx257008_0 hHeld ⊢
       refine pure_ (i := 1) (N := some 18) (v := ?_) (a' := ?_) #[false, true, false, false, false, false, false, false] rfl rfl (any_of HT_.out (by kernel_rfl)) (fun _ _ _ h => h) (Or.inl ⟨by rfl, ?_⟩) ?_ ?_
       rotate_left
       ·intro w'
        go_simp
        with_reducible rfl
       rotate_left
       ·simp only [Act.put, List.setIfInBounds_toArray, List.set_cons_zero, List.set_cons_succ, i64_w, i32_w]
        rfl
       refine pure_ (i := 2) (N := some 19) (v := ?_) (a' := ?_) #[false, true, true, false, false, false, false, false] rfl rfl (any_of HT_.out (by kernel_rfl)) (fun _ _ _ h => h) (Or.inl ⟨by rfl, ?_⟩) ?_ ?_
       rotate_left
       ·intro w'
        go_simp
        with_reducible rfl
       rotate_left
       ·simp only [Act.put, List.setIfInBounds_toArray, List.set_cons_zero, List.set_cons_succ, i64_w, i32_w]
        rfl
       refine pure_ (i := 3) (N := some 20) (v := ?_) (a' := ?_) #[false, true, true, true, false, false, false, false] rfl rfl (any_of HT_.out (by kernel_rfl)) (fun _ _ _ h => h) (Or.inl ⟨by rfl, ?_⟩) ?_ ?_
       rotate_left
       ·intro w'
        go_simp
        with_reducible rfl
       rotate_left
       ·simp only [Act.put, List.setIfInBounds_toArray, List.set_cons_zero, List.set_cons_succ, i64_w, i32_w]
        rfl
       refine pure_ (i := 6) (N := some 23) (v := ?_) (a' := ?_) #[false, true, true, true, false, false, true, false] rfl rfl (any_of HT_.out (by kernel_rfl)) (fun _ _ _ h => h) (Or.inl ⟨by rfl, ?_⟩) ?_ ?_
       rotate_left
       ·intro w'
        go_simp
        with_reducible rfl
       rotate_left
       ·simp only [Act.put, List.setIfInBounds_toArray, List.set_cons_zero, List.set_cons_succ, i64_w, i32_w]
        rfl
       refine take_ (i := 0) (N := some 17) (v := ?_) (a' := ?_) #[true, true, true, true, false, false, true, false] rfl rfl (take_ofW HT_.out HW_.out (by kernel_rfl)) (fun _ _ _ h => h) (Or.inl ⟨by rfl, ?_⟩) hHeld ?_ ?_
       rotate_left
       ·rintro w' ⟨s0, s1, s2⟩
        go_simp
        with_reducible rfl
       rotate_left
       ·simp only [Act.put, List.setIfInBounds_toArray, List.set_cons_zero, List.set_cons_succ, i64_w, i32_w]
        rfl
       refine take_ (i := 4) (N := some 21) (v := ?_) (a' := ?_) #[true, true, true, true, true, false, true, false] rfl rfl (take_ofW HT_.out HW_.out (by kernel_rfl)) (fun _ _ _ h => h) (Or.inl ⟨by rfl, ?_⟩) hHeld ?_ ?_
       rotate_left
       ·rintro w' ⟨s0, s1, s2⟩
        go_simp
        with_reducible rfl
       rotate_left
       ·simp only [Act.put, List.setIfInBounds_toArray, List.set_cons_zero, List.set_cons_succ, i64_w, i32_w]
        rfl
       refine one_ (i := 5) (N := some 22) #[true, true, true, true, true, true, true, false] rfl rfl (one_of HT_.out (by kernel_rfl)) (by decide) (fun K hK => ?_)
       refine goes_ Try.func121 (by kernel_rfl) rfl #[.agg #[.int .i64 a0_0, .slice A0_1 l0_1.length c0_1], .int .i64 (rd t257005 x7_1)] (by rfl) rfl rfl lm ?_
       with_reducible refine (spec_l5Rank.calls k1 a0_0 _ _ l0_1 (rd t257005 x7_1) t257009 _ ?side1 ?side2 A11.out).mono ?_
       (case side1 => exact pC (Kd.C_below HR0_1.out HB.out))
       (case side2 => exact HC0_1.out)
       rintro e w16 ⟨rfl, hb⟩
       have HS2_ := (hb.cell (World.block_lt_of_cell? _ _ (hHeld.2.2))).trans (hHeld.2.2)
       refine ⟨_, rfl, ?_⟩
       have n0_ := aQ (Kd.R_below (pR HO_5.out) hb)
       have n1_ := aQ (Kd.R_below (pR HO_6.out) hb)
       have n2_ := aQ (blk_below (g := gb257001) (o := .cells #[.int .i64 a0_0, .slice A0_1 l0_1.length c0_1] 28 (0, 0)) (pk BK257001.out) hb)
       have n3_ := aQ (below_step (pB1 HB.out GE257001.out) hb)
       clear HO_5
       clear HO_6
       clear BK257001
       clear HB
       have HO_5 := n0_
       have HO_6 := n1_
       have BK257001 := n2_
       have HB := n3_
       clear n0_ n1_ n2_ n3_
       (try clear hb)
       (try clear hb2)
       (try clear hk)
       (try clear hi)
       refine hK.out _ _ ⟨(blk_cell BK257001.out 0).trans rfl, (blk_cell BK257001.out 1).trans rfl, HS2_⟩ (fun hHeld => ?_)
       clear hK K
       refine norm_ (a' := ?_) ?_ ?_
       rotate_left
       ·show Act.put _ (some 22) _ = _
        simp only [Act.put, List.setIfInBounds_toArray, List.set_cons_zero, List.set_cons_succ, i64_w, i32_w]
        rfl
       refine pure_ (i := 7) (N := some 24) (v := ?_) (a' := ?_) #[true, true, true, true, true, true, true, true] rfl rfl (any_of HT_.out (by kernel_rfl)) (fun _ _ _ h => h) (Or.inl ⟨by rfl, ?_⟩) ?_ ?_
       rotate_left
       ·intro w'
        go_simp
        with_reducible rfl
       rotate_left
       ·simp only [Act.put, List.setIfInBounds_toArray, List.set_cons_zero, List.set_cons_succ, i64_w, i32_w]
        rfl
       refine done_ (done_of HT_.out (by kernel_rfl)) ?_
       have p257010 : 0 ≤ (x7_1 : Int) := of_decide_eq_true as_
       have q257010 : x7_1 < (t257005.length : Int) := of_decide_eq_true as_
       obtain ⟨ad257010, e257010, hx257010_0⟩ := Kd.at_int (Kd.R_reads' HO_6.out).2.2 x7_1 p257010 q257010
       obtain rfl : ad257008 = ad257010 := (by injection e257010)
       replace p257010 := eq_true p257010
       replace q257010 := eq_true q257010
       try go_wp2_with (first | ((with_reducible refine gate_builtin (b := .append) (xs := #[.tmp 25, .tmp 30]) rfl ?_); at_builtin; refine Kd.R_append (Kd.int .i64) (w0 := w) w.heap.size rfl (.tmp 25) (.tmp 30) 22 3 (.int .i64 0) 8 rfl Try.underlying22 info3 rfl (by decide) (by omega) u5 x5_1 (rd t257005 x7_1) [.int .i64 (rd t257005 x7_1)] (fun k_ => some k_ ≠ (.slice (some ad257008) t257005.length co14 : Value).ownBlock) (fun _ => False) rfl rfl ?aP (fun _ hk => hk.elim) ?aF ?aO ?aB ?aS ?aL ?_; (case aP => exact rfl); (case aB => exact (pB1 HB.out GE257001.out)); (case aF => exact (fun k_ hk => Kd.fresh' (Kd.R_lt (pR HO_6.out)) k_ hk)); (case aO => exact (pR HO_5.out)); (case aS => exact (below_size (pB1 HB.out GE257001.out))); (case aL => have := LMc13.out; omega); intro v257012 w17 ho hb hg hat; rw [← Ny257011.out] at ho; replace HO_6 := aQ (Kd.R_after (ok := (fun _ => True)) (by (with_reducible repeat (first | apply Kd.R_alloc | apply Kd.R_drewN | apply Kd.R_drew)); exact Kd.R_mono HO_6.out (fun _ hk => ⟨trivial, hk⟩)) hg hat); replace BK257001 := aQ (blk_grown (g := gb257001) (o := .cells #[.int .i64 a0_0, .slice A0_1 l0_1.length c0_1] 28 (0, 0)) (pk BK257001.out) hg (Kd.R_ne HO_5.out BK257001.out (by decide))); replace HB := aQ (hb); have HO257013 := aQ (ho); clear HO_5; clear ho hb hg hat))
       go_roundg k1
       case measure => have := HK1.out; omega
       case rel => exact ⟨(y257011), (wrap64 (x7_1 + 1)), rs_, H', ⟨by have := HK1.out; omega⟩, ⟨pR HO257013.out⟩, ⟨by (with_reducible repeat (first | apply Kd.R_alloc | apply Kd.R_drewN | apply Kd.R_drew)); exact Kd.R_mono HO_6.out (fun _ hk => hk.2)⟩, ⟨pk BK257001.out⟩, ⟨pB1 HB.out GE257001.out⟩⟩
      ·rw [if_neg c13] at H
       exact absurd H (by simp)
     ·rw [if_neg c12] at H
      have c12b0 : (t257009 == a1) = false := beq_eq_false_iff_ne.mpr c12
      have c12b1 : (t257009 != a1) = true := bne_iff_ne.mpr c12
      have H' := aQ H
      clear H
      obtain ⟨Ao18, co18, eo18⟩ := Kd.R_slice HO_6.out
      subst eo18
      try go_wp2
      have n0_ := aQ (Kd.R_drew HO_5.out)
      have n1_ := aQ (Kd.R_drew HO_6.out)
      have n2_ := aQ (blk_drew BK257001.out)
      have n3_ := aQ (below_drew1 HB.out)
      clear HO_5
      clear HO_6
      clear BK257001
      clear HB
      have HO_5 := n0_
      have HO_6 := n1_
      have BK257001 := n2_
      have HB := n3_
      clear n0_ n1_ n2_ n3_
      have p257008 : 0 ≤ (x7_1 : Int) := of_decide_eq_true as_
      have q257008 : x7_1 < (t257005.length : Int) := of_decide_eq_true as_
      obtain ⟨ad257008, e257008, hx257008_0⟩ := Kd.at_int (Kd.R_reads' HO_6.out).2.2 x7_1 p257008 q257008
      cases e257008
      replace p257008 := eq_true p257008
      replace q257008 := eq_true q257008
      refine start_ (n := 8) (S := fun w' => w'.cell? ⟨gb257001, 0, none⟩ = some (.int .i64 a0_0) ∧ w'.cell? ⟨gb257001, 1, none⟩ = some (.slice A0_1 l0_1.length c0_1) ∧ w'.cell? (ad257008.add (x7_1).toNat) = some (.int .i64 (rd t257005 x7_1))) (ds := []) #[false, false, false, false, false, false, false, false] (by kernel_rfl) rfl rfl ⟨(blk_cell BK257001.out 0).trans rfl, (blk_cell BK257001.out 1).trans rfl, hx257008_0⟩ (fun hHeld => ?_); refine with_tabW spec_FlatsOfRank.tab6 spec_FlatsOfRank.bits6 (fun HT_ HW_ => ?_)
      generalize wr.drew = w19 at HO_5 HO_6 BK257001 HB hx257008_0 hHeld ⊢
      refine pure_ (i := 1) (N := some 18) (v := ?_) (a' := ?_) #[false, true, false, false, false, false, false, false] rfl rfl (any_of HT_.out (by kernel_rfl)) (fun _ _ _ h => h) (Or.inl ⟨by rfl, ?_⟩) ?_ ?_
      rotate_left
      ·intro w'
       go_simp
       with_reducible rfl
      rotate_left
      ·simp only [Act.put, List.setIfInBounds_toArray, List.set_cons_zero, List.set_cons_succ, i64_w, i32_w]
       rfl
      refine pure_ (i := 2) (N := some 19) (v := ?_) (a' := ?_) #[false, true, true, false, false, false, false, false] rfl rfl (any_of HT_.out (by kernel_rfl)) (fun _ _ _ h => h) (Or.inl ⟨by rfl, ?_⟩) ?_ ?_
      rotate_left
      ·intro w'
       go_simp
       with_reducible rfl
      rotate_left
      ·simp only [Act.put, List.setIfInBounds_toArray, List.set_cons_zero, List.set_cons_succ, i64_w, i32_w]
       rfl
      refine pure_ (i := 3) (N := some 20) (v := ?_) (a' := ?_) #[false, true, true, true, false, false, false, false] rfl rfl (any_of HT_.out (by kernel_rfl)) (fun _ _ _ h => h) (Or.inl ⟨by rfl, ?_⟩) ?_ ?_
      rotate_left
      ·intro w'
       go_simp
       with_reducible rfl
      rotate_left
      ·simp only [Act.put, List.setIfInBounds_toArray, List.set_cons_zero, List.set_cons_succ, i64_w, i32_w]
       rfl
      refine pure_ (i := 6) (N := some 23) (v := ?_) (a' := ?_) #[false, true, true, true, false, false, true, false] rfl rfl (any_of HT_.out (by kernel_rfl)) (fun _ _ _ h => h) (Or.inl ⟨by rfl, ?_⟩) ?_ ?_
      rotate_left
      ·intro w'
       go_simp
       with_reducible rfl
      rotate_left
      ·simp only [Act.put, List.setIfInBounds_toArray, List.set_cons_zero, List.set_cons_succ, i64_w, i32_w]
       rfl
      refine take_ (i := 0) (N := some 17) (v := ?_) (a' := ?_) #[true, true, true, true, false, false, true, false] rfl rfl (take_ofW HT_.out HW_.out (by kernel_rfl)) (fun _ _ _ h => h) (Or.inl ⟨by rfl, ?_⟩) hHeld ?_ ?_
      rotate_left
      ·rintro w' ⟨s0, s1, s2⟩
       go_simp
       with_reducible rfl
      rotate_left
      ·simp only [Act.put, List.setIfInBounds_toArray, List.set_cons_zero, List.set_cons_succ, i64_w, i32_w]
       rfl
      refine take_ (i := 4) (N := some 21) (v := ?_) (a' := ?_) #[true, true, true, true, true, false, true, false] rfl rfl (take_ofW HT_.out HW_.out (by kernel_rfl)) (fun _ _ _ h => h) (Or.inl ⟨by rfl, ?_⟩) hHeld ?_ ?_
      rotate_left
      ·rintro w' ⟨s0, s1, s2⟩
       go_simp
       with_reducible rfl
      rotate_left
      ·simp only [Act.put, List.setIfInBounds_toArray, List.set_cons_zero, List.set_cons_succ, i64_w, i32_w]
       rfl
      refine one_ (i := 5) (N := some 22) #[true, true, true, true, true, true, true, false] rfl rfl (one_of HT_.out (by kernel_rfl)) (by decide) (fun K hK => ?_)
      refine goes_ Try.func121 (by kernel_rfl) rfl #[.agg #[.int .i64 a0_0, .slice A0_1 l0_1.length c0_1], .int .i64 (rd t257005 x7_1)] (by rfl) rfl rfl lm ?_
      with_reducible refine (spec_l5Rank.calls k1 a0_0 _ _ l0_1 (rd t257005 x7_1) t257009 _ ?side1 ?side2 A11.out).mono ?_
      (case side1 => exact pC (Kd.C_below HR0_1.out HB.out))
      (case side2 => exact HC0_1.out)
      rintro e w20 ⟨rfl, hb⟩
      have HS2_ := (hb.cell (World.block_lt_of_cell? _ _ (hHeld.2.2))).trans (hHeld.2.2)
      refine ⟨_, rfl, ?_⟩
      have n0_ := aQ (Kd.R_below (pR HO_5.out) hb)
      have n1_ := aQ (Kd.R_below (pR HO_6.out) hb)
      have n2_ := aQ (blk_below (g := gb257001) (o := .cells #[.int .i64 a0_0, .slice A0_1 l0_1.length c0_1] 28 (0, 0)) (pk BK257001.out) hb)
      have n3_ := aQ (below_step (pB1 HB.out GE257001.out) hb)
      clear HO_5
      clear HO_6
      clear BK257001
      clear HB
      have HO_5 := n0_
      have HO_6 := n1_
      have BK257001 := n2_
      have HB := n3_
      clear n0_ n1_ n2_ n3_
      (try clear hb)
      (try clear hb2)
      (try clear hk)
      (try clear hi)
      refine hK.out _ _ ⟨(blk_cell BK257001.out 0).trans rfl, (blk_cell BK257001.out 1).trans rfl, HS2_⟩ (fun hHeld => ?_)
      clear hK K
      refine norm_ (a' := ?_) ?_ ?_
      rotate_left
      ·show Act.put _ (some 22) _ = _
       simp only [Act.put, List.setIfInBounds_toArray, List.set_cons_zero, List.set_cons_succ, i64_w, i32_w]
       rfl
      refine pure_ (i := 7) (N := some 24) (v := ?_) (a' := ?_) #[true, true, true, true, true, true, true, true] rfl rfl (any_of HT_.out (by kernel_rfl)) (fun _ _ _ h => h) (Or.inl ⟨by rfl, ?_⟩) ?_ ?_
      rotate_left
      ·intro w'
       go_simp
       with_reducible rfl
      rotate_left
      ·simp only [Act.put, List.setIfInBounds_toArray, List.set_cons_zero, List.set_cons_succ, i64_w, i32_w]
       rfl
      refine done_ (done_of HT_.out (by kernel_rfl)) ?_
      try go_wp2
      go_roundg k1
      case measure => have := HK1.out; omega
      case rel => exact ⟨(x5_1), (wrap64 (x7_1 + 1)), rs_, H', ⟨by have := HK1.out; omega⟩, ⟨pR HO_5.out⟩, ⟨pR HO_6.out⟩, ⟨pk BK257001.out⟩, ⟨pB1 HB.out GE257001.out⟩⟩
    ·rw [if_neg c10] at H
     exact absurd H (by simp)
   ·rw [if_neg c9] at H
    have c9b0 : decide (x7_1 < (t257005.length : Int)) = false := decide_eq_false c9
    clear c9
    obtain rfl := Option.some.inj H
    obtain ⟨Ao21, co21, eo21⟩ := Kd.R_slice HO_6.out
    subst eo21
    go_wp2
    go_ret
    exact ⟨_, by first | rfl | (simp [errW_none, errW_some] <;> rfl) | (simp [*, errW_none, errW_some] <;> rfl), by (with_reducible repeat (first | apply Kd.R_alloc | apply Kd.R_drewN | apply Kd.R_drew)); exact Kd.R_mono HO_5.out (fun _ hk => trivial), pB1 HB.out GE257001.out⟩
/-! ### spec_Hyperplanes: function 211 -/
def spec_Hyperplanes.f (k : Nat) (a0_0 : Int) (l0_1 : List Int) : Option (List Int) := (spec_IsMatroid.f k a0_0 l0_1).bind fun t212002 => (if t212002 = true then (if 0 < (l0_1.length : Int) then ((spec_CountOf.f k (rd l0_1 0)).bind fun t212004 => ((spec_FlatsOfRank.f k a0_0 l0_1 (wrap64 (t212004 - 1))).bind fun t212005 => (some t212005))) else (none)) else (some (([] : List Int))))
theorem spec_Hyperplanes.mono : ∀ a0 a1 k, LeO (spec_Hyperplanes.f k a0 a1) (spec_Hyperplanes.f (k + 1) a0 a1) := by
 intro a0 a1 k
 unfold spec_Hyperplanes.f
 repeat' first
   | (with_reducible exact spec_CountOf.mono _ _)
   | (with_reducible exact spec_FlatsOfRank.mono _ _ _ _)
   | (with_reducible exact spec_IsMatroid.mono _ _ _)
   | (with_reducible exact LeO.refl _)
   | (with_reducible exact LeO.none _)
   | (with_reducible refine LeO.ite ?_ ?_)
   | (with_reducible refine LeO.bind ?_ (fun _ => ?_))
   | exact spec_CountOf.mono _ _
   | exact spec_FlatsOfRank.mono _ _ _ _
   | exact spec_IsMatroid.mono _ _ _
   | exact LeO.none _
   | refine LeO.ite ?_ ?_
   | refine LeO.bind ?_ (fun _ => ?_)
def spec_Hyperplanes.T3 : Bool × List (List Nat × List Nat) := (true, [([], []), ([], []), ([1], [1]), ([2], [2]), ([3], [3]), ([4], [4]), ([5], [5]), ([0, 6, 5], [0, 6]), ([7, 7, 0, 1, 2, 3, 4, 5, 6, 7], [7])])
def spec_Hyperplanes.B3 : List Nat := [0, 0, 2, 6, 14, 30, 62, 127, 255]
theorem spec_Hyperplanes.tab3 : rtab .any (opsOf Try.f211 3) = spec_Hyperplanes.T3 := by kernel_rfl
theorem spec_Hyperplanes.bits3 : waitsOk spec_Hyperplanes.T3.2 spec_Hyperplanes.B3 = true := by kernel_rfl
set_option maxHeartbeats 8000000 in
set_option maxRecDepth 100000 in
theorem spec_Hyperplanes.calls (k : Nat) (a0_0 : Int) (A0_1 : Option Addr) (c0_1 : Nat) (l0_1 : List Int) (r : List Int) (w : World) (hr0_1 : Kd.C (Kd.int .i64) w A0_1 l0_1.length l0_1) (hc0_1 : l0_1.length ≤ c0_1) (h : spec_Hyperplanes.f k a0_0 l0_1 = some r) :
  Calls Try.prog 211 #[.agg #[.int .i64 a0_0, .slice A0_1 l0_1.length c0_1]] w fun e w' => ∃ v0_ : Value, e = .returned (v0_) ∧ Kd.R (Kd.int .i64) 3 w' w.heap.size (fun _ => True) v0_ r ∧ Below w.heap.size w w' := by
 have hu28 := Try.underlying28
 have HR0_1 := aQ hr0_1
 have HC0_1 := aQ hc0_1
 clear hr0_1 hc0_1
 have HB := aQ (Below.refl w.heap.size w)
 have H : ((spec_IsMatroid.f k a0_0 l0_1).bind fun t212002 => (if t212002 = true then (if 0 < (l0_1.length : Int) then ((spec_CountOf.f k (rd l0_1 0)).bind fun t212004 => ((spec_FlatsOfRank.f k a0_0 l0_1 (wrap64 (t212004 - 1))).bind fun t212005 => (some t212005))) else (none)) else (some (([] : List Int))))) = some r := h
 clear h
 replace H := Option.bind_eq_some_iff.mp H
 obtain ⟨t212002, A20, H⟩ := H
 replace H : (if t212002 = true then (if 0 < (l0_1.length : Int) then ((spec_CountOf.f k (rd l0_1 0)).bind fun t212004 => ((spec_FlatsOfRank.f k a0_0 l0_1 (wrap64 (t212004 - 1))).bind fun t212005 => (some t212005))) else (none)) else (some (([] : List Int)))) = some r := H
 have A2 := aQ A20
 clear A20
 by_cases c3 : t212002 = true
 ·subst c3
  have H1 : (if 0 < (l0_1.length : Int) then ((spec_CountOf.f k (rd l0_1 0)).bind fun t212004 => ((spec_FlatsOfRank.f k a0_0 l0_1 (wrap64 (t212004 - 1))).bind fun t212005 => (some t212005))) else (none)) = some r := by rw [if_pos rfl] at H; exact H
  clear H
  have H := H1
  clear H1
  by_cases c4 : 0 < (l0_1.length : Int)
  ·rw [if_pos c4] at H
   have c4b0 : decide (0 < (l0_1.length : Int)) = true := decide_eq_true c4
   have c4b1 : decide (0 < l0_1.length) = true := decide_eq_true (by omega)
   clear c4
   replace H := Option.bind_eq_some_iff.mp H
   obtain ⟨t212004, A50, H⟩ := H
   replace H : ((spec_FlatsOfRank.f k a0_0 l0_1 (wrap64 (t212004 - 1))).bind fun t212005 => (some t212005)) = some r := H
   have A5 := aQ A50
   clear A50
   replace H := Option.bind_eq_some_iff.mp H
   obtain ⟨t212005, A60, H⟩ := H
   replace H : (some t212005) = some r := H
   have A6 := aQ A60
   clear A60
   obtain rfl := Option.some.inj H
   go_enter Try.func211, Try.ntmps211
   try go_wp2_with (first | ((with_reducible refine gate_dst (N := 1) rfl ?_); refine box_event ?hg (N := 1) ?hd (cs := #[.int .i64 a0_0, .slice A0_1 l0_1.length c0_1]) (t := 28) ?hr ?_; (case hd => rfl); (case hg => rfl); (case hr => first | (go_simp; done) | (go_simp; rfl)); intro gb212001 hg w7 hbox hb; have BK212001 := aQ (hbox); have GW212001 := aQ ((by rw [hg]; exact (below_size (pB HB.out)) : w.heap.size ≤ gb212001)); have GE212001 := aQ ((by rw [hg]; exact (below_size (pB HB.out)) : w.heap.size ≤ gb212001)); replace HB := aQ (below_step (pB HB.out) hb); clear hb hbox hg; have hcz8_0 := bc (v := (.int .i64 a0_0)) BK212001.out 0; have hcz8_1 := bc (v := (.slice A0_1 l0_1.length c0_1)) BK212001.out 1; have hfz8_0 := blk_frozen BK212001.out 0; have hfz8_1 := blk_frozen BK212001.out 1) | ((with_reducible refine gate_callee (f := 124) rfl ?_); refine goesL_ (some 4) rfl rfl Try.func124 (by kernel_rfl) rfl #[.agg #[.int .i64 a0_0, .slice A0_1 l0_1.length c0_1]] rfl lm ?_; (with_reducible refine (spec_IsMatroid.calls k a0_0 _ _ l0_1 true _ ?side1 ?side2 A2.out).mono ?_); (case side1 => exact pC (Kd.C_below HR0_1.out HB.out)); (case side2 => exact HC0_1.out); rintro e w9 ⟨rfl, hb⟩; refine ⟨_, rfl, ?_⟩; replace BK212001 := aQ (blk_below (g := gb212001) (o := .cells #[.int .i64 a0_0, .slice A0_1 l0_1.length c0_1] 28 (0, 0)) (pk BK212001.out) hb); replace HB := aQ (below_step (pB1 HB.out GE212001.out) hb); (try clear hb)))
   have n0_ := aQ (blk_drew BK212001.out)
   have n1_ := aQ (below_drew1 HB.out)
   clear BK212001
   clear HB
   have BK212001 := n0_
   have HB := n1_
   clear n0_ n1_
   have p212003 : 0 ≤ (0 : Int) := (by omega)
   have q212003 : 0 < (l0_1.length : Int) := of_decide_eq_true as_
   obtain ⟨ad212003, e212003, hx212003_0⟩ := Kd.at_int HR0_1.out 0 p212003 q212003
   have hw212003_0 := hx212003_0
   (try rw [show ((0 : Int)).toNat = 0 from rfl] at hw212003_0)
   (try rw [show 0 * 1 = 0 from rfl] at hw212003_0)
   (try rw [Addr.add_zero'] at hw212003_0)
   cases e212003
   have qi212003 : (0 < l0_1.length) = True := eq_true (by omega)
   (try rw [show ((0 : Int)).toNat = 0 from rfl] at hx212003_0)
   (try rw [Addr.add_zero'] at hx212003_0)
   replace hx212003_0 := (HB.out.cell (World.block_lt_of_cell? w _ hx212003_0)).trans hx212003_0
   replace p212003 := eq_true p212003
   replace q212003 := eq_true q212003
   refine start_ (n := 9) (S := fun w' => w'.cell? ⟨gb212001, 0, none⟩ = some (.int .i64 a0_0) ∧ w'.cell? ⟨gb212001, 1, none⟩ = some (.slice (some ad212003) l0_1.length c0_1) ∧ w'.cell? ad212003 = some (.int .i64 (rd l0_1 0))) (ds := []) #[false, false, false, false, false, false, false, false, false] (by kernel_rfl) rfl rfl ⟨(blk_cell BK212001.out 0).trans rfl, (blk_cell BK212001.out 1).trans rfl, ((HB.out.cell (World.block_lt_of_cell? w _ hw212003_0)).trans hw212003_0)⟩ (fun hHeld => ?_); refine with_tabW spec_Hyperplanes.tab3 spec_Hyperplanes.bits3 (fun HT_ HW_ => ?_)
   generalize w9.drew = w10 at BK212001 HB hx212003_0 hHeld ⊢
   refine pure_ (i := 1) (N := some 8) (v := ?_) (a' := ?_) #[false, true, false, false, false, false, false, false, false] rfl rfl (any_of HT_.out (by kernel_rfl)) (fun _ _ _ h => h) (Or.inl ⟨by rfl, ?_⟩) ?_ ?_
   rotate_left
   ·intro w'
    go_simp
    with_reducible rfl
   rotate_left
   ·simp only [Act.put, List.setIfInBounds_toArray, List.set_cons_zero, List.set_cons_succ, i64_w, i32_w]
    rfl
   refine take_ (i := 0) (N := some 7) (v := ?_) (a' := ?_) #[true, true, false, false, false, false, false, false, false] rfl rfl (take_ofW HT_.out HW_.out (by kernel_rfl)) (fun _ _ _ h => h) (Or.inl ⟨by rfl, ?_⟩) hHeld ?_ ?_
   rotate_left
   ·rintro w' ⟨s0, s1, s2⟩
    go_simp
    with_reducible rfl
   rotate_left
   ·simp only [Act.put, List.setIfInBounds_toArray, List.set_cons_zero, List.set_cons_succ, i64_w, i32_w]
    rfl
   refine take_ (i := 2) (N := some 9) (v := ?_) (a' := ?_) #[true, true, true, false, false, false, false, false, false] rfl rfl (take_ofW HT_.out HW_.out (by kernel_rfl)) (fun _ _ _ h => h) (Or.inl ⟨by rfl, ?_⟩) hHeld ?_ ?_
   rotate_left
   ·rintro w' ⟨s0, s1, s2⟩
    go_simp
    with_reducible rfl
   rotate_left
   ·simp only [Act.put, List.setIfInBounds_toArray, List.set_cons_zero, List.set_cons_succ, i64_w, i32_w]
    rfl
   refine pure_ (i := 3) (N := some 10) (v := ?_) (a' := ?_) #[true, true, true, true, false, false, false, false, false] rfl rfl (any_of HT_.out (by kernel_rfl)) (fun _ _ _ h => h) (Or.inl ⟨by rfl, ?_⟩) ?_ ?_
   rotate_left
   ·intro w'
    go_simp
    with_reducible rfl
   rotate_left
   ·simp only [Act.put, List.setIfInBounds_toArray, List.set_cons_zero, List.set_cons_succ, i64_w, i32_w]
    rfl
   refine take_ (i := 4) (N := some 11) (v := ?_) (a' := ?_) #[true, true, true, true, true, false, false, false, false] rfl rfl (take_ofW HT_.out HW_.out (by kernel_rfl)) (fun _ _ _ h => h) (Or.inl ⟨by rfl, ?_⟩) hHeld ?_ ?_
   rotate_left
   ·rintro w' ⟨s0, s1, s2⟩
    go_simp
    with_reducible rfl
   rotate_left
   ·simp only [Act.put, List.setIfInBounds_toArray, List.set_cons_zero, List.set_cons_succ, i64_w, i32_w]
    rfl
   refine one_ (i := 5) (N := some 12) #[true, true, true, true, true, true, false, false, false] rfl rfl (one_of HT_.out (by kernel_rfl)) (by decide) (fun K hK => ?_)
   refine goes_ Try.func116 (by kernel_rfl) rfl #[.int .i64 (rd l0_1 0)] (by rfl) rfl rfl lm ?_
   with_reducible refine (spec_CountOf.calls k (rd l0_1 0) t212004 _ A5.out).mono ?_
   rintro e w' ⟨rfl, ⟨nd, rfl⟩⟩
   refine ⟨_, rfl, ?_⟩
   refine hK.out _ _ ⟨(blk_cell BK212001.out 0).trans rfl, (blk_cell BK212001.out 1).trans rfl, ((HB.out.cell (World.block_lt_of_cell? w _ hw212003_0)).trans hw212003_0)⟩ (fun hHeld => ?_)
   clear hK K
   refine norm_ (a' := ?_) ?_ ?_
   rotate_left
   ·show Act.put _ (some 12) _ = _
    simp only [Act.put, List.setIfInBounds_toArray, List.set_cons_zero, List.set_cons_succ, i64_w, i32_w]
    rfl
   refine pure_ (i := 6) (N := some 13) (v := ?_) (a' := ?_) #[true, true, true, true, true, true, true, false, false] rfl rfl (any_of HT_.out (by kernel_rfl)) (fun _ _ _ h => h) (Or.inl ⟨by rfl, ?_⟩) ?_ ?_
   rotate_left
   ·intro w'
    go_simp
    with_reducible rfl
   rotate_left
   ·simp only [Act.put, List.setIfInBounds_toArray, List.set_cons_zero, List.set_cons_succ, i64_w, i32_w]
    rfl
   refine one_ (i := 7) (N := some 14) #[true, true, true, true, true, true, true, true, false] rfl rfl (one_of HT_.out (by kernel_rfl)) (by decide) (fun K hK => ?_)
   refine goes_ Try.func256 (by kernel_rfl) rfl #[.agg #[.int .i64 a0_0, .slice (some ad212003) l0_1.length c0_1], .int .i64 (wrap64 (t212004 - 1))] (by rfl) rfl rfl lm ?_
   with_reducible refine (spec_FlatsOfRank.calls k a0_0 _ _ l0_1 (wrap64 (t212004 - 1)) t212005 _ ?side1 ?side2 A6.out).mono ?_
   (case side1 => repeat (first | exact (Kd.C_below HR0_1.out (pB1 HB.out GE212001.out)) | (with_reducible refine Kd.C_alloc ?_ _) | (with_reducible refine Kd.C_drewN ?_ _) | (with_reducible refine Kd.C_drew ?_)))
   (case side2 => exact HC0_1.out)
   rintro e w11 ⟨v212006, rfl, ho0, hb⟩
   refine ⟨_, rfl, ?_⟩
   have n0_ := aQ (Kd.R_lower ho0 (below_size (pB1 HB.out GE212001.out)))
   have n1_ := aQ (blk_below (g := gb212001) (o := .cells #[.int .i64 a0_0, .slice (some ad212003) l0_1.length c0_1] 28 (0, 0)) (pk BK212001.out) hb)
   have n2_ := aQ (below_step (pB1 HB.out GE212001.out) hb)
   clear BK212001
   clear HB
   have HO212007 := n0_
   have BK212001 := n1_
   have HB := n2_
   clear n0_ n1_ n2_
   (try clear hb)
   (try clear hb2)
   (try clear hk)
   (try clear hi)
   (try clear ho0)
   refine hK.out _ _ ⟨(blk_cell BK212001.out 0).trans rfl, (blk_cell BK212001.out 1).trans rfl, ((HB.out.cell (World.block_lt_of_cell? w _ hw212003_0)).trans hw212003_0)⟩ (fun hHeld => ?_)
   clear hK K
   refine norm_ (a' := ?_) ?_ ?_
   rotate_left
   ·show Act.put _ (some 14) _ = _
    simp only [Act.put, List.setIfInBounds_toArray, List.set_cons_zero, List.set_cons_succ, i64_w, i32_w]
    rfl
   refine pure_ (i := 8) (N := some 2) (v := ?_) (a' := ?_) #[true, true, true, true, true, true, true, true, true] rfl rfl (any_of HT_.out (by kernel_rfl)) (fun _ _ _ h => h) (Or.inl ⟨by rfl, ?_⟩) ?_ ?_
   rotate_left
   ·intro w'
    go_simp
    with_reducible rfl
   rotate_left
   ·simp only [Act.put, List.setIfInBounds_toArray, List.set_cons_zero, List.set_cons_succ, i64_w, i32_w]
    rfl
   refine done_ (done_of HT_.out (by kernel_rfl)) ?_
   try go_wp2
   go_ret
   exact ⟨_, by first | rfl | (simp [errW_none, errW_some] <;> rfl) | (simp [*, errW_none, errW_some] <;> rfl), by (with_reducible repeat (first | apply Kd.R_alloc | apply Kd.R_drewN | apply Kd.R_drew)); exact HO212007.out, pB1 HB.out GE212001.out⟩
  ·rw [if_neg c4] at H
   exact absurd H (by simp)
 ·replace c3 := Bool.eq_false_iff.mpr c3
  subst c3
  have H1 : (some (([] : List Int))) = some r := by rw [if_neg (show ¬ (false = true) by decide)] at H; exact H
  clear H
  have H := H1
  clear H1
  obtain ⟨y212008, hy212008⟩ : ∃ y_ : List Int, y_ = (([] : List Int)) := ⟨_, rfl⟩
  replace H : (some y212008) = some r := by first | (rw [hy212008]; with_reducible exact H) | (have H2_ := (Option.bind_some _ _).symm.trans H; rw [hy212008]; with_reducible exact H2_) | (have H2_ := (Option.bind_some _ _).symm.trans H; with_reducible exact H2_) | with_reducible exact H | (rw [hy212008]; exact H) | exact H
  have Ny212008 := aQ hy212008
  clear hy212008
  obtain rfl := Option.some.inj H
  go_enter Try.func211, Try.ntmps211
  go_wp2_with (first | ((with_reducible refine gate_dst (N := 1) rfl ?_); refine box_event ?hg (N := 1) ?hd (cs := #[.int .i64 a0_0, .slice A0_1 l0_1.length c0_1]) (t := 28) ?hr ?_; (case hd => rfl); (case hg => rfl); (case hr => first | (go_simp; done) | (go_simp; rfl)); intro gb212001 hg w12 hbox hb; have BK212001 := aQ (hbox); have GW212001 := aQ ((by rw [hg]; exact (below_size (pB HB.out)) : w.heap.size ≤ gb212001)); have GE212001 := aQ ((by rw [hg]; exact (below_size (pB HB.out)) : w.heap.size ≤ gb212001)); replace HB := aQ (below_step (pB HB.out) hb); clear hb hbox hg; have hcz13_0 := bc (v := (.int .i64 a0_0)) BK212001.out 0; have hcz13_1 := bc (v := (.slice A0_1 l0_1.length c0_1)) BK212001.out 1; have hfz13_0 := blk_frozen BK212001.out 0; have hfz13_1 := blk_frozen BK212001.out 1) | ((with_reducible refine gate_callee (f := 124) rfl ?_); refine goesL_ (some 4) rfl rfl Try.func124 (by kernel_rfl) rfl #[.agg #[.int .i64 a0_0, .slice A0_1 l0_1.length c0_1]] rfl lm ?_; (with_reducible refine (spec_IsMatroid.calls k a0_0 _ _ l0_1 false _ ?side1 ?side2 A2.out).mono ?_); (case side1 => exact pC (Kd.C_below HR0_1.out HB.out)); (case side2 => exact HC0_1.out); rintro e w14 ⟨rfl, hb⟩; refine ⟨_, rfl, ?_⟩; replace BK212001 := aQ (blk_below (g := gb212001) (o := .cells #[.int .i64 a0_0, .slice A0_1 l0_1.length c0_1] 28 (0, 0)) (pk BK212001.out) hb); replace HB := aQ (below_step (pB1 HB.out GE212001.out) hb); (try clear hb)) | ((with_reducible refine gate_dst (N := 6) rfl ?_); refine Kd.R_lit (Kd.int .i64) _ 3 ?hg (N := 6) ?hd (xs := ([] : List Int)) (inner := []) (ok := fun _ => True) (okp := fun _ => True) ?hr ?hp (fun _ hk => hk) trivial (Below.refl _ _) (Nat.le_refl _) (by simp) ?_; (case hd => rfl); (case hg => rfl); (case hr => first | (go_simp; done) | (go_simp; rfl)); (case hp => exact (Reps.none _ _)); intro v212009 w15 ho16 hb hg_ hnew_; clear hg_ hnew_; (first | rw [← Ny212008.out] at ho16 | (simp only [Int.reduceToNat] at ho16; rw [← Ny212008.out] at ho16)); have HO212010 := aQ (Kd.R_lower ho16 (below_size (pB1 HB.out GE212001.out))); replace BK212001 := aQ (blk_below (g := gb212001) (o := .cells #[.int .i64 a0_0, .slice A0_1 l0_1.length c0_1] 28 (0, 0)) (pk BK212001.out) hb); replace HB := aQ (below_step (pB1 HB.out GE212001.out) hb); clear hb ho16))
  go_ret
  exact ⟨_, by first | rfl | (simp [errW_none, errW_some] <;> rfl) | (simp [*, errW_none, errW_some] <;> rfl), by (with_reducible repeat (first | apply Kd.R_alloc | apply Kd.R_drewN | apply Kd.R_drew)); exact HO212010.out, pB1 HB.out GE212001.out⟩
/-! ### spec_IsRelaxable: function 100 -/
def spec_IsRelaxable.f (k : Nat) (a0_0 : Int) (l0_1 : List Int) (a1 : Int) : Option (Bool) := (spec_IsMatroid.f k a0_0 l0_1).bind fun t101002 => (if t101002 = true then ((spec_l6Circuits.f k a0_0 l0_1).bind fun t101003 => ((spec_HasSet.f k t101003 a1).bind fun t101006 => (if t101006 = true then ((spec_Hyperplanes.f k a0_0 l0_1).bind fun t101007 => ((spec_HasSet.f k t101007 a1).bind fun t101010 => (some t101010))) else (some false)))) else (some false))
theorem spec_IsRelaxable.mono : ∀ a0 a1 a2 k, LeO (spec_IsRelaxable.f k a0 a1 a2) (spec_IsRelaxable.f (k + 1) a0 a1 a2) := by
 intro a0 a1 a2 k
 unfold spec_IsRelaxable.f
 repeat' first
   | (with_reducible exact spec_HasSet.mono _ _ _)
   | (with_reducible exact spec_Hyperplanes.mono _ _ _)
   | (with_reducible exact spec_IsMatroid.mono _ _ _)
   | (with_reducible exact spec_l6Circuits.mono _ _ _)
   | (with_reducible exact LeO.refl _)
   | (with_reducible exact LeO.none _)
   | (with_reducible refine LeO.ite ?_ ?_)
   | (with_reducible refine LeO.bind ?_ (fun _ => ?_))
   | exact spec_HasSet.mono _ _ _
   | exact spec_Hyperplanes.mono _ _ _
   | exact spec_IsMatroid.mono _ _ _
   | exact spec_l6Circuits.mono _ _ _
   | exact LeO.none _
   | refine LeO.ite ?_ ?_
   | refine LeO.bind ?_ (fun _ => ?_)
set_option maxHeartbeats 8000000 in
set_option maxRecDepth 100000 in
theorem spec_IsRelaxable.calls (k : Nat) (a0_0 : Int) (A0_1 : Option Addr) (c0_1 : Nat) (l0_1 : List Int) (a1 : Int) (r : Bool) (w : World) (hr0_1 : Kd.C (Kd.int .i64) w A0_1 l0_1.length l0_1) (hc0_1 : l0_1.length ≤ c0_1) (h : spec_IsRelaxable.f k a0_0 l0_1 a1 = some r) :
  Calls Try.prog 100 #[.agg #[.int .i64 a0_0, .slice A0_1 l0_1.length c0_1], .int .i64 a1] w fun e w' => e = .returned (.bool r) ∧ Below w.heap.size w w' := by
 have hu28 := Try.underlying28
 have HR0_1 := aQ hr0_1
 have HC0_1 := aQ hc0_1
 clear hr0_1 hc0_1
 have HB := aQ (Below.refl w.heap.size w)
 have H : ((spec_IsMatroid.f k a0_0 l0_1).bind fun t101002 => (if t101002 = true then ((spec_l6Circuits.f k a0_0 l0_1).bind fun t101003 => ((spec_HasSet.f k t101003 a1).bind fun t101006 => (if t101006 = true then ((spec_Hyperplanes.f k a0_0 l0_1).bind fun t101007 => ((spec_HasSet.f k t101007 a1).bind fun t101010 => (some t101010))) else (some false)))) else (some false))) = some r := h
 clear h
 replace H := Option.bind_eq_some_iff.mp H
 obtain ⟨t101002, A30, H⟩ := H
 replace H : (if t101002 = true then ((spec_l6Circuits.f k a0_0 l0_1).bind fun t101003 => ((spec_HasSet.f k t101003 a1).bind fun t101006 => (if t101006 = true then ((spec_Hyperplanes.f k a0_0 l0_1).bind fun t101007 => ((spec_HasSet.f k t101007 a1).bind fun t101010 => (some t101010))) else (some false)))) else (some false)) = some r := H
 have A3 := aQ A30
 clear A30
 by_cases c4 : t101002 = true
 ·subst c4
  have H1 : ((spec_l6Circuits.f k a0_0 l0_1).bind fun t101003 => ((spec_HasSet.f k t101003 a1).bind fun t101006 => (if t101006 = true then ((spec_Hyperplanes.f k a0_0 l0_1).bind fun t101007 => ((spec_HasSet.f k t101007 a1).bind fun t101010 => (some t101010))) else (some false)))) = some r := by rw [if_pos rfl] at H; exact H
  clear H
  have H := H1
  clear H1
  replace H := Option.bind_eq_some_iff.mp H
  obtain ⟨t101003, A50, H⟩ := H
  replace H : ((spec_HasSet.f k t101003 a1).bind fun t101006 => (if t101006 = true then ((spec_Hyperplanes.f k a0_0 l0_1).bind fun t101007 => ((spec_HasSet.f k t101007 a1).bind fun t101010 => (some t101010))) else (some false))) = some r := H
  have A5 := aQ A50
  clear A50
  replace H := Option.bind_eq_some_iff.mp H
  obtain ⟨t101006, A60, H⟩ := H
  replace H : (if t101006 = true then ((spec_Hyperplanes.f k a0_0 l0_1).bind fun t101007 => ((spec_HasSet.f k t101007 a1).bind fun t101010 => (some t101010))) else (some false)) = some r := H
  have A6 := aQ A60
  clear A60
  by_cases c7 : t101006 = true
  ·subst c7
   have H1 : ((spec_Hyperplanes.f k a0_0 l0_1).bind fun t101007 => ((spec_HasSet.f k t101007 a1).bind fun t101010 => (some t101010))) = some r := by rw [if_pos rfl] at H; exact H
   clear H
   have H := H1
   clear H1
   replace H := Option.bind_eq_some_iff.mp H
   obtain ⟨t101007, A80, H⟩ := H
   replace H : ((spec_HasSet.f k t101007 a1).bind fun t101010 => (some t101010)) = some r := H
   have A8 := aQ A80
   clear A80
   replace H := Option.bind_eq_some_iff.mp H
   obtain ⟨t101010, A90, H⟩ := H
   replace H : (some t101010) = some r := H
   have A9 := aQ A90
   clear A90
   obtain rfl := Option.some.inj H
   go_enter Try.func100, Try.ntmps100
   go_wp2_with (first | ((with_reducible refine gate_dst (N := 2) rfl ?_); refine box_event ?hg (N := 2) ?hd (cs := #[.int .i64 a0_0, .slice A0_1 l0_1.length c0_1]) (t := 28) ?hr ?_; (case hd => rfl); (case hg => rfl); (case hr => first | (go_simp; done) | (go_simp; rfl)); intro gb101001 hg w10 hbox hb; have BK101001 := aQ (hbox); have GW101001 := aQ ((by rw [hg]; exact (below_size (pB HB.out)) : w.heap.size ≤ gb101001)); have GE101001 := aQ ((by rw [hg]; exact (below_size (pB HB.out)) : w.heap.size ≤ gb101001)); replace HB := aQ (below_step (pB HB.out) hb); clear hb hbox hg; have hcz11_0 := bc (v := (.int .i64 a0_0)) BK101001.out 0; have hcz11_1 := bc (v := (.slice A0_1 l0_1.length c0_1)) BK101001.out 1; have hfz11_0 := blk_frozen BK101001.out 0; have hfz11_1 := blk_frozen BK101001.out 1) | ((with_reducible refine gate_callee (f := 124) rfl ?_); refine goesL_ (some 6) rfl rfl Try.func124 (by kernel_rfl) rfl #[.agg #[.int .i64 a0_0, .slice A0_1 l0_1.length c0_1]] rfl lm ?_; (with_reducible refine (spec_IsMatroid.calls k a0_0 _ _ l0_1 true _ ?side1 ?side2 A3.out).mono ?_); (case side1 => exact pC (Kd.C_below HR0_1.out HB.out)); (case side2 => exact HC0_1.out); rintro e w12 ⟨rfl, hb⟩; refine ⟨_, rfl, ?_⟩; replace BK101001 := aQ (blk_below (g := gb101001) (o := .cells #[.int .i64 a0_0, .slice A0_1 l0_1.length c0_1] 28 (0, 0)) (pk BK101001.out) hb); replace HB := aQ (below_step (pB1 HB.out GE101001.out) hb); (try clear hb); have hcz13_0 := bc (v := (.int .i64 a0_0)) BK101001.out 0; have hcz13_1 := bc (v := (.slice A0_1 l0_1.length c0_1)) BK101001.out 1; have hfz13_0 := blk_frozen BK101001.out 0; have hfz13_1 := blk_frozen BK101001.out 1) | (go_at_call 210; (with_reducible refine (spec_l6Circuits.calls k a0_0 _ _ l0_1 t101003 _ ?side1 ?side2 A5.out).mono ?_); (case side1 => exact pC (Kd.C_below HR0_1.out HB.out)); (case side2 => exact HC0_1.out); rintro e w14 ⟨v101004, rfl, ho0, hb⟩; have HO101005 := aQ (Kd.R_lower ho0 (below_size (pB1 HB.out GE101001.out))); replace BK101001 := aQ (blk_below (g := gb101001) (o := .cells #[.int .i64 a0_0, .slice A0_1 l0_1.length c0_1] 28 (0, 0)) (pk BK101001.out) hb); replace HB := aQ (below_step (pB1 HB.out GE101001.out) hb); (try clear hb); (try clear ho0); obtain ⟨Ao15, co15, eo15⟩ := Kd.R_slice HO101005.out; subst eo15) | (go_at_call 153; (with_reducible refine (spec_HasSet.calls k _ _ t101003 a1 true _ ?side1 ?side2 A6.out).mono ?_); (case side1 => repeat (first | exact (Kd.R_reads' HO101005.out).2.2 | (with_reducible refine Kd.C_alloc ?_ _) | (with_reducible refine Kd.C_drewN ?_ _) | (with_reducible refine Kd.C_drew ?_))); (case side2 => exact (Kd.R_reads' HO101005.out).2.1); rintro e w' ⟨rfl, ⟨nd, rfl⟩⟩; have hcz16_0 := bc (v := (.int .i64 a0_0)) BK101001.out 0; have hcz16_1 := bc (v := (.slice A0_1 l0_1.length c0_1)) BK101001.out 1; have hfz16_0 := blk_frozen BK101001.out 0; have hfz16_1 := blk_frozen BK101001.out 1) | (go_at_call 211; (with_reducible refine (spec_Hyperplanes.calls k a0_0 _ _ l0_1 t101007 _ ?side1 ?side2 A8.out).mono ?_); (case side1 => repeat (first | exact (Kd.C_below HR0_1.out (pB1 HB.out GE101001.out)) | (with_reducible refine Kd.C_alloc ?_ _) | (with_reducible refine Kd.C_drewN ?_ _) | (with_reducible refine Kd.C_drew ?_))); (case side2 => exact HC0_1.out); rintro e w17 ⟨v101008, rfl, ho0, hb⟩; have HO101009 := aQ (Kd.R_lower (Kd.R_new' ho0 (Kd.R_lt (pR HO101005.out))) (below_size (pB1 HB.out GE101001.out))); replace HO101005 := aQ (Kd.R_elder' (pR HO101005.out) (Kd.R_base ho0) hb); replace BK101001 := aQ (blk_below (g := gb101001) (o := .cells #[.int .i64 a0_0, .slice A0_1 l0_1.length c0_1] 28 (0, 0)) (pk BK101001.out) hb); replace HB := aQ (below_step (pB1 HB.out GE101001.out) hb); (try clear hb); (try clear ho0); obtain ⟨Ao18, co18, eo18⟩ := Kd.R_slice HO101009.out; subst eo18) | (go_at_call 153; (with_reducible refine (spec_HasSet.calls k _ _ t101007 a1 t101010 _ ?side1 ?side2 A9.out).mono ?_); (case side1 => repeat (first | exact (Kd.R_reads' HO101009.out).2.2 | (with_reducible refine Kd.C_alloc ?_ _) | (with_reducible refine Kd.C_drewN ?_ _) | (with_reducible refine Kd.C_drew ?_))); (case side2 => exact (Kd.R_reads' HO101009.out).2.1); rintro e w' ⟨rfl, ⟨nd, rfl⟩⟩))
   go_ret
   exact ⟨re_, pB1 HB.out GE101001.out⟩
  ·replace c7 := Bool.eq_false_iff.mpr c7
   subst c7
   have H1 : (some false) = some r := by rw [if_neg (show ¬ (false = true) by decide)] at H; exact H
   clear H
   have H := H1
   clear H1
   obtain rfl := Option.some.inj H
   go_enter Try.func100, Try.ntmps100
   go_wp2_with (first | ((with_reducible refine gate_dst (N := 2) rfl ?_); refine box_event ?hg (N := 2) ?hd (cs := #[.int .i64 a0_0, .slice A0_1 l0_1.length c0_1]) (t := 28) ?hr ?_; (case hd => rfl); (case hg => rfl); (case hr => first | (go_simp; done) | (go_simp; rfl)); intro gb101001 hg w19 hbox hb; have BK101001 := aQ (hbox); have GW101001 := aQ ((by rw [hg]; exact (below_size (pB HB.out)) : w.heap.size ≤ gb101001)); have GE101001 := aQ ((by rw [hg]; exact (below_size (pB HB.out)) : w.heap.size ≤ gb101001)); replace HB := aQ (below_step (pB HB.out) hb); clear hb hbox hg; have hcz20_0 := bc (v := (.int .i64 a0_0)) BK101001.out 0; have hcz20_1 := bc (v := (.slice A0_1 l0_1.length c0_1)) BK101001.out 1; have hfz20_0 := blk_frozen BK101001.out 0; have hfz20_1 := blk_frozen BK101001.out 1) | ((with_reducible refine gate_callee (f := 124) rfl ?_); refine goesL_ (some 6) rfl rfl Try.func124 (by kernel_rfl) rfl #[.agg #[.int .i64 a0_0, .slice A0_1 l0_1.length c0_1]] rfl lm ?_; (with_reducible refine (spec_IsMatroid.calls k a0_0 _ _ l0_1 true _ ?side1 ?side2 A3.out).mono ?_); (case side1 => exact pC (Kd.C_below HR0_1.out HB.out)); (case side2 => exact HC0_1.out); rintro e w21 ⟨rfl, hb⟩; refine ⟨_, rfl, ?_⟩; replace BK101001 := aQ (blk_below (g := gb101001) (o := .cells #[.int .i64 a0_0, .slice A0_1 l0_1.length c0_1] 28 (0, 0)) (pk BK101001.out) hb); replace HB := aQ (below_step (pB1 HB.out GE101001.out) hb); (try clear hb); have hcz22_0 := bc (v := (.int .i64 a0_0)) BK101001.out 0; have hcz22_1 := bc (v := (.slice A0_1 l0_1.length c0_1)) BK101001.out 1; have hfz22_0 := blk_frozen BK101001.out 0; have hfz22_1 := blk_frozen BK101001.out 1) | (go_at_call 210; (with_reducible refine (spec_l6Circuits.calls k a0_0 _ _ l0_1 t101003 _ ?side1 ?side2 A5.out).mono ?_); (case side1 => exact pC (Kd.C_below HR0_1.out HB.out)); (case side2 => exact HC0_1.out); rintro e w23 ⟨v101004, rfl, ho0, hb⟩; have HO101005 := aQ (Kd.R_lower ho0 (below_size (pB1 HB.out GE101001.out))); replace BK101001 := aQ (blk_below (g := gb101001) (o := .cells #[.int .i64 a0_0, .slice A0_1 l0_1.length c0_1] 28 (0, 0)) (pk BK101001.out) hb); replace HB := aQ (below_step (pB1 HB.out GE101001.out) hb); (try clear hb); (try clear ho0); obtain ⟨Ao24, co24, eo24⟩ := Kd.R_slice HO101005.out; subst eo24) | (go_at_call 153; (with_reducible refine (spec_HasSet.calls k _ _ t101003 a1 false _ ?side1 ?side2 A6.out).mono ?_); (case side1 => repeat (first | exact (Kd.R_reads' HO101005.out).2.2 | (with_reducible refine Kd.C_alloc ?_ _) | (with_reducible refine Kd.C_drewN ?_ _) | (with_reducible refine Kd.C_drew ?_))); (case side2 => exact (Kd.R_reads' HO101005.out).2.1); rintro e w' ⟨rfl, ⟨nd, rfl⟩⟩))
   go_ret
   exact ⟨re_, pB1 HB.out GE101001.out⟩
 ·replace c4 := Bool.eq_false_iff.mpr c4
  subst c4
  have H1 : (some false) = some r := by rw [if_neg (show ¬ (false = true) by decide)] at H; exact H
  clear H
  have H := H1
  clear H1
  obtain rfl := Option.some.inj H
  go_enter Try.func100, Try.ntmps100
  go_wp2_with (first | ((with_reducible refine gate_dst (N := 2) rfl ?_); refine box_event ?hg (N := 2) ?hd (cs := #[.int .i64 a0_0, .slice A0_1 l0_1.length c0_1]) (t := 28) ?hr ?_; (case hd => rfl); (case hg => rfl); (case hr => first | (go_simp; done) | (go_simp; rfl)); intro gb101001 hg w25 hbox hb; have BK101001 := aQ (hbox); have GW101001 := aQ ((by rw [hg]; exact (below_size (pB HB.out)) : w.heap.size ≤ gb101001)); have GE101001 := aQ ((by rw [hg]; exact (below_size (pB HB.out)) : w.heap.size ≤ gb101001)); replace HB := aQ (below_step (pB HB.out) hb); clear hb hbox hg; have hcz26_0 := bc (v := (.int .i64 a0_0)) BK101001.out 0; have hcz26_1 := bc (v := (.slice A0_1 l0_1.length c0_1)) BK101001.out 1; have hfz26_0 := blk_frozen BK101001.out 0; have hfz26_1 := blk_frozen BK101001.out 1) | ((with_reducible refine gate_callee (f := 124) rfl ?_); refine goesL_ (some 6) rfl rfl Try.func124 (by kernel_rfl) rfl #[.agg #[.int .i64 a0_0, .slice A0_1 l0_1.length c0_1]] rfl lm ?_; (with_reducible refine (spec_IsMatroid.calls k a0_0 _ _ l0_1 false _ ?side1 ?side2 A3.out).mono ?_); (case side1 => exact pC (Kd.C_below HR0_1.out HB.out)); (case side2 => exact HC0_1.out); rintro e w27 ⟨rfl, hb⟩; refine ⟨_, rfl, ?_⟩; replace BK101001 := aQ (blk_below (g := gb101001) (o := .cells #[.int .i64 a0_0, .slice A0_1 l0_1.length c0_1] 28 (0, 0)) (pk BK101001.out) hb); replace HB := aQ (below_step (pB1 HB.out GE101001.out) hb); (try clear hb)))
  go_ret
  exact ⟨re_, pB1 HB.out GE101001.out⟩
/-! ### impl_Flats: function 214 -/
def impl_Flats.f (k : Nat) (a0_0 : Int) (l0_1 : List Int) : Option (List Int) := (impl_IsMatroid.f k a0_0 l0_1).bind fun t215002 => (if t215002 = true then ((impl_flatsIn.f k a0_0 l0_1).bind fun t215003 => (some t215003)) else (some ([] : List Int)))
theorem impl_Flats.mono : ∀ a0 a1 k, LeO (impl_Flats.f k a0 a1) (impl_Flats.f (k + 1) a0 a1) := by
 intro a0 a1 k
 unfold impl_Flats.f
 repeat' first
   | (with_reducible exact impl_IsMatroid.mono _ _ _)
   | (with_reducible exact impl_flatsIn.mono _ _ _)
   | (with_reducible exact LeO.refl _)
   | (with_reducible exact LeO.none _)
   | (with_reducible refine LeO.ite ?_ ?_)
   | (with_reducible refine LeO.bind ?_ (fun _ => ?_))
   | exact impl_IsMatroid.mono _ _ _
   | exact impl_flatsIn.mono _ _ _
   | exact LeO.none _
   | refine LeO.ite ?_ ?_
   | refine LeO.bind ?_ (fun _ => ?_)
set_option maxHeartbeats 8000000 in
set_option maxRecDepth 100000 in
theorem impl_Flats.calls (k : Nat) (a0_0 : Int) (A0_1 : Option Addr) (c0_1 : Nat) (l0_1 : List Int) (r : List Int) (w : World) (hr0_1 : Kd.C (Kd.int .i64) w A0_1 l0_1.length l0_1) (hc0_1 : l0_1.length ≤ c0_1) (h : impl_Flats.f k a0_0 l0_1 = some r) :
  Calls Try.prog 214 #[.agg #[.int .i64 a0_0, .slice A0_1 l0_1.length c0_1]] w fun e w' => ∃ v0_ : Value, e = .returned (v0_) ∧ Kd.R (Kd.int .i64) 3 w' w.heap.size (fun _ => True) v0_ r ∧ Below w.heap.size w w' := by
 have hu28 := Try.underlying28
 have HR0_1 := aQ hr0_1
 have HC0_1 := aQ hc0_1
 clear hr0_1 hc0_1
 have HB := aQ (Below.refl w.heap.size w)
 have H : ((impl_IsMatroid.f k a0_0 l0_1).bind fun t215002 => (if t215002 = true then ((impl_flatsIn.f k a0_0 l0_1).bind fun t215003 => (some t215003)) else (some ([] : List Int)))) = some r := h
 clear h
 replace H := Option.bind_eq_some_iff.mp H
 obtain ⟨t215002, A20, H⟩ := H
 replace H : (if t215002 = true then ((impl_flatsIn.f k a0_0 l0_1).bind fun t215003 => (some t215003)) else (some ([] : List Int))) = some r := H
 have A2 := aQ A20
 clear A20
 by_cases c3 : t215002 = true
 ·subst c3
  have H1 : ((impl_flatsIn.f k a0_0 l0_1).bind fun t215003 => (some t215003)) = some r := by rw [if_pos rfl] at H; exact H
  clear H
  have H := H1
  clear H1
  replace H := Option.bind_eq_some_iff.mp H
  obtain ⟨t215003, A40, H⟩ := H
  replace H : (some t215003) = some r := H
  have A4 := aQ A40
  clear A40
  obtain rfl := Option.some.inj H
  go_enter Try.func214, Try.ntmps214
  go_wp2_with (first | ((with_reducible refine gate_dst (N := 1) rfl ?_); refine box_event ?hg (N := 1) ?hd (cs := #[.int .i64 a0_0, .slice A0_1 l0_1.length c0_1]) (t := 28) ?hr ?_; (case hd => rfl); (case hg => rfl); (case hr => first | (go_simp; done) | (go_simp; rfl)); intro gb215001 hg w5 hbox hb; have BK215001 := aQ (hbox); have GW215001 := aQ ((by rw [hg]; exact (below_size (pB HB.out)) : w.heap.size ≤ gb215001)); have GE215001 := aQ ((by rw [hg]; exact (below_size (pB HB.out)) : w.heap.size ≤ gb215001)); replace HB := aQ (below_step (pB HB.out) hb); clear hb hbox hg; have hcz6_0 := bc (v := (.int .i64 a0_0)) BK215001.out 0; have hcz6_1 := bc (v := (.slice A0_1 l0_1.length c0_1)) BK215001.out 1; have hfz6_0 := blk_frozen BK215001.out 0; have hfz6_1 := blk_frozen BK215001.out 1) | ((with_reducible refine gate_callee (f := 132) rfl ?_); refine goesL_ (some 4) rfl rfl Try.func132 (by kernel_rfl) rfl #[.agg #[.int .i64 a0_0, .slice A0_1 l0_1.length c0_1]] rfl lm ?_; (with_reducible refine (impl_IsMatroid.calls k a0_0 _ _ l0_1 true _ ?side1 ?side2 A2.out).mono ?_); (case side1 => exact pC (Kd.C_below HR0_1.out HB.out)); (case side2 => exact HC0_1.out); rintro e w7 ⟨rfl, hb⟩; refine ⟨_, rfl, ?_⟩; replace BK215001 := aQ (blk_below (g := gb215001) (o := .cells #[.int .i64 a0_0, .slice A0_1 l0_1.length c0_1] 28 (0, 0)) (pk BK215001.out) hb); replace HB := aQ (below_step (pB1 HB.out GE215001.out) hb); (try clear hb); have hcz8_0 := bc (v := (.int .i64 a0_0)) BK215001.out 0; have hcz8_1 := bc (v := (.slice A0_1 l0_1.length c0_1)) BK215001.out 1; have hfz8_0 := blk_frozen BK215001.out 0; have hfz8_1 := blk_frozen BK215001.out 1) | ((with_reducible refine gate_callee (f := 150) rfl ?_); refine goesL_ (some 7) rfl rfl Try.func150 (by kernel_rfl) rfl #[.agg #[.int .i64 a0_0, .slice A0_1 l0_1.length c0_1]] rfl lm ?_; (with_reducible refine (impl_flatsIn.calls k a0_0 _ _ l0_1 t215003 _ ?side1 ?side2 A4.out).mono ?_); (case side1 => exact pC (Kd.C_below HR0_1.out HB.out)); (case side2 => exact HC0_1.out); rintro e w9 ⟨v215004, rfl, ho0, hb⟩; refine ⟨_, rfl, ?_⟩; have HO215005 := aQ (Kd.R_lower ho0 (below_size (pB1 HB.out GE215001.out))); replace BK215001 := aQ (blk_below (g := gb215001) (o := .cells #[.int .i64 a0_0, .slice A0_1 l0_1.length c0_1] 28 (0, 0)) (pk BK215001.out) hb); replace HB := aQ (below_step (pB1 HB.out GE215001.out) hb); (try clear hb); (try clear ho0)))
  go_ret
  exact ⟨_, by first | rfl | (simp [errW_none, errW_some] <;> rfl) | (simp [*, errW_none, errW_some] <;> rfl), by (with_reducible repeat (first | apply Kd.R_alloc | apply Kd.R_drewN | apply Kd.R_drew)); exact HO215005.out, pB1 HB.out GE215001.out⟩
 ·replace c3 := Bool.eq_false_iff.mpr c3
  subst c3
  have H1 : (some ([] : List Int)) = some r := by rw [if_neg (show ¬ (false = true) by decide)] at H; exact H
  clear H
  have H := H1
  clear H1
  obtain rfl := Option.some.inj H
  go_enter Try.func214, Try.ntmps214
  go_wp2_with (first | ((with_reducible refine gate_dst (N := 1) rfl ?_); refine box_event ?hg (N := 1) ?hd (cs := #[.int .i64 a0_0, .slice A0_1 l0_1.length c0_1]) (t := 28) ?hr ?_; (case hd => rfl); (case hg => rfl); (case hr => first | (go_simp; done) | (go_simp; rfl)); intro gb215001 hg w10 hbox hb; have BK215001 := aQ (hbox); have GW215001 := aQ ((by rw [hg]; exact (below_size (pB HB.out)) : w.heap.size ≤ gb215001)); have GE215001 := aQ ((by rw [hg]; exact (below_size (pB HB.out)) : w.heap.size ≤ gb215001)); replace HB := aQ (below_step (pB HB.out) hb); clear hb hbox hg; have hcz11_0 := bc (v := (.int .i64 a0_0)) BK215001.out 0; have hcz11_1 := bc (v := (.slice A0_1 l0_1.length c0_1)) BK215001.out 1; have hfz11_0 := blk_frozen BK215001.out 0; have hfz11_1 := blk_frozen BK215001.out 1) | ((with_reducible refine gate_callee (f := 132) rfl ?_); refine goesL_ (some 4) rfl rfl Try.func132 (by kernel_rfl) rfl #[.agg #[.int .i64 a0_0, .slice A0_1 l0_1.length c0_1]] rfl lm ?_; (with_reducible refine (impl_IsMatroid.calls k a0_0 _ _ l0_1 false _ ?side1 ?side2 A2.out).mono ?_); (case side1 => exact pC (Kd.C_below HR0_1.out HB.out)); (case side2 => exact HC0_1.out); rintro e w12 ⟨rfl, hb⟩; refine ⟨_, rfl, ?_⟩; replace BK215001 := aQ (blk_below (g := gb215001) (o := .cells #[.int .i64 a0_0, .slice A0_1 l0_1.length c0_1] 28 (0, 0)) (pk BK215001.out) hb); replace HB := aQ (below_step (pB1 HB.out GE215001.out) hb); (try clear hb)))
  go_ret
  exact ⟨_, by first | rfl | (simp [errW_none, errW_some] <;> rfl) | (simp [*, errW_none, errW_some] <;> rfl), by first | exact Kd.R_nil _ _ _ _ _ | exact Kd.N_nil _ _ _ _ _ | exact Kd.V_nil _ _ _ _ _ | exact Kd.Q_nil _ _ _ _ _ | exact Kd.S_nil _ _ _ _ _, pB1 HB.out GE215001.out⟩
end Go.Proofs.Ytinoamehdhgpgaa.A
