/- Machine side of the law FnTransversals: Go functions as Lean functions, and proofs that calls come to what these tell. Conditions: those in each theorem. -/
import Derived.Test.YtimkekeaeojpkaaMFnTransversals0
import Derived.Test.YtimkekeaeojpkaaMFnTransversals3
import Derived.Test.YtimkekeaeojpkaaMFnTransversals4
import Derived.Test.YtimkekeaeojpkaaMFnTransversals5
namespace Go.Proofs.Ytimkekeaeojpkaa.A
open Go.RowKit Go.Proofs.YtimkekeaeojpkaaW.PrintWords Go.Proofs.YtimkekeaeojpkaaW.PrintLast Go.Proofs.YtimkekeaeojpkaaW.PrintMore
attribute [local go_sem] max2_int min2_int max_two min_two max_three min_three max_four min_four
set_option linter.unusedVariables false
set_option linter.unusedSimpArgs false
/-! ### spec_MaximalSets: function 108 -/
mutual
def spec_MaximalSets.l0 : Nat → List Int → List Int → Int → Option (List Int)
 | 0, _, _, _ => none
 | k + 1, x0, x3, x4 => if x4 < (x0.length : Int) then (spec_MaximalSets.l1 k x0 x3 x4 true 0) else ((spec_SortSets.f k x3).bind fun t109005 => (some t109005))
def spec_MaximalSets.l1 : Nat → List Int → List Int → Int → Bool → Int → Option (List Int)
 | 0, _, _, _, _, _ => none
 | k + 1, x0, x3, x4, x5, x6 => if x6 < (x0.length : Int) then (if x5 = true then (if 0 ≤ x6 then (if 0 ≤ x4 then (if x4 < (x0.length : Int) then (if (rd x0 x6) = (rd x0 x4) then (spec_MaximalSets.l1 k x0 x3 x4 true (wrap64 (x6 + 1))) else (spec_MaximalSets.l1 k x0 x3 x4 ((Go.bits .and .i64 (rd x0 x6) (rd x0 x4)) != (rd x0 x4)) (wrap64 (x6 + 1)))) else (none)) else (none)) else (none)) else (spec_MaximalSets.l1 k x0 x3 x4 false (wrap64 (x6 + 1)))) else (if x5 = true then (if 0 ≤ x4 then (if x4 < (x0.length : Int) then (if x3.length < 17592186044416 then (spec_MaximalSets.l0 k x0 (x3 ++ [rd x0 x4]) (wrap64 (x4 + 1))) else (none)) else (none)) else (none)) else (spec_MaximalSets.l0 k x0 x3 (wrap64 (x4 + 1))))
end
def spec_MaximalSets.f (k : Nat) (l0 : List Int) : Option (List Int) := (some (([] : List Int) : List Int)).bind fun y109001 => ((spec_l3Sets.f k 8 l0).bind fun t109004 => (if t109004 = true then (spec_MaximalSets.l0 k l0 y109001 0) else (some y109001)))
theorem spec_MaximalSets.mono_l : ∀ k, (∀ y0 y1 y2, LeO (spec_MaximalSets.l0 k y0 y1 y2) (spec_MaximalSets.l0 (k + 1) y0 y1 y2)) ∧ (∀ y0 y1 y2 y3 y4, LeO (spec_MaximalSets.l1 k y0 y1 y2 y3 y4) (spec_MaximalSets.l1 (k + 1) y0 y1 y2 y3 y4))
 | 0 => ⟨fun _ _ _ r h => by simp [spec_MaximalSets.l0] at h, fun _ _ _ _ _ r h => by simp [spec_MaximalSets.l1] at h⟩
 | k + 1 => by
  obtain ⟨ih0, ih1⟩ := spec_MaximalSets.mono_l k
  refine ⟨?_, ?_⟩
  ·intro y0 y1 y2
   unfold spec_MaximalSets.l0
   repeat' first
   | (with_reducible exact ih0 _ _ _)
   | (with_reducible exact ih1 _ _ _ _ _)
   | (with_reducible exact spec_SortSets.mono _ _)
   | (with_reducible exact spec_l3Sets.mono _ _ _)
   | (with_reducible exact LeO.refl _)
   | (with_reducible exact LeO.none _)
   | (with_reducible refine LeO.ite ?_ ?_)
   | (with_reducible refine LeO.bind ?_ (fun _ => ?_))
   | exact ih0 _ _ _
   | exact ih1 _ _ _ _ _
   | exact spec_SortSets.mono _ _
   | exact spec_l3Sets.mono _ _ _
   | exact LeO.none _
   | refine LeO.ite ?_ ?_
   | refine LeO.bind ?_ (fun _ => ?_)
  ·intro y0 y1 y2 y3 y4
   unfold spec_MaximalSets.l1
   repeat' first
   | (with_reducible exact ih0 _ _ _)
   | (with_reducible exact ih1 _ _ _ _ _)
   | (with_reducible exact spec_SortSets.mono _ _)
   | (with_reducible exact spec_l3Sets.mono _ _ _)
   | (with_reducible exact LeO.refl _)
   | (with_reducible exact LeO.none _)
   | (with_reducible refine LeO.ite ?_ ?_)
   | (with_reducible refine LeO.bind ?_ (fun _ => ?_))
   | exact ih0 _ _ _
   | exact ih1 _ _ _ _ _
   | exact spec_SortSets.mono _ _
   | exact spec_l3Sets.mono _ _ _
   | exact LeO.none _
   | refine LeO.ite ?_ ?_
   | refine LeO.bind ?_ (fun _ => ?_)
theorem spec_MaximalSets.mono : ∀ a0 k, LeO (spec_MaximalSets.f k a0) (spec_MaximalSets.f (k + 1) a0) := by
 intro a0 k
 obtain ⟨ih0, ih1⟩ := spec_MaximalSets.mono_l k
 unfold spec_MaximalSets.f
 repeat' first
   | (with_reducible exact ih0 _ _ _)
   | (with_reducible exact ih1 _ _ _ _ _)
   | (with_reducible exact spec_SortSets.mono _ _)
   | (with_reducible exact spec_l3Sets.mono _ _ _)
   | (with_reducible exact LeO.refl _)
   | (with_reducible exact LeO.none _)
   | (with_reducible refine LeO.ite ?_ ?_)
   | (with_reducible refine LeO.bind ?_ (fun _ => ?_))
   | exact ih0 _ _ _
   | exact ih1 _ _ _ _ _
   | exact spec_SortSets.mono _ _
   | exact spec_l3Sets.mono _ _ _
   | exact LeO.none _
   | refine LeO.ite ?_ ?_
   | refine LeO.bind ?_ (fun _ => ?_)
set_option maxHeartbeats 8000000 in
set_option maxRecDepth 100000 in
theorem spec_MaximalSets.calls (k : Nat) (A0 : Option Addr) (c0 : Nat) (l0 : List Int) (r : List Int) (w : World) (hr0 : Kd.C (Kd.int .i64) w A0 l0.length l0) (hc0 : l0.length ≤ c0) (h : spec_MaximalSets.f k l0 = some r) :
  Calls Try.prog 108 #[.slice A0 l0.length c0] w fun e w' => ∃ v0_ : Value, e = .returned (v0_) ∧ Kd.R (Kd.int .i64) 3 w' w.heap.size (fun _ => True) v0_ r ∧ Below w.heap.size w w' := by
 have HR0 := aQ hr0
 have HC0 := aQ hc0
 clear hr0 hc0
 have HB := aQ (Below.refl w.heap.size w)
 have H : ((some (([] : List Int) : List Int)).bind fun y109001 => ((spec_l3Sets.f k 8 l0).bind fun t109004 => (if t109004 = true then (spec_MaximalSets.l0 k l0 y109001 0) else (some y109001)))) = some r := h
 clear h
 obtain ⟨y109001, hy109001⟩ : ∃ y_ : List Int, y_ = (([] : List Int)) := ⟨_, rfl⟩
 replace H : ((spec_l3Sets.f k 8 l0).bind fun t109004 => (if t109004 = true then (spec_MaximalSets.l0 k l0 y109001 0) else (some y109001))) = some r := by first | (rw [hy109001]; with_reducible exact H) | (have H2_ := (Option.bind_some _ _).symm.trans H; rw [hy109001]; with_reducible exact H2_) | (have H2_ := (Option.bind_some _ _).symm.trans H; with_reducible exact H2_) | with_reducible exact H | (rw [hy109001]; exact H) | exact H
 have Ny109001 := aQ hy109001
 clear hy109001
 replace H := Option.bind_eq_some_iff.mp H
 obtain ⟨t109004, A20, H⟩ := H
 replace H : (if t109004 = true then (spec_MaximalSets.l0 k l0 y109001 0) else (some y109001)) = some r := H
 have A2 := aQ A20
 clear A20
 by_cases c3 : t109004 = true
 ·subst c3
  have H1 : (spec_MaximalSets.l0 k l0 y109001 0) = some r := by rw [if_pos rfl] at H; exact H
  clear H
  have H := H1
  clear H1
  have H' := aQ H
  clear H
  go_enter Try.func108, Try.ntmps108
  go_wp2_with (first | ((with_reducible refine gate_dst (N := 7) rfl ?_); refine Kd.R_lit (Kd.int .i64) _ 3 ?hg (N := 7) ?hd (xs := ([] : List Int)) (inner := []) (ok := fun _ => True) (okp := fun _ => True) ?hr ?hp (fun _ hk => hk) trivial (Below.refl _ _) (Nat.le_refl _) (by simp) ?_; (case hd => rfl); (case hg => rfl); (case hr => first | (go_simp; done) | (go_simp; rfl)); (case hp => exact (Reps.none _ _)); intro v109002 w4 ho5 hb hg_ hnew_; clear hg_ hnew_; (first | rw [← Ny109001.out] at ho5 | (simp only [Int.reduceToNat] at ho5; rw [← Ny109001.out] at ho5)); have HO109003 := aQ (Kd.R_lower ho5 (below_size (pB HB.out))); replace HB := aQ (below_step (pB HB.out) hb); clear hb ho5) | (go_at_call 110; (with_reducible refine (spec_l3Sets.calls k 8 _ _ l0 true _ ?side1 ?side2 A2.out).mono ?_); (case side1 => exact pC (Kd.C_below HR0.out HB.out)); (case side2 => exact HC0.out); rintro e w' ⟨rfl, ⟨nd, rfl⟩⟩; (try first | exact ⟨rfl, _, World.drewN_drewN _ _ _⟩ | exact ⟨rfl, _, Eq.trans (World.drewN_drewN _ _ _) (congrArg (World.drewN _) (Nat.add_assoc _ _ _))⟩)))
  repeat (go_quiet (first | ((with_reducible refine gate_dst (N := 7) rfl ?_); refine Kd.R_lit (Kd.int .i64) _ 3 ?hg (N := 7) ?hd (xs := ([] : List Int)) (inner := []) (ok := fun _ => True) (okp := fun _ => True) ?hr ?hp (fun _ hk => hk) trivial (Below.refl _ _) (Nat.le_refl _) (by simp) ?_; (case hd => rfl); (case hg => rfl); (case hr => first | (go_simp; done) | (go_simp; rfl)); (case hp => exact (Reps.none _ _)); intro v109002 w4 ho5 hb hg_ hnew_; clear hg_ hnew_; (first | rw [← Ny109001.out] at ho5 | (simp only [Int.reduceToNat] at ho5; rw [← Ny109001.out] at ho5)); have HO109003 := aQ (Kd.R_lower ho5 (below_size (pB HB.out))); replace HB := aQ (below_step (pB HB.out) hb); clear hb ho5) | (go_at_call 110; (with_reducible refine (spec_l3Sets.calls k 8 _ _ l0 true _ ?side1 ?side2 A2.out).mono ?_); (case side1 => exact pC (Kd.C_below HR0.out HB.out)); (case side2 => exact HC0.out); rintro e w' ⟨rfl, ⟨nd, rfl⟩⟩; (try first | exact ⟨rfl, _, World.drewN_drewN _ _ _⟩ | exact ⟨rfl, _, Eq.trans (World.drewN_drewN _ _ _) (congrArg (World.drewN _) (Nat.add_assoc _ _ _))⟩))); try go_wp2_with (first | ((with_reducible refine gate_dst (N := 7) rfl ?_); refine Kd.R_lit (Kd.int .i64) _ 3 ?hg (N := 7) ?hd (xs := ([] : List Int)) (inner := []) (ok := fun _ => True) (okp := fun _ => True) ?hr ?hp (fun _ hk => hk) trivial (Below.refl _ _) (Nat.le_refl _) (by simp) ?_; (case hd => rfl); (case hg => rfl); (case hr => first | (go_simp; done) | (go_simp; rfl)); (case hp => exact (Reps.none _ _)); intro v109002 w4 ho5 hb hg_ hnew_; clear hg_ hnew_; (first | rw [← Ny109001.out] at ho5 | (simp only [Int.reduceToNat] at ho5; rw [← Ny109001.out] at ho5)); have HO109003 := aQ (Kd.R_lower ho5 (below_size (pB HB.out))); replace HB := aQ (below_step (pB HB.out) hb); clear hb ho5) | (go_at_call 110; (with_reducible refine (spec_l3Sets.calls k 8 _ _ l0 true _ ?side1 ?side2 A2.out).mono ?_); (case side1 => exact pC (Kd.C_below HR0.out HB.out)); (case side2 => exact HC0.out); rintro e w' ⟨rfl, ⟨nd, rfl⟩⟩; (try first | exact ⟨rfl, _, World.drewN_drewN _ _ _⟩ | exact ⟨rfl, _, Eq.trans (World.drewN_drewN _ _ _) (congrArg (World.drewN _) (Nat.add_assoc _ _ _))⟩))))
  go_loopg [3, 4] k (fun kq v3 v4 w' => ∃ (x3_1 : List Int) (x4_1 : Int), v4 = .int .i64 x4_1 ∧ Aside0 (spec_MaximalSets.l0 kq l0 x3_1 x4_1 = some r) ∧ Aside0 (kq ≤ k) ∧ Aside0 (Kd.R (Kd.int .i64) 3 w' w.heap.size (fun _ => True) v3 x3_1) ∧ Aside0 (Below w.heap.size w w'))
  case atStart => exact ⟨(y109001), (0), rs_, H', ⟨Nat.le_refl _⟩, ⟨pR HO109003.out⟩, ⟨pB HB.out⟩⟩
  case round =>
   clear H'
   try clear c1
   try clear p2
   try clear c3
   obtain ⟨x3_1, x4_1, rfl, HA, HK1, HO_3, HB⟩ := hrel
   cases gk with
   | zero => exact absurd HA.out (by simp [spec_MaximalSets.l0])
   | succ k1 =>
    have H := HA.out
    clear HA
    simp only [spec_MaximalSets.l0] at H
    by_cases c6 : x4_1 < (l0.length : Int)
    ·rw [if_pos c6] at H
     have c6b0 : decide (x4_1 < (l0.length : Int)) = true := decide_eq_true c6
     clear c6
     have H' := aQ H
     clear H
     go_wp2
     repeat (go_quiet (fail); try go_wp2)
     go_loopg [5, 6] k1 (fun kq v5 v6 w' => ∃ (x5_2 : Bool) (x6_2 : Int), v5 = .bool x5_2 ∧ v6 = .int .i64 x6_2 ∧ Aside0 (spec_MaximalSets.l1 kq l0 x3_1 x4_1 x5_2 x6_2 = some r) ∧ Aside0 (kq ≤ k1) ∧ Aside0 (Kd.R (Kd.int .i64) 3 w' w.heap.size (fun _ => True) u3 x3_1) ∧ Aside0 (Below w.heap.size w w'))
     case atStart => exact ⟨(true), (0), rs_, rs_, H', ⟨Nat.le_refl _⟩, ⟨pR HO_3.out⟩, ⟨pB HB.out⟩⟩
     case round =>
      clear H'
      try clear c1
      try clear p2
      try clear c3
      try clear c6
      try clear c6b0
      try clear p2
      obtain ⟨x5_2, x6_2, rfl, rfl, HA, HK2, HO_3, HB⟩ := hrel
      cases gk with
      | zero => exact absurd HA.out (by simp [spec_MaximalSets.l1])
      | succ k2 =>
       have H := HA.out
       clear HA
       simp only [spec_MaximalSets.l1] at H
       by_cases c7 : x6_2 < (l0.length : Int)
       ·rw [if_pos c7] at H
        have c7b0 : decide (x6_2 < (l0.length : Int)) = true := decide_eq_true c7
        clear c7
        by_cases c8 : x5_2 = true
        ·subst c8
         have H1 : (if 0 ≤ x6_2 then (if 0 ≤ x4_1 then (if x4_1 < (l0.length : Int) then (if (rd l0 x6_2) = (rd l0 x4_1) then (spec_MaximalSets.l1 k2 l0 x3_1 x4_1 true (wrap64 (x6_2 + 1))) else (spec_MaximalSets.l1 k2 l0 x3_1 x4_1 ((Go.bits .and .i64 (rd l0 x6_2) (rd l0 x4_1)) != (rd l0 x4_1)) (wrap64 (x6_2 + 1)))) else (none)) else (none)) else (none)) = some r := by rw [if_pos rfl] at H; exact H
         clear H
         have H := H1
         clear H1
         by_cases c9 : 0 ≤ x6_2
         ·rw [if_pos c9] at H
          have c9b0 : decide (0 ≤ x6_2) = true := decide_eq_true c9
          clear c9
          by_cases c10 : 0 ≤ x4_1
          ·rw [if_pos c10] at H
           have c10b0 : decide (0 ≤ x4_1) = true := decide_eq_true c10
           clear c10
           by_cases c11 : x4_1 < (l0.length : Int)
           ·rw [if_pos c11] at H
            have c11b0 : decide (x4_1 < (l0.length : Int)) = true := decide_eq_true c11
            clear c11
            by_cases c12 : (rd l0 x6_2) = (rd l0 x4_1)
            ·rw [if_pos c12] at H
             have c12b0 : ((rd l0 x6_2) == (rd l0 x4_1)) = true := beq_iff_eq.mpr c12
             have c12b1 : ((rd l0 x6_2) != (rd l0 x4_1)) = false := bne_eq_false_iff_eq.mpr c12
             clear c12
             have H' := aQ H
             clear H
             have p109008 : 0 ≤ (x6_2 : Int) := of_decide_eq_true as_
             have q109008 : x6_2 < (l0.length : Int) := of_decide_eq_true as_
             obtain ⟨ad109008, e109008, hx109008_0⟩ := Kd.at_int HR0.out x6_2 p109008 q109008
             cases e109008
             replace hx109008_0 := (HB.out.cell (World.block_lt_of_cell? w _ hx109008_0)).trans hx109008_0
             replace p109008 := eq_true p109008
             replace q109008 := eq_true q109008
             have p109009 : 0 ≤ (x4_1 : Int) := of_decide_eq_true as_
             have q109009 : x4_1 < (l0.length : Int) := of_decide_eq_true as_
             obtain ⟨ad109009, e109009, hx109009_0⟩ := Kd.at_int HR0.out x4_1 p109009 q109009
             obtain rfl : ad109008 = ad109009 := (by injection e109009)
             replace hx109009_0 := (HB.out.cell (World.block_lt_of_cell? w _ hx109009_0)).trans hx109009_0
             replace p109009 := eq_true p109009
             replace q109009 := eq_true q109009
             go_wp2
             repeat (go_quiet (fail); try go_wp2)
             go_roundg k2
             case measure => have := HK1.out; have := HK2.out; omega
             case rel => exact ⟨(true), (wrap64 (x6_2 + 1)), rs_, rs_, H', ⟨by have := HK1.out; have := HK2.out; omega⟩, ⟨pR HO_3.out⟩, ⟨pB HB.out⟩⟩
            ·rw [if_neg c12] at H
             have c12b0 : ((rd l0 x6_2) == (rd l0 x4_1)) = false := beq_eq_false_iff_ne.mpr c12
             have c12b1 : ((rd l0 x6_2) != (rd l0 x4_1)) = true := bne_iff_ne.mpr c12
             have H' := aQ H
             clear H
             have p109008 : 0 ≤ (x6_2 : Int) := of_decide_eq_true as_
             have q109008 : x6_2 < (l0.length : Int) := of_decide_eq_true as_
             obtain ⟨ad109008, e109008, hx109008_0⟩ := Kd.at_int HR0.out x6_2 p109008 q109008
             cases e109008
             replace hx109008_0 := (HB.out.cell (World.block_lt_of_cell? w _ hx109008_0)).trans hx109008_0
             replace p109008 := eq_true p109008
             replace q109008 := eq_true q109008
             have p109009 : 0 ≤ (x4_1 : Int) := of_decide_eq_true as_
             have q109009 : x4_1 < (l0.length : Int) := of_decide_eq_true as_
             obtain ⟨ad109009, e109009, hx109009_0⟩ := Kd.at_int HR0.out x4_1 p109009 q109009
             obtain rfl : ad109008 = ad109009 := (by injection e109009)
             replace hx109009_0 := (HB.out.cell (World.block_lt_of_cell? w _ hx109009_0)).trans hx109009_0
             replace p109009 := eq_true p109009
             replace q109009 := eq_true q109009
             have p109010 : 0 ≤ (x6_2 : Int) := of_decide_eq_true as_
             have q109010 : x6_2 < (l0.length : Int) := of_decide_eq_true as_
             obtain ⟨ad109010, e109010, hx109010_0⟩ := Kd.at_int HR0.out x6_2 p109010 q109010
             obtain rfl : ad109008 = ad109010 := (by injection e109010)
             replace hx109010_0 := (HB.out.cell (World.block_lt_of_cell? w _ hx109010_0)).trans hx109010_0
             replace p109010 := eq_true p109010
             replace q109010 := eq_true q109010
             have p109011 : 0 ≤ (x4_1 : Int) := of_decide_eq_true as_
             have q109011 : x4_1 < (l0.length : Int) := of_decide_eq_true as_
             obtain ⟨ad109011, e109011, hx109011_0⟩ := Kd.at_int HR0.out x4_1 p109011 q109011
             obtain rfl : ad109008 = ad109011 := (by injection e109011)
             replace hx109011_0 := (HB.out.cell (World.block_lt_of_cell? w _ hx109011_0)).trans hx109011_0
             replace p109011 := eq_true p109011
             replace q109011 := eq_true q109011
             have p109012 : 0 ≤ (x4_1 : Int) := of_decide_eq_true as_
             have q109012 : x4_1 < (l0.length : Int) := of_decide_eq_true as_
             obtain ⟨ad109012, e109012, hx109012_0⟩ := Kd.at_int HR0.out x4_1 p109012 q109012
             obtain rfl : ad109008 = ad109012 := (by injection e109012)
             replace hx109012_0 := (HB.out.cell (World.block_lt_of_cell? w _ hx109012_0)).trans hx109012_0
             replace p109012 := eq_true p109012
             replace q109012 := eq_true q109012
             go_wp2
             repeat (go_quiet (fail); try go_wp2)
             go_roundg k2
             case measure => have := HK1.out; have := HK2.out; omega
             case rel => exact ⟨(((Go.bits .and .i64 (rd l0 x6_2) (rd l0 x4_1)) != (rd l0 x4_1))), (wrap64 (x6_2 + 1)), rs_, rs_, H', ⟨by have := HK1.out; have := HK2.out; omega⟩, ⟨pR HO_3.out⟩, ⟨pB HB.out⟩⟩
           ·rw [if_neg c11] at H
            exact absurd H (by simp)
          ·rw [if_neg c10] at H
           exact absurd H (by simp)
         ·rw [if_neg c9] at H
          exact absurd H (by simp)
        ·replace c8 := Bool.eq_false_iff.mpr c8
         subst c8
         have H1 : (spec_MaximalSets.l1 k2 l0 x3_1 x4_1 false (wrap64 (x6_2 + 1))) = some r := by rw [if_neg (show ¬ (false = true) by decide)] at H; exact H
         clear H
         have H := H1
         clear H1
         have H' := aQ H
         clear H
         go_wp2
         repeat (go_quiet (fail); try go_wp2)
         go_roundg k2
         case measure => have := HK1.out; have := HK2.out; omega
         case rel => exact ⟨(false), (wrap64 (x6_2 + 1)), rs_, rs_, H', ⟨by have := HK1.out; have := HK2.out; omega⟩, ⟨pR HO_3.out⟩, ⟨pB HB.out⟩⟩
       ·rw [if_neg c7] at H
        have c7b0 : decide (x6_2 < (l0.length : Int)) = false := decide_eq_false c7
        clear c7
        by_cases c13 : x5_2 = true
        ·subst c13
         have H1 : (if 0 ≤ x4_1 then (if x4_1 < (l0.length : Int) then (if x3_1.length < 17592186044416 then (spec_MaximalSets.l0 k2 l0 (x3_1 ++ [rd l0 x4_1]) (wrap64 (x4_1 + 1))) else (none)) else (none)) else (none)) = some r := by rw [if_pos rfl] at H; exact H
         clear H
         have H := H1
         clear H1
         by_cases c14 : 0 ≤ x4_1
         ·rw [if_pos c14] at H
          have c14b0 : decide (0 ≤ x4_1) = true := decide_eq_true c14
          clear c14
          by_cases c15 : x4_1 < (l0.length : Int)
          ·rw [if_pos c15] at H
           have c15b0 : decide (x4_1 < (l0.length : Int)) = true := decide_eq_true c15
           clear c15
           by_cases c16 : x3_1.length < 17592186044416
           ·rw [if_pos c16] at H
            have LMc16 := aQ c16
            clear c16
            obtain ⟨y109014, hy109014⟩ : ∃ y_ : List Int, y_ = (x3_1 ++ [rd l0 x4_1]) := ⟨_, rfl⟩
            replace H : (spec_MaximalSets.l0 k2 l0 y109014 (wrap64 (x4_1 + 1))) = some r := by first | (rw [hy109014]; with_reducible exact H) | (have H2_ := (Option.bind_some _ _).symm.trans H; rw [hy109014]; with_reducible exact H2_) | (have H2_ := (Option.bind_some _ _).symm.trans H; with_reducible exact H2_) | with_reducible exact H | (rw [hy109014]; exact H) | exact H
            have Ny109014 := aQ hy109014
            clear hy109014
            have H' := aQ H
            clear H
            have p109013 : 0 ≤ (x4_1 : Int) := of_decide_eq_true as_
            have q109013 : x4_1 < (l0.length : Int) := of_decide_eq_true as_
            obtain ⟨ad109013, e109013, hx109013_0⟩ := Kd.at_int HR0.out x4_1 p109013 q109013
            cases e109013
            replace hx109013_0 := (HB.out.cell (World.block_lt_of_cell? w _ hx109013_0)).trans hx109013_0
            replace p109013 := eq_true p109013
            replace q109013 := eq_true q109013
            go_wp2_with (first | ((with_reducible refine gate_builtin (b := .append) (xs := #[.tmp 53, .tmp 58]) rfl ?_); at_builtin; refine Kd.R_append (Kd.int .i64) (w0 := w) w.heap.size rfl (.tmp 53) (.tmp 58) 22 3 (.int .i64 0) 8 rfl Try.underlying22 info3 rfl (by decide) (by omega) u3 x3_1 (rd l0 x4_1) [.int .i64 (rd l0 x4_1)] (fun _ => True) (fun _ => False) rfl rfl ?aP (fun _ hk => hk.elim) ?aF ?aO ?aB ?aS ?aL ?_; (case aP => exact rfl); (case aB => exact (pB HB.out)); (case aF => exact (fun _ _ => trivial)); (case aO => exact (pR HO_3.out)); (case aS => exact (below_size (pB HB.out))); (case aL => have := LMc16.out; omega); intro v109015 w17 ho hb hg hat; rw [← Ny109014.out] at ho; replace HB := aQ (hb); have HO109016 := aQ (ho); clear HO_3; clear ho hb hg hat))
            repeat (go_quiet (first | ((with_reducible refine gate_builtin (b := .append) (xs := #[.tmp 53, .tmp 58]) rfl ?_); at_builtin; refine Kd.R_append (Kd.int .i64) (w0 := w) w.heap.size rfl (.tmp 53) (.tmp 58) 22 3 (.int .i64 0) 8 rfl Try.underlying22 info3 rfl (by decide) (by omega) u3 x3_1 (rd l0 x4_1) [.int .i64 (rd l0 x4_1)] (fun _ => True) (fun _ => False) rfl rfl ?aP (fun _ hk => hk.elim) ?aF ?aO ?aB ?aS ?aL ?_; (case aP => exact rfl); (case aB => exact (pB HB.out)); (case aF => exact (fun _ _ => trivial)); (case aO => exact (pR HO_3.out)); (case aS => exact (below_size (pB HB.out))); (case aL => have := LMc16.out; omega); intro v109015 w17 ho hb hg hat; rw [← Ny109014.out] at ho; replace HB := aQ (hb); have HO109016 := aQ (ho); clear HO_3; clear ho hb hg hat)); try go_wp2_with (first | ((with_reducible refine gate_builtin (b := .append) (xs := #[.tmp 53, .tmp 58]) rfl ?_); at_builtin; refine Kd.R_append (Kd.int .i64) (w0 := w) w.heap.size rfl (.tmp 53) (.tmp 58) 22 3 (.int .i64 0) 8 rfl Try.underlying22 info3 rfl (by decide) (by omega) u3 x3_1 (rd l0 x4_1) [.int .i64 (rd l0 x4_1)] (fun _ => True) (fun _ => False) rfl rfl ?aP (fun _ hk => hk.elim) ?aF ?aO ?aB ?aS ?aL ?_; (case aP => exact rfl); (case aB => exact (pB HB.out)); (case aF => exact (fun _ _ => trivial)); (case aO => exact (pR HO_3.out)); (case aS => exact (below_size (pB HB.out))); (case aL => have := LMc16.out; omega); intro v109015 w17 ho hb hg hat; rw [← Ny109014.out] at ho; replace HB := aQ (hb); have HO109016 := aQ (ho); clear HO_3; clear ho hb hg hat)))
            go_roundg k2
            case measure => have := HK1.out; have := HK2.out; omega
            case rel => exact ⟨(y109014), (wrap64 (x4_1 + 1)), rs_, H', ⟨by have := HK1.out; have := HK2.out; omega⟩, ⟨pR HO109016.out⟩, ⟨pB HB.out⟩⟩
           ·rw [if_neg c16] at H
            exact absurd H (by simp)
          ·rw [if_neg c15] at H
           exact absurd H (by simp)
         ·rw [if_neg c14] at H
          exact absurd H (by simp)
        ·replace c13 := Bool.eq_false_iff.mpr c13
         subst c13
         have H1 : (spec_MaximalSets.l0 k2 l0 x3_1 (wrap64 (x4_1 + 1))) = some r := by rw [if_neg (show ¬ (false = true) by decide)] at H; exact H
         clear H
         have H := H1
         clear H1
         have H' := aQ H
         clear H
         go_wp2
         repeat (go_quiet (fail); try go_wp2)
         go_roundg k2
         case measure => have := HK1.out; have := HK2.out; omega
         case rel => exact ⟨(x3_1), (wrap64 (x4_1 + 1)), rs_, H', ⟨by have := HK1.out; have := HK2.out; omega⟩, ⟨pR HO_3.out⟩, ⟨pB HB.out⟩⟩
    ·rw [if_neg c6] at H
     have c6b0 : decide (x4_1 < (l0.length : Int)) = false := decide_eq_false c6
     clear c6
     replace H := Option.bind_eq_some_iff.mp H
     obtain ⟨t109005, A180, H⟩ := H
     replace H : (some t109005) = some r := H
     have A18 := aQ A180
     clear A180
     obtain rfl := Option.some.inj H
     obtain ⟨Ao19, co19, eo19⟩ := Kd.R_slice HO_3.out
     subst eo19
     go_wp2_with (first | (go_at_call 143; (with_reducible refine (spec_SortSets.calls k1 _ _ x3_1 t109005 _ ?side1 ?side2 A18.out).mono ?_); (case side1 => repeat (first | exact (Kd.R_reads' HO_3.out).2.2 | (with_reducible refine Kd.C_alloc ?_ _) | (with_reducible refine Kd.C_drewN ?_ _) | (with_reducible refine Kd.C_drew ?_))); (case side2 => exact (Kd.R_reads' HO_3.out).2.1); rintro e w20 ⟨v109006, rfl, ho0, hb⟩; have HO109007 := aQ (Kd.R_lower (Kd.R_new' ho0 (Kd.R_lt (pR HO_3.out))) (below_size (pB HB.out))); replace HO_3 := aQ (Kd.R_elder' (pR HO_3.out) (Kd.R_base ho0) hb); replace HB := aQ (below_step (pB HB.out) hb); (try clear hb); (try clear ho0)))
     repeat (go_quiet (first | (go_at_call 143; (with_reducible refine (spec_SortSets.calls k1 _ _ x3_1 t109005 _ ?side1 ?side2 A18.out).mono ?_); (case side1 => repeat (first | exact (Kd.R_reads' HO_3.out).2.2 | (with_reducible refine Kd.C_alloc ?_ _) | (with_reducible refine Kd.C_drewN ?_ _) | (with_reducible refine Kd.C_drew ?_))); (case side2 => exact (Kd.R_reads' HO_3.out).2.1); rintro e w20 ⟨v109006, rfl, ho0, hb⟩; have HO109007 := aQ (Kd.R_lower (Kd.R_new' ho0 (Kd.R_lt (pR HO_3.out))) (below_size (pB HB.out))); replace HO_3 := aQ (Kd.R_elder' (pR HO_3.out) (Kd.R_base ho0) hb); replace HB := aQ (below_step (pB HB.out) hb); (try clear hb); (try clear ho0))); try go_wp2_with (first | (go_at_call 143; (with_reducible refine (spec_SortSets.calls k1 _ _ x3_1 t109005 _ ?side1 ?side2 A18.out).mono ?_); (case side1 => repeat (first | exact (Kd.R_reads' HO_3.out).2.2 | (with_reducible refine Kd.C_alloc ?_ _) | (with_reducible refine Kd.C_drewN ?_ _) | (with_reducible refine Kd.C_drew ?_))); (case side2 => exact (Kd.R_reads' HO_3.out).2.1); rintro e w20 ⟨v109006, rfl, ho0, hb⟩; have HO109007 := aQ (Kd.R_lower (Kd.R_new' ho0 (Kd.R_lt (pR HO_3.out))) (below_size (pB HB.out))); replace HO_3 := aQ (Kd.R_elder' (pR HO_3.out) (Kd.R_base ho0) hb); replace HB := aQ (below_step (pB HB.out) hb); (try clear hb); (try clear ho0))))
     go_ret
     exact ⟨_, by first | rfl | (simp [errW_none, errW_some] <;> rfl) | (simp [*, errW_none, errW_some] <;> rfl), by (with_reducible repeat (first | apply Kd.R_alloc | apply Kd.R_drewN | apply Kd.R_drew)); exact Kd.R_mono HO109007.out (fun _ hk => trivial), pB HB.out⟩
 ·replace c3 := Bool.eq_false_iff.mpr c3
  subst c3
  have H1 : (some y109001) = some r := by rw [if_neg (show ¬ (false = true) by decide)] at H; exact H
  clear H
  have H := H1
  clear H1
  obtain rfl := Option.some.inj H
  go_enter Try.func108, Try.ntmps108
  go_wp2_with (first | ((with_reducible refine gate_dst (N := 7) rfl ?_); refine Kd.R_lit (Kd.int .i64) _ 3 ?hg (N := 7) ?hd (xs := ([] : List Int)) (inner := []) (ok := fun _ => True) (okp := fun _ => True) ?hr ?hp (fun _ hk => hk) trivial (Below.refl _ _) (Nat.le_refl _) (by simp) ?_; (case hd => rfl); (case hg => rfl); (case hr => first | (go_simp; done) | (go_simp; rfl)); (case hp => exact (Reps.none _ _)); intro v109002 w21 ho22 hb hg_ hnew_; clear hg_ hnew_; (first | rw [← Ny109001.out] at ho22 | (simp only [Int.reduceToNat] at ho22; rw [← Ny109001.out] at ho22)); have HO109003 := aQ (Kd.R_lower ho22 (below_size (pB HB.out))); replace HB := aQ (below_step (pB HB.out) hb); clear hb ho22) | (go_at_call 110; (with_reducible refine (spec_l3Sets.calls k 8 _ _ l0 false _ ?side1 ?side2 A2.out).mono ?_); (case side1 => exact pC (Kd.C_below HR0.out HB.out)); (case side2 => exact HC0.out); rintro e w' ⟨rfl, ⟨nd, rfl⟩⟩; (try first | exact ⟨rfl, _, World.drewN_drewN _ _ _⟩ | exact ⟨rfl, _, Eq.trans (World.drewN_drewN _ _ _) (congrArg (World.drewN _) (Nat.add_assoc _ _ _))⟩)))
  repeat (go_quiet (first | ((with_reducible refine gate_dst (N := 7) rfl ?_); refine Kd.R_lit (Kd.int .i64) _ 3 ?hg (N := 7) ?hd (xs := ([] : List Int)) (inner := []) (ok := fun _ => True) (okp := fun _ => True) ?hr ?hp (fun _ hk => hk) trivial (Below.refl _ _) (Nat.le_refl _) (by simp) ?_; (case hd => rfl); (case hg => rfl); (case hr => first | (go_simp; done) | (go_simp; rfl)); (case hp => exact (Reps.none _ _)); intro v109002 w21 ho22 hb hg_ hnew_; clear hg_ hnew_; (first | rw [← Ny109001.out] at ho22 | (simp only [Int.reduceToNat] at ho22; rw [← Ny109001.out] at ho22)); have HO109003 := aQ (Kd.R_lower ho22 (below_size (pB HB.out))); replace HB := aQ (below_step (pB HB.out) hb); clear hb ho22) | (go_at_call 110; (with_reducible refine (spec_l3Sets.calls k 8 _ _ l0 false _ ?side1 ?side2 A2.out).mono ?_); (case side1 => exact pC (Kd.C_below HR0.out HB.out)); (case side2 => exact HC0.out); rintro e w' ⟨rfl, ⟨nd, rfl⟩⟩; (try first | exact ⟨rfl, _, World.drewN_drewN _ _ _⟩ | exact ⟨rfl, _, Eq.trans (World.drewN_drewN _ _ _) (congrArg (World.drewN _) (Nat.add_assoc _ _ _))⟩))); try go_wp2_with (first | ((with_reducible refine gate_dst (N := 7) rfl ?_); refine Kd.R_lit (Kd.int .i64) _ 3 ?hg (N := 7) ?hd (xs := ([] : List Int)) (inner := []) (ok := fun _ => True) (okp := fun _ => True) ?hr ?hp (fun _ hk => hk) trivial (Below.refl _ _) (Nat.le_refl _) (by simp) ?_; (case hd => rfl); (case hg => rfl); (case hr => first | (go_simp; done) | (go_simp; rfl)); (case hp => exact (Reps.none _ _)); intro v109002 w21 ho22 hb hg_ hnew_; clear hg_ hnew_; (first | rw [← Ny109001.out] at ho22 | (simp only [Int.reduceToNat] at ho22; rw [← Ny109001.out] at ho22)); have HO109003 := aQ (Kd.R_lower ho22 (below_size (pB HB.out))); replace HB := aQ (below_step (pB HB.out) hb); clear hb ho22) | (go_at_call 110; (with_reducible refine (spec_l3Sets.calls k 8 _ _ l0 false _ ?side1 ?side2 A2.out).mono ?_); (case side1 => exact pC (Kd.C_below HR0.out HB.out)); (case side2 => exact HC0.out); rintro e w' ⟨rfl, ⟨nd, rfl⟩⟩; (try first | exact ⟨rfl, _, World.drewN_drewN _ _ _⟩ | exact ⟨rfl, _, Eq.trans (World.drewN_drewN _ _ _) (congrArg (World.drewN _) (Nat.add_assoc _ _ _))⟩))))
  go_ret
  exact ⟨_, by first | rfl | (simp [errW_none, errW_some] <;> rfl) | (simp [*, errW_none, errW_some] <;> rfl), by (with_reducible repeat (first | apply Kd.R_alloc | apply Kd.R_drewN | apply Kd.R_drew)); exact HO109003.out, pB HB.out⟩
/-! ### spec_FromSets: function 49 -/
def spec_FromSets.l0 : Nat → Int → List Int → List Int → Int → Option (Int × List Int)
 | 0, _, _, _, _ => none
 | k + 1, x0, x1, x5, x6 => (spec_FullSet.f x0).bind fun t50006 => (if x6 ≤ t50006 then ((spec_ElementsOf.f k x6).bind fun t50010 => ((spec_l15Assign.f k x1 t50010 (([] : List Int))).bind fun bt50016 => (if bt50016.2 = true then (if x5.length < 17592186044416 then (spec_FromSets.l0 k x0 x1 (x5 ++ [x6]) (wrap64 (x6 + 1))) else (none)) else (spec_FromSets.l0 k x0 x1 x5 (wrap64 (x6 + 1)))))) else ((spec_MaximalSets.f k x5).bind fun t50007 => (some (x0, t50007))))
def spec_FromSets.f (k : Nat) (a0 : Int) (l1 : List Int) : Option (Int × List Int) := (spec_AreLists.f k a0 l1).bind fun t50002 => (if t50002 = true then (spec_FromSets.l0 k a0 l1 (([] : List Int)) 0) else (some (0, ([] : List Int))))
theorem spec_FromSets.mono_l : ∀ k, (∀ y0 y1 y2 y3, LeO (spec_FromSets.l0 k y0 y1 y2 y3) (spec_FromSets.l0 (k + 1) y0 y1 y2 y3))
 | 0 => fun _ _ _ _ r h => by simp [spec_FromSets.l0] at h
 | k + 1 => by
  have ih0 := spec_FromSets.mono_l k
  ·intro y0 y1 y2 y3
   unfold spec_FromSets.l0
   repeat' first
   | (with_reducible exact ih0 _ _ _ _)
   | (with_reducible exact spec_AreLists.mono _ _ _)
   | (with_reducible exact spec_ElementsOf.mono _ _)
   | (with_reducible exact spec_MaximalSets.mono _ _)
   | (with_reducible exact spec_l15Assign.mono _ _ _ _)
   | (with_reducible exact LeO.refl _)
   | (with_reducible exact LeO.none _)
   | (with_reducible refine LeO.ite ?_ ?_)
   | (with_reducible refine LeO.bind ?_ (fun _ => ?_))
   | exact ih0 _ _ _ _
   | exact spec_AreLists.mono _ _ _
   | exact spec_ElementsOf.mono _ _
   | exact spec_MaximalSets.mono _ _
   | exact spec_l15Assign.mono _ _ _ _
   | exact LeO.none _
   | refine LeO.ite ?_ ?_
   | refine LeO.bind ?_ (fun _ => ?_)
theorem spec_FromSets.mono : ∀ a0 a1 k, LeO (spec_FromSets.f k a0 a1) (spec_FromSets.f (k + 1) a0 a1) := by
 intro a0 a1 k
 have ih0 := spec_FromSets.mono_l k
 unfold spec_FromSets.f
 repeat' first
   | (with_reducible exact ih0 _ _ _ _)
   | (with_reducible exact spec_AreLists.mono _ _ _)
   | (with_reducible exact spec_ElementsOf.mono _ _)
   | (with_reducible exact spec_MaximalSets.mono _ _)
   | (with_reducible exact spec_l15Assign.mono _ _ _ _)
   | (with_reducible exact LeO.refl _)
   | (with_reducible exact LeO.none _)
   | (with_reducible refine LeO.ite ?_ ?_)
   | (with_reducible refine LeO.bind ?_ (fun _ => ?_))
   | exact ih0 _ _ _ _
   | exact spec_AreLists.mono _ _ _
   | exact spec_ElementsOf.mono _ _
   | exact spec_MaximalSets.mono _ _
   | exact spec_l15Assign.mono _ _ _ _
   | exact LeO.none _
   | refine LeO.ite ?_ ?_
   | refine LeO.bind ?_ (fun _ => ?_)
set_option maxHeartbeats 8000000 in
set_option maxRecDepth 100000 in
theorem spec_FromSets.calls (k : Nat) (a0 : Int) (A1 : Option Addr) (c1 : Nat) (l1 : List Int) (r1 : Int) (r2 : List Int) (w : World) (hr1 : Kd.C (Kd.int .i64) w A1 l1.length l1) (hc1 : l1.length ≤ c1) (h : spec_FromSets.f k a0 l1 = some (r1, r2)) :
  Calls Try.prog 49 #[.int .i64 a0, .slice A1 l1.length c1] w fun e w' => ∃ v1_ : Value, e = .returned (.agg #[.int .i64 r1, v1_]) ∧ Kd.R (Kd.int .i64) 3 w' w.heap.size (fun _ => True) v1_ r2 ∧ Below w.heap.size w w' := by
 have hu28 := Try.underlying28
 have HR1 := aQ hr1
 have HC1 := aQ hc1
 clear hr1 hc1
 have HB := aQ (Below.refl w.heap.size w)
 have H : ((spec_AreLists.f k a0 l1).bind fun t50002 => (if t50002 = true then (spec_FromSets.l0 k a0 l1 (([] : List Int)) 0) else (some (0, ([] : List Int))))) = some (r1, r2) := h
 clear h
 replace H := Option.bind_eq_some_iff.mp H
 obtain ⟨t50002, A30, H⟩ := H
 replace H : (if t50002 = true then (spec_FromSets.l0 k a0 l1 (([] : List Int)) 0) else (some (0, ([] : List Int)))) = some (r1, r2) := H
 have A3 := aQ A30
 clear A30
 by_cases c4 : t50002 = true
 ·subst c4
  have H1 : (spec_FromSets.l0 k a0 l1 (([] : List Int)) 0) = some (r1, r2) := by rw [if_pos rfl] at H; exact H
  clear H
  have H := H1
  clear H1
  obtain ⟨y50003, hy50003⟩ : ∃ y_ : List Int, y_ = (([] : List Int)) := ⟨_, rfl⟩
  replace H : (spec_FromSets.l0 k a0 l1 y50003 0) = some (r1, r2) := by first | (rw [hy50003]; with_reducible exact H) | (have H2_ := (Option.bind_some _ _).symm.trans H; rw [hy50003]; with_reducible exact H2_) | (have H2_ := (Option.bind_some _ _).symm.trans H; with_reducible exact H2_) | with_reducible exact H | (rw [hy50003]; exact H) | exact H
  have Ny50003 := aQ hy50003
  clear hy50003
  have H' := aQ H
  clear H
  go_enter Try.func49, Try.ntmps49
  go_wp2_with (first | ((with_reducible refine gate_dst (N := 4) rfl ?_); refine box_event ?hg (N := 4) ?hd (cs := #[.int .i64 0, .slice none 0 0]) (t := 28) ?hr ?_; (case hd => rfl); (case hg => rfl); (case hr => first | (go_simp; done) | (go_simp; rfl)); intro gb50001 hg w5 hbox hb; have BK50001 := aQ (hbox); have GW50001 := aQ ((by rw [hg]; exact (below_size (pB HB.out)) : w.heap.size ≤ gb50001)); have GE50001 := aQ ((by rw [hg]; exact (below_size (pB HB.out)) : w.heap.size ≤ gb50001)); replace HB := aQ (below_step (pB HB.out) hb); clear hb hbox hg) | ((with_reducible refine gate_callee (f := 51) rfl ?_); refine goesL_ (some 11) rfl rfl Try.func51 (by kernel_rfl) rfl #[.int .i64 a0, .slice A1 l1.length c1] rfl lm ?_; (with_reducible refine (spec_AreLists.calls k a0 _ _ l1 true _ ?side1 ?side2 A3.out).mono ?_); (case side1 => exact pC (Kd.C_below HR1.out HB.out)); (case side2 => exact HC1.out); rintro e w' ⟨rfl, ⟨nd, rfl⟩⟩; refine ⟨_, rfl, ?_⟩) | ((with_reducible refine gate_dst (N := 14) rfl ?_); refine Kd.R_lit (Kd.int .i64) _ 3 ?hg (N := 14) ?hd (xs := ([] : List Int)) (inner := []) (ok := fun _ => True) (okp := fun _ => True) ?hr ?hp (fun _ hk => hk) trivial (Below.refl _ _) (Nat.le_refl _) (by simp) ?_; (case hd => rfl); (case hg => rfl); (case hr => first | (go_simp; done) | (go_simp; rfl)); (case hp => exact (Reps.none _ _)); intro v50004 w6 ho7 hb hg_ hnew_; clear hg_ hnew_; (first | rw [← Ny50003.out] at ho7 | (simp only [Int.reduceToNat] at ho7; rw [← Ny50003.out] at ho7)); have HO50005 := aQ (Kd.R_lower ho7 (below_size (pB1 HB.out GE50001.out))); replace BK50001 := aQ (blk_below (g := gb50001) (o := .cells #[.int .i64 0, .slice none 0 0] 28 (0, 0)) (pk BK50001.out) hb); replace HB := aQ (below_step (pB1 HB.out GE50001.out) hb); clear hb ho7))
  go_loopg [5, 6] k (fun kq v5 v6 w' => ∃ (x5_1 : List Int) (x6_1 : Int), v6 = .int .i64 x6_1 ∧ Aside0 (spec_FromSets.l0 kq a0 l1 x5_1 x6_1 = some (r1, r2)) ∧ Aside0 (kq ≤ k) ∧ Aside0 (Kd.R (Kd.int .i64) 3 w' w.heap.size (fun _ => True) v5 x5_1) ∧ Aside0 (w'.heap[gb50001]? = some (.cells #[.int .i64 0, (.slice none 0 0)] 28 (0, 0))) ∧ Aside0 (Below w.heap.size w w'))
  case atStart => exact ⟨(y50003), (0), rs_, H', ⟨Nat.le_refl _⟩, ⟨pR HO50005.out⟩, ⟨pk BK50001.out⟩, ⟨pB1 HB.out GE50001.out⟩⟩
  case round =>
   clear H'
   try clear c1
   try clear p2
   try clear c4
   try clear c5
   obtain ⟨x5_1, x6_1, rfl, HA, HK1, HO_5, BK50001, HB⟩ := hrel
   cases gk with
   | zero => exact absurd HA.out (by simp [spec_FromSets.l0])
   | succ k1 =>
    have H := HA.out
    clear HA
    simp only [spec_FromSets.l0] at H
    replace H := Option.bind_eq_some_iff.mp H
    obtain ⟨t50006, A80, H⟩ := H
    replace H : (if x6_1 ≤ t50006 then ((spec_ElementsOf.f k1 x6_1).bind fun t50010 => ((spec_l15Assign.f k1 l1 t50010 (([] : List Int))).bind fun bt50016 => (if bt50016.2 = true then (if x5_1.length < 17592186044416 then (spec_FromSets.l0 k1 a0 l1 (x5_1 ++ [x6_1]) (wrap64 (x6_1 + 1))) else (none)) else (spec_FromSets.l0 k1 a0 l1 x5_1 (wrap64 (x6_1 + 1)))))) else ((spec_MaximalSets.f k1 x5_1).bind fun t50007 => (some (a0, t50007)))) = some (r1, r2) := H
    have A8 := aQ A80
    clear A80
    by_cases c9 : x6_1 ≤ t50006
    ·rw [if_pos c9] at H
     have c9b0 : decide (x6_1 ≤ t50006) = true := decide_eq_true c9
     clear c9
     replace H := Option.bind_eq_some_iff.mp H
     obtain ⟨t50010, A100, H⟩ := H
     replace H : ((spec_l15Assign.f k1 l1 t50010 (([] : List Int))).bind fun bt50016 => (if bt50016.2 = true then (if x5_1.length < 17592186044416 then (spec_FromSets.l0 k1 a0 l1 (x5_1 ++ [x6_1]) (wrap64 (x6_1 + 1))) else (none)) else (spec_FromSets.l0 k1 a0 l1 x5_1 (wrap64 (x6_1 + 1))))) = some (r1, r2) := H
     have A10 := aQ A100
     clear A100
     obtain ⟨y50013, hy50013⟩ : ∃ y_ : List Int, y_ = (([] : List Int)) := ⟨_, rfl⟩
     replace H : ((spec_l15Assign.f k1 l1 t50010 y50013).bind fun bt50016 => (if bt50016.2 = true then (if x5_1.length < 17592186044416 then (spec_FromSets.l0 k1 a0 l1 (x5_1 ++ [x6_1]) (wrap64 (x6_1 + 1))) else (none)) else (spec_FromSets.l0 k1 a0 l1 x5_1 (wrap64 (x6_1 + 1))))) = some (r1, r2) := by first | (rw [hy50013]; with_reducible exact H) | (have H2_ := (Option.bind_some _ _).symm.trans H; rw [hy50013]; with_reducible exact H2_) | (have H2_ := (Option.bind_some _ _).symm.trans H; with_reducible exact H2_) | with_reducible exact H | (rw [hy50013]; exact H) | exact H
     have Ny50013 := aQ hy50013
     clear hy50013
     replace H := Option.bind_eq_some_iff.mp H
     obtain ⟨⟨t50016, t50019⟩, A110, H⟩ := H
     replace H : (if t50019 = true then (if x5_1.length < 17592186044416 then (spec_FromSets.l0 k1 a0 l1 (x5_1 ++ [x6_1]) (wrap64 (x6_1 + 1))) else (none)) else (spec_FromSets.l0 k1 a0 l1 x5_1 (wrap64 (x6_1 + 1)))) = some (r1, r2) := H
     have A11 := aQ A110
     clear A110
     by_cases c12 : t50019 = true
     ·subst c12
      have H1 : (if x5_1.length < 17592186044416 then (spec_FromSets.l0 k1 a0 l1 (x5_1 ++ [x6_1]) (wrap64 (x6_1 + 1))) else (none)) = some (r1, r2) := by rw [if_pos rfl] at H; exact H
      clear H
      have H := H1
      clear H1
      by_cases c13 : x5_1.length < 17592186044416
      ·rw [if_pos c13] at H
       have LMc13 := aQ c13
       clear c13
       obtain ⟨y50020, hy50020⟩ : ∃ y_ : List Int, y_ = (x5_1 ++ [x6_1]) := ⟨_, rfl⟩
       replace H : (spec_FromSets.l0 k1 a0 l1 y50020 (wrap64 (x6_1 + 1))) = some (r1, r2) := by first | (rw [hy50020]; with_reducible exact H) | (have H2_ := (Option.bind_some _ _).symm.trans H; rw [hy50020]; with_reducible exact H2_) | (have H2_ := (Option.bind_some _ _).symm.trans H; with_reducible exact H2_) | with_reducible exact H | (rw [hy50020]; exact H) | exact H
       have Ny50020 := aQ hy50020
       clear hy50020
       have H' := aQ H
       clear H
       go_wp2_with (first | ((with_reducible refine gate_callee (f := 81) rfl ?_); refine goesL_ (some 17) rfl rfl Try.func81 (by kernel_rfl) rfl #[.int .i64 a0] rfl lm ?_; (with_reducible refine (spec_FullSet.calls a0 t50006 _ A8.out).mono ?_); rintro e w' ⟨rfl, ⟨nd, rfl⟩⟩; refine ⟨_, rfl, ?_⟩) | ((with_reducible refine gate_callee (f := 53) rfl ?_); refine goesL_ (some 24) rfl rfl Try.func53 (by kernel_rfl) rfl #[.int .i64 x6_1] rfl lm ?_; (with_reducible refine (spec_ElementsOf.calls k1 x6_1 t50010 _ A10.out).mono ?_); rintro e w14 ⟨v50011, rfl, ho0, hb⟩; refine ⟨_, rfl, ?_⟩; have HO50012 := aQ (Kd.R_lower (Kd.R_new' ho0 (Kd.R_lt (pR HO_5.out))) (below_size (pB1 HB.out GE50001.out))); replace HO_5 := aQ (Kd.R_elder' (pR HO_5.out) (Kd.R_base ho0) hb); replace BK50001 := aQ (blk_below (g := gb50001) (o := .cells #[.int .i64 0, .slice none 0 0] 28 (0, 0)) (pk BK50001.out) hb); replace HB := aQ (below_step (pB1 HB.out GE50001.out) hb); (try clear hb); (try clear ho0)) | ((with_reducible refine gate_dst (N := 25) rfl ?_); refine Kd.R_lit (Kd.int .i64) _ 3 ?hg (N := 25) ?hd (xs := ([] : List Int)) (inner := []) (ok := fun _ => True) (okp := fun _ => True) ?hr ?hp (fun _ hk => hk) trivial (Below.refl _ _) (Nat.le_refl _) (by simp) ?_; (case hd => rfl); (case hg => rfl); (case hr => first | (go_simp; done) | (go_simp; rfl)); (case hp => exact (Reps.none _ _)); intro v50014 w15 ho16 hb hg_ hnew_; clear hg_ hnew_; (first | rw [← Ny50013.out] at ho16 | (simp only [Int.reduceToNat] at ho16; rw [← Ny50013.out] at ho16)); have HO50015 := aQ (Kd.R_lower (Kd.R_new' (Kd.R_new' ho16 (Kd.R_lt (pR HO_5.out))) (Kd.R_lt (pR HO50012.out))) (below_size (pB1 HB.out GE50001.out))); replace HO_5 := aQ (Kd.R_elder' (pR HO_5.out) (Kd.R_base ho16) hb); replace HO50012 := aQ (Kd.R_elder' (pR HO50012.out) (Kd.R_base ho16) hb); replace BK50001 := aQ (blk_below (g := gb50001) (o := .cells #[.int .i64 0, .slice none 0 0] 28 (0, 0)) (pk BK50001.out) hb); replace HB := aQ (below_step (pB1 HB.out GE50001.out) hb); clear hb ho16; obtain ⟨Ao17, co17, eo17⟩ := Kd.R_slice HO50012.out; subst eo17; obtain ⟨Ao18, co18, eo18⟩ := Kd.R_slice HO50015.out; subst eo18) | ((with_reducible refine gate_callee (f := 105) rfl ?_); refine goesL_ (some 26) rfl rfl Try.func105 (by kernel_rfl) rfl #[.slice A1 l1.length c1, .slice Ao17 t50010.length co17, .slice Ao18 y50013.length co18] rfl lm ?_; (with_reducible refine (spec_l15Assign.calls k1 _ _ l1 _ _ t50010 (fun k_ => some k_ = (.slice Ao18 y50013.length co18 : Value).ownBlock) (.slice Ao18 y50013.length co18) y50013 t50016 true w _ ?side1 ?side2 ?side3 ?side4 ?side5 ?side6 A11.out).mono ?_); (case side1 => repeat (first | (with_reducible first | exact HB.out | apply below_alloc | apply pw_below_drewN | apply below_drew1 | refine below_set ?_ GE50001.out) | exact HB.out)); (case side2 => exact Kd.C_kept_came (Kd.heap_int .i64) HR1.out (pB1 HB.out GE50001.out) (fun k_ hs_ => (fun e_ => Kd.R_base HO50015.out k_ e_.symm) hs_)); (case side3 => exact HC1.out); (case side4 => exact Kd.C_kept_own (HO50012.out) (fun k_ hk_ hs_ => (hk_.2) hs_)); (case side5 => exact (Kd.R_reads' HO50012.out).2.1); (case side6 => exact Kd.R_tight rfl HO50015.out); rintro e w19 ⟨v50017, rfl, ho0, hb, hkp⟩; refine ⟨_, rfl, ?_⟩; replace BK50001 := aQ (blk_kept (pk BK50001.out) hkp (fun hs_ => (fun e_ => (Kd.R_ne HO50015.out BK50001.out (by decide)) e_) hs_)); have HO50018 := aQ (Kd.R_mono (ok' := fun k_ => some k_ ≠ (u5 : Value).ownBlock ∧ some k_ ≠ (.slice Ao17 t50010.length co17 : Value).ownBlock) ho0 (fun k_ hk_ => ⟨Or.elim hk_ (fun hs_ => fun e_ => (((HO_5.out).1 k_ e_.symm).2) hs_) (fun hn_ => (Kd.fresh' (Kd.R_lt (pR HO_5.out)) k_ hn_)), Or.elim hk_ (fun hs_ => fun e_ => (((HO50012.out).1 k_ e_.symm).2) hs_) (fun hn_ => (Kd.fresh' (Kd.R_lt (pR HO50012.out)) k_ hn_))⟩)); replace HO_5 := aQ (Kd.R_mono (ok' := fun k_ => some k_ ≠ (.slice Ao17 t50010.length co17 : Value).ownBlock ∧ some k_ ≠ (v50017 : Value).ownBlock) (Kd.R_keptB (HO_5.out) hkp (fun k_ hk_ hs_ => (hk_.2) hs_)) (fun k_ hk_ => ⟨hk_.1.1.2, fun e_ => Or.elim (ho0.1 k_ e_.symm) (fun hs_ => hk_.2.1 hs_) (fun hn_ => Nat.not_le.2 hk_.2.2 hn_)⟩)); replace HO50012 := aQ (Kd.R_mono (ok' := fun k_ => some k_ ≠ (u5 : Value).ownBlock ∧ some k_ ≠ (v50017 : Value).ownBlock) (Kd.R_keptB (HO50012.out) hkp (fun k_ hk_ hs_ => (hk_.2) hs_)) (fun k_ hk_ => ⟨hk_.1.1.2, fun e_ => Or.elim (ho0.1 k_ e_.symm) (fun hs_ => hk_.2.1 hs_) (fun hn_ => Nat.not_le.2 hk_.2.2 hn_)⟩)); replace HB := aQ (hb); clear HO50015; (try clear hb); (try clear hkp); (try clear ho0)) | ((with_reducible refine gate_builtin (b := .append) (xs := #[.tmp 30, .tmp 32]) rfl ?_); at_builtin; refine Kd.R_append (Kd.int .i64) (w0 := w) w.heap.size rfl (.tmp 30) (.tmp 32) 22 3 (.int .i64 0) 8 rfl Try.underlying22 info3 rfl (by decide) (by omega) u5 x5_1 x6_1 [.int .i64 x6_1] (fun k_ => some k_ ≠ (.slice Ao17 t50010.length co17 : Value).ownBlock ∧ some k_ ≠ (v50017 : Value).ownBlock) (fun _ => False) rfl rfl ?aP (fun _ hk => hk.elim) ?aF ?aO ?aB ?aS ?aL ?_; (case aP => exact rfl); (case aB => exact (pB1 HB.out GE50001.out)); (case aF => exact (fun k_ hk => ⟨Kd.fresh' (Kd.R_lt (pR HO50012.out)) k_ hk, Kd.fresh' (Kd.R_lt (pR HO50018.out)) k_ hk⟩)); (case aO => exact (pR HO_5.out)); (case aS => exact (below_size (pB1 HB.out GE50001.out))); (case aL => have := LMc13.out; omega); intro v50021 w20 ho hb hg hat; rw [← Ny50020.out] at ho; replace BK50001 := aQ (blk_grown (g := gb50001) (o := .cells #[.int .i64 0, .slice none 0 0] 28 (0, 0)) (pk BK50001.out) hg (Kd.R_ne HO_5.out BK50001.out (by decide))); replace HO50012 := aQ (Kd.R_after (ok := (fun k_ => some k_ ≠ (v50017 : Value).ownBlock)) (by (with_reducible repeat (first | apply Kd.R_alloc | apply Kd.R_drewN | apply Kd.R_drew)); exact Kd.R_mono HO50012.out (fun _ hk => ⟨hk.2, hk.1⟩)) hg hat); replace HO50018 := aQ (Kd.R_after (ok := (fun k_ => some k_ ≠ (.slice Ao17 t50010.length co17 : Value).ownBlock)) (by (with_reducible repeat (first | apply Kd.R_alloc | apply Kd.R_drewN | apply Kd.R_drew)); exact Kd.R_mono HO50018.out (fun _ hk => ⟨hk.2, hk.1⟩)) hg hat); replace HB := aQ (hb); have HO50022 := aQ (ho); clear HO_5; clear ho hb hg hat))
       go_roundg k1
       case measure => have := HK1.out; omega
       case rel => exact ⟨(y50020), (wrap64 (x6_1 + 1)), rs_, H', ⟨by have := HK1.out; omega⟩, ⟨by (with_reducible repeat (first | apply Kd.R_alloc | apply Kd.R_drewN | apply Kd.R_drew)); exact Kd.R_mono HO50022.out (fun _ hk => trivial)⟩, ⟨pk BK50001.out⟩, ⟨pB1 HB.out GE50001.out⟩⟩
      ·rw [if_neg c13] at H
       exact absurd H (by simp)
     ·replace c12 := Bool.eq_false_iff.mpr c12
      subst c12
      have H1 : (spec_FromSets.l0 k1 a0 l1 x5_1 (wrap64 (x6_1 + 1))) = some (r1, r2) := by rw [if_neg (show ¬ (false = true) by decide)] at H; exact H
      clear H
      have H := H1
      clear H1
      have H' := aQ H
      clear H
      go_wp2_with (first | ((with_reducible refine gate_callee (f := 81) rfl ?_); refine goesL_ (some 17) rfl rfl Try.func81 (by kernel_rfl) rfl #[.int .i64 a0] rfl lm ?_; (with_reducible refine (spec_FullSet.calls a0 t50006 _ A8.out).mono ?_); rintro e w' ⟨rfl, ⟨nd, rfl⟩⟩; refine ⟨_, rfl, ?_⟩) | ((with_reducible refine gate_callee (f := 53) rfl ?_); refine goesL_ (some 24) rfl rfl Try.func53 (by kernel_rfl) rfl #[.int .i64 x6_1] rfl lm ?_; (with_reducible refine (spec_ElementsOf.calls k1 x6_1 t50010 _ A10.out).mono ?_); rintro e w21 ⟨v50011, rfl, ho0, hb⟩; refine ⟨_, rfl, ?_⟩; have HO50012 := aQ (Kd.R_lower (Kd.R_new' ho0 (Kd.R_lt (pR HO_5.out))) (below_size (pB1 HB.out GE50001.out))); replace HO_5 := aQ (Kd.R_elder' (pR HO_5.out) (Kd.R_base ho0) hb); replace BK50001 := aQ (blk_below (g := gb50001) (o := .cells #[.int .i64 0, .slice none 0 0] 28 (0, 0)) (pk BK50001.out) hb); replace HB := aQ (below_step (pB1 HB.out GE50001.out) hb); (try clear hb); (try clear ho0)) | ((with_reducible refine gate_dst (N := 25) rfl ?_); refine Kd.R_lit (Kd.int .i64) _ 3 ?hg (N := 25) ?hd (xs := ([] : List Int)) (inner := []) (ok := fun _ => True) (okp := fun _ => True) ?hr ?hp (fun _ hk => hk) trivial (Below.refl _ _) (Nat.le_refl _) (by simp) ?_; (case hd => rfl); (case hg => rfl); (case hr => first | (go_simp; done) | (go_simp; rfl)); (case hp => exact (Reps.none _ _)); intro v50014 w22 ho23 hb hg_ hnew_; clear hg_ hnew_; (first | rw [← Ny50013.out] at ho23 | (simp only [Int.reduceToNat] at ho23; rw [← Ny50013.out] at ho23)); have HO50015 := aQ (Kd.R_lower (Kd.R_new' (Kd.R_new' ho23 (Kd.R_lt (pR HO_5.out))) (Kd.R_lt (pR HO50012.out))) (below_size (pB1 HB.out GE50001.out))); replace HO_5 := aQ (Kd.R_elder' (pR HO_5.out) (Kd.R_base ho23) hb); replace HO50012 := aQ (Kd.R_elder' (pR HO50012.out) (Kd.R_base ho23) hb); replace BK50001 := aQ (blk_below (g := gb50001) (o := .cells #[.int .i64 0, .slice none 0 0] 28 (0, 0)) (pk BK50001.out) hb); replace HB := aQ (below_step (pB1 HB.out GE50001.out) hb); clear hb ho23; obtain ⟨Ao24, co24, eo24⟩ := Kd.R_slice HO50012.out; subst eo24; obtain ⟨Ao25, co25, eo25⟩ := Kd.R_slice HO50015.out; subst eo25) | ((with_reducible refine gate_callee (f := 105) rfl ?_); refine goesL_ (some 26) rfl rfl Try.func105 (by kernel_rfl) rfl #[.slice A1 l1.length c1, .slice Ao24 t50010.length co24, .slice Ao25 y50013.length co25] rfl lm ?_; (with_reducible refine (spec_l15Assign.calls k1 _ _ l1 _ _ t50010 (fun k_ => some k_ = (.slice Ao25 y50013.length co25 : Value).ownBlock) (.slice Ao25 y50013.length co25) y50013 t50016 false w _ ?side1 ?side2 ?side3 ?side4 ?side5 ?side6 A11.out).mono ?_); (case side1 => repeat (first | (with_reducible first | exact HB.out | apply below_alloc | apply pw_below_drewN | apply below_drew1 | refine below_set ?_ GE50001.out) | exact HB.out)); (case side2 => exact Kd.C_kept_came (Kd.heap_int .i64) HR1.out (pB1 HB.out GE50001.out) (fun k_ hs_ => (fun e_ => Kd.R_base HO50015.out k_ e_.symm) hs_)); (case side3 => exact HC1.out); (case side4 => exact Kd.C_kept_own (HO50012.out) (fun k_ hk_ hs_ => (hk_.2) hs_)); (case side5 => exact (Kd.R_reads' HO50012.out).2.1); (case side6 => exact Kd.R_tight rfl HO50015.out); rintro e w26 ⟨v50017, rfl, ho0, hb, hkp⟩; refine ⟨_, rfl, ?_⟩; replace BK50001 := aQ (blk_kept (pk BK50001.out) hkp (fun hs_ => (fun e_ => (Kd.R_ne HO50015.out BK50001.out (by decide)) e_) hs_)); have HO50018 := aQ (Kd.R_mono (ok' := fun k_ => some k_ ≠ (u5 : Value).ownBlock ∧ some k_ ≠ (.slice Ao24 t50010.length co24 : Value).ownBlock) ho0 (fun k_ hk_ => ⟨Or.elim hk_ (fun hs_ => fun e_ => (((HO_5.out).1 k_ e_.symm).2) hs_) (fun hn_ => (Kd.fresh' (Kd.R_lt (pR HO_5.out)) k_ hn_)), Or.elim hk_ (fun hs_ => fun e_ => (((HO50012.out).1 k_ e_.symm).2) hs_) (fun hn_ => (Kd.fresh' (Kd.R_lt (pR HO50012.out)) k_ hn_))⟩)); replace HO_5 := aQ (Kd.R_mono (ok' := fun k_ => some k_ ≠ (.slice Ao24 t50010.length co24 : Value).ownBlock ∧ some k_ ≠ (v50017 : Value).ownBlock) (Kd.R_keptB (HO_5.out) hkp (fun k_ hk_ hs_ => (hk_.2) hs_)) (fun k_ hk_ => ⟨hk_.1.1.2, fun e_ => Or.elim (ho0.1 k_ e_.symm) (fun hs_ => hk_.2.1 hs_) (fun hn_ => Nat.not_le.2 hk_.2.2 hn_)⟩)); replace HO50012 := aQ (Kd.R_mono (ok' := fun k_ => some k_ ≠ (u5 : Value).ownBlock ∧ some k_ ≠ (v50017 : Value).ownBlock) (Kd.R_keptB (HO50012.out) hkp (fun k_ hk_ hs_ => (hk_.2) hs_)) (fun k_ hk_ => ⟨hk_.1.1.2, fun e_ => Or.elim (ho0.1 k_ e_.symm) (fun hs_ => hk_.2.1 hs_) (fun hn_ => Nat.not_le.2 hk_.2.2 hn_)⟩)); replace HB := aQ (hb); clear HO50015; (try clear hb); (try clear hkp); (try clear ho0)))
      go_roundg k1
      case measure => have := HK1.out; omega
      case rel => exact ⟨(x5_1), (wrap64 (x6_1 + 1)), rs_, H', ⟨by have := HK1.out; omega⟩, ⟨by (with_reducible repeat (first | apply Kd.R_alloc | apply Kd.R_drewN | apply Kd.R_drew)); exact Kd.R_mono HO_5.out (fun _ hk => trivial)⟩, ⟨pk BK50001.out⟩, ⟨pB1 HB.out GE50001.out⟩⟩
    ·rw [if_neg c9] at H
     have c9b0 : decide (x6_1 ≤ t50006) = false := decide_eq_false c9
     clear c9
     replace H := Option.bind_eq_some_iff.mp H
     obtain ⟨t50007, A270, H⟩ := H
     replace H : (some (a0, t50007)) = some (r1, r2) := H
     have A27 := aQ A270
     clear A270
     simp only [Option.some.injEq, Prod.mk.injEq] at H
     obtain ⟨rfl, rfl⟩ := H
     go_wp2_with (first | ((with_reducible refine gate_callee (f := 81) rfl ?_); refine goesL_ (some 17) rfl rfl Try.func81 (by kernel_rfl) rfl #[.int .i64 a0] rfl lm ?_; (with_reducible refine (spec_FullSet.calls a0 t50006 _ A8.out).mono ?_); rintro e w' ⟨rfl, ⟨nd, rfl⟩⟩; refine ⟨_, rfl, ?_⟩; (try (rw [drewN_self wr]; generalize hq_ : World.drewN wr _ = wr; have n0_ : Aside0 (Kd.R (Kd.int .i64) 3 wr w.heap.size (fun _ => True) u5 x5_1) := ⟨by rw [← hq_]; exact (pR HO_5.out)⟩; have n1_ : Aside0 (wr.heap[gb50001]? = some (.cells #[.int .i64 0, .slice none 0 0] 28 (0, 0))) := ⟨by rw [← hq_]; exact (pk BK50001.out)⟩; have n2_ : Aside0 (Below w.heap.size w wr) := ⟨by rw [← hq_]; exact (pB1 HB.out GE50001.out)⟩; clear HO_5 BK50001 HB hq_; have HO_5 := n0_; have BK50001 := n1_; have HB := n2_; clear n0_ n1_ n2_)); obtain ⟨Ao28, co28, eo28⟩ := Kd.R_slice HO_5.out; subst eo28) | ((with_reducible refine gate_callee (f := 108) rfl ?_); refine goesL_ (some 36) rfl rfl Try.func108 (by kernel_rfl) rfl #[.slice Ao28 x5_1.length co28] rfl lm ?_; (with_reducible refine (spec_MaximalSets.calls k1 _ _ x5_1 t50007 _ ?side1 ?side2 A27.out).mono ?_); (case side1 => repeat (first | exact (Kd.R_reads' HO_5.out).2.2 | (with_reducible refine Kd.C_alloc ?_ _) | (with_reducible refine Kd.C_drewN ?_ _) | (with_reducible refine Kd.C_drew ?_))); (case side2 => exact (Kd.R_reads' HO_5.out).2.1); rintro e w29 ⟨v50008, rfl, ho0, hb⟩; refine ⟨_, rfl, ?_⟩; have HO50009 := aQ (Kd.R_lower (Kd.R_new' ho0 (Kd.R_lt (pR HO_5.out))) (below_size (pB1 HB.out GE50001.out))); replace HO_5 := aQ (Kd.R_elder' (pR HO_5.out) (Kd.R_base ho0) hb); replace BK50001 := aQ (blk_below (g := gb50001) (o := .cells #[.int .i64 0, .slice none 0 0] 28 (0, 0)) (pk BK50001.out) hb); replace HB := aQ (below_step (pB1 HB.out GE50001.out) hb); (try clear hb); (try clear ho0); obtain ⟨Ao30, co30, eo30⟩ := Kd.R_slice HO50009.out; subst eo30; have hcz31_0 := bc (v := (.int .i64 0)) BK50001.out 0; have hcz31_1 := bc (v := (.slice none 0 0)) BK50001.out 1; have hfz31_0 := blk_frozen BK50001.out 0; have hfz31_1 := blk_frozen BK50001.out 1))
     refine bodyPost_ret (results_cell_row rfl _ _ gb50001 28 #[.int .i64 a0, .slice Ao30 t50007.length co30] (0, 0) _ rfl (by (with_reducible repeat (first | refine blk_drewN ?_ _ | refine blk_drew ?_ | refine blk_alloc ?_ _)); refine blk_put (cs := #[.int .i64 a0, .slice none 0 0]) ?_ 1 _ rfl; (with_reducible repeat (first | refine blk_drewN ?_ _ | refine blk_drew ?_ | refine blk_alloc ?_ _)); refine blk_put (cs := #[.int .i64 0, .slice none 0 0]) ?_ 0 _ rfl; (with_reducible repeat (first | refine blk_drewN ?_ _ | refine blk_drew ?_ | refine blk_alloc ?_ _)); exact BK50001.out) Try.underlying28 rfl (by kernel_rfl)) rfl ?_
     exact ⟨_, by first | rfl | (simp [errW_none, errW_some] <;> rfl) | (simp [*, errW_none, errW_some] <;> rfl), by (with_reducible repeat (first | apply Kd.R_alloc | apply Kd.R_drewN | apply Kd.R_drew)); exact Kd.R_mono (Kd.R_far (p := ⟨gb50001, 1, none⟩) (Kd.R_far (p := ⟨gb50001, 0, none⟩) (Kd.R_types HO50009.out BK50001.out (by decide)) (fun _ hk => hk.2) (.int .i64 a0)) (fun _ hk => hk.2) (.slice Ao30 t50007.length co30)) (fun _ hk => trivial), pB1 HB.out GE50001.out⟩
 ·replace c4 := Bool.eq_false_iff.mpr c4
  subst c4
  have H1 : (some (0, ([] : List Int))) = some (r1, r2) := by rw [if_neg (show ¬ (false = true) by decide)] at H; exact H
  clear H
  have H := H1
  clear H1
  simp only [Option.some.injEq, Prod.mk.injEq] at H
  obtain ⟨rfl, rfl⟩ := H
  go_enter Try.func49, Try.ntmps49
  go_wp2_with (first | ((with_reducible refine gate_dst (N := 4) rfl ?_); refine box_event ?hg (N := 4) ?hd (cs := #[.int .i64 0, .slice none 0 0]) (t := 28) ?hr ?_; (case hd => rfl); (case hg => rfl); (case hr => first | (go_simp; done) | (go_simp; rfl)); intro gb50001 hg w32 hbox hb; have BK50001 := aQ (hbox); have GW50001 := aQ ((by rw [hg]; exact (below_size (pB HB.out)) : w.heap.size ≤ gb50001)); have GE50001 := aQ ((by rw [hg]; exact (below_size (pB HB.out)) : w.heap.size ≤ gb50001)); replace HB := aQ (below_step (pB HB.out) hb); clear hb hbox hg) | ((with_reducible refine gate_callee (f := 51) rfl ?_); refine goesL_ (some 11) rfl rfl Try.func51 (by kernel_rfl) rfl #[.int .i64 a0, .slice A1 l1.length c1] rfl lm ?_; (with_reducible refine (spec_AreLists.calls k a0 _ _ l1 false _ ?side1 ?side2 A3.out).mono ?_); (case side1 => exact pC (Kd.C_below HR1.out HB.out)); (case side2 => exact HC1.out); rintro e w' ⟨rfl, ⟨nd, rfl⟩⟩; refine ⟨_, rfl, ?_⟩; (try (rw [drewN_self w32]; generalize hq_ : World.drewN w32 _ = w32; have n0_ : Aside0 (w32.heap[gb50001]? = some (.cells #[.int .i64 0, .slice none 0 0] 28 (0, 0))) := ⟨by rw [← hq_]; exact (pk BK50001.out)⟩; have n1_ : Aside0 (Below w.heap.size w w32) := ⟨by rw [← hq_]; exact (pB1 HB.out GE50001.out)⟩; clear BK50001 HB hq_; have BK50001 := n0_; have HB := n1_; clear n0_ n1_)); have hcz33_0 := bc (v := (.int .i64 0)) BK50001.out 0; have hcz33_1 := bc (v := (.slice none 0 0)) BK50001.out 1; have hfz33_0 := blk_frozen BK50001.out 0; have hfz33_1 := blk_frozen BK50001.out 1))
  refine bodyPost_ret (results_cell_row rfl _ _ gb50001 28 #[.int .i64 0, .slice none 0 0] (0, 0) _ rfl (by (with_reducible repeat (first | refine blk_drewN ?_ _ | refine blk_drew ?_ | refine blk_alloc ?_ _)); refine blk_put (cs := #[.int .i64 0, .slice none 0 0]) ?_ 1 _ rfl; (with_reducible repeat (first | refine blk_drewN ?_ _ | refine blk_drew ?_ | refine blk_alloc ?_ _)); refine blk_put (cs := #[.int .i64 0, .slice none 0 0]) ?_ 0 _ rfl; (with_reducible repeat (first | refine blk_drewN ?_ _ | refine blk_drew ?_ | refine blk_alloc ?_ _)); exact BK50001.out) Try.underlying28 rfl (by kernel_rfl)) rfl ?_
  exact ⟨_, by first | rfl | (simp [errW_none, errW_some] <;> rfl) | (simp [*, errW_none, errW_some] <;> rfl), by first | exact Kd.R_nil _ _ _ _ _ | exact Kd.N_nil _ _ _ _ _ | exact Kd.V_nil _ _ _ _ _ | exact Kd.Q_nil _ _ _ _ _ | exact Kd.S_nil _ _ _ _ _, pB1 HB.out GE50001.out⟩
/-! ### spec_IsFamily: function 112 -/
def spec_IsFamily.l0 : Nat → Int → List Int → Int → Option (Bool)
 | 0, _, _, _ => none
 | k + 1, x0, x1, x5 => if x5 < (x1.length : Int) then (if 0 ≤ x5 then ((spec_IsSet.f x0 (rd x1 x5)).bind fun t113002 => (if t113002 = true then (if x5 > 0 then (if 0 ≤ (wrap64 (x5 - 1)) then (if (wrap64 (x5 - 1)) < (x1.length : Int) then (if (rd x1 (wrap64 (x5 - 1))) ≥ (rd x1 x5) then (some false) else (spec_IsFamily.l0 k x0 x1 (wrap64 (x5 + 1)))) else (none)) else (none)) else (spec_IsFamily.l0 k x0 x1 (wrap64 (x5 + 1)))) else (some false))) else (none)) else ((spec_l1In.f x0 0 8).bind fun t113005 => (some t113005))
def spec_IsFamily.f (k : Nat) (a0 : Int) (l1 : List Int) : Option (Bool) := spec_IsFamily.l0 k a0 l1 0
theorem spec_IsFamily.mono_l : ∀ k, (∀ y0 y1 y2, LeO (spec_IsFamily.l0 k y0 y1 y2) (spec_IsFamily.l0 (k + 1) y0 y1 y2))
 | 0 => fun _ _ _ r h => by simp [spec_IsFamily.l0] at h
 | k + 1 => by
  have ih0 := spec_IsFamily.mono_l k
  ·intro y0 y1 y2
   unfold spec_IsFamily.l0
   repeat' first
   | (with_reducible exact ih0 _ _ _)
   | (with_reducible exact LeO.refl _)
   | (with_reducible exact LeO.none _)
   | (with_reducible refine LeO.ite ?_ ?_)
   | (with_reducible refine LeO.bind ?_ (fun _ => ?_))
   | exact ih0 _ _ _
   | exact LeO.none _
   | refine LeO.ite ?_ ?_
   | refine LeO.bind ?_ (fun _ => ?_)
theorem spec_IsFamily.mono : ∀ a0 a1 k, LeO (spec_IsFamily.f k a0 a1) (spec_IsFamily.f (k + 1) a0 a1) := by
 intro a0 a1 k
 have ih0 := spec_IsFamily.mono_l k
 unfold spec_IsFamily.f
 repeat' first
   | (with_reducible exact ih0 _ _ _)
   | (with_reducible exact LeO.refl _)
   | (with_reducible exact LeO.none _)
   | (with_reducible refine LeO.ite ?_ ?_)
   | (with_reducible refine LeO.bind ?_ (fun _ => ?_))
   | exact ih0 _ _ _
   | exact LeO.none _
   | refine LeO.ite ?_ ?_
   | refine LeO.bind ?_ (fun _ => ?_)
set_option maxHeartbeats 8000000 in
set_option maxRecDepth 100000 in
theorem spec_IsFamily.calls (k : Nat) (a0 : Int) (A1 : Option Addr) (c1 : Nat) (l1 : List Int) (r : Bool) (w : World) (hr1 : Kd.C (Kd.int .i64) w A1 l1.length l1) (hc1 : l1.length ≤ c1) (h : spec_IsFamily.f k a0 l1 = some r) :
  Calls Try.prog 112 #[.int .i64 a0, .slice A1 l1.length c1] w fun e w' => e = .returned (.bool r) ∧ Drawn0 w w' := by
 have HR1 := aQ hr1
 have HC1 := aQ hc1
 clear hr1 hc1
 have H : (spec_IsFamily.l0 k a0 l1 0) = some r := h
 clear h
 have H' := aQ H
 clear H
 go_enter Try.func112, Try.ntmps112
 go_wp2
 repeat (go_quiet (fail); try go_wp2)
 go_loopg [5] k (fun kq v5 w' => ∃ (x5_1 : Int), v5 = .int .i64 x5_1 ∧ Aside0 (spec_IsFamily.l0 kq a0 l1 x5_1 = some r) ∧ Aside0 (kq ≤ k) ∧ Drawn0 w w')
 case atStart => exact ⟨(0), rs_, H', ⟨Nat.le_refl _⟩, rd_⟩
 case round =>
  clear H'
  try clear c1
  try clear p2
  obtain ⟨x5_1, rfl, HA, HK1, ⟨m1, rfl⟩⟩ := hrel
  cases gk with
  | zero => exact absurd HA.out (by simp [spec_IsFamily.l0])
  | succ k1 =>
   have H := HA.out
   clear HA
   simp only [spec_IsFamily.l0] at H
   by_cases c3 : x5_1 < (l1.length : Int)
   ·rw [if_pos c3] at H
    have c3b0 : decide (x5_1 < (l1.length : Int)) = true := decide_eq_true c3
    clear c3
    by_cases c4 : 0 ≤ x5_1
    ·rw [if_pos c4] at H
     have c4b0 : decide (0 ≤ x5_1) = true := decide_eq_true c4
     clear c4
     replace H := Option.bind_eq_some_iff.mp H
     obtain ⟨t113002, A50, H⟩ := H
     replace H : (if t113002 = true then (if x5_1 > 0 then (if 0 ≤ (wrap64 (x5_1 - 1)) then (if (wrap64 (x5_1 - 1)) < (l1.length : Int) then (if (rd l1 (wrap64 (x5_1 - 1))) ≥ (rd l1 x5_1) then (some false) else (spec_IsFamily.l0 k1 a0 l1 (wrap64 (x5_1 + 1)))) else (none)) else (none)) else (spec_IsFamily.l0 k1 a0 l1 (wrap64 (x5_1 + 1)))) else (some false)) = some r := H
     have A5 := aQ A50
     clear A50
     by_cases c6 : t113002 = true
     ·subst c6
      have H1 : (if x5_1 > 0 then (if 0 ≤ (wrap64 (x5_1 - 1)) then (if (wrap64 (x5_1 - 1)) < (l1.length : Int) then (if (rd l1 (wrap64 (x5_1 - 1))) ≥ (rd l1 x5_1) then (some false) else (spec_IsFamily.l0 k1 a0 l1 (wrap64 (x5_1 + 1)))) else (none)) else (none)) else (spec_IsFamily.l0 k1 a0 l1 (wrap64 (x5_1 + 1)))) = some r := by rw [if_pos rfl] at H; exact H
      clear H
      have H := H1
      clear H1
      by_cases c7 : x5_1 > 0
      ·rw [if_pos c7] at H
       have c7b0 : decide (0 < x5_1) = true := decide_eq_true c7
       clear c7
       obtain ⟨ji8, hji8⟩ : ∃ j_ : Int, (wrap64 (x5_1 - 1)) = j_ := ⟨_, rfl⟩
       replace H : (if 0 ≤ (ji8) then (if (ji8) < (l1.length : Int) then (if (rd l1 (ji8)) ≥ (rd l1 x5_1) then (some false) else (spec_IsFamily.l0 k1 a0 l1 (wrap64 (x5_1 + 1)))) else (none)) else (none)) = some r := by first | (rw [hji8] at H; exact H) | (simp only [hji8] at H ⊢; exact H)
       (try rw [hji8] at A5)
       have hji8w : (IntKind.i64.wrap (x5_1 - 1)) = ji8 := (i64_w _).trans hji8
       by_cases c9 : 0 ≤ (ji8)
       ·rw [if_pos c9] at H
        have c9b0 : decide (0 ≤ (ji8)) = true := decide_eq_true c9
        clear c9
        by_cases c10 : (ji8) < (l1.length : Int)
        ·rw [if_pos c10] at H
         have c10b0 : decide ((ji8) < (l1.length : Int)) = true := decide_eq_true c10
         clear c10
         by_cases c11 : (rd l1 (ji8)) ≥ (rd l1 x5_1)
         ·rw [if_pos c11] at H
          have c11b0 : decide ((rd l1 x5_1) ≤ (rd l1 (ji8))) = true := decide_eq_true c11
          clear c11
          obtain rfl := Option.some.inj H
          have p113001 : 0 ≤ (x5_1 : Int) := of_decide_eq_true as_
          have q113001 : x5_1 < (l1.length : Int) := of_decide_eq_true as_
          obtain ⟨ad113001, e113001, hx113001_0⟩ := Kd.at_int HR1.out x5_1 p113001 q113001
          cases e113001
          replace p113001 := eq_true p113001
          replace q113001 := eq_true q113001
          go_wp2_with (first | (go_at_call 55; (with_reducible refine (spec_IsSet.calls a0 (rd l1 x5_1) true _ A5.out).mono ?_); rintro e w' ⟨rfl, ⟨nd, rfl⟩⟩; (try first | exact ⟨rfl, _, World.drewN_drewN _ _ _⟩ | exact ⟨rfl, _, Eq.trans (World.drewN_drewN _ _ _) (congrArg (World.drewN _) (Nat.add_assoc _ _ _))⟩); have p113003 : 0 ≤ ((ji8) : Int) := of_decide_eq_true as_; have q113003 : (ji8) < (l1.length : Int) := of_decide_eq_true as_; obtain ⟨ad113003, e113003, hx113003_0⟩ := Kd.at_int HR1.out (ji8) p113003 q113003; obtain rfl : ad113001 = ad113003 := (by injection e113003); replace p113003 := eq_true p113003; replace q113003 := eq_true q113003; have p113004 : 0 ≤ (x5_1 : Int) := of_decide_eq_true as_; have q113004 : x5_1 < (l1.length : Int) := of_decide_eq_true as_; obtain ⟨ad113004, e113004, hx113004_0⟩ := Kd.at_int HR1.out x5_1 p113004 q113004; obtain rfl : ad113001 = ad113004 := (by injection e113004); replace p113004 := eq_true p113004; replace q113004 := eq_true q113004))
          repeat (go_quiet (first | (go_at_call 55; (with_reducible refine (spec_IsSet.calls a0 (rd l1 x5_1) true _ A5.out).mono ?_); rintro e w' ⟨rfl, ⟨nd, rfl⟩⟩; (try first | exact ⟨rfl, _, World.drewN_drewN _ _ _⟩ | exact ⟨rfl, _, Eq.trans (World.drewN_drewN _ _ _) (congrArg (World.drewN _) (Nat.add_assoc _ _ _))⟩); have p113003 : 0 ≤ ((ji8) : Int) := of_decide_eq_true as_; have q113003 : (ji8) < (l1.length : Int) := of_decide_eq_true as_; obtain ⟨ad113003, e113003, hx113003_0⟩ := Kd.at_int HR1.out (ji8) p113003 q113003; obtain rfl : ad113001 = ad113003 := (by injection e113003); replace p113003 := eq_true p113003; replace q113003 := eq_true q113003; have p113004 : 0 ≤ (x5_1 : Int) := of_decide_eq_true as_; have q113004 : x5_1 < (l1.length : Int) := of_decide_eq_true as_; obtain ⟨ad113004, e113004, hx113004_0⟩ := Kd.at_int HR1.out x5_1 p113004 q113004; obtain rfl : ad113001 = ad113004 := (by injection e113004); replace p113004 := eq_true p113004; replace q113004 := eq_true q113004)); try go_wp2_with (first | (go_at_call 55; (with_reducible refine (spec_IsSet.calls a0 (rd l1 x5_1) true _ A5.out).mono ?_); rintro e w' ⟨rfl, ⟨nd, rfl⟩⟩; (try first | exact ⟨rfl, _, World.drewN_drewN _ _ _⟩ | exact ⟨rfl, _, Eq.trans (World.drewN_drewN _ _ _) (congrArg (World.drewN _) (Nat.add_assoc _ _ _))⟩); have p113003 : 0 ≤ ((ji8) : Int) := of_decide_eq_true as_; have q113003 : (ji8) < (l1.length : Int) := of_decide_eq_true as_; obtain ⟨ad113003, e113003, hx113003_0⟩ := Kd.at_int HR1.out (ji8) p113003 q113003; obtain rfl : ad113001 = ad113003 := (by injection e113003); replace p113003 := eq_true p113003; replace q113003 := eq_true q113003; have p113004 : 0 ≤ (x5_1 : Int) := of_decide_eq_true as_; have q113004 : x5_1 < (l1.length : Int) := of_decide_eq_true as_; obtain ⟨ad113004, e113004, hx113004_0⟩ := Kd.at_int HR1.out x5_1 p113004 q113004; obtain rfl : ad113001 = ad113004 := (by injection e113004); replace p113004 := eq_true p113004; replace q113004 := eq_true q113004)))
          go_ret
          exact ⟨by first | rfl | (simp; done) | (simp only [← hji8] <;> (first | rfl | simp)) | (simp [*]; done), rd_⟩
         ·rw [if_neg c11] at H
          have c11b0 : decide ((rd l1 x5_1) ≤ (rd l1 (ji8))) = false := decide_eq_false c11
          clear c11
          have H' := aQ H
          clear H
          have p113001 : 0 ≤ (x5_1 : Int) := of_decide_eq_true as_
          have q113001 : x5_1 < (l1.length : Int) := of_decide_eq_true as_
          obtain ⟨ad113001, e113001, hx113001_0⟩ := Kd.at_int HR1.out x5_1 p113001 q113001
          cases e113001
          replace p113001 := eq_true p113001
          replace q113001 := eq_true q113001
          go_wp2_with (first | (go_at_call 55; (with_reducible refine (spec_IsSet.calls a0 (rd l1 x5_1) true _ A5.out).mono ?_); rintro e w' ⟨rfl, ⟨nd, rfl⟩⟩; (try first | exact ⟨rfl, _, World.drewN_drewN _ _ _⟩ | exact ⟨rfl, _, Eq.trans (World.drewN_drewN _ _ _) (congrArg (World.drewN _) (Nat.add_assoc _ _ _))⟩); have p113003 : 0 ≤ ((ji8) : Int) := of_decide_eq_true as_; have q113003 : (ji8) < (l1.length : Int) := of_decide_eq_true as_; obtain ⟨ad113003, e113003, hx113003_0⟩ := Kd.at_int HR1.out (ji8) p113003 q113003; obtain rfl : ad113001 = ad113003 := (by injection e113003); replace p113003 := eq_true p113003; replace q113003 := eq_true q113003; have p113004 : 0 ≤ (x5_1 : Int) := of_decide_eq_true as_; have q113004 : x5_1 < (l1.length : Int) := of_decide_eq_true as_; obtain ⟨ad113004, e113004, hx113004_0⟩ := Kd.at_int HR1.out x5_1 p113004 q113004; obtain rfl : ad113001 = ad113004 := (by injection e113004); replace p113004 := eq_true p113004; replace q113004 := eq_true q113004))
          repeat (go_quiet (first | (go_at_call 55; (with_reducible refine (spec_IsSet.calls a0 (rd l1 x5_1) true _ A5.out).mono ?_); rintro e w' ⟨rfl, ⟨nd, rfl⟩⟩; (try first | exact ⟨rfl, _, World.drewN_drewN _ _ _⟩ | exact ⟨rfl, _, Eq.trans (World.drewN_drewN _ _ _) (congrArg (World.drewN _) (Nat.add_assoc _ _ _))⟩); have p113003 : 0 ≤ ((ji8) : Int) := of_decide_eq_true as_; have q113003 : (ji8) < (l1.length : Int) := of_decide_eq_true as_; obtain ⟨ad113003, e113003, hx113003_0⟩ := Kd.at_int HR1.out (ji8) p113003 q113003; obtain rfl : ad113001 = ad113003 := (by injection e113003); replace p113003 := eq_true p113003; replace q113003 := eq_true q113003; have p113004 : 0 ≤ (x5_1 : Int) := of_decide_eq_true as_; have q113004 : x5_1 < (l1.length : Int) := of_decide_eq_true as_; obtain ⟨ad113004, e113004, hx113004_0⟩ := Kd.at_int HR1.out x5_1 p113004 q113004; obtain rfl : ad113001 = ad113004 := (by injection e113004); replace p113004 := eq_true p113004; replace q113004 := eq_true q113004)); try go_wp2_with (first | (go_at_call 55; (with_reducible refine (spec_IsSet.calls a0 (rd l1 x5_1) true _ A5.out).mono ?_); rintro e w' ⟨rfl, ⟨nd, rfl⟩⟩; (try first | exact ⟨rfl, _, World.drewN_drewN _ _ _⟩ | exact ⟨rfl, _, Eq.trans (World.drewN_drewN _ _ _) (congrArg (World.drewN _) (Nat.add_assoc _ _ _))⟩); have p113003 : 0 ≤ ((ji8) : Int) := of_decide_eq_true as_; have q113003 : (ji8) < (l1.length : Int) := of_decide_eq_true as_; obtain ⟨ad113003, e113003, hx113003_0⟩ := Kd.at_int HR1.out (ji8) p113003 q113003; obtain rfl : ad113001 = ad113003 := (by injection e113003); replace p113003 := eq_true p113003; replace q113003 := eq_true q113003; have p113004 : 0 ≤ (x5_1 : Int) := of_decide_eq_true as_; have q113004 : x5_1 < (l1.length : Int) := of_decide_eq_true as_; obtain ⟨ad113004, e113004, hx113004_0⟩ := Kd.at_int HR1.out x5_1 p113004 q113004; obtain rfl : ad113001 = ad113004 := (by injection e113004); replace p113004 := eq_true p113004; replace q113004 := eq_true q113004)))
          go_roundg k1
          case measure => have := HK1.out; omega
          case rel => exact ⟨(wrap64 (x5_1 + 1)), rs_, H', ⟨by have := HK1.out; omega⟩, rd_⟩
        ·rw [if_neg c10] at H
         exact absurd H (by simp)
       ·rw [if_neg c9] at H
        exact absurd H (by simp)
      ·rw [if_neg c7] at H
       have c7b0 : decide (0 < x5_1) = false := decide_eq_false c7
       clear c7
       have H' := aQ H
       clear H
       have p113001 : 0 ≤ (x5_1 : Int) := of_decide_eq_true as_
       have q113001 : x5_1 < (l1.length : Int) := of_decide_eq_true as_
       obtain ⟨ad113001, e113001, hx113001_0⟩ := Kd.at_int HR1.out x5_1 p113001 q113001
       cases e113001
       replace p113001 := eq_true p113001
       replace q113001 := eq_true q113001
       go_wp2_with (first | (go_at_call 55; (with_reducible refine (spec_IsSet.calls a0 (rd l1 x5_1) true _ A5.out).mono ?_); rintro e w' ⟨rfl, ⟨nd, rfl⟩⟩; (try first | exact ⟨rfl, _, World.drewN_drewN _ _ _⟩ | exact ⟨rfl, _, Eq.trans (World.drewN_drewN _ _ _) (congrArg (World.drewN _) (Nat.add_assoc _ _ _))⟩)))
       repeat (go_quiet (first | (go_at_call 55; (with_reducible refine (spec_IsSet.calls a0 (rd l1 x5_1) true _ A5.out).mono ?_); rintro e w' ⟨rfl, ⟨nd, rfl⟩⟩; (try first | exact ⟨rfl, _, World.drewN_drewN _ _ _⟩ | exact ⟨rfl, _, Eq.trans (World.drewN_drewN _ _ _) (congrArg (World.drewN _) (Nat.add_assoc _ _ _))⟩))); try go_wp2_with (first | (go_at_call 55; (with_reducible refine (spec_IsSet.calls a0 (rd l1 x5_1) true _ A5.out).mono ?_); rintro e w' ⟨rfl, ⟨nd, rfl⟩⟩; (try first | exact ⟨rfl, _, World.drewN_drewN _ _ _⟩ | exact ⟨rfl, _, Eq.trans (World.drewN_drewN _ _ _) (congrArg (World.drewN _) (Nat.add_assoc _ _ _))⟩))))
       go_roundg k1
       case measure => have := HK1.out; omega
       case rel => exact ⟨(wrap64 (x5_1 + 1)), rs_, H', ⟨by have := HK1.out; omega⟩, rd_⟩
     ·replace c6 := Bool.eq_false_iff.mpr c6
      subst c6
      have H1 : (some false) = some r := by rw [if_neg (show ¬ (false = true) by decide)] at H; exact H
      clear H
      have H := H1
      clear H1
      obtain rfl := Option.some.inj H
      have p113001 : 0 ≤ (x5_1 : Int) := of_decide_eq_true as_
      have q113001 : x5_1 < (l1.length : Int) := of_decide_eq_true as_
      obtain ⟨ad113001, e113001, hx113001_0⟩ := Kd.at_int HR1.out x5_1 p113001 q113001
      cases e113001
      replace p113001 := eq_true p113001
      replace q113001 := eq_true q113001
      go_wp2_with (first | (go_at_call 55; (with_reducible refine (spec_IsSet.calls a0 (rd l1 x5_1) false _ A5.out).mono ?_); rintro e w' ⟨rfl, ⟨nd, rfl⟩⟩; (try first | exact ⟨rfl, _, World.drewN_drewN _ _ _⟩ | exact ⟨rfl, _, Eq.trans (World.drewN_drewN _ _ _) (congrArg (World.drewN _) (Nat.add_assoc _ _ _))⟩)))
      repeat (go_quiet (first | (go_at_call 55; (with_reducible refine (spec_IsSet.calls a0 (rd l1 x5_1) false _ A5.out).mono ?_); rintro e w' ⟨rfl, ⟨nd, rfl⟩⟩; (try first | exact ⟨rfl, _, World.drewN_drewN _ _ _⟩ | exact ⟨rfl, _, Eq.trans (World.drewN_drewN _ _ _) (congrArg (World.drewN _) (Nat.add_assoc _ _ _))⟩))); try go_wp2_with (first | (go_at_call 55; (with_reducible refine (spec_IsSet.calls a0 (rd l1 x5_1) false _ A5.out).mono ?_); rintro e w' ⟨rfl, ⟨nd, rfl⟩⟩; (try first | exact ⟨rfl, _, World.drewN_drewN _ _ _⟩ | exact ⟨rfl, _, Eq.trans (World.drewN_drewN _ _ _) (congrArg (World.drewN _) (Nat.add_assoc _ _ _))⟩))))
      go_ret
      exact ⟨rs_, rd_⟩
    ·rw [if_neg c4] at H
     exact absurd H (by simp)
   ·rw [if_neg c3] at H
    have c3b0 : decide (x5_1 < (l1.length : Int)) = false := decide_eq_false c3
    clear c3
    replace H := Option.bind_eq_some_iff.mp H
    obtain ⟨t113005, A120, H⟩ := H
    replace H : (some t113005) = some r := H
    have A12 := aQ A120
    clear A120
    obtain rfl := Option.some.inj H
    go_wp2_with (first | (go_at_call 98; (with_reducible refine (spec_l1In.calls a0 0 8 t113005 _ A12.out).mono ?_); rintro e w' ⟨rfl, ⟨nd, rfl⟩⟩; (try first | exact ⟨rfl, _, World.drewN_drewN _ _ _⟩ | exact ⟨rfl, _, Eq.trans (World.drewN_drewN _ _ _) (congrArg (World.drewN _) (Nat.add_assoc _ _ _))⟩)))
    repeat (go_quiet (first | (go_at_call 98; (with_reducible refine (spec_l1In.calls a0 0 8 t113005 _ A12.out).mono ?_); rintro e w' ⟨rfl, ⟨nd, rfl⟩⟩; (try first | exact ⟨rfl, _, World.drewN_drewN _ _ _⟩ | exact ⟨rfl, _, Eq.trans (World.drewN_drewN _ _ _) (congrArg (World.drewN _) (Nat.add_assoc _ _ _))⟩))); try go_wp2_with (first | (go_at_call 98; (with_reducible refine (spec_l1In.calls a0 0 8 t113005 _ A12.out).mono ?_); rintro e w' ⟨rfl, ⟨nd, rfl⟩⟩; (try first | exact ⟨rfl, _, World.drewN_drewN _ _ _⟩ | exact ⟨rfl, _, Eq.trans (World.drewN_drewN _ _ _) (congrArg (World.drewN _) (Nat.add_assoc _ _ _))⟩))))
    go_ret
    exact ⟨rs_, rd_⟩
/-! ### spec_l4Exchange: function 144 -/
def spec_l4Exchange.l0 : Nat → Int → Int → Int → Int → Int → List Int → Option (Bool)
 | 0, _, _, _, _, _, _ => none
 | k + 1, x1, x2, x3, x9, x145002000, x145002001 => if x9 < x145002000 then ((spec_l2Has.f x2 x9).bind fun t145002 => (if t145002 = true then ((spec_l2Has.f x1 x9).bind fun t145003 => (if t145003 = true then (spec_l4Exchange.l0 k x1 x2 x3 (wrap64 (x9 + 1)) x145002000 x145002001) else (if 0 ≤ (IntKind.u64.wrap (x3)) then (if 0 ≤ (IntKind.u64.wrap (x9)) then ((spec_HasSet.f k x145002001 (wrap64 ((wrap64 (x1 - (shl .i64 1 (IntKind.u64.wrap (x3))))) + (shl .i64 1 (IntKind.u64.wrap (x9)))))).bind fun t145004 => (if t145004 = true then (some true) else (spec_l4Exchange.l0 k x1 x2 x3 (wrap64 (x9 + 1)) x145002000 x145002001))) else (none)) else (none)))) else (spec_l4Exchange.l0 k x1 x2 x3 (wrap64 (x9 + 1)) x145002000 x145002001))) else (some false)
def spec_l4Exchange.f (k : Nat) (a0_0 : Int) (l0_1 : List Int) (a1 : Int) (a2 : Int) (a3 : Int) : Option (Bool) := spec_l4Exchange.l0 k a1 a2 a3 0 a0_0 l0_1
theorem spec_l4Exchange.mono_l : ∀ k, (∀ y0 y1 y2 y3 y4 y5, LeO (spec_l4Exchange.l0 k y0 y1 y2 y3 y4 y5) (spec_l4Exchange.l0 (k + 1) y0 y1 y2 y3 y4 y5))
 | 0 => fun _ _ _ _ _ _ r h => by simp [spec_l4Exchange.l0] at h
 | k + 1 => by
  have ih0 := spec_l4Exchange.mono_l k
  ·intro y0 y1 y2 y3 y4 y5
   unfold spec_l4Exchange.l0
   repeat' first
   | (with_reducible exact ih0 _ _ _ _ _ _)
   | (with_reducible exact spec_HasSet.mono _ _ _)
   | (with_reducible exact LeO.refl _)
   | (with_reducible exact LeO.none _)
   | (with_reducible refine LeO.ite ?_ ?_)
   | (with_reducible refine LeO.bind ?_ (fun _ => ?_))
   | exact ih0 _ _ _ _ _ _
   | exact spec_HasSet.mono _ _ _
   | exact LeO.none _
   | refine LeO.ite ?_ ?_
   | refine LeO.bind ?_ (fun _ => ?_)
theorem spec_l4Exchange.mono : ∀ a0 a1 a2 a3 a4 k, LeO (spec_l4Exchange.f k a0 a1 a2 a3 a4) (spec_l4Exchange.f (k + 1) a0 a1 a2 a3 a4) := by
 intro a0 a1 a2 a3 a4 k
 have ih0 := spec_l4Exchange.mono_l k
 unfold spec_l4Exchange.f
 repeat' first
   | (with_reducible exact ih0 _ _ _ _ _ _)
   | (with_reducible exact spec_HasSet.mono _ _ _)
   | (with_reducible exact LeO.refl _)
   | (with_reducible exact LeO.none _)
   | (with_reducible refine LeO.ite ?_ ?_)
   | (with_reducible refine LeO.bind ?_ (fun _ => ?_))
   | exact ih0 _ _ _ _ _ _
   | exact spec_HasSet.mono _ _ _
   | exact LeO.none _
   | refine LeO.ite ?_ ?_
   | refine LeO.bind ?_ (fun _ => ?_)
set_option maxHeartbeats 8000000 in
set_option maxRecDepth 100000 in
theorem spec_l4Exchange.calls (k : Nat) (a0_0 : Int) (A0_1 : Option Addr) (c0_1 : Nat) (l0_1 : List Int) (a1 : Int) (a2 : Int) (a3 : Int) (r : Bool) (w : World) (hr0_1 : Kd.C (Kd.int .i64) w A0_1 l0_1.length l0_1) (hc0_1 : l0_1.length ≤ c0_1) (h : spec_l4Exchange.f k a0_0 l0_1 a1 a2 a3 = some r) :
  Calls Try.prog 144 #[.agg #[.int .i64 a0_0, .slice A0_1 l0_1.length c0_1], .int .i64 a1, .int .i64 a2, .int .i64 a3] w fun e w' => e = .returned (.bool r) ∧ Below w.heap.size w w' := by
 have hu28 := Try.underlying28
 have HR0_1 := aQ hr0_1
 have HC0_1 := aQ hc0_1
 clear hr0_1 hc0_1
 have HB := aQ (Below.refl w.heap.size w)
 have H : (spec_l4Exchange.l0 k a1 a2 a3 0 a0_0 l0_1) = some r := h
 clear h
 have H' := aQ H
 clear H
 go_enter Try.func144, Try.ntmps144
 go_wp2_with (first | ((with_reducible refine gate_dst (N := 4) rfl ?_); refine box_event ?hg (N := 4) ?hd (cs := #[.int .i64 a0_0, .slice A0_1 l0_1.length c0_1]) (t := 28) ?hr ?_; (case hd => rfl); (case hg => rfl); (case hr => first | (go_simp; done) | (go_simp; rfl)); intro gb145001 hg w5 hbox hb; have BK145001 := aQ (hbox); have GW145001 := aQ ((by rw [hg]; exact (below_size (pB HB.out)) : w.heap.size ≤ gb145001)); have GE145001 := aQ ((by rw [hg]; exact (below_size (pB HB.out)) : w.heap.size ≤ gb145001)); replace HB := aQ (below_step (pB HB.out) hb); clear hb hbox hg))
 go_loopg [9] k (fun kq v9 w' => ∃ (x9_1 : Int), v9 = .int .i64 x9_1 ∧ Aside0 (spec_l4Exchange.l0 kq a1 a2 a3 x9_1 a0_0 l0_1 = some r) ∧ Aside0 (kq ≤ k) ∧ Aside0 (w'.heap[gb145001]? = some (.cells #[.int .i64 a0_0, (.slice A0_1 l0_1.length c0_1)] 28 (0, 0))) ∧ Aside0 (Below w.heap.size w w'))
 case atStart => exact ⟨(0), rs_, H', ⟨Nat.le_refl _⟩, ⟨pk BK145001.out⟩, ⟨pB1 HB.out GE145001.out⟩⟩
 case round =>
  clear H'
  try clear c1
  try clear p2
  obtain ⟨x9_1, rfl, HA, HK1, BK145001, HB⟩ := hrel
  cases gk with
  | zero => exact absurd HA.out (by simp [spec_l4Exchange.l0])
  | succ k1 =>
   have H := HA.out
   clear HA
   simp only [spec_l4Exchange.l0] at H
   by_cases c6 : x9_1 < a0_0
   ·rw [if_pos c6] at H
    have c6b0 : decide (x9_1 < a0_0) = true := decide_eq_true c6
    clear c6
    replace H := Option.bind_eq_some_iff.mp H
    obtain ⟨t145002, A70, H⟩ := H
    replace H : (if t145002 = true then ((spec_l2Has.f a1 x9_1).bind fun t145003 => (if t145003 = true then (spec_l4Exchange.l0 k1 a1 a2 a3 (wrap64 (x9_1 + 1)) a0_0 l0_1) else (if 0 ≤ (IntKind.u64.wrap (a3)) then (if 0 ≤ (IntKind.u64.wrap (x9_1)) then ((spec_HasSet.f k1 l0_1 (wrap64 ((wrap64 (a1 - (shl .i64 1 (IntKind.u64.wrap (a3))))) + (shl .i64 1 (IntKind.u64.wrap (x9_1)))))).bind fun t145004 => (if t145004 = true then (some true) else (spec_l4Exchange.l0 k1 a1 a2 a3 (wrap64 (x9_1 + 1)) a0_0 l0_1))) else (none)) else (none)))) else (spec_l4Exchange.l0 k1 a1 a2 a3 (wrap64 (x9_1 + 1)) a0_0 l0_1)) = some r := H
    have A7 := aQ A70
    clear A70
    by_cases c8 : t145002 = true
    ·subst c8
     have H1 : ((spec_l2Has.f a1 x9_1).bind fun t145003 => (if t145003 = true then (spec_l4Exchange.l0 k1 a1 a2 a3 (wrap64 (x9_1 + 1)) a0_0 l0_1) else (if 0 ≤ (IntKind.u64.wrap (a3)) then (if 0 ≤ (IntKind.u64.wrap (x9_1)) then ((spec_HasSet.f k1 l0_1 (wrap64 ((wrap64 (a1 - (shl .i64 1 (IntKind.u64.wrap (a3))))) + (shl .i64 1 (IntKind.u64.wrap (x9_1)))))).bind fun t145004 => (if t145004 = true then (some true) else (spec_l4Exchange.l0 k1 a1 a2 a3 (wrap64 (x9_1 + 1)) a0_0 l0_1))) else (none)) else (none)))) = some r := by rw [if_pos rfl] at H; exact H
     clear H
     have H := H1
     clear H1
     replace H := Option.bind_eq_some_iff.mp H
     obtain ⟨t145003, A90, H⟩ := H
     replace H : (if t145003 = true then (spec_l4Exchange.l0 k1 a1 a2 a3 (wrap64 (x9_1 + 1)) a0_0 l0_1) else (if 0 ≤ (IntKind.u64.wrap (a3)) then (if 0 ≤ (IntKind.u64.wrap (x9_1)) then ((spec_HasSet.f k1 l0_1 (wrap64 ((wrap64 (a1 - (shl .i64 1 (IntKind.u64.wrap (a3))))) + (shl .i64 1 (IntKind.u64.wrap (x9_1)))))).bind fun t145004 => (if t145004 = true then (some true) else (spec_l4Exchange.l0 k1 a1 a2 a3 (wrap64 (x9_1 + 1)) a0_0 l0_1))) else (none)) else (none))) = some r := H
     have A9 := aQ A90
     clear A90
     by_cases c10 : t145003 = true
     ·subst c10
      have H1 : (spec_l4Exchange.l0 k1 a1 a2 a3 (wrap64 (x9_1 + 1)) a0_0 l0_1) = some r := by rw [if_pos rfl] at H; exact H
      clear H
      have H := H1
      clear H1
      have H' := aQ H
      clear H
      have hcz11_0 := bc (v := (.int .i64 a0_0)) BK145001.out 0
      have hcz11_1 := bc (v := (.slice A0_1 l0_1.length c0_1)) BK145001.out 1
      have hfz11_0 := blk_frozen BK145001.out 0
      have hfz11_1 := blk_frozen BK145001.out 1
      go_wp2_with (first | ((with_reducible refine gate_callee (f := 69) rfl ?_); refine goesL_ (some 18) rfl rfl Try.func69 (by kernel_rfl) rfl #[.int .i64 a2, .int .i64 x9_1] rfl lm ?_; (with_reducible refine (spec_l2Has.calls a2 x9_1 true _ A7.out).mono ?_); rintro e w' ⟨rfl, ⟨nd, rfl⟩⟩; refine ⟨_, rfl, ?_⟩) | (go_at_call 69; (with_reducible refine (spec_l2Has.calls a1 x9_1 true _ A9.out).mono ?_); rintro e w' ⟨rfl, ⟨nd, rfl⟩⟩))
      go_roundg k1
      case measure => have := HK1.out; omega
      case rel => exact ⟨(wrap64 (x9_1 + 1)), rs_, H', ⟨by have := HK1.out; omega⟩, ⟨pk BK145001.out⟩, ⟨pB1 HB.out GE145001.out⟩⟩
     ·replace c10 := Bool.eq_false_iff.mpr c10
      subst c10
      have H1 : (if 0 ≤ (IntKind.u64.wrap (a3)) then (if 0 ≤ (IntKind.u64.wrap (x9_1)) then ((spec_HasSet.f k1 l0_1 (wrap64 ((wrap64 (a1 - (shl .i64 1 (IntKind.u64.wrap (a3))))) + (shl .i64 1 (IntKind.u64.wrap (x9_1)))))).bind fun t145004 => (if t145004 = true then (some true) else (spec_l4Exchange.l0 k1 a1 a2 a3 (wrap64 (x9_1 + 1)) a0_0 l0_1))) else (none)) else (none)) = some r := by rw [if_neg (show ¬ (false = true) by decide)] at H; exact H
      clear H
      have H := H1
      clear H1
      obtain ⟨ji12, hji12⟩ : ∃ j_ : Int, (IntKind.u64.wrap (a3)) = j_ := ⟨_, rfl⟩
      replace H : (if 0 ≤ (ji12) then (if 0 ≤ (IntKind.u64.wrap (x9_1)) then ((spec_HasSet.f k1 l0_1 (wrap64 ((wrap64 (a1 - (shl .i64 1 (ji12)))) + (shl .i64 1 (IntKind.u64.wrap (x9_1)))))).bind fun t145004 => (if t145004 = true then (some true) else (spec_l4Exchange.l0 k1 a1 a2 a3 (wrap64 (x9_1 + 1)) a0_0 l0_1))) else (none)) else (none)) = some r := by first | (rw [hji12] at H; exact H) | (simp only [hji12] at H ⊢; exact H)
      (try rw [hji12] at A7)
      (try rw [hji12] at A9)
      by_cases c13 : 0 ≤ (ji12)
      ·rw [if_pos c13] at H
       have c13b0 := eq_true c13
       have c13b1 : decide (0 ≤ (ji12)) = true := decide_eq_true c13
       clear c13
       obtain ⟨ji14, hji14⟩ : ∃ j_ : Int, (shl .i64 1 (ji12)) = j_ := ⟨_, rfl⟩
       replace H : (if 0 ≤ (IntKind.u64.wrap (x9_1)) then ((spec_HasSet.f k1 l0_1 (wrap64 ((wrap64 (a1 - (ji14))) + (shl .i64 1 (IntKind.u64.wrap (x9_1)))))).bind fun t145004 => (if t145004 = true then (some true) else (spec_l4Exchange.l0 k1 a1 a2 a3 (wrap64 (x9_1 + 1)) a0_0 l0_1))) else (none)) = some r := by first | (rw [hji14] at H; exact H) | (simp only [hji14] at H ⊢; exact H)
       (try rw [hji14] at A7)
       (try rw [hji14] at A9)
       have hji14_ : (IntKind.i64.wrap (1 * 2 ^ min (ji12).toNat 64)) = ji14 := hji14
       have hji14z : (ji12) ≤ 64 → (IntKind.i64.wrap (1 * 2 ^ (ji12).toNat)) = ji14 := shl_small hji14
       have hji14u : (IntKind.i64.wrap (2 ^ min (ji12).toNat 64)) = ji14 := by have h_ := hji14_; rw [Int.one_mul] at h_; exact h_
       have hji14v : (ji12) ≤ 64 → (IntKind.i64.wrap (2 ^ (ji12).toNat)) = ji14 := fun hle_ => by have h_ := hji14z hle_; rw [Int.one_mul] at h_; exact h_
       have hji14y : (wrap64 (1 * 2 ^ min (ji12).toNat 64)) = ji14 := (i64_w _).symm.trans hji14_
       have hji14x : (ji12) ≤ 64 → (wrap64 (1 * 2 ^ (ji12).toNat)) = ji14 := fun h_ => (i64_w _).symm.trans (hji14z h_)
       obtain ⟨ji15, hji15⟩ : ∃ j_ : Int, (IntKind.u64.wrap (x9_1)) = j_ := ⟨_, rfl⟩
       replace H : (if 0 ≤ (ji15) then ((spec_HasSet.f k1 l0_1 (wrap64 ((wrap64 (a1 - (ji14))) + (shl .i64 1 (ji15))))).bind fun t145004 => (if t145004 = true then (some true) else (spec_l4Exchange.l0 k1 a1 a2 a3 (wrap64 (x9_1 + 1)) a0_0 l0_1))) else (none)) = some r := by first | (rw [hji15] at H; exact H) | (simp only [hji15] at H ⊢; exact H)
       (try rw [hji15] at A7)
       (try rw [hji15] at A9)
       by_cases c16 : 0 ≤ (ji15)
       ·rw [if_pos c16] at H
        have c16b0 := eq_true c16
        have c16b1 : decide (0 ≤ (ji15)) = true := decide_eq_true c16
        clear c16
        obtain ⟨ji17, hji17⟩ : ∃ j_ : Int, (shl .i64 1 (ji15)) = j_ := ⟨_, rfl⟩
        replace H : ((spec_HasSet.f k1 l0_1 (wrap64 ((wrap64 (a1 - (ji14))) + (ji17)))).bind fun t145004 => (if t145004 = true then (some true) else (spec_l4Exchange.l0 k1 a1 a2 a3 (wrap64 (x9_1 + 1)) a0_0 l0_1))) = some r := by first | (rw [hji17] at H; exact H) | (simp only [hji17] at H ⊢; exact H)
        (try rw [hji17] at A7)
        (try rw [hji17] at A9)
        have hji17_ : (IntKind.i64.wrap (1 * 2 ^ min (ji15).toNat 64)) = ji17 := hji17
        have hji17z : (ji15) ≤ 64 → (IntKind.i64.wrap (1 * 2 ^ (ji15).toNat)) = ji17 := shl_small hji17
        have hji17u : (IntKind.i64.wrap (2 ^ min (ji15).toNat 64)) = ji17 := by have h_ := hji17_; rw [Int.one_mul] at h_; exact h_
        have hji17v : (ji15) ≤ 64 → (IntKind.i64.wrap (2 ^ (ji15).toNat)) = ji17 := fun hle_ => by have h_ := hji17z hle_; rw [Int.one_mul] at h_; exact h_
        have hji17y : (wrap64 (1 * 2 ^ min (ji15).toNat 64)) = ji17 := (i64_w _).symm.trans hji17_
        have hji17x : (ji15) ≤ 64 → (wrap64 (1 * 2 ^ (ji15).toNat)) = ji17 := fun h_ => (i64_w _).symm.trans (hji17z h_)
        replace H := Option.bind_eq_some_iff.mp H
        obtain ⟨t145004, A180, H⟩ := H
        replace H : (if t145004 = true then (some true) else (spec_l4Exchange.l0 k1 a1 a2 a3 (wrap64 (x9_1 + 1)) a0_0 l0_1)) = some r := H
        have A18 := aQ A180
        clear A180
        by_cases c19 : t145004 = true
        ·subst c19
         have H1 : (some true) = some r := by rw [if_pos rfl] at H; exact H
         clear H
         have H := H1
         clear H1
         obtain rfl := Option.some.inj H
         have hcz20_0 := bc (v := (.int .i64 a0_0)) BK145001.out 0
         have hcz20_1 := bc (v := (.slice A0_1 l0_1.length c0_1)) BK145001.out 1
         have hfz20_0 := blk_frozen BK145001.out 0
         have hfz20_1 := blk_frozen BK145001.out 1
         go_wp2_with (first | ((with_reducible refine gate_callee (f := 69) rfl ?_); refine goesL_ (some 18) rfl rfl Try.func69 (by kernel_rfl) rfl #[.int .i64 a2, .int .i64 x9_1] rfl lm ?_; (with_reducible refine (spec_l2Has.calls a2 x9_1 true _ A7.out).mono ?_); rintro e w' ⟨rfl, ⟨nd, rfl⟩⟩; refine ⟨_, rfl, ?_⟩) | (go_at_call 69; (with_reducible refine (spec_l2Has.calls a1 x9_1 false _ A9.out).mono ?_); rintro e w' ⟨rfl, ⟨nd, rfl⟩⟩) | (go_at_call 115; (with_reducible refine (spec_HasSet.calls k1 _ _ l0_1 (wrap64 ((wrap64 (a1 - (ji14))) + (ji17))) true _ ?side1 ?side2 A18.out).mono ?_); (case side1 => repeat (first | exact (Kd.C_below HR0_1.out (pB1 HB.out GE145001.out)) | (with_reducible refine Kd.C_alloc ?_ _) | (with_reducible refine Kd.C_drewN ?_ _) | (with_reducible refine Kd.C_drew ?_))); (case side2 => exact HC0_1.out); rintro e w' ⟨rfl, ⟨nd, rfl⟩⟩))
         go_ret
         exact ⟨by first | rfl | (simp [errW_none, errW_some] <;> rfl) | (simp only [← hji12, ← hji14, ← hji15, ← hji17]; first | rfl | (simp [errW_none, errW_some] <;> rfl)) | (simp [*, errW_none, errW_some] <;> rfl), pB1 HB.out GE145001.out⟩
        ·replace c19 := Bool.eq_false_iff.mpr c19
         subst c19
         have H1 : (spec_l4Exchange.l0 k1 a1 a2 a3 (wrap64 (x9_1 + 1)) a0_0 l0_1) = some r := by rw [if_neg (show ¬ (false = true) by decide)] at H; exact H
         clear H
         have H := H1
         clear H1
         have H' := aQ H
         clear H
         have hcz21_0 := bc (v := (.int .i64 a0_0)) BK145001.out 0
         have hcz21_1 := bc (v := (.slice A0_1 l0_1.length c0_1)) BK145001.out 1
         have hfz21_0 := blk_frozen BK145001.out 0
         have hfz21_1 := blk_frozen BK145001.out 1
         go_wp2_with (first | ((with_reducible refine gate_callee (f := 69) rfl ?_); refine goesL_ (some 18) rfl rfl Try.func69 (by kernel_rfl) rfl #[.int .i64 a2, .int .i64 x9_1] rfl lm ?_; (with_reducible refine (spec_l2Has.calls a2 x9_1 true _ A7.out).mono ?_); rintro e w' ⟨rfl, ⟨nd, rfl⟩⟩; refine ⟨_, rfl, ?_⟩) | (go_at_call 69; (with_reducible refine (spec_l2Has.calls a1 x9_1 false _ A9.out).mono ?_); rintro e w' ⟨rfl, ⟨nd, rfl⟩⟩) | (go_at_call 115; (with_reducible refine (spec_HasSet.calls k1 _ _ l0_1 (wrap64 ((wrap64 (a1 - (ji14))) + (ji17))) false _ ?side1 ?side2 A18.out).mono ?_); (case side1 => repeat (first | exact (Kd.C_below HR0_1.out (pB1 HB.out GE145001.out)) | (with_reducible refine Kd.C_alloc ?_ _) | (with_reducible refine Kd.C_drewN ?_ _) | (with_reducible refine Kd.C_drew ?_))); (case side2 => exact HC0_1.out); rintro e w' ⟨rfl, ⟨nd, rfl⟩⟩))
         go_roundg k1
         case measure => have := HK1.out; omega
         case rel => exact ⟨(wrap64 (x9_1 + 1)), rs_, H', ⟨by have := HK1.out; omega⟩, ⟨pk BK145001.out⟩, ⟨pB1 HB.out GE145001.out⟩⟩
       ·rw [if_neg c16] at H
        exact absurd H (by simp)
      ·rw [if_neg c13] at H
       exact absurd H (by simp)
    ·replace c8 := Bool.eq_false_iff.mpr c8
     subst c8
     have H1 : (spec_l4Exchange.l0 k1 a1 a2 a3 (wrap64 (x9_1 + 1)) a0_0 l0_1) = some r := by rw [if_neg (show ¬ (false = true) by decide)] at H; exact H
     clear H
     have H := H1
     clear H1
     have H' := aQ H
     clear H
     have hcz22_0 := bc (v := (.int .i64 a0_0)) BK145001.out 0
     have hcz22_1 := bc (v := (.slice A0_1 l0_1.length c0_1)) BK145001.out 1
     have hfz22_0 := blk_frozen BK145001.out 0
     have hfz22_1 := blk_frozen BK145001.out 1
     go_wp2_with (first | ((with_reducible refine gate_callee (f := 69) rfl ?_); refine goesL_ (some 18) rfl rfl Try.func69 (by kernel_rfl) rfl #[.int .i64 a2, .int .i64 x9_1] rfl lm ?_; (with_reducible refine (spec_l2Has.calls a2 x9_1 false _ A7.out).mono ?_); rintro e w' ⟨rfl, ⟨nd, rfl⟩⟩; refine ⟨_, rfl, ?_⟩))
     go_roundg k1
     case measure => have := HK1.out; omega
     case rel => exact ⟨(wrap64 (x9_1 + 1)), rs_, H', ⟨by have := HK1.out; omega⟩, ⟨pk BK145001.out⟩, ⟨pB1 HB.out GE145001.out⟩⟩
   ·rw [if_neg c6] at H
    have c6b0 : decide (x9_1 < a0_0) = false := decide_eq_false c6
    clear c6
    obtain rfl := Option.some.inj H
    have hcz23_0 := bc (v := (.int .i64 a0_0)) BK145001.out 0
    have hcz23_1 := bc (v := (.slice A0_1 l0_1.length c0_1)) BK145001.out 1
    have hfz23_0 := blk_frozen BK145001.out 0
    have hfz23_1 := blk_frozen BK145001.out 1
    go_wp2
    go_ret
    exact ⟨re_, pB1 HB.out GE145001.out⟩
/-! ### spec_FirstFailure: function 111 -/
mutual
def spec_FirstFailure.l0 : Nat → Int → Int → List Int → Option (Int × Int × Int × Bool)
 | 0, _, _, _ => none
 | k + 1, x4, x112002000, x112002001 => if x4 < (x112002001.length : Int) then (spec_FirstFailure.l1 k x4 0 x112002000 x112002001) else (some (0, 0, 0, false))
def spec_FirstFailure.l1 : Nat → Int → Int → Int → List Int → Option (Int × Int × Int × Bool)
 | 0, _, _, _, _ => none
 | k + 1, x4, x5, x112002000, x112002001 => if x5 < (x112002001.length : Int) then (spec_FirstFailure.l2 k x4 x5 0 x112002000 x112002001) else (spec_FirstFailure.l0 k (wrap64 (x4 + 1)) x112002000 x112002001)
def spec_FirstFailure.l2 : Nat → Int → Int → Int → Int → List Int → Option (Int × Int × Int × Bool)
 | 0, _, _, _, _, _ => none
 | k + 1, x4, x5, x6, x112002000, x112002001 => if x6 < x112002000 then (if 0 ≤ x4 then (if x4 < (x112002001.length : Int) then (if 0 ≤ x5 then (if x5 < (x112002001.length : Int) then ((spec_l2Has.f (rd x112002001 x4) x6).bind fun t112006 => (if t112006 = true then ((spec_l2Has.f (rd x112002001 x5) x6).bind fun t112007 => (if t112007 = true then (spec_FirstFailure.l2 k x4 x5 (wrap64 (x6 + 1)) x112002000 x112002001) else ((spec_l4Exchange.f k x112002000 x112002001 (rd x112002001 x4) (rd x112002001 x5) x6).bind fun t112008 => (if t112008 = true then (spec_FirstFailure.l2 k x4 x5 (wrap64 (x6 + 1)) x112002000 x112002001) else (some (rd x112002001 x4, rd x112002001 x5, x6, true)))))) else (spec_FirstFailure.l2 k x4 x5 (wrap64 (x6 + 1)) x112002000 x112002001))) else (none)) else (none)) else (none)) else (none)) else (spec_FirstFailure.l1 k x4 (wrap64 (x5 + 1)) x112002000 x112002001)
end
def spec_FirstFailure.f (k : Nat) (a0_0 : Int) (l0_1 : List Int) : Option (Int × Int × Int × Bool) := (spec_IsFamily.f k a0_0 l0_1).bind fun t112003 => (if t112003 = true then (spec_FirstFailure.l0 k 0 a0_0 l0_1) else (some (0, 0, 0, false)))
theorem spec_FirstFailure.mono_l : ∀ k, (∀ y0 y1 y2, LeO (spec_FirstFailure.l0 k y0 y1 y2) (spec_FirstFailure.l0 (k + 1) y0 y1 y2)) ∧ (∀ y0 y1 y2 y3, LeO (spec_FirstFailure.l1 k y0 y1 y2 y3) (spec_FirstFailure.l1 (k + 1) y0 y1 y2 y3)) ∧ (∀ y0 y1 y2 y3 y4, LeO (spec_FirstFailure.l2 k y0 y1 y2 y3 y4) (spec_FirstFailure.l2 (k + 1) y0 y1 y2 y3 y4))
 | 0 => ⟨fun _ _ _ r h => by simp [spec_FirstFailure.l0] at h, fun _ _ _ _ r h => by simp [spec_FirstFailure.l1] at h, fun _ _ _ _ _ r h => by simp [spec_FirstFailure.l2] at h⟩
 | k + 1 => by
  obtain ⟨ih0, ih1, ih2⟩ := spec_FirstFailure.mono_l k
  refine ⟨?_, ?_, ?_⟩
  ·intro y0 y1 y2
   unfold spec_FirstFailure.l0
   repeat' first
   | (with_reducible exact ih0 _ _ _)
   | (with_reducible exact ih1 _ _ _ _)
   | (with_reducible exact ih2 _ _ _ _ _)
   | (with_reducible exact spec_IsFamily.mono _ _ _)
   | (with_reducible exact spec_l4Exchange.mono _ _ _ _ _ _)
   | (with_reducible exact LeO.refl _)
   | (with_reducible exact LeO.none _)
   | (with_reducible refine LeO.ite ?_ ?_)
   | (with_reducible refine LeO.bind ?_ (fun _ => ?_))
   | exact ih0 _ _ _
   | exact ih1 _ _ _ _
   | exact ih2 _ _ _ _ _
   | exact spec_IsFamily.mono _ _ _
   | exact spec_l4Exchange.mono _ _ _ _ _ _
   | exact LeO.none _
   | refine LeO.ite ?_ ?_
   | refine LeO.bind ?_ (fun _ => ?_)
  ·intro y0 y1 y2 y3
   unfold spec_FirstFailure.l1
   repeat' first
   | (with_reducible exact ih0 _ _ _)
   | (with_reducible exact ih1 _ _ _ _)
   | (with_reducible exact ih2 _ _ _ _ _)
   | (with_reducible exact spec_IsFamily.mono _ _ _)
   | (with_reducible exact spec_l4Exchange.mono _ _ _ _ _ _)
   | (with_reducible exact LeO.refl _)
   | (with_reducible exact LeO.none _)
   | (with_reducible refine LeO.ite ?_ ?_)
   | (with_reducible refine LeO.bind ?_ (fun _ => ?_))
   | exact ih0 _ _ _
   | exact ih1 _ _ _ _
   | exact ih2 _ _ _ _ _
   | exact spec_IsFamily.mono _ _ _
   | exact spec_l4Exchange.mono _ _ _ _ _ _
   | exact LeO.none _
   | refine LeO.ite ?_ ?_
   | refine LeO.bind ?_ (fun _ => ?_)
  ·intro y0 y1 y2 y3 y4
   unfold spec_FirstFailure.l2
   repeat' first
   | (with_reducible exact ih0 _ _ _)
   | (with_reducible exact ih1 _ _ _ _)
   | (with_reducible exact ih2 _ _ _ _ _)
   | (with_reducible exact spec_IsFamily.mono _ _ _)
   | (with_reducible exact spec_l4Exchange.mono _ _ _ _ _ _)
   | (with_reducible exact LeO.refl _)
   | (with_reducible exact LeO.none _)
   | (with_reducible refine LeO.ite ?_ ?_)
   | (with_reducible refine LeO.bind ?_ (fun _ => ?_))
   | exact ih0 _ _ _
   | exact ih1 _ _ _ _
   | exact ih2 _ _ _ _ _
   | exact spec_IsFamily.mono _ _ _
   | exact spec_l4Exchange.mono _ _ _ _ _ _
   | exact LeO.none _
   | refine LeO.ite ?_ ?_
   | refine LeO.bind ?_ (fun _ => ?_)
theorem spec_FirstFailure.mono : ∀ a0 a1 k, LeO (spec_FirstFailure.f k a0 a1) (spec_FirstFailure.f (k + 1) a0 a1) := by
 intro a0 a1 k
 obtain ⟨ih0, ih1, ih2⟩ := spec_FirstFailure.mono_l k
 unfold spec_FirstFailure.f
 repeat' first
   | (with_reducible exact ih0 _ _ _)
   | (with_reducible exact ih1 _ _ _ _)
   | (with_reducible exact ih2 _ _ _ _ _)
   | (with_reducible exact spec_IsFamily.mono _ _ _)
   | (with_reducible exact spec_l4Exchange.mono _ _ _ _ _ _)
   | (with_reducible exact LeO.refl _)
   | (with_reducible exact LeO.none _)
   | (with_reducible refine LeO.ite ?_ ?_)
   | (with_reducible refine LeO.bind ?_ (fun _ => ?_))
   | exact ih0 _ _ _
   | exact ih1 _ _ _ _
   | exact ih2 _ _ _ _ _
   | exact spec_IsFamily.mono _ _ _
   | exact spec_l4Exchange.mono _ _ _ _ _ _
   | exact LeO.none _
   | refine LeO.ite ?_ ?_
   | refine LeO.bind ?_ (fun _ => ?_)
set_option maxHeartbeats 8000000 in
set_option maxRecDepth 100000 in
theorem spec_FirstFailure.calls (k : Nat) (a0_0 : Int) (A0_1 : Option Addr) (c0_1 : Nat) (l0_1 : List Int) (r1 : Int) (r2 : Int) (r3 : Int) (r4 : Bool) (w : World) (hr0_1 : Kd.C (Kd.int .i64) w A0_1 l0_1.length l0_1) (hc0_1 : l0_1.length ≤ c0_1) (h : spec_FirstFailure.f k a0_0 l0_1 = some (r1, r2, r3, r4)) :
  Calls Try.prog 111 #[.agg #[.int .i64 a0_0, .slice A0_1 l0_1.length c0_1]] w fun e w' => e = .returned (.tuple #[.agg #[.int .i64 r1, .int .i64 r2, .int .i64 r3], .bool r4]) ∧ Below w.heap.size w w' := by
 have hu28 := Try.underlying28
 have hu94 := Try.underlying94
 have HR0_1 := aQ hr0_1
 have HC0_1 := aQ hc0_1
 clear hr0_1 hc0_1
 have HB := aQ (Below.refl w.heap.size w)
 have H : ((spec_IsFamily.f k a0_0 l0_1).bind fun t112003 => (if t112003 = true then (spec_FirstFailure.l0 k 0 a0_0 l0_1) else (some (0, 0, 0, false)))) = some (r1, r2, r3, r4) := h
 clear h
 replace H := Option.bind_eq_some_iff.mp H
 obtain ⟨t112003, A20, H⟩ := H
 replace H : (if t112003 = true then (spec_FirstFailure.l0 k 0 a0_0 l0_1) else (some (0, 0, 0, false))) = some (r1, r2, r3, r4) := H
 have A2 := aQ A20
 clear A20
 by_cases c3 : t112003 = true
 ·subst c3
  have H1 : (spec_FirstFailure.l0 k 0 a0_0 l0_1) = some (r1, r2, r3, r4) := by rw [if_pos rfl] at H; exact H
  clear H
  have H := H1
  clear H1
  have H' := aQ H
  clear H
  go_enter Try.func111, Try.ntmps111
  go_wp2_with (first | ((with_reducible refine gate_dst (N := 1) rfl ?_); refine box_event ?hg (N := 1) ?hd (cs := #[.int .i64 a0_0, .slice A0_1 l0_1.length c0_1]) (t := 28) ?hr ?_; (case hd => rfl); (case hg => rfl); (case hr => first | (go_simp; done) | (go_simp; rfl)); intro gb112001 hg w4 hbox hb; have BK112001 := aQ (hbox); have GW112001 := aQ ((by rw [hg]; exact (below_size (pB HB.out)) : w.heap.size ≤ gb112001)); have GE112001 := aQ ((by rw [hg]; exact (below_size (pB HB.out)) : w.heap.size ≤ gb112001)); replace HB := aQ (below_step (pB HB.out) hb); clear hb hbox hg) | ((with_reducible refine gate_dst (N := 2) rfl ?_); refine box_event ?hg (N := 2) ?hd (cs := #[.int .i64 0, .int .i64 0, .int .i64 0]) (t := 94) ?hr ?_; (case hd => rfl); (case hg => rfl); (case hr => first | (go_simp; done) | (go_simp; rfl)); intro gb112002 hg w5 hbox hb; have BK112002 := aQ (hbox); have GW112002 := aQ ((by rw [hg]; exact (below_size (pB1 HB.out GE112001.out)) : w.heap.size ≤ gb112002)); have GE112002 := aQ ((by rw [hg]; exact (below_size (pB1 HB.out GE112001.out)) : w.heap.size ≤ gb112002)); replace HB := aQ (below_step (pB1 HB.out GE112001.out) hb); have NB112001_112002 := aQ ((by rw [hg]; exact Nat.ne_of_lt (blk_lt (g := gb112001) (o := .cells #[.int .i64 a0_0, .slice A0_1 l0_1.length c0_1] 28 (0, 0)) (pk BK112001.out)) : gb112001 ≠ gb112002)); have NB112002_112001 := aQ ((by rw [hg]; exact Nat.ne_of_gt (blk_lt (g := gb112001) (o := .cells #[.int .i64 a0_0, .slice A0_1 l0_1.length c0_1] 28 (0, 0)) (pk BK112001.out)) : gb112002 ≠ gb112001)); replace BK112001 := aQ (blk_below (g := gb112001) (o := .cells #[.int .i64 a0_0, .slice A0_1 l0_1.length c0_1] 28 (0, 0)) (pk BK112001.out) hb); clear hb hbox hg; have hnb6 := NB112001_112002.out; have hnc6 := NB112002_112001.out; have hcz7_0 := bc (v := (.int .i64 a0_0)) BK112001.out 0; have hcz7_1 := bc (v := (.slice A0_1 l0_1.length c0_1)) BK112001.out 1; have hfz7_0 := blk_frozen BK112001.out 0; have hfz7_1 := blk_frozen BK112001.out 1) | ((with_reducible refine gate_callee (f := 112) rfl ?_); refine goesL_ (some 13) rfl rfl Try.func112 (by kernel_rfl) rfl #[.int .i64 a0_0, .slice A0_1 l0_1.length c0_1] rfl lm ?_; (with_reducible refine (spec_IsFamily.calls k a0_0 _ _ l0_1 true _ ?side1 ?side2 A2.out).mono ?_); (case side1 => exact pC (Kd.C_below HR0_1.out HB.out)); (case side2 => exact HC0_1.out); rintro e w' ⟨rfl, ⟨nd, rfl⟩⟩; refine ⟨_, rfl, ?_⟩))
  go_loopg [4] k (fun kq v4 w' => ∃ (x4_1 : Int) (x112003000_1 : Int) (x112003001_1 : Int) (x112003002_1 : Int), v4 = .int .i64 x4_1 ∧ Aside0 (spec_FirstFailure.l0 kq x4_1 a0_0 l0_1 = some (r1, r2, r3, r4)) ∧ Aside0 (kq ≤ k) ∧ Aside0 (w'.heap[gb112001]? = some (.cells #[.int .i64 a0_0, (.slice A0_1 l0_1.length c0_1)] 28 (0, 0))) ∧ Aside0 (w'.heap[gb112002]? = some (.cells #[.int .i64 x112003000_1, .int .i64 x112003001_1, .int .i64 x112003002_1] 94 (0, 0))) ∧ Aside0 (Below w.heap.size w w'))
  case atStart => exact ⟨(0), (0), (0), (0), rs_, H', ⟨Nat.le_refl _⟩, ⟨pk BK112001.out⟩, ⟨pk BK112002.out⟩, ⟨pB2 HB.out GE112001.out GE112002.out⟩⟩
  case round =>
   clear H'
   try clear c1
   try clear p2
   try clear c3
   try clear c6
   try clear hcz7_0
   try clear hcz7_1
   try clear hfz7_0
   try clear hfz7_1
   obtain ⟨x4_1, x112003000_1, x112003001_1, x112003002_1, rfl, HA, HK1, BK112001, BK112002, HB⟩ := hrel
   cases gk with
   | zero => exact absurd HA.out (by simp [spec_FirstFailure.l0])
   | succ k1 =>
    have H := HA.out
    clear HA
    simp only [spec_FirstFailure.l0] at H
    by_cases c8 : x4_1 < (l0_1.length : Int)
    ·rw [if_pos c8] at H
     have c8b0 : decide (x4_1 < (l0_1.length : Int)) = true := decide_eq_true c8
     clear c8
     have H' := aQ H
     clear H
     have hnb9 := NB112001_112002.out
     have hnc9 := NB112002_112001.out
     have hcz10_0 := bc (v := (.int .i64 a0_0)) BK112001.out 0
     have hcz10_1 := bc (v := (.slice A0_1 l0_1.length c0_1)) BK112001.out 1
     have hfz10_0 := blk_frozen BK112001.out 0
     have hfz10_1 := blk_frozen BK112001.out 1
     go_wp2
     go_loopg [5] k1 (fun kq v5 w' => ∃ (x5_2 : Int) (x112003000_2 : Int) (x112003001_2 : Int) (x112003002_2 : Int), v5 = .int .i64 x5_2 ∧ Aside0 (spec_FirstFailure.l1 kq x4_1 x5_2 a0_0 l0_1 = some (r1, r2, r3, r4)) ∧ Aside0 (kq ≤ k1) ∧ Aside0 (w'.heap[gb112001]? = some (.cells #[.int .i64 a0_0, (.slice A0_1 l0_1.length c0_1)] 28 (0, 0))) ∧ Aside0 (w'.heap[gb112002]? = some (.cells #[.int .i64 x112003000_2, .int .i64 x112003001_2, .int .i64 x112003002_2] 94 (0, 0))) ∧ Aside0 (Below w.heap.size w w'))
     case atStart => exact ⟨(0), (x112003000_1), (x112003001_1), (x112003002_1), rs_, H', ⟨Nat.le_refl _⟩, ⟨pk BK112001.out⟩, ⟨pk BK112002.out⟩, ⟨pB2 HB.out GE112001.out GE112002.out⟩⟩
     case round =>
      clear H'
      try clear c1
      try clear p2
      try clear c3
      try clear c6
      try clear c8
      try clear c8b0
      try clear c9
      try clear hcz10_0
      try clear hcz10_1
      try clear hcz7_0
      try clear hcz7_1
      try clear hfz10_0
      try clear hfz10_1
      try clear hfz7_0
      try clear hfz7_1
      try clear p2
      obtain ⟨x5_2, x112003000_2, x112003001_2, x112003002_2, rfl, HA, HK2, BK112001, BK112002, HB⟩ := hrel
      cases gk with
      | zero => exact absurd HA.out (by simp [spec_FirstFailure.l1])
      | succ k2 =>
       have H := HA.out
       clear HA
       simp only [spec_FirstFailure.l1] at H
       by_cases c11 : x5_2 < (l0_1.length : Int)
       ·rw [if_pos c11] at H
        have c11b0 : decide (x5_2 < (l0_1.length : Int)) = true := decide_eq_true c11
        clear c11
        have H' := aQ H
        clear H
        have hnb12 := NB112001_112002.out
        have hnc12 := NB112002_112001.out
        have hcz13_0 := bc (v := (.int .i64 a0_0)) BK112001.out 0
        have hcz13_1 := bc (v := (.slice A0_1 l0_1.length c0_1)) BK112001.out 1
        have hfz13_0 := blk_frozen BK112001.out 0
        have hfz13_1 := blk_frozen BK112001.out 1
        go_wp2
        go_loopg [6] k2 (fun kq v6 w' => ∃ (x6_3 : Int) (x112003000_3 : Int) (x112003001_3 : Int) (x112003002_3 : Int), v6 = .int .i64 x6_3 ∧ Aside0 (spec_FirstFailure.l2 kq x4_1 x5_2 x6_3 a0_0 l0_1 = some (r1, r2, r3, r4)) ∧ Aside0 (kq ≤ k2) ∧ Aside0 (w'.heap[gb112001]? = some (.cells #[.int .i64 a0_0, (.slice A0_1 l0_1.length c0_1)] 28 (0, 0))) ∧ Aside0 (w'.heap[gb112002]? = some (.cells #[.int .i64 x112003000_3, .int .i64 x112003001_3, .int .i64 x112003002_3] 94 (0, 0))) ∧ Aside0 (Below w.heap.size w w'))
        case atStart => exact ⟨(0), (x112003000_2), (x112003001_2), (x112003002_2), rs_, H', ⟨Nat.le_refl _⟩, ⟨pk BK112001.out⟩, ⟨pk BK112002.out⟩, ⟨pB2 HB.out GE112001.out GE112002.out⟩⟩
        case round =>
         clear H'
         try clear c1
         try clear p2
         try clear c3
         try clear c6
         try clear c8
         try clear c8b0
         try clear c9
         try clear c11
         try clear c11b0
         try clear c12
         try clear hcz10_0
         try clear hcz10_1
         try clear hcz13_0
         try clear hcz13_1
         try clear hcz7_0
         try clear hcz7_1
         try clear hfz10_0
         try clear hfz10_1
         try clear hfz13_0
         try clear hfz13_1
         try clear hfz7_0
         try clear hfz7_1
         try clear p2
         obtain ⟨x6_3, x112003000_3, x112003001_3, x112003002_3, rfl, HA, HK3, BK112001, BK112002, HB⟩ := hrel
         cases gk with
         | zero => exact absurd HA.out (by simp [spec_FirstFailure.l2])
         | succ k3 =>
          have H := HA.out
          clear HA
          simp only [spec_FirstFailure.l2] at H
          by_cases c14 : x6_3 < a0_0
          ·rw [if_pos c14] at H
           have c14b0 : decide (x6_3 < a0_0) = true := decide_eq_true c14
           clear c14
           by_cases c15 : 0 ≤ x4_1
           ·rw [if_pos c15] at H
            have c15b0 : decide (0 ≤ x4_1) = true := decide_eq_true c15
            clear c15
            by_cases c16 : x4_1 < (l0_1.length : Int)
            ·rw [if_pos c16] at H
             have c16b0 : decide (x4_1 < (l0_1.length : Int)) = true := decide_eq_true c16
             clear c16
             by_cases c17 : 0 ≤ x5_2
             ·rw [if_pos c17] at H
              have c17b0 : decide (0 ≤ x5_2) = true := decide_eq_true c17
              clear c17
              by_cases c18 : x5_2 < (l0_1.length : Int)
              ·rw [if_pos c18] at H
               have c18b0 : decide (x5_2 < (l0_1.length : Int)) = true := decide_eq_true c18
               clear c18
               replace H := Option.bind_eq_some_iff.mp H
               obtain ⟨t112006, A190, H⟩ := H
               replace H : (if t112006 = true then ((spec_l2Has.f (rd l0_1 x5_2) x6_3).bind fun t112007 => (if t112007 = true then (spec_FirstFailure.l2 k3 x4_1 x5_2 (wrap64 (x6_3 + 1)) a0_0 l0_1) else ((spec_l4Exchange.f k3 a0_0 l0_1 (rd l0_1 x4_1) (rd l0_1 x5_2) x6_3).bind fun t112008 => (if t112008 = true then (spec_FirstFailure.l2 k3 x4_1 x5_2 (wrap64 (x6_3 + 1)) a0_0 l0_1) else (some (rd l0_1 x4_1, rd l0_1 x5_2, x6_3, true)))))) else (spec_FirstFailure.l2 k3 x4_1 x5_2 (wrap64 (x6_3 + 1)) a0_0 l0_1)) = some (r1, r2, r3, r4) := H
               have A19 := aQ A190
               clear A190
               by_cases c20 : t112006 = true
               ·subst c20
                have H1 : ((spec_l2Has.f (rd l0_1 x5_2) x6_3).bind fun t112007 => (if t112007 = true then (spec_FirstFailure.l2 k3 x4_1 x5_2 (wrap64 (x6_3 + 1)) a0_0 l0_1) else ((spec_l4Exchange.f k3 a0_0 l0_1 (rd l0_1 x4_1) (rd l0_1 x5_2) x6_3).bind fun t112008 => (if t112008 = true then (spec_FirstFailure.l2 k3 x4_1 x5_2 (wrap64 (x6_3 + 1)) a0_0 l0_1) else (some (rd l0_1 x4_1, rd l0_1 x5_2, x6_3, true)))))) = some (r1, r2, r3, r4) := by rw [if_pos rfl] at H; exact H
                clear H
                have H := H1
                clear H1
                replace H := Option.bind_eq_some_iff.mp H
                obtain ⟨t112007, A210, H⟩ := H
                replace H : (if t112007 = true then (spec_FirstFailure.l2 k3 x4_1 x5_2 (wrap64 (x6_3 + 1)) a0_0 l0_1) else ((spec_l4Exchange.f k3 a0_0 l0_1 (rd l0_1 x4_1) (rd l0_1 x5_2) x6_3).bind fun t112008 => (if t112008 = true then (spec_FirstFailure.l2 k3 x4_1 x5_2 (wrap64 (x6_3 + 1)) a0_0 l0_1) else (some (rd l0_1 x4_1, rd l0_1 x5_2, x6_3, true))))) = some (r1, r2, r3, r4) := H
                have A21 := aQ A210
                clear A210
                by_cases c22 : t112007 = true
                ·subst c22
                 have H1 : (spec_FirstFailure.l2 k3 x4_1 x5_2 (wrap64 (x6_3 + 1)) a0_0 l0_1) = some (r1, r2, r3, r4) := by rw [if_pos rfl] at H; exact H
                 clear H
                 have H := H1
                 clear H1
                 have H' := aQ H
                 clear H
                 have hnb23 := NB112001_112002.out
                 have hnc23 := NB112002_112001.out
                 have hcz24_0 := bc (v := (.int .i64 a0_0)) BK112001.out 0
                 have hcz24_1 := bc (v := (.slice A0_1 l0_1.length c0_1)) BK112001.out 1
                 have hfz24_0 := blk_frozen BK112001.out 0
                 have hfz24_1 := blk_frozen BK112001.out 1
                 have p112004 : 0 ≤ (x4_1 : Int) := of_decide_eq_true as_
                 have q112004 : x4_1 < (l0_1.length : Int) := of_decide_eq_true as_
                 obtain ⟨ad112004, e112004, hx112004_0⟩ := Kd.at_int HR0_1.out x4_1 p112004 q112004
                 cases e112004
                 replace hx112004_0 := (HB.out.cell (World.block_lt_of_cell? w _ hx112004_0)).trans hx112004_0
                 replace p112004 := eq_true p112004
                 replace q112004 := eq_true q112004
                 have p112005 : 0 ≤ (x5_2 : Int) := of_decide_eq_true as_
                 have q112005 : x5_2 < (l0_1.length : Int) := of_decide_eq_true as_
                 obtain ⟨ad112005, e112005, hx112005_0⟩ := Kd.at_int HR0_1.out x5_2 p112005 q112005
                 obtain rfl : ad112004 = ad112005 := (by injection e112005)
                 replace hx112005_0 := (HB.out.cell (World.block_lt_of_cell? w _ hx112005_0)).trans hx112005_0
                 replace p112005 := eq_true p112005
                 replace q112005 := eq_true q112005
                 go_wp2_with (first | ((with_reducible refine gate_callee (f := 69) rfl ?_); refine goesL_ (some 48) rfl rfl Try.func69 (by kernel_rfl) rfl #[.int .i64 (rd l0_1 x4_1), .int .i64 x6_3] rfl lm ?_; (with_reducible refine (spec_l2Has.calls (rd l0_1 x4_1) x6_3 true _ A19.out).mono ?_); rintro e w' ⟨rfl, ⟨nd, rfl⟩⟩; refine ⟨_, rfl, ?_⟩) | (go_at_call 69; (with_reducible refine (spec_l2Has.calls (rd l0_1 x5_2) x6_3 true _ A21.out).mono ?_); rintro e w' ⟨rfl, ⟨nd, rfl⟩⟩))
                 go_roundg k3
                 case measure => have := HK1.out; have := HK2.out; have := HK3.out; omega
                 case rel => exact ⟨(wrap64 (x6_3 + 1)), (x112003000_3), (x112003001_3), (x112003002_3), rs_, H', ⟨by have := HK1.out; have := HK2.out; have := HK3.out; omega⟩, ⟨pk BK112001.out⟩, ⟨pk BK112002.out⟩, ⟨pB2 HB.out GE112001.out GE112002.out⟩⟩
                ·replace c22 := Bool.eq_false_iff.mpr c22
                 subst c22
                 have H1 : ((spec_l4Exchange.f k3 a0_0 l0_1 (rd l0_1 x4_1) (rd l0_1 x5_2) x6_3).bind fun t112008 => (if t112008 = true then (spec_FirstFailure.l2 k3 x4_1 x5_2 (wrap64 (x6_3 + 1)) a0_0 l0_1) else (some (rd l0_1 x4_1, rd l0_1 x5_2, x6_3, true)))) = some (r1, r2, r3, r4) := by rw [if_neg (show ¬ (false = true) by decide)] at H; exact H
                 clear H
                 have H := H1
                 clear H1
                 replace H := Option.bind_eq_some_iff.mp H
                 obtain ⟨t112008, A250, H⟩ := H
                 replace H : (if t112008 = true then (spec_FirstFailure.l2 k3 x4_1 x5_2 (wrap64 (x6_3 + 1)) a0_0 l0_1) else (some (rd l0_1 x4_1, rd l0_1 x5_2, x6_3, true))) = some (r1, r2, r3, r4) := H
                 have A25 := aQ A250
                 clear A250
                 by_cases c26 : t112008 = true
                 ·subst c26
                  have H1 : (spec_FirstFailure.l2 k3 x4_1 x5_2 (wrap64 (x6_3 + 1)) a0_0 l0_1) = some (r1, r2, r3, r4) := by rw [if_pos rfl] at H; exact H
                  clear H
                  have H := H1
                  clear H1
                  have H' := aQ H
                  clear H
                  have hnb27 := NB112001_112002.out
                  have hnc27 := NB112002_112001.out
                  have hcz28_0 := bc (v := (.int .i64 a0_0)) BK112001.out 0
                  have hcz28_1 := bc (v := (.slice A0_1 l0_1.length c0_1)) BK112001.out 1
                  have hfz28_0 := blk_frozen BK112001.out 0
                  have hfz28_1 := blk_frozen BK112001.out 1
                  have p112004 : 0 ≤ (x4_1 : Int) := of_decide_eq_true as_
                  have q112004 : x4_1 < (l0_1.length : Int) := of_decide_eq_true as_
                  obtain ⟨ad112004, e112004, hx112004_0⟩ := Kd.at_int HR0_1.out x4_1 p112004 q112004
                  cases e112004
                  replace hx112004_0 := (HB.out.cell (World.block_lt_of_cell? w _ hx112004_0)).trans hx112004_0
                  replace p112004 := eq_true p112004
                  replace q112004 := eq_true q112004
                  have p112005 : 0 ≤ (x5_2 : Int) := of_decide_eq_true as_
                  have q112005 : x5_2 < (l0_1.length : Int) := of_decide_eq_true as_
                  obtain ⟨ad112005, e112005, hx112005_0⟩ := Kd.at_int HR0_1.out x5_2 p112005 q112005
                  obtain rfl : ad112004 = ad112005 := (by injection e112005)
                  replace hx112005_0 := (HB.out.cell (World.block_lt_of_cell? w _ hx112005_0)).trans hx112005_0
                  replace p112005 := eq_true p112005
                  replace q112005 := eq_true q112005
                  go_wp2_with (first | ((with_reducible refine gate_callee (f := 69) rfl ?_); refine goesL_ (some 48) rfl rfl Try.func69 (by kernel_rfl) rfl #[.int .i64 (rd l0_1 x4_1), .int .i64 x6_3] rfl lm ?_; (with_reducible refine (spec_l2Has.calls (rd l0_1 x4_1) x6_3 true _ A19.out).mono ?_); rintro e w' ⟨rfl, ⟨nd, rfl⟩⟩; refine ⟨_, rfl, ?_⟩) | (go_at_call 69; (with_reducible refine (spec_l2Has.calls (rd l0_1 x5_2) x6_3 false _ A21.out).mono ?_); rintro e w' ⟨rfl, ⟨nd, rfl⟩⟩) | (go_at_call 144; (with_reducible refine (spec_l4Exchange.calls k3 a0_0 _ _ l0_1 (rd l0_1 x4_1) (rd l0_1 x5_2) x6_3 true _ ?side1 ?side2 A25.out).mono ?_); (case side1 => repeat (first | exact (Kd.C_below HR0_1.out (pB2 HB.out GE112001.out GE112002.out)) | (with_reducible refine Kd.C_alloc ?_ _) | (with_reducible refine Kd.C_drewN ?_ _) | (with_reducible refine Kd.C_drew ?_))); (case side2 => exact HC0_1.out); rintro e w29 ⟨rfl, hb⟩; replace BK112001 := aQ (blk_below (g := gb112001) (o := .cells #[.int .i64 a0_0, .slice (some ad112004) l0_1.length c0_1] 28 (0, 0)) (pk BK112001.out) hb); replace BK112002 := aQ (blk_below (g := gb112002) (o := .cells #[.int .i64 x112003000_3, .int .i64 x112003001_3, .int .i64 x112003002_3] 94 (0, 0)) (pk BK112002.out) hb); replace HB := aQ (below_step (pB2 HB.out GE112001.out GE112002.out) hb); (try clear hb)))
                  go_roundg k3
                  case measure => have := HK1.out; have := HK2.out; have := HK3.out; omega
                  case rel => exact ⟨(wrap64 (x6_3 + 1)), (x112003000_3), (x112003001_3), (x112003002_3), rs_, H', ⟨by have := HK1.out; have := HK2.out; have := HK3.out; omega⟩, ⟨pk BK112001.out⟩, ⟨pk BK112002.out⟩, ⟨pB2 HB.out GE112001.out GE112002.out⟩⟩
                 ·replace c26 := Bool.eq_false_iff.mpr c26
                  subst c26
                  have H1 : (some (rd l0_1 x4_1, rd l0_1 x5_2, x6_3, true)) = some (r1, r2, r3, r4) := by rw [if_neg (show ¬ (false = true) by decide)] at H; exact H
                  clear H
                  have H := H1
                  clear H1
                  simp only [Option.some.injEq, Prod.mk.injEq] at H
                  obtain ⟨rfl, rfl, rfl, rfl⟩ := H
                  have hnb30 := NB112001_112002.out
                  have hnc30 := NB112002_112001.out
                  have hcz31_0 := bc (v := (.int .i64 a0_0)) BK112001.out 0
                  have hcz31_1 := bc (v := (.slice A0_1 l0_1.length c0_1)) BK112001.out 1
                  have hfz31_0 := blk_frozen BK112001.out 0
                  have hfz31_1 := blk_frozen BK112001.out 1
                  have p112004 : 0 ≤ (x4_1 : Int) := of_decide_eq_true as_
                  have q112004 : x4_1 < (l0_1.length : Int) := of_decide_eq_true as_
                  obtain ⟨ad112004, e112004, hx112004_0⟩ := Kd.at_int HR0_1.out x4_1 p112004 q112004
                  cases e112004
                  replace hx112004_0 := (HB.out.cell (World.block_lt_of_cell? w _ hx112004_0)).trans hx112004_0
                  replace p112004 := eq_true p112004
                  replace q112004 := eq_true q112004
                  have p112005 : 0 ≤ (x5_2 : Int) := of_decide_eq_true as_
                  have q112005 : x5_2 < (l0_1.length : Int) := of_decide_eq_true as_
                  obtain ⟨ad112005, e112005, hx112005_0⟩ := Kd.at_int HR0_1.out x5_2 p112005 q112005
                  obtain rfl : ad112004 = ad112005 := (by injection e112005)
                  replace hx112005_0 := (HB.out.cell (World.block_lt_of_cell? w _ hx112005_0)).trans hx112005_0
                  replace p112005 := eq_true p112005
                  replace q112005 := eq_true q112005
                  go_wp2_with (first | ((with_reducible refine gate_callee (f := 69) rfl ?_); refine goesL_ (some 48) rfl rfl Try.func69 (by kernel_rfl) rfl #[.int .i64 (rd l0_1 x4_1), .int .i64 x6_3] rfl lm ?_; (with_reducible refine (spec_l2Has.calls (rd l0_1 x4_1) x6_3 true _ A19.out).mono ?_); rintro e w' ⟨rfl, ⟨nd, rfl⟩⟩; refine ⟨_, rfl, ?_⟩; (try (rw [drewN_self wr]; generalize hq_ : World.drewN wr _ = wr; have n0_ : Aside0 (wr.heap[gb112001]? = some (.cells #[.int .i64 a0_0, .slice (some ad112004) l0_1.length c0_1] 28 (0, 0))) := ⟨by rw [← hq_]; exact (pk BK112001.out)⟩; have n1_ : Aside0 (wr.heap[gb112002]? = some (.cells #[.int .i64 x112003000_3, .int .i64 x112003001_3, .int .i64 x112003002_3] 94 (0, 0))) := ⟨by rw [← hq_]; exact (pk BK112002.out)⟩; have n2_ : Aside0 (Below w.heap.size w wr) := ⟨by rw [← hq_]; exact (pB2 HB.out GE112001.out GE112002.out)⟩; clear BK112001 BK112002 HB hq_; have BK112001 := n0_; have BK112002 := n1_; have HB := n2_; clear n0_ n1_ n2_; have hcz31_0 := bc (v := (.int .i64 a0_0)) BK112001.out 0; have hcz31_1 := bc (v := (.slice A0_1 l0_1.length c0_1)) BK112001.out 1; have hfz31_0 := blk_frozen BK112001.out 0; have hfz31_1 := blk_frozen BK112001.out 1))) | (go_at_call 69; (with_reducible refine (spec_l2Has.calls (rd l0_1 x5_2) x6_3 false _ A21.out).mono ?_); rintro e w' ⟨rfl, ⟨nd, rfl⟩⟩; (try (rw [drewN_self wr]; generalize hq_ : World.drewN wr _ = wr; have n0_ : Aside0 (wr.heap[gb112001]? = some (.cells #[.int .i64 a0_0, .slice (some ad112004) l0_1.length c0_1] 28 (0, 0))) := ⟨by rw [← hq_]; exact (pk BK112001.out)⟩; have n1_ : Aside0 (wr.heap[gb112002]? = some (.cells #[.int .i64 x112003000_3, .int .i64 x112003001_3, .int .i64 x112003002_3] 94 (0, 0))) := ⟨by rw [← hq_]; exact (pk BK112002.out)⟩; have n2_ : Aside0 (Below w.heap.size w wr) := ⟨by rw [← hq_]; exact (pB2 HB.out GE112001.out GE112002.out)⟩; clear BK112001 BK112002 HB hq_; have BK112001 := n0_; have BK112002 := n1_; have HB := n2_; clear n0_ n1_ n2_; have hcz31_0 := bc (v := (.int .i64 a0_0)) BK112001.out 0; have hcz31_1 := bc (v := (.slice A0_1 l0_1.length c0_1)) BK112001.out 1; have hfz31_0 := blk_frozen BK112001.out 0; have hfz31_1 := blk_frozen BK112001.out 1))) | (go_at_call 144; (with_reducible refine (spec_l4Exchange.calls k3 a0_0 _ _ l0_1 (rd l0_1 x4_1) (rd l0_1 x5_2) x6_3 false _ ?side1 ?side2 A25.out).mono ?_); (case side1 => exact pC (Kd.C_below HR0_1.out HB.out)); (case side2 => exact HC0_1.out); rintro e w32 ⟨rfl, hb⟩; replace BK112001 := aQ (blk_below (g := gb112001) (o := .cells #[.int .i64 a0_0, .slice (some ad112004) l0_1.length c0_1] 28 (0, 0)) (pk BK112001.out) hb); replace BK112002 := aQ (blk_below (g := gb112002) (o := .cells #[.int .i64 x112003000_3, .int .i64 x112003001_3, .int .i64 x112003002_3] 94 (0, 0)) (pk BK112002.out) hb); replace HB := aQ (below_step (pB2 HB.out GE112001.out GE112002.out) hb); (try clear hb); have hcz33_0 := bc (v := (.int .i64 x112003000_3)) BK112002.out 0; have hcz33_1 := bc (v := (.int .i64 x112003001_3)) BK112002.out 1; have hcz33_2 := bc (v := (.int .i64 x112003002_3)) BK112002.out 2; have hfz33_0 := blk_frozen BK112002.out 0; have hfz33_1 := blk_frozen BK112002.out 1; have hfz33_2 := blk_frozen BK112002.out 2))
                  refine bodyPost_ret (results_ct rfl _ _ gb112002 94 #[.int .i64 (rd l0_1 x4_1), .int .i64 (rd l0_1 x5_2), .int .i64 x6_3] (0, 0) _ rfl (by (with_reducible repeat (first | refine blk_drewN ?_ _ | refine blk_drew ?_ | refine blk_alloc ?_ _)); refine blk_put (cs := #[.int .i64 (rd l0_1 x4_1), .int .i64 (rd l0_1 x5_2), .int .i64 x112003002_3]) ?_ 2 _ rfl; (with_reducible repeat (first | refine blk_drewN ?_ _ | refine blk_drew ?_ | refine blk_alloc ?_ _)); refine blk_put (cs := #[.int .i64 (rd l0_1 x4_1), .int .i64 x112003001_3, .int .i64 x112003002_3]) ?_ 1 _ rfl; (with_reducible repeat (first | refine blk_drewN ?_ _ | refine blk_drew ?_ | refine blk_alloc ?_ _)); refine blk_put (cs := #[.int .i64 x112003000_3, .int .i64 x112003001_3, .int .i64 x112003002_3]) ?_ 0 _ rfl; (with_reducible repeat (first | refine blk_drewN ?_ _ | refine blk_drew ?_ | refine blk_alloc ?_ _)); exact BK112002.out) Try.underlying94 rfl (by kernel_rfl)) rfl ?_
                  exact ⟨re_, pB2 HB.out GE112001.out GE112002.out⟩
               ·replace c20 := Bool.eq_false_iff.mpr c20
                subst c20
                have H1 : (spec_FirstFailure.l2 k3 x4_1 x5_2 (wrap64 (x6_3 + 1)) a0_0 l0_1) = some (r1, r2, r3, r4) := by rw [if_neg (show ¬ (false = true) by decide)] at H; exact H
                clear H
                have H := H1
                clear H1
                have H' := aQ H
                clear H
                have hnb34 := NB112001_112002.out
                have hnc34 := NB112002_112001.out
                have hcz35_0 := bc (v := (.int .i64 a0_0)) BK112001.out 0
                have hcz35_1 := bc (v := (.slice A0_1 l0_1.length c0_1)) BK112001.out 1
                have hfz35_0 := blk_frozen BK112001.out 0
                have hfz35_1 := blk_frozen BK112001.out 1
                have p112004 : 0 ≤ (x4_1 : Int) := of_decide_eq_true as_
                have q112004 : x4_1 < (l0_1.length : Int) := of_decide_eq_true as_
                obtain ⟨ad112004, e112004, hx112004_0⟩ := Kd.at_int HR0_1.out x4_1 p112004 q112004
                cases e112004
                replace hx112004_0 := (HB.out.cell (World.block_lt_of_cell? w _ hx112004_0)).trans hx112004_0
                replace p112004 := eq_true p112004
                replace q112004 := eq_true q112004
                have p112005 : 0 ≤ (x5_2 : Int) := of_decide_eq_true as_
                have q112005 : x5_2 < (l0_1.length : Int) := of_decide_eq_true as_
                obtain ⟨ad112005, e112005, hx112005_0⟩ := Kd.at_int HR0_1.out x5_2 p112005 q112005
                obtain rfl : ad112004 = ad112005 := (by injection e112005)
                replace hx112005_0 := (HB.out.cell (World.block_lt_of_cell? w _ hx112005_0)).trans hx112005_0
                replace p112005 := eq_true p112005
                replace q112005 := eq_true q112005
                go_wp2_with (first | ((with_reducible refine gate_callee (f := 69) rfl ?_); refine goesL_ (some 48) rfl rfl Try.func69 (by kernel_rfl) rfl #[.int .i64 (rd l0_1 x4_1), .int .i64 x6_3] rfl lm ?_; (with_reducible refine (spec_l2Has.calls (rd l0_1 x4_1) x6_3 false _ A19.out).mono ?_); rintro e w' ⟨rfl, ⟨nd, rfl⟩⟩; refine ⟨_, rfl, ?_⟩))
                go_roundg k3
                case measure => have := HK1.out; have := HK2.out; have := HK3.out; omega
                case rel => exact ⟨(wrap64 (x6_3 + 1)), (x112003000_3), (x112003001_3), (x112003002_3), rs_, H', ⟨by have := HK1.out; have := HK2.out; have := HK3.out; omega⟩, ⟨pk BK112001.out⟩, ⟨pk BK112002.out⟩, ⟨pB2 HB.out GE112001.out GE112002.out⟩⟩
              ·rw [if_neg c18] at H
               exact absurd H (by simp)
             ·rw [if_neg c17] at H
              exact absurd H (by simp)
            ·rw [if_neg c16] at H
             exact absurd H (by simp)
           ·rw [if_neg c15] at H
            exact absurd H (by simp)
          ·rw [if_neg c14] at H
           have c14b0 : decide (x6_3 < a0_0) = false := decide_eq_false c14
           clear c14
           have H' := aQ H
           clear H
           have hnb36 := NB112001_112002.out
           have hnc36 := NB112002_112001.out
           have hcz37_0 := bc (v := (.int .i64 a0_0)) BK112001.out 0
           have hcz37_1 := bc (v := (.slice A0_1 l0_1.length c0_1)) BK112001.out 1
           have hfz37_0 := blk_frozen BK112001.out 0
           have hfz37_1 := blk_frozen BK112001.out 1
           go_wp2
           go_roundg k3
           case measure => have := HK1.out; have := HK2.out; have := HK3.out; omega
           case rel => exact ⟨(wrap64 (x5_2 + 1)), (x112003000_3), (x112003001_3), (x112003002_3), rs_, H', ⟨by have := HK1.out; have := HK2.out; have := HK3.out; omega⟩, ⟨pk BK112001.out⟩, ⟨pk BK112002.out⟩, ⟨pB2 HB.out GE112001.out GE112002.out⟩⟩
       ·rw [if_neg c11] at H
        have c11b0 : decide (x5_2 < (l0_1.length : Int)) = false := decide_eq_false c11
        clear c11
        have H' := aQ H
        clear H
        have hnb38 := NB112001_112002.out
        have hnc38 := NB112002_112001.out
        have hcz39_0 := bc (v := (.int .i64 a0_0)) BK112001.out 0
        have hcz39_1 := bc (v := (.slice A0_1 l0_1.length c0_1)) BK112001.out 1
        have hfz39_0 := blk_frozen BK112001.out 0
        have hfz39_1 := blk_frozen BK112001.out 1
        go_wp2
        go_roundg k2
        case measure => have := HK1.out; have := HK2.out; omega
        case rel => exact ⟨(wrap64 (x4_1 + 1)), (x112003000_2), (x112003001_2), (x112003002_2), rs_, H', ⟨by have := HK1.out; have := HK2.out; omega⟩, ⟨pk BK112001.out⟩, ⟨pk BK112002.out⟩, ⟨pB2 HB.out GE112001.out GE112002.out⟩⟩
    ·rw [if_neg c8] at H
     have c8b0 : decide (x4_1 < (l0_1.length : Int)) = false := decide_eq_false c8
     clear c8
     simp only [Option.some.injEq, Prod.mk.injEq] at H
     obtain ⟨rfl, rfl, rfl, rfl⟩ := H
     have hnb40 := NB112001_112002.out
     have hnc40 := NB112002_112001.out
     have hcz41_0 := bc (v := (.int .i64 a0_0)) BK112001.out 0
     have hcz41_1 := bc (v := (.slice A0_1 l0_1.length c0_1)) BK112001.out 1
     have hfz41_0 := blk_frozen BK112001.out 0
     have hfz41_1 := blk_frozen BK112001.out 1
     have hcz42_0 := bc (v := (.int .i64 x112003000_1)) BK112002.out 0
     have hcz42_1 := bc (v := (.int .i64 x112003001_1)) BK112002.out 1
     have hcz42_2 := bc (v := (.int .i64 x112003002_1)) BK112002.out 2
     have hfz42_0 := blk_frozen BK112002.out 0
     have hfz42_1 := blk_frozen BK112002.out 1
     have hfz42_2 := blk_frozen BK112002.out 2
     go_wp2
     refine bodyPost_ret (results_ct rfl _ _ gb112002 94 #[.int .i64 0, .int .i64 0, .int .i64 0] (0, 0) _ rfl (by (with_reducible repeat (first | refine blk_drewN ?_ _ | refine blk_drew ?_ | refine blk_alloc ?_ _)); refine blk_put (cs := #[.int .i64 0, .int .i64 0, .int .i64 x112003002_1]) ?_ 2 _ rfl; (with_reducible repeat (first | refine blk_drewN ?_ _ | refine blk_drew ?_ | refine blk_alloc ?_ _)); refine blk_put (cs := #[.int .i64 0, .int .i64 x112003001_1, .int .i64 x112003002_1]) ?_ 1 _ rfl; (with_reducible repeat (first | refine blk_drewN ?_ _ | refine blk_drew ?_ | refine blk_alloc ?_ _)); refine blk_put (cs := #[.int .i64 x112003000_1, .int .i64 x112003001_1, .int .i64 x112003002_1]) ?_ 0 _ rfl; (with_reducible repeat (first | refine blk_drewN ?_ _ | refine blk_drew ?_ | refine blk_alloc ?_ _)); exact BK112002.out) Try.underlying94 rfl (by kernel_rfl)) rfl ?_
     exact ⟨re_, pB2 HB.out GE112001.out GE112002.out⟩
 ·replace c3 := Bool.eq_false_iff.mpr c3
  subst c3
  have H1 : (some (0, 0, 0, false)) = some (r1, r2, r3, r4) := by rw [if_neg (show ¬ (false = true) by decide)] at H; exact H
  clear H
  have H := H1
  clear H1
  simp only [Option.some.injEq, Prod.mk.injEq] at H
  obtain ⟨rfl, rfl, rfl, rfl⟩ := H
  go_enter Try.func111, Try.ntmps111
  go_wp2_with (first | ((with_reducible refine gate_dst (N := 1) rfl ?_); refine box_event ?hg (N := 1) ?hd (cs := #[.int .i64 a0_0, .slice A0_1 l0_1.length c0_1]) (t := 28) ?hr ?_; (case hd => rfl); (case hg => rfl); (case hr => first | (go_simp; done) | (go_simp; rfl)); intro gb112001 hg w43 hbox hb; have BK112001 := aQ (hbox); have GW112001 := aQ ((by rw [hg]; exact (below_size (pB HB.out)) : w.heap.size ≤ gb112001)); have GE112001 := aQ ((by rw [hg]; exact (below_size (pB HB.out)) : w.heap.size ≤ gb112001)); replace HB := aQ (below_step (pB HB.out) hb); clear hb hbox hg) | ((with_reducible refine gate_dst (N := 2) rfl ?_); refine box_event ?hg (N := 2) ?hd (cs := #[.int .i64 0, .int .i64 0, .int .i64 0]) (t := 94) ?hr ?_; (case hd => rfl); (case hg => rfl); (case hr => first | (go_simp; done) | (go_simp; rfl)); intro gb112002 hg w44 hbox hb; have BK112002 := aQ (hbox); have GW112002 := aQ ((by rw [hg]; exact (below_size (pB1 HB.out GE112001.out)) : w.heap.size ≤ gb112002)); have GE112002 := aQ ((by rw [hg]; exact (below_size (pB1 HB.out GE112001.out)) : w.heap.size ≤ gb112002)); replace HB := aQ (below_step (pB1 HB.out GE112001.out) hb); have NB112001_112002 := aQ ((by rw [hg]; exact Nat.ne_of_lt (blk_lt (g := gb112001) (o := .cells #[.int .i64 a0_0, .slice A0_1 l0_1.length c0_1] 28 (0, 0)) (pk BK112001.out)) : gb112001 ≠ gb112002)); have NB112002_112001 := aQ ((by rw [hg]; exact Nat.ne_of_gt (blk_lt (g := gb112001) (o := .cells #[.int .i64 a0_0, .slice A0_1 l0_1.length c0_1] 28 (0, 0)) (pk BK112001.out)) : gb112002 ≠ gb112001)); replace BK112001 := aQ (blk_below (g := gb112001) (o := .cells #[.int .i64 a0_0, .slice A0_1 l0_1.length c0_1] 28 (0, 0)) (pk BK112001.out) hb); clear hb hbox hg; have hnb45 := NB112001_112002.out; have hnc45 := NB112002_112001.out; have hcz46_0 := bc (v := (.int .i64 a0_0)) BK112001.out 0; have hcz46_1 := bc (v := (.slice A0_1 l0_1.length c0_1)) BK112001.out 1; have hfz46_0 := blk_frozen BK112001.out 0; have hfz46_1 := blk_frozen BK112001.out 1) | ((with_reducible refine gate_callee (f := 112) rfl ?_); refine goesL_ (some 13) rfl rfl Try.func112 (by kernel_rfl) rfl #[.int .i64 a0_0, .slice A0_1 l0_1.length c0_1] rfl lm ?_; (with_reducible refine (spec_IsFamily.calls k a0_0 _ _ l0_1 false _ ?side1 ?side2 A2.out).mono ?_); (case side1 => exact pC (Kd.C_below HR0_1.out HB.out)); (case side2 => exact HC0_1.out); rintro e w' ⟨rfl, ⟨nd, rfl⟩⟩; refine ⟨_, rfl, ?_⟩; (try (rw [drewN_self w44]; generalize hq_ : World.drewN w44 _ = w44; have n0_ : Aside0 (w44.heap[gb112001]? = some (.cells #[.int .i64 a0_0, .slice A0_1 l0_1.length c0_1] 28 (0, 0))) := ⟨by rw [← hq_]; exact (pk BK112001.out)⟩; have n1_ : Aside0 (w44.heap[gb112002]? = some (.cells #[.int .i64 0, .int .i64 0, .int .i64 0] 94 (0, 0))) := ⟨by rw [← hq_]; exact (pk BK112002.out)⟩; have n2_ : Aside0 (Below w.heap.size w w44) := ⟨by rw [← hq_]; exact (pB2 HB.out GE112001.out GE112002.out)⟩; clear BK112001 BK112002 HB hq_; have BK112001 := n0_; have BK112002 := n1_; have HB := n2_; clear n0_ n1_ n2_)); have hcz47_0 := bc (v := (.int .i64 0)) BK112002.out 0; have hcz47_1 := bc (v := (.int .i64 0)) BK112002.out 1; have hcz47_2 := bc (v := (.int .i64 0)) BK112002.out 2; have hfz47_0 := blk_frozen BK112002.out 0; have hfz47_1 := blk_frozen BK112002.out 1; have hfz47_2 := blk_frozen BK112002.out 2))
  refine bodyPost_ret (results_ct rfl _ _ gb112002 94 #[.int .i64 0, .int .i64 0, .int .i64 0] (0, 0) _ rfl (by (with_reducible repeat (first | refine blk_drewN ?_ _ | refine blk_drew ?_ | refine blk_alloc ?_ _)); refine blk_put (cs := #[.int .i64 0, .int .i64 0, .int .i64 0]) ?_ 2 _ rfl; (with_reducible repeat (first | refine blk_drewN ?_ _ | refine blk_drew ?_ | refine blk_alloc ?_ _)); refine blk_put (cs := #[.int .i64 0, .int .i64 0, .int .i64 0]) ?_ 1 _ rfl; (with_reducible repeat (first | refine blk_drewN ?_ _ | refine blk_drew ?_ | refine blk_alloc ?_ _)); refine blk_put (cs := #[.int .i64 0, .int .i64 0, .int .i64 0]) ?_ 0 _ rfl; (with_reducible repeat (first | refine blk_drewN ?_ _ | refine blk_drew ?_ | refine blk_alloc ?_ _)); exact BK112002.out) Try.underlying94 rfl (by kernel_rfl)) rfl ?_
  exact ⟨re_, pB2 HB.out GE112001.out GE112002.out⟩
end Go.Proofs.Ytimkekeaeojpkaa.A
