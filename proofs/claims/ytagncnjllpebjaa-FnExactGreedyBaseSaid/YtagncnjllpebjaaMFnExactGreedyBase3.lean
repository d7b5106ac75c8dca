/- Machine side of the law FnExactGreedyBase: Go functions as Lean functions, and proofs that calls come to what these tell. Conditions: those in each theorem. -/
import Derived.Test.YtagncnjllpebjaaMFnExactGreedyBase0
import Derived.Test.YtagncnjllpebjaaMFnExactGreedyBaseq0
import Derived.Test.YtagncnjllpebjaaMFnExactGreedyBase1
import Derived.Test.YtagncnjllpebjaaMFnExactGreedyBase2
namespace Go.Proofs.Ytagncnjllpebjaa.A
open Go.RowKit Go.Proofs.YtagncnjllpebjaaW.PrintWords Go.Proofs.YtagncnjllpebjaaW.PrintLast Go.Proofs.YtagncnjllpebjaaW.PrintMore Go.Proofs.Ytagncnjllpebjaa.Z
attribute [local go_sem] max2_int min2_int max_two min_two max_three min_three max_four min_four
set_option linter.unusedVariables false
set_option linter.unusedSimpArgs false
/-! ### spec_l19Order: function 147 -/
mutual
def spec_l19Order.l0 : Nat → List Int → List Int → Int → Option (List Int)
 | 0, _, _, _ => none
 | k + 1, x0, x3, x4 => if x4 < (x0.length : Int) then (spec_l19Order.l1 k x0 x3 x4 (x3.length : Int)) else (some x3)
def spec_l19Order.l1 : Nat → List Int → List Int → Int → Int → Option (List Int)
 | 0, _, _, _, _ => none
 | k + 1, x0, x3, x4, x5 => if x5 > 0 then (if 0 ≤ (wrap64 (x5 - 1)) then (if (wrap64 (x5 - 1)) < (x3.length : Int) then (if 0 ≤ (rd x3 (wrap64 (x5 - 1))) then (if (rd x3 (wrap64 (x5 - 1))) < (x0.length : Int) then (if 0 ≤ x4 then (if x4 < (x0.length : Int) then (if (rd x0 (rd x3 (wrap64 (x5 - 1)))) < (rd x0 x4) then (spec_l19Order.l1 k x0 x3 x4 (wrap64 (x5 - 1))) else ((some (([] : List Int) : List Int)).bind fun y148007 => (if 0 ≤ x5 then (if x5 ≤ (x3.length : Int) then ((some (x3.drop (x5 : Int).toNat : List Int)).bind fun y148010 => (if y148007.length + y148010.length < 17592186044416 then ((some (y148007 ++ y148010 : List Int)).bind fun y148014 => ((some (x3.take (x5 : Int).toNat : List Int)).bind fun y148017 => (if y148017.length < 17592186044416 then ((some (y148017 ++ [x4] : List Int)).bind fun y148020 => (if y148020.length + y148014.length < 17592186044416 then (spec_l19Order.l0 k x0 (y148020 ++ y148014) (wrap64 (x4 + 1))) else (none))) else (none)))) else (none))) else (none)) else (none)))) else (none)) else (none)) else (none)) else (none)) else (none)) else (none)) else ((some (([] : List Int) : List Int)).bind fun y148026 => (if 0 ≤ x5 then (if x5 ≤ (x3.length : Int) then ((some (x3.drop (x5 : Int).toNat : List Int)).bind fun y148029 => (if y148026.length + y148029.length < 17592186044416 then ((some (y148026 ++ y148029 : List Int)).bind fun y148033 => ((some (x3.take (x5 : Int).toNat : List Int)).bind fun y148036 => (if y148036.length < 17592186044416 then ((some (y148036 ++ [x4] : List Int)).bind fun y148039 => (if y148039.length + y148033.length < 17592186044416 then (spec_l19Order.l0 k x0 (y148039 ++ y148033) (wrap64 (x4 + 1))) else (none))) else (none)))) else (none))) else (none)) else (none)))
end
def spec_l19Order.f (k : Nat) (l0 : List Int) : Option (List Int) := spec_l19Order.l0 k l0 (([] : List Int)) 0
theorem spec_l19Order.mono_l : ∀ k, (∀ y0 y1 y2, LeO (spec_l19Order.l0 k y0 y1 y2) (spec_l19Order.l0 (k + 1) y0 y1 y2)) ∧ (∀ y0 y1 y2 y3, LeO (spec_l19Order.l1 k y0 y1 y2 y3) (spec_l19Order.l1 (k + 1) y0 y1 y2 y3))
 | 0 => ⟨fun _ _ _ r h => by simp [spec_l19Order.l0] at h, fun _ _ _ _ r h => by simp [spec_l19Order.l1] at h⟩
 | k + 1 => by
  obtain ⟨ih0, ih1⟩ := spec_l19Order.mono_l k
  refine ⟨?_, ?_⟩
  ·intro y0 y1 y2
   unfold spec_l19Order.l0
   repeat' first
   | (with_reducible exact ih0 _ _ _)
   | (with_reducible exact ih1 _ _ _ _)
   | (with_reducible exact LeO.refl _)
   | (with_reducible exact LeO.none _)
   | (with_reducible refine LeO.ite ?_ ?_)
   | (with_reducible refine LeO.bind ?_ (fun _ => ?_))
   | exact ih0 _ _ _
   | exact ih1 _ _ _ _
   | exact LeO.none _
   | refine LeO.ite ?_ ?_
   | refine LeO.bind ?_ (fun _ => ?_)
  ·intro y0 y1 y2 y3
   unfold spec_l19Order.l1
   repeat' first
   | (with_reducible exact ih0 _ _ _)
   | (with_reducible exact ih1 _ _ _ _)
   | (with_reducible exact LeO.refl _)
   | (with_reducible exact LeO.none _)
   | (with_reducible refine LeO.ite ?_ ?_)
   | (with_reducible refine LeO.bind ?_ (fun _ => ?_))
   | exact ih0 _ _ _
   | exact ih1 _ _ _ _
   | exact LeO.none _
   | refine LeO.ite ?_ ?_
   | refine LeO.bind ?_ (fun _ => ?_)
theorem spec_l19Order.mono : ∀ a0 k, LeO (spec_l19Order.f k a0) (spec_l19Order.f (k + 1) a0) := by
 intro a0 k
 obtain ⟨ih0, ih1⟩ := spec_l19Order.mono_l k
 unfold spec_l19Order.f
 repeat' first
   | (with_reducible exact ih0 _ _ _)
   | (with_reducible exact ih1 _ _ _ _)
   | (with_reducible exact LeO.refl _)
   | (with_reducible exact LeO.none _)
   | (with_reducible refine LeO.ite ?_ ?_)
   | (with_reducible refine LeO.bind ?_ (fun _ => ?_))
   | exact ih0 _ _ _
   | exact ih1 _ _ _ _
   | exact LeO.none _
   | refine LeO.ite ?_ ?_
   | refine LeO.bind ?_ (fun _ => ?_)
set_option maxHeartbeats 8000000 in
set_option maxRecDepth 100000 in
theorem spec_l19Order.calls (k : Nat) (A0 : Option Addr) (c0 : Nat) (l0 : List Int) (r : List Int) (w : World) (hr0 : Kd.C (Kd.int .i64) w A0 l0.length l0) (hc0 : l0.length ≤ c0) (h : spec_l19Order.f k l0 = some r) :
  Calls Try.prog 147 #[.slice A0 l0.length c0] w fun e w' => ∃ v0_ : Value, e = .returned (v0_) ∧ Kd.R (Kd.int .i64) 3 w' w.heap.size (fun _ => True) v0_ r ∧ Below w.heap.size w w' := by
 have HR0 := aQ hr0
 have HC0 := aQ hc0
 clear hr0 hc0
 have HB := aQ (Below.refl w.heap.size w)
 have H : (spec_l19Order.l0 k l0 (([] : List Int)) 0) = some r := h
 clear h
 obtain ⟨y148001, hy148001⟩ : ∃ y_ : List Int, y_ = (([] : List Int)) := ⟨_, rfl⟩
 replace H : (spec_l19Order.l0 k l0 y148001 0) = some r := by first | (rw [hy148001]; with_reducible exact H) | (have H2_ := (Option.bind_some _ _).symm.trans H; rw [hy148001]; with_reducible exact H2_) | (have H2_ := (Option.bind_some _ _).symm.trans H; with_reducible exact H2_) | with_reducible exact H | (rw [hy148001]; exact H) | exact H
 have Ny148001 := aQ hy148001
 clear hy148001
 have H' := aQ H
 clear H
 go_enter Try.func147, Try.ntmps147
 go_wp2_with (first | ((with_reducible refine gate_dst (N := 7) rfl ?_); refine Kd.R_lit (Kd.int .i64) _ 3 ?hg (N := 7) ?hd (xs := ([] : List Int)) (inner := []) (ok := fun _ => True) (okp := fun _ => True) ?hr ?hp (fun _ hk => hk) trivial (Below.refl _ _) (Nat.le_refl _) (by simp) ?_; (case hd => rfl); (case hg => rfl); (case hr => first | (go_simp; done) | (go_simp; rfl)); (case hp => exact (Reps.none _ _)); intro v148002 w2 ho3 hb hg_ hnew_; clear hg_ hnew_; (first | rw [← Ny148001.out] at ho3 | (simp only [Int.reduceToNat] at ho3; rw [← Ny148001.out] at ho3)); have HO148003 := aQ (Kd.R_lower ho3 (below_size (by repeat (first | (with_reducible first | exact HB.out | apply below_alloc | apply pw_below_drewN | apply below_drew1) | exact HB.out)))); replace HB := aQ (below_step (by repeat (first | (with_reducible first | exact HB.out | apply below_alloc | apply pw_below_drewN | apply below_drew1) | exact HB.out)) hb); clear hb ho3))
 repeat (go_quiet (first | ((with_reducible refine gate_dst (N := 7) rfl ?_); refine Kd.R_lit (Kd.int .i64) _ 3 ?hg (N := 7) ?hd (xs := ([] : List Int)) (inner := []) (ok := fun _ => True) (okp := fun _ => True) ?hr ?hp (fun _ hk => hk) trivial (Below.refl _ _) (Nat.le_refl _) (by simp) ?_; (case hd => rfl); (case hg => rfl); (case hr => first | (go_simp; done) | (go_simp; rfl)); (case hp => exact (Reps.none _ _)); intro v148002 w2 ho3 hb hg_ hnew_; clear hg_ hnew_; (first | rw [← Ny148001.out] at ho3 | (simp only [Int.reduceToNat] at ho3; rw [← Ny148001.out] at ho3)); have HO148003 := aQ (Kd.R_lower ho3 (below_size (by repeat (first | (with_reducible first | exact HB.out | apply below_alloc | apply pw_below_drewN | apply below_drew1) | exact HB.out)))); replace HB := aQ (below_step (by repeat (first | (with_reducible first | exact HB.out | apply below_alloc | apply pw_below_drewN | apply below_drew1) | exact HB.out)) hb); clear hb ho3)); try go_wp2_with (first | ((with_reducible refine gate_dst (N := 7) rfl ?_); refine Kd.R_lit (Kd.int .i64) _ 3 ?hg (N := 7) ?hd (xs := ([] : List Int)) (inner := []) (ok := fun _ => True) (okp := fun _ => True) ?hr ?hp (fun _ hk => hk) trivial (Below.refl _ _) (Nat.le_refl _) (by simp) ?_; (case hd => rfl); (case hg => rfl); (case hr => first | (go_simp; done) | (go_simp; rfl)); (case hp => exact (Reps.none _ _)); intro v148002 w2 ho3 hb hg_ hnew_; clear hg_ hnew_; (first | rw [← Ny148001.out] at ho3 | (simp only [Int.reduceToNat] at ho3; rw [← Ny148001.out] at ho3)); have HO148003 := aQ (Kd.R_lower ho3 (below_size (by repeat (first | (with_reducible first | exact HB.out | apply below_alloc | apply pw_below_drewN | apply below_drew1) | exact HB.out)))); replace HB := aQ (below_step (by repeat (first | (with_reducible first | exact HB.out | apply below_alloc | apply pw_below_drewN | apply below_drew1) | exact HB.out)) hb); clear hb ho3)))
 go_loopg [3, 4] k (fun kq v3 v4 w' => ∃ (x3_1 : List Int) (x4_1 : Int), v4 = .int .i64 x4_1 ∧ Aside0 (spec_l19Order.l0 kq l0 x3_1 x4_1 = some r) ∧ Aside0 (kq ≤ k) ∧ Aside0 (Kd.R (Kd.int .i64) 3 w' w.heap.size (fun _ => True) v3 x3_1) ∧ Aside0 (Below w.heap.size w w'))
 case atStart => exact ⟨(y148001), (0), (by first | rfl | (simp; done) | (simp [*]; done)), H', ⟨Nat.le_refl _⟩, ⟨by (with_reducible repeat (first | apply Kd.R_alloc | apply Kd.R_drewN | apply Kd.R_drew)); exact HO148003.out⟩, ⟨by repeat (first | (with_reducible first | exact HB.out | apply below_alloc | apply pw_below_drewN | apply below_drew1) | exact HB.out)⟩⟩
 case round =>
  clear H'
  try clear c1
  try clear p2
  obtain ⟨x3_1, x4_1, rfl, HA, HK1, HO_3, HB⟩ := hrel
  cases gk with
  | zero => exact absurd HA.out (by simp [spec_l19Order.l0])
  | succ k1 =>
   have H := HA.out
   clear HA
   simp only [spec_l19Order.l0] at H
   by_cases c4 : x4_1 < (l0.length : Int)
   ·rw [if_pos c4] at H
    have c4b0 : decide (x4_1 < (l0.length : Int)) = true := decide_eq_true c4
    clear c4
    have H' := aQ H
    clear H
    obtain ⟨Ao5, co5, eo5⟩ := Kd.R_slice HO_3.out
    subst eo5
    go_wp2
    repeat (go_quiet (fail); try go_wp2)
    go_loopg [5] k1 (fun kq v5 w' => ∃ (x5_2 : Int), v5 = .int .i64 x5_2 ∧ Aside0 (spec_l19Order.l1 kq l0 x3_1 x4_1 x5_2 = some r) ∧ Aside0 (kq ≤ k1) ∧ Aside0 (Kd.R (Kd.int .i64) 3 w' w.heap.size (fun _ => True) (.slice Ao5 x3_1.length co5) x3_1) ∧ Aside0 (Below w.heap.size w w'))
    case atStart => exact ⟨((x3_1.length : Int)), (by first | rfl | (simp; done) | (simp [*]; done)), H', ⟨Nat.le_refl _⟩, ⟨by (with_reducible repeat (first | apply Kd.R_alloc | apply Kd.R_drewN | apply Kd.R_drew)); exact HO_3.out⟩, ⟨by repeat (first | (with_reducible first | exact HB.out | apply below_alloc | apply pw_below_drewN | apply below_drew1) | exact HB.out)⟩⟩
    case round =>
     clear H'
     try clear c1
     try clear p2
     try clear c4
     try clear c4b0
     try clear p2
     obtain ⟨x5_2, rfl, HA, HK2, HO_3, HB⟩ := hrel
     cases gk with
     | zero => exact absurd HA.out (by simp [spec_l19Order.l1])
     | succ k2 =>
      have H := HA.out
      clear HA
      simp only [spec_l19Order.l1] at H
      by_cases c6 : x5_2 > 0
      ·rw [if_pos c6] at H
       have c6b0 : decide (0 < x5_2) = true := decide_eq_true c6
       clear c6
       obtain ⟨ji7, hji7⟩ : ∃ j_ : Int, (wrap64 (x5_2 - 1)) = j_ := ⟨_, rfl⟩
       replace H : (if 0 ≤ (ji7) then (if (ji7) < (x3_1.length : Int) then (if 0 ≤ (rd x3_1 (ji7)) then (if (rd x3_1 (ji7)) < (l0.length : Int) then (if 0 ≤ x4_1 then (if x4_1 < (l0.length : Int) then (if (rd l0 (rd x3_1 (ji7))) < (rd l0 x4_1) then (spec_l19Order.l1 k2 l0 x3_1 x4_1 ji7) else ((some (([] : List Int) : List Int)).bind fun y148007 => (if 0 ≤ x5_2 then (if x5_2 ≤ (x3_1.length : Int) then ((some (x3_1.drop (x5_2 : Int).toNat : List Int)).bind fun y148010 => (if y148007.length + y148010.length < 17592186044416 then ((some (y148007 ++ y148010 : List Int)).bind fun y148014 => ((some (x3_1.take (x5_2 : Int).toNat : List Int)).bind fun y148017 => (if y148017.length < 17592186044416 then ((some (y148017 ++ [x4_1] : List Int)).bind fun y148020 => (if y148020.length + y148014.length < 17592186044416 then (spec_l19Order.l0 k2 l0 (y148020 ++ y148014) (wrap64 (x4_1 + 1))) else (none))) else (none)))) else (none))) else (none)) else (none)))) else (none)) else (none)) else (none)) else (none)) else (none)) else (none)) = some r := by first | (rw [hji7] at H; exact H) | (simp only [hji7] at H ⊢; exact H)
       have hji7w : (IntKind.i64.wrap (x5_2 - 1)) = ji7 := (i64_w _).trans hji7
       by_cases c8 : 0 ≤ (ji7)
       ·rw [if_pos c8] at H
        have c8b0 : decide (0 ≤ (ji7)) = true := decide_eq_true c8
        clear c8
        by_cases c9 : (ji7) < (x3_1.length : Int)
        ·rw [if_pos c9] at H
         have c9b0 : decide ((ji7) < (x3_1.length : Int)) = true := decide_eq_true c9
         clear c9
         by_cases c10 : 0 ≤ (rd x3_1 (ji7))
         ·rw [if_pos c10] at H
          have c10b0 : decide (0 ≤ (rd x3_1 (ji7))) = true := decide_eq_true c10
          clear c10
          by_cases c11 : (rd x3_1 (ji7)) < (l0.length : Int)
          ·rw [if_pos c11] at H
           have c11b0 : decide ((rd x3_1 (ji7)) < (l0.length : Int)) = true := decide_eq_true c11
           clear c11
           by_cases c12 : 0 ≤ x4_1
           ·rw [if_pos c12] at H
            have c12b0 : decide (0 ≤ x4_1) = true := decide_eq_true c12
            clear c12
            by_cases c13 : x4_1 < (l0.length : Int)
            ·rw [if_pos c13] at H
             have c13b0 : decide (x4_1 < (l0.length : Int)) = true := decide_eq_true c13
             clear c13
             by_cases c14 : (rd l0 (rd x3_1 (ji7))) < (rd l0 x4_1)
             ·rw [if_pos c14] at H
              have c14b0 : decide ((rd l0 (rd x3_1 (ji7))) < (rd l0 x4_1)) = true := decide_eq_true c14
              clear c14
              have H' := aQ H
              clear H
              have p148004 : 0 ≤ ((ji7) : Int) := of_decide_eq_true (by first | (with_reducible assumption) | assumption)
              have q148004 : (ji7) < (x3_1.length : Int) := of_decide_eq_true (by first | (with_reducible assumption) | assumption)
              obtain ⟨ad148004, e148004, hx148004_0⟩ := Kd.at_int (Kd.R_reads' HO_3.out).2.2 (ji7) p148004 q148004
              cases e148004
              replace p148004 := eq_true p148004
              replace q148004 := eq_true q148004
              have p148005 : 0 ≤ ((rd x3_1 (ji7)) : Int) := of_decide_eq_true (by first | (with_reducible assumption) | assumption)
              have q148005 : (rd x3_1 (ji7)) < (l0.length : Int) := of_decide_eq_true (by first | (with_reducible assumption) | assumption)
              obtain ⟨ad148005, e148005, hx148005_0⟩ := Kd.at_int HR0.out (rd x3_1 (ji7)) p148005 q148005
              cases e148005
              replace hx148005_0 := (HB.out.cell (World.block_lt_of_cell? w _ hx148005_0)).trans hx148005_0
              replace p148005 := eq_true p148005
              replace q148005 := eq_true q148005
              have p148006 : 0 ≤ (x4_1 : Int) := of_decide_eq_true (by first | (with_reducible assumption) | assumption)
              have q148006 : x4_1 < (l0.length : Int) := of_decide_eq_true (by first | (with_reducible assumption) | assumption)
              obtain ⟨ad148006, e148006, hx148006_0⟩ := Kd.at_int HR0.out x4_1 p148006 q148006
              obtain rfl : ad148005 = ad148006 := (by injection e148006)
              replace hx148006_0 := (HB.out.cell (World.block_lt_of_cell? w _ hx148006_0)).trans hx148006_0
              replace p148006 := eq_true p148006
              replace q148006 := eq_true q148006
              go_wp2
              repeat (go_quiet (fail); try go_wp2)
              go_roundg k2
              case measure => have := HK1.out; have := HK2.out; omega
              case rel => exact ⟨(ji7), (by first | rfl | (simp; done) | (simp only [← hji7] <;> (first | rfl | simp)) | (simp [*]; done)), H', ⟨by have := HK1.out; have := HK2.out; omega⟩, ⟨by (with_reducible repeat (first | apply Kd.R_alloc | apply Kd.R_drewN | apply Kd.R_drew)); exact HO_3.out⟩, ⟨by repeat (first | (with_reducible first | exact HB.out | apply below_alloc | apply pw_below_drewN | apply below_drew1) | exact HB.out)⟩⟩
             ·rw [if_neg c14] at H
              have c14b0 : decide ((rd l0 (rd x3_1 (ji7))) < (rd l0 x4_1)) = false := decide_eq_false c14
              clear c14
              obtain ⟨y148007, hy148007⟩ : ∃ y_ : List Int, y_ = (([] : List Int)) := ⟨_, rfl⟩
              replace H : (if 0 ≤ x5_2 then (if x5_2 ≤ (x3_1.length : Int) then ((some (x3_1.drop (x5_2 : Int).toNat : List Int)).bind fun y148010 => (if y148007.length + y148010.length < 17592186044416 then ((some (y148007 ++ y148010 : List Int)).bind fun y148014 => ((some (x3_1.take (x5_2 : Int).toNat : List Int)).bind fun y148017 => (if y148017.length < 17592186044416 then ((some (y148017 ++ [x4_1] : List Int)).bind fun y148020 => (if y148020.length + y148014.length < 17592186044416 then (spec_l19Order.l0 k2 l0 (y148020 ++ y148014) (wrap64 (x4_1 + 1))) else (none))) else (none)))) else (none))) else (none)) else (none)) = some r := by first | (rw [hy148007]; with_reducible exact H) | (have H2_ := (Option.bind_some _ _).symm.trans H; rw [hy148007]; with_reducible exact H2_) | (have H2_ := (Option.bind_some _ _).symm.trans H; with_reducible exact H2_) | with_reducible exact H | (rw [hy148007]; exact H) | exact H
              have Ny148007 := aQ hy148007
              clear hy148007
              by_cases c15 : 0 ≤ x5_2
              ·rw [if_pos c15] at H
               have c15b0 := eq_true c15
               have c15b1 : decide (0 ≤ x5_2) = true := decide_eq_true c15
               clear c15
               by_cases c16 : x5_2 ≤ (x3_1.length : Int)
               ·rw [if_pos c16] at H
                have c16b0 := eq_true c16
                have c16b1 : decide (x5_2 ≤ (x3_1.length : Int)) = true := decide_eq_true c16
                clear c16
                obtain ⟨y148010, hy148010⟩ : ∃ y_ : List Int, y_ = (x3_1.drop (x5_2 : Int).toNat) := ⟨_, rfl⟩
                replace H : (if y148007.length + y148010.length < 17592186044416 then ((some (y148007 ++ y148010 : List Int)).bind fun y148014 => ((some (x3_1.take (x5_2 : Int).toNat : List Int)).bind fun y148017 => (if y148017.length < 17592186044416 then ((some (y148017 ++ [x4_1] : List Int)).bind fun y148020 => (if y148020.length + y148014.length < 17592186044416 then (spec_l19Order.l0 k2 l0 (y148020 ++ y148014) (wrap64 (x4_1 + 1))) else (none))) else (none)))) else (none)) = some r := by first | (rw [hy148010]; with_reducible exact H) | (have H2_ := (Option.bind_some _ _).symm.trans H; rw [hy148010]; with_reducible exact H2_) | (have H2_ := (Option.bind_some _ _).symm.trans H; with_reducible exact H2_) | with_reducible exact H | (rw [hy148010]; exact H) | exact H
                have Ny148010 := aQ hy148010
                clear hy148010
                by_cases c17 : y148007.length + y148010.length < 17592186044416
                ·rw [if_pos c17] at H
                 have LMc17 := aQ c17
                 clear c17
                 obtain ⟨y148014, hy148014⟩ : ∃ y_ : List Int, y_ = (y148007 ++ y148010) := ⟨_, rfl⟩
                 replace H : ((some (x3_1.take (x5_2 : Int).toNat : List Int)).bind fun y148017 => (if y148017.length < 17592186044416 then ((some (y148017 ++ [x4_1] : List Int)).bind fun y148020 => (if y148020.length + y148014.length < 17592186044416 then (spec_l19Order.l0 k2 l0 (y148020 ++ y148014) (wrap64 (x4_1 + 1))) else (none))) else (none))) = some r := by first | (rw [hy148014]; with_reducible exact H) | (have H2_ := (Option.bind_some _ _).symm.trans H; rw [hy148014]; with_reducible exact H2_) | (have H2_ := (Option.bind_some _ _).symm.trans H; with_reducible exact H2_) | with_reducible exact H | (rw [hy148014]; exact H) | exact H
                 have Ny148014 := aQ hy148014
                 clear hy148014
                 have c18b0 := eq_true (of_decide_eq_true (by first | (with_reducible assumption) | assumption) : x5_2 ≤ (x3_1.length : Int))
                 obtain ⟨y148017, hy148017⟩ : ∃ y_ : List Int, y_ = (x3_1.take (x5_2 : Int).toNat) := ⟨_, rfl⟩
                 replace H : (if y148017.length < 17592186044416 then ((some (y148017 ++ [x4_1] : List Int)).bind fun y148020 => (if y148020.length + y148014.length < 17592186044416 then (spec_l19Order.l0 k2 l0 (y148020 ++ y148014) (wrap64 (x4_1 + 1))) else (none))) else (none)) = some r := by first | (rw [hy148017]; with_reducible exact H) | (have H2_ := (Option.bind_some _ _).symm.trans H; rw [hy148017]; with_reducible exact H2_) | (have H2_ := (Option.bind_some _ _).symm.trans H; with_reducible exact H2_) | with_reducible exact H | (rw [hy148017]; exact H) | exact H
                 have Ny148017 := aQ hy148017
                 clear hy148017
                 by_cases c19 : y148017.length < 17592186044416
                 ·rw [if_pos c19] at H
                  have LMc19 := aQ c19
                  clear c19
                  obtain ⟨y148020, hy148020⟩ : ∃ y_ : List Int, y_ = (y148017 ++ [x4_1]) := ⟨_, rfl⟩
                  replace H : (if y148020.length + y148014.length < 17592186044416 then (spec_l19Order.l0 k2 l0 (y148020 ++ y148014) (wrap64 (x4_1 + 1))) else (none)) = some r := by first | (rw [hy148020]; with_reducible exact H) | (have H2_ := (Option.bind_some _ _).symm.trans H; rw [hy148020]; with_reducible exact H2_) | (have H2_ := (Option.bind_some _ _).symm.trans H; with_reducible exact H2_) | with_reducible exact H | (rw [hy148020]; exact H) | exact H
                  have Ny148020 := aQ hy148020
                  clear hy148020
                  by_cases c20 : y148020.length + y148014.length < 17592186044416
                  ·rw [if_pos c20] at H
                   have LMc20 := aQ c20
                   clear c20
                   obtain ⟨y148023, hy148023⟩ : ∃ y_ : List Int, y_ = (y148020 ++ y148014) := ⟨_, rfl⟩
                   replace H : (spec_l19Order.l0 k2 l0 y148023 (wrap64 (x4_1 + 1))) = some r := by first | (rw [hy148023]; with_reducible exact H) | (have H2_ := (Option.bind_some _ _).symm.trans H; rw [hy148023]; with_reducible exact H2_) | (have H2_ := (Option.bind_some _ _).symm.trans H; with_reducible exact H2_) | with_reducible exact H | (rw [hy148023]; exact H) | exact H
                   have Ny148023 := aQ hy148023
                   clear hy148023
                   have H' := aQ H
                   clear H
                   have p148004 : 0 ≤ ((ji7) : Int) := of_decide_eq_true (by first | (with_reducible assumption) | assumption)
                   have q148004 : (ji7) < (x3_1.length : Int) := of_decide_eq_true (by first | (with_reducible assumption) | assumption)
                   obtain ⟨ad148004, e148004, hx148004_0⟩ := Kd.at_int (Kd.R_reads' HO_3.out).2.2 (ji7) p148004 q148004
                   cases e148004
                   replace p148004 := eq_true p148004
                   replace q148004 := eq_true q148004
                   have p148005 : 0 ≤ ((rd x3_1 (ji7)) : Int) := of_decide_eq_true (by first | (with_reducible assumption) | assumption)
                   have q148005 : (rd x3_1 (ji7)) < (l0.length : Int) := of_decide_eq_true (by first | (with_reducible assumption) | assumption)
                   obtain ⟨ad148005, e148005, hx148005_0⟩ := Kd.at_int HR0.out (rd x3_1 (ji7)) p148005 q148005
                   cases e148005
                   replace hx148005_0 := (HB.out.cell (World.block_lt_of_cell? w _ hx148005_0)).trans hx148005_0
                   replace p148005 := eq_true p148005
                   replace q148005 := eq_true q148005
                   have p148006 : 0 ≤ (x4_1 : Int) := of_decide_eq_true (by first | (with_reducible assumption) | assumption)
                   have q148006 : x4_1 < (l0.length : Int) := of_decide_eq_true (by first | (with_reducible assumption) | assumption)
                   obtain ⟨ad148006, e148006, hx148006_0⟩ := Kd.at_int HR0.out x4_1 p148006 q148006
                   obtain rfl : ad148005 = ad148006 := (by injection e148006)
                   replace hx148006_0 := (HB.out.cell (World.block_lt_of_cell? w _ hx148006_0)).trans hx148006_0
                   replace p148006 := eq_true p148006
                   replace q148006 := eq_true q148006
                   go_wp2_with (first | ((with_reducible refine gate_dst (N := 35) rfl ?_); refine Kd.R_lit (Kd.int .i64) _ 3 ?hg (N := 35) ?hd (xs := ([] : List Int)) (inner := []) (ok := fun _ => True) (okp := fun _ => True) ?hr ?hp (fun _ hk => hk) trivial (Below.refl _ _) (Nat.le_refl _) (by simp) ?_; (case hd => rfl); (case hg => rfl); (case hr => first | (go_simp; done) | (go_simp; rfl)); (case hp => exact (Reps.none _ _)); intro v148008 w21 ho22 hb hg_ hnew_; clear hg_ hnew_; (first | rw [← Ny148007.out] at ho22 | (simp only [Int.reduceToNat] at ho22; rw [← Ny148007.out] at ho22)); have HO148009 := aQ (Kd.R_lower (Kd.R_new' ho22 (Kd.R_lt (by (with_reducible repeat (first | apply Kd.R_alloc | apply Kd.R_drewN | apply Kd.R_drew)); exact HO_3.out))) (below_size (by repeat (first | (with_reducible first | exact HB.out | apply below_alloc | apply pw_below_drewN | apply below_drew1) | exact HB.out)))); replace HO_3 := aQ (Kd.R_elder' (by (with_reducible repeat (first | apply Kd.R_alloc | apply Kd.R_drewN | apply Kd.R_drew)); exact HO_3.out) (Kd.R_base ho22) hb); replace HB := aQ (below_step (by repeat (first | (with_reducible first | exact HB.out | apply below_alloc | apply pw_below_drewN | apply below_drew1) | exact HB.out)) hb); clear hb ho22; have q23 : (x5_2 : Int) ≤ ((x3_1.length : Int) : Int) := of_decide_eq_true (by first | (with_reducible assumption) | assumption); obtain ⟨i023, hi023, _, hsz23, _⟩ := info_parts info3; have hroom23 : x3_1.length ≤ co5 := (Kd.R_reads' HO_3.out).2.1; have hC23 : Kd.C (Kd.int .i64) _ (some ad148004) x3_1.length x3_1 := (Kd.R_reads' HO_3.out).2.2; have q023 : (0 : Int) ≤ (x5_2 : Int) := of_decide_eq_true (by first | (with_reducible assumption) | assumption); have hcut23 := cut_from (P := Try.prog) 22 3 .i64 Try.underlying22 hi023 1 hsz23 (some ad148004) x3_1.length co5 x5_2 q023 q23; have hr23 := Kd.C_drop (m := (x5_2 : Int).toNat) (c := co5) hC23 (by omega) hroom23; obtain ⟨A23, hA23⟩ : ∃ A1, A1 = (if co5 = (x5_2 : Int).toNat then (some ad148004) else ((some ad148004) : Option Addr).map (·.add ((x5_2 : Int).toNat * 1))) := ⟨_, rfl⟩; obtain ⟨c23, hc23⟩ : ∃ c1, c1 = co5 - (x5_2 : Int).toNat := ⟨_, rfl⟩; have hy23 : y148010.length = x3_1.length - (x5_2 : Int).toNat := (by rw [Ny148010.out, List.length_drop] <;> omega); rw [show (x3_1).drop (x5_2 : Int).toNat = y148010 from Ny148010.out.symm] at hr23; replace hr23 : Kd.C (Kd.int .i64) _ A23 y148010.length y148010 := (by rw [hA23]; exact hr23); rw [← hy23, ← hA23, ← hc23] at hcut23; have HR148013 := aQ hr23; have HC148013 := aQ (show y148010.length ≤ c23 from by rw [hy23, hc23]; exact Nat.sub_le_sub_right hroom23 _); clear hr23 hC23 hroom23 hi023 hsz23 hc23; have KY23 := aQ hy23; have KA23 := aQ hA23; clear hy23 hA23; have KL23 := aQ (show (x5_2 : Int).toNat ≤ x3_1.length from by omega); replace q23 := eq_true q23) | ((with_reducible refine gate_builtin (b := .append) (xs := #[.tmp 35, .tmp 38]) rfl ?_); at_builtin; refine Kd.R_append_rows (Kd.int .i64) (w0 := w) w.heap.size rfl (.tmp 35) (.tmp 38) 22 3 (.int .i64 0) 8 rfl Try.underlying22 info3 rfl (by decide) (by omega) v148008 y148007 y148010 _ _ _ (fun k_ => some k_ ≠ (.slice (some ad148004) x3_1.length co5 : Value).ownBlock) (fun _ => False) rfl rfl ?aO ?aR (fun _ _ h => h) (fun _ h => h.elim) ?aF ?aB ?aS ?aL ?_; (case aR => repeat (first | exact (by repeat (first | (with_reducible exact HR148013.out) | (with_reducible refine Kd.C_alloc ?_ _) | (with_reducible refine Kd.C_drewN ?_ _) | (with_reducible refine Kd.C_drew ?_) | exact HR148013.out)) | (with_reducible refine Kd.C_alloc ?_ _) | (with_reducible refine Kd.C_drewN ?_ _) | (with_reducible refine Kd.C_drew ?_))); (case aB => exact (by repeat (first | (with_reducible first | exact HB.out | apply below_alloc | apply pw_below_drewN | apply below_drew1) | exact HB.out))); (case aF => exact (fun k_ hk => Kd.fresh' (Kd.R_lt (by (with_reducible repeat (first | apply Kd.R_alloc | apply Kd.R_drewN | apply Kd.R_drew)); exact HO_3.out)) k_ hk)); (case aO => exact (by (with_reducible repeat (first | apply Kd.R_alloc | apply Kd.R_drewN | apply Kd.R_drew)); exact Kd.R_mono HO148009.out (fun _ hk => hk.2))); (case aS => exact (below_size (by repeat (first | (with_reducible first | exact HB.out | apply below_alloc | apply pw_below_drewN | apply below_drew1) | exact HB.out)))); (case aL => have := LMc17.out; omega); intro v148015 w24 ho hb hg hat; rw [← Ny148014.out] at ho; replace HB := aQ (hb); replace HR148013 := aQ ((show Kd.C (Kd.int .i64) w24 A23 y148010.length y148010 from by rw [Ny148010.out, KA23.out]; exact Kd.C_drop (m := (x5_2 : Int).toNat) (c := co5) ((Kd.R_reads' (Kd.R_after (ok := (fun _ => True)) (by (with_reducible repeat (first | apply Kd.R_alloc | apply Kd.R_drewN | apply Kd.R_drew)); exact HO_3.out) hg hat)).2.2) KL23.out ((Kd.R_reads' (Kd.R_after (ok := (fun _ => True)) (by (with_reducible repeat (first | apply Kd.R_alloc | apply Kd.R_drewN | apply Kd.R_drew)); exact HO_3.out) hg hat)).2.1))); replace HO_3 := aQ (Kd.R_after (ok := (fun _ => True)) (by (with_reducible repeat (first | apply Kd.R_alloc | apply Kd.R_drewN | apply Kd.R_drew)); exact HO_3.out) hg hat); have HO148016 := aQ (ho); clear HO148009; clear ho hb hg hat; have q25 : (x5_2 : Int) ≤ ((x3_1.length : Int) : Int) := of_decide_eq_true (by first | (with_reducible assumption) | assumption); obtain ⟨i025, hi025, _, hsz25, _⟩ := info_parts info3; have hcut25 := cut_to (P := Try.prog) 22 3 .i64 Try.underlying22 hi025 (some ad148004) x3_1.length co5 x5_2 (of_decide_eq_true (by first | (with_reducible assumption) | assumption)) q25 (Kd.R_reads' HO_3.out).2.1; have hr25 := Kd.R_take (m := (x5_2 : Int).toNat) HO_3.out (by omega); have hy25 : y148017.length = (x5_2 : Int).toNat := (by rw [Ny148017.out, List.length_take]; omega); rw [← Ny148017.out] at hr25; rw [← hy25] at hr25 hcut25; clear hy25 hi025 hsz25 HO_3; have HO148019 := aQ hr25; clear hr25; replace q25 := eq_true q25) | ((with_reducible refine gate_builtin (b := .append) (xs := #[.tmp 42, .tmp 44]) rfl ?_); at_builtin; refine Kd.R_append (Kd.int .i64) (w0 := w) w.heap.size rfl (.tmp 42) (.tmp 44) 22 3 (.int .i64 0) 8 rfl Try.underlying22 info3 rfl (by decide) (by omega) (.slice (some ad148004) y148017.length co5) y148017 x4_1 [.int .i64 x4_1] (fun k_ => some k_ ≠ (v148015 : Value).ownBlock) (fun _ => False) rfl rfl ?aP (fun _ hk => hk.elim) ?aF ?aO ?aB ?aS ?aL ?_; (case aP => exact rfl); (case aB => exact (by repeat (first | (with_reducible first | exact HB.out | apply below_alloc | apply pw_below_drewN | apply below_drew1) | exact HB.out))); (case aF => exact (fun k_ hk => Kd.fresh' (Kd.R_lt (by (with_reducible repeat (first | apply Kd.R_alloc | apply Kd.R_drewN | apply Kd.R_drew)); exact HO148016.out)) k_ hk)); (case aO => exact (by (with_reducible repeat (first | apply Kd.R_alloc | apply Kd.R_drewN | apply Kd.R_drew)); exact Kd.R_mono HO148019.out (fun _ hk => hk.2))); (case aS => exact (below_size (by repeat (first | (with_reducible first | exact HB.out | apply below_alloc | apply pw_below_drewN | apply below_drew1) | exact HB.out)))); (case aL => have := LMc19.out; omega); intro v148021 w26 ho hb hg hat; rw [← Ny148020.out] at ho; replace HO148016 := aQ (Kd.R_after (ok := (fun _ => True)) (by (with_reducible repeat (first | apply Kd.R_alloc | apply Kd.R_drewN | apply Kd.R_drew)); exact Kd.R_mono HO148016.out (fun _ hk => ⟨trivial, by first | exact hk | exact fun h_ => hk (h_.trans (ob_len _ _ _ _))⟩)) hg hat); replace HB := aQ (hb); have HO148022 := aQ (ho); clear HO148019; clear ho hb hg hat; obtain ⟨Ao28, co28, eo28⟩ := Kd.R_slice HO148016.out; subst eo28) | ((with_reducible refine gate_builtin (b := .append) (xs := #[.tmp 45, .tmp 46]) rfl ?_); at_builtin; refine Kd.R_append_rows (Kd.int .i64) (w0 := w) w.heap.size rfl (.tmp 45) (.tmp 46) 22 3 (.int .i64 0) 8 rfl Try.underlying22 info3 rfl (by decide) (by omega) v148021 y148020 y148014 _ _ _ (fun k_ => some k_ ≠ (.slice Ao28 y148014.length co28 : Value).ownBlock) (fun _ => False) rfl rfl ?aO ?aR (fun _ _ h => h) (fun _ h => h.elim) ?aF ?aB ?aS ?aL ?_; (case aR => repeat (first | exact (Kd.R_reads' HO148016.out).2.2 | (with_reducible refine Kd.C_alloc ?_ _) | (with_reducible refine Kd.C_drewN ?_ _) | (with_reducible refine Kd.C_drew ?_))); (case aB => exact (by repeat (first | (with_reducible first | exact HB.out | apply below_alloc | apply pw_below_drewN | apply below_drew1) | exact HB.out))); (case aF => exact (fun k_ hk => Kd.fresh' (Kd.R_lt (by (with_reducible repeat (first | apply Kd.R_alloc | apply Kd.R_drewN | apply Kd.R_drew)); exact HO148016.out)) k_ hk)); (case aO => exact (by (with_reducible repeat (first | apply Kd.R_alloc | apply Kd.R_drewN | apply Kd.R_drew)); exact HO148022.out)); (case aS => exact (below_size (by repeat (first | (with_reducible first | exact HB.out | apply below_alloc | apply pw_below_drewN | apply below_drew1) | exact HB.out)))); (case aL => have := LMc20.out; omega); intro v148024 w27 ho hb hg hat; rw [← Ny148023.out] at ho; replace HO148016 := aQ (Kd.R_after (ok := (fun _ => True)) (by (with_reducible repeat (first | apply Kd.R_alloc | apply Kd.R_drewN | apply Kd.R_drew)); exact HO148016.out) hg hat); replace HB := aQ (hb); have HO148025 := aQ (ho); clear HO148022; clear ho hb hg hat))
                   repeat (go_quiet (first | ((with_reducible refine gate_dst (N := 35) rfl ?_); refine Kd.R_lit (Kd.int .i64) _ 3 ?hg (N := 35) ?hd (xs := ([] : List Int)) (inner := []) (ok := fun _ => True) (okp := fun _ => True) ?hr ?hp (fun _ hk => hk) trivial (Below.refl _ _) (Nat.le_refl _) (by simp) ?_; (case hd => rfl); (case hg => rfl); (case hr => first | (go_simp; done) | (go_simp; rfl)); (case hp => exact (Reps.none _ _)); intro v148008 w21 ho22 hb hg_ hnew_; clear hg_ hnew_; (first | rw [← Ny148007.out] at ho22 | (simp only [Int.reduceToNat] at ho22; rw [← Ny148007.out] at ho22)); have HO148009 := aQ (Kd.R_lower (Kd.R_new' ho22 (Kd.R_lt (by (with_reducible repeat (first | apply Kd.R_alloc | apply Kd.R_drewN | apply Kd.R_drew)); exact HO_3.out))) (below_size (by repeat (first | (with_reducible first | exact HB.out | apply below_alloc | apply pw_below_drewN | apply below_drew1) | exact HB.out)))); replace HO_3 := aQ (Kd.R_elder' (by (with_reducible repeat (first | apply Kd.R_alloc | apply Kd.R_drewN | apply Kd.R_drew)); exact HO_3.out) (Kd.R_base ho22) hb); replace HB := aQ (below_step (by repeat (first | (with_reducible first | exact HB.out | apply below_alloc | apply pw_below_drewN | apply below_drew1) | exact HB.out)) hb); clear hb ho22; have q23 : (x5_2 : Int) ≤ ((x3_1.length : Int) : Int) := of_decide_eq_true (by first | (with_reducible assumption) | assumption); obtain ⟨i023, hi023, _, hsz23, _⟩ := info_parts info3; have hroom23 : x3_1.length ≤ co5 := (Kd.R_reads' HO_3.out).2.1; have hC23 : Kd.C (Kd.int .i64) _ (some ad148004) x3_1.length x3_1 := (Kd.R_reads' HO_3.out).2.2; have q023 : (0 : Int) ≤ (x5_2 : Int) := of_decide_eq_true (by first | (with_reducible assumption) | assumption); have hcut23 := cut_from (P := Try.prog) 22 3 .i64 Try.underlying22 hi023 1 hsz23 (some ad148004) x3_1.length co5 x5_2 q023 q23; have hr23 := Kd.C_drop (m := (x5_2 : Int).toNat) (c := co5) hC23 (by omega) hroom23; obtain ⟨A23, hA23⟩ : ∃ A1, A1 = (if co5 = (x5_2 : Int).toNat then (some ad148004) else ((some ad148004) : Option Addr).map (·.add ((x5_2 : Int).toNat * 1))) := ⟨_, rfl⟩; obtain ⟨c23, hc23⟩ : ∃ c1, c1 = co5 - (x5_2 : Int).toNat := ⟨_, rfl⟩; have hy23 : y148010.length = x3_1.length - (x5_2 : Int).toNat := (by rw [Ny148010.out, List.length_drop] <;> omega); rw [show (x3_1).drop (x5_2 : Int).toNat = y148010 from Ny148010.out.symm] at hr23; replace hr23 : Kd.C (Kd.int .i64) _ A23 y148010.length y148010 := (by rw [hA23]; exact hr23); rw [← hy23, ← hA23, ← hc23] at hcut23; have HR148013 := aQ hr23; have HC148013 := aQ (show y148010.length ≤ c23 from by rw [hy23, hc23]; exact Nat.sub_le_sub_right hroom23 _); clear hr23 hC23 hroom23 hi023 hsz23 hc23; have KY23 := aQ hy23; have KA23 := aQ hA23; clear hy23 hA23; have KL23 := aQ (show (x5_2 : Int).toNat ≤ x3_1.length from by omega); replace q23 := eq_true q23) | ((with_reducible refine gate_builtin (b := .append) (xs := #[.tmp 35, .tmp 38]) rfl ?_); at_builtin; refine Kd.R_append_rows (Kd.int .i64) (w0 := w) w.heap.size rfl (.tmp 35) (.tmp 38) 22 3 (.int .i64 0) 8 rfl Try.underlying22 info3 rfl (by decide) (by omega) v148008 y148007 y148010 _ _ _ (fun k_ => some k_ ≠ (.slice (some ad148004) x3_1.length co5 : Value).ownBlock) (fun _ => False) rfl rfl ?aO ?aR (fun _ _ h => h) (fun _ h => h.elim) ?aF ?aB ?aS ?aL ?_; (case aR => repeat (first | exact (by repeat (first | (with_reducible exact HR148013.out) | (with_reducible refine Kd.C_alloc ?_ _) | (with_reducible refine Kd.C_drewN ?_ _) | (with_reducible refine Kd.C_drew ?_) | exact HR148013.out)) | (with_reducible refine Kd.C_alloc ?_ _) | (with_reducible refine Kd.C_drewN ?_ _) | (with_reducible refine Kd.C_drew ?_))); (case aB => exact (by repeat (first | (with_reducible first | exact HB.out | apply below_alloc | apply pw_below_drewN | apply below_drew1) | exact HB.out))); (case aF => exact (fun k_ hk => Kd.fresh' (Kd.R_lt (by (with_reducible repeat (first | apply Kd.R_alloc | apply Kd.R_drewN | apply Kd.R_drew)); exact HO_3.out)) k_ hk)); (case aO => exact (by (with_reducible repeat (first | apply Kd.R_alloc | apply Kd.R_drewN | apply Kd.R_drew)); exact Kd.R_mono HO148009.out (fun _ hk => hk.2))); (case aS => exact (below_size (by repeat (first | (with_reducible first | exact HB.out | apply below_alloc | apply pw_below_drewN | apply below_drew1) | exact HB.out)))); (case aL => have := LMc17.out; omega); intro v148015 w24 ho hb hg hat; rw [← Ny148014.out] at ho; replace HB := aQ (hb); replace HR148013 := aQ ((show Kd.C (Kd.int .i64) w24 A23 y148010.length y148010 from by rw [Ny148010.out, KA23.out]; exact Kd.C_drop (m := (x5_2 : Int).toNat) (c := co5) ((Kd.R_reads' (Kd.R_after (ok := (fun _ => True)) (by (with_reducible repeat (first | apply Kd.R_alloc | apply Kd.R_drewN | apply Kd.R_drew)); exact HO_3.out) hg hat)).2.2) KL23.out ((Kd.R_reads' (Kd.R_after (ok := (fun _ => True)) (by (with_reducible repeat (first | apply Kd.R_alloc | apply Kd.R_drewN | apply Kd.R_drew)); exact HO_3.out) hg hat)).2.1))); replace HO_3 := aQ (Kd.R_after (ok := (fun _ => True)) (by (with_reducible repeat (first | apply Kd.R_alloc | apply Kd.R_drewN | apply Kd.R_drew)); exact HO_3.out) hg hat); have HO148016 := aQ (ho); clear HO148009; clear ho hb hg hat; have q25 : (x5_2 : Int) ≤ ((x3_1.length : Int) : Int) := of_decide_eq_true (by first | (with_reducible assumption) | assumption); obtain ⟨i025, hi025, _, hsz25, _⟩ := info_parts info3; have hcut25 := cut_to (P := Try.prog) 22 3 .i64 Try.underlying22 hi025 (some ad148004) x3_1.length co5 x5_2 (of_decide_eq_true (by first | (with_reducible assumption) | assumption)) q25 (Kd.R_reads' HO_3.out).2.1; have hr25 := Kd.R_take (m := (x5_2 : Int).toNat) HO_3.out (by omega); have hy25 : y148017.length = (x5_2 : Int).toNat := (by rw [Ny148017.out, List.length_take]; omega); rw [← Ny148017.out] at hr25; rw [← hy25] at hr25 hcut25; clear hy25 hi025 hsz25 HO_3; have HO148019 := aQ hr25; clear hr25; replace q25 := eq_true q25) | ((with_reducible refine gate_builtin (b := .append) (xs := #[.tmp 42, .tmp 44]) rfl ?_); at_builtin; refine Kd.R_append (Kd.int .i64) (w0 := w) w.heap.size rfl (.tmp 42) (.tmp 44) 22 3 (.int .i64 0) 8 rfl Try.underlying22 info3 rfl (by decide) (by omega) (.slice (some ad148004) y148017.length co5) y148017 x4_1 [.int .i64 x4_1] (fun k_ => some k_ ≠ (v148015 : Value).ownBlock) (fun _ => False) rfl rfl ?aP (fun _ hk => hk.elim) ?aF ?aO ?aB ?aS ?aL ?_; (case aP => exact rfl); (case aB => exact (by repeat (first | (with_reducible first | exact HB.out | apply below_alloc | apply pw_below_drewN | apply below_drew1) | exact HB.out))); (case aF => exact (fun k_ hk => Kd.fresh' (Kd.R_lt (by (with_reducible repeat (first | apply Kd.R_alloc | apply Kd.R_drewN | apply Kd.R_drew)); exact HO148016.out)) k_ hk)); (case aO => exact (by (with_reducible repeat (first | apply Kd.R_alloc | apply Kd.R_drewN | apply Kd.R_drew)); exact Kd.R_mono HO148019.out (fun _ hk => hk.2))); (case aS => exact (below_size (by repeat (first | (with_reducible first | exact HB.out | apply below_alloc | apply pw_below_drewN | apply below_drew1) | exact HB.out)))); (case aL => have := LMc19.out; omega); intro v148021 w26 ho hb hg hat; rw [← Ny148020.out] at ho; replace HO148016 := aQ (Kd.R_after (ok := (fun _ => True)) (by (with_reducible repeat (first | apply Kd.R_alloc | apply Kd.R_drewN | apply Kd.R_drew)); exact Kd.R_mono HO148016.out (fun _ hk => ⟨trivial, by first | exact hk | exact fun h_ => hk (h_.trans (ob_len _ _ _ _))⟩)) hg hat); replace HB := aQ (hb); have HO148022 := aQ (ho); clear HO148019; clear ho hb hg hat; obtain ⟨Ao28, co28, eo28⟩ := Kd.R_slice HO148016.out; subst eo28) | ((with_reducible refine gate_builtin (b := .append) (xs := #[.tmp 45, .tmp 46]) rfl ?_); at_builtin; refine Kd.R_append_rows (Kd.int .i64) (w0 := w) w.heap.size rfl (.tmp 45) (.tmp 46) 22 3 (.int .i64 0) 8 rfl Try.underlying22 info3 rfl (by decide) (by omega) v148021 y148020 y148014 _ _ _ (fun k_ => some k_ ≠ (.slice Ao28 y148014.length co28 : Value).ownBlock) (fun _ => False) rfl rfl ?aO ?aR (fun _ _ h => h) (fun _ h => h.elim) ?aF ?aB ?aS ?aL ?_; (case aR => repeat (first | exact (Kd.R_reads' HO148016.out).2.2 | (with_reducible refine Kd.C_alloc ?_ _) | (with_reducible refine Kd.C_drewN ?_ _) | (with_reducible refine Kd.C_drew ?_))); (case aB => exact (by repeat (first | (with_reducible first | exact HB.out | apply below_alloc | apply pw_below_drewN | apply below_drew1) | exact HB.out))); (case aF => exact (fun k_ hk => Kd.fresh' (Kd.R_lt (by (with_reducible repeat (first | apply Kd.R_alloc | apply Kd.R_drewN | apply Kd.R_drew)); exact HO148016.out)) k_ hk)); (case aO => exact (by (with_reducible repeat (first | apply Kd.R_alloc | apply Kd.R_drewN | apply Kd.R_drew)); exact HO148022.out)); (case aS => exact (below_size (by repeat (first | (with_reducible first | exact HB.out | apply below_alloc | apply pw_below_drewN | apply below_drew1) | exact HB.out)))); (case aL => have := LMc20.out; omega); intro v148024 w27 ho hb hg hat; rw [← Ny148023.out] at ho; replace HO148016 := aQ (Kd.R_after (ok := (fun _ => True)) (by (with_reducible repeat (first | apply Kd.R_alloc | apply Kd.R_drewN | apply Kd.R_drew)); exact HO148016.out) hg hat); replace HB := aQ (hb); have HO148025 := aQ (ho); clear HO148022; clear ho hb hg hat)); try go_wp2_with (first | ((with_reducible refine gate_dst (N := 35) rfl ?_); refine Kd.R_lit (Kd.int .i64) _ 3 ?hg (N := 35) ?hd (xs := ([] : List Int)) (inner := []) (ok := fun _ => True) (okp := fun _ => True) ?hr ?hp (fun _ hk => hk) trivial (Below.refl _ _) (Nat.le_refl _) (by simp) ?_; (case hd => rfl); (case hg => rfl); (case hr => first | (go_simp; done) | (go_simp; rfl)); (case hp => exact (Reps.none _ _)); intro v148008 w21 ho22 hb hg_ hnew_; clear hg_ hnew_; (first | rw [← Ny148007.out] at ho22 | (simp only [Int.reduceToNat] at ho22; rw [← Ny148007.out] at ho22)); have HO148009 := aQ (Kd.R_lower (Kd.R_new' ho22 (Kd.R_lt (by (with_reducible repeat (first | apply Kd.R_alloc | apply Kd.R_drewN | apply Kd.R_drew)); exact HO_3.out))) (below_size (by repeat (first | (with_reducible first | exact HB.out | apply below_alloc | apply pw_below_drewN | apply below_drew1) | exact HB.out)))); replace HO_3 := aQ (Kd.R_elder' (by (with_reducible repeat (first | apply Kd.R_alloc | apply Kd.R_drewN | apply Kd.R_drew)); exact HO_3.out) (Kd.R_base ho22) hb); replace HB := aQ (below_step (by repeat (first | (with_reducible first | exact HB.out | apply below_alloc | apply pw_below_drewN | apply below_drew1) | exact HB.out)) hb); clear hb ho22; have q23 : (x5_2 : Int) ≤ ((x3_1.length : Int) : Int) := of_decide_eq_true (by first | (with_reducible assumption) | assumption); obtain ⟨i023, hi023, _, hsz23, _⟩ := info_parts info3; have hroom23 : x3_1.length ≤ co5 := (Kd.R_reads' HO_3.out).2.1; have hC23 : Kd.C (Kd.int .i64) _ (some ad148004) x3_1.length x3_1 := (Kd.R_reads' HO_3.out).2.2; have q023 : (0 : Int) ≤ (x5_2 : Int) := of_decide_eq_true (by first | (with_reducible assumption) | assumption); have hcut23 := cut_from (P := Try.prog) 22 3 .i64 Try.underlying22 hi023 1 hsz23 (some ad148004) x3_1.length co5 x5_2 q023 q23; have hr23 := Kd.C_drop (m := (x5_2 : Int).toNat) (c := co5) hC23 (by omega) hroom23; obtain ⟨A23, hA23⟩ : ∃ A1, A1 = (if co5 = (x5_2 : Int).toNat then (some ad148004) else ((some ad148004) : Option Addr).map (·.add ((x5_2 : Int).toNat * 1))) := ⟨_, rfl⟩; obtain ⟨c23, hc23⟩ : ∃ c1, c1 = co5 - (x5_2 : Int).toNat := ⟨_, rfl⟩; have hy23 : y148010.length = x3_1.length - (x5_2 : Int).toNat := (by rw [Ny148010.out, List.length_drop] <;> omega); rw [show (x3_1).drop (x5_2 : Int).toNat = y148010 from Ny148010.out.symm] at hr23; replace hr23 : Kd.C (Kd.int .i64) _ A23 y148010.length y148010 := (by rw [hA23]; exact hr23); rw [← hy23, ← hA23, ← hc23] at hcut23; have HR148013 := aQ hr23; have HC148013 := aQ (show y148010.length ≤ c23 from by rw [hy23, hc23]; exact Nat.sub_le_sub_right hroom23 _); clear hr23 hC23 hroom23 hi023 hsz23 hc23; have KY23 := aQ hy23; have KA23 := aQ hA23; clear hy23 hA23; have KL23 := aQ (show (x5_2 : Int).toNat ≤ x3_1.length from by omega); replace q23 := eq_true q23) | ((with_reducible refine gate_builtin (b := .append) (xs := #[.tmp 35, .tmp 38]) rfl ?_); at_builtin; refine Kd.R_append_rows (Kd.int .i64) (w0 := w) w.heap.size rfl (.tmp 35) (.tmp 38) 22 3 (.int .i64 0) 8 rfl Try.underlying22 info3 rfl (by decide) (by omega) v148008 y148007 y148010 _ _ _ (fun k_ => some k_ ≠ (.slice (some ad148004) x3_1.length co5 : Value).ownBlock) (fun _ => False) rfl rfl ?aO ?aR (fun _ _ h => h) (fun _ h => h.elim) ?aF ?aB ?aS ?aL ?_; (case aR => repeat (first | exact (by repeat (first | (with_reducible exact HR148013.out) | (with_reducible refine Kd.C_alloc ?_ _) | (with_reducible refine Kd.C_drewN ?_ _) | (with_reducible refine Kd.C_drew ?_) | exact HR148013.out)) | (with_reducible refine Kd.C_alloc ?_ _) | (with_reducible refine Kd.C_drewN ?_ _) | (with_reducible refine Kd.C_drew ?_))); (case aB => exact (by repeat (first | (with_reducible first | exact HB.out | apply below_alloc | apply pw_below_drewN | apply below_drew1) | exact HB.out))); (case aF => exact (fun k_ hk => Kd.fresh' (Kd.R_lt (by (with_reducible repeat (first | apply Kd.R_alloc | apply Kd.R_drewN | apply Kd.R_drew)); exact HO_3.out)) k_ hk)); (case aO => exact (by (with_reducible repeat (first | apply Kd.R_alloc | apply Kd.R_drewN | apply Kd.R_drew)); exact Kd.R_mono HO148009.out (fun _ hk => hk.2))); (case aS => exact (below_size (by repeat (first | (with_reducible first | exact HB.out | apply below_alloc | apply pw_below_drewN | apply below_drew1) | exact HB.out)))); (case aL => have := LMc17.out; omega); intro v148015 w24 ho hb hg hat; rw [← Ny148014.out] at ho; replace HB := aQ (hb); replace HR148013 := aQ ((show Kd.C (Kd.int .i64) w24 A23 y148010.length y148010 from by rw [Ny148010.out, KA23.out]; exact Kd.C_drop (m := (x5_2 : Int).toNat) (c := co5) ((Kd.R_reads' (Kd.R_after (ok := (fun _ => True)) (by (with_reducible repeat (first | apply Kd.R_alloc | apply Kd.R_drewN | apply Kd.R_drew)); exact HO_3.out) hg hat)).2.2) KL23.out ((Kd.R_reads' (Kd.R_after (ok := (fun _ => True)) (by (with_reducible repeat (first | apply Kd.R_alloc | apply Kd.R_drewN | apply Kd.R_drew)); exact HO_3.out) hg hat)).2.1))); replace HO_3 := aQ (Kd.R_after (ok := (fun _ => True)) (by (with_reducible repeat (first | apply Kd.R_alloc | apply Kd.R_drewN | apply Kd.R_drew)); exact HO_3.out) hg hat); have HO148016 := aQ (ho); clear HO148009; clear ho hb hg hat; have q25 : (x5_2 : Int) ≤ ((x3_1.length : Int) : Int) := of_decide_eq_true (by first | (with_reducible assumption) | assumption); obtain ⟨i025, hi025, _, hsz25, _⟩ := info_parts info3; have hcut25 := cut_to (P := Try.prog) 22 3 .i64 Try.underlying22 hi025 (some ad148004) x3_1.length co5 x5_2 (of_decide_eq_true (by first | (with_reducible assumption) | assumption)) q25 (Kd.R_reads' HO_3.out).2.1; have hr25 := Kd.R_take (m := (x5_2 : Int).toNat) HO_3.out (by omega); have hy25 : y148017.length = (x5_2 : Int).toNat := (by rw [Ny148017.out, List.length_take]; omega); rw [← Ny148017.out] at hr25; rw [← hy25] at hr25 hcut25; clear hy25 hi025 hsz25 HO_3; have HO148019 := aQ hr25; clear hr25; replace q25 := eq_true q25) | ((with_reducible refine gate_builtin (b := .append) (xs := #[.tmp 42, .tmp 44]) rfl ?_); at_builtin; refine Kd.R_append (Kd.int .i64) (w0 := w) w.heap.size rfl (.tmp 42) (.tmp 44) 22 3 (.int .i64 0) 8 rfl Try.underlying22 info3 rfl (by decide) (by omega) (.slice (some ad148004) y148017.length co5) y148017 x4_1 [.int .i64 x4_1] (fun k_ => some k_ ≠ (v148015 : Value).ownBlock) (fun _ => False) rfl rfl ?aP (fun _ hk => hk.elim) ?aF ?aO ?aB ?aS ?aL ?_; (case aP => exact rfl); (case aB => exact (by repeat (first | (with_reducible first | exact HB.out | apply below_alloc | apply pw_below_drewN | apply below_drew1) | exact HB.out))); (case aF => exact (fun k_ hk => Kd.fresh' (Kd.R_lt (by (with_reducible repeat (first | apply Kd.R_alloc | apply Kd.R_drewN | apply Kd.R_drew)); exact HO148016.out)) k_ hk)); (case aO => exact (by (with_reducible repeat (first | apply Kd.R_alloc | apply Kd.R_drewN | apply Kd.R_drew)); exact Kd.R_mono HO148019.out (fun _ hk => hk.2))); (case aS => exact (below_size (by repeat (first | (with_reducible first | exact HB.out | apply below_alloc | apply pw_below_drewN | apply below_drew1) | exact HB.out)))); (case aL => have := LMc19.out; omega); intro v148021 w26 ho hb hg hat; rw [← Ny148020.out] at ho; replace HO148016 := aQ (Kd.R_after (ok := (fun _ => True)) (by (with_reducible repeat (first | apply Kd.R_alloc | apply Kd.R_drewN | apply Kd.R_drew)); exact Kd.R_mono HO148016.out (fun _ hk => ⟨trivial, by first | exact hk | exact fun h_ => hk (h_.trans (ob_len _ _ _ _))⟩)) hg hat); replace HB := aQ (hb); have HO148022 := aQ (ho); clear HO148019; clear ho hb hg hat; obtain ⟨Ao28, co28, eo28⟩ := Kd.R_slice HO148016.out; subst eo28) | ((with_reducible refine gate_builtin (b := .append) (xs := #[.tmp 45, .tmp 46]) rfl ?_); at_builtin; refine Kd.R_append_rows (Kd.int .i64) (w0 := w) w.heap.size rfl (.tmp 45) (.tmp 46) 22 3 (.int .i64 0) 8 rfl Try.underlying22 info3 rfl (by decide) (by omega) v148021 y148020 y148014 _ _ _ (fun k_ => some k_ ≠ (.slice Ao28 y148014.length co28 : Value).ownBlock) (fun _ => False) rfl rfl ?aO ?aR (fun _ _ h => h) (fun _ h => h.elim) ?aF ?aB ?aS ?aL ?_; (case aR => repeat (first | exact (Kd.R_reads' HO148016.out).2.2 | (with_reducible refine Kd.C_alloc ?_ _) | (with_reducible refine Kd.C_drewN ?_ _) | (with_reducible refine Kd.C_drew ?_))); (case aB => exact (by repeat (first | (with_reducible first | exact HB.out | apply below_alloc | apply pw_below_drewN | apply below_drew1) | exact HB.out))); (case aF => exact (fun k_ hk => Kd.fresh' (Kd.R_lt (by (with_reducible repeat (first | apply Kd.R_alloc | apply Kd.R_drewN | apply Kd.R_drew)); exact HO148016.out)) k_ hk)); (case aO => exact (by (with_reducible repeat (first | apply Kd.R_alloc | apply Kd.R_drewN | apply Kd.R_drew)); exact HO148022.out)); (case aS => exact (below_size (by repeat (first | (with_reducible first | exact HB.out | apply below_alloc | apply pw_below_drewN | apply below_drew1) | exact HB.out)))); (case aL => have := LMc20.out; omega); intro v148024 w27 ho hb hg hat; rw [← Ny148023.out] at ho; replace HO148016 := aQ (Kd.R_after (ok := (fun _ => True)) (by (with_reducible repeat (first | apply Kd.R_alloc | apply Kd.R_drewN | apply Kd.R_drew)); exact HO148016.out) hg hat); replace HB := aQ (hb); have HO148025 := aQ (ho); clear HO148022; clear ho hb hg hat)))
                   go_roundg k2
                   case measure => have := HK1.out; have := HK2.out; omega
                   case rel => exact ⟨(y148023), (wrap64 (x4_1 + 1)), (by first | rfl | (simp; done) | (simp [*]; done)), H', ⟨by have := HK1.out; have := HK2.out; omega⟩, ⟨by (with_reducible repeat (first | apply Kd.R_alloc | apply Kd.R_drewN | apply Kd.R_drew)); exact Kd.R_mono HO148025.out (fun _ hk => trivial)⟩, ⟨by repeat (first | (with_reducible first | exact HB.out | apply below_alloc | apply pw_below_drewN | apply below_drew1) | exact HB.out)⟩⟩
                  ·rw [if_neg c20] at H
                   exact absurd H (by simp)
                 ·rw [if_neg c19] at H
                  exact absurd H (by simp)
                ·rw [if_neg c17] at H
                 exact absurd H (by simp)
               ·rw [if_neg c16] at H
                exact absurd H (by simp)
              ·rw [if_neg c15] at H
               exact absurd H (by simp)
            ·rw [if_neg c13] at H
             exact absurd H (by simp)
           ·rw [if_neg c12] at H
            exact absurd H (by simp)
          ·rw [if_neg c11] at H
           exact absurd H (by simp)
         ·rw [if_neg c10] at H
          exact absurd H (by simp)
        ·rw [if_neg c9] at H
         exact absurd H (by simp)
       ·rw [if_neg c8] at H
        exact absurd H (by simp)
      ·rw [if_neg c6] at H
       have c6b0 : decide (0 < x5_2) = false := decide_eq_false c6
       clear c6
       obtain ⟨y148026, hy148026⟩ : ∃ y_ : List Int, y_ = (([] : List Int)) := ⟨_, rfl⟩
       replace H : (if 0 ≤ x5_2 then (if x5_2 ≤ (x3_1.length : Int) then ((some (x3_1.drop (x5_2 : Int).toNat : List Int)).bind fun y148029 => (if y148026.length + y148029.length < 17592186044416 then ((some (y148026 ++ y148029 : List Int)).bind fun y148033 => ((some (x3_1.take (x5_2 : Int).toNat : List Int)).bind fun y148036 => (if y148036.length < 17592186044416 then ((some (y148036 ++ [x4_1] : List Int)).bind fun y148039 => (if y148039.length + y148033.length < 17592186044416 then (spec_l19Order.l0 k2 l0 (y148039 ++ y148033) (wrap64 (x4_1 + 1))) else (none))) else (none)))) else (none))) else (none)) else (none)) = some r := by first | (rw [hy148026]; with_reducible exact H) | (have H2_ := (Option.bind_some _ _).symm.trans H; rw [hy148026]; with_reducible exact H2_) | (have H2_ := (Option.bind_some _ _).symm.trans H; with_reducible exact H2_) | with_reducible exact H | (rw [hy148026]; exact H) | exact H
       have Ny148026 := aQ hy148026
       clear hy148026
       by_cases c29 : 0 ≤ x5_2
       ·rw [if_pos c29] at H
        have c29b0 := eq_true c29
        have c29b1 : decide (0 ≤ x5_2) = true := decide_eq_true c29
        clear c29
        by_cases c30 : x5_2 ≤ (x3_1.length : Int)
        ·rw [if_pos c30] at H
         have c30b0 := eq_true c30
         have c30b1 : decide (x5_2 ≤ (x3_1.length : Int)) = true := decide_eq_true c30
         clear c30
         obtain ⟨y148029, hy148029⟩ : ∃ y_ : List Int, y_ = (x3_1.drop (x5_2 : Int).toNat) := ⟨_, rfl⟩
         replace H : (if y148026.length + y148029.length < 17592186044416 then ((some (y148026 ++ y148029 : List Int)).bind fun y148033 => ((some (x3_1.take (x5_2 : Int).toNat : List Int)).bind fun y148036 => (if y148036.length < 17592186044416 then ((some (y148036 ++ [x4_1] : List Int)).bind fun y148039 => (if y148039.length + y148033.length < 17592186044416 then (spec_l19Order.l0 k2 l0 (y148039 ++ y148033) (wrap64 (x4_1 + 1))) else (none))) else (none)))) else (none)) = some r := by first | (rw [hy148029]; with_reducible exact H) | (have H2_ := (Option.bind_some _ _).symm.trans H; rw [hy148029]; with_reducible exact H2_) | (have H2_ := (Option.bind_some _ _).symm.trans H; with_reducible exact H2_) | with_reducible exact H | (rw [hy148029]; exact H) | exact H
         have Ny148029 := aQ hy148029
         clear hy148029
         by_cases c31 : y148026.length + y148029.length < 17592186044416
         ·rw [if_pos c31] at H
          have LMc31 := aQ c31
          clear c31
          obtain ⟨y148033, hy148033⟩ : ∃ y_ : List Int, y_ = (y148026 ++ y148029) := ⟨_, rfl⟩
          replace H : ((some (x3_1.take (x5_2 : Int).toNat : List Int)).bind fun y148036 => (if y148036.length < 17592186044416 then ((some (y148036 ++ [x4_1] : List Int)).bind fun y148039 => (if y148039.length + y148033.length < 17592186044416 then (spec_l19Order.l0 k2 l0 (y148039 ++ y148033) (wrap64 (x4_1 + 1))) else (none))) else (none))) = some r := by first | (rw [hy148033]; with_reducible exact H) | (have H2_ := (Option.bind_some _ _).symm.trans H; rw [hy148033]; with_reducible exact H2_) | (have H2_ := (Option.bind_some _ _).symm.trans H; with_reducible exact H2_) | with_reducible exact H | (rw [hy148033]; exact H) | exact H
          have Ny148033 := aQ hy148033
          clear hy148033
          have c32b0 := eq_true (of_decide_eq_true (by first | (with_reducible assumption) | assumption) : x5_2 ≤ (x3_1.length : Int))
          obtain ⟨y148036, hy148036⟩ : ∃ y_ : List Int, y_ = (x3_1.take (x5_2 : Int).toNat) := ⟨_, rfl⟩
          replace H : (if y148036.length < 17592186044416 then ((some (y148036 ++ [x4_1] : List Int)).bind fun y148039 => (if y148039.length + y148033.length < 17592186044416 then (spec_l19Order.l0 k2 l0 (y148039 ++ y148033) (wrap64 (x4_1 + 1))) else (none))) else (none)) = some r := by first | (rw [hy148036]; with_reducible exact H) | (have H2_ := (Option.bind_some _ _).symm.trans H; rw [hy148036]; with_reducible exact H2_) | (have H2_ := (Option.bind_some _ _).symm.trans H; with_reducible exact H2_) | with_reducible exact H | (rw [hy148036]; exact H) | exact H
          have Ny148036 := aQ hy148036
          clear hy148036
          by_cases c33 : y148036.length < 17592186044416
          ·rw [if_pos c33] at H
           have LMc33 := aQ c33
           clear c33
           obtain ⟨y148039, hy148039⟩ : ∃ y_ : List Int, y_ = (y148036 ++ [x4_1]) := ⟨_, rfl⟩
           replace H : (if y148039.length + y148033.length < 17592186044416 then (spec_l19Order.l0 k2 l0 (y148039 ++ y148033) (wrap64 (x4_1 + 1))) else (none)) = some r := by first | (rw [hy148039]; with_reducible exact H) | (have H2_ := (Option.bind_some _ _).symm.trans H; rw [hy148039]; with_reducible exact H2_) | (have H2_ := (Option.bind_some _ _).symm.trans H; with_reducible exact H2_) | with_reducible exact H | (rw [hy148039]; exact H) | exact H
           have Ny148039 := aQ hy148039
           clear hy148039
           by_cases c34 : y148039.length + y148033.length < 17592186044416
           ·rw [if_pos c34] at H
            have LMc34 := aQ c34
            clear c34
            obtain ⟨y148042, hy148042⟩ : ∃ y_ : List Int, y_ = (y148039 ++ y148033) := ⟨_, rfl⟩
            replace H : (spec_l19Order.l0 k2 l0 y148042 (wrap64 (x4_1 + 1))) = some r := by first | (rw [hy148042]; with_reducible exact H) | (have H2_ := (Option.bind_some _ _).symm.trans H; rw [hy148042]; with_reducible exact H2_) | (have H2_ := (Option.bind_some _ _).symm.trans H; with_reducible exact H2_) | with_reducible exact H | (rw [hy148042]; exact H) | exact H
            have Ny148042 := aQ hy148042
            clear hy148042
            have H' := aQ H
            clear H
            go_wp2_with (first | ((with_reducible refine gate_dst (N := 35) rfl ?_); refine Kd.R_lit (Kd.int .i64) _ 3 ?hg (N := 35) ?hd (xs := ([] : List Int)) (inner := []) (ok := fun _ => True) (okp := fun _ => True) ?hr ?hp (fun _ hk => hk) trivial (Below.refl _ _) (Nat.le_refl _) (by simp) ?_; (case hd => rfl); (case hg => rfl); (case hr => first | (go_simp; done) | (go_simp; rfl)); (case hp => exact (Reps.none _ _)); intro v148027 w35 ho36 hb hg_ hnew_; clear hg_ hnew_; (first | rw [← Ny148026.out] at ho36 | (simp only [Int.reduceToNat] at ho36; rw [← Ny148026.out] at ho36)); have HO148028 := aQ (Kd.R_lower (Kd.R_new' ho36 (Kd.R_lt (by (with_reducible repeat (first | apply Kd.R_alloc | apply Kd.R_drewN | apply Kd.R_drew)); exact HO_3.out))) (below_size (by repeat (first | (with_reducible first | exact HB.out | apply below_alloc | apply pw_below_drewN | apply below_drew1) | exact HB.out)))); replace HO_3 := aQ (Kd.R_elder' (by (with_reducible repeat (first | apply Kd.R_alloc | apply Kd.R_drewN | apply Kd.R_drew)); exact HO_3.out) (Kd.R_base ho36) hb); replace HB := aQ (below_step (by repeat (first | (with_reducible first | exact HB.out | apply below_alloc | apply pw_below_drewN | apply below_drew1) | exact HB.out)) hb); clear hb ho36; have q37 : (x5_2 : Int) ≤ ((x3_1.length : Int) : Int) := of_decide_eq_true (by first | (with_reducible assumption) | assumption); obtain ⟨i037, hi037, _, hsz37, _⟩ := info_parts info3; have hroom37 : x3_1.length ≤ co5 := (Kd.R_reads' HO_3.out).2.1; have hC37 : Kd.C (Kd.int .i64) _ Ao5 x3_1.length x3_1 := (Kd.R_reads' HO_3.out).2.2; have q037 : (0 : Int) ≤ (x5_2 : Int) := of_decide_eq_true (by first | (with_reducible assumption) | assumption); have hcut37 := cut_from (P := Try.prog) 22 3 .i64 Try.underlying22 hi037 1 hsz37 Ao5 x3_1.length co5 x5_2 q037 q37; have hr37 := Kd.C_drop (m := (x5_2 : Int).toNat) (c := co5) hC37 (by omega) hroom37; obtain ⟨A37, hA37⟩ : ∃ A1, A1 = (if co5 = (x5_2 : Int).toNat then Ao5 else (Ao5 : Option Addr).map (·.add ((x5_2 : Int).toNat * 1))) := ⟨_, rfl⟩; obtain ⟨c37, hc37⟩ : ∃ c1, c1 = co5 - (x5_2 : Int).toNat := ⟨_, rfl⟩; have hy37 : y148029.length = x3_1.length - (x5_2 : Int).toNat := (by rw [Ny148029.out, List.length_drop] <;> omega); rw [show (x3_1).drop (x5_2 : Int).toNat = y148029 from Ny148029.out.symm] at hr37; replace hr37 : Kd.C (Kd.int .i64) _ A37 y148029.length y148029 := (by rw [hA37]; exact hr37); rw [← hy37, ← hA37, ← hc37] at hcut37; have HR148032 := aQ hr37; have HC148032 := aQ (show y148029.length ≤ c37 from by rw [hy37, hc37]; exact Nat.sub_le_sub_right hroom37 _); clear hr37 hC37 hroom37 hi037 hsz37 hc37; have KY37 := aQ hy37; have KA37 := aQ hA37; clear hy37 hA37; have KL37 := aQ (show (x5_2 : Int).toNat ≤ x3_1.length from by omega); replace q37 := eq_true q37) | ((with_reducible refine gate_builtin (b := .append) (xs := #[.tmp 35, .tmp 38]) rfl ?_); at_builtin; refine Kd.R_append_rows (Kd.int .i64) (w0 := w) w.heap.size rfl (.tmp 35) (.tmp 38) 22 3 (.int .i64 0) 8 rfl Try.underlying22 info3 rfl (by decide) (by omega) v148027 y148026 y148029 _ _ _ (fun k_ => some k_ ≠ (.slice Ao5 x3_1.length co5 : Value).ownBlock) (fun _ => False) rfl rfl ?aO ?aR (fun _ _ h => h) (fun _ h => h.elim) ?aF ?aB ?aS ?aL ?_; (case aR => repeat (first | exact (by repeat (first | (with_reducible exact HR148032.out) | (with_reducible refine Kd.C_alloc ?_ _) | (with_reducible refine Kd.C_drewN ?_ _) | (with_reducible refine Kd.C_drew ?_) | exact HR148032.out)) | (with_reducible refine Kd.C_alloc ?_ _) | (with_reducible refine Kd.C_drewN ?_ _) | (with_reducible refine Kd.C_drew ?_))); (case aB => exact (by repeat (first | (with_reducible first | exact HB.out | apply below_alloc | apply pw_below_drewN | apply below_drew1) | exact HB.out))); (case aF => exact (fun k_ hk => Kd.fresh' (Kd.R_lt (by (with_reducible repeat (first | apply Kd.R_alloc | apply Kd.R_drewN | apply Kd.R_drew)); exact HO_3.out)) k_ hk)); (case aO => exact (by (with_reducible repeat (first | apply Kd.R_alloc | apply Kd.R_drewN | apply Kd.R_drew)); exact Kd.R_mono HO148028.out (fun _ hk => hk.2))); (case aS => exact (below_size (by repeat (first | (with_reducible first | exact HB.out | apply below_alloc | apply pw_below_drewN | apply below_drew1) | exact HB.out)))); (case aL => have := LMc31.out; omega); intro v148034 w38 ho hb hg hat; rw [← Ny148033.out] at ho; replace HB := aQ (hb); replace HR148032 := aQ ((show Kd.C (Kd.int .i64) w38 A37 y148029.length y148029 from by rw [Ny148029.out, KA37.out]; exact Kd.C_drop (m := (x5_2 : Int).toNat) (c := co5) ((Kd.R_reads' (Kd.R_after (ok := (fun _ => True)) (by (with_reducible repeat (first | apply Kd.R_alloc | apply Kd.R_drewN | apply Kd.R_drew)); exact HO_3.out) hg hat)).2.2) KL37.out ((Kd.R_reads' (Kd.R_after (ok := (fun _ => True)) (by (with_reducible repeat (first | apply Kd.R_alloc | apply Kd.R_drewN | apply Kd.R_drew)); exact HO_3.out) hg hat)).2.1))); replace HO_3 := aQ (Kd.R_after (ok := (fun _ => True)) (by (with_reducible repeat (first | apply Kd.R_alloc | apply Kd.R_drewN | apply Kd.R_drew)); exact HO_3.out) hg hat); have HO148035 := aQ (ho); clear HO148028; clear ho hb hg hat; have q39 : (x5_2 : Int) ≤ ((x3_1.length : Int) : Int) := of_decide_eq_true (by first | (with_reducible assumption) | assumption); obtain ⟨i039, hi039, _, hsz39, _⟩ := info_parts info3; have hcut39 := cut_to (P := Try.prog) 22 3 .i64 Try.underlying22 hi039 Ao5 x3_1.length co5 x5_2 (of_decide_eq_true (by first | (with_reducible assumption) | assumption)) q39 (Kd.R_reads' HO_3.out).2.1; have hr39 := Kd.R_take (m := (x5_2 : Int).toNat) HO_3.out (by omega); have hy39 : y148036.length = (x5_2 : Int).toNat := (by rw [Ny148036.out, List.length_take]; omega); rw [← Ny148036.out] at hr39; rw [← hy39] at hr39 hcut39; clear hy39 hi039 hsz39 HO_3; have HO148038 := aQ hr39; clear hr39; replace q39 := eq_true q39) | ((with_reducible refine gate_builtin (b := .append) (xs := #[.tmp 42, .tmp 44]) rfl ?_); at_builtin; refine Kd.R_append (Kd.int .i64) (w0 := w) w.heap.size rfl (.tmp 42) (.tmp 44) 22 3 (.int .i64 0) 8 rfl Try.underlying22 info3 rfl (by decide) (by omega) (.slice Ao5 y148036.length co5) y148036 x4_1 [.int .i64 x4_1] (fun k_ => some k_ ≠ (v148034 : Value).ownBlock) (fun _ => False) rfl rfl ?aP (fun _ hk => hk.elim) ?aF ?aO ?aB ?aS ?aL ?_; (case aP => exact rfl); (case aB => exact (by repeat (first | (with_reducible first | exact HB.out | apply below_alloc | apply pw_below_drewN | apply below_drew1) | exact HB.out))); (case aF => exact (fun k_ hk => Kd.fresh' (Kd.R_lt (by (with_reducible repeat (first | apply Kd.R_alloc | apply Kd.R_drewN | apply Kd.R_drew)); exact HO148035.out)) k_ hk)); (case aO => exact (by (with_reducible repeat (first | apply Kd.R_alloc | apply Kd.R_drewN | apply Kd.R_drew)); exact Kd.R_mono HO148038.out (fun _ hk => hk.2))); (case aS => exact (below_size (by repeat (first | (with_reducible first | exact HB.out | apply below_alloc | apply pw_below_drewN | apply below_drew1) | exact HB.out)))); (case aL => have := LMc33.out; omega); intro v148040 w40 ho hb hg hat; rw [← Ny148039.out] at ho; replace HO148035 := aQ (Kd.R_after (ok := (fun _ => True)) (by (with_reducible repeat (first | apply Kd.R_alloc | apply Kd.R_drewN | apply Kd.R_drew)); exact Kd.R_mono HO148035.out (fun _ hk => ⟨trivial, by first | exact hk | exact fun h_ => hk (h_.trans (ob_len _ _ _ _))⟩)) hg hat); replace HB := aQ (hb); have HO148041 := aQ (ho); clear HO148038; clear ho hb hg hat; obtain ⟨Ao42, co42, eo42⟩ := Kd.R_slice HO148035.out; subst eo42) | ((with_reducible refine gate_builtin (b := .append) (xs := #[.tmp 45, .tmp 46]) rfl ?_); at_builtin; refine Kd.R_append_rows (Kd.int .i64) (w0 := w) w.heap.size rfl (.tmp 45) (.tmp 46) 22 3 (.int .i64 0) 8 rfl Try.underlying22 info3 rfl (by decide) (by omega) v148040 y148039 y148033 _ _ _ (fun k_ => some k_ ≠ (.slice Ao42 y148033.length co42 : Value).ownBlock) (fun _ => False) rfl rfl ?aO ?aR (fun _ _ h => h) (fun _ h => h.elim) ?aF ?aB ?aS ?aL ?_; (case aR => repeat (first | exact (Kd.R_reads' HO148035.out).2.2 | (with_reducible refine Kd.C_alloc ?_ _) | (with_reducible refine Kd.C_drewN ?_ _) | (with_reducible refine Kd.C_drew ?_))); (case aB => exact (by repeat (first | (with_reducible first | exact HB.out | apply below_alloc | apply pw_below_drewN | apply below_drew1) | exact HB.out))); (case aF => exact (fun k_ hk => Kd.fresh' (Kd.R_lt (by (with_reducible repeat (first | apply Kd.R_alloc | apply Kd.R_drewN | apply Kd.R_drew)); exact HO148035.out)) k_ hk)); (case aO => exact (by (with_reducible repeat (first | apply Kd.R_alloc | apply Kd.R_drewN | apply Kd.R_drew)); exact HO148041.out)); (case aS => exact (below_size (by repeat (first | (with_reducible first | exact HB.out | apply below_alloc | apply pw_below_drewN | apply below_drew1) | exact HB.out)))); (case aL => have := LMc34.out; omega); intro v148043 w41 ho hb hg hat; rw [← Ny148042.out] at ho; replace HO148035 := aQ (Kd.R_after (ok := (fun _ => True)) (by (with_reducible repeat (first | apply Kd.R_alloc | apply Kd.R_drewN | apply Kd.R_drew)); exact HO148035.out) hg hat); replace HB := aQ (hb); have HO148044 := aQ (ho); clear HO148041; clear ho hb hg hat))
            repeat (go_quiet (first | ((with_reducible refine gate_dst (N := 35) rfl ?_); refine Kd.R_lit (Kd.int .i64) _ 3 ?hg (N := 35) ?hd (xs := ([] : List Int)) (inner := []) (ok := fun _ => True) (okp := fun _ => True) ?hr ?hp (fun _ hk => hk) trivial (Below.refl _ _) (Nat.le_refl _) (by simp) ?_; (case hd => rfl); (case hg => rfl); (case hr => first | (go_simp; done) | (go_simp; rfl)); (case hp => exact (Reps.none _ _)); intro v148027 w35 ho36 hb hg_ hnew_; clear hg_ hnew_; (first | rw [← Ny148026.out] at ho36 | (simp only [Int.reduceToNat] at ho36; rw [← Ny148026.out] at ho36)); have HO148028 := aQ (Kd.R_lower (Kd.R_new' ho36 (Kd.R_lt (by (with_reducible repeat (first | apply Kd.R_alloc | apply Kd.R_drewN | apply Kd.R_drew)); exact HO_3.out))) (below_size (by repeat (first | (with_reducible first | exact HB.out | apply below_alloc | apply pw_below_drewN | apply below_drew1) | exact HB.out)))); replace HO_3 := aQ (Kd.R_elder' (by (with_reducible repeat (first | apply Kd.R_alloc | apply Kd.R_drewN | apply Kd.R_drew)); exact HO_3.out) (Kd.R_base ho36) hb); replace HB := aQ (below_step (by repeat (first | (with_reducible first | exact HB.out | apply below_alloc | apply pw_below_drewN | apply below_drew1) | exact HB.out)) hb); clear hb ho36; have q37 : (x5_2 : Int) ≤ ((x3_1.length : Int) : Int) := of_decide_eq_true (by first | (with_reducible assumption) | assumption); obtain ⟨i037, hi037, _, hsz37, _⟩ := info_parts info3; have hroom37 : x3_1.length ≤ co5 := (Kd.R_reads' HO_3.out).2.1; have hC37 : Kd.C (Kd.int .i64) _ Ao5 x3_1.length x3_1 := (Kd.R_reads' HO_3.out).2.2; have q037 : (0 : Int) ≤ (x5_2 : Int) := of_decide_eq_true (by first | (with_reducible assumption) | assumption); have hcut37 := cut_from (P := Try.prog) 22 3 .i64 Try.underlying22 hi037 1 hsz37 Ao5 x3_1.length co5 x5_2 q037 q37; have hr37 := Kd.C_drop (m := (x5_2 : Int).toNat) (c := co5) hC37 (by omega) hroom37; obtain ⟨A37, hA37⟩ : ∃ A1, A1 = (if co5 = (x5_2 : Int).toNat then Ao5 else (Ao5 : Option Addr).map (·.add ((x5_2 : Int).toNat * 1))) := ⟨_, rfl⟩; obtain ⟨c37, hc37⟩ : ∃ c1, c1 = co5 - (x5_2 : Int).toNat := ⟨_, rfl⟩; have hy37 : y148029.length = x3_1.length - (x5_2 : Int).toNat := (by rw [Ny148029.out, List.length_drop] <;> omega); rw [show (x3_1).drop (x5_2 : Int).toNat = y148029 from Ny148029.out.symm] at hr37; replace hr37 : Kd.C (Kd.int .i64) _ A37 y148029.length y148029 := (by rw [hA37]; exact hr37); rw [← hy37, ← hA37, ← hc37] at hcut37; have HR148032 := aQ hr37; have HC148032 := aQ (show y148029.length ≤ c37 from by rw [hy37, hc37]; exact Nat.sub_le_sub_right hroom37 _); clear hr37 hC37 hroom37 hi037 hsz37 hc37; have KY37 := aQ hy37; have KA37 := aQ hA37; clear hy37 hA37; have KL37 := aQ (show (x5_2 : Int).toNat ≤ x3_1.length from by omega); replace q37 := eq_true q37) | ((with_reducible refine gate_builtin (b := .append) (xs := #[.tmp 35, .tmp 38]) rfl ?_); at_builtin; refine Kd.R_append_rows (Kd.int .i64) (w0 := w) w.heap.size rfl (.tmp 35) (.tmp 38) 22 3 (.int .i64 0) 8 rfl Try.underlying22 info3 rfl (by decide) (by omega) v148027 y148026 y148029 _ _ _ (fun k_ => some k_ ≠ (.slice Ao5 x3_1.length co5 : Value).ownBlock) (fun _ => False) rfl rfl ?aO ?aR (fun _ _ h => h) (fun _ h => h.elim) ?aF ?aB ?aS ?aL ?_; (case aR => repeat (first | exact (by repeat (first | (with_reducible exact HR148032.out) | (with_reducible refine Kd.C_alloc ?_ _) | (with_reducible refine Kd.C_drewN ?_ _) | (with_reducible refine Kd.C_drew ?_) | exact HR148032.out)) | (with_reducible refine Kd.C_alloc ?_ _) | (with_reducible refine Kd.C_drewN ?_ _) | (with_reducible refine Kd.C_drew ?_))); (case aB => exact (by repeat (first | (with_reducible first | exact HB.out | apply below_alloc | apply pw_below_drewN | apply below_drew1) | exact HB.out))); (case aF => exact (fun k_ hk => Kd.fresh' (Kd.R_lt (by (with_reducible repeat (first | apply Kd.R_alloc | apply Kd.R_drewN | apply Kd.R_drew)); exact HO_3.out)) k_ hk)); (case aO => exact (by (with_reducible repeat (first | apply Kd.R_alloc | apply Kd.R_drewN | apply Kd.R_drew)); exact Kd.R_mono HO148028.out (fun _ hk => hk.2))); (case aS => exact (below_size (by repeat (first | (with_reducible first | exact HB.out | apply below_alloc | apply pw_below_drewN | apply below_drew1) | exact HB.out)))); (case aL => have := LMc31.out; omega); intro v148034 w38 ho hb hg hat; rw [← Ny148033.out] at ho; replace HB := aQ (hb); replace HR148032 := aQ ((show Kd.C (Kd.int .i64) w38 A37 y148029.length y148029 from by rw [Ny148029.out, KA37.out]; exact Kd.C_drop (m := (x5_2 : Int).toNat) (c := co5) ((Kd.R_reads' (Kd.R_after (ok := (fun _ => True)) (by (with_reducible repeat (first | apply Kd.R_alloc | apply Kd.R_drewN | apply Kd.R_drew)); exact HO_3.out) hg hat)).2.2) KL37.out ((Kd.R_reads' (Kd.R_after (ok := (fun _ => True)) (by (with_reducible repeat (first | apply Kd.R_alloc | apply Kd.R_drewN | apply Kd.R_drew)); exact HO_3.out) hg hat)).2.1))); replace HO_3 := aQ (Kd.R_after (ok := (fun _ => True)) (by (with_reducible repeat (first | apply Kd.R_alloc | apply Kd.R_drewN | apply Kd.R_drew)); exact HO_3.out) hg hat); have HO148035 := aQ (ho); clear HO148028; clear ho hb hg hat; have q39 : (x5_2 : Int) ≤ ((x3_1.length : Int) : Int) := of_decide_eq_true (by first | (with_reducible assumption) | assumption); obtain ⟨i039, hi039, _, hsz39, _⟩ := info_parts info3; have hcut39 := cut_to (P := Try.prog) 22 3 .i64 Try.underlying22 hi039 Ao5 x3_1.length co5 x5_2 (of_decide_eq_true (by first | (with_reducible assumption) | assumption)) q39 (Kd.R_reads' HO_3.out).2.1; have hr39 := Kd.R_take (m := (x5_2 : Int).toNat) HO_3.out (by omega); have hy39 : y148036.length = (x5_2 : Int).toNat := (by rw [Ny148036.out, List.length_take]; omega); rw [← Ny148036.out] at hr39; rw [← hy39] at hr39 hcut39; clear hy39 hi039 hsz39 HO_3; have HO148038 := aQ hr39; clear hr39; replace q39 := eq_true q39) | ((with_reducible refine gate_builtin (b := .append) (xs := #[.tmp 42, .tmp 44]) rfl ?_); at_builtin; refine Kd.R_append (Kd.int .i64) (w0 := w) w.heap.size rfl (.tmp 42) (.tmp 44) 22 3 (.int .i64 0) 8 rfl Try.underlying22 info3 rfl (by decide) (by omega) (.slice Ao5 y148036.length co5) y148036 x4_1 [.int .i64 x4_1] (fun k_ => some k_ ≠ (v148034 : Value).ownBlock) (fun _ => False) rfl rfl ?aP (fun _ hk => hk.elim) ?aF ?aO ?aB ?aS ?aL ?_; (case aP => exact rfl); (case aB => exact (by repeat (first | (with_reducible first | exact HB.out | apply below_alloc | apply pw_below_drewN | apply below_drew1) | exact HB.out))); (case aF => exact (fun k_ hk => Kd.fresh' (Kd.R_lt (by (with_reducible repeat (first | apply Kd.R_alloc | apply Kd.R_drewN | apply Kd.R_drew)); exact HO148035.out)) k_ hk)); (case aO => exact (by (with_reducible repeat (first | apply Kd.R_alloc | apply Kd.R_drewN | apply Kd.R_drew)); exact Kd.R_mono HO148038.out (fun _ hk => hk.2))); (case aS => exact (below_size (by repeat (first | (with_reducible first | exact HB.out | apply below_alloc | apply pw_below_drewN | apply below_drew1) | exact HB.out)))); (case aL => have := LMc33.out; omega); intro v148040 w40 ho hb hg hat; rw [← Ny148039.out] at ho; replace HO148035 := aQ (Kd.R_after (ok := (fun _ => True)) (by (with_reducible repeat (first | apply Kd.R_alloc | apply Kd.R_drewN | apply Kd.R_drew)); exact Kd.R_mono HO148035.out (fun _ hk => ⟨trivial, by first | exact hk | exact fun h_ => hk (h_.trans (ob_len _ _ _ _))⟩)) hg hat); replace HB := aQ (hb); have HO148041 := aQ (ho); clear HO148038; clear ho hb hg hat; obtain ⟨Ao42, co42, eo42⟩ := Kd.R_slice HO148035.out; subst eo42) | ((with_reducible refine gate_builtin (b := .append) (xs := #[.tmp 45, .tmp 46]) rfl ?_); at_builtin; refine Kd.R_append_rows (Kd.int .i64) (w0 := w) w.heap.size rfl (.tmp 45) (.tmp 46) 22 3 (.int .i64 0) 8 rfl Try.underlying22 info3 rfl (by decide) (by omega) v148040 y148039 y148033 _ _ _ (fun k_ => some k_ ≠ (.slice Ao42 y148033.length co42 : Value).ownBlock) (fun _ => False) rfl rfl ?aO ?aR (fun _ _ h => h) (fun _ h => h.elim) ?aF ?aB ?aS ?aL ?_; (case aR => repeat (first | exact (Kd.R_reads' HO148035.out).2.2 | (with_reducible refine Kd.C_alloc ?_ _) | (with_reducible refine Kd.C_drewN ?_ _) | (with_reducible refine Kd.C_drew ?_))); (case aB => exact (by repeat (first | (with_reducible first | exact HB.out | apply below_alloc | apply pw_below_drewN | apply below_drew1) | exact HB.out))); (case aF => exact (fun k_ hk => Kd.fresh' (Kd.R_lt (by (with_reducible repeat (first | apply Kd.R_alloc | apply Kd.R_drewN | apply Kd.R_drew)); exact HO148035.out)) k_ hk)); (case aO => exact (by (with_reducible repeat (first | apply Kd.R_alloc | apply Kd.R_drewN | apply Kd.R_drew)); exact HO148041.out)); (case aS => exact (below_size (by repeat (first | (with_reducible first | exact HB.out | apply below_alloc | apply pw_below_drewN | apply below_drew1) | exact HB.out)))); (case aL => have := LMc34.out; omega); intro v148043 w41 ho hb hg hat; rw [← Ny148042.out] at ho; replace HO148035 := aQ (Kd.R_after (ok := (fun _ => True)) (by (with_reducible repeat (first | apply Kd.R_alloc | apply Kd.R_drewN | apply Kd.R_drew)); exact HO148035.out) hg hat); replace HB := aQ (hb); have HO148044 := aQ (ho); clear HO148041; clear ho hb hg hat)); try go_wp2_with (first | ((with_reducible refine gate_dst (N := 35) rfl ?_); refine Kd.R_lit (Kd.int .i64) _ 3 ?hg (N := 35) ?hd (xs := ([] : List Int)) (inner := []) (ok := fun _ => True) (okp := fun _ => True) ?hr ?hp (fun _ hk => hk) trivial (Below.refl _ _) (Nat.le_refl _) (by simp) ?_; (case hd => rfl); (case hg => rfl); (case hr => first | (go_simp; done) | (go_simp; rfl)); (case hp => exact (Reps.none _ _)); intro v148027 w35 ho36 hb hg_ hnew_; clear hg_ hnew_; (first | rw [← Ny148026.out] at ho36 | (simp only [Int.reduceToNat] at ho36; rw [← Ny148026.out] at ho36)); have HO148028 := aQ (Kd.R_lower (Kd.R_new' ho36 (Kd.R_lt (by (with_reducible repeat (first | apply Kd.R_alloc | apply Kd.R_drewN | apply Kd.R_drew)); exact HO_3.out))) (below_size (by repeat (first | (with_reducible first | exact HB.out | apply below_alloc | apply pw_below_drewN | apply below_drew1) | exact HB.out)))); replace HO_3 := aQ (Kd.R_elder' (by (with_reducible repeat (first | apply Kd.R_alloc | apply Kd.R_drewN | apply Kd.R_drew)); exact HO_3.out) (Kd.R_base ho36) hb); replace HB := aQ (below_step (by repeat (first | (with_reducible first | exact HB.out | apply below_alloc | apply pw_below_drewN | apply below_drew1) | exact HB.out)) hb); clear hb ho36; have q37 : (x5_2 : Int) ≤ ((x3_1.length : Int) : Int) := of_decide_eq_true (by first | (with_reducible assumption) | assumption); obtain ⟨i037, hi037, _, hsz37, _⟩ := info_parts info3; have hroom37 : x3_1.length ≤ co5 := (Kd.R_reads' HO_3.out).2.1; have hC37 : Kd.C (Kd.int .i64) _ Ao5 x3_1.length x3_1 := (Kd.R_reads' HO_3.out).2.2; have q037 : (0 : Int) ≤ (x5_2 : Int) := of_decide_eq_true (by first | (with_reducible assumption) | assumption); have hcut37 := cut_from (P := Try.prog) 22 3 .i64 Try.underlying22 hi037 1 hsz37 Ao5 x3_1.length co5 x5_2 q037 q37; have hr37 := Kd.C_drop (m := (x5_2 : Int).toNat) (c := co5) hC37 (by omega) hroom37; obtain ⟨A37, hA37⟩ : ∃ A1, A1 = (if co5 = (x5_2 : Int).toNat then Ao5 else (Ao5 : Option Addr).map (·.add ((x5_2 : Int).toNat * 1))) := ⟨_, rfl⟩; obtain ⟨c37, hc37⟩ : ∃ c1, c1 = co5 - (x5_2 : Int).toNat := ⟨_, rfl⟩; have hy37 : y148029.length = x3_1.length - (x5_2 : Int).toNat := (by rw [Ny148029.out, List.length_drop] <;> omega); rw [show (x3_1).drop (x5_2 : Int).toNat = y148029 from Ny148029.out.symm] at hr37; replace hr37 : Kd.C (Kd.int .i64) _ A37 y148029.length y148029 := (by rw [hA37]; exact hr37); rw [← hy37, ← hA37, ← hc37] at hcut37; have HR148032 := aQ hr37; have HC148032 := aQ (show y148029.length ≤ c37 from by rw [hy37, hc37]; exact Nat.sub_le_sub_right hroom37 _); clear hr37 hC37 hroom37 hi037 hsz37 hc37; have KY37 := aQ hy37; have KA37 := aQ hA37; clear hy37 hA37; have KL37 := aQ (show (x5_2 : Int).toNat ≤ x3_1.length from by omega); replace q37 := eq_true q37) | ((with_reducible refine gate_builtin (b := .append) (xs := #[.tmp 35, .tmp 38]) rfl ?_); at_builtin; refine Kd.R_append_rows (Kd.int .i64) (w0 := w) w.heap.size rfl (.tmp 35) (.tmp 38) 22 3 (.int .i64 0) 8 rfl Try.underlying22 info3 rfl (by decide) (by omega) v148027 y148026 y148029 _ _ _ (fun k_ => some k_ ≠ (.slice Ao5 x3_1.length co5 : Value).ownBlock) (fun _ => False) rfl rfl ?aO ?aR (fun _ _ h => h) (fun _ h => h.elim) ?aF ?aB ?aS ?aL ?_; (case aR => repeat (first | exact (by repeat (first | (with_reducible exact HR148032.out) | (with_reducible refine Kd.C_alloc ?_ _) | (with_reducible refine Kd.C_drewN ?_ _) | (with_reducible refine Kd.C_drew ?_) | exact HR148032.out)) | (with_reducible refine Kd.C_alloc ?_ _) | (with_reducible refine Kd.C_drewN ?_ _) | (with_reducible refine Kd.C_drew ?_))); (case aB => exact (by repeat (first | (with_reducible first | exact HB.out | apply below_alloc | apply pw_below_drewN | apply below_drew1) | exact HB.out))); (case aF => exact (fun k_ hk => Kd.fresh' (Kd.R_lt (by (with_reducible repeat (first | apply Kd.R_alloc | apply Kd.R_drewN | apply Kd.R_drew)); exact HO_3.out)) k_ hk)); (case aO => exact (by (with_reducible repeat (first | apply Kd.R_alloc | apply Kd.R_drewN | apply Kd.R_drew)); exact Kd.R_mono HO148028.out (fun _ hk => hk.2))); (case aS => exact (below_size (by repeat (first | (with_reducible first | exact HB.out | apply below_alloc | apply pw_below_drewN | apply below_drew1) | exact HB.out)))); (case aL => have := LMc31.out; omega); intro v148034 w38 ho hb hg hat; rw [← Ny148033.out] at ho; replace HB := aQ (hb); replace HR148032 := aQ ((show Kd.C (Kd.int .i64) w38 A37 y148029.length y148029 from by rw [Ny148029.out, KA37.out]; exact Kd.C_drop (m := (x5_2 : Int).toNat) (c := co5) ((Kd.R_reads' (Kd.R_after (ok := (fun _ => True)) (by (with_reducible repeat (first | apply Kd.R_alloc | apply Kd.R_drewN | apply Kd.R_drew)); exact HO_3.out) hg hat)).2.2) KL37.out ((Kd.R_reads' (Kd.R_after (ok := (fun _ => True)) (by (with_reducible repeat (first | apply Kd.R_alloc | apply Kd.R_drewN | apply Kd.R_drew)); exact HO_3.out) hg hat)).2.1))); replace HO_3 := aQ (Kd.R_after (ok := (fun _ => True)) (by (with_reducible repeat (first | apply Kd.R_alloc | apply Kd.R_drewN | apply Kd.R_drew)); exact HO_3.out) hg hat); have HO148035 := aQ (ho); clear HO148028; clear ho hb hg hat; have q39 : (x5_2 : Int) ≤ ((x3_1.length : Int) : Int) := of_decide_eq_true (by first | (with_reducible assumption) | assumption); obtain ⟨i039, hi039, _, hsz39, _⟩ := info_parts info3; have hcut39 := cut_to (P := Try.prog) 22 3 .i64 Try.underlying22 hi039 Ao5 x3_1.length co5 x5_2 (of_decide_eq_true (by first | (with_reducible assumption) | assumption)) q39 (Kd.R_reads' HO_3.out).2.1; have hr39 := Kd.R_take (m := (x5_2 : Int).toNat) HO_3.out (by omega); have hy39 : y148036.length = (x5_2 : Int).toNat := (by rw [Ny148036.out, List.length_take]; omega); rw [← Ny148036.out] at hr39; rw [← hy39] at hr39 hcut39; clear hy39 hi039 hsz39 HO_3; have HO148038 := aQ hr39; clear hr39; replace q39 := eq_true q39) | ((with_reducible refine gate_builtin (b := .append) (xs := #[.tmp 42, .tmp 44]) rfl ?_); at_builtin; refine Kd.R_append (Kd.int .i64) (w0 := w) w.heap.size rfl (.tmp 42) (.tmp 44) 22 3 (.int .i64 0) 8 rfl Try.underlying22 info3 rfl (by decide) (by omega) (.slice Ao5 y148036.length co5) y148036 x4_1 [.int .i64 x4_1] (fun k_ => some k_ ≠ (v148034 : Value).ownBlock) (fun _ => False) rfl rfl ?aP (fun _ hk => hk.elim) ?aF ?aO ?aB ?aS ?aL ?_; (case aP => exact rfl); (case aB => exact (by repeat (first | (with_reducible first | exact HB.out | apply below_alloc | apply pw_below_drewN | apply below_drew1) | exact HB.out))); (case aF => exact (fun k_ hk => Kd.fresh' (Kd.R_lt (by (with_reducible repeat (first | apply Kd.R_alloc | apply Kd.R_drewN | apply Kd.R_drew)); exact HO148035.out)) k_ hk)); (case aO => exact (by (with_reducible repeat (first | apply Kd.R_alloc | apply Kd.R_drewN | apply Kd.R_drew)); exact Kd.R_mono HO148038.out (fun _ hk => hk.2))); (case aS => exact (below_size (by repeat (first | (with_reducible first | exact HB.out | apply below_alloc | apply pw_below_drewN | apply below_drew1) | exact HB.out)))); (case aL => have := LMc33.out; omega); intro v148040 w40 ho hb hg hat; rw [← Ny148039.out] at ho; replace HO148035 := aQ (Kd.R_after (ok := (fun _ => True)) (by (with_reducible repeat (first | apply Kd.R_alloc | apply Kd.R_drewN | apply Kd.R_drew)); exact Kd.R_mono HO148035.out (fun _ hk => ⟨trivial, by first | exact hk | exact fun h_ => hk (h_.trans (ob_len _ _ _ _))⟩)) hg hat); replace HB := aQ (hb); have HO148041 := aQ (ho); clear HO148038; clear ho hb hg hat; obtain ⟨Ao42, co42, eo42⟩ := Kd.R_slice HO148035.out; subst eo42) | ((with_reducible refine gate_builtin (b := .append) (xs := #[.tmp 45, .tmp 46]) rfl ?_); at_builtin; refine Kd.R_append_rows (Kd.int .i64) (w0 := w) w.heap.size rfl (.tmp 45) (.tmp 46) 22 3 (.int .i64 0) 8 rfl Try.underlying22 info3 rfl (by decide) (by omega) v148040 y148039 y148033 _ _ _ (fun k_ => some k_ ≠ (.slice Ao42 y148033.length co42 : Value).ownBlock) (fun _ => False) rfl rfl ?aO ?aR (fun _ _ h => h) (fun _ h => h.elim) ?aF ?aB ?aS ?aL ?_; (case aR => repeat (first | exact (Kd.R_reads' HO148035.out).2.2 | (with_reducible refine Kd.C_alloc ?_ _) | (with_reducible refine Kd.C_drewN ?_ _) | (with_reducible refine Kd.C_drew ?_))); (case aB => exact (by repeat (first | (with_reducible first | exact HB.out | apply below_alloc | apply pw_below_drewN | apply below_drew1) | exact HB.out))); (case aF => exact (fun k_ hk => Kd.fresh' (Kd.R_lt (by (with_reducible repeat (first | apply Kd.R_alloc | apply Kd.R_drewN | apply Kd.R_drew)); exact HO148035.out)) k_ hk)); (case aO => exact (by (with_reducible repeat (first | apply Kd.R_alloc | apply Kd.R_drewN | apply Kd.R_drew)); exact HO148041.out)); (case aS => exact (below_size (by repeat (first | (with_reducible first | exact HB.out | apply below_alloc | apply pw_below_drewN | apply below_drew1) | exact HB.out)))); (case aL => have := LMc34.out; omega); intro v148043 w41 ho hb hg hat; rw [← Ny148042.out] at ho; replace HO148035 := aQ (Kd.R_after (ok := (fun _ => True)) (by (with_reducible repeat (first | apply Kd.R_alloc | apply Kd.R_drewN | apply Kd.R_drew)); exact HO148035.out) hg hat); replace HB := aQ (hb); have HO148044 := aQ (ho); clear HO148041; clear ho hb hg hat)))
            go_roundg k2
            case measure => have := HK1.out; have := HK2.out; omega
            case rel => exact ⟨(y148042), (wrap64 (x4_1 + 1)), (by first | rfl | (simp; done) | (simp [*]; done)), H', ⟨by have := HK1.out; have := HK2.out; omega⟩, ⟨by (with_reducible repeat (first | apply Kd.R_alloc | apply Kd.R_drewN | apply Kd.R_drew)); exact Kd.R_mono HO148044.out (fun _ hk => trivial)⟩, ⟨by repeat (first | (with_reducible first | exact HB.out | apply below_alloc | apply pw_below_drewN | apply below_drew1) | exact HB.out)⟩⟩
           ·rw [if_neg c34] at H
            exact absurd H (by simp)
          ·rw [if_neg c33] at H
           exact absurd H (by simp)
         ·rw [if_neg c31] at H
          exact absurd H (by simp)
        ·rw [if_neg c30] at H
         exact absurd H (by simp)
       ·rw [if_neg c29] at H
        exact absurd H (by simp)
   ·rw [if_neg c4] at H
    have c4b0 : decide (x4_1 < (l0.length : Int)) = false := decide_eq_false c4
    clear c4
    obtain rfl := Option.some.inj H
    go_wp2
    repeat (go_quiet (fail); try go_wp2)
    go_ret
    exact ⟨_, by first | rfl | (simp [errW_none, errW_some] <;> rfl) | (simp [*, errW_none, errW_some] <;> rfl), by (with_reducible repeat (first | apply Kd.R_alloc | apply Kd.R_drewN | apply Kd.R_drew)); exact HO_3.out, by repeat (first | (with_reducible first | exact HB.out | apply below_alloc | apply pw_below_drewN | apply below_drew1) | exact HB.out)⟩
end Go.Proofs.Ytagncnjllpebjaa.A
namespace Go.Proofs.Ytagncnjllpebjaa.A
open Go.RowKit Go.Proofs.YtagncnjllpebjaaW.PrintWords Go.Proofs.YtagncnjllpebjaaW.PrintLast Go.Proofs.YtagncnjllpebjaaW.PrintMore
attribute [local go_sem] max2_int min2_int max_two min_two max_three min_three max_four min_four
set_option linter.unusedVariables false
set_option linter.unusedSimpArgs false
/-! ### spec_l19Taken: function 85 -/
def spec_l19Taken.l0 : Nat → List Int → Int → List Int → Int → Int → List Int → Option (List Int)
 | 0, _, _, _, _, _, _ => none
 | k + 1, x5, x6, x7, x8, x86002000, x86002001 => if x8 < (x7.length : Int) then (if 0 ≤ x8 then (if 0 ≤ (IntKind.u64.wrap (rd x7 x8)) then ((spec_l5Rank.f k x86002000 x86002001 (Go.bits .or .i64 x6 (shl .i64 1 (IntKind.u64.wrap (rd x7 x8))))).bind fun t86009 => ((spec_CountOf.f k (Go.bits .or .i64 x6 (shl .i64 1 (IntKind.u64.wrap (rd x7 x8))))).bind fun t86010 => (if t86009 = t86010 then (if x5.length < 17592186044416 then (spec_l19Taken.l0 k (x5 ++ [rd x7 x8]) (Go.bits .or .i64 x6 (shl .i64 1 (IntKind.u64.wrap (rd x7 x8)))) x7 (wrap64 (x8 + 1)) x86002000 x86002001) else (none)) else (spec_l19Taken.l0 k x5 x6 x7 (wrap64 (x8 + 1)) x86002000 x86002001)))) else (none)) else (none)) else (some x5)
def spec_l19Taken.f (k : Nat) (a0_0 : Int) (l0_1 : List Int) (l1 : List Int) : Option (List Int) := (spec_l19Order.f k l1).bind fun t86005 => (spec_l19Taken.l0 k (([] : List Int)) 0 t86005 0 a0_0 l0_1)
theorem spec_l19Taken.mono_l : ∀ k, (∀ y0 y1 y2 y3 y4 y5, LeO (spec_l19Taken.l0 k y0 y1 y2 y3 y4 y5) (spec_l19Taken.l0 (k + 1) y0 y1 y2 y3 y4 y5))
 | 0 => fun _ _ _ _ _ _ r h => by simp [spec_l19Taken.l0] at h
 | k + 1 => by
  have ih0 := spec_l19Taken.mono_l k
  ·intro y0 y1 y2 y3 y4 y5
   unfold spec_l19Taken.l0
   repeat' first
   | (with_reducible exact ih0 _ _ _ _ _ _)
   | (with_reducible exact spec_CountOf.mono _ _)
   | (with_reducible exact spec_l19Order.mono _ _)
   | (with_reducible exact spec_l5Rank.mono _ _ _ _)
   | (with_reducible exact LeO.refl _)
   | (with_reducible exact LeO.none _)
   | (with_reducible refine LeO.ite ?_ ?_)
   | (with_reducible refine LeO.bind ?_ (fun _ => ?_))
   | exact ih0 _ _ _ _ _ _
   | exact spec_CountOf.mono _ _
   | exact spec_l19Order.mono _ _
   | exact spec_l5Rank.mono _ _ _ _
   | exact LeO.none _
   | refine LeO.ite ?_ ?_
   | refine LeO.bind ?_ (fun _ => ?_)
theorem spec_l19Taken.mono : ∀ a0 a1 a2 k, LeO (spec_l19Taken.f k a0 a1 a2) (spec_l19Taken.f (k + 1) a0 a1 a2) := by
 intro a0 a1 a2 k
 have ih0 := spec_l19Taken.mono_l k
 unfold spec_l19Taken.f
 repeat' first
   | (with_reducible exact ih0 _ _ _ _ _ _)
   | (with_reducible exact spec_CountOf.mono _ _)
   | (with_reducible exact spec_l19Order.mono _ _)
   | (with_reducible exact spec_l5Rank.mono _ _ _ _)
   | (with_reducible exact LeO.refl _)
   | (with_reducible exact LeO.none _)
   | (with_reducible refine LeO.ite ?_ ?_)
   | (with_reducible refine LeO.bind ?_ (fun _ => ?_))
   | exact ih0 _ _ _ _ _ _
   | exact spec_CountOf.mono _ _
   | exact spec_l19Order.mono _ _
   | exact spec_l5Rank.mono _ _ _ _
   | exact LeO.none _
   | refine LeO.ite ?_ ?_
   | refine LeO.bind ?_ (fun _ => ?_)
set_option maxHeartbeats 8000000 in
set_option maxRecDepth 100000 in
theorem spec_l19Taken.calls (k : Nat) (a0_0 : Int) (A0_1 : Option Addr) (c0_1 : Nat) (l0_1 : List Int) (A1 : Option Addr) (c1 : Nat) (l1 : List Int) (r : List Int) (w : World) (hr0_1 : Kd.C (Kd.int .i64) w A0_1 l0_1.length l0_1) (hc0_1 : l0_1.length ≤ c0_1) (hr1 : Kd.C (Kd.int .i64) w A1 l1.length l1) (hc1 : l1.length ≤ c1) (h : spec_l19Taken.f k a0_0 l0_1 l1 = some r) :
  Calls Try.prog 85 #[.agg #[.int .i64 a0_0, .slice A0_1 l0_1.length c0_1], .slice A1 l1.length c1] w fun e w' => ∃ v0_ : Value, e = .returned (v0_) ∧ Kd.R (Kd.int .i64) 3 w' w.heap.size (fun _ => True) v0_ r ∧ Below w.heap.size w w' := by
 have hu26 := Try.underlying26
 have HR0_1 := aQ hr0_1
 have HC0_1 := aQ hc0_1
 clear hr0_1 hc0_1
 have HR1 := aQ hr1
 have HC1 := aQ hc1
 clear hr1 hc1
 have HB := aQ (Below.refl w.heap.size w)
 have H : ((spec_l19Order.f k l1).bind fun t86005 => (spec_l19Taken.l0 k (([] : List Int)) 0 t86005 0 a0_0 l0_1)) = some r := h
 clear h
 obtain ⟨y86002, hy86002⟩ : ∃ y_ : List Int, y_ = (([] : List Int)) := ⟨_, rfl⟩
 replace H : ((spec_l19Order.f k l1).bind fun t86005 => (spec_l19Taken.l0 k y86002 0 t86005 0 a0_0 l0_1)) = some r := by first | (rw [hy86002]; with_reducible exact H) | (have H2_ := (Option.bind_some _ _).symm.trans H; rw [hy86002]; with_reducible exact H2_) | (have H2_ := (Option.bind_some _ _).symm.trans H; with_reducible exact H2_) | with_reducible exact H | (rw [hy86002]; exact H) | exact H
 have Ny86002 := aQ hy86002
 clear hy86002
 replace H := Option.bind_eq_some_iff.mp H
 obtain ⟨t86005, A30, H⟩ := H
 replace H : (spec_l19Taken.l0 k y86002 0 t86005 0 a0_0 l0_1) = some r := H
 have A3 := aQ A30
 clear A30
 have H' := aQ H
 clear H
 go_enter Try.func85, Try.ntmps85
 go_wp2_with (first | ((with_reducible refine gate_dst (N := 2) rfl ?_); refine box_event ?hg (N := 2) ?hd (cs := #[.int .i64 a0_0, .slice A0_1 l0_1.length c0_1]) (t := 26) ?hr ?_; (case hd => rfl); (case hg => rfl); (case hr => first | (go_simp; done) | (go_simp; rfl)); intro gb86001 hg w4 hbox hb; have BK86001 := aQ (hbox); have GW86001 := aQ ((by rw [hg]; exact (below_size (by repeat (first | (with_reducible first | exact HB.out | apply below_alloc | apply pw_below_drewN | apply below_drew1) | exact HB.out))) : w.heap.size ≤ gb86001)); have GE86001 := aQ ((by rw [hg]; exact (below_size (by repeat (first | (with_reducible first | exact HB.out | apply below_alloc | apply pw_below_drewN | apply below_drew1) | exact HB.out))) : w.heap.size ≤ gb86001)); replace HB := aQ (below_step (by repeat (first | (with_reducible first | exact HB.out | apply below_alloc | apply pw_below_drewN | apply below_drew1) | exact HB.out)) hb); clear hb hbox hg) | ((with_reducible refine gate_dst (N := 10) rfl ?_); refine Kd.R_lit (Kd.int .i64) _ 3 ?hg (N := 10) ?hd (xs := ([] : List Int)) (inner := []) (ok := fun _ => True) (okp := fun _ => True) ?hr ?hp (fun _ hk => hk) trivial (Below.refl _ _) (Nat.le_refl _) (by simp) ?_; (case hd => rfl); (case hg => rfl); (case hr => first | (go_simp; done) | (go_simp; rfl)); (case hp => exact (Reps.none _ _)); intro v86003 w5 ho6 hb hg_ hnew_; clear hg_ hnew_; (first | rw [← Ny86002.out] at ho6 | (simp only [Int.reduceToNat] at ho6; rw [← Ny86002.out] at ho6)); have HO86004 := aQ (Kd.R_lower ho6 (below_size (by repeat (first | (with_reducible first | exact HB.out | apply below_alloc | apply pw_below_drewN | apply below_drew1 | refine below_set ?_ GE86001.out) | exact HB.out)))); replace BK86001 := aQ (blk_below (g := gb86001) (o := .cells #[.int .i64 a0_0, .slice A0_1 l0_1.length c0_1] 26 (0, 0)) (by (with_reducible repeat (first | refine blk_drewN ?_ _ | refine blk_drew ?_ | refine blk_alloc ?_ _)); exact BK86001.out) hb); replace HB := aQ (below_step (by repeat (first | (with_reducible first | exact HB.out | apply below_alloc | apply pw_below_drewN | apply below_drew1 | refine below_set ?_ GE86001.out) | exact HB.out)) hb); clear hb ho6) | ((with_reducible refine gate_callee (f := 147) rfl ?_); refine goesL_ (some 12) rfl rfl Try.func147 (by kernel_rfl) rfl #[.slice A1 l1.length c1] rfl (by (try simp only [List.map_toArray, List.map_cons, List.map_nil]); first | done | rfl | (simp only [List.length_drop, List.length_take]; rfl)) ?_; (with_reducible refine (spec_l19Order.calls k _ _ l1 t86005 _ ?side1 ?side2 A3.out).mono ?_); (case side1 => repeat (first | exact (Kd.C_below HR1.out HB.out) | (with_reducible refine Kd.C_alloc ?_ _) | (with_reducible refine Kd.C_drewN ?_ _) | (with_reducible refine Kd.C_drew ?_))); (case side2 => exact HC1.out); rintro e w7 ⟨v86006, rfl, ho0, hb⟩; refine ⟨_, rfl, ?_⟩; have HO86007 := aQ (Kd.R_lower (Kd.R_new' ho0 (Kd.R_lt (by (with_reducible repeat (first | apply Kd.R_alloc | apply Kd.R_drewN | apply Kd.R_drew)); exact HO86004.out))) (below_size (by repeat (first | (with_reducible first | exact HB.out | apply below_alloc | apply pw_below_drewN | apply below_drew1 | refine below_set ?_ GE86001.out) | exact HB.out)))); replace HO86004 := aQ (Kd.R_elder' (by (with_reducible repeat (first | apply Kd.R_alloc | apply Kd.R_drewN | apply Kd.R_drew)); exact HO86004.out) (Kd.R_base ho0) hb); replace BK86001 := aQ (blk_below (g := gb86001) (o := .cells #[.int .i64 a0_0, .slice A0_1 l0_1.length c0_1] 26 (0, 0)) (by (with_reducible repeat (first | refine blk_drewN ?_ _ | refine blk_drew ?_ | refine blk_alloc ?_ _)); exact BK86001.out) hb); replace HB := aQ (below_step (by repeat (first | (with_reducible first | exact HB.out | apply below_alloc | apply pw_below_drewN | apply below_drew1 | refine below_set ?_ GE86001.out) | exact HB.out)) hb); (try clear hb); (try clear hb2); (try clear hk); (try clear hi); (try clear ho0)))
 go_loopg [5, 6, 8] k (fun kq v5 v6 v8 w' => ∃ (x5_1 : List Int) (x6_1 : Int) (x8_1 : Int), v6 = .int .i64 x6_1 ∧ v8 = .int .i64 x8_1 ∧ Aside0 (spec_l19Taken.l0 kq x5_1 x6_1 t86005 x8_1 a0_0 l0_1 = some r) ∧ Aside0 (kq ≤ k) ∧ Aside0 (Kd.R (Kd.int .i64) 3 w' w.heap.size (fun k_ => some k_ ≠ (v86006 : Value).ownBlock) v5 x5_1) ∧ Aside0 (Kd.R (Kd.int .i64) 3 w' w.heap.size (fun k_ => some k_ ≠ (v5 : Value).ownBlock) v86006 t86005) ∧ Aside0 (w'.heap[gb86001]? = some (.cells #[.int .i64 a0_0, (.slice A0_1 l0_1.length c0_1)] 26 (0, 0))) ∧ Aside0 (Below w.heap.size w w'))
 case atStart => exact ⟨(y86002), (0), (0), (by first | rfl | (simp; done) | (simp [*]; done)), (by first | rfl | (simp; done) | (simp [*]; done)), H', ⟨Nat.le_refl _⟩, ⟨by (with_reducible repeat (first | apply Kd.R_alloc | apply Kd.R_drewN | apply Kd.R_drew)); exact Kd.R_mono HO86004.out (fun _ hk => hk.2)⟩, ⟨by (with_reducible repeat (first | apply Kd.R_alloc | apply Kd.R_drewN | apply Kd.R_drew)); exact Kd.R_mono HO86007.out (fun _ hk => hk.2)⟩, ⟨by (with_reducible repeat (first | refine blk_drewN ?_ _ | refine blk_drew ?_ | refine blk_alloc ?_ _)); exact BK86001.out⟩, ⟨by repeat (first | (with_reducible first | exact HB.out | apply below_alloc | apply pw_below_drewN | apply below_drew1 | refine below_set ?_ GE86001.out) | exact HB.out)⟩⟩
 case round =>
  clear H'
  try clear c1
  try clear p2
  obtain ⟨x5_1, x6_1, x8_1, rfl, rfl, HA, HK1, HO_5, HO_7, BK86001, HB⟩ := hrel
  cases gk with
  | zero => exact absurd HA.out (by simp [spec_l19Taken.l0])
  | succ k1 =>
   have H := HA.out
   clear HA
   simp only [spec_l19Taken.l0] at H
   by_cases c8 : x8_1 < (t86005.length : Int)
   ·rw [if_pos c8] at H
    have c8b0 : decide (x8_1 < (t86005.length : Int)) = true := decide_eq_true c8
    clear c8
    by_cases c9 : 0 ≤ x8_1
    ·rw [if_pos c9] at H
     have c9b0 : decide (0 ≤ x8_1) = true := decide_eq_true c9
     clear c9
     obtain ⟨ji10, hji10⟩ : ∃ j_ : Int, (IntKind.u64.wrap (rd t86005 x8_1)) = j_ := ⟨_, rfl⟩
     replace H : (if 0 ≤ (ji10) then ((spec_l5Rank.f k1 a0_0 l0_1 (Go.bits .or .i64 x6_1 (shl .i64 1 (ji10)))).bind fun t86009 => ((spec_CountOf.f k1 (Go.bits .or .i64 x6_1 (shl .i64 1 (ji10)))).bind fun t86010 => (if t86009 = t86010 then (if x5_1.length < 17592186044416 then (spec_l19Taken.l0 k1 (x5_1 ++ [rd t86005 x8_1]) (Go.bits .or .i64 x6_1 (shl .i64 1 (ji10))) t86005 (wrap64 (x8_1 + 1)) a0_0 l0_1) else (none)) else (spec_l19Taken.l0 k1 x5_1 x6_1 t86005 (wrap64 (x8_1 + 1)) a0_0 l0_1)))) else (none)) = some r := by first | (rw [hji10] at H; exact H) | (simp only [hji10] at H ⊢; exact H)
     by_cases c11 : 0 ≤ (ji10)
     ·rw [if_pos c11] at H
      have c11b0 := eq_true c11
      have c11b1 : decide (0 ≤ (ji10)) = true := decide_eq_true c11
      clear c11
      obtain ⟨ji12, hji12⟩ : ∃ j_ : Int, (shl .i64 1 (ji10)) = j_ := ⟨_, rfl⟩
      replace H : ((spec_l5Rank.f k1 a0_0 l0_1 (Go.bits .or .i64 x6_1 (ji12))).bind fun t86009 => ((spec_CountOf.f k1 (Go.bits .or .i64 x6_1 (ji12))).bind fun t86010 => (if t86009 = t86010 then (if x5_1.length < 17592186044416 then (spec_l19Taken.l0 k1 (x5_1 ++ [rd t86005 x8_1]) (Go.bits .or .i64 x6_1 (ji12)) t86005 (wrap64 (x8_1 + 1)) a0_0 l0_1) else (none)) else (spec_l19Taken.l0 k1 x5_1 x6_1 t86005 (wrap64 (x8_1 + 1)) a0_0 l0_1)))) = some r := by first | (rw [hji12] at H; exact H) | (simp only [hji12] at H ⊢; exact H)
      have hji12_ : (IntKind.i64.wrap (1 * 2 ^ min (ji10).toNat 64)) = ji12 := hji12
      have hji12z : (ji10) ≤ 64 → (IntKind.i64.wrap (1 * 2 ^ (ji10).toNat)) = ji12 := shl_small hji12
      have hji12u : (IntKind.i64.wrap (2 ^ min (ji10).toNat 64)) = ji12 := by have h_ := hji12_; rw [Int.one_mul] at h_; exact h_
      have hji12v : (ji10) ≤ 64 → (IntKind.i64.wrap (2 ^ (ji10).toNat)) = ji12 := fun hle_ => by have h_ := hji12z hle_; rw [Int.one_mul] at h_; exact h_
      have hji12y : (wrap64 (1 * 2 ^ min (ji10).toNat 64)) = ji12 := (i64_w _).symm.trans hji12_
      have hji12x : (ji10) ≤ 64 → (wrap64 (1 * 2 ^ (ji10).toNat)) = ji12 := fun h_ => (i64_w _).symm.trans (hji12z h_)
      replace H := Option.bind_eq_some_iff.mp H
      obtain ⟨t86009, A130, H⟩ := H
      replace H : ((spec_CountOf.f k1 (Go.bits .or .i64 x6_1 (ji12))).bind fun t86010 => (if t86009 = t86010 then (if x5_1.length < 17592186044416 then (spec_l19Taken.l0 k1 (x5_1 ++ [rd t86005 x8_1]) (Go.bits .or .i64 x6_1 (ji12)) t86005 (wrap64 (x8_1 + 1)) a0_0 l0_1) else (none)) else (spec_l19Taken.l0 k1 x5_1 x6_1 t86005 (wrap64 (x8_1 + 1)) a0_0 l0_1))) = some r := H
      have A13 := aQ A130
      clear A130
      replace H := Option.bind_eq_some_iff.mp H
      obtain ⟨t86010, A140, H⟩ := H
      replace H : (if t86009 = t86010 then (if x5_1.length < 17592186044416 then (spec_l19Taken.l0 k1 (x5_1 ++ [rd t86005 x8_1]) (Go.bits .or .i64 x6_1 (ji12)) t86005 (wrap64 (x8_1 + 1)) a0_0 l0_1) else (none)) else (spec_l19Taken.l0 k1 x5_1 x6_1 t86005 (wrap64 (x8_1 + 1)) a0_0 l0_1)) = some r := H
      have A14 := aQ A140
      clear A140
      by_cases c15 : t86009 = t86010
      ·rw [if_pos c15] at H
       have c15b0 : (t86009 == t86010) = true := beq_iff_eq.mpr c15
       have c15b1 : (t86009 != t86010) = false := bne_eq_false_iff_eq.mpr c15
       clear c15
       by_cases c16 : x5_1.length < 17592186044416
       ·rw [if_pos c16] at H
        have LMc16 := aQ c16
        clear c16
        obtain ⟨y86012, hy86012⟩ : ∃ y_ : List Int, y_ = (x5_1 ++ [rd t86005 x8_1]) := ⟨_, rfl⟩
        replace H : (spec_l19Taken.l0 k1 y86012 (Go.bits .or .i64 x6_1 (ji12)) t86005 (wrap64 (x8_1 + 1)) a0_0 l0_1) = some r := by first | (rw [hy86012]; with_reducible exact H) | (have H2_ := (Option.bind_some _ _).symm.trans H; rw [hy86012]; with_reducible exact H2_) | (have H2_ := (Option.bind_some _ _).symm.trans H; with_reducible exact H2_) | with_reducible exact H | (rw [hy86012]; exact H) | exact H
        have Ny86012 := aQ hy86012
        clear hy86012
        have H' := aQ H
        clear H
        obtain ⟨Ao17, co17, eo17⟩ := Kd.R_slice HO_7.out
        subst eo17
        have p86008 : 0 ≤ (x8_1 : Int) := of_decide_eq_true (by first | (with_reducible assumption) | assumption)
        have q86008 : x8_1 < (t86005.length : Int) := of_decide_eq_true (by first | (with_reducible assumption) | assumption)
        obtain ⟨ad86008, e86008, hx86008_0⟩ := Kd.at_int (Kd.R_reads' HO_7.out).2.2 x8_1 p86008 q86008
        cases e86008
        replace p86008 := eq_true p86008
        replace q86008 := eq_true q86008
        have hcz18_0 : wr.cell? ⟨gb86001, 0, none⟩ = some (.int .i64 a0_0) := (blk_cell BK86001.out 0).trans rfl
        have hcz18_1 : wr.cell? ⟨gb86001, 1, none⟩ = some (.slice A0_1 l0_1.length c0_1) := (blk_cell BK86001.out 1).trans rfl
        have hfz18_0 := blk_frozen BK86001.out 0
        have hfz18_1 := blk_frozen BK86001.out 1
        go_wp2_with (first | ((with_reducible refine gate_callee (f := 59) rfl ?_); refine goesL_ (some 29) rfl rfl Try.func59 (by kernel_rfl) rfl #[.agg #[.int .i64 a0_0, .slice A0_1 l0_1.length c0_1], .int .i64 (Go.bits .or .i64 x6_1 (ji12))] rfl (by (try simp only [List.map_toArray, List.map_cons, List.map_nil]); first | done | (simp only [hji12]; rfl) | rfl | (simp only [List.length_drop, List.length_take]; rfl)) ?_; (with_reducible refine (spec_l5Rank.calls k1 a0_0 _ _ l0_1 (Go.bits .or .i64 x6_1 (ji12)) t86009 _ ?side1 ?side2 A13.out).mono ?_); (case side1 => repeat (first | exact (Kd.C_below HR0_1.out HB.out) | (with_reducible refine Kd.C_alloc ?_ _) | (with_reducible refine Kd.C_drewN ?_ _) | (with_reducible refine Kd.C_drew ?_))); (case side2 => exact HC0_1.out); rintro e w19 ⟨rfl, hb⟩; refine ⟨_, rfl, ?_⟩; replace HO_5 := aQ (Kd.R_below (by (with_reducible repeat (first | apply Kd.R_alloc | apply Kd.R_drewN | apply Kd.R_drew)); exact HO_5.out) hb); replace HO_7 := aQ (Kd.R_below (by (with_reducible repeat (first | apply Kd.R_alloc | apply Kd.R_drewN | apply Kd.R_drew)); exact HO_7.out) hb); replace BK86001 := aQ (blk_below (g := gb86001) (o := .cells #[.int .i64 a0_0, .slice A0_1 l0_1.length c0_1] 26 (0, 0)) (by (with_reducible repeat (first | refine blk_drewN ?_ _ | refine blk_drew ?_ | refine blk_alloc ?_ _)); exact BK86001.out) hb); replace HB := aQ (below_step (by repeat (first | (with_reducible first | exact HB.out | apply below_alloc | apply pw_below_drewN | apply below_drew1 | refine below_set ?_ GE86001.out) | exact HB.out)) hb); (try clear hb); (try clear hb2); (try clear hk); (try clear hi)) | ((with_reducible refine gate_callee (f := 58) rfl ?_); refine goesL_ (some 31) rfl rfl Try.func58 (by kernel_rfl) rfl #[.int .i64 (Go.bits .or .i64 x6_1 (ji12))] rfl (by (try simp only [List.map_toArray, List.map_cons, List.map_nil]); first | done | (simp only [hji12]; rfl) | rfl | (simp only [List.length_drop, List.length_take]; rfl)) ?_; (with_reducible refine (spec_CountOf.calls k1 (Go.bits .or .i64 x6_1 (ji12)) t86010 _ A14.out).mono ?_); rintro e w' ⟨rfl, ⟨nd, rfl⟩⟩; refine ⟨_, rfl, ?_⟩; have p86011 : 0 ≤ (x8_1 : Int) := of_decide_eq_true (by first | (with_reducible assumption) | assumption); have q86011 : x8_1 < (t86005.length : Int) := of_decide_eq_true (by first | (with_reducible assumption) | assumption); obtain ⟨ad86011, e86011, hx86011_0⟩ := Kd.at_int (Kd.R_reads' HO_7.out).2.2 x8_1 p86011 q86011; obtain rfl : ad86008 = ad86011 := (by injection e86011); replace p86011 := eq_true p86011; replace q86011 := eq_true q86011) | ((with_reducible refine gate_builtin (b := .append) (xs := #[.tmp 34, .tmp 39]) rfl ?_); at_builtin; refine Kd.R_append (Kd.int .i64) (w0 := w) w.heap.size rfl (.tmp 34) (.tmp 39) 22 3 (.int .i64 0) 8 rfl Try.underlying22 info3 rfl (by decide) (by omega) u5 x5_1 (rd t86005 x8_1) [.int .i64 (rd t86005 x8_1)] (fun k_ => some k_ ≠ (.slice (some ad86008) t86005.length co17 : Value).ownBlock) (fun _ => False) rfl rfl ?aP (fun _ hk => hk.elim) ?aF ?aO ?aB ?aS ?aL ?_; (case aP => exact rfl); (case aB => exact (by repeat (first | (with_reducible first | exact HB.out | apply below_alloc | apply pw_below_drewN | apply below_drew1 | refine below_set ?_ GE86001.out) | exact HB.out))); (case aF => exact (fun k_ hk => Kd.fresh' (Kd.R_lt (by (with_reducible repeat (first | apply Kd.R_alloc | apply Kd.R_drewN | apply Kd.R_drew)); exact HO_7.out)) k_ hk)); (case aO => exact (by (with_reducible repeat (first | apply Kd.R_alloc | apply Kd.R_drewN | apply Kd.R_drew)); exact HO_5.out)); (case aS => exact (below_size (by repeat (first | (with_reducible first | exact HB.out | apply below_alloc | apply pw_below_drewN | apply below_drew1 | refine below_set ?_ GE86001.out) | exact HB.out)))); (case aL => have := LMc16.out; omega); intro v86013 w20 ho hb hg hat; rw [← Ny86012.out] at ho; replace HO_7 := aQ (Kd.R_after (ok := (fun _ => True)) (by (with_reducible repeat (first | apply Kd.R_alloc | apply Kd.R_drewN | apply Kd.R_drew)); exact Kd.R_mono HO_7.out (fun _ hk => ⟨trivial, hk⟩)) hg hat); replace BK86001 := aQ (blk_grown (g := gb86001) (o := .cells #[.int .i64 a0_0, .slice A0_1 l0_1.length c0_1] 26 (0, 0)) (by (with_reducible repeat (first | refine blk_drewN ?_ _ | refine blk_drew ?_ | refine blk_alloc ?_ _)); exact BK86001.out) hg (Kd.R_ne HO_5.out BK86001.out (by decide))); replace HB := aQ (hb); have HO86014 := aQ (ho); clear HO_5; clear ho hb hg hat))
        go_roundg k1
        case measure => have := HK1.out; omega
        case rel => exact ⟨(y86012), (Go.bits .or .i64 x6_1 (ji12)), (wrap64 (x8_1 + 1)), (by first | rfl | (simp; done) | (simp only [← hji12] <;> (first | rfl | simp)) | (simp [*]; done)), (by first | rfl | (simp; done) | (simp [*]; done)), H', ⟨by have := HK1.out; omega⟩, ⟨by (with_reducible repeat (first | apply Kd.R_alloc | apply Kd.R_drewN | apply Kd.R_drew)); exact HO86014.out⟩, ⟨by (with_reducible repeat (first | apply Kd.R_alloc | apply Kd.R_drewN | apply Kd.R_drew)); exact Kd.R_mono HO_7.out (fun _ hk => hk.2)⟩, ⟨by (with_reducible repeat (first | refine blk_drewN ?_ _ | refine blk_drew ?_ | refine blk_alloc ?_ _)); exact BK86001.out⟩, ⟨by repeat (first | (with_reducible first | exact HB.out | apply below_alloc | apply pw_below_drewN | apply below_drew1 | refine below_set ?_ GE86001.out) | exact HB.out)⟩⟩
       ·rw [if_neg c16] at H
        exact absurd H (by simp)
      ·rw [if_neg c15] at H
       have c15b0 : (t86009 == t86010) = false := beq_eq_false_iff_ne.mpr c15
       have c15b1 : (t86009 != t86010) = true := bne_iff_ne.mpr c15
       have H' := aQ H
       clear H
       obtain ⟨Ao21, co21, eo21⟩ := Kd.R_slice HO_7.out
       subst eo21
       have p86008 : 0 ≤ (x8_1 : Int) := of_decide_eq_true (by first | (with_reducible assumption) | assumption)
       have q86008 : x8_1 < (t86005.length : Int) := of_decide_eq_true (by first | (with_reducible assumption) | assumption)
       obtain ⟨ad86008, e86008, hx86008_0⟩ := Kd.at_int (Kd.R_reads' HO_7.out).2.2 x8_1 p86008 q86008
       cases e86008
       replace p86008 := eq_true p86008
       replace q86008 := eq_true q86008
       have hcz22_0 : wr.cell? ⟨gb86001, 0, none⟩ = some (.int .i64 a0_0) := (blk_cell BK86001.out 0).trans rfl
       have hcz22_1 : wr.cell? ⟨gb86001, 1, none⟩ = some (.slice A0_1 l0_1.length c0_1) := (blk_cell BK86001.out 1).trans rfl
       have hfz22_0 := blk_frozen BK86001.out 0
       have hfz22_1 := blk_frozen BK86001.out 1
       go_wp2_with (first | ((with_reducible refine gate_callee (f := 59) rfl ?_); refine goesL_ (some 29) rfl rfl Try.func59 (by kernel_rfl) rfl #[.agg #[.int .i64 a0_0, .slice A0_1 l0_1.length c0_1], .int .i64 (Go.bits .or .i64 x6_1 (ji12))] rfl (by (try simp only [List.map_toArray, List.map_cons, List.map_nil]); first | done | (simp only [hji12]; rfl) | rfl | (simp only [List.length_drop, List.length_take]; rfl)) ?_; (with_reducible refine (spec_l5Rank.calls k1 a0_0 _ _ l0_1 (Go.bits .or .i64 x6_1 (ji12)) t86009 _ ?side1 ?side2 A13.out).mono ?_); (case side1 => repeat (first | exact (Kd.C_below HR0_1.out HB.out) | (with_reducible refine Kd.C_alloc ?_ _) | (with_reducible refine Kd.C_drewN ?_ _) | (with_reducible refine Kd.C_drew ?_))); (case side2 => exact HC0_1.out); rintro e w23 ⟨rfl, hb⟩; refine ⟨_, rfl, ?_⟩; replace HO_5 := aQ (Kd.R_below (by (with_reducible repeat (first | apply Kd.R_alloc | apply Kd.R_drewN | apply Kd.R_drew)); exact HO_5.out) hb); replace HO_7 := aQ (Kd.R_below (by (with_reducible repeat (first | apply Kd.R_alloc | apply Kd.R_drewN | apply Kd.R_drew)); exact HO_7.out) hb); replace BK86001 := aQ (blk_below (g := gb86001) (o := .cells #[.int .i64 a0_0, .slice A0_1 l0_1.length c0_1] 26 (0, 0)) (by (with_reducible repeat (first | refine blk_drewN ?_ _ | refine blk_drew ?_ | refine blk_alloc ?_ _)); exact BK86001.out) hb); replace HB := aQ (below_step (by repeat (first | (with_reducible first | exact HB.out | apply below_alloc | apply pw_below_drewN | apply below_drew1 | refine below_set ?_ GE86001.out) | exact HB.out)) hb); (try clear hb); (try clear hb2); (try clear hk); (try clear hi)) | ((with_reducible refine gate_callee (f := 58) rfl ?_); refine goesL_ (some 31) rfl rfl Try.func58 (by kernel_rfl) rfl #[.int .i64 (Go.bits .or .i64 x6_1 (ji12))] rfl (by (try simp only [List.map_toArray, List.map_cons, List.map_nil]); first | done | (simp only [hji12]; rfl) | rfl | (simp only [List.length_drop, List.length_take]; rfl)) ?_; (with_reducible refine (spec_CountOf.calls k1 (Go.bits .or .i64 x6_1 (ji12)) t86010 _ A14.out).mono ?_); rintro e w' ⟨rfl, ⟨nd, rfl⟩⟩; refine ⟨_, rfl, ?_⟩))
       go_roundg k1
       case measure => have := HK1.out; omega
       case rel => exact ⟨(x5_1), (x6_1), (wrap64 (x8_1 + 1)), (by first | rfl | (simp; done) | (simp [*]; done)), (by first | rfl | (simp; done) | (simp [*]; done)), H', ⟨by have := HK1.out; omega⟩, ⟨by (with_reducible repeat (first | apply Kd.R_alloc | apply Kd.R_drewN | apply Kd.R_drew)); exact HO_5.out⟩, ⟨by (with_reducible repeat (first | apply Kd.R_alloc | apply Kd.R_drewN | apply Kd.R_drew)); exact HO_7.out⟩, ⟨by (with_reducible repeat (first | refine blk_drewN ?_ _ | refine blk_drew ?_ | refine blk_alloc ?_ _)); exact BK86001.out⟩, ⟨by repeat (first | (with_reducible first | exact HB.out | apply below_alloc | apply pw_below_drewN | apply below_drew1 | refine below_set ?_ GE86001.out) | exact HB.out)⟩⟩
     ·rw [if_neg c11] at H
      exact absurd H (by simp)
    ·rw [if_neg c9] at H
     exact absurd H (by simp)
   ·rw [if_neg c8] at H
    have c8b0 : decide (x8_1 < (t86005.length : Int)) = false := decide_eq_false c8
    clear c8
    obtain rfl := Option.some.inj H
    obtain ⟨Ao24, co24, eo24⟩ := Kd.R_slice HO_7.out
    subst eo24
    go_wp2
    go_ret
    exact ⟨_, by first | rfl | (simp [errW_none, errW_some] <;> rfl) | (simp [*, errW_none, errW_some] <;> rfl), by (with_reducible repeat (first | apply Kd.R_alloc | apply Kd.R_drewN | apply Kd.R_drew)); exact Kd.R_mono HO_5.out (fun _ hk => trivial), by repeat (first | (with_reducible first | exact HB.out | apply below_alloc | apply pw_below_drewN | apply below_drew1 | refine below_set ?_ GE86001.out) | exact HB.out)⟩
/-! ### spec_BestOfSize: function 35 -/
mutual
def spec_BestOfSize.j0 : Nat → List Int → Int → Bool → Int → List Int → Option (Int × Bool)
 | 0, _, _, _, _, _ => none
 | k + 1, x1, x2, x22, x36002000, x36002001 => if x22 = true then (some (0, false)) else ((spec_l19Taken.f k x36002000 x36002001 x1).bind fun t36005 => (spec_BestOfSize.l0 k x2 t36005 0 0))
def spec_BestOfSize.l0 : Nat → Int → List Int → Int → Int → Option (Int × Bool)
 | 0, _, _, _, _ => none
 | k + 1, x2, x8, x9, x10 => if x10 < x2 then (if 0 ≤ x10 then (if x10 < (x8.length : Int) then (if 0 ≤ (IntKind.u64.wrap (rd x8 x10)) then (spec_BestOfSize.l0 k x2 x8 (Go.bits .or .i64 x9 (shl .i64 1 (IntKind.u64.wrap (rd x8 x10)))) (wrap64 (x10 + 1))) else (none)) else (none)) else (none)) else (some (x9, true))
end
def spec_BestOfSize.f (k : Nat) (a0_0 : Int) (l0_1 : List Int) (l1 : List Int) (a2 : Int) : Option (Int × Bool) := (spec_AreWeights.f k a0_0 l1).bind fun t36002 => (if t36002 = true then ((spec_RankOfMatroid.f k a0_0 l0_1).bind fun t36003 => ((spec_l1In.f a2 0 t36003).bind fun t36004 => (spec_BestOfSize.j0 k l1 a2 (!t36004) a0_0 l0_1))) else (spec_BestOfSize.j0 k l1 a2 true a0_0 l0_1))
theorem spec_BestOfSize.mono_l : ∀ k, (∀ y0 y1 y2 y3 y4, LeO (spec_BestOfSize.j0 k y0 y1 y2 y3 y4) (spec_BestOfSize.j0 (k + 1) y0 y1 y2 y3 y4)) ∧ (∀ y0 y1 y2 y3, LeO (spec_BestOfSize.l0 k y0 y1 y2 y3) (spec_BestOfSize.l0 (k + 1) y0 y1 y2 y3))
 | 0 => ⟨fun _ _ _ _ _ r h => by simp [spec_BestOfSize.j0] at h, fun _ _ _ _ r h => by simp [spec_BestOfSize.l0] at h⟩
 | k + 1 => by
  obtain ⟨ih0, ih1⟩ := spec_BestOfSize.mono_l k
  refine ⟨?_, ?_⟩
  ·intro y0 y1 y2 y3 y4
   unfold spec_BestOfSize.j0
   repeat' first
   | (with_reducible exact ih0 _ _ _ _ _)
   | (with_reducible exact ih1 _ _ _ _)
   | (with_reducible exact spec_AreWeights.mono _ _ _)
   | (with_reducible exact spec_RankOfMatroid.mono _ _ _)
   | (with_reducible exact spec_l19Taken.mono _ _ _ _)
   | (with_reducible exact LeO.refl _)
   | (with_reducible exact LeO.none _)
   | (with_reducible refine LeO.ite ?_ ?_)
   | (with_reducible refine LeO.bind ?_ (fun _ => ?_))
   | exact ih0 _ _ _ _ _
   | exact ih1 _ _ _ _
   | exact spec_AreWeights.mono _ _ _
   | exact spec_RankOfMatroid.mono _ _ _
   | exact spec_l19Taken.mono _ _ _ _
   | exact LeO.none _
   | refine LeO.ite ?_ ?_
   | refine LeO.bind ?_ (fun _ => ?_)
  ·intro y0 y1 y2 y3
   unfold spec_BestOfSize.l0
   repeat' first
   | (with_reducible exact ih0 _ _ _ _ _)
   | (with_reducible exact ih1 _ _ _ _)
   | (with_reducible exact spec_AreWeights.mono _ _ _)
   | (with_reducible exact spec_RankOfMatroid.mono _ _ _)
   | (with_reducible exact spec_l19Taken.mono _ _ _ _)
   | (with_reducible exact LeO.refl _)
   | (with_reducible exact LeO.none _)
   | (with_reducible refine LeO.ite ?_ ?_)
   | (with_reducible refine LeO.bind ?_ (fun _ => ?_))
   | exact ih0 _ _ _ _ _
   | exact ih1 _ _ _ _
   | exact spec_AreWeights.mono _ _ _
   | exact spec_RankOfMatroid.mono _ _ _
   | exact spec_l19Taken.mono _ _ _ _
   | exact LeO.none _
   | refine LeO.ite ?_ ?_
   | refine LeO.bind ?_ (fun _ => ?_)
theorem spec_BestOfSize.mono : ∀ a0 a1 a2 a3 k, LeO (spec_BestOfSize.f k a0 a1 a2 a3) (spec_BestOfSize.f (k + 1) a0 a1 a2 a3) := by
 intro a0 a1 a2 a3 k
 obtain ⟨ih0, ih1⟩ := spec_BestOfSize.mono_l k
 unfold spec_BestOfSize.f
 repeat' first
   | (with_reducible exact ih0 _ _ _ _ _)
   | (with_reducible exact ih1 _ _ _ _)
   | (with_reducible exact spec_AreWeights.mono _ _ _)
   | (with_reducible exact spec_RankOfMatroid.mono _ _ _)
   | (with_reducible exact spec_l19Taken.mono _ _ _ _)
   | (with_reducible exact LeO.refl _)
   | (with_reducible exact LeO.none _)
   | (with_reducible refine LeO.ite ?_ ?_)
   | (with_reducible refine LeO.bind ?_ (fun _ => ?_))
   | exact ih0 _ _ _ _ _
   | exact ih1 _ _ _ _
   | exact spec_AreWeights.mono _ _ _
   | exact spec_RankOfMatroid.mono _ _ _
   | exact spec_l19Taken.mono _ _ _ _
   | exact LeO.none _
   | refine LeO.ite ?_ ?_
   | refine LeO.bind ?_ (fun _ => ?_)
set_option maxHeartbeats 8000000 in
set_option maxRecDepth 100000 in
theorem spec_BestOfSize.calls (k : Nat) (a0_0 : Int) (A0_1 : Option Addr) (c0_1 : Nat) (l0_1 : List Int) (A1 : Option Addr) (c1 : Nat) (l1 : List Int) (a2 : Int) (r1 : Int) (r2 : Bool) (w : World) (hr0_1 : Kd.C (Kd.int .i64) w A0_1 l0_1.length l0_1) (hc0_1 : l0_1.length ≤ c0_1) (hr1 : Kd.C (Kd.int .i64) w A1 l1.length l1) (hc1 : l1.length ≤ c1) (h : spec_BestOfSize.f k a0_0 l0_1 l1 a2 = some (r1, r2)) :
  Calls Try.prog 35 #[.agg #[.int .i64 a0_0, .slice A0_1 l0_1.length c0_1], .slice A1 l1.length c1, .int .i64 a2] w fun e w' => e = .returned (.tuple #[.int .i64 r1, .bool r2]) ∧ Below w.heap.size w w' := by
 have hu26 := Try.underlying26
 have HR0_1 := aQ hr0_1
 have HC0_1 := aQ hc0_1
 clear hr0_1 hc0_1
 have HR1 := aQ hr1
 have HC1 := aQ hc1
 clear hr1 hc1
 have HB := aQ (Below.refl w.heap.size w)
 have H : ((spec_AreWeights.f k a0_0 l1).bind fun t36002 => (if t36002 = true then ((spec_RankOfMatroid.f k a0_0 l0_1).bind fun t36003 => ((spec_l1In.f a2 0 t36003).bind fun t36004 => (spec_BestOfSize.j0 k l1 a2 (!t36004) a0_0 l0_1))) else (spec_BestOfSize.j0 k l1 a2 true a0_0 l0_1))) = some (r1, r2) := h
 clear h
 have HC4 := aQ H
 clear H
 go_enter Try.func35, Try.ntmps35
 go_upto_region 1 with (first | ((with_reducible refine gate_dst (N := 3) rfl ?_); refine box_event ?hg (N := 3) ?hd (cs := #[.int .i64 a0_0, .slice A0_1 l0_1.length c0_1]) (t := 26) ?hr ?_; (case hd => rfl); (case hg => rfl); (case hr => first | (go_simp; done) | (go_simp; rfl)); intro gb36001 hg w5 hbox hb; have BK36001 := aQ (hbox); have GW36001 := aQ ((by rw [hg]; exact (below_size (by repeat (first | (with_reducible first | exact HB.out | apply below_alloc | apply pw_below_drewN | apply below_drew1) | exact HB.out))) : w.heap.size ≤ gb36001)); have GE36001 := aQ ((by rw [hg]; exact (below_size (by repeat (first | (with_reducible first | exact HB.out | apply below_alloc | apply pw_below_drewN | apply below_drew1) | exact HB.out))) : w.heap.size ≤ gb36001)); replace HB := aQ (below_step (by repeat (first | (with_reducible first | exact HB.out | apply below_alloc | apply pw_below_drewN | apply below_drew1) | exact HB.out)) hb); clear hb hbox hg))
 (try simp only [Act.put, List.setIfInBounds_toArray, List.set_cons_zero, List.set_cons_succ])
 go_cut [22] (fun v22 wc => ∃ (kq : Nat) (x22_3 : Bool), v22 = .bool x22_3 ∧ Aside0 (spec_BestOfSize.j0 kq l1 a2 x22_3 a0_0 l0_1 = some (r1, r2)) ∧ Aside0 (kq ≤ k) ∧ Aside0 (wc.heap[gb36001]? = some (.cells #[.int .i64 a0_0, (.slice A0_1 l0_1.length c0_1)] 26 (0, 0))) ∧ Aside0 (Below w.heap.size w wc))
 case first =>
  have H := HC4.out
  clear HC4
  replace H := Option.bind_eq_some_iff.mp H
  obtain ⟨t36002, A60, H⟩ := H
  replace H : (if t36002 = true then ((spec_RankOfMatroid.f k a0_0 l0_1).bind fun t36003 => ((spec_l1In.f a2 0 t36003).bind fun t36004 => (spec_BestOfSize.j0 k l1 a2 (!t36004) a0_0 l0_1))) else (spec_BestOfSize.j0 k l1 a2 true a0_0 l0_1)) = some (r1, r2) := H
  have A6 := aQ A60
  clear A60
  by_cases c7 : t36002 = true
  ·subst c7
   have H1 : ((spec_RankOfMatroid.f k a0_0 l0_1).bind fun t36003 => ((spec_l1In.f a2 0 t36003).bind fun t36004 => (spec_BestOfSize.j0 k l1 a2 (!t36004) a0_0 l0_1))) = some (r1, r2) := by rw [if_pos rfl] at H; exact H
   clear H
   have H := H1
   clear H1
   replace H := Option.bind_eq_some_iff.mp H
   obtain ⟨t36003, A80, H⟩ := H
   replace H : ((spec_l1In.f a2 0 t36003).bind fun t36004 => (spec_BestOfSize.j0 k l1 a2 (!t36004) a0_0 l0_1)) = some (r1, r2) := H
   have A8 := aQ A80
   clear A80
   replace H := Option.bind_eq_some_iff.mp H
   obtain ⟨t36004, A90, H⟩ := H
   replace H : (spec_BestOfSize.j0 k l1 a2 (!t36004) a0_0 l0_1) = some (r1, r2) := H
   have A9 := aQ A90
   clear A90
   have H' := aQ H
   clear H
   have hcz10_0 : w5.cell? ⟨gb36001, 0, none⟩ = some (.int .i64 a0_0) := (blk_cell BK36001.out 0).trans rfl
   have hcz10_1 : w5.cell? ⟨gb36001, 1, none⟩ = some (.slice A0_1 l0_1.length c0_1) := (blk_cell BK36001.out 1).trans rfl
   have hfz10_0 := blk_frozen BK36001.out 0
   have hfz10_1 := blk_frozen BK36001.out 1
   go_wp2_with (first | ((with_reducible refine gate_callee (f := 84) rfl ?_); refine goesL_ (some 14) rfl rfl Try.func84 (by kernel_rfl) rfl #[.int .i64 a0_0, .slice A1 l1.length c1] rfl (by (try simp only [List.map_toArray, List.map_cons, List.map_nil]); first | done | rfl | (simp only [List.length_drop, List.length_take]; rfl)) ?_; (with_reducible refine (spec_AreWeights.calls k a0_0 _ _ l1 true _ ?side1 ?side2 A6.out).mono ?_); (case side1 => repeat (first | exact (Kd.C_below HR1.out HB.out) | (with_reducible refine Kd.C_alloc ?_ _) | (with_reducible refine Kd.C_drewN ?_ _) | (with_reducible refine Kd.C_drew ?_))); (case side2 => exact HC1.out); rintro e w' ⟨rfl, ⟨nd, rfl⟩⟩; refine ⟨_, rfl, ?_⟩) | (go_at_call 56; (with_reducible refine (spec_RankOfMatroid.calls k a0_0 _ _ l0_1 t36003 _ ?side1 ?side2 A8.out).mono ?_); (case side1 => repeat (first | exact (Kd.C_below HR0_1.out (by repeat (first | (with_reducible first | exact HB.out | apply below_alloc | apply pw_below_drewN | apply below_drew1 | refine below_set ?_ GE36001.out) | exact HB.out))) | (with_reducible refine Kd.C_alloc ?_ _) | (with_reducible refine Kd.C_drewN ?_ _) | (with_reducible refine Kd.C_drew ?_))); (case side2 => exact HC0_1.out); rintro e w11 ⟨rfl, hb⟩; replace BK36001 := aQ (blk_below (g := gb36001) (o := .cells #[.int .i64 a0_0, .slice A0_1 l0_1.length c0_1] 26 (0, 0)) (by (with_reducible repeat (first | refine blk_drewN ?_ _ | refine blk_drew ?_ | refine blk_alloc ?_ _)); exact BK36001.out) hb); replace HB := aQ (below_step (by repeat (first | (with_reducible first | exact HB.out | apply below_alloc | apply pw_below_drewN | apply below_drew1 | refine below_set ?_ GE36001.out) | exact HB.out)) hb); (try clear hb); (try clear hb2); (try clear hk); (try clear hi)) | (go_at_call 55; (with_reducible refine (spec_l1In.calls a2 0 t36003 t36004 _ A9.out).mono ?_); rintro e w' ⟨rfl, ⟨nd, rfl⟩⟩))
   go_meet
   case rel => exact ⟨_, (!t36004), (by first | rfl | (simp; done) | (simp [*]; done)), H', ⟨by first | omega | exact Nat.le_refl _⟩, ⟨by (with_reducible repeat (first | refine blk_drewN ?_ _ | refine blk_drew ?_ | refine blk_alloc ?_ _)); exact BK36001.out⟩, ⟨by repeat (first | (with_reducible first | exact HB.out | apply below_alloc | apply pw_below_drewN | apply below_drew1 | refine below_set ?_ GE36001.out) | exact HB.out)⟩⟩
  ·replace c7 := Bool.eq_false_iff.mpr c7
   subst c7
   have H1 : (spec_BestOfSize.j0 k l1 a2 true a0_0 l0_1) = some (r1, r2) := by rw [if_neg (show ¬ (false = true) by decide)] at H; exact H
   clear H
   have H := H1
   clear H1
   have H' := aQ H
   clear H
   have hcz12_0 : w5.cell? ⟨gb36001, 0, none⟩ = some (.int .i64 a0_0) := (blk_cell BK36001.out 0).trans rfl
   have hcz12_1 : w5.cell? ⟨gb36001, 1, none⟩ = some (.slice A0_1 l0_1.length c0_1) := (blk_cell BK36001.out 1).trans rfl
   have hfz12_0 := blk_frozen BK36001.out 0
   have hfz12_1 := blk_frozen BK36001.out 1
   go_wp2_with (first | ((with_reducible refine gate_callee (f := 84) rfl ?_); refine goesL_ (some 14) rfl rfl Try.func84 (by kernel_rfl) rfl #[.int .i64 a0_0, .slice A1 l1.length c1] rfl (by (try simp only [List.map_toArray, List.map_cons, List.map_nil]); first | done | rfl | (simp only [List.length_drop, List.length_take]; rfl)) ?_; (with_reducible refine (spec_AreWeights.calls k a0_0 _ _ l1 false _ ?side1 ?side2 A6.out).mono ?_); (case side1 => repeat (first | exact (Kd.C_below HR1.out HB.out) | (with_reducible refine Kd.C_alloc ?_ _) | (with_reducible refine Kd.C_drewN ?_ _) | (with_reducible refine Kd.C_drew ?_))); (case side2 => exact HC1.out); rintro e w' ⟨rfl, ⟨nd, rfl⟩⟩; refine ⟨_, rfl, ?_⟩))
   go_meet
   case rel => exact ⟨_, (true), (by first | rfl | (simp; done) | (simp [*]; done)), H', ⟨by first | omega | exact Nat.le_refl _⟩, ⟨by (with_reducible repeat (first | refine blk_drewN ?_ _ | refine blk_drew ?_ | refine blk_alloc ?_ _)); exact BK36001.out⟩, ⟨by repeat (first | (with_reducible first | exact HB.out | apply below_alloc | apply pw_below_drewN | apply below_drew1 | refine below_set ?_ GE36001.out) | exact HB.out)⟩⟩
 case rest =>
  clear HC4
  try clear c1
  try clear p2
  try clear c3
  try clear c7
  try clear c8
  try clear hcz10_0
  try clear hcz10_1
  try clear hcz12_0
  try clear hcz12_1
  try clear hfz10_0
  try clear hfz10_1
  try clear hfz12_0
  try clear hfz12_1
  obtain ⟨kq, x22_3, rfl, HA, HJ3, BK36001, HB⟩ := hcut
  cases kq with
  | zero => exact absurd HA.out (by simp [spec_BestOfSize.j0])
  | succ kj3 =>
   have H := HA.out
   clear HA
   simp only [spec_BestOfSize.j0] at H
   by_cases c13 : x22_3 = true
   ·subst c13
    have H1 : (some (0, false)) = some (r1, r2) := by rw [if_pos rfl] at H; exact H
    clear H
    have H := H1
    clear H1
    simp only [Option.some.injEq, Prod.mk.injEq] at H
    obtain ⟨rfl, rfl⟩ := H
    go_wp2
    go_ret2
    exact ⟨by first | rfl | (simp [errW_none, errW_some] <;> rfl) | (simp [*, errW_none, errW_some] <;> rfl), by repeat (first | (with_reducible first | exact HB.out | apply below_alloc | apply pw_below_drewN | apply below_drew1 | refine below_set ?_ GE36001.out) | exact HB.out)⟩
   ·replace c13 := Bool.eq_false_iff.mpr c13
    subst c13
    have H1 : ((spec_l19Taken.f kj3 a0_0 l0_1 l1).bind fun t36005 => (spec_BestOfSize.l0 kj3 a2 t36005 0 0)) = some (r1, r2) := by rw [if_neg (show ¬ (false = true) by decide)] at H; exact H
    clear H
    have H := H1
    clear H1
    replace H := Option.bind_eq_some_iff.mp H
    obtain ⟨t36005, A140, H⟩ := H
    replace H : (spec_BestOfSize.l0 kj3 a2 t36005 0 0) = some (r1, r2) := H
    have A14 := aQ A140
    clear A140
    have H' := aQ H
    clear H
    have hcz15_0 : wc.cell? ⟨gb36001, 0, none⟩ = some (.int .i64 a0_0) := (blk_cell BK36001.out 0).trans rfl
    have hcz15_1 : wc.cell? ⟨gb36001, 1, none⟩ = some (.slice A0_1 l0_1.length c0_1) := (blk_cell BK36001.out 1).trans rfl
    have hfz15_0 := blk_frozen BK36001.out 0
    have hfz15_1 := blk_frozen BK36001.out 1
    go_wp2_with (first | ((with_reducible refine gate_callee (f := 85) rfl ?_); refine goesL_ (some 25) rfl rfl Try.func85 (by kernel_rfl) rfl #[.agg #[.int .i64 a0_0, .slice A0_1 l0_1.length c0_1], .slice A1 l1.length c1] rfl (by (try simp only [List.map_toArray, List.map_cons, List.map_nil]); first | done | rfl | (simp only [List.length_drop, List.length_take]; rfl)) ?_; (with_reducible refine (spec_l19Taken.calls kj3 a0_0 _ _ l0_1 _ _ l1 t36005 _ ?side1 ?side2 ?side3 ?side4 A14.out).mono ?_); (case side1 => repeat (first | exact (Kd.C_below HR0_1.out HB.out) | (with_reducible refine Kd.C_alloc ?_ _) | (with_reducible refine Kd.C_drewN ?_ _) | (with_reducible refine Kd.C_drew ?_))); (case side2 => exact HC0_1.out); (case side3 => repeat (first | exact (Kd.C_below HR1.out HB.out) | (with_reducible refine Kd.C_alloc ?_ _) | (with_reducible refine Kd.C_drewN ?_ _) | (with_reducible refine Kd.C_drew ?_))); (case side4 => exact HC1.out); rintro e w16 ⟨v36006, rfl, ho0, hb⟩; refine ⟨_, rfl, ?_⟩; have HO36007 := aQ (Kd.R_lower ho0 (below_size (by repeat (first | (with_reducible first | exact HB.out | apply below_alloc | apply pw_below_drewN | apply below_drew1 | refine below_set ?_ GE36001.out) | exact HB.out)))); replace BK36001 := aQ (blk_below (g := gb36001) (o := .cells #[.int .i64 a0_0, .slice A0_1 l0_1.length c0_1] 26 (0, 0)) (by (with_reducible repeat (first | refine blk_drewN ?_ _ | refine blk_drew ?_ | refine blk_alloc ?_ _)); exact BK36001.out) hb); replace HB := aQ (below_step (by repeat (first | (with_reducible first | exact HB.out | apply below_alloc | apply pw_below_drewN | apply below_drew1 | refine below_set ?_ GE36001.out) | exact HB.out)) hb); (try clear hb); (try clear hb2); (try clear hk); (try clear hi); (try clear ho0)))
    go_loopg [9, 10] kj3 (fun kq v9 v10 w' => ∃ (x9_2 : Int) (x10_2 : Int), v9 = .int .i64 x9_2 ∧ v10 = .int .i64 x10_2 ∧ Aside0 (spec_BestOfSize.l0 kq a2 t36005 x9_2 x10_2 = some (r1, r2)) ∧ Aside0 (kq ≤ kj3) ∧ Aside0 (Kd.R (Kd.int .i64) 3 w' w.heap.size (fun _ => True) v36006 t36005) ∧ Aside0 (w'.heap[gb36001]? = some (.cells #[.int .i64 a0_0, (.slice A0_1 l0_1.length c0_1)] 26 (0, 0))) ∧ Aside0 (Below w.heap.size w w'))
    case atStart => exact ⟨(0), (0), (by first | rfl | (simp; done) | (simp [*]; done)), (by first | rfl | (simp; done) | (simp [*]; done)), H', ⟨Nat.le_refl _⟩, ⟨by (with_reducible repeat (first | apply Kd.R_alloc | apply Kd.R_drewN | apply Kd.R_drew)); exact HO36007.out⟩, ⟨by (with_reducible repeat (first | refine blk_drewN ?_ _ | refine blk_drew ?_ | refine blk_alloc ?_ _)); exact BK36001.out⟩, ⟨by repeat (first | (with_reducible first | exact HB.out | apply below_alloc | apply pw_below_drewN | apply below_drew1 | refine below_set ?_ GE36001.out) | exact HB.out)⟩⟩
    case round =>
     clear H'
     try clear c1
     try clear p2
     try clear c3
     try clear c7
     try clear c8
     try clear c13
     try clear hcz10_0
     try clear hcz10_1
     try clear hcz12_0
     try clear hcz12_1
     try clear hcz15_0
     try clear hcz15_1
     try clear hfz10_0
     try clear hfz10_1
     try clear hfz12_0
     try clear hfz12_1
     try clear hfz15_0
     try clear hfz15_1
     try clear p2
     obtain ⟨x9_2, x10_2, rfl, rfl, HA, HK2, HO_8, BK36001, HB⟩ := hrel
     cases gk with
     | zero => exact absurd HA.out (by simp [spec_BestOfSize.l0])
     | succ k2 =>
      have H := HA.out
      clear HA
      simp only [spec_BestOfSize.l0] at H
      by_cases c17 : x10_2 < a2
      ·rw [if_pos c17] at H
       have c17b0 : decide (x10_2 < a2) = true := decide_eq_true c17
       clear c17
       by_cases c18 : 0 ≤ x10_2
       ·rw [if_pos c18] at H
        have c18b0 : decide (0 ≤ x10_2) = true := decide_eq_true c18
        clear c18
        by_cases c19 : x10_2 < (t36005.length : Int)
        ·rw [if_pos c19] at H
         have c19b0 : decide (x10_2 < (t36005.length : Int)) = true := decide_eq_true c19
         clear c19
         obtain ⟨ji20, hji20⟩ : ∃ j_ : Int, (IntKind.u64.wrap (rd t36005 x10_2)) = j_ := ⟨_, rfl⟩
         replace H : (if 0 ≤ (ji20) then (spec_BestOfSize.l0 k2 a2 t36005 (Go.bits .or .i64 x9_2 (shl .i64 1 (ji20))) (wrap64 (x10_2 + 1))) else (none)) = some (r1, r2) := by first | (rw [hji20] at H; exact H) | (simp only [hji20] at H ⊢; exact H)
         by_cases c21 : 0 ≤ (ji20)
         ·rw [if_pos c21] at H
          have c21b0 := eq_true c21
          have c21b1 : decide (0 ≤ (ji20)) = true := decide_eq_true c21
          clear c21
          obtain ⟨ji22, hji22⟩ : ∃ j_ : Int, (shl .i64 1 (ji20)) = j_ := ⟨_, rfl⟩
          replace H : (spec_BestOfSize.l0 k2 a2 t36005 (Go.bits .or .i64 x9_2 (ji22)) (wrap64 (x10_2 + 1))) = some (r1, r2) := by first | (rw [hji22] at H; exact H) | (simp only [hji22] at H ⊢; exact H)
          have hji22_ : (IntKind.i64.wrap (1 * 2 ^ min (ji20).toNat 64)) = ji22 := hji22
          have hji22z : (ji20) ≤ 64 → (IntKind.i64.wrap (1 * 2 ^ (ji20).toNat)) = ji22 := shl_small hji22
          have hji22u : (IntKind.i64.wrap (2 ^ min (ji20).toNat 64)) = ji22 := by have h_ := hji22_; rw [Int.one_mul] at h_; exact h_
          have hji22v : (ji20) ≤ 64 → (IntKind.i64.wrap (2 ^ (ji20).toNat)) = ji22 := fun hle_ => by have h_ := hji22z hle_; rw [Int.one_mul] at h_; exact h_
          have hji22y : (wrap64 (1 * 2 ^ min (ji20).toNat 64)) = ji22 := (i64_w _).symm.trans hji22_
          have hji22x : (ji20) ≤ 64 → (wrap64 (1 * 2 ^ (ji20).toNat)) = ji22 := fun h_ => (i64_w _).symm.trans (hji22z h_)
          have H' := aQ H
          clear H
          obtain ⟨Ao23, co23, eo23⟩ := Kd.R_slice HO_8.out
          subst eo23
          have p36008 : 0 ≤ (x10_2 : Int) := of_decide_eq_true (by first | (with_reducible assumption) | assumption)
          have q36008 : x10_2 < (t36005.length : Int) := of_decide_eq_true (by first | (with_reducible assumption) | assumption)
          obtain ⟨ad36008, e36008, hx36008_0⟩ := Kd.at_int (Kd.R_reads' HO_8.out).2.2 x10_2 p36008 q36008
          cases e36008
          replace p36008 := eq_true p36008
          replace q36008 := eq_true q36008
          go_wp2
          go_roundg k2
          case measure => have := HJ3.out; have := HK2.out; omega
          case rel => exact ⟨(Go.bits .or .i64 x9_2 (ji22)), (wrap64 (x10_2 + 1)), (by first | rfl | (simp; done) | (simp only [← hji22] <;> (first | rfl | simp)) | (simp [*]; done)), (by first | rfl | (simp; done) | (simp [*]; done)), H', ⟨by have := HJ3.out; have := HK2.out; omega⟩, ⟨by (with_reducible repeat (first | apply Kd.R_alloc | apply Kd.R_drewN | apply Kd.R_drew)); exact HO_8.out⟩, ⟨by (with_reducible repeat (first | refine blk_drewN ?_ _ | refine blk_drew ?_ | refine blk_alloc ?_ _)); exact BK36001.out⟩, ⟨by repeat (first | (with_reducible first | exact HB.out | apply below_alloc | apply pw_below_drewN | apply below_drew1 | refine below_set ?_ GE36001.out) | exact HB.out)⟩⟩
         ·rw [if_neg c21] at H
          exact absurd H (by simp)
        ·rw [if_neg c19] at H
         exact absurd H (by simp)
       ·rw [if_neg c18] at H
        exact absurd H (by simp)
      ·rw [if_neg c17] at H
       have c17b0 : decide (x10_2 < a2) = false := decide_eq_false c17
       clear c17
       simp only [Option.some.injEq, Prod.mk.injEq] at H
       obtain ⟨rfl, rfl⟩ := H
       go_wp2
       go_ret2
       exact ⟨by first | rfl | (simp [errW_none, errW_some] <;> rfl) | (simp [*, errW_none, errW_some] <;> rfl), by repeat (first | (with_reducible first | exact HB.out | apply below_alloc | apply pw_below_drewN | apply below_drew1 | refine below_set ?_ GE36001.out) | exact HB.out)⟩
end Go.Proofs.Ytagncnjllpebjaa.A
namespace Go.Proofs.Ytagncnjllpebjaa.A
open Go.RowKit Go.Proofs.YtagncnjllpebjaaW.PrintWords Go.Proofs.YtagncnjllpebjaaW.PrintLast Go.Proofs.YtagncnjllpebjaaW.PrintMore Go.Proofs.Ytagncnjllpebjaa.Z
attribute [local go_sem] max2_int min2_int max_two min_two max_three min_three max_four min_four
set_option linter.unusedVariables false
set_option linter.unusedSimpArgs false
/-! ### slices_SortStableFunc_int_int: function 148 (by hand) -/
def laysIns_ren : Go.Shelf.Ren := ⟨fun | 20 => 194 | n => n, fun | 24 => 3 | 22 => 22 | 3 => 3 | 25 => 95 | 4 => 4 | 0 => 0 | n => n, fun | n => n⟩
theorem laysIns : Go.Proofs.SlLaysF.n20 Try.prog laysIns_ren := {
 mixed := by kernel_rfl
 f20 := ⟨Try.f194.name, by decide, Try.func194.trans (congrArg some (by kernel_rfl))⟩
 t0 := Try.underlying0
 a0 := Try.isAgg0
 z0 := Try.sizeOf0
 v0 := Try.zeroValue0
 t3 := Try.underlying3
 a3 := Try.isAgg3
 z3 := Try.sizeOf3
 v3 := Try.zeroValue3
 t4 := Try.underlying4
 a4 := Try.isAgg4
 z4 := Try.sizeOf4
 v4 := Try.zeroValue4
 t22 := Try.underlying22
 a22 := Try.isAgg22
 z22 := Try.sizeOf22
 v22 := Try.zeroValue22
 a24 := Try.isAgg3
 z24 := Try.sizeOf3
 t25 := Try.underlying95
 a25 := Try.isAgg95
 z25 := Try.sizeOf95
 v25 := Try.zeroValue95 }
set_option maxHeartbeats 4000000 in
theorem greedy1_walk (B : Option Addr) (cw : Nat) (wl : List Int) (x y : Int) (gw : Nat) (W : World) (hx : 0 ≤ x ∧ x < (wl.length : Int)) (hy : 0 ≤ y ∧ y < (wl.length : Int))
  (hw : W.heap[gw]? = some (.cells #[.slice B wl.length cw] 22 (0, 0))) (hr : Kd.C (Kd.int .i64) W B wl.length wl) :
  Calls Try.prog 149 #[.int .i64 x, .int .i64 y, .pointer (some ⟨gw, 0, none⟩)] W fun e w' => e = .returned (.int .i64 (wrap64 (rd wl y - rd wl x))) ∧ ∃ q, w' = W.drewN q := by
 obtain ⟨ad, ea, hcx⟩ := Kd.at_int hr x hx.1 hx.2
 obtain ⟨ad2, ea2, hcy⟩ := Kd.at_int hr y hy.1 hy.2
 cases ea
 cases ea2
 have hz : W.cell? ⟨gw, 0, none⟩ = some (.slice (some ad) wl.length cw) := (blk_cell hw 0).trans rfl
 have p1 := eq_true hx.1
 have p2 := eq_true hx.2
 have p3 := eq_true hy.1
 have p4 := eq_true hy.2
 clear hx hy hw hr
 go_enter Try.func149, Try.ntmps149
 go_wp2
 go_quiet (fail)
 go_wp2
 go_ret
 exact ⟨by first | rfl | (simp; done) | (simp [*]; done), _, by first | rfl | exact World.drewN_drewN _ _ _⟩
theorem ins0_walk (A : Option Addr) (c : Nat) (F : Value) (w : World) :
  Calls Try.prog 194 #[.slice A 0 c, .int .i64 0, .int .i64 0, F] w fun e w' => e = .returned (.tuple #[]) ∧ w' = w := by
 go_enter Try.func194, Try.ntmps194
 go_wp2
 go_loopg [8] 0 (fun gg s8 wr => s8 = .int .i64 1 ∧ wr = w)
 case atStart => exact ⟨by first | rfl | (simp; done), rfl⟩
 case round =>
  obtain ⟨rfl, rfl⟩ := hrel
  go_wp2
  go_end0
  exact ⟨rfl, rfl⟩
set_option maxHeartbeats 4000000 in
theorem insG_walk (B : Option Addr) (cw : Nat) (wl xs : List Int) (A : Option Addr) (c gw : Nat) (ok : Nat → Prop) (w0 w : World)
  (hC : Kd.C (Kd.int .i64) w0 B wl.length wl) (hB : Below w0.heap.size w0 w) (hw : w.heap[gw]? = some (.cells #[.slice B wl.length cw] 22 (0, 0))) (hs : gSmall wl) (hx : ∀ x ∈ xs, 0 ≤ x ∧ x < (wl.length : Int))
  (h : Kd.R (Kd.int .i64) 3 w w0.heap.size ok (.slice A xs.length c) xs) (hl : xs.length < 17592186044416) :
  Calls Try.prog 194 #[.slice A xs.length c, .int .i64 0, .int .i64 (xs.length : Int), .func (.func 149) #[] #[.pointer (some ⟨gw, 0, none⟩)]] w fun e w' =>
   e = .returned (.tuple #[]) ∧ Kd.R (Kd.int .i64) 3 w' w0.heap.size ok (.slice A xs.length c) (gOrd wl xs) ∧ Below w0.heap.size w0 w' ∧ w'.heap[gw]? = some (.cells #[.slice B wl.length cw] 22 (0, 0)) ∧ Kept w w' (fun k => some k = (.slice A xs.length c : Value).ownBlock) := by
 by_cases hxs : xs = []
 ·subst hxs
  refine (ins0_walk A c _ w).mono ?_
  rintro e w' ⟨rfl, rfl⟩
  exact ⟨rfl, h, hB, hw, Kept.refl _ _⟩
 have hne : wl ≠ [] := by
  rintro rfl
  obtain ⟨x, hx0⟩ := List.exists_mem_of_ne_nil xs hxs
  have := hx x hx0
  simp at this
  omega
 rcases R_where h with ⟨rfl, rfl⟩ | ⟨g, rfl, hg, hlt, hc⟩
 ·exact absurd rfl hxs
 have hgw : gw ≠ g := by
  have := Kd.R_ne h hw (by decide)
  rintro rfl
  exact this rfl
 have eg : ∀ args w, (callFunc 149 args).run Try.prog w = .ok (.enter 149 args) w := runs_of Try.func149 (by kernel_rfl) rfl
 have hsz := hB.size
 have hgwl := blk_lt hw
 have hcmp : Go.Proofs.CmpReads Try.prog 149 #[.pointer (some ⟨gw, 0, none⟩)] (fun x => Value.int .i64 (gClip wl x)) (gCf wl) g 0 xs.toArray.size w := by
  intro m os dk hd x y
  have hW : Go.Proofs.sortWorld (fun x => Value.int .i64 (gClip wl x)) w g 0 m dk os = Go.Sort.grow (Go.Sort.putRow (Value.int .i64) (Go.Sort.ahead w m) g 0 (dk.map (gClip wl))) os := by
   show Go.Sort.grow (Go.Sort.putRow _ _ g 0 dk) os = _
   rw [putRow_clip]
  rw [hW]
  refine calls_of_args (by simp) (greedy1_walk B cw wl (gClip wl x) (gClip wl y) gw _ (gClip_in hne x) (gClip_in hne y) ?_ (Kd.C_below hC (below_put hB hg hsz m _ os)))
  rw [put_far hgw hgwl]; exact hw
 have hH : Go.Sort.Holds (fun x => Value.int .i64 (gClip wl x)) w g 0 xs.toArray := by
  intro j hj
  have h1 := R_holds h j hj
  have hj' : j < xs.length := by simpa using hj
  have e : xs.toArray[j]! = xs[j] := by rw [getElem!_pos xs.toArray j hj]; simp
  refine ⟨?_, h1.2⟩
  show _ = some (Value.int .i64 (gClip wl xs.toArray[j]!))
  rw [e, gClip_of (hx _ (List.getElem_mem hj')), ← e]
  exact h1.1
 have hcon := Go.Proofs.Any.insertionSortCmpFunc_one laysIns (fun x => Value.int .i64 (gClip wl x)) (fun _ => rfl) (gCf wl) 149 #[.pointer (some ⟨gw, 0, none⟩)] g 0 c 0 xs.length xs.toArray w eg hcmp hH (Nat.zero_le _) (by simp) (by simp; omega)
 refine Calls.mono (show Calls Try.prog 194 #[.slice (some ⟨g, 0, none⟩) xs.length c, .int .i64 0, .int .i64 (xs.length : Int), .func (.func 149) #[] #[.pointer (some ⟨gw, 0, none⟩)]] w _ from hcon) ?_
 rintro e w' ⟨rfl, n, rfl⟩
 have hw' : (Go.Sort.putRow (fun x => Value.int .i64 (gClip wl x)) w g 0 (Go.Sort.insertionSort (Go.Proofs.ltOf (gCf wl)) xs.toArray 0 xs.length)).drewN n = Go.Sort.putRow (Value.int .i64) (Go.Sort.ahead w n) g 0 (gOrd wl xs).toArray := by
  rw [gSorted hs hne hx]
  exact (putRow_drewN (enc := Value.int .i64) w 0 n g 0 _).trans (by rw [Nat.zero_add])
 rw [hw']
 refine ⟨rfl, ?_, below_put' hB hg hsz n _, ?_, ?_, ?_⟩
 ·have := R_grown h (gOrd_len wl xs) n
  rwa [gOrd_len] at this
 ·have := put_far hgw hgwl n (gOrd wl xs).toArray #[]
  rw [Go.Sort.grow_empty] at this
  rw [this]; exact hw
 ·rw [Go.Sort.size_putRow]; exact Nat.le_refl _
 ·intro k hk hn
  have := put_far (k := k) (fun e => hn (by rw [e]; rfl)) hk n (gOrd wl xs).toArray #[]
  rw [Go.Sort.grow_empty] at this
  exact this
set_option maxHeartbeats 4000000 in
theorem stableG_walk (B : Option Addr) (cw : Nat) (wl xs : List Int) (A : Option Addr) (c gw : Nat) (ok : Nat → Prop) (w0 w : World)
  (hC : Kd.C (Kd.int .i64) w0 B wl.length wl) (hB : Below w0.heap.size w0 w) (hw : w.heap[gw]? = some (.cells #[.slice B wl.length cw] 22 (0, 0))) (hs : gSmall wl) (hx : ∀ x ∈ xs, 0 ≤ x ∧ x < (wl.length : Int))
  (h : Kd.R (Kd.int .i64) 3 w w0.heap.size ok (.slice A xs.length c) xs) (hl : xs.length < 20) :
  Calls Try.prog 174 #[.slice A xs.length c, .int .i64 (xs.length : Int), .func (.func 149) #[] #[.pointer (some ⟨gw, 0, none⟩)]] w fun e w' =>
   e = .returned (.tuple #[]) ∧ Kd.R (Kd.int .i64) 3 w' w0.heap.size ok (.slice A xs.length c) (gOrd wl xs) ∧ Below w0.heap.size w0 w' ∧ w'.heap[gw]? = some (.cells #[.slice B wl.length cw] 22 (0, 0)) ∧ Kept w w' (fun k => some k = (.slice A xs.length c : Value).ownBlock) := by
 have l1 : decide ((20 : Int) ≤ (xs.length : Int)) = false := decide_eq_false (by omega)
 have l2 : decide ((20 : Int) < (xs.length : Int)) = false := decide_eq_false (by omega)
 have HI := Lib.hid (insG_walk B cw wl xs A c gw ok w0 w hC hB hw hs hx h (by omega))
 clear hC hB hw hs hx h hl
 go_enter Try.func174, Try.ntmps174
 go_wp2
 go_loopg [7, 8] 0 (fun gg s7 s8 wr => s7 = .int .i64 0 ∧ s8 = .int .i64 20 ∧ wr = w)
 case atStart => exact ⟨by first | rfl | (simp; done), by first | rfl | (simp; done), rfl⟩
 case round =>
  obtain ⟨rfl, rfl, rfl⟩ := hrel
  go_wp2_with (first | (go_at_call 194; (with_reducible refine (HI.out).mono ?_); rintro e w1_ ⟨rfl, hR_, hB_, hW_, hK_⟩; have HR := aQ hR_; have HB := aQ hB_; have HW := aQ hW_; have HK := aQ hK_; clear hR_ hB_ hW_ hK_))
  go_loopg [6] 0 (fun gg s6 wr2 => s6 = .int .i64 20 ∧ wr2 = w1_)
  case atStart => exact ⟨by first | rfl | (simp; done), rfl⟩
  case round =>
   obtain ⟨rfl, rfl⟩ := hrel
   go_wp2
   go_end0
   exact ⟨rfl, HR.out, HB.out, HW.out, HK.out⟩
theorem sortStableG_walk (B : Option Addr) (cw : Nat) (wl xs : List Int) (A : Option Addr) (c gw : Nat) (ok : Nat → Prop) (w0 w : World)
  (hC : Kd.C (Kd.int .i64) w0 B wl.length wl) (hB : Below w0.heap.size w0 w) (hw : w.heap[gw]? = some (.cells #[.slice B wl.length cw] 22 (0, 0))) (hs : gSmall wl) (hx : ∀ x ∈ xs, 0 ≤ x ∧ x < (wl.length : Int))
  (h : Kd.R (Kd.int .i64) 3 w w0.heap.size ok (.slice A xs.length c) xs) (hl : xs.length < 20) :
  Calls Try.prog 148 #[.slice A xs.length c, .func (.func 149) #[] #[.pointer (some ⟨gw, 0, none⟩)]] w fun e w' =>
   e = .returned (.tuple #[]) ∧ Kd.R (Kd.int .i64) 3 w' w0.heap.size ok (.slice A xs.length c) (gOrd wl xs) ∧ Below w0.heap.size w0 w' ∧ w'.heap[gw]? = some (.cells #[.slice B wl.length cw] 22 (0, 0)) ∧ Kept w w' (fun k => some k = (.slice A xs.length c : Value).ownBlock) := by
 have HI := Lib.hid (stableG_walk B cw wl xs A c gw ok w0 w hC hB hw hs hx h hl)
 clear hC hB hw hs hx h hl
 go_enter Try.func148, Try.ntmps148
 go_wp2_with (first | (go_at_call 174; (with_reducible refine (HI.out).mono ?_); rintro e w1_ ⟨rfl, hR_, hB_, hW_, hK_⟩; have HR := aQ hR_; have HB := aQ hB_; have HW := aQ hW_; have HK := aQ hK_; clear hR_ hB_ hW_ hK_))
 go_end0
 exact ⟨rfl, HR.out, HB.out, HW.out, HK.out⟩
/-! ### impl_greedy: function 86 (by hand) -/
/-- The weights are small, the order's elements are theirs, and there are few of them. -/
def gOk (wl xs : List Int) : Bool := wl.all (fun v => decide (-4611686018427387903 ≤ v) && decide (v ≤ 4611686018427387903)) && (xs.all (fun x => decide (0 ≤ x) && decide (x < (wl.length : Int))) && decide (xs.length < 20))
theorem gOk_parts {wl xs : List Int} (h : gOk wl xs = true) : gSmall wl ∧ (∀ x ∈ xs, 0 ≤ x ∧ x < (wl.length : Int)) ∧ xs.length < 20 := by
 unfold gOk at h
 simp only [Bool.and_eq_true, List.all_eq_true, decide_eq_true_eq] at h
 exact ⟨h.1, h.2.1, h.2.2⟩
/-- The greedy walk along an order: each element that keeps the set independent. -/
def greedyO (k : Nat) (n : Int) (l : List Int) : List Int → Int → List Int → Option (List Int)
 | [], _, acc => some acc
 | e :: es, s, acc => if 0 ≤ e ∧ e ≤ 64 then (impl_independent.f k n l (Go.bits .or .i64 s (shl .i64 1 e))).bind fun b => if b = true then (if acc.length < 17592186044416 then greedyO k n l es (Go.bits .or .i64 s (shl .i64 1 e)) (acc ++ [e]) else none) else greedyO k n l es s acc else none
theorem greedyO_mono (k : Nat) (n : Int) (l : List Int) : ∀ (es : List Int) (s : Int) (acc : List Int), LeO (greedyO k n l es s acc) (greedyO (k + 1) n l es s acc)
 | [], _, _ => LeO.refl _
 | e :: es, s, acc => by
  simp only [greedyO]
  exact LeO.ite (LeO.bind (impl_independent.mono _ _ _ _) (fun b => LeO.ite (LeO.ite (greedyO_mono k n l es _ _) (LeO.none _)) (greedyO_mono k n l es _ _))) (LeO.none _)
def impl_greedy.f (k : Nat) (a0_0 : Int) (l0_1 : List Int) (l1 : List Int) : Option (List Int × Bool) := (impl_IsMatroid.f k a0_0 l0_1).bind fun t => if t = true then (impl_AreWeights.f k a0_0 l1).bind fun u => if u = true then (impl_FullSet.f a0_0).bind fun m => (impl_ElementsOf.f k m).bind fun y => if gOk l1 y = true then (greedyO k a0_0 l0_1 (gOrd l1 y) 0 ([] : List Int)).bind fun z => some (z, true) else none else some (([] : List Int), false) else some (([] : List Int), false)
theorem impl_greedy.mono : ∀ a0 a1 a2 k, LeO (impl_greedy.f k a0 a1 a2) (impl_greedy.f (k + 1) a0 a1 a2) := by
 intro a0 a1 a2 k
 unfold impl_greedy.f
 exact LeO.bind (impl_IsMatroid.mono _ _ _) (fun t => LeO.ite (LeO.bind (impl_AreWeights.mono _ _ _) (fun u => LeO.ite (LeO.bind (LeO.refl _) (fun m => LeO.bind (impl_ElementsOf.mono _ _) (fun y => LeO.ite (LeO.bind (greedyO_mono _ _ _ _ _ _) (fun z => LeO.refl _)) (LeO.none _)))) (LeO.refl _))) (LeO.refl _))
set_option maxHeartbeats 4000000 in
set_option maxRecDepth 100000 in
theorem impl_greedy.calls (k : Nat) (a0_0 : Int) (A0_1 : Option Addr) (c0_1 : Nat) (l0_1 : List Int) (A1 : Option Addr) (c1 : Nat) (l1 : List Int) (r1 : List Int) (r2 : Bool) (w : World) (hr0_1 : Kd.C (Kd.int .i64) w A0_1 l0_1.length l0_1) (hc0_1 : l0_1.length ≤ c0_1) (hr1 : Kd.C (Kd.int .i64) w A1 l1.length l1) (hc1 : l1.length ≤ c1) (h : impl_greedy.f k a0_0 l0_1 l1 = some (r1, r2)) :
  Calls Try.prog 86 #[.agg #[.int .i64 a0_0, .slice A0_1 l0_1.length c0_1], .slice A1 l1.length c1] w fun e w' => ∃ v0_ : Value, e = .returned (.tuple #[v0_, .bool r2]) ∧ Kd.R (Kd.int .i64) 3 w' w.heap.size (fun _ => True) v0_ r1 ∧ Below w.heap.size w w' := by
 have hu := Try.underlying26
 have HR := aQ hr0_1
 have HC := aQ hc0_1
 have HR2 := aQ hr1
 have HC2 := aQ hc1
 have HB := aQ (Below.refl w.heap.size w)
 clear hr0_1 hc0_1 hr1 hc1
 unfold impl_greedy.f at h
 obtain ⟨t, hT, h⟩ := Option.bind_eq_some_iff.1 h
 have HT := aQ hT
 clear hT
 by_cases c3 : t = true
 ·subst c3
  rw [if_pos rfl] at h
  obtain ⟨u, hU, h⟩ := Option.bind_eq_some_iff.1 h
  have HU := aQ hU
  clear hU
  by_cases c4 : u = true
  ·subst c4
   rw [if_pos rfl] at h
   obtain ⟨m, hF, h⟩ := Option.bind_eq_some_iff.1 h
   obtain ⟨y, hY, h⟩ := Option.bind_eq_some_iff.1 h
   by_cases hg : gOk l1 y = true
   ·rw [if_pos hg] at h
    obtain ⟨z, hZ, h⟩ := Option.bind_eq_some_iff.1 h
    simp only [Option.some.injEq, Prod.mk.injEq] at h
    obtain ⟨rfl, rfl⟩ := h
    have HF := aQ hF
    have HY := aQ hY
    have HG := aQ (gOk_parts hg)
    have HZ := aQ hZ
    clear hF hY hg hZ
    go_enter Try.func86, Try.ntmps86
    go_wp2_with (first | ((with_reducible refine gate_dst (N := 2) rfl ?_); refine box_event ?hg (N := 2) ?hd (cs := #[(.int .i64 a0_0), (.slice A0_1 l0_1.length c0_1)]) (t := 26) ?hr ?_; (case hd => rfl); (case hg => rfl); (case hr => first | (go_simp; done) | (go_simp; rfl)); intro gm hg wa_ hbox hb; have GBM := aQ ((by rw [hg]; exact below_size (by repeat (first | (with_reducible first | exact HB.out | apply below_alloc | apply pw_below_drewN | apply below_drew1) | exact HB.out))) : w.heap.size ≤ gm); replace HB := aQ (below_step (by repeat (first | (with_reducible first | exact HB.out | apply below_alloc | apply pw_below_drewN | apply below_drew1) | exact HB.out)) hb); have BM := aQ hbox; clear hb hbox hg; have zBM0 : wa_.cell? ⟨gm, 0, none⟩ = some (.int .i64 a0_0) := (blk_cell BM.out 0).trans rfl; have zBM1 : wa_.cell? ⟨gm, 1, none⟩ = some (.slice A0_1 l0_1.length c0_1) := (blk_cell BM.out 1).trans rfl) | ((with_reducible refine gate_dst (N := 3) rfl ?_); refine box_event ?hg (N := 3) ?hd (cs := #[(.slice A1 l1.length c1)]) (t := 22) ?hr ?_; (case hd => rfl); (case hg => rfl); (case hr => first | (go_simp; done) | (go_simp; rfl)); intro gw hg wb_ hbox hb; have NBMBW := aQ ((by rw [hg]; exact Nat.ne_of_lt (blk_lt (g := gm) (o := .cells #[(.int .i64 a0_0), (.slice A0_1 l0_1.length c0_1)] 26 (0, 0)) (by (with_reducible repeat (first | refine blk_drewN ?_ _ | refine blk_drew ?_ | refine blk_alloc ?_ _)); exact BM.out))) : gm ≠ gw); have GBW := aQ ((by rw [hg]; exact below_size (by repeat (first | (with_reducible first | exact HB.out | apply below_alloc | apply pw_below_drewN | apply below_drew1 | refine below_set ?_ GBM.out) | exact HB.out))) : w.heap.size ≤ gw); have n_BM := aQ (blk_below (g := gm) (o := .cells #[(.int .i64 a0_0), (.slice A0_1 l0_1.length c0_1)] 26 (0, 0)) (by (with_reducible repeat (first | refine blk_drewN ?_ _ | refine blk_drew ?_ | refine blk_alloc ?_ _)); exact BM.out) hb); have n_HB := aQ (below_step (by repeat (first | (with_reducible first | exact HB.out | apply below_alloc | apply pw_below_drewN | apply below_drew1 | refine below_set ?_ GBM.out) | exact HB.out)) hb); clear HB; clear BM; have BM := n_BM; clear n_BM; have HB := n_HB; clear n_HB; have BW := aQ hbox; clear hb hbox hg; have zBM0 : wb_.cell? ⟨gm, 0, none⟩ = some (.int .i64 a0_0) := (blk_cell BM.out 0).trans rfl; have zBM1 : wb_.cell? ⟨gm, 1, none⟩ = some (.slice A0_1 l0_1.length c0_1) := (blk_cell BM.out 1).trans rfl; have zBW0 : wb_.cell? ⟨gw, 0, none⟩ = some (.slice A1 l1.length c1) := (blk_cell BW.out 0).trans rfl) | (go_at_call 60; (with_reducible refine (impl_IsMatroid.calls k a0_0 _ _ l0_1 true _ ?side1 ?side2 HT.out).mono ?_); (case side1 => exact (Kd.C_below HR.out (by repeat (first | (with_reducible first | exact HB.out | apply below_alloc | apply pw_below_drewN | apply below_drew1 | refine below_set ?_ GBM.out | refine below_set ?_ GBW.out) | exact HB.out)))); (case side2 => exact HC.out); rintro e wc_ ⟨rfl, hb⟩; have n_BM := aQ (blk_below (g := gm) (o := .cells #[(.int .i64 a0_0), (.slice A0_1 l0_1.length c0_1)] 26 (0, 0)) (by (with_reducible repeat (first | refine blk_drewN ?_ _ | refine blk_drew ?_ | refine blk_alloc ?_ _)); exact BM.out) hb); have n_BW := aQ (blk_below (g := gw) (o := .cells #[(.slice A1 l1.length c1)] 22 (0, 0)) (by (with_reducible repeat (first | refine blk_drewN ?_ _ | refine blk_drew ?_ | refine blk_alloc ?_ _)); exact BW.out) hb); have n_HB := aQ (below_step (by repeat (first | (with_reducible first | exact HB.out | apply below_alloc | apply pw_below_drewN | apply below_drew1 | refine below_set ?_ GBM.out | refine below_set ?_ GBW.out) | exact HB.out)) hb); clear HB; clear BM; have BM := n_BM; clear n_BM; clear BW; have BW := n_BW; clear n_BW; have HB := n_HB; clear n_HB; clear hb; have zBM0 : wc_.cell? ⟨gm, 0, none⟩ = some (.int .i64 a0_0) := (blk_cell BM.out 0).trans rfl; have zBM1 : wc_.cell? ⟨gm, 1, none⟩ = some (.slice A0_1 l0_1.length c0_1) := (blk_cell BM.out 1).trans rfl; have zBW0 : wc_.cell? ⟨gw, 0, none⟩ = some (.slice A1 l1.length c1) := (blk_cell BW.out 0).trans rfl) | (go_at_call 144; (with_reducible refine (impl_AreWeights.calls k a0_0 _ _ l1 true _ ?side3 ?side4 HU.out).mono ?_); (case side3 => repeat (first | exact (Kd.C_below HR2.out (by repeat (first | (with_reducible first | exact HB.out | apply below_alloc | apply pw_below_drewN | apply below_drew1 | refine below_set ?_ GBM.out | refine below_set ?_ GBW.out) | exact HB.out))) | exact HR2.out)); (case side4 => exact HC2.out); rintro e wd_ ⟨rfl, ⟨nd, rfl⟩⟩; have zqBM0 : (wc_.drewN nd).cell? ⟨gm, 0, none⟩ = some (.int .i64 a0_0) := (blk_cell BM.out 0).trans rfl; have zqBM1 : (wc_.drewN nd).cell? ⟨gm, 1, none⟩ = some (.slice A0_1 l0_1.length c0_1) := (blk_cell BM.out 1).trans rfl; have zqBW0 : (wc_.drewN nd).cell? ⟨gw, 0, none⟩ = some (.slice A1 l1.length c1) := (blk_cell BW.out 0).trans rfl) | (go_at_call 94; (with_reducible refine (impl_FullSet.calls a0_0 m _ HF.out).mono ?_); rintro e we_ ⟨rfl, ⟨nd2, rfl⟩⟩) | (go_at_call 146; (with_reducible refine (impl_ElementsOf.calls k m y _ HY.out).mono ?_); rintro e wf_ ⟨v_, rfl, ho_, hb⟩; have m_HE := aQ (Kd.R_lower ho_ (below_size (by repeat (first | (with_reducible first | exact HB.out | apply below_alloc | apply pw_below_drewN | apply below_drew1 | refine below_set ?_ GBM.out | refine below_set ?_ GBW.out) | exact HB.out)))); have n_BM := aQ (blk_below (g := gm) (o := .cells #[(.int .i64 a0_0), (.slice A0_1 l0_1.length c0_1)] 26 (0, 0)) (by (with_reducible repeat (first | refine blk_drewN ?_ _ | refine blk_drew ?_ | refine blk_alloc ?_ _)); exact BM.out) hb); have n_BW := aQ (blk_below (g := gw) (o := .cells #[(.slice A1 l1.length c1)] 22 (0, 0)) (by (with_reducible repeat (first | refine blk_drewN ?_ _ | refine blk_drew ?_ | refine blk_alloc ?_ _)); exact BW.out) hb); have n_HB := aQ (below_step (by repeat (first | (with_reducible first | exact HB.out | apply below_alloc | apply pw_below_drewN | apply below_drew1 | refine below_set ?_ GBM.out | refine below_set ?_ GBW.out) | exact HB.out)) hb); clear HB; clear BM; have BM := n_BM; clear n_BM; clear BW; have BW := n_BW; clear n_BW; have HB := n_HB; clear n_HB; have HE := m_HE; clear m_HE ho_; obtain ⟨AHE, cHE, eHE⟩ := Kd.R_slice HE.out; subst eHE; clear hb) | (go_at_call 148; (with_reducible refine (sortStableG_walk A1 c1 l1 y AHE cHE gw (fun _ => True) w _ HR2.out HB.out BW.out HG.out.1 HG.out.2.1 HE.out HG.out.2.2).mono ?_); rintro e wS ⟨rfl, hR_, hB_, hW_, hK_⟩; have n_BM := aQ (blk_kept (g := gm) (o := .cells #[(.int .i64 a0_0), (.slice A0_1 l0_1.length c0_1)] 26 (0, 0)) BM.out hK_ (Kd.R_ne HE.out BM.out (by decide))); clear BM BW HE HB; have BM := n_BM; have BW := aQ hW_; have HE := aQ hR_; have HB := aQ hB_; clear n_BM hR_ hB_ hW_ hK_) | ((with_reducible refine gate_dst (N := 28) rfl ?_); refine Kd.R_lit (Kd.int .i64) _ 3 ?hg (N := 28) ?hd (xs := ([] : List Int)) (inner := []) (ok := fun _ => True) (okp := fun _ => True) ?hr ?hp (fun _ hk => hk) trivial (Below.refl _ _) (Nat.le_refl _) (by simp) ?_; (case hd => rfl); (case hg => rfl); (case hr => first | (go_simp; done) | (go_simp; rfl)); (case hp => exact (Reps.none _ _)); intro v28_ wL ho3 hb hg_ hnew_; clear hg_ hnew_; have HO := aQ ho3; have HS := aQ hb; clear ho3 hb))
    have HCE := aQ (Kd.R_reads' HE.out).2.2
    have eL := (gOrd_len l1 y).symm
    have hl20 := HG.out.2.2
    clear HE HY HG HF
    try clear zqBM0
    try clear zqBM1
    try clear zqBW0
    try clear zBM0
    try clear zBM1
    try clear zBW0
    generalize gOrd l1 y = ys at *
    generalize hLL : y.length = LL at *
    clear hLL
    subst eL
    have HL := aQ hl20
    clear hl20 BW
    go_loopg [7, 8, 31] ys.length (fun gg s7 s8 s31 wr => ∃ (x s : Int) (acc : List Int), s31 = .int .i64 x ∧ s8 = .int .i64 s ∧ Aside0 (0 ≤ x ∧ x ≤ (ys.length : Int)) ∧ Aside0 (ys.length - x.toNat ≤ gg) ∧ Aside0 (greedyO k a0_0 l0_1 (ys.drop x.toNat) s acc = some z) ∧ Aside0 (Kd.R (Kd.int .i64) 3 wr wS.heap.size (fun _ => True) s7 acc) ∧ Aside0 (Below wS.heap.size wS wr))
    case atStart => exact ⟨0, 0, [], by first | rfl | (simp; done), by first | rfl | (simp; done), ⟨by omega⟩, ⟨by omega⟩, ⟨HZ.out⟩, ⟨HO.out⟩, ⟨HS.out⟩⟩
    case round =>
     clear HZ HO HS
     obtain ⟨x, s, acc, rfl, rfl, HX, HGG, HI, HO, HS⟩ := hrel
     by_cases hlt : x < (ys.length : Int)
     ·have p1 : 0 ≤ x := HX.out.1
      have l1_ : decide (x < (ys.length : Int)) = true := decide_eq_true hlt
      obtain ⟨ad, ea, hx⟩ := Kd.at_int HCE.out x p1 hlt
      cases ea
      replace hx := (HS.out.cell (World.block_lt_of_cell? wS _ hx)).trans hx
      have hI := HI.out
      rw [int_drop ys x p1 hlt] at hI
      simp only [greedyO] at hI
      have E1 := Lib.hid (wrap64_of (n := x + 1) (by have := HL.out; omega) (by have := HL.out; omega))
      have Q1 := aQ hlt
      have P1 := aQ p1
      replace p1 := eq_true p1
      replace hlt := eq_true hlt
      clear HI
      generalize rd ys x = ex at hI hx
      by_cases h0 : 0 ≤ ex ∧ ex ≤ 64
      ·rw [if_pos h0] at hI
       obtain ⟨b, hb_, hI⟩ := Option.bind_eq_some_iff.1 hI
       obtain ⟨ji, hji⟩ : ∃ j_ : Int, shl .i64 1 ex = j_ := ⟨_, rfl⟩
       rw [hji] at hI hb_
       have hji_ : (IntKind.i64.wrap (1 * 2 ^ min ex.toNat 64)) = ji := hji
       have hjiz : ex ≤ 64 → (IntKind.i64.wrap (1 * 2 ^ ex.toNat)) = ji := shl_small hji
       have hjiu : (IntKind.i64.wrap (2 ^ min ex.toNat 64)) = ji := by have h_ := hji_; rw [Int.one_mul] at h_; exact h_
       have hjiv : ex ≤ 64 → (IntKind.i64.wrap (2 ^ ex.toNat)) = ji := fun hle_ => by have h_ := hjiz hle_; rw [Int.one_mul] at h_; exact h_
       have hjiy : (wrap64 (1 * 2 ^ min ex.toNat 64)) = ji := (i64_w _).symm.trans hji_
       have hjix : ex ≤ 64 → (wrap64 (1 * 2 ^ ex.toNat)) = ji := fun h_ => (i64_w _).symm.trans (hjiz h_)
       have p5 : (0 ≤ ex) = True := eq_true h0.1
       have p6 : (ex ≤ 64) = True := eq_true h0.2
       have p7 : decide (0 ≤ ex) = true := decide_eq_true h0.1
       have p8 : (ex < 0) = False := eq_false (by omega)
       have p9 : decide (ex < 0) = false := decide_eq_false (by omega)
       have HBI := Lib.hid hb_
       clear hb_ h0
       have BMr := aQ (blk_below (o := .cells #[(.int .i64 a0_0), (.slice A0_1 l0_1.length c0_1)] 26 (0, 0)) BM.out HS.out)
       have HRr := aQ (Kd.C_below HR.out (below_step HB.out HS.out))
       cases b with
       | true =>
        rw [if_pos rfl] at hI
        by_cases hac : acc.length < 17592186044416
        ·rw [if_pos hac] at hI
         have LM := aQ hac
         clear hac
         have HI2 := Lib.hid hI
         clear hI
         go_wp2
         have n_BMr : Aside0 (wr.drew.heap[gm]? = some (.cells #[(.int .i64 a0_0), (.slice A0_1 l0_1.length c0_1)] 26 (0, 0))) := ⟨blk_drew BMr.out⟩
         have n_HO : Aside0 (Kd.R (Kd.int .i64) 3 wr.drew wS.heap.size (fun _ => True) u7 acc) := ⟨Kd.R_drew HO.out⟩
         have n_HS : Aside0 (Below wS.heap.size wS wr.drew) := ⟨below_drew1 HS.out⟩
         clear BMr HO HS
         have BMr := n_BMr
         have HO := n_HO
         have HS := n_HS
         clear n_BMr n_HO n_HS
         refine start_ (n := 6) (S := fun w' => w'.cell? ⟨gm, 0, none⟩ = some (.int .i64 a0_0) ∧ w'.cell? ⟨gm, 1, none⟩ = some (.slice A0_1 l0_1.length c0_1)) (ds := []) #[false, false, false, false, false, false] (by kernel_rfl) rfl rfl ⟨((blk_cell BMr.out 0).trans rfl), ((blk_cell BMr.out 1).trans rfl)⟩ (fun hHeld => ?_)
         generalize wr.drew = wD_ at BMr HO HS hHeld ⊢
         refine pure_ (i := 1) (N := some 36) (v := ?_) (a' := ?_) #[false, true, false, false, false, false] rfl rfl (by kernel_rfl) (fun _ _ _ h => h) (Or.inl ⟨by rfl, ?_⟩) ?_ ?_
         rotate_left
         ·intro w'
          go_simp
          with_reducible rfl
         rotate_left
         ·simp only [Act.put, List.setIfInBounds_toArray, List.set_cons_zero, List.set_cons_succ, i64_w, i32_w]
          rfl
         refine pure_ (i := 2) (N := some 37) (v := ?_) (a' := ?_) #[false, true, true, false, false, false] rfl rfl (by kernel_rfl) (fun _ _ _ h => h) (Or.inl ⟨by rfl, ?_⟩) ?_ ?_
         rotate_left
         ·intro w'
          go_simp
          with_reducible rfl
         rotate_left
         ·simp only [Act.put, List.setIfInBounds_toArray, List.set_cons_zero, List.set_cons_succ, i64_w, i32_w]
          rfl
         refine pure_ (i := 3) (N := some 38) (v := ?_) (a' := ?_) #[false, true, true, true, false, false] rfl rfl (by kernel_rfl) (fun _ _ _ h => h) (Or.inl ⟨by rfl, ?_⟩) ?_ ?_
         rotate_left
         ·intro w'
          go_simp
          with_reducible rfl
         rotate_left
         ·simp only [Act.put, List.setIfInBounds_toArray, List.set_cons_zero, List.set_cons_succ, i64_w, i32_w]
          rfl
         refine pure_ (i := 4) (N := some 39) (v := ?_) (a' := ?_) #[false, true, true, true, true, false] rfl rfl (by kernel_rfl) (fun _ _ _ h => h) (Or.inl ⟨by rfl, ?_⟩) ?_ ?_
         rotate_left
         ·intro w'
          go_simp
          with_reducible rfl
         rotate_left
         ·simp only [Act.put, List.setIfInBounds_toArray, List.set_cons_zero, List.set_cons_succ, i64_w, i32_w]
          rfl
         refine take_ (i := 0) (N := some 35) (v := ?_) (a' := ?_) #[true, true, true, true, true, false] rfl rfl (by kernel_rfl) (fun _ _ _ h => h) (Or.inl ⟨by rfl, ?_⟩) hHeld ?_ ?_
         rotate_left
         ·rintro w' ⟨s0, s1⟩
          go_simp
          with_reducible rfl
         rotate_left
         ·simp only [Act.put, List.setIfInBounds_toArray, List.set_cons_zero, List.set_cons_succ, i64_w, i32_w]
          rfl
         refine one_ (i := 5) (N := some 40) #[true, true, true, true, true, true] rfl rfl (by kernel_rfl) (by decide) (fun K hK => ?_)
         refine goes_ Try.func65 (by kernel_rfl) rfl #[.agg #[.int .i64 a0_0, .slice A0_1 l0_1.length c0_1], .int .i64 (Go.bits .or .i64 s ji)] (by rfl) rfl rfl (by (try simp only [List.map_toArray, List.map_cons, List.map_nil]); first | done | rfl) ?_
         with_reducible refine (impl_independent.calls k a0_0 _ _ l0_1 _ true _ ?side1 ?side2 HBI.out).mono ?_
         (case side1 => exact (Kd.C_below HR.out (below_step HB.out HS.out)))
         (case side2 => exact HC.out)
         rintro e w5_ ⟨rfl, hb⟩
         refine ⟨_, rfl, ?_⟩
         have n_BMr := aQ (blk_below (g := gm) (o := .cells #[(.int .i64 a0_0), (.slice A0_1 l0_1.length c0_1)] 26 (0, 0)) BMr.out hb)
         have n_HO := aQ (Kd.R_below HO.out hb)
         have n_HS := aQ (below_step HS.out hb)
         clear BMr HO HS
         have BMr := n_BMr
         have HO := n_HO
         have HS := n_HS
         clear n_BMr n_HO n_HS hb
         refine hK.out _ _ ⟨((blk_cell BMr.out 0).trans rfl), ((blk_cell BMr.out 1).trans rfl)⟩ (fun hHeld => ?_)
         clear hK K
         refine norm_ (a' := ?_) ?_ ?_
         rotate_left
         ·show Act.put _ (some 40) _ = _
          simp only [Act.put, List.setIfInBounds_toArray, List.set_cons_zero, List.set_cons_succ, i64_w, i32_w]
          rfl
         refine done_ (by kernel_rfl) ?_
         go_wp2_with (first | ((with_reducible refine gate_builtin (b := .append) (xs := #[.tmp 45, .tmp 47]) rfl ?_); at_builtin; refine Kd.R_append (Kd.int .i64) (w0 := wS) wS.heap.size rfl (.tmp 45) (.tmp 47) 22 3 (.int .i64 0) 8 rfl Try.underlying22 info3 rfl (by decide) (by omega) u7 acc ex [.int .i64 ex] (fun _ => True) (fun _ => False) rfl rfl ?aP (fun _ hk => hk.elim) ?aF ?aO ?aB ?aS ?aL ?_; (case aP => exact rfl); (case aB => exact HS.out); (case aF => exact (fun _ _ => trivial)); (case aO => exact HO.out); (case aS => exact (below_size HS.out)); (case aL => have := LM.out; omega); intro v48_ w8 ho hb hg hat; have n0_ := aQ hb; have n1_ := aQ ho; clear HS HO; have HS := n0_; have HO := n1_; clear n0_ n1_ ho hb hg hat))
         go_roundg (ys.length - (x + 1).toNat)
         case measure => have := HGG.out; have := HX.out; have := Q1.out; omega
         case rel => exact ⟨x + 1, (Go.bits .or .i64 s ji), acc ++ [ex], by rw [E1.out], by first | rfl | (simp; done) | (simp [*]; done), ⟨by have := HX.out; have := Q1.out; omega⟩, ⟨Nat.le_refl _⟩, ⟨HI2.out⟩, ⟨HO.out⟩, ⟨HS.out⟩⟩
        ·rw [if_neg hac] at hI; cases hI
       | false =>
        rw [if_neg (by decide)] at hI
        have HI2 := Lib.hid hI
        clear hI
        go_wp2
        have n_BMr : Aside0 (wr.drew.heap[gm]? = some (.cells #[(.int .i64 a0_0), (.slice A0_1 l0_1.length c0_1)] 26 (0, 0))) := ⟨blk_drew BMr.out⟩
        have n_HO : Aside0 (Kd.R (Kd.int .i64) 3 wr.drew wS.heap.size (fun _ => True) u7 acc) := ⟨Kd.R_drew HO.out⟩
        have n_HS : Aside0 (Below wS.heap.size wS wr.drew) := ⟨below_drew1 HS.out⟩
        clear BMr HO HS
        have BMr := n_BMr
        have HO := n_HO
        have HS := n_HS
        clear n_BMr n_HO n_HS
        refine start_ (n := 6) (S := fun w' => w'.cell? ⟨gm, 0, none⟩ = some (.int .i64 a0_0) ∧ w'.cell? ⟨gm, 1, none⟩ = some (.slice A0_1 l0_1.length c0_1)) (ds := []) #[false, false, false, false, false, false] (by kernel_rfl) rfl rfl ⟨((blk_cell BMr.out 0).trans rfl), ((blk_cell BMr.out 1).trans rfl)⟩ (fun hHeld => ?_)
        generalize wr.drew = wD_ at BMr HO HS hHeld ⊢
        refine pure_ (i := 1) (N := some 36) (v := ?_) (a' := ?_) #[false, true, false, false, false, false] rfl rfl (by kernel_rfl) (fun _ _ _ h => h) (Or.inl ⟨by rfl, ?_⟩) ?_ ?_
        rotate_left
        ·intro w'
         go_simp
         with_reducible rfl
        rotate_left
        ·simp only [Act.put, List.setIfInBounds_toArray, List.set_cons_zero, List.set_cons_succ, i64_w, i32_w]
         rfl
        refine pure_ (i := 2) (N := some 37) (v := ?_) (a' := ?_) #[false, true, true, false, false, false] rfl rfl (by kernel_rfl) (fun _ _ _ h => h) (Or.inl ⟨by rfl, ?_⟩) ?_ ?_
        rotate_left
        ·intro w'
         go_simp
         with_reducible rfl
        rotate_left
        ·simp only [Act.put, List.setIfInBounds_toArray, List.set_cons_zero, List.set_cons_succ, i64_w, i32_w]
         rfl
        refine pure_ (i := 3) (N := some 38) (v := ?_) (a' := ?_) #[false, true, true, true, false, false] rfl rfl (by kernel_rfl) (fun _ _ _ h => h) (Or.inl ⟨by rfl, ?_⟩) ?_ ?_
        rotate_left
        ·intro w'
         go_simp
         with_reducible rfl
        rotate_left
        ·simp only [Act.put, List.setIfInBounds_toArray, List.set_cons_zero, List.set_cons_succ, i64_w, i32_w]
         rfl
        refine pure_ (i := 4) (N := some 39) (v := ?_) (a' := ?_) #[false, true, true, true, true, false] rfl rfl (by kernel_rfl) (fun _ _ _ h => h) (Or.inl ⟨by rfl, ?_⟩) ?_ ?_
        rotate_left
        ·intro w'
         go_simp
         with_reducible rfl
        rotate_left
        ·simp only [Act.put, List.setIfInBounds_toArray, List.set_cons_zero, List.set_cons_succ, i64_w, i32_w]
         rfl
        refine take_ (i := 0) (N := some 35) (v := ?_) (a' := ?_) #[true, true, true, true, true, false] rfl rfl (by kernel_rfl) (fun _ _ _ h => h) (Or.inl ⟨by rfl, ?_⟩) hHeld ?_ ?_
        rotate_left
        ·rintro w' ⟨s0, s1⟩
         go_simp
         with_reducible rfl
        rotate_left
        ·simp only [Act.put, List.setIfInBounds_toArray, List.set_cons_zero, List.set_cons_succ, i64_w, i32_w]
         rfl
        refine one_ (i := 5) (N := some 40) #[true, true, true, true, true, true] rfl rfl (by kernel_rfl) (by decide) (fun K hK => ?_)
        refine goes_ Try.func65 (by kernel_rfl) rfl #[.agg #[.int .i64 a0_0, .slice A0_1 l0_1.length c0_1], .int .i64 (Go.bits .or .i64 s ji)] (by rfl) rfl rfl (by (try simp only [List.map_toArray, List.map_cons, List.map_nil]); first | done | rfl) ?_
        with_reducible refine (impl_independent.calls k a0_0 _ _ l0_1 _ false _ ?side1 ?side2 HBI.out).mono ?_
        (case side1 => exact (Kd.C_below HR.out (below_step HB.out HS.out)))
        (case side2 => exact HC.out)
        rintro e w5_ ⟨rfl, hb⟩
        refine ⟨_, rfl, ?_⟩
        have n_BMr := aQ (blk_below (g := gm) (o := .cells #[(.int .i64 a0_0), (.slice A0_1 l0_1.length c0_1)] 26 (0, 0)) BMr.out hb)
        have n_HO := aQ (Kd.R_below HO.out hb)
        have n_HS := aQ (below_step HS.out hb)
        clear BMr HO HS
        have BMr := n_BMr
        have HO := n_HO
        have HS := n_HS
        clear n_BMr n_HO n_HS hb
        refine hK.out _ _ ⟨((blk_cell BMr.out 0).trans rfl), ((blk_cell BMr.out 1).trans rfl)⟩ (fun hHeld => ?_)
        clear hK K
        refine norm_ (a' := ?_) ?_ ?_
        rotate_left
        ·show Act.put _ (some 40) _ = _
         simp only [Act.put, List.setIfInBounds_toArray, List.set_cons_zero, List.set_cons_succ, i64_w, i32_w]
         rfl
        refine done_ (by kernel_rfl) ?_
        go_wp2
        go_roundg (ys.length - (x + 1).toNat)
        case measure => have := HGG.out; have := HX.out; have := Q1.out; omega
        case rel => exact ⟨x + 1, s, acc, by rw [E1.out], rfl, ⟨by have := HX.out; have := Q1.out; omega⟩, ⟨Nat.le_refl _⟩, ⟨HI2.out⟩, ⟨HO.out⟩, ⟨HS.out⟩⟩
      ·rw [if_neg h0] at hI; cases hI
     ·have l1_ : decide (x < (ys.length : Int)) = false := decide_eq_false hlt
      have hI := HI.out
      rw [int_drop_end ys x hlt] at hI
      simp only [greedyO, Option.some.injEq] at hI
      subst hI
      clear HI hlt
      go_wp2
      go_ret2
      exact ⟨_, by first | rfl | (simp; done) | (simp [*]; done), by (with_reducible repeat (first | apply Kd.R_alloc | apply Kd.R_drewN | apply Kd.R_drew)); exact Kd.R_lower HO.out (below_size HB.out), below_step HB.out HS.out⟩
   ·rw [if_neg hg] at h; cases h
  ·have c5 := Bool.eq_false_iff.mpr c4
   subst c5
   clear c4
   rw [if_neg (by decide)] at h
   simp only [Option.some.injEq, Prod.mk.injEq] at h
   obtain ⟨rfl, rfl⟩ := h
   go_enter Try.func86, Try.ntmps86
   go_wp2_with (first | ((with_reducible refine gate_dst (N := 2) rfl ?_); refine box_event ?hg (N := 2) ?hd (cs := #[(.int .i64 a0_0), (.slice A0_1 l0_1.length c0_1)]) (t := 26) ?hr ?_; (case hd => rfl); (case hg => rfl); (case hr => first | (go_simp; done) | (go_simp; rfl)); intro gm hg wa_ hbox hb; have GBM := aQ ((by rw [hg]; exact below_size (by repeat (first | (with_reducible first | exact HB.out | apply below_alloc | apply pw_below_drewN | apply below_drew1) | exact HB.out))) : w.heap.size ≤ gm); replace HB := aQ (below_step (by repeat (first | (with_reducible first | exact HB.out | apply below_alloc | apply pw_below_drewN | apply below_drew1) | exact HB.out)) hb); have BM := aQ hbox; clear hb hbox hg; have zBM0 : wa_.cell? ⟨gm, 0, none⟩ = some (.int .i64 a0_0) := (blk_cell BM.out 0).trans rfl; have zBM1 : wa_.cell? ⟨gm, 1, none⟩ = some (.slice A0_1 l0_1.length c0_1) := (blk_cell BM.out 1).trans rfl) | ((with_reducible refine gate_dst (N := 3) rfl ?_); refine box_event ?hg (N := 3) ?hd (cs := #[(.slice A1 l1.length c1)]) (t := 22) ?hr ?_; (case hd => rfl); (case hg => rfl); (case hr => first | (go_simp; done) | (go_simp; rfl)); intro gw hg wb_ hbox hb; have NBMBW := aQ ((by rw [hg]; exact Nat.ne_of_lt (blk_lt (g := gm) (o := .cells #[(.int .i64 a0_0), (.slice A0_1 l0_1.length c0_1)] 26 (0, 0)) (by (with_reducible repeat (first | refine blk_drewN ?_ _ | refine blk_drew ?_ | refine blk_alloc ?_ _)); exact BM.out))) : gm ≠ gw); have GBW := aQ ((by rw [hg]; exact below_size (by repeat (first | (with_reducible first | exact HB.out | apply below_alloc | apply pw_below_drewN | apply below_drew1 | refine below_set ?_ GBM.out) | exact HB.out))) : w.heap.size ≤ gw); have n_BM := aQ (blk_below (g := gm) (o := .cells #[(.int .i64 a0_0), (.slice A0_1 l0_1.length c0_1)] 26 (0, 0)) (by (with_reducible repeat (first | refine blk_drewN ?_ _ | refine blk_drew ?_ | refine blk_alloc ?_ _)); exact BM.out) hb); have n_HB := aQ (below_step (by repeat (first | (with_reducible first | exact HB.out | apply below_alloc | apply pw_below_drewN | apply below_drew1 | refine below_set ?_ GBM.out) | exact HB.out)) hb); clear HB; clear BM; have BM := n_BM; clear n_BM; have HB := n_HB; clear n_HB; have BW := aQ hbox; clear hb hbox hg; have zBM0 : wb_.cell? ⟨gm, 0, none⟩ = some (.int .i64 a0_0) := (blk_cell BM.out 0).trans rfl; have zBM1 : wb_.cell? ⟨gm, 1, none⟩ = some (.slice A0_1 l0_1.length c0_1) := (blk_cell BM.out 1).trans rfl; have zBW0 : wb_.cell? ⟨gw, 0, none⟩ = some (.slice A1 l1.length c1) := (blk_cell BW.out 0).trans rfl) | (go_at_call 60; (with_reducible refine (impl_IsMatroid.calls k a0_0 _ _ l0_1 true _ ?side1 ?side2 HT.out).mono ?_); (case side1 => exact (Kd.C_below HR.out (by repeat (first | (with_reducible first | exact HB.out | apply below_alloc | apply pw_below_drewN | apply below_drew1 | refine below_set ?_ GBM.out | refine below_set ?_ GBW.out) | exact HB.out)))); (case side2 => exact HC.out); rintro e wc_ ⟨rfl, hb⟩; have n_BM := aQ (blk_below (g := gm) (o := .cells #[(.int .i64 a0_0), (.slice A0_1 l0_1.length c0_1)] 26 (0, 0)) (by (with_reducible repeat (first | refine blk_drewN ?_ _ | refine blk_drew ?_ | refine blk_alloc ?_ _)); exact BM.out) hb); have n_BW := aQ (blk_below (g := gw) (o := .cells #[(.slice A1 l1.length c1)] 22 (0, 0)) (by (with_reducible repeat (first | refine blk_drewN ?_ _ | refine blk_drew ?_ | refine blk_alloc ?_ _)); exact BW.out) hb); have n_HB := aQ (below_step (by repeat (first | (with_reducible first | exact HB.out | apply below_alloc | apply pw_below_drewN | apply below_drew1 | refine below_set ?_ GBM.out | refine below_set ?_ GBW.out) | exact HB.out)) hb); clear HB; clear BM; have BM := n_BM; clear n_BM; clear BW; have BW := n_BW; clear n_BW; have HB := n_HB; clear n_HB; clear hb; have zBM0 : wc_.cell? ⟨gm, 0, none⟩ = some (.int .i64 a0_0) := (blk_cell BM.out 0).trans rfl; have zBM1 : wc_.cell? ⟨gm, 1, none⟩ = some (.slice A0_1 l0_1.length c0_1) := (blk_cell BM.out 1).trans rfl; have zBW0 : wc_.cell? ⟨gw, 0, none⟩ = some (.slice A1 l1.length c1) := (blk_cell BW.out 0).trans rfl) | (go_at_call 144; (with_reducible refine (impl_AreWeights.calls k a0_0 _ _ l1 false _ ?side3 ?side4 HU.out).mono ?_); (case side3 => repeat (first | exact (Kd.C_below HR2.out (by repeat (first | (with_reducible first | exact HB.out | apply below_alloc | apply pw_below_drewN | apply below_drew1 | refine below_set ?_ GBM.out | refine below_set ?_ GBW.out) | exact HB.out))) | exact HR2.out)); (case side4 => exact HC2.out); rintro e wd_ ⟨rfl, ⟨nd, rfl⟩⟩; have zqBM0 : (wc_.drewN nd).cell? ⟨gm, 0, none⟩ = some (.int .i64 a0_0) := (blk_cell BM.out 0).trans rfl; have zqBM1 : (wc_.drewN nd).cell? ⟨gm, 1, none⟩ = some (.slice A0_1 l0_1.length c0_1) := (blk_cell BM.out 1).trans rfl; have zqBW0 : (wc_.drewN nd).cell? ⟨gw, 0, none⟩ = some (.slice A1 l1.length c1) := (blk_cell BW.out 0).trans rfl))
   go_ret2
   exact ⟨_, by first | rfl | (simp; done) | (simp [*]; done), Kd.R_nil _ _ _ _ _, (by repeat (first | (with_reducible first | exact HB.out | apply below_alloc | apply pw_below_drewN | apply below_drew1 | refine below_set ?_ GBM.out | refine below_set ?_ GBW.out) | exact HB.out))⟩
 ·have c4 := Bool.eq_false_iff.mpr c3
  subst c4
  clear c3
  rw [if_neg (by decide)] at h
  simp only [Option.some.injEq, Prod.mk.injEq] at h
  obtain ⟨rfl, rfl⟩ := h
  go_enter Try.func86, Try.ntmps86
  go_wp2_with (first | ((with_reducible refine gate_dst (N := 2) rfl ?_); refine box_event ?hg (N := 2) ?hd (cs := #[(.int .i64 a0_0), (.slice A0_1 l0_1.length c0_1)]) (t := 26) ?hr ?_; (case hd => rfl); (case hg => rfl); (case hr => first | (go_simp; done) | (go_simp; rfl)); intro gm hg wa_ hbox hb; have GBM := aQ ((by rw [hg]; exact below_size (by repeat (first | (with_reducible first | exact HB.out | apply below_alloc | apply pw_below_drewN | apply below_drew1) | exact HB.out))) : w.heap.size ≤ gm); replace HB := aQ (below_step (by repeat (first | (with_reducible first | exact HB.out | apply below_alloc | apply pw_below_drewN | apply below_drew1) | exact HB.out)) hb); have BM := aQ hbox; clear hb hbox hg; have zBM0 : wa_.cell? ⟨gm, 0, none⟩ = some (.int .i64 a0_0) := (blk_cell BM.out 0).trans rfl; have zBM1 : wa_.cell? ⟨gm, 1, none⟩ = some (.slice A0_1 l0_1.length c0_1) := (blk_cell BM.out 1).trans rfl) | ((with_reducible refine gate_dst (N := 3) rfl ?_); refine box_event ?hg (N := 3) ?hd (cs := #[(.slice A1 l1.length c1)]) (t := 22) ?hr ?_; (case hd => rfl); (case hg => rfl); (case hr => first | (go_simp; done) | (go_simp; rfl)); intro gw hg wb_ hbox hb; have NBMBW := aQ ((by rw [hg]; exact Nat.ne_of_lt (blk_lt (g := gm) (o := .cells #[(.int .i64 a0_0), (.slice A0_1 l0_1.length c0_1)] 26 (0, 0)) (by (with_reducible repeat (first | refine blk_drewN ?_ _ | refine blk_drew ?_ | refine blk_alloc ?_ _)); exact BM.out))) : gm ≠ gw); have GBW := aQ ((by rw [hg]; exact below_size (by repeat (first | (with_reducible first | exact HB.out | apply below_alloc | apply pw_below_drewN | apply below_drew1 | refine below_set ?_ GBM.out) | exact HB.out))) : w.heap.size ≤ gw); have n_BM := aQ (blk_below (g := gm) (o := .cells #[(.int .i64 a0_0), (.slice A0_1 l0_1.length c0_1)] 26 (0, 0)) (by (with_reducible repeat (first | refine blk_drewN ?_ _ | refine blk_drew ?_ | refine blk_alloc ?_ _)); exact BM.out) hb); have n_HB := aQ (below_step (by repeat (first | (with_reducible first | exact HB.out | apply below_alloc | apply pw_below_drewN | apply below_drew1 | refine below_set ?_ GBM.out) | exact HB.out)) hb); clear HB; clear BM; have BM := n_BM; clear n_BM; have HB := n_HB; clear n_HB; have BW := aQ hbox; clear hb hbox hg; have zBM0 : wb_.cell? ⟨gm, 0, none⟩ = some (.int .i64 a0_0) := (blk_cell BM.out 0).trans rfl; have zBM1 : wb_.cell? ⟨gm, 1, none⟩ = some (.slice A0_1 l0_1.length c0_1) := (blk_cell BM.out 1).trans rfl; have zBW0 : wb_.cell? ⟨gw, 0, none⟩ = some (.slice A1 l1.length c1) := (blk_cell BW.out 0).trans rfl) | (go_at_call 60; (with_reducible refine (impl_IsMatroid.calls k a0_0 _ _ l0_1 false _ ?side1 ?side2 HT.out).mono ?_); (case side1 => exact (Kd.C_below HR.out (by repeat (first | (with_reducible first | exact HB.out | apply below_alloc | apply pw_below_drewN | apply below_drew1 | refine below_set ?_ GBM.out | refine below_set ?_ GBW.out) | exact HB.out)))); (case side2 => exact HC.out); rintro e wc_ ⟨rfl, hb⟩; have n_BM := aQ (blk_below (g := gm) (o := .cells #[(.int .i64 a0_0), (.slice A0_1 l0_1.length c0_1)] 26 (0, 0)) (by (with_reducible repeat (first | refine blk_drewN ?_ _ | refine blk_drew ?_ | refine blk_alloc ?_ _)); exact BM.out) hb); have n_BW := aQ (blk_below (g := gw) (o := .cells #[(.slice A1 l1.length c1)] 22 (0, 0)) (by (with_reducible repeat (first | refine blk_drewN ?_ _ | refine blk_drew ?_ | refine blk_alloc ?_ _)); exact BW.out) hb); have n_HB := aQ (below_step (by repeat (first | (with_reducible first | exact HB.out | apply below_alloc | apply pw_below_drewN | apply below_drew1 | refine below_set ?_ GBM.out | refine below_set ?_ GBW.out) | exact HB.out)) hb); clear HB; clear BM; have BM := n_BM; clear n_BM; clear BW; have BW := n_BW; clear n_BW; have HB := n_HB; clear n_HB; clear hb; have zBM0 : wc_.cell? ⟨gm, 0, none⟩ = some (.int .i64 a0_0) := (blk_cell BM.out 0).trans rfl; have zBM1 : wc_.cell? ⟨gm, 1, none⟩ = some (.slice A0_1 l0_1.length c0_1) := (blk_cell BM.out 1).trans rfl; have zBW0 : wc_.cell? ⟨gw, 0, none⟩ = some (.slice A1 l1.length c1) := (blk_cell BW.out 0).trans rfl))
  go_ret2
  exact ⟨_, by first | rfl | (simp; done) | (simp [*]; done), Kd.R_nil _ _ _ _ _, (by repeat (first | (with_reducible first | exact HB.out | apply below_alloc | apply pw_below_drewN | apply below_drew1 | refine below_set ?_ GBM.out | refine below_set ?_ GBW.out) | exact HB.out))⟩
end Go.Proofs.Ytagncnjllpebjaa.A
