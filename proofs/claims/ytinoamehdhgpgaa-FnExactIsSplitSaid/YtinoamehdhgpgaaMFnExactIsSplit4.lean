/- The machine side of the law FnExactIsSplit, laid by a program of this work over the kit's print and contracts by hand: Go functions as Lean functions, and proofs that calls come to what these tell. Conditions: those in each theorem. -/
import Derived.Test.YtinoamehdhgpgaaMFnExactIsSplit0
import Derived.Test.YtinoamehdhgpgaaMFnExactIsSplitq0
import Derived.Test.YtinoamehdhgpgaaMFnExactIsSplit1
import Derived.Test.YtinoamehdhgpgaaMFnExactIsSplit2
import Derived.Test.YtinoamehdhgpgaaMFnExactIsSplit3
namespace Go.Proofs.Ytinoamehdhgpgaa.A
open Go.RowKit Go.Proofs.YtinoamehdhgpgaaW.PrintWords Go.Proofs.YtinoamehdhgpgaaW.PrintLast Go.Proofs.YtinoamehdhgpgaaW.PrintMore Go.Proofs.Ytinoamehdhgpgaa.Z
attribute [local go_sem] max2_int min2_int max_two min_two max_three min_three max_four min_four   -- for this text's walks alone
set_option linter.unusedVariables false
set_option linter.unusedSimpArgs false

/-! ### spec_l19Order: function 235 -/
mutual
def spec_l19Order.l0 : Nat → List Int → List Int → Int → Option (List Int)
 | 0, _, _, _ => none
 | k + 1, x0, x3, x4 => if x4 < (x0.length : Int) then (spec_l19Order.l1 k x0 x3 x4 (x3.length : Int)) else (some x3)
def spec_l19Order.l1 : Nat → List Int → List Int → Int → Int → Option (List Int)
 | 0, _, _, _, _ => none
 | k + 1, x0, x3, x4, x5 => if x5 > 0 then (if 0 ≤ (wrap64 (x5 - 1)) then (if (wrap64 (x5 - 1)) < (x3.length : Int) then (if 0 ≤ (rd x3 (wrap64 (x5 - 1))) then (if (rd x3 (wrap64 (x5 - 1))) < (x0.length : Int) then (if 0 ≤ x4 then (if x4 < (x0.length : Int) then (if (rd x0 (rd x3 (wrap64 (x5 - 1)))) < (rd x0 x4) then (spec_l19Order.l1 k x0 x3 x4 (wrap64 (x5 - 1))) else ((some (([] : List Int) : List Int)).bind fun y236007 => (if 0 ≤ x5 then (if x5 ≤ (x3.length : Int) then ((some (x3.drop (x5 : Int).toNat : List Int)).bind fun y236010 => (if y236007.length + y236010.length < 17592186044416 then ((some (y236007 ++ y236010 : List Int)).bind fun y236014 => ((some (x3.take (x5 : Int).toNat : List Int)).bind fun y236017 => (if y236017.length < 17592186044416 then ((some (y236017 ++ [x4] : List Int)).bind fun y236020 => (if y236020.length + y236014.length < 17592186044416 then (spec_l19Order.l0 k x0 (y236020 ++ y236014) (wrap64 (x4 + 1))) else (none))) else (none)))) else (none))) else (none)) else (none)))) else (none)) else (none)) else (none)) else (none)) else (none)) else (none)) else ((some (([] : List Int) : List Int)).bind fun y236026 => (if 0 ≤ x5 then (if x5 ≤ (x3.length : Int) then ((some (x3.drop (x5 : Int).toNat : List Int)).bind fun y236029 => (if y236026.length + y236029.length < 17592186044416 then ((some (y236026 ++ y236029 : List Int)).bind fun y236033 => ((some (x3.take (x5 : Int).toNat : List Int)).bind fun y236036 => (if y236036.length < 17592186044416 then ((some (y236036 ++ [x4] : List Int)).bind fun y236039 => (if y236039.length + y236033.length < 17592186044416 then (spec_l19Order.l0 k x0 (y236039 ++ y236033) (wrap64 (x4 + 1))) else (none))) else (none)))) else (none))) else (none)) else (none)))
end
def spec_l19Order.f (k : Nat) (l0 : List Int) : Option (List Int) := spec_l19Order.l0 k l0 (([] : List Int)) 0
theorem spec_l19Order.mono_l : ∀ k, (∀ y0 y1 y2, LeO (spec_l19Order.l0 k y0 y1 y2) (spec_l19Order.l0 (k + 1) y0 y1 y2)) ∧ (∀ y0 y1 y2 y3, LeO (spec_l19Order.l1 k y0 y1 y2 y3) (spec_l19Order.l1 (k + 1) y0 y1 y2 y3))
 | 0 => ⟨fun _ _ _ r h => by simp [spec_l19Order.l0] at h, fun _ _ _ _ r h => by simp [spec_l19Order.l1] at h⟩
 | k + 1 => by
  obtain ⟨ih0, ih1⟩ := spec_l19Order.mono_l k
  refine ⟨?_, ?_⟩
  ·intro y0 y1 y2
   unfold spec_l19Order.l0
   repeat' first
   | (with_reducible exact ih0 _ _ _)
   | (with_reducible exact ih1 _ _ _ _)
   | (with_reducible exact LeO.refl _)
   | (with_reducible exact LeO.none _)
   | (with_reducible refine LeO.ite ?_ ?_)
   | (with_reducible refine LeO.bind ?_ (fun _ => ?_))
   | exact ih0 _ _ _
   | exact ih1 _ _ _ _
   | exact LeO.none _
   | refine LeO.ite ?_ ?_
   | refine LeO.bind ?_ (fun _ => ?_)
  ·intro y0 y1 y2 y3
   unfold spec_l19Order.l1
   repeat' first
   | (with_reducible exact ih0 _ _ _)
   | (with_reducible exact ih1 _ _ _ _)
   | (with_reducible exact LeO.refl _)
   | (with_reducible exact LeO.none _)
   | (with_reducible refine LeO.ite ?_ ?_)
   | (with_reducible refine LeO.bind ?_ (fun _ => ?_))
   | exact ih0 _ _ _
   | exact ih1 _ _ _ _
   | exact LeO.none _
   | refine LeO.ite ?_ ?_
   | refine LeO.bind ?_ (fun _ => ?_)
theorem spec_l19Order.mono : ∀ a0 k, LeO (spec_l19Order.f k a0) (spec_l19Order.f (k + 1) a0) := by
 intro a0 k
 obtain ⟨ih0, ih1⟩ := spec_l19Order.mono_l k
 unfold spec_l19Order.f
 repeat' first
   | (with_reducible exact ih0 _ _ _)
   | (with_reducible exact ih1 _ _ _ _)
   | (with_reducible exact LeO.refl _)
   | (with_reducible exact LeO.none _)
   | (with_reducible refine LeO.ite ?_ ?_)
   | (with_reducible refine LeO.bind ?_ (fun _ => ?_))
   | exact ih0 _ _ _
   | exact ih1 _ _ _ _
   | exact LeO.none _
   | refine LeO.ite ?_ ?_
   | refine LeO.bind ?_ (fun _ => ?_)
set_option maxHeartbeats 8000000 in
set_option maxRecDepth 100000 in
theorem spec_l19Order.calls (k : Nat) (A0 : Option Addr) (c0 : Nat) (l0 : List Int) (r : List Int) (w : World) (hr0 : Kd.C (Kd.int .i64) w A0 l0.length l0) (hc0 : l0.length ≤ c0) (h : spec_l19Order.f k l0 = some r) :
  Calls Try.prog 235 #[.slice A0 l0.length c0] w fun e w' => ∃ v0_ : Value, e = .returned (v0_) ∧ Kd.R (Kd.int .i64) 3 w' w.heap.size (fun _ => True) v0_ r ∧ Below w.heap.size w w' := by
 have HR0 := aQ hr0
 have HC0 := aQ hc0
 clear hr0 hc0
 have HB := aQ (Below.refl w.heap.size w)
 have H : (spec_l19Order.l0 k l0 (([] : List Int)) 0) = some r := h
 clear h
 obtain ⟨y236001, hy236001⟩ : ∃ y_ : List Int, y_ = (([] : List Int)) := ⟨_, rfl⟩
 replace H : (spec_l19Order.l0 k l0 y236001 0) = some r := by first | (rw [hy236001]; with_reducible exact H) | (have H2_ := (Option.bind_some _ _).symm.trans H; rw [hy236001]; with_reducible exact H2_) | (have H2_ := (Option.bind_some _ _).symm.trans H; with_reducible exact H2_) | with_reducible exact H | (rw [hy236001]; exact H) | exact H
 have Ny236001 := aQ hy236001
 clear hy236001
 have H' := aQ H
 clear H
 go_enter Try.func235, Try.ntmps235
 go_wp2_with (first | ((with_reducible refine gate_dst (N := 7) rfl ?_); refine Kd.R_lit (Kd.int .i64) _ 3 ?hg (N := 7) ?hd (xs := ([] : List Int)) (inner := []) (ok := fun _ => True) (okp := fun _ => True) ?hr ?hp (fun _ hk => hk) trivial (Below.refl _ _) (Nat.le_refl _) (by simp) ?_; (case hd => rfl); (case hg => rfl); (case hr => first | (go_simp; done) | (go_simp; rfl)); (case hp => exact (Reps.none _ _)); intro v236002 w2 ho3 hb hg_ hnew_; clear hg_ hnew_; (first | rw [← Ny236001.out] at ho3 | (simp only [Int.reduceToNat] at ho3; rw [← Ny236001.out] at ho3)); have HO236003 := aQ (Kd.R_lower ho3 (below_size (pB HB.out))); replace HB := aQ (below_step (pB HB.out) hb); clear hb ho3))
 repeat (go_quiet (first | ((with_reducible refine gate_dst (N := 7) rfl ?_); refine Kd.R_lit (Kd.int .i64) _ 3 ?hg (N := 7) ?hd (xs := ([] : List Int)) (inner := []) (ok := fun _ => True) (okp := fun _ => True) ?hr ?hp (fun _ hk => hk) trivial (Below.refl _ _) (Nat.le_refl _) (by simp) ?_; (case hd => rfl); (case hg => rfl); (case hr => first | (go_simp; done) | (go_simp; rfl)); (case hp => exact (Reps.none _ _)); intro v236002 w2 ho3 hb hg_ hnew_; clear hg_ hnew_; (first | rw [← Ny236001.out] at ho3 | (simp only [Int.reduceToNat] at ho3; rw [← Ny236001.out] at ho3)); have HO236003 := aQ (Kd.R_lower ho3 (below_size (pB HB.out))); replace HB := aQ (below_step (pB HB.out) hb); clear hb ho3)); try go_wp2_with (first | ((with_reducible refine gate_dst (N := 7) rfl ?_); refine Kd.R_lit (Kd.int .i64) _ 3 ?hg (N := 7) ?hd (xs := ([] : List Int)) (inner := []) (ok := fun _ => True) (okp := fun _ => True) ?hr ?hp (fun _ hk => hk) trivial (Below.refl _ _) (Nat.le_refl _) (by simp) ?_; (case hd => rfl); (case hg => rfl); (case hr => first | (go_simp; done) | (go_simp; rfl)); (case hp => exact (Reps.none _ _)); intro v236002 w2 ho3 hb hg_ hnew_; clear hg_ hnew_; (first | rw [← Ny236001.out] at ho3 | (simp only [Int.reduceToNat] at ho3; rw [← Ny236001.out] at ho3)); have HO236003 := aQ (Kd.R_lower ho3 (below_size (pB HB.out))); replace HB := aQ (below_step (pB HB.out) hb); clear hb ho3)))
 go_loopg [3, 4] k (fun kq v3 v4 w' => ∃ (x3_1 : List Int) (x4_1 : Int), v4 = .int .i64 x4_1 ∧ Aside0 (spec_l19Order.l0 kq l0 x3_1 x4_1 = some r) ∧ Aside0 (kq ≤ k) ∧ Aside0 (Kd.R (Kd.int .i64) 3 w' w.heap.size (fun _ => True) v3 x3_1) ∧ Aside0 (Below w.heap.size w w'))
 case atStart => exact ⟨(y236001), (0), rs_, H', ⟨Nat.le_refl _⟩, ⟨pR HO236003.out⟩, ⟨pB HB.out⟩⟩
 case round =>
  clear H'
  try clear c2
  try clear p2
  obtain ⟨x3_1, x4_1, rfl, HA, HK1, HO_3, HB⟩ := hrel
  cases gk with
  | zero => exact absurd HA.out (by simp [spec_l19Order.l0])
  | succ k1 =>
   have H := HA.out
   clear HA
   simp only [spec_l19Order.l0] at H
   by_cases c4 : x4_1 < (l0.length : Int)
   ·rw [if_pos c4] at H
    have c4b0 : decide (x4_1 < (l0.length : Int)) = true := decide_eq_true c4
    clear c4
    have H' := aQ H
    clear H
    obtain ⟨Ao5, co5, eo5⟩ := Kd.R_slice HO_3.out
    subst eo5
    go_wp2
    repeat (go_quiet (fail); try go_wp2)
    go_loopg [5] k1 (fun kq v5 w' => ∃ (x5_2 : Int), v5 = .int .i64 x5_2 ∧ Aside0 (spec_l19Order.l1 kq l0 x3_1 x4_1 x5_2 = some r) ∧ Aside0 (kq ≤ k1) ∧ Aside0 (Kd.R (Kd.int .i64) 3 w' w.heap.size (fun _ => True) (.slice Ao5 x3_1.length co5) x3_1) ∧ Aside0 (Below w.heap.size w w'))
    case atStart => exact ⟨((x3_1.length : Int)), rs_, H', ⟨Nat.le_refl _⟩, ⟨pR HO_3.out⟩, ⟨pB HB.out⟩⟩
    case round =>
     clear H'
     try clear c2
     try clear p2
     try clear c4
     try clear c4b0
     try clear p2
     obtain ⟨x5_2, rfl, HA, HK2, HO_3, HB⟩ := hrel
     cases gk with
     | zero => exact absurd HA.out (by simp [spec_l19Order.l1])
     | succ k2 =>
      have H := HA.out
      clear HA
      simp only [spec_l19Order.l1] at H
      by_cases c6 : x5_2 > 0
      ·rw [if_pos c6] at H
       have c6b0 : decide (0 < x5_2) = true := decide_eq_true c6
       clear c6
       obtain ⟨ji7, hji7⟩ : ∃ j_ : Int, (wrap64 (x5_2 - 1)) = j_ := ⟨_, rfl⟩
       replace H : (if 0 ≤ (ji7) then (if (ji7) < (x3_1.length : Int) then (if 0 ≤ (rd x3_1 (ji7)) then (if (rd x3_1 (ji7)) < (l0.length : Int) then (if 0 ≤ x4_1 then (if x4_1 < (l0.length : Int) then (if (rd l0 (rd x3_1 (ji7))) < (rd l0 x4_1) then (spec_l19Order.l1 k2 l0 x3_1 x4_1 ji7) else ((some (([] : List Int) : List Int)).bind fun y236007 => (if 0 ≤ x5_2 then (if x5_2 ≤ (x3_1.length : Int) then ((some (x3_1.drop (x5_2 : Int).toNat : List Int)).bind fun y236010 => (if y236007.length + y236010.length < 17592186044416 then ((some (y236007 ++ y236010 : List Int)).bind fun y236014 => ((some (x3_1.take (x5_2 : Int).toNat : List Int)).bind fun y236017 => (if y236017.length < 17592186044416 then ((some (y236017 ++ [x4_1] : List Int)).bind fun y236020 => (if y236020.length + y236014.length < 17592186044416 then (spec_l19Order.l0 k2 l0 (y236020 ++ y236014) (wrap64 (x4_1 + 1))) else (none))) else (none)))) else (none))) else (none)) else (none)))) else (none)) else (none)) else (none)) else (none)) else (none)) else (none)) = some r := by first | (rw [hji7] at H; exact H) | (simp only [hji7] at H ⊢; exact H)
       have hji7w : (IntKind.i64.wrap (x5_2 - 1)) = ji7 := (i64_w _).trans hji7
       by_cases c8 : 0 ≤ (ji7)
       ·rw [if_pos c8] at H
        have c8b0 : decide (0 ≤ (ji7)) = true := decide_eq_true c8
        clear c8
        by_cases c9 : (ji7) < (x3_1.length : Int)
        ·rw [if_pos c9] at H
         have c9b0 : decide ((ji7) < (x3_1.length : Int)) = true := decide_eq_true c9
         clear c9
         by_cases c10 : 0 ≤ (rd x3_1 (ji7))
         ·rw [if_pos c10] at H
          have c10b0 : decide (0 ≤ (rd x3_1 (ji7))) = true := decide_eq_true c10
          clear c10
          by_cases c11 : (rd x3_1 (ji7)) < (l0.length : Int)
          ·rw [if_pos c11] at H
           have c11b0 : decide ((rd x3_1 (ji7)) < (l0.length : Int)) = true := decide_eq_true c11
           clear c11
           by_cases c12 : 0 ≤ x4_1
           ·rw [if_pos c12] at H
            have c12b0 : decide (0 ≤ x4_1) = true := decide_eq_true c12
            clear c12
            by_cases c13 : x4_1 < (l0.length : Int)
            ·rw [if_pos c13] at H
             have c13b0 : decide (x4_1 < (l0.length : Int)) = true := decide_eq_true c13
             clear c13
             by_cases c14 : (rd l0 (rd x3_1 (ji7))) < (rd l0 x4_1)
             ·rw [if_pos c14] at H
              have c14b0 : decide ((rd l0 (rd x3_1 (ji7))) < (rd l0 x4_1)) = true := decide_eq_true c14
              clear c14
              have H' := aQ H
              clear H
              have p236004 : 0 ≤ ((ji7) : Int) := of_decide_eq_true as_
              have q236004 : (ji7) < (x3_1.length : Int) := of_decide_eq_true as_
              obtain ⟨ad236004, e236004, hx236004_0⟩ := Kd.at_int (Kd.R_reads' HO_3.out).2.2 (ji7) p236004 q236004
              cases e236004
              replace p236004 := eq_true p236004
              replace q236004 := eq_true q236004
              have p236005 : 0 ≤ ((rd x3_1 (ji7)) : Int) := of_decide_eq_true as_
              have q236005 : (rd x3_1 (ji7)) < (l0.length : Int) := of_decide_eq_true as_
              obtain ⟨ad236005, e236005, hx236005_0⟩ := Kd.at_int HR0.out (rd x3_1 (ji7)) p236005 q236005
              cases e236005
              replace hx236005_0 := (HB.out.cell (World.block_lt_of_cell? w _ hx236005_0)).trans hx236005_0
              replace p236005 := eq_true p236005
              replace q236005 := eq_true q236005
              have p236006 : 0 ≤ (x4_1 : Int) := of_decide_eq_true as_
              have q236006 : x4_1 < (l0.length : Int) := of_decide_eq_true as_
              obtain ⟨ad236006, e236006, hx236006_0⟩ := Kd.at_int HR0.out x4_1 p236006 q236006
              obtain rfl : ad236005 = ad236006 := (by injection e236006)
              replace hx236006_0 := (HB.out.cell (World.block_lt_of_cell? w _ hx236006_0)).trans hx236006_0
              replace p236006 := eq_true p236006
              replace q236006 := eq_true q236006
              go_wp2
              repeat (go_quiet (fail); try go_wp2)
              go_roundg k2
              case measure => have := HK1.out; have := HK2.out; omega
              case rel => exact ⟨(ji7), (by first | rfl | (simp; done) | (simp only [← hji7] <;> (first | rfl | simp)) | (simp [*]; done)), H', ⟨by have := HK1.out; have := HK2.out; omega⟩, ⟨pR HO_3.out⟩, ⟨pB HB.out⟩⟩
             ·rw [if_neg c14] at H
              have c14b0 : decide ((rd l0 (rd x3_1 (ji7))) < (rd l0 x4_1)) = false := decide_eq_false c14
              clear c14
              obtain ⟨y236007, hy236007⟩ : ∃ y_ : List Int, y_ = (([] : List Int)) := ⟨_, rfl⟩
              replace H : (if 0 ≤ x5_2 then (if x5_2 ≤ (x3_1.length : Int) then ((some (x3_1.drop (x5_2 : Int).toNat : List Int)).bind fun y236010 => (if y236007.length + y236010.length < 17592186044416 then ((some (y236007 ++ y236010 : List Int)).bind fun y236014 => ((some (x3_1.take (x5_2 : Int).toNat : List Int)).bind fun y236017 => (if y236017.length < 17592186044416 then ((some (y236017 ++ [x4_1] : List Int)).bind fun y236020 => (if y236020.length + y236014.length < 17592186044416 then (spec_l19Order.l0 k2 l0 (y236020 ++ y236014) (wrap64 (x4_1 + 1))) else (none))) else (none)))) else (none))) else (none)) else (none)) = some r := by first | (rw [hy236007]; with_reducible exact H) | (have H2_ := (Option.bind_some _ _).symm.trans H; rw [hy236007]; with_reducible exact H2_) | (have H2_ := (Option.bind_some _ _).symm.trans H; with_reducible exact H2_) | with_reducible exact H | (rw [hy236007]; exact H) | exact H
              have Ny236007 := aQ hy236007
              clear hy236007
              by_cases c15 : 0 ≤ x5_2
              ·rw [if_pos c15] at H
               have c15b0 := eq_true c15
               have c15b1 : decide (0 ≤ x5_2) = true := decide_eq_true c15
               clear c15
               by_cases c16 : x5_2 ≤ (x3_1.length : Int)
               ·rw [if_pos c16] at H
                have c16b0 := eq_true c16
                have c16b1 : decide (x5_2 ≤ (x3_1.length : Int)) = true := decide_eq_true c16
                clear c16
                obtain ⟨y236010, hy236010⟩ : ∃ y_ : List Int, y_ = (x3_1.drop (x5_2 : Int).toNat) := ⟨_, rfl⟩
                replace H : (if y236007.length + y236010.length < 17592186044416 then ((some (y236007 ++ y236010 : List Int)).bind fun y236014 => ((some (x3_1.take (x5_2 : Int).toNat : List Int)).bind fun y236017 => (if y236017.length < 17592186044416 then ((some (y236017 ++ [x4_1] : List Int)).bind fun y236020 => (if y236020.length + y236014.length < 17592186044416 then (spec_l19Order.l0 k2 l0 (y236020 ++ y236014) (wrap64 (x4_1 + 1))) else (none))) else (none)))) else (none)) = some r := by first | (rw [hy236010]; with_reducible exact H) | (have H2_ := (Option.bind_some _ _).symm.trans H; rw [hy236010]; with_reducible exact H2_) | (have H2_ := (Option.bind_some _ _).symm.trans H; with_reducible exact H2_) | with_reducible exact H | (rw [hy236010]; exact H) | exact H
                have Ny236010 := aQ hy236010
                clear hy236010
                by_cases c17 : y236007.length + y236010.length < 17592186044416
                ·rw [if_pos c17] at H
                 have LMc17 := aQ c17
                 clear c17
                 obtain ⟨y236014, hy236014⟩ : ∃ y_ : List Int, y_ = (y236007 ++ y236010) := ⟨_, rfl⟩
                 replace H : ((some (x3_1.take (x5_2 : Int).toNat : List Int)).bind fun y236017 => (if y236017.length < 17592186044416 then ((some (y236017 ++ [x4_1] : List Int)).bind fun y236020 => (if y236020.length + y236014.length < 17592186044416 then (spec_l19Order.l0 k2 l0 (y236020 ++ y236014) (wrap64 (x4_1 + 1))) else (none))) else (none))) = some r := by first | (rw [hy236014]; with_reducible exact H) | (have H2_ := (Option.bind_some _ _).symm.trans H; rw [hy236014]; with_reducible exact H2_) | (have H2_ := (Option.bind_some _ _).symm.trans H; with_reducible exact H2_) | with_reducible exact H | (rw [hy236014]; exact H) | exact H
                 have Ny236014 := aQ hy236014
                 clear hy236014
                 have c18b0 := eq_true (of_decide_eq_true as_ : x5_2 ≤ (x3_1.length : Int))
                 obtain ⟨y236017, hy236017⟩ : ∃ y_ : List Int, y_ = (x3_1.take (x5_2 : Int).toNat) := ⟨_, rfl⟩
                 replace H : (if y236017.length < 17592186044416 then ((some (y236017 ++ [x4_1] : List Int)).bind fun y236020 => (if y236020.length + y236014.length < 17592186044416 then (spec_l19Order.l0 k2 l0 (y236020 ++ y236014) (wrap64 (x4_1 + 1))) else (none))) else (none)) = some r := by first | (rw [hy236017]; with_reducible exact H) | (have H2_ := (Option.bind_some _ _).symm.trans H; rw [hy236017]; with_reducible exact H2_) | (have H2_ := (Option.bind_some _ _).symm.trans H; with_reducible exact H2_) | with_reducible exact H | (rw [hy236017]; exact H) | exact H
                 have Ny236017 := aQ hy236017
                 clear hy236017
                 by_cases c19 : y236017.length < 17592186044416
                 ·rw [if_pos c19] at H
                  have LMc19 := aQ c19
                  clear c19
                  obtain ⟨y236020, hy236020⟩ : ∃ y_ : List Int, y_ = (y236017 ++ [x4_1]) := ⟨_, rfl⟩
                  replace H : (if y236020.length + y236014.length < 17592186044416 then (spec_l19Order.l0 k2 l0 (y236020 ++ y236014) (wrap64 (x4_1 + 1))) else (none)) = some r := by first | (rw [hy236020]; with_reducible exact H) | (have H2_ := (Option.bind_some _ _).symm.trans H; rw [hy236020]; with_reducible exact H2_) | (have H2_ := (Option.bind_some _ _).symm.trans H; with_reducible exact H2_) | with_reducible exact H | (rw [hy236020]; exact H) | exact H
                  have Ny236020 := aQ hy236020
                  clear hy236020
                  by_cases c20 : y236020.length + y236014.length < 17592186044416
                  ·rw [if_pos c20] at H
                   have LMc20 := aQ c20
                   clear c20
                   obtain ⟨y236023, hy236023⟩ : ∃ y_ : List Int, y_ = (y236020 ++ y236014) := ⟨_, rfl⟩
                   replace H : (spec_l19Order.l0 k2 l0 y236023 (wrap64 (x4_1 + 1))) = some r := by first | (rw [hy236023]; with_reducible exact H) | (have H2_ := (Option.bind_some _ _).symm.trans H; rw [hy236023]; with_reducible exact H2_) | (have H2_ := (Option.bind_some _ _).symm.trans H; with_reducible exact H2_) | with_reducible exact H | (rw [hy236023]; exact H) | exact H
                   have Ny236023 := aQ hy236023
                   clear hy236023
                   have H' := aQ H
                   clear H
                   have p236004 : 0 ≤ ((ji7) : Int) := of_decide_eq_true as_
                   have q236004 : (ji7) < (x3_1.length : Int) := of_decide_eq_true as_
                   obtain ⟨ad236004, e236004, hx236004_0⟩ := Kd.at_int (Kd.R_reads' HO_3.out).2.2 (ji7) p236004 q236004
                   cases e236004
                   replace p236004 := eq_true p236004
                   replace q236004 := eq_true q236004
                   have p236005 : 0 ≤ ((rd x3_1 (ji7)) : Int) := of_decide_eq_true as_
                   have q236005 : (rd x3_1 (ji7)) < (l0.length : Int) := of_decide_eq_true as_
                   obtain ⟨ad236005, e236005, hx236005_0⟩ := Kd.at_int HR0.out (rd x3_1 (ji7)) p236005 q236005
                   cases e236005
                   replace hx236005_0 := (HB.out.cell (World.block_lt_of_cell? w _ hx236005_0)).trans hx236005_0
                   replace p236005 := eq_true p236005
                   replace q236005 := eq_true q236005
                   have p236006 : 0 ≤ (x4_1 : Int) := of_decide_eq_true as_
                   have q236006 : x4_1 < (l0.length : Int) := of_decide_eq_true as_
                   obtain ⟨ad236006, e236006, hx236006_0⟩ := Kd.at_int HR0.out x4_1 p236006 q236006
                   obtain rfl : ad236005 = ad236006 := (by injection e236006)
                   replace hx236006_0 := (HB.out.cell (World.block_lt_of_cell? w _ hx236006_0)).trans hx236006_0
                   replace p236006 := eq_true p236006
                   replace q236006 := eq_true q236006
                   go_wp2_with (first | ((with_reducible refine gate_dst (N := 35) rfl ?_); refine Kd.R_lit (Kd.int .i64) _ 3 ?hg (N := 35) ?hd (xs := ([] : List Int)) (inner := []) (ok := fun _ => True) (okp := fun _ => True) ?hr ?hp (fun _ hk => hk) trivial (Below.refl _ _) (Nat.le_refl _) (by simp) ?_; (case hd => rfl); (case hg => rfl); (case hr => first | (go_simp; done) | (go_simp; rfl)); (case hp => exact (Reps.none _ _)); intro v236008 w21 ho22 hb hg_ hnew_; clear hg_ hnew_; (first | rw [← Ny236007.out] at ho22 | (simp only [Int.reduceToNat] at ho22; rw [← Ny236007.out] at ho22)); have HO236009 := aQ (Kd.R_lower (Kd.R_new' ho22 (Kd.R_lt (pR HO_3.out))) (below_size (pB HB.out))); replace HO_3 := aQ (Kd.R_elder' (pR HO_3.out) (Kd.R_base ho22) hb); replace HB := aQ (below_step (pB HB.out) hb); clear hb ho22; have q23 : (x5_2 : Int) ≤ ((x3_1.length : Int) : Int) := of_decide_eq_true as_; obtain ⟨i023, hi023, _, hsz23, _⟩ := info_parts info3; have hroom23 : x3_1.length ≤ co5 := (Kd.R_reads' HO_3.out).2.1; have hC23 : Kd.C (Kd.int .i64) _ (some ad236004) x3_1.length x3_1 := (Kd.R_reads' HO_3.out).2.2; have q023 : (0 : Int) ≤ (x5_2 : Int) := of_decide_eq_true as_; have hcut23 := cut_from (P := Try.prog) 22 3 .i64 Try.underlying22 hi023 1 hsz23 (some ad236004) x3_1.length co5 x5_2 q023 q23; have hr23 := Kd.C_drop (m := (x5_2 : Int).toNat) (c := co5) hC23 (by omega) hroom23; obtain ⟨A23, hA23⟩ : ∃ A1, A1 = (if co5 = (x5_2 : Int).toNat then (some ad236004) else ((some ad236004) : Option Addr).map (·.add ((x5_2 : Int).toNat * 1))) := ⟨_, rfl⟩; obtain ⟨c23, hc23⟩ : ∃ c1, c1 = co5 - (x5_2 : Int).toNat := ⟨_, rfl⟩; have hy23 : y236010.length = x3_1.length - (x5_2 : Int).toNat := (by rw [Ny236010.out, List.length_drop] <;> omega); rw [show (x3_1).drop (x5_2 : Int).toNat = y236010 from Ny236010.out.symm] at hr23; replace hr23 : Kd.C (Kd.int .i64) _ A23 y236010.length y236010 := (by rw [hA23]; exact hr23); rw [← hy23, ← hA23, ← hc23] at hcut23; have HR236013 := aQ hr23; have HC236013 := aQ (show y236010.length ≤ c23 from by rw [hy23, hc23]; exact Nat.sub_le_sub_right hroom23 _); clear hr23 hC23 hroom23 hi023 hsz23 hc23; have KY23 := aQ hy23; have KA23 := aQ hA23; clear hy23 hA23; have KL23 := aQ (show (x5_2 : Int).toNat ≤ x3_1.length from by omega); replace q23 := eq_true q23) | ((with_reducible refine gate_builtin (b := .append) (xs := #[.tmp 35, .tmp 38]) rfl ?_); at_builtin; refine Kd.R_append_rows (Kd.int .i64) (w0 := w) w.heap.size rfl (.tmp 35) (.tmp 38) 22 3 (.int .i64 0) 8 rfl Try.underlying22 info3 rfl (by decide) (by omega) v236008 y236007 y236010 _ _ _ (fun k_ => some k_ ≠ (.slice (some ad236004) x3_1.length co5 : Value).ownBlock) (fun _ => False) rfl rfl ?aO ?aR (fun _ _ h => h) (fun _ h => h.elim) ?aF ?aB ?aS ?aL ?_; (case aR => repeat (first | exact (by repeat (first | (with_reducible exact HR236013.out) | (with_reducible refine Kd.C_alloc ?_ _) | (with_reducible refine Kd.C_drewN ?_ _) | (with_reducible refine Kd.C_drew ?_) | exact HR236013.out)) | (with_reducible refine Kd.C_alloc ?_ _) | (with_reducible refine Kd.C_drewN ?_ _) | (with_reducible refine Kd.C_drew ?_))); (case aB => exact (pB HB.out)); (case aF => exact (fun k_ hk => Kd.fresh' (Kd.R_lt (pR HO_3.out)) k_ hk)); (case aO => exact (by (with_reducible repeat (first | apply Kd.R_alloc | apply Kd.R_drewN | apply Kd.R_drew)); exact Kd.R_mono HO236009.out (fun _ hk => hk.2))); (case aS => exact (below_size (pB HB.out))); (case aL => have := LMc17.out; omega); intro v236015 w24 ho hb hg hat; rw [← Ny236014.out] at ho; replace HB := aQ (hb); replace HR236013 := aQ ((show Kd.C (Kd.int .i64) w24 A23 y236010.length y236010 from by rw [Ny236010.out, KA23.out]; exact Kd.C_drop (m := (x5_2 : Int).toNat) (c := co5) ((Kd.R_reads' (Kd.R_after (ok := (fun _ => True)) (pR HO_3.out) hg hat)).2.2) KL23.out ((Kd.R_reads' (Kd.R_after (ok := (fun _ => True)) (pR HO_3.out) hg hat)).2.1))); replace HO_3 := aQ (Kd.R_after (ok := (fun _ => True)) (pR HO_3.out) hg hat); have HO236016 := aQ (ho); clear HO236009; clear ho hb hg hat; have q25 : (x5_2 : Int) ≤ ((x3_1.length : Int) : Int) := of_decide_eq_true as_; obtain ⟨i025, hi025, _, hsz25, _⟩ := info_parts info3; have hcut25 := cut_to (P := Try.prog) 22 3 .i64 Try.underlying22 hi025 (some ad236004) x3_1.length co5 x5_2 (of_decide_eq_true as_) q25 (Kd.R_reads' HO_3.out).2.1; have hr25 := Kd.R_take (m := (x5_2 : Int).toNat) HO_3.out (by omega); have hy25 : y236017.length = (x5_2 : Int).toNat := (by rw [Ny236017.out, List.length_take]; omega); rw [← Ny236017.out] at hr25; rw [← hy25] at hr25 hcut25; clear hy25 hi025 hsz25 HO_3; have HO236019 := aQ hr25; clear hr25; replace q25 := eq_true q25) | ((with_reducible refine gate_builtin (b := .append) (xs := #[.tmp 42, .tmp 44]) rfl ?_); at_builtin; refine Kd.R_append (Kd.int .i64) (w0 := w) w.heap.size rfl (.tmp 42) (.tmp 44) 22 3 (.int .i64 0) 8 rfl Try.underlying22 info3 rfl (by decide) (by omega) (.slice (some ad236004) y236017.length co5) y236017 x4_1 [.int .i64 x4_1] (fun k_ => some k_ ≠ (v236015 : Value).ownBlock) (fun _ => False) rfl rfl ?aP (fun _ hk => hk.elim) ?aF ?aO ?aB ?aS ?aL ?_; (case aP => exact rfl); (case aB => exact (pB HB.out)); (case aF => exact (fun k_ hk => Kd.fresh' (Kd.R_lt (pR HO236016.out)) k_ hk)); (case aO => exact (by (with_reducible repeat (first | apply Kd.R_alloc | apply Kd.R_drewN | apply Kd.R_drew)); exact Kd.R_mono HO236019.out (fun _ hk => hk.2))); (case aS => exact (below_size (pB HB.out))); (case aL => have := LMc19.out; omega); intro v236021 w26 ho hb hg hat; rw [← Ny236020.out] at ho; replace HO236016 := aQ (Kd.R_after (ok := (fun _ => True)) (by (with_reducible repeat (first | apply Kd.R_alloc | apply Kd.R_drewN | apply Kd.R_drew)); exact Kd.R_mono HO236016.out (fun _ hk => ⟨trivial, by first | exact hk | exact fun h_ => hk (h_.trans (ob_len _ _ _ _))⟩)) hg hat); replace HB := aQ (hb); have HO236022 := aQ (ho); clear HO236019; clear ho hb hg hat; obtain ⟨Ao28, co28, eo28⟩ := Kd.R_slice HO236016.out; subst eo28) | ((with_reducible refine gate_builtin (b := .append) (xs := #[.tmp 45, .tmp 46]) rfl ?_); at_builtin; refine Kd.R_append_rows (Kd.int .i64) (w0 := w) w.heap.size rfl (.tmp 45) (.tmp 46) 22 3 (.int .i64 0) 8 rfl Try.underlying22 info3 rfl (by decide) (by omega) v236021 y236020 y236014 _ _ _ (fun k_ => some k_ ≠ (.slice Ao28 y236014.length co28 : Value).ownBlock) (fun _ => False) rfl rfl ?aO ?aR (fun _ _ h => h) (fun _ h => h.elim) ?aF ?aB ?aS ?aL ?_; (case aR => repeat (first | exact (Kd.R_reads' HO236016.out).2.2 | (with_reducible refine Kd.C_alloc ?_ _) | (with_reducible refine Kd.C_drewN ?_ _) | (with_reducible refine Kd.C_drew ?_))); (case aB => exact (pB HB.out)); (case aF => exact (fun k_ hk => Kd.fresh' (Kd.R_lt (pR HO236016.out)) k_ hk)); (case aO => exact (pR HO236022.out)); (case aS => exact (below_size (pB HB.out))); (case aL => have := LMc20.out; omega); intro v236024 w27 ho hb hg hat; rw [← Ny236023.out] at ho; replace HO236016 := aQ (Kd.R_after (ok := (fun _ => True)) (pR HO236016.out) hg hat); replace HB := aQ (hb); have HO236025 := aQ (ho); clear HO236022; clear ho hb hg hat))
                   repeat (go_quiet (first | ((with_reducible refine gate_dst (N := 35) rfl ?_); refine Kd.R_lit (Kd.int .i64) _ 3 ?hg (N := 35) ?hd (xs := ([] : List Int)) (inner := []) (ok := fun _ => True) (okp := fun _ => True) ?hr ?hp (fun _ hk => hk) trivial (Below.refl _ _) (Nat.le_refl _) (by simp) ?_; (case hd => rfl); (case hg => rfl); (case hr => first | (go_simp; done) | (go_simp; rfl)); (case hp => exact (Reps.none _ _)); intro v236008 w21 ho22 hb hg_ hnew_; clear hg_ hnew_; (first | rw [← Ny236007.out] at ho22 | (simp only [Int.reduceToNat] at ho22; rw [← Ny236007.out] at ho22)); have HO236009 := aQ (Kd.R_lower (Kd.R_new' ho22 (Kd.R_lt (pR HO_3.out))) (below_size (pB HB.out))); replace HO_3 := aQ (Kd.R_elder' (pR HO_3.out) (Kd.R_base ho22) hb); replace HB := aQ (below_step (pB HB.out) hb); clear hb ho22; have q23 : (x5_2 : Int) ≤ ((x3_1.length : Int) : Int) := of_decide_eq_true as_; obtain ⟨i023, hi023, _, hsz23, _⟩ := info_parts info3; have hroom23 : x3_1.length ≤ co5 := (Kd.R_reads' HO_3.out).2.1; have hC23 : Kd.C (Kd.int .i64) _ (some ad236004) x3_1.length x3_1 := (Kd.R_reads' HO_3.out).2.2; have q023 : (0 : Int) ≤ (x5_2 : Int) := of_decide_eq_true as_; have hcut23 := cut_from (P := Try.prog) 22 3 .i64 Try.underlying22 hi023 1 hsz23 (some ad236004) x3_1.length co5 x5_2 q023 q23; have hr23 := Kd.C_drop (m := (x5_2 : Int).toNat) (c := co5) hC23 (by omega) hroom23; obtain ⟨A23, hA23⟩ : ∃ A1, A1 = (if co5 = (x5_2 : Int).toNat then (some ad236004) else ((some ad236004) : Option Addr).map (·.add ((x5_2 : Int).toNat * 1))) := ⟨_, rfl⟩; obtain ⟨c23, hc23⟩ : ∃ c1, c1 = co5 - (x5_2 : Int).toNat := ⟨_, rfl⟩; have hy23 : y236010.length = x3_1.length - (x5_2 : Int).toNat := (by rw [Ny236010.out, List.length_drop] <;> omega); rw [show (x3_1).drop (x5_2 : Int).toNat = y236010 from Ny236010.out.symm] at hr23; replace hr23 : Kd.C (Kd.int .i64) _ A23 y236010.length y236010 := (by rw [hA23]; exact hr23); rw [← hy23, ← hA23, ← hc23] at hcut23; have HR236013 := aQ hr23; have HC236013 := aQ (show y236010.length ≤ c23 from by rw [hy23, hc23]; exact Nat.sub_le_sub_right hroom23 _); clear hr23 hC23 hroom23 hi023 hsz23 hc23; have KY23 := aQ hy23; have KA23 := aQ hA23; clear hy23 hA23; have KL23 := aQ (show (x5_2 : Int).toNat ≤ x3_1.length from by omega); replace q23 := eq_true q23) | ((with_reducible refine gate_builtin (b := .append) (xs := #[.tmp 35, .tmp 38]) rfl ?_); at_builtin; refine Kd.R_append_rows (Kd.int .i64) (w0 := w) w.heap.size rfl (.tmp 35) (.tmp 38) 22 3 (.int .i64 0) 8 rfl Try.underlying22 info3 rfl (by decide) (by omega) v236008 y236007 y236010 _ _ _ (fun k_ => some k_ ≠ (.slice (some ad236004) x3_1.length co5 : Value).ownBlock) (fun _ => False) rfl rfl ?aO ?aR (fun _ _ h => h) (fun _ h => h.elim) ?aF ?aB ?aS ?aL ?_; (case aR => repeat (first | exact (by repeat (first | (with_reducible exact HR236013.out) | (with_reducible refine Kd.C_alloc ?_ _) | (with_reducible refine Kd.C_drewN ?_ _) | (with_reducible refine Kd.C_drew ?_) | exact HR236013.out)) | (with_reducible refine Kd.C_alloc ?_ _) | (with_reducible refine Kd.C_drewN ?_ _) | (with_reducible refine Kd.C_drew ?_))); (case aB => exact (pB HB.out)); (case aF => exact (fun k_ hk => Kd.fresh' (Kd.R_lt (pR HO_3.out)) k_ hk)); (case aO => exact (by (with_reducible repeat (first | apply Kd.R_alloc | apply Kd.R_drewN | apply Kd.R_drew)); exact Kd.R_mono HO236009.out (fun _ hk => hk.2))); (case aS => exact (below_size (pB HB.out))); (case aL => have := LMc17.out; omega); intro v236015 w24 ho hb hg hat; rw [← Ny236014.out] at ho; replace HB := aQ (hb); replace HR236013 := aQ ((show Kd.C (Kd.int .i64) w24 A23 y236010.length y236010 from by rw [Ny236010.out, KA23.out]; exact Kd.C_drop (m := (x5_2 : Int).toNat) (c := co5) ((Kd.R_reads' (Kd.R_after (ok := (fun _ => True)) (pR HO_3.out) hg hat)).2.2) KL23.out ((Kd.R_reads' (Kd.R_after (ok := (fun _ => True)) (pR HO_3.out) hg hat)).2.1))); replace HO_3 := aQ (Kd.R_after (ok := (fun _ => True)) (pR HO_3.out) hg hat); have HO236016 := aQ (ho); clear HO236009; clear ho hb hg hat; have q25 : (x5_2 : Int) ≤ ((x3_1.length : Int) : Int) := of_decide_eq_true as_; obtain ⟨i025, hi025, _, hsz25, _⟩ := info_parts info3; have hcut25 := cut_to (P := Try.prog) 22 3 .i64 Try.underlying22 hi025 (some ad236004) x3_1.length co5 x5_2 (of_decide_eq_true as_) q25 (Kd.R_reads' HO_3.out).2.1; have hr25 := Kd.R_take (m := (x5_2 : Int).toNat) HO_3.out (by omega); have hy25 : y236017.length = (x5_2 : Int).toNat := (by rw [Ny236017.out, List.length_take]; omega); rw [← Ny236017.out] at hr25; rw [← hy25] at hr25 hcut25; clear hy25 hi025 hsz25 HO_3; have HO236019 := aQ hr25; clear hr25; replace q25 := eq_true q25) | ((with_reducible refine gate_builtin (b := .append) (xs := #[.tmp 42, .tmp 44]) rfl ?_); at_builtin; refine Kd.R_append (Kd.int .i64) (w0 := w) w.heap.size rfl (.tmp 42) (.tmp 44) 22 3 (.int .i64 0) 8 rfl Try.underlying22 info3 rfl (by decide) (by omega) (.slice (some ad236004) y236017.length co5) y236017 x4_1 [.int .i64 x4_1] (fun k_ => some k_ ≠ (v236015 : Value).ownBlock) (fun _ => False) rfl rfl ?aP (fun _ hk => hk.elim) ?aF ?aO ?aB ?aS ?aL ?_; (case aP => exact rfl); (case aB => exact (pB HB.out)); (case aF => exact (fun k_ hk => Kd.fresh' (Kd.R_lt (pR HO236016.out)) k_ hk)); (case aO => exact (by (with_reducible repeat (first | apply Kd.R_alloc | apply Kd.R_drewN | apply Kd.R_drew)); exact Kd.R_mono HO236019.out (fun _ hk => hk.2))); (case aS => exact (below_size (pB HB.out))); (case aL => have := LMc19.out; omega); intro v236021 w26 ho hb hg hat; rw [← Ny236020.out] at ho; replace HO236016 := aQ (Kd.R_after (ok := (fun _ => True)) (by (with_reducible repeat (first | apply Kd.R_alloc | apply Kd.R_drewN | apply Kd.R_drew)); exact Kd.R_mono HO236016.out (fun _ hk => ⟨trivial, by first | exact hk | exact fun h_ => hk (h_.trans (ob_len _ _ _ _))⟩)) hg hat); replace HB := aQ (hb); have HO236022 := aQ (ho); clear HO236019; clear ho hb hg hat; obtain ⟨Ao28, co28, eo28⟩ := Kd.R_slice HO236016.out; subst eo28) | ((with_reducible refine gate_builtin (b := .append) (xs := #[.tmp 45, .tmp 46]) rfl ?_); at_builtin; refine Kd.R_append_rows (Kd.int .i64) (w0 := w) w.heap.size rfl (.tmp 45) (.tmp 46) 22 3 (.int .i64 0) 8 rfl Try.underlying22 info3 rfl (by decide) (by omega) v236021 y236020 y236014 _ _ _ (fun k_ => some k_ ≠ (.slice Ao28 y236014.length co28 : Value).ownBlock) (fun _ => False) rfl rfl ?aO ?aR (fun _ _ h => h) (fun _ h => h.elim) ?aF ?aB ?aS ?aL ?_; (case aR => repeat (first | exact (Kd.R_reads' HO236016.out).2.2 | (with_reducible refine Kd.C_alloc ?_ _) | (with_reducible refine Kd.C_drewN ?_ _) | (with_reducible refine Kd.C_drew ?_))); (case aB => exact (pB HB.out)); (case aF => exact (fun k_ hk => Kd.fresh' (Kd.R_lt (pR HO236016.out)) k_ hk)); (case aO => exact (pR HO236022.out)); (case aS => exact (below_size (pB HB.out))); (case aL => have := LMc20.out; omega); intro v236024 w27 ho hb hg hat; rw [← Ny236023.out] at ho; replace HO236016 := aQ (Kd.R_after (ok := (fun _ => True)) (pR HO236016.out) hg hat); replace HB := aQ (hb); have HO236025 := aQ (ho); clear HO236022; clear ho hb hg hat)); try go_wp2_with (first | ((with_reducible refine gate_dst (N := 35) rfl ?_); refine Kd.R_lit (Kd.int .i64) _ 3 ?hg (N := 35) ?hd (xs := ([] : List Int)) (inner := []) (ok := fun _ => True) (okp := fun _ => True) ?hr ?hp (fun _ hk => hk) trivial (Below.refl _ _) (Nat.le_refl _) (by simp) ?_; (case hd => rfl); (case hg => rfl); (case hr => first | (go_simp; done) | (go_simp; rfl)); (case hp => exact (Reps.none _ _)); intro v236008 w21 ho22 hb hg_ hnew_; clear hg_ hnew_; (first | rw [← Ny236007.out] at ho22 | (simp only [Int.reduceToNat] at ho22; rw [← Ny236007.out] at ho22)); have HO236009 := aQ (Kd.R_lower (Kd.R_new' ho22 (Kd.R_lt (pR HO_3.out))) (below_size (pB HB.out))); replace HO_3 := aQ (Kd.R_elder' (pR HO_3.out) (Kd.R_base ho22) hb); replace HB := aQ (below_step (pB HB.out) hb); clear hb ho22; have q23 : (x5_2 : Int) ≤ ((x3_1.length : Int) : Int) := of_decide_eq_true as_; obtain ⟨i023, hi023, _, hsz23, _⟩ := info_parts info3; have hroom23 : x3_1.length ≤ co5 := (Kd.R_reads' HO_3.out).2.1; have hC23 : Kd.C (Kd.int .i64) _ (some ad236004) x3_1.length x3_1 := (Kd.R_reads' HO_3.out).2.2; have q023 : (0 : Int) ≤ (x5_2 : Int) := of_decide_eq_true as_; have hcut23 := cut_from (P := Try.prog) 22 3 .i64 Try.underlying22 hi023 1 hsz23 (some ad236004) x3_1.length co5 x5_2 q023 q23; have hr23 := Kd.C_drop (m := (x5_2 : Int).toNat) (c := co5) hC23 (by omega) hroom23; obtain ⟨A23, hA23⟩ : ∃ A1, A1 = (if co5 = (x5_2 : Int).toNat then (some ad236004) else ((some ad236004) : Option Addr).map (·.add ((x5_2 : Int).toNat * 1))) := ⟨_, rfl⟩; obtain ⟨c23, hc23⟩ : ∃ c1, c1 = co5 - (x5_2 : Int).toNat := ⟨_, rfl⟩; have hy23 : y236010.length = x3_1.length - (x5_2 : Int).toNat := (by rw [Ny236010.out, List.length_drop] <;> omega); rw [show (x3_1).drop (x5_2 : Int).toNat = y236010 from Ny236010.out.symm] at hr23; replace hr23 : Kd.C (Kd.int .i64) _ A23 y236010.length y236010 := (by rw [hA23]; exact hr23); rw [← hy23, ← hA23, ← hc23] at hcut23; have HR236013 := aQ hr23; have HC236013 := aQ (show y236010.length ≤ c23 from by rw [hy23, hc23]; exact Nat.sub_le_sub_right hroom23 _); clear hr23 hC23 hroom23 hi023 hsz23 hc23; have KY23 := aQ hy23; have KA23 := aQ hA23; clear hy23 hA23; have KL23 := aQ (show (x5_2 : Int).toNat ≤ x3_1.length from by omega); replace q23 := eq_true q23) | ((with_reducible refine gate_builtin (b := .append) (xs := #[.tmp 35, .tmp 38]) rfl ?_); at_builtin; refine Kd.R_append_rows (Kd.int .i64) (w0 := w) w.heap.size rfl (.tmp 35) (.tmp 38) 22 3 (.int .i64 0) 8 rfl Try.underlying22 info3 rfl (by decide) (by omega) v236008 y236007 y236010 _ _ _ (fun k_ => some k_ ≠ (.slice (some ad236004) x3_1.length co5 : Value).ownBlock) (fun _ => False) rfl rfl ?aO ?aR (fun _ _ h => h) (fun _ h => h.elim) ?aF ?aB ?aS ?aL ?_; (case aR => repeat (first | exact (by repeat (first | (with_reducible exact HR236013.out) | (with_reducible refine Kd.C_alloc ?_ _) | (with_reducible refine Kd.C_drewN ?_ _) | (with_reducible refine Kd.C_drew ?_) | exact HR236013.out)) | (with_reducible refine Kd.C_alloc ?_ _) | (with_reducible refine Kd.C_drewN ?_ _) | (with_reducible refine Kd.C_drew ?_))); (case aB => exact (pB HB.out)); (case aF => exact (fun k_ hk => Kd.fresh' (Kd.R_lt (pR HO_3.out)) k_ hk)); (case aO => exact (by (with_reducible repeat (first | apply Kd.R_alloc | apply Kd.R_drewN | apply Kd.R_drew)); exact Kd.R_mono HO236009.out (fun _ hk => hk.2))); (case aS => exact (below_size (pB HB.out))); (case aL => have := LMc17.out; omega); intro v236015 w24 ho hb hg hat; rw [← Ny236014.out] at ho; replace HB := aQ (hb); replace HR236013 := aQ ((show Kd.C (Kd.int .i64) w24 A23 y236010.length y236010 from by rw [Ny236010.out, KA23.out]; exact Kd.C_drop (m := (x5_2 : Int).toNat) (c := co5) ((Kd.R_reads' (Kd.R_after (ok := (fun _ => True)) (pR HO_3.out) hg hat)).2.2) KL23.out ((Kd.R_reads' (Kd.R_after (ok := (fun _ => True)) (pR HO_3.out) hg hat)).2.1))); replace HO_3 := aQ (Kd.R_after (ok := (fun _ => True)) (pR HO_3.out) hg hat); have HO236016 := aQ (ho); clear HO236009; clear ho hb hg hat; have q25 : (x5_2 : Int) ≤ ((x3_1.length : Int) : Int) := of_decide_eq_true as_; obtain ⟨i025, hi025, _, hsz25, _⟩ := info_parts info3; have hcut25 := cut_to (P := Try.prog) 22 3 .i64 Try.underlying22 hi025 (some ad236004) x3_1.length co5 x5_2 (of_decide_eq_true as_) q25 (Kd.R_reads' HO_3.out).2.1; have hr25 := Kd.R_take (m := (x5_2 : Int).toNat) HO_3.out (by omega); have hy25 : y236017.length = (x5_2 : Int).toNat := (by rw [Ny236017.out, List.length_take]; omega); rw [← Ny236017.out] at hr25; rw [← hy25] at hr25 hcut25; clear hy25 hi025 hsz25 HO_3; have HO236019 := aQ hr25; clear hr25; replace q25 := eq_true q25) | ((with_reducible refine gate_builtin (b := .append) (xs := #[.tmp 42, .tmp 44]) rfl ?_); at_builtin; refine Kd.R_append (Kd.int .i64) (w0 := w) w.heap.size rfl (.tmp 42) (.tmp 44) 22 3 (.int .i64 0) 8 rfl Try.underlying22 info3 rfl (by decide) (by omega) (.slice (some ad236004) y236017.length co5) y236017 x4_1 [.int .i64 x4_1] (fun k_ => some k_ ≠ (v236015 : Value).ownBlock) (fun _ => False) rfl rfl ?aP (fun _ hk => hk.elim) ?aF ?aO ?aB ?aS ?aL ?_; (case aP => exact rfl); (case aB => exact (pB HB.out)); (case aF => exact (fun k_ hk => Kd.fresh' (Kd.R_lt (pR HO236016.out)) k_ hk)); (case aO => exact (by (with_reducible repeat (first | apply Kd.R_alloc | apply Kd.R_drewN | apply Kd.R_drew)); exact Kd.R_mono HO236019.out (fun _ hk => hk.2))); (case aS => exact (below_size (pB HB.out))); (case aL => have := LMc19.out; omega); intro v236021 w26 ho hb hg hat; rw [← Ny236020.out] at ho; replace HO236016 := aQ (Kd.R_after (ok := (fun _ => True)) (by (with_reducible repeat (first | apply Kd.R_alloc | apply Kd.R_drewN | apply Kd.R_drew)); exact Kd.R_mono HO236016.out (fun _ hk => ⟨trivial, by first | exact hk | exact fun h_ => hk (h_.trans (ob_len _ _ _ _))⟩)) hg hat); replace HB := aQ (hb); have HO236022 := aQ (ho); clear HO236019; clear ho hb hg hat; obtain ⟨Ao28, co28, eo28⟩ := Kd.R_slice HO236016.out; subst eo28) | ((with_reducible refine gate_builtin (b := .append) (xs := #[.tmp 45, .tmp 46]) rfl ?_); at_builtin; refine Kd.R_append_rows (Kd.int .i64) (w0 := w) w.heap.size rfl (.tmp 45) (.tmp 46) 22 3 (.int .i64 0) 8 rfl Try.underlying22 info3 rfl (by decide) (by omega) v236021 y236020 y236014 _ _ _ (fun k_ => some k_ ≠ (.slice Ao28 y236014.length co28 : Value).ownBlock) (fun _ => False) rfl rfl ?aO ?aR (fun _ _ h => h) (fun _ h => h.elim) ?aF ?aB ?aS ?aL ?_; (case aR => repeat (first | exact (Kd.R_reads' HO236016.out).2.2 | (with_reducible refine Kd.C_alloc ?_ _) | (with_reducible refine Kd.C_drewN ?_ _) | (with_reducible refine Kd.C_drew ?_))); (case aB => exact (pB HB.out)); (case aF => exact (fun k_ hk => Kd.fresh' (Kd.R_lt (pR HO236016.out)) k_ hk)); (case aO => exact (pR HO236022.out)); (case aS => exact (below_size (pB HB.out))); (case aL => have := LMc20.out; omega); intro v236024 w27 ho hb hg hat; rw [← Ny236023.out] at ho; replace HO236016 := aQ (Kd.R_after (ok := (fun _ => True)) (pR HO236016.out) hg hat); replace HB := aQ (hb); have HO236025 := aQ (ho); clear HO236022; clear ho hb hg hat)))
                   go_roundg k2
                   case measure => have := HK1.out; have := HK2.out; omega
                   case rel => exact ⟨(y236023), (wrap64 (x4_1 + 1)), rs_, H', ⟨by have := HK1.out; have := HK2.out; omega⟩, ⟨by (with_reducible repeat (first | apply Kd.R_alloc | apply Kd.R_drewN | apply Kd.R_drew)); exact Kd.R_mono HO236025.out (fun _ hk => trivial)⟩, ⟨pB HB.out⟩⟩
                  ·rw [if_neg c20] at H
                   exact absurd H (by simp)
                 ·rw [if_neg c19] at H
                  exact absurd H (by simp)
                ·rw [if_neg c17] at H
                 exact absurd H (by simp)
               ·rw [if_neg c16] at H
                exact absurd H (by simp)
              ·rw [if_neg c15] at H
               exact absurd H (by simp)
            ·rw [if_neg c13] at H
             exact absurd H (by simp)
           ·rw [if_neg c12] at H
            exact absurd H (by simp)
          ·rw [if_neg c11] at H
           exact absurd H (by simp)
         ·rw [if_neg c10] at H
          exact absurd H (by simp)
        ·rw [if_neg c9] at H
         exact absurd H (by simp)
       ·rw [if_neg c8] at H
        exact absurd H (by simp)
      ·rw [if_neg c6] at H
       have c6b0 : decide (0 < x5_2) = false := decide_eq_false c6
       clear c6
       obtain ⟨y236026, hy236026⟩ : ∃ y_ : List Int, y_ = (([] : List Int)) := ⟨_, rfl⟩
       replace H : (if 0 ≤ x5_2 then (if x5_2 ≤ (x3_1.length : Int) then ((some (x3_1.drop (x5_2 : Int).toNat : List Int)).bind fun y236029 => (if y236026.length + y236029.length < 17592186044416 then ((some (y236026 ++ y236029 : List Int)).bind fun y236033 => ((some (x3_1.take (x5_2 : Int).toNat : List Int)).bind fun y236036 => (if y236036.length < 17592186044416 then ((some (y236036 ++ [x4_1] : List Int)).bind fun y236039 => (if y236039.length + y236033.length < 17592186044416 then (spec_l19Order.l0 k2 l0 (y236039 ++ y236033) (wrap64 (x4_1 + 1))) else (none))) else (none)))) else (none))) else (none)) else (none)) = some r := by first | (rw [hy236026]; with_reducible exact H) | (have H2_ := (Option.bind_some _ _).symm.trans H; rw [hy236026]; with_reducible exact H2_) | (have H2_ := (Option.bind_some _ _).symm.trans H; with_reducible exact H2_) | with_reducible exact H | (rw [hy236026]; exact H) | exact H
       have Ny236026 := aQ hy236026
       clear hy236026
       by_cases c29 : 0 ≤ x5_2
       ·rw [if_pos c29] at H
        have c29b0 := eq_true c29
        have c29b1 : decide (0 ≤ x5_2) = true := decide_eq_true c29
        clear c29
        by_cases c30 : x5_2 ≤ (x3_1.length : Int)
        ·rw [if_pos c30] at H
         have c30b0 := eq_true c30
         have c30b1 : decide (x5_2 ≤ (x3_1.length : Int)) = true := decide_eq_true c30
         clear c30
         obtain ⟨y236029, hy236029⟩ : ∃ y_ : List Int, y_ = (x3_1.drop (x5_2 : Int).toNat) := ⟨_, rfl⟩
         replace H : (if y236026.length + y236029.length < 17592186044416 then ((some (y236026 ++ y236029 : List Int)).bind fun y236033 => ((some (x3_1.take (x5_2 : Int).toNat : List Int)).bind fun y236036 => (if y236036.length < 17592186044416 then ((some (y236036 ++ [x4_1] : List Int)).bind fun y236039 => (if y236039.length + y236033.length < 17592186044416 then (spec_l19Order.l0 k2 l0 (y236039 ++ y236033) (wrap64 (x4_1 + 1))) else (none))) else (none)))) else (none)) = some r := by first | (rw [hy236029]; with_reducible exact H) | (have H2_ := (Option.bind_some _ _).symm.trans H; rw [hy236029]; with_reducible exact H2_) | (have H2_ := (Option.bind_some _ _).symm.trans H; with_reducible exact H2_) | with_reducible exact H | (rw [hy236029]; exact H) | exact H
         have Ny236029 := aQ hy236029
         clear hy236029
         by_cases c31 : y236026.length + y236029.length < 17592186044416
         ·rw [if_pos c31] at H
          have LMc31 := aQ c31
          clear c31
          obtain ⟨y236033, hy236033⟩ : ∃ y_ : List Int, y_ = (y236026 ++ y236029) := ⟨_, rfl⟩
          replace H : ((some (x3_1.take (x5_2 : Int).toNat : List Int)).bind fun y236036 => (if y236036.length < 17592186044416 then ((some (y236036 ++ [x4_1] : List Int)).bind fun y236039 => (if y236039.length + y236033.length < 17592186044416 then (spec_l19Order.l0 k2 l0 (y236039 ++ y236033) (wrap64 (x4_1 + 1))) else (none))) else (none))) = some r := by first | (rw [hy236033]; with_reducible exact H) | (have H2_ := (Option.bind_some _ _).symm.trans H; rw [hy236033]; with_reducible exact H2_) | (have H2_ := (Option.bind_some _ _).symm.trans H; with_reducible exact H2_) | with_reducible exact H | (rw [hy236033]; exact H) | exact H
          have Ny236033 := aQ hy236033
          clear hy236033
          have c32b0 := eq_true (of_decide_eq_true as_ : x5_2 ≤ (x3_1.length : Int))
          obtain ⟨y236036, hy236036⟩ : ∃ y_ : List Int, y_ = (x3_1.take (x5_2 : Int).toNat) := ⟨_, rfl⟩
          replace H : (if y236036.length < 17592186044416 then ((some (y236036 ++ [x4_1] : List Int)).bind fun y236039 => (if y236039.length + y236033.length < 17592186044416 then (spec_l19Order.l0 k2 l0 (y236039 ++ y236033) (wrap64 (x4_1 + 1))) else (none))) else (none)) = some r := by first | (rw [hy236036]; with_reducible exact H) | (have H2_ := (Option.bind_some _ _).symm.trans H; rw [hy236036]; with_reducible exact H2_) | (have H2_ := (Option.bind_some _ _).symm.trans H; with_reducible exact H2_) | with_reducible exact H | (rw [hy236036]; exact H) | exact H
          have Ny236036 := aQ hy236036
          clear hy236036
          by_cases c33 : y236036.length < 17592186044416
          ·rw [if_pos c33] at H
           have LMc33 := aQ c33
           clear c33
           obtain ⟨y236039, hy236039⟩ : ∃ y_ : List Int, y_ = (y236036 ++ [x4_1]) := ⟨_, rfl⟩
           replace H : (if y236039.length + y236033.length < 17592186044416 then (spec_l19Order.l0 k2 l0 (y236039 ++ y236033) (wrap64 (x4_1 + 1))) else (none)) = some r := by first | (rw [hy236039]; with_reducible exact H) | (have H2_ := (Option.bind_some _ _).symm.trans H; rw [hy236039]; with_reducible exact H2_) | (have H2_ := (Option.bind_some _ _).symm.trans H; with_reducible exact H2_) | with_reducible exact H | (rw [hy236039]; exact H) | exact H
           have Ny236039 := aQ hy236039
           clear hy236039
           by_cases c34 : y236039.length + y236033.length < 17592186044416
           ·rw [if_pos c34] at H
            have LMc34 := aQ c34
            clear c34
            obtain ⟨y236042, hy236042⟩ : ∃ y_ : List Int, y_ = (y236039 ++ y236033) := ⟨_, rfl⟩
            replace H : (spec_l19Order.l0 k2 l0 y236042 (wrap64 (x4_1 + 1))) = some r := by first | (rw [hy236042]; with_reducible exact H) | (have H2_ := (Option.bind_some _ _).symm.trans H; rw [hy236042]; with_reducible exact H2_) | (have H2_ := (Option.bind_some _ _).symm.trans H; with_reducible exact H2_) | with_reducible exact H | (rw [hy236042]; exact H) | exact H
            have Ny236042 := aQ hy236042
            clear hy236042
            have H' := aQ H
            clear H
            go_wp2_with (first | ((with_reducible refine gate_dst (N := 35) rfl ?_); refine Kd.R_lit (Kd.int .i64) _ 3 ?hg (N := 35) ?hd (xs := ([] : List Int)) (inner := []) (ok := fun _ => True) (okp := fun _ => True) ?hr ?hp (fun _ hk => hk) trivial (Below.refl _ _) (Nat.le_refl _) (by simp) ?_; (case hd => rfl); (case hg => rfl); (case hr => first | (go_simp; done) | (go_simp; rfl)); (case hp => exact (Reps.none _ _)); intro v236027 w35 ho36 hb hg_ hnew_; clear hg_ hnew_; (first | rw [← Ny236026.out] at ho36 | (simp only [Int.reduceToNat] at ho36; rw [← Ny236026.out] at ho36)); have HO236028 := aQ (Kd.R_lower (Kd.R_new' ho36 (Kd.R_lt (pR HO_3.out))) (below_size (pB HB.out))); replace HO_3 := aQ (Kd.R_elder' (pR HO_3.out) (Kd.R_base ho36) hb); replace HB := aQ (below_step (pB HB.out) hb); clear hb ho36; have q37 : (x5_2 : Int) ≤ ((x3_1.length : Int) : Int) := of_decide_eq_true as_; obtain ⟨i037, hi037, _, hsz37, _⟩ := info_parts info3; have hroom37 : x3_1.length ≤ co5 := (Kd.R_reads' HO_3.out).2.1; have hC37 : Kd.C (Kd.int .i64) _ Ao5 x3_1.length x3_1 := (Kd.R_reads' HO_3.out).2.2; have q037 : (0 : Int) ≤ (x5_2 : Int) := of_decide_eq_true as_; have hcut37 := cut_from (P := Try.prog) 22 3 .i64 Try.underlying22 hi037 1 hsz37 Ao5 x3_1.length co5 x5_2 q037 q37; have hr37 := Kd.C_drop (m := (x5_2 : Int).toNat) (c := co5) hC37 (by omega) hroom37; obtain ⟨A37, hA37⟩ : ∃ A1, A1 = (if co5 = (x5_2 : Int).toNat then Ao5 else (Ao5 : Option Addr).map (·.add ((x5_2 : Int).toNat * 1))) := ⟨_, rfl⟩; obtain ⟨c37, hc37⟩ : ∃ c1, c1 = co5 - (x5_2 : Int).toNat := ⟨_, rfl⟩; have hy37 : y236029.length = x3_1.length - (x5_2 : Int).toNat := (by rw [Ny236029.out, List.length_drop] <;> omega); rw [show (x3_1).drop (x5_2 : Int).toNat = y236029 from Ny236029.out.symm] at hr37; replace hr37 : Kd.C (Kd.int .i64) _ A37 y236029.length y236029 := (by rw [hA37]; exact hr37); rw [← hy37, ← hA37, ← hc37] at hcut37; have HR236032 := aQ hr37; have HC236032 := aQ (show y236029.length ≤ c37 from by rw [hy37, hc37]; exact Nat.sub_le_sub_right hroom37 _); clear hr37 hC37 hroom37 hi037 hsz37 hc37; have KY37 := aQ hy37; have KA37 := aQ hA37; clear hy37 hA37; have KL37 := aQ (show (x5_2 : Int).toNat ≤ x3_1.length from by omega); replace q37 := eq_true q37) | ((with_reducible refine gate_builtin (b := .append) (xs := #[.tmp 35, .tmp 38]) rfl ?_); at_builtin; refine Kd.R_append_rows (Kd.int .i64) (w0 := w) w.heap.size rfl (.tmp 35) (.tmp 38) 22 3 (.int .i64 0) 8 rfl Try.underlying22 info3 rfl (by decide) (by omega) v236027 y236026 y236029 _ _ _ (fun k_ => some k_ ≠ (.slice Ao5 x3_1.length co5 : Value).ownBlock) (fun _ => False) rfl rfl ?aO ?aR (fun _ _ h => h) (fun _ h => h.elim) ?aF ?aB ?aS ?aL ?_; (case aR => repeat (first | exact (by repeat (first | (with_reducible exact HR236032.out) | (with_reducible refine Kd.C_alloc ?_ _) | (with_reducible refine Kd.C_drewN ?_ _) | (with_reducible refine Kd.C_drew ?_) | exact HR236032.out)) | (with_reducible refine Kd.C_alloc ?_ _) | (with_reducible refine Kd.C_drewN ?_ _) | (with_reducible refine Kd.C_drew ?_))); (case aB => exact (pB HB.out)); (case aF => exact (fun k_ hk => Kd.fresh' (Kd.R_lt (pR HO_3.out)) k_ hk)); (case aO => exact (by (with_reducible repeat (first | apply Kd.R_alloc | apply Kd.R_drewN | apply Kd.R_drew)); exact Kd.R_mono HO236028.out (fun _ hk => hk.2))); (case aS => exact (below_size (pB HB.out))); (case aL => have := LMc31.out; omega); intro v236034 w38 ho hb hg hat; rw [← Ny236033.out] at ho; replace HB := aQ (hb); replace HR236032 := aQ ((show Kd.C (Kd.int .i64) w38 A37 y236029.length y236029 from by rw [Ny236029.out, KA37.out]; exact Kd.C_drop (m := (x5_2 : Int).toNat) (c := co5) ((Kd.R_reads' (Kd.R_after (ok := (fun _ => True)) (pR HO_3.out) hg hat)).2.2) KL37.out ((Kd.R_reads' (Kd.R_after (ok := (fun _ => True)) (pR HO_3.out) hg hat)).2.1))); replace HO_3 := aQ (Kd.R_after (ok := (fun _ => True)) (pR HO_3.out) hg hat); have HO236035 := aQ (ho); clear HO236028; clear ho hb hg hat; have q39 : (x5_2 : Int) ≤ ((x3_1.length : Int) : Int) := of_decide_eq_true as_; obtain ⟨i039, hi039, _, hsz39, _⟩ := info_parts info3; have hcut39 := cut_to (P := Try.prog) 22 3 .i64 Try.underlying22 hi039 Ao5 x3_1.length co5 x5_2 (of_decide_eq_true as_) q39 (Kd.R_reads' HO_3.out).2.1; have hr39 := Kd.R_take (m := (x5_2 : Int).toNat) HO_3.out (by omega); have hy39 : y236036.length = (x5_2 : Int).toNat := (by rw [Ny236036.out, List.length_take]; omega); rw [← Ny236036.out] at hr39; rw [← hy39] at hr39 hcut39; clear hy39 hi039 hsz39 HO_3; have HO236038 := aQ hr39; clear hr39; replace q39 := eq_true q39) | ((with_reducible refine gate_builtin (b := .append) (xs := #[.tmp 42, .tmp 44]) rfl ?_); at_builtin; refine Kd.R_append (Kd.int .i64) (w0 := w) w.heap.size rfl (.tmp 42) (.tmp 44) 22 3 (.int .i64 0) 8 rfl Try.underlying22 info3 rfl (by decide) (by omega) (.slice Ao5 y236036.length co5) y236036 x4_1 [.int .i64 x4_1] (fun k_ => some k_ ≠ (v236034 : Value).ownBlock) (fun _ => False) rfl rfl ?aP (fun _ hk => hk.elim) ?aF ?aO ?aB ?aS ?aL ?_; (case aP => exact rfl); (case aB => exact (pB HB.out)); (case aF => exact (fun k_ hk => Kd.fresh' (Kd.R_lt (pR HO236035.out)) k_ hk)); (case aO => exact (by (with_reducible repeat (first | apply Kd.R_alloc | apply Kd.R_drewN | apply Kd.R_drew)); exact Kd.R_mono HO236038.out (fun _ hk => hk.2))); (case aS => exact (below_size (pB HB.out))); (case aL => have := LMc33.out; omega); intro v236040 w40 ho hb hg hat; rw [← Ny236039.out] at ho; replace HO236035 := aQ (Kd.R_after (ok := (fun _ => True)) (by (with_reducible repeat (first | apply Kd.R_alloc | apply Kd.R_drewN | apply Kd.R_drew)); exact Kd.R_mono HO236035.out (fun _ hk => ⟨trivial, by first | exact hk | exact fun h_ => hk (h_.trans (ob_len _ _ _ _))⟩)) hg hat); replace HB := aQ (hb); have HO236041 := aQ (ho); clear HO236038; clear ho hb hg hat; obtain ⟨Ao42, co42, eo42⟩ := Kd.R_slice HO236035.out; subst eo42) | ((with_reducible refine gate_builtin (b := .append) (xs := #[.tmp 45, .tmp 46]) rfl ?_); at_builtin; refine Kd.R_append_rows (Kd.int .i64) (w0 := w) w.heap.size rfl (.tmp 45) (.tmp 46) 22 3 (.int .i64 0) 8 rfl Try.underlying22 info3 rfl (by decide) (by omega) v236040 y236039 y236033 _ _ _ (fun k_ => some k_ ≠ (.slice Ao42 y236033.length co42 : Value).ownBlock) (fun _ => False) rfl rfl ?aO ?aR (fun _ _ h => h) (fun _ h => h.elim) ?aF ?aB ?aS ?aL ?_; (case aR => repeat (first | exact (Kd.R_reads' HO236035.out).2.2 | (with_reducible refine Kd.C_alloc ?_ _) | (with_reducible refine Kd.C_drewN ?_ _) | (with_reducible refine Kd.C_drew ?_))); (case aB => exact (pB HB.out)); (case aF => exact (fun k_ hk => Kd.fresh' (Kd.R_lt (pR HO236035.out)) k_ hk)); (case aO => exact (pR HO236041.out)); (case aS => exact (below_size (pB HB.out))); (case aL => have := LMc34.out; omega); intro v236043 w41 ho hb hg hat; rw [← Ny236042.out] at ho; replace HO236035 := aQ (Kd.R_after (ok := (fun _ => True)) (pR HO236035.out) hg hat); replace HB := aQ (hb); have HO236044 := aQ (ho); clear HO236041; clear ho hb hg hat))
            repeat (go_quiet (first | ((with_reducible refine gate_dst (N := 35) rfl ?_); refine Kd.R_lit (Kd.int .i64) _ 3 ?hg (N := 35) ?hd (xs := ([] : List Int)) (inner := []) (ok := fun _ => True) (okp := fun _ => True) ?hr ?hp (fun _ hk => hk) trivial (Below.refl _ _) (Nat.le_refl _) (by simp) ?_; (case hd => rfl); (case hg => rfl); (case hr => first | (go_simp; done) | (go_simp; rfl)); (case hp => exact (Reps.none _ _)); intro v236027 w35 ho36 hb hg_ hnew_; clear hg_ hnew_; (first | rw [← Ny236026.out] at ho36 | (simp only [Int.reduceToNat] at ho36; rw [← Ny236026.out] at ho36)); have HO236028 := aQ (Kd.R_lower (Kd.R_new' ho36 (Kd.R_lt (pR HO_3.out))) (below_size (pB HB.out))); replace HO_3 := aQ (Kd.R_elder' (pR HO_3.out) (Kd.R_base ho36) hb); replace HB := aQ (below_step (pB HB.out) hb); clear hb ho36; have q37 : (x5_2 : Int) ≤ ((x3_1.length : Int) : Int) := of_decide_eq_true as_; obtain ⟨i037, hi037, _, hsz37, _⟩ := info_parts info3; have hroom37 : x3_1.length ≤ co5 := (Kd.R_reads' HO_3.out).2.1; have hC37 : Kd.C (Kd.int .i64) _ Ao5 x3_1.length x3_1 := (Kd.R_reads' HO_3.out).2.2; have q037 : (0 : Int) ≤ (x5_2 : Int) := of_decide_eq_true as_; have hcut37 := cut_from (P := Try.prog) 22 3 .i64 Try.underlying22 hi037 1 hsz37 Ao5 x3_1.length co5 x5_2 q037 q37; have hr37 := Kd.C_drop (m := (x5_2 : Int).toNat) (c := co5) hC37 (by omega) hroom37; obtain ⟨A37, hA37⟩ : ∃ A1, A1 = (if co5 = (x5_2 : Int).toNat then Ao5 else (Ao5 : Option Addr).map (·.add ((x5_2 : Int).toNat * 1))) := ⟨_, rfl⟩; obtain ⟨c37, hc37⟩ : ∃ c1, c1 = co5 - (x5_2 : Int).toNat := ⟨_, rfl⟩; have hy37 : y236029.length = x3_1.length - (x5_2 : Int).toNat := (by rw [Ny236029.out, List.length_drop] <;> omega); rw [show (x3_1).drop (x5_2 : Int).toNat = y236029 from Ny236029.out.symm] at hr37; replace hr37 : Kd.C (Kd.int .i64) _ A37 y236029.length y236029 := (by rw [hA37]; exact hr37); rw [← hy37, ← hA37, ← hc37] at hcut37; have HR236032 := aQ hr37; have HC236032 := aQ (show y236029.length ≤ c37 from by rw [hy37, hc37]; exact Nat.sub_le_sub_right hroom37 _); clear hr37 hC37 hroom37 hi037 hsz37 hc37; have KY37 := aQ hy37; have KA37 := aQ hA37; clear hy37 hA37; have KL37 := aQ (show (x5_2 : Int).toNat ≤ x3_1.length from by omega); replace q37 := eq_true q37) | ((with_reducible refine gate_builtin (b := .append) (xs := #[.tmp 35, .tmp 38]) rfl ?_); at_builtin; refine Kd.R_append_rows (Kd.int .i64) (w0 := w) w.heap.size rfl (.tmp 35) (.tmp 38) 22 3 (.int .i64 0) 8 rfl Try.underlying22 info3 rfl (by decide) (by omega) v236027 y236026 y236029 _ _ _ (fun k_ => some k_ ≠ (.slice Ao5 x3_1.length co5 : Value).ownBlock) (fun _ => False) rfl rfl ?aO ?aR (fun _ _ h => h) (fun _ h => h.elim) ?aF ?aB ?aS ?aL ?_; (case aR => repeat (first | exact (by repeat (first | (with_reducible exact HR236032.out) | (with_reducible refine Kd.C_alloc ?_ _) | (with_reducible refine Kd.C_drewN ?_ _) | (with_reducible refine Kd.C_drew ?_) | exact HR236032.out)) | (with_reducible refine Kd.C_alloc ?_ _) | (with_reducible refine Kd.C_drewN ?_ _) | (with_reducible refine Kd.C_drew ?_))); (case aB => exact (pB HB.out)); (case aF => exact (fun k_ hk => Kd.fresh' (Kd.R_lt (pR HO_3.out)) k_ hk)); (case aO => exact (by (with_reducible repeat (first | apply Kd.R_alloc | apply Kd.R_drewN | apply Kd.R_drew)); exact Kd.R_mono HO236028.out (fun _ hk => hk.2))); (case aS => exact (below_size (pB HB.out))); (case aL => have := LMc31.out; omega); intro v236034 w38 ho hb hg hat; rw [← Ny236033.out] at ho; replace HB := aQ (hb); replace HR236032 := aQ ((show Kd.C (Kd.int .i64) w38 A37 y236029.length y236029 from by rw [Ny236029.out, KA37.out]; exact Kd.C_drop (m := (x5_2 : Int).toNat) (c := co5) ((Kd.R_reads' (Kd.R_after (ok := (fun _ => True)) (pR HO_3.out) hg hat)).2.2) KL37.out ((Kd.R_reads' (Kd.R_after (ok := (fun _ => True)) (pR HO_3.out) hg hat)).2.1))); replace HO_3 := aQ (Kd.R_after (ok := (fun _ => True)) (pR HO_3.out) hg hat); have HO236035 := aQ (ho); clear HO236028; clear ho hb hg hat; have q39 : (x5_2 : Int) ≤ ((x3_1.length : Int) : Int) := of_decide_eq_true as_; obtain ⟨i039, hi039, _, hsz39, _⟩ := info_parts info3; have hcut39 := cut_to (P := Try.prog) 22 3 .i64 Try.underlying22 hi039 Ao5 x3_1.length co5 x5_2 (of_decide_eq_true as_) q39 (Kd.R_reads' HO_3.out).2.1; have hr39 := Kd.R_take (m := (x5_2 : Int).toNat) HO_3.out (by omega); have hy39 : y236036.length = (x5_2 : Int).toNat := (by rw [Ny236036.out, List.length_take]; omega); rw [← Ny236036.out] at hr39; rw [← hy39] at hr39 hcut39; clear hy39 hi039 hsz39 HO_3; have HO236038 := aQ hr39; clear hr39; replace q39 := eq_true q39) | ((with_reducible refine gate_builtin (b := .append) (xs := #[.tmp 42, .tmp 44]) rfl ?_); at_builtin; refine Kd.R_append (Kd.int .i64) (w0 := w) w.heap.size rfl (.tmp 42) (.tmp 44) 22 3 (.int .i64 0) 8 rfl Try.underlying22 info3 rfl (by decide) (by omega) (.slice Ao5 y236036.length co5) y236036 x4_1 [.int .i64 x4_1] (fun k_ => some k_ ≠ (v236034 : Value).ownBlock) (fun _ => False) rfl rfl ?aP (fun _ hk => hk.elim) ?aF ?aO ?aB ?aS ?aL ?_; (case aP => exact rfl); (case aB => exact (pB HB.out)); (case aF => exact (fun k_ hk => Kd.fresh' (Kd.R_lt (pR HO236035.out)) k_ hk)); (case aO => exact (by (with_reducible repeat (first | apply Kd.R_alloc | apply Kd.R_drewN | apply Kd.R_drew)); exact Kd.R_mono HO236038.out (fun _ hk => hk.2))); (case aS => exact (below_size (pB HB.out))); (case aL => have := LMc33.out; omega); intro v236040 w40 ho hb hg hat; rw [← Ny236039.out] at ho; replace HO236035 := aQ (Kd.R_after (ok := (fun _ => True)) (by (with_reducible repeat (first | apply Kd.R_alloc | apply Kd.R_drewN | apply Kd.R_drew)); exact Kd.R_mono HO236035.out (fun _ hk => ⟨trivial, by first | exact hk | exact fun h_ => hk (h_.trans (ob_len _ _ _ _))⟩)) hg hat); replace HB := aQ (hb); have HO236041 := aQ (ho); clear HO236038; clear ho hb hg hat; obtain ⟨Ao42, co42, eo42⟩ := Kd.R_slice HO236035.out; subst eo42) | ((with_reducible refine gate_builtin (b := .append) (xs := #[.tmp 45, .tmp 46]) rfl ?_); at_builtin; refine Kd.R_append_rows (Kd.int .i64) (w0 := w) w.heap.size rfl (.tmp 45) (.tmp 46) 22 3 (.int .i64 0) 8 rfl Try.underlying22 info3 rfl (by decide) (by omega) v236040 y236039 y236033 _ _ _ (fun k_ => some k_ ≠ (.slice Ao42 y236033.length co42 : Value).ownBlock) (fun _ => False) rfl rfl ?aO ?aR (fun _ _ h => h) (fun _ h => h.elim) ?aF ?aB ?aS ?aL ?_; (case aR => repeat (first | exact (Kd.R_reads' HO236035.out).2.2 | (with_reducible refine Kd.C_alloc ?_ _) | (with_reducible refine Kd.C_drewN ?_ _) | (with_reducible refine Kd.C_drew ?_))); (case aB => exact (pB HB.out)); (case aF => exact (fun k_ hk => Kd.fresh' (Kd.R_lt (pR HO236035.out)) k_ hk)); (case aO => exact (pR HO236041.out)); (case aS => exact (below_size (pB HB.out))); (case aL => have := LMc34.out; omega); intro v236043 w41 ho hb hg hat; rw [← Ny236042.out] at ho; replace HO236035 := aQ (Kd.R_after (ok := (fun _ => True)) (pR HO236035.out) hg hat); replace HB := aQ (hb); have HO236044 := aQ (ho); clear HO236041; clear ho hb hg hat)); try go_wp2_with (first | ((with_reducible refine gate_dst (N := 35) rfl ?_); refine Kd.R_lit (Kd.int .i64) _ 3 ?hg (N := 35) ?hd (xs := ([] : List Int)) (inner := []) (ok := fun _ => True) (okp := fun _ => True) ?hr ?hp (fun _ hk => hk) trivial (Below.refl _ _) (Nat.le_refl _) (by simp) ?_; (case hd => rfl); (case hg => rfl); (case hr => first | (go_simp; done) | (go_simp; rfl)); (case hp => exact (Reps.none _ _)); intro v236027 w35 ho36 hb hg_ hnew_; clear hg_ hnew_; (first | rw [← Ny236026.out] at ho36 | (simp only [Int.reduceToNat] at ho36; rw [← Ny236026.out] at ho36)); have HO236028 := aQ (Kd.R_lower (Kd.R_new' ho36 (Kd.R_lt (pR HO_3.out))) (below_size (pB HB.out))); replace HO_3 := aQ (Kd.R_elder' (pR HO_3.out) (Kd.R_base ho36) hb); replace HB := aQ (below_step (pB HB.out) hb); clear hb ho36; have q37 : (x5_2 : Int) ≤ ((x3_1.length : Int) : Int) := of_decide_eq_true as_; obtain ⟨i037, hi037, _, hsz37, _⟩ := info_parts info3; have hroom37 : x3_1.length ≤ co5 := (Kd.R_reads' HO_3.out).2.1; have hC37 : Kd.C (Kd.int .i64) _ Ao5 x3_1.length x3_1 := (Kd.R_reads' HO_3.out).2.2; have q037 : (0 : Int) ≤ (x5_2 : Int) := of_decide_eq_true as_; have hcut37 := cut_from (P := Try.prog) 22 3 .i64 Try.underlying22 hi037 1 hsz37 Ao5 x3_1.length co5 x5_2 q037 q37; have hr37 := Kd.C_drop (m := (x5_2 : Int).toNat) (c := co5) hC37 (by omega) hroom37; obtain ⟨A37, hA37⟩ : ∃ A1, A1 = (if co5 = (x5_2 : Int).toNat then Ao5 else (Ao5 : Option Addr).map (·.add ((x5_2 : Int).toNat * 1))) := ⟨_, rfl⟩; obtain ⟨c37, hc37⟩ : ∃ c1, c1 = co5 - (x5_2 : Int).toNat := ⟨_, rfl⟩; have hy37 : y236029.length = x3_1.length - (x5_2 : Int).toNat := (by rw [Ny236029.out, List.length_drop] <;> omega); rw [show (x3_1).drop (x5_2 : Int).toNat = y236029 from Ny236029.out.symm] at hr37; replace hr37 : Kd.C (Kd.int .i64) _ A37 y236029.length y236029 := (by rw [hA37]; exact hr37); rw [← hy37, ← hA37, ← hc37] at hcut37; have HR236032 := aQ hr37; have HC236032 := aQ (show y236029.length ≤ c37 from by rw [hy37, hc37]; exact Nat.sub_le_sub_right hroom37 _); clear hr37 hC37 hroom37 hi037 hsz37 hc37; have KY37 := aQ hy37; have KA37 := aQ hA37; clear hy37 hA37; have KL37 := aQ (show (x5_2 : Int).toNat ≤ x3_1.length from by omega); replace q37 := eq_true q37) | ((with_reducible refine gate_builtin (b := .append) (xs := #[.tmp 35, .tmp 38]) rfl ?_); at_builtin; refine Kd.R_append_rows (Kd.int .i64) (w0 := w) w.heap.size rfl (.tmp 35) (.tmp 38) 22 3 (.int .i64 0) 8 rfl Try.underlying22 info3 rfl (by decide) (by omega) v236027 y236026 y236029 _ _ _ (fun k_ => some k_ ≠ (.slice Ao5 x3_1.length co5 : Value).ownBlock) (fun _ => False) rfl rfl ?aO ?aR (fun _ _ h => h) (fun _ h => h.elim) ?aF ?aB ?aS ?aL ?_; (case aR => repeat (first | exact (by repeat (first | (with_reducible exact HR236032.out) | (with_reducible refine Kd.C_alloc ?_ _) | (with_reducible refine Kd.C_drewN ?_ _) | (with_reducible refine Kd.C_drew ?_) | exact HR236032.out)) | (with_reducible refine Kd.C_alloc ?_ _) | (with_reducible refine Kd.C_drewN ?_ _) | (with_reducible refine Kd.C_drew ?_))); (case aB => exact (pB HB.out)); (case aF => exact (fun k_ hk => Kd.fresh' (Kd.R_lt (pR HO_3.out)) k_ hk)); (case aO => exact (by (with_reducible repeat (first | apply Kd.R_alloc | apply Kd.R_drewN | apply Kd.R_drew)); exact Kd.R_mono HO236028.out (fun _ hk => hk.2))); (case aS => exact (below_size (pB HB.out))); (case aL => have := LMc31.out; omega); intro v236034 w38 ho hb hg hat; rw [← Ny236033.out] at ho; replace HB := aQ (hb); replace HR236032 := aQ ((show Kd.C (Kd.int .i64) w38 A37 y236029.length y236029 from by rw [Ny236029.out, KA37.out]; exact Kd.C_drop (m := (x5_2 : Int).toNat) (c := co5) ((Kd.R_reads' (Kd.R_after (ok := (fun _ => True)) (pR HO_3.out) hg hat)).2.2) KL37.out ((Kd.R_reads' (Kd.R_after (ok := (fun _ => True)) (pR HO_3.out) hg hat)).2.1))); replace HO_3 := aQ (Kd.R_after (ok := (fun _ => True)) (pR HO_3.out) hg hat); have HO236035 := aQ (ho); clear HO236028; clear ho hb hg hat; have q39 : (x5_2 : Int) ≤ ((x3_1.length : Int) : Int) := of_decide_eq_true as_; obtain ⟨i039, hi039, _, hsz39, _⟩ := info_parts info3; have hcut39 := cut_to (P := Try.prog) 22 3 .i64 Try.underlying22 hi039 Ao5 x3_1.length co5 x5_2 (of_decide_eq_true as_) q39 (Kd.R_reads' HO_3.out).2.1; have hr39 := Kd.R_take (m := (x5_2 : Int).toNat) HO_3.out (by omega); have hy39 : y236036.length = (x5_2 : Int).toNat := (by rw [Ny236036.out, List.length_take]; omega); rw [← Ny236036.out] at hr39; rw [← hy39] at hr39 hcut39; clear hy39 hi039 hsz39 HO_3; have HO236038 := aQ hr39; clear hr39; replace q39 := eq_true q39) | ((with_reducible refine gate_builtin (b := .append) (xs := #[.tmp 42, .tmp 44]) rfl ?_); at_builtin; refine Kd.R_append (Kd.int .i64) (w0 := w) w.heap.size rfl (.tmp 42) (.tmp 44) 22 3 (.int .i64 0) 8 rfl Try.underlying22 info3 rfl (by decide) (by omega) (.slice Ao5 y236036.length co5) y236036 x4_1 [.int .i64 x4_1] (fun k_ => some k_ ≠ (v236034 : Value).ownBlock) (fun _ => False) rfl rfl ?aP (fun _ hk => hk.elim) ?aF ?aO ?aB ?aS ?aL ?_; (case aP => exact rfl); (case aB => exact (pB HB.out)); (case aF => exact (fun k_ hk => Kd.fresh' (Kd.R_lt (pR HO236035.out)) k_ hk)); (case aO => exact (by (with_reducible repeat (first | apply Kd.R_alloc | apply Kd.R_drewN | apply Kd.R_drew)); exact Kd.R_mono HO236038.out (fun _ hk => hk.2))); (case aS => exact (below_size (pB HB.out))); (case aL => have := LMc33.out; omega); intro v236040 w40 ho hb hg hat; rw [← Ny236039.out] at ho; replace HO236035 := aQ (Kd.R_after (ok := (fun _ => True)) (by (with_reducible repeat (first | apply Kd.R_alloc | apply Kd.R_drewN | apply Kd.R_drew)); exact Kd.R_mono HO236035.out (fun _ hk => ⟨trivial, by first | exact hk | exact fun h_ => hk (h_.trans (ob_len _ _ _ _))⟩)) hg hat); replace HB := aQ (hb); have HO236041 := aQ (ho); clear HO236038; clear ho hb hg hat; obtain ⟨Ao42, co42, eo42⟩ := Kd.R_slice HO236035.out; subst eo42) | ((with_reducible refine gate_builtin (b := .append) (xs := #[.tmp 45, .tmp 46]) rfl ?_); at_builtin; refine Kd.R_append_rows (Kd.int .i64) (w0 := w) w.heap.size rfl (.tmp 45) (.tmp 46) 22 3 (.int .i64 0) 8 rfl Try.underlying22 info3 rfl (by decide) (by omega) v236040 y236039 y236033 _ _ _ (fun k_ => some k_ ≠ (.slice Ao42 y236033.length co42 : Value).ownBlock) (fun _ => False) rfl rfl ?aO ?aR (fun _ _ h => h) (fun _ h => h.elim) ?aF ?aB ?aS ?aL ?_; (case aR => repeat (first | exact (Kd.R_reads' HO236035.out).2.2 | (with_reducible refine Kd.C_alloc ?_ _) | (with_reducible refine Kd.C_drewN ?_ _) | (with_reducible refine Kd.C_drew ?_))); (case aB => exact (pB HB.out)); (case aF => exact (fun k_ hk => Kd.fresh' (Kd.R_lt (pR HO236035.out)) k_ hk)); (case aO => exact (pR HO236041.out)); (case aS => exact (below_size (pB HB.out))); (case aL => have := LMc34.out; omega); intro v236043 w41 ho hb hg hat; rw [← Ny236042.out] at ho; replace HO236035 := aQ (Kd.R_after (ok := (fun _ => True)) (pR HO236035.out) hg hat); replace HB := aQ (hb); have HO236044 := aQ (ho); clear HO236041; clear ho hb hg hat)))
            go_roundg k2
            case measure => have := HK1.out; have := HK2.out; omega
            case rel => exact ⟨(y236042), (wrap64 (x4_1 + 1)), rs_, H', ⟨by have := HK1.out; have := HK2.out; omega⟩, ⟨by (with_reducible repeat (first | apply Kd.R_alloc | apply Kd.R_drewN | apply Kd.R_drew)); exact Kd.R_mono HO236044.out (fun _ hk => trivial)⟩, ⟨pB HB.out⟩⟩
           ·rw [if_neg c34] at H
            exact absurd H (by simp)
          ·rw [if_neg c33] at H
           exact absurd H (by simp)
         ·rw [if_neg c31] at H
          exact absurd H (by simp)
        ·rw [if_neg c30] at H
         exact absurd H (by simp)
       ·rw [if_neg c29] at H
        exact absurd H (by simp)
   ·rw [if_neg c4] at H
    have c4b0 : decide (x4_1 < (l0.length : Int)) = false := decide_eq_false c4
    clear c4
    obtain rfl := Option.some.inj H
    go_wp2
    repeat (go_quiet (fail); try go_wp2)
    go_ret
    exact ⟨_, by first | rfl | (simp [errW_none, errW_some] <;> rfl) | (simp [*, errW_none, errW_some] <;> rfl), by (with_reducible repeat (first | apply Kd.R_alloc | apply Kd.R_drewN | apply Kd.R_drew)); exact HO_3.out, pB HB.out⟩
end Go.Proofs.Ytinoamehdhgpgaa.A
namespace Go.Proofs.Ytinoamehdhgpgaa.A
open Go.RowKit Go.Proofs.YtinoamehdhgpgaaW.PrintWords Go.Proofs.YtinoamehdhgpgaaW.PrintLast Go.Proofs.YtinoamehdhgpgaaW.PrintMore
attribute [local go_sem] max2_int min2_int max_two min_two max_three min_three max_four min_four   -- for this text's walks alone
set_option linter.unusedVariables false
set_option linter.unusedSimpArgs false

/-! ### spec_l19Taken: function 163 -/
def spec_l19Taken.l0 : Nat → List Int → Int → List Int → Int → Int → List Int → Option (List Int)
 | 0, _, _, _, _, _, _ => none
 | k + 1, x5, x6, x7, x8, x164002000, x164002001 => if x8 < (x7.length : Int) then (if 0 ≤ x8 then (if 0 ≤ (IntKind.u64.wrap (rd x7 x8)) then ((spec_l5Rank.f k x164002000 x164002001 (Go.bits .or .i64 x6 (shl .i64 1 (IntKind.u64.wrap (rd x7 x8))))).bind fun t164009 => ((spec_CountOf.f k (Go.bits .or .i64 x6 (shl .i64 1 (IntKind.u64.wrap (rd x7 x8))))).bind fun t164010 => (if t164009 = t164010 then (if x5.length < 17592186044416 then (spec_l19Taken.l0 k (x5 ++ [rd x7 x8]) (Go.bits .or .i64 x6 (shl .i64 1 (IntKind.u64.wrap (rd x7 x8)))) x7 (wrap64 (x8 + 1)) x164002000 x164002001) else (none)) else (spec_l19Taken.l0 k x5 x6 x7 (wrap64 (x8 + 1)) x164002000 x164002001)))) else (none)) else (none)) else (some x5)
def spec_l19Taken.f (k : Nat) (a0_0 : Int) (l0_1 : List Int) (l1 : List Int) : Option (List Int) := (spec_l19Order.f k l1).bind fun t164005 => (spec_l19Taken.l0 k (([] : List Int)) 0 t164005 0 a0_0 l0_1)
theorem spec_l19Taken.mono_l : ∀ k, (∀ y0 y1 y2 y3 y4 y5, LeO (spec_l19Taken.l0 k y0 y1 y2 y3 y4 y5) (spec_l19Taken.l0 (k + 1) y0 y1 y2 y3 y4 y5))
 | 0 => fun _ _ _ _ _ _ r h => by simp [spec_l19Taken.l0] at h
 | k + 1 => by
  have ih0 := spec_l19Taken.mono_l k
  ·intro y0 y1 y2 y3 y4 y5
   unfold spec_l19Taken.l0
   repeat' first
   | (with_reducible exact ih0 _ _ _ _ _ _)
   | (with_reducible exact spec_CountOf.mono _ _)
   | (with_reducible exact spec_l19Order.mono _ _)
   | (with_reducible exact spec_l5Rank.mono _ _ _ _)
   | (with_reducible exact LeO.refl _)
   | (with_reducible exact LeO.none _)
   | (with_reducible refine LeO.ite ?_ ?_)
   | (with_reducible refine LeO.bind ?_ (fun _ => ?_))
   | exact ih0 _ _ _ _ _ _
   | exact spec_CountOf.mono _ _
   | exact spec_l19Order.mono _ _
   | exact spec_l5Rank.mono _ _ _ _
   | exact LeO.none _
   | refine LeO.ite ?_ ?_
   | refine LeO.bind ?_ (fun _ => ?_)
theorem spec_l19Taken.mono : ∀ a0 a1 a2 k, LeO (spec_l19Taken.f k a0 a1 a2) (spec_l19Taken.f (k + 1) a0 a1 a2) := by
 intro a0 a1 a2 k
 have ih0 := spec_l19Taken.mono_l k
 unfold spec_l19Taken.f
 repeat' first
   | (with_reducible exact ih0 _ _ _ _ _ _)
   | (with_reducible exact spec_CountOf.mono _ _)
   | (with_reducible exact spec_l19Order.mono _ _)
   | (with_reducible exact spec_l5Rank.mono _ _ _ _)
   | (with_reducible exact LeO.refl _)
   | (with_reducible exact LeO.none _)
   | (with_reducible refine LeO.ite ?_ ?_)
   | (with_reducible refine LeO.bind ?_ (fun _ => ?_))
   | exact ih0 _ _ _ _ _ _
   | exact spec_CountOf.mono _ _
   | exact spec_l19Order.mono _ _
   | exact spec_l5Rank.mono _ _ _ _
   | exact LeO.none _
   | refine LeO.ite ?_ ?_
   | refine LeO.bind ?_ (fun _ => ?_)
set_option maxHeartbeats 8000000 in
set_option maxRecDepth 100000 in
theorem spec_l19Taken.calls (k : Nat) (a0_0 : Int) (A0_1 : Option Addr) (c0_1 : Nat) (l0_1 : List Int) (A1 : Option Addr) (c1 : Nat) (l1 : List Int) (r : List Int) (w : World) (hr0_1 : Kd.C (Kd.int .i64) w A0_1 l0_1.length l0_1) (hc0_1 : l0_1.length ≤ c0_1) (hr1 : Kd.C (Kd.int .i64) w A1 l1.length l1) (hc1 : l1.length ≤ c1) (h : spec_l19Taken.f k a0_0 l0_1 l1 = some r) :
  Calls Try.prog 163 #[.agg #[.int .i64 a0_0, .slice A0_1 l0_1.length c0_1], .slice A1 l1.length c1] w fun e w' => ∃ v0_ : Value, e = .returned (v0_) ∧ Kd.R (Kd.int .i64) 3 w' w.heap.size (fun _ => True) v0_ r ∧ Below w.heap.size w w' := by
 have hu28 := Try.underlying28
 have HR0_1 := aQ hr0_1
 have HC0_1 := aQ hc0_1
 clear hr0_1 hc0_1
 have HR1 := aQ hr1
 have HC1 := aQ hc1
 clear hr1 hc1
 have HB := aQ (Below.refl w.heap.size w)
 have H : ((spec_l19Order.f k l1).bind fun t164005 => (spec_l19Taken.l0 k (([] : List Int)) 0 t164005 0 a0_0 l0_1)) = some r := h
 clear h
 obtain ⟨y164002, hy164002⟩ : ∃ y_ : List Int, y_ = (([] : List Int)) := ⟨_, rfl⟩
 replace H : ((spec_l19Order.f k l1).bind fun t164005 => (spec_l19Taken.l0 k y164002 0 t164005 0 a0_0 l0_1)) = some r := by first | (rw [hy164002]; with_reducible exact H) | (have H2_ := (Option.bind_some _ _).symm.trans H; rw [hy164002]; with_reducible exact H2_) | (have H2_ := (Option.bind_some _ _).symm.trans H; with_reducible exact H2_) | with_reducible exact H | (rw [hy164002]; exact H) | exact H
 have Ny164002 := aQ hy164002
 clear hy164002
 replace H := Option.bind_eq_some_iff.mp H
 obtain ⟨t164005, A30, H⟩ := H
 replace H : (spec_l19Taken.l0 k y164002 0 t164005 0 a0_0 l0_1) = some r := H
 have A3 := aQ A30
 clear A30
 have H' := aQ H
 clear H
 go_enter Try.func163, Try.ntmps163
 go_wp2_with (first | ((with_reducible refine gate_dst (N := 2) rfl ?_); refine box_event ?hg (N := 2) ?hd (cs := #[.int .i64 a0_0, .slice A0_1 l0_1.length c0_1]) (t := 28) ?hr ?_; (case hd => rfl); (case hg => rfl); (case hr => first | (go_simp; done) | (go_simp; rfl)); intro gb164001 hg w4 hbox hb; have BK164001 := aQ (hbox); have GW164001 := aQ ((by rw [hg]; exact (below_size (pB HB.out)) : w.heap.size ≤ gb164001)); have GE164001 := aQ ((by rw [hg]; exact (below_size (pB HB.out)) : w.heap.size ≤ gb164001)); replace HB := aQ (below_step (pB HB.out) hb); clear hb hbox hg) | ((with_reducible refine gate_dst (N := 10) rfl ?_); refine Kd.R_lit (Kd.int .i64) _ 3 ?hg (N := 10) ?hd (xs := ([] : List Int)) (inner := []) (ok := fun _ => True) (okp := fun _ => True) ?hr ?hp (fun _ hk => hk) trivial (Below.refl _ _) (Nat.le_refl _) (by simp) ?_; (case hd => rfl); (case hg => rfl); (case hr => first | (go_simp; done) | (go_simp; rfl)); (case hp => exact (Reps.none _ _)); intro v164003 w5 ho6 hb hg_ hnew_; clear hg_ hnew_; (first | rw [← Ny164002.out] at ho6 | (simp only [Int.reduceToNat] at ho6; rw [← Ny164002.out] at ho6)); have HO164004 := aQ (Kd.R_lower ho6 (below_size (pB1 HB.out GE164001.out))); replace BK164001 := aQ (blk_below (g := gb164001) (o := .cells #[.int .i64 a0_0, .slice A0_1 l0_1.length c0_1] 28 (0, 0)) (pk BK164001.out) hb); replace HB := aQ (below_step (pB1 HB.out GE164001.out) hb); clear hb ho6) | ((with_reducible refine gate_callee (f := 235) rfl ?_); refine goesL_ (some 12) rfl rfl Try.func235 (by kernel_rfl) rfl #[.slice A1 l1.length c1] rfl lm ?_; (with_reducible refine (spec_l19Order.calls k _ _ l1 t164005 _ ?side1 ?side2 A3.out).mono ?_); (case side1 => exact pC (Kd.C_below HR1.out HB.out)); (case side2 => exact HC1.out); rintro e w7 ⟨v164006, rfl, ho0, hb⟩; refine ⟨_, rfl, ?_⟩; have HO164007 := aQ (Kd.R_lower (Kd.R_new' ho0 (Kd.R_lt (pR HO164004.out))) (below_size (pB1 HB.out GE164001.out))); replace HO164004 := aQ (Kd.R_elder' (pR HO164004.out) (Kd.R_base ho0) hb); replace BK164001 := aQ (blk_below (g := gb164001) (o := .cells #[.int .i64 a0_0, .slice A0_1 l0_1.length c0_1] 28 (0, 0)) (pk BK164001.out) hb); replace HB := aQ (below_step (pB1 HB.out GE164001.out) hb); (try clear hb); (try clear ho0)))
 go_loopg [5, 6, 8] k (fun kq v5 v6 v8 w' => ∃ (x5_1 : List Int) (x6_1 : Int) (x8_1 : Int), v6 = .int .i64 x6_1 ∧ v8 = .int .i64 x8_1 ∧ Aside0 (spec_l19Taken.l0 kq x5_1 x6_1 t164005 x8_1 a0_0 l0_1 = some r) ∧ Aside0 (kq ≤ k) ∧ Aside0 (Kd.R (Kd.int .i64) 3 w' w.heap.size (fun k_ => some k_ ≠ (v164006 : Value).ownBlock) v5 x5_1) ∧ Aside0 (Kd.R (Kd.int .i64) 3 w' w.heap.size (fun k_ => some k_ ≠ (v5 : Value).ownBlock) v164006 t164005) ∧ Aside0 (w'.heap[gb164001]? = some (.cells #[.int .i64 a0_0, (.slice A0_1 l0_1.length c0_1)] 28 (0, 0))) ∧ Aside0 (Below w.heap.size w w'))
 case atStart => exact ⟨(y164002), (0), (0), rs_, rs_, H', ⟨Nat.le_refl _⟩, ⟨by (with_reducible repeat (first | apply Kd.R_alloc | apply Kd.R_drewN | apply Kd.R_drew)); exact Kd.R_mono HO164004.out (fun _ hk => hk.2)⟩, ⟨by (with_reducible repeat (first | apply Kd.R_alloc | apply Kd.R_drewN | apply Kd.R_drew)); exact Kd.R_mono HO164007.out (fun _ hk => hk.2)⟩, ⟨pk BK164001.out⟩, ⟨pB1 HB.out GE164001.out⟩⟩
 case round =>
  clear H'
  try clear c1
  try clear c2
  try clear p2
  obtain ⟨x5_1, x6_1, x8_1, rfl, rfl, HA, HK1, HO_5, HO_7, BK164001, HB⟩ := hrel
  cases gk with
  | zero => exact absurd HA.out (by simp [spec_l19Taken.l0])
  | succ k1 =>
   have H := HA.out
   clear HA
   simp only [spec_l19Taken.l0] at H
   by_cases c8 : x8_1 < (t164005.length : Int)
   ·rw [if_pos c8] at H
    have c8b0 : decide (x8_1 < (t164005.length : Int)) = true := decide_eq_true c8
    clear c8
    by_cases c9 : 0 ≤ x8_1
    ·rw [if_pos c9] at H
     have c9b0 : decide (0 ≤ x8_1) = true := decide_eq_true c9
     clear c9
     obtain ⟨ji10, hji10⟩ : ∃ j_ : Int, (IntKind.u64.wrap (rd t164005 x8_1)) = j_ := ⟨_, rfl⟩
     replace H : (if 0 ≤ (ji10) then ((spec_l5Rank.f k1 a0_0 l0_1 (Go.bits .or .i64 x6_1 (shl .i64 1 (ji10)))).bind fun t164009 => ((spec_CountOf.f k1 (Go.bits .or .i64 x6_1 (shl .i64 1 (ji10)))).bind fun t164010 => (if t164009 = t164010 then (if x5_1.length < 17592186044416 then (spec_l19Taken.l0 k1 (x5_1 ++ [rd t164005 x8_1]) (Go.bits .or .i64 x6_1 (shl .i64 1 (ji10))) t164005 (wrap64 (x8_1 + 1)) a0_0 l0_1) else (none)) else (spec_l19Taken.l0 k1 x5_1 x6_1 t164005 (wrap64 (x8_1 + 1)) a0_0 l0_1)))) else (none)) = some r := by first | (rw [hji10] at H; exact H) | (simp only [hji10] at H ⊢; exact H)
     by_cases c11 : 0 ≤ (ji10)
     ·rw [if_pos c11] at H
      have c11b0 := eq_true c11
      have c11b1 : decide (0 ≤ (ji10)) = true := decide_eq_true c11
      clear c11
      obtain ⟨ji12, hji12⟩ : ∃ j_ : Int, (shl .i64 1 (ji10)) = j_ := ⟨_, rfl⟩
      replace H : ((spec_l5Rank.f k1 a0_0 l0_1 (Go.bits .or .i64 x6_1 (ji12))).bind fun t164009 => ((spec_CountOf.f k1 (Go.bits .or .i64 x6_1 (ji12))).bind fun t164010 => (if t164009 = t164010 then (if x5_1.length < 17592186044416 then (spec_l19Taken.l0 k1 (x5_1 ++ [rd t164005 x8_1]) (Go.bits .or .i64 x6_1 (ji12)) t164005 (wrap64 (x8_1 + 1)) a0_0 l0_1) else (none)) else (spec_l19Taken.l0 k1 x5_1 x6_1 t164005 (wrap64 (x8_1 + 1)) a0_0 l0_1)))) = some r := by first | (rw [hji12] at H; exact H) | (simp only [hji12] at H ⊢; exact H)
      have hji12_ : (IntKind.i64.wrap (1 * 2 ^ min (ji10).toNat 64)) = ji12 := hji12
      have hji12z : (ji10) ≤ 64 → (IntKind.i64.wrap (1 * 2 ^ (ji10).toNat)) = ji12 := shl_small hji12
      have hji12u : (IntKind.i64.wrap (2 ^ min (ji10).toNat 64)) = ji12 := by have h_ := hji12_; rw [Int.one_mul] at h_; exact h_
      have hji12v : (ji10) ≤ 64 → (IntKind.i64.wrap (2 ^ (ji10).toNat)) = ji12 := fun hle_ => by have h_ := hji12z hle_; rw [Int.one_mul] at h_; exact h_
      have hji12y : (wrap64 (1 * 2 ^ min (ji10).toNat 64)) = ji12 := (i64_w _).symm.trans hji12_
      have hji12x : (ji10) ≤ 64 → (wrap64 (1 * 2 ^ (ji10).toNat)) = ji12 := fun h_ => (i64_w _).symm.trans (hji12z h_)
      replace H := Option.bind_eq_some_iff.mp H
      obtain ⟨t164009, A130, H⟩ := H
      replace H : ((spec_CountOf.f k1 (Go.bits .or .i64 x6_1 (ji12))).bind fun t164010 => (if t164009 = t164010 then (if x5_1.length < 17592186044416 then (spec_l19Taken.l0 k1 (x5_1 ++ [rd t164005 x8_1]) (Go.bits .or .i64 x6_1 (ji12)) t164005 (wrap64 (x8_1 + 1)) a0_0 l0_1) else (none)) else (spec_l19Taken.l0 k1 x5_1 x6_1 t164005 (wrap64 (x8_1 + 1)) a0_0 l0_1))) = some r := H
      have A13 := aQ A130
      clear A130
      replace H := Option.bind_eq_some_iff.mp H
      obtain ⟨t164010, A140, H⟩ := H
      replace H : (if t164009 = t164010 then (if x5_1.length < 17592186044416 then (spec_l19Taken.l0 k1 (x5_1 ++ [rd t164005 x8_1]) (Go.bits .or .i64 x6_1 (ji12)) t164005 (wrap64 (x8_1 + 1)) a0_0 l0_1) else (none)) else (spec_l19Taken.l0 k1 x5_1 x6_1 t164005 (wrap64 (x8_1 + 1)) a0_0 l0_1)) = some r := H
      have A14 := aQ A140
      clear A140
      by_cases c15 : t164009 = t164010
      ·rw [if_pos c15] at H
       have c15b0 : (t164009 == t164010) = true := beq_iff_eq.mpr c15
       have c15b1 : (t164009 != t164010) = false := bne_eq_false_iff_eq.mpr c15
       clear c15
       by_cases c16 : x5_1.length < 17592186044416
       ·rw [if_pos c16] at H
        have LMc16 := aQ c16
        clear c16
        obtain ⟨y164012, hy164012⟩ : ∃ y_ : List Int, y_ = (x5_1 ++ [rd t164005 x8_1]) := ⟨_, rfl⟩
        replace H : (spec_l19Taken.l0 k1 y164012 (Go.bits .or .i64 x6_1 (ji12)) t164005 (wrap64 (x8_1 + 1)) a0_0 l0_1) = some r := by first | (rw [hy164012]; with_reducible exact H) | (have H2_ := (Option.bind_some _ _).symm.trans H; rw [hy164012]; with_reducible exact H2_) | (have H2_ := (Option.bind_some _ _).symm.trans H; with_reducible exact H2_) | with_reducible exact H | (rw [hy164012]; exact H) | exact H
        have Ny164012 := aQ hy164012
        clear hy164012
        have H' := aQ H
        clear H
        obtain ⟨Ao17, co17, eo17⟩ := Kd.R_slice HO_7.out
        subst eo17
        have p164008 : 0 ≤ (x8_1 : Int) := of_decide_eq_true as_
        have q164008 : x8_1 < (t164005.length : Int) := of_decide_eq_true as_
        obtain ⟨ad164008, e164008, hx164008_0⟩ := Kd.at_int (Kd.R_reads' HO_7.out).2.2 x8_1 p164008 q164008
        cases e164008
        replace p164008 := eq_true p164008
        replace q164008 := eq_true q164008
        have hcz18_0 := bc (v := (.int .i64 a0_0)) BK164001.out 0
        have hcz18_1 := bc (v := (.slice A0_1 l0_1.length c0_1)) BK164001.out 1
        have hfz18_0 := blk_frozen BK164001.out 0
        have hfz18_1 := blk_frozen BK164001.out 1
        go_wp2_with (first | ((with_reducible refine gate_callee (f := 121) rfl ?_); refine goesL_ (some 29) rfl rfl Try.func121 (by kernel_rfl) rfl #[.agg #[.int .i64 a0_0, .slice A0_1 l0_1.length c0_1], .int .i64 (Go.bits .or .i64 x6_1 (ji12))] rfl (by (try simp only [List.map_toArray, List.map_cons, List.map_nil]); first | done | (simp only [hji12]; rfl) | rfl | (simp only [List.length_drop, List.length_take]; rfl)) ?_; (with_reducible refine (spec_l5Rank.calls k1 a0_0 _ _ l0_1 (Go.bits .or .i64 x6_1 (ji12)) t164009 _ ?side1 ?side2 A13.out).mono ?_); (case side1 => exact pC (Kd.C_below HR0_1.out HB.out)); (case side2 => exact HC0_1.out); rintro e w19 ⟨rfl, hb⟩; refine ⟨_, rfl, ?_⟩; replace HO_5 := aQ (Kd.R_below (pR HO_5.out) hb); replace HO_7 := aQ (Kd.R_below (pR HO_7.out) hb); replace BK164001 := aQ (blk_below (g := gb164001) (o := .cells #[.int .i64 a0_0, .slice A0_1 l0_1.length c0_1] 28 (0, 0)) (pk BK164001.out) hb); replace HB := aQ (below_step (pB1 HB.out GE164001.out) hb); (try clear hb)) | ((with_reducible refine gate_callee (f := 116) rfl ?_); refine goesL_ (some 31) rfl rfl Try.func116 (by kernel_rfl) rfl #[.int .i64 (Go.bits .or .i64 x6_1 (ji12))] rfl (by (try simp only [List.map_toArray, List.map_cons, List.map_nil]); first | done | (simp only [hji12]; rfl) | rfl | (simp only [List.length_drop, List.length_take]; rfl)) ?_; (with_reducible refine (spec_CountOf.calls k1 (Go.bits .or .i64 x6_1 (ji12)) t164010 _ A14.out).mono ?_); rintro e w' ⟨rfl, ⟨nd, rfl⟩⟩; refine ⟨_, rfl, ?_⟩; have p164011 : 0 ≤ (x8_1 : Int) := of_decide_eq_true as_; have q164011 : x8_1 < (t164005.length : Int) := of_decide_eq_true as_; obtain ⟨ad164011, e164011, hx164011_0⟩ := Kd.at_int (Kd.R_reads' HO_7.out).2.2 x8_1 p164011 q164011; obtain rfl : ad164008 = ad164011 := (by injection e164011); replace p164011 := eq_true p164011; replace q164011 := eq_true q164011) | ((with_reducible refine gate_builtin (b := .append) (xs := #[.tmp 34, .tmp 39]) rfl ?_); at_builtin; refine Kd.R_append (Kd.int .i64) (w0 := w) w.heap.size rfl (.tmp 34) (.tmp 39) 22 3 (.int .i64 0) 8 rfl Try.underlying22 info3 rfl (by decide) (by omega) u5 x5_1 (rd t164005 x8_1) [.int .i64 (rd t164005 x8_1)] (fun k_ => some k_ ≠ (.slice (some ad164008) t164005.length co17 : Value).ownBlock) (fun _ => False) rfl rfl ?aP (fun _ hk => hk.elim) ?aF ?aO ?aB ?aS ?aL ?_; (case aP => exact rfl); (case aB => exact (pB1 HB.out GE164001.out)); (case aF => exact (fun k_ hk => Kd.fresh' (Kd.R_lt (pR HO_7.out)) k_ hk)); (case aO => exact (pR HO_5.out)); (case aS => exact (below_size (pB1 HB.out GE164001.out))); (case aL => have := LMc16.out; omega); intro v164013 w20 ho hb hg hat; rw [← Ny164012.out] at ho; replace HO_7 := aQ (Kd.R_after (ok := (fun _ => True)) (by (with_reducible repeat (first | apply Kd.R_alloc | apply Kd.R_drewN | apply Kd.R_drew)); exact Kd.R_mono HO_7.out (fun _ hk => ⟨trivial, hk⟩)) hg hat); replace BK164001 := aQ (blk_grown (g := gb164001) (o := .cells #[.int .i64 a0_0, .slice A0_1 l0_1.length c0_1] 28 (0, 0)) (pk BK164001.out) hg (Kd.R_ne HO_5.out BK164001.out (by decide))); replace HB := aQ (hb); have HO164014 := aQ (ho); clear HO_5; clear ho hb hg hat))
        go_roundg k1
        case measure => have := HK1.out; omega
        case rel => exact ⟨(y164012), (Go.bits .or .i64 x6_1 (ji12)), (wrap64 (x8_1 + 1)), (by first | rfl | (simp; done) | (simp only [← hji12] <;> (first | rfl | simp)) | (simp [*]; done)), rs_, H', ⟨by have := HK1.out; omega⟩, ⟨pR HO164014.out⟩, ⟨by (with_reducible repeat (first | apply Kd.R_alloc | apply Kd.R_drewN | apply Kd.R_drew)); exact Kd.R_mono HO_7.out (fun _ hk => hk.2)⟩, ⟨pk BK164001.out⟩, ⟨pB1 HB.out GE164001.out⟩⟩
       ·rw [if_neg c16] at H
        exact absurd H (by simp)
      ·rw [if_neg c15] at H
       have c15b0 : (t164009 == t164010) = false := beq_eq_false_iff_ne.mpr c15
       have c15b1 : (t164009 != t164010) = true := bne_iff_ne.mpr c15
       have H' := aQ H
       clear H
       obtain ⟨Ao21, co21, eo21⟩ := Kd.R_slice HO_7.out
       subst eo21
       have p164008 : 0 ≤ (x8_1 : Int) := of_decide_eq_true as_
       have q164008 : x8_1 < (t164005.length : Int) := of_decide_eq_true as_
       obtain ⟨ad164008, e164008, hx164008_0⟩ := Kd.at_int (Kd.R_reads' HO_7.out).2.2 x8_1 p164008 q164008
       cases e164008
       replace p164008 := eq_true p164008
       replace q164008 := eq_true q164008
       have hcz22_0 := bc (v := (.int .i64 a0_0)) BK164001.out 0
       have hcz22_1 := bc (v := (.slice A0_1 l0_1.length c0_1)) BK164001.out 1
       have hfz22_0 := blk_frozen BK164001.out 0
       have hfz22_1 := blk_frozen BK164001.out 1
       go_wp2_with (first | ((with_reducible refine gate_callee (f := 121) rfl ?_); refine goesL_ (some 29) rfl rfl Try.func121 (by kernel_rfl) rfl #[.agg #[.int .i64 a0_0, .slice A0_1 l0_1.length c0_1], .int .i64 (Go.bits .or .i64 x6_1 (ji12))] rfl (by (try simp only [List.map_toArray, List.map_cons, List.map_nil]); first | done | (simp only [hji12]; rfl) | rfl | (simp only [List.length_drop, List.length_take]; rfl)) ?_; (with_reducible refine (spec_l5Rank.calls k1 a0_0 _ _ l0_1 (Go.bits .or .i64 x6_1 (ji12)) t164009 _ ?side1 ?side2 A13.out).mono ?_); (case side1 => exact pC (Kd.C_below HR0_1.out HB.out)); (case side2 => exact HC0_1.out); rintro e w23 ⟨rfl, hb⟩; refine ⟨_, rfl, ?_⟩; replace HO_5 := aQ (Kd.R_below (pR HO_5.out) hb); replace HO_7 := aQ (Kd.R_below (pR HO_7.out) hb); replace BK164001 := aQ (blk_below (g := gb164001) (o := .cells #[.int .i64 a0_0, .slice A0_1 l0_1.length c0_1] 28 (0, 0)) (pk BK164001.out) hb); replace HB := aQ (below_step (pB1 HB.out GE164001.out) hb); (try clear hb)) | ((with_reducible refine gate_callee (f := 116) rfl ?_); refine goesL_ (some 31) rfl rfl Try.func116 (by kernel_rfl) rfl #[.int .i64 (Go.bits .or .i64 x6_1 (ji12))] rfl (by (try simp only [List.map_toArray, List.map_cons, List.map_nil]); first | done | (simp only [hji12]; rfl) | rfl | (simp only [List.length_drop, List.length_take]; rfl)) ?_; (with_reducible refine (spec_CountOf.calls k1 (Go.bits .or .i64 x6_1 (ji12)) t164010 _ A14.out).mono ?_); rintro e w' ⟨rfl, ⟨nd, rfl⟩⟩; refine ⟨_, rfl, ?_⟩))
       go_roundg k1
       case measure => have := HK1.out; omega
       case rel => exact ⟨(x5_1), (x6_1), (wrap64 (x8_1 + 1)), rs_, rs_, H', ⟨by have := HK1.out; omega⟩, ⟨pR HO_5.out⟩, ⟨pR HO_7.out⟩, ⟨pk BK164001.out⟩, ⟨pB1 HB.out GE164001.out⟩⟩
     ·rw [if_neg c11] at H
      exact absurd H (by simp)
    ·rw [if_neg c9] at H
     exact absurd H (by simp)
   ·rw [if_neg c8] at H
    have c8b0 : decide (x8_1 < (t164005.length : Int)) = false := decide_eq_false c8
    clear c8
    obtain rfl := Option.some.inj H
    obtain ⟨Ao24, co24, eo24⟩ := Kd.R_slice HO_7.out
    subst eo24
    go_wp2
    go_ret
    exact ⟨_, by first | rfl | (simp [errW_none, errW_some] <;> rfl) | (simp [*, errW_none, errW_some] <;> rfl), by (with_reducible repeat (first | apply Kd.R_alloc | apply Kd.R_drewN | apply Kd.R_drew)); exact Kd.R_mono HO_5.out (fun _ hk => trivial), pB1 HB.out GE164001.out⟩
/-! ### spec_BestOfSize: function 72 -/
mutual
def spec_BestOfSize.j0 : Nat → List Int → Int → Bool → Int → List Int → Option (Int × Bool)
 | 0, _, _, _, _, _ => none
 | k + 1, x1, x2, x22, x73002000, x73002001 => if x22 = true then (some (0, false)) else ((spec_l19Taken.f k x73002000 x73002001 x1).bind fun t73005 => (spec_BestOfSize.l0 k x2 t73005 0 0))
def spec_BestOfSize.l0 : Nat → Int → List Int → Int → Int → Option (Int × Bool)
 | 0, _, _, _, _ => none
 | k + 1, x2, x8, x9, x10 => if x10 < x2 then (if 0 ≤ x10 then (if x10 < (x8.length : Int) then (if 0 ≤ (IntKind.u64.wrap (rd x8 x10)) then (spec_BestOfSize.l0 k x2 x8 (Go.bits .or .i64 x9 (shl .i64 1 (IntKind.u64.wrap (rd x8 x10)))) (wrap64 (x10 + 1))) else (none)) else (none)) else (none)) else (some (x9, true))
end
def spec_BestOfSize.f (k : Nat) (a0_0 : Int) (l0_1 : List Int) (l1 : List Int) (a2 : Int) : Option (Int × Bool) := (spec_AreWeights.f k a0_0 l1).bind fun t73002 => (if t73002 = true then ((spec_RankOfMatroid.f k a0_0 l0_1).bind fun t73003 => ((spec_l1In.f a2 0 t73003).bind fun t73004 => (spec_BestOfSize.j0 k l1 a2 (!t73004) a0_0 l0_1))) else (spec_BestOfSize.j0 k l1 a2 true a0_0 l0_1))
theorem spec_BestOfSize.mono_l : ∀ k, (∀ y0 y1 y2 y3 y4, LeO (spec_BestOfSize.j0 k y0 y1 y2 y3 y4) (spec_BestOfSize.j0 (k + 1) y0 y1 y2 y3 y4)) ∧ (∀ y0 y1 y2 y3, LeO (spec_BestOfSize.l0 k y0 y1 y2 y3) (spec_BestOfSize.l0 (k + 1) y0 y1 y2 y3))
 | 0 => ⟨fun _ _ _ _ _ r h => by simp [spec_BestOfSize.j0] at h, fun _ _ _ _ r h => by simp [spec_BestOfSize.l0] at h⟩
 | k + 1 => by
  obtain ⟨ih0, ih1⟩ := spec_BestOfSize.mono_l k
  refine ⟨?_, ?_⟩
  ·intro y0 y1 y2 y3 y4
   unfold spec_BestOfSize.j0
   repeat' first
   | (with_reducible exact ih0 _ _ _ _ _)
   | (with_reducible exact ih1 _ _ _ _)
   | (with_reducible exact spec_AreWeights.mono _ _ _)
   | (with_reducible exact spec_RankOfMatroid.mono _ _ _)
   | (with_reducible exact spec_l19Taken.mono _ _ _ _)
   | (with_reducible exact LeO.refl _)
   | (with_reducible exact LeO.none _)
   | (with_reducible refine LeO.ite ?_ ?_)
   | (with_reducible refine LeO.bind ?_ (fun _ => ?_))
   | exact ih0 _ _ _ _ _
   | exact ih1 _ _ _ _
   | exact spec_AreWeights.mono _ _ _
   | exact spec_RankOfMatroid.mono _ _ _
   | exact spec_l19Taken.mono _ _ _ _
   | exact LeO.none _
   | refine LeO.ite ?_ ?_
   | refine LeO.bind ?_ (fun _ => ?_)
  ·intro y0 y1 y2 y3
   unfold spec_BestOfSize.l0
   repeat' first
   | (with_reducible exact ih0 _ _ _ _ _)
   | (with_reducible exact ih1 _ _ _ _)
   | (with_reducible exact spec_AreWeights.mono _ _ _)
   | (with_reducible exact spec_RankOfMatroid.mono _ _ _)
   | (with_reducible exact spec_l19Taken.mono _ _ _ _)
   | (with_reducible exact LeO.refl _)
   | (with_reducible exact LeO.none _)
   | (with_reducible refine LeO.ite ?_ ?_)
   | (with_reducible refine LeO.bind ?_ (fun _ => ?_))
   | exact ih0 _ _ _ _ _
   | exact ih1 _ _ _ _
   | exact spec_AreWeights.mono _ _ _
   | exact spec_RankOfMatroid.mono _ _ _
   | exact spec_l19Taken.mono _ _ _ _
   | exact LeO.none _
   | refine LeO.ite ?_ ?_
   | refine LeO.bind ?_ (fun _ => ?_)
theorem spec_BestOfSize.mono : ∀ a0 a1 a2 a3 k, LeO (spec_BestOfSize.f k a0 a1 a2 a3) (spec_BestOfSize.f (k + 1) a0 a1 a2 a3) := by
 intro a0 a1 a2 a3 k
 obtain ⟨ih0, ih1⟩ := spec_BestOfSize.mono_l k
 unfold spec_BestOfSize.f
 repeat' first
   | (with_reducible exact ih0 _ _ _ _ _)
   | (with_reducible exact ih1 _ _ _ _)
   | (with_reducible exact spec_AreWeights.mono _ _ _)
   | (with_reducible exact spec_RankOfMatroid.mono _ _ _)
   | (with_reducible exact spec_l19Taken.mono _ _ _ _)
   | (with_reducible exact LeO.refl _)
   | (with_reducible exact LeO.none _)
   | (with_reducible refine LeO.ite ?_ ?_)
   | (with_reducible refine LeO.bind ?_ (fun _ => ?_))
   | exact ih0 _ _ _ _ _
   | exact ih1 _ _ _ _
   | exact spec_AreWeights.mono _ _ _
   | exact spec_RankOfMatroid.mono _ _ _
   | exact spec_l19Taken.mono _ _ _ _
   | exact LeO.none _
   | refine LeO.ite ?_ ?_
   | refine LeO.bind ?_ (fun _ => ?_)
set_option maxHeartbeats 8000000 in
set_option maxRecDepth 100000 in
theorem spec_BestOfSize.calls (k : Nat) (a0_0 : Int) (A0_1 : Option Addr) (c0_1 : Nat) (l0_1 : List Int) (A1 : Option Addr) (c1 : Nat) (l1 : List Int) (a2 : Int) (r1 : Int) (r2 : Bool) (w : World) (hr0_1 : Kd.C (Kd.int .i64) w A0_1 l0_1.length l0_1) (hc0_1 : l0_1.length ≤ c0_1) (hr1 : Kd.C (Kd.int .i64) w A1 l1.length l1) (hc1 : l1.length ≤ c1) (h : spec_BestOfSize.f k a0_0 l0_1 l1 a2 = some (r1, r2)) :
  Calls Try.prog 72 #[.agg #[.int .i64 a0_0, .slice A0_1 l0_1.length c0_1], .slice A1 l1.length c1, .int .i64 a2] w fun e w' => e = .returned (.tuple #[.int .i64 r1, .bool r2]) ∧ Below w.heap.size w w' := by
 have hu28 := Try.underlying28
 have HR0_1 := aQ hr0_1
 have HC0_1 := aQ hc0_1
 clear hr0_1 hc0_1
 have HR1 := aQ hr1
 have HC1 := aQ hc1
 clear hr1 hc1
 have HB := aQ (Below.refl w.heap.size w)
 have H : ((spec_AreWeights.f k a0_0 l1).bind fun t73002 => (if t73002 = true then ((spec_RankOfMatroid.f k a0_0 l0_1).bind fun t73003 => ((spec_l1In.f a2 0 t73003).bind fun t73004 => (spec_BestOfSize.j0 k l1 a2 (!t73004) a0_0 l0_1))) else (spec_BestOfSize.j0 k l1 a2 true a0_0 l0_1))) = some (r1, r2) := h
 clear h
 have HC4 := aQ H
 clear H
 go_enter Try.func72, Try.ntmps72
 go_upto_region 1 with (first | ((with_reducible refine gate_dst (N := 3) rfl ?_); refine box_event ?hg (N := 3) ?hd (cs := #[.int .i64 a0_0, .slice A0_1 l0_1.length c0_1]) (t := 28) ?hr ?_; (case hd => rfl); (case hg => rfl); (case hr => first | (go_simp; done) | (go_simp; rfl)); intro gb73001 hg w5 hbox hb; have BK73001 := aQ (hbox); have GW73001 := aQ ((by rw [hg]; exact (below_size (pB HB.out)) : w.heap.size ≤ gb73001)); have GE73001 := aQ ((by rw [hg]; exact (below_size (pB HB.out)) : w.heap.size ≤ gb73001)); replace HB := aQ (below_step (pB HB.out) hb); clear hb hbox hg))
 (try simp only [Act.put, List.setIfInBounds_toArray, List.set_cons_zero, List.set_cons_succ])
 go_cut [22] (fun v22 wc => ∃ (kq : Nat) (x22_3 : Bool), v22 = .bool x22_3 ∧ Aside0 (spec_BestOfSize.j0 kq l1 a2 x22_3 a0_0 l0_1 = some (r1, r2)) ∧ Aside0 (kq ≤ k) ∧ Aside0 (wc.heap[gb73001]? = some (.cells #[.int .i64 a0_0, (.slice A0_1 l0_1.length c0_1)] 28 (0, 0))) ∧ Aside0 (Below w.heap.size w wc))
 case first =>
  have H := HC4.out
  clear HC4
  replace H := Option.bind_eq_some_iff.mp H
  obtain ⟨t73002, A60, H⟩ := H
  replace H : (if t73002 = true then ((spec_RankOfMatroid.f k a0_0 l0_1).bind fun t73003 => ((spec_l1In.f a2 0 t73003).bind fun t73004 => (spec_BestOfSize.j0 k l1 a2 (!t73004) a0_0 l0_1))) else (spec_BestOfSize.j0 k l1 a2 true a0_0 l0_1)) = some (r1, r2) := H
  have A6 := aQ A60
  clear A60
  by_cases c7 : t73002 = true
  ·subst c7
   have H1 : ((spec_RankOfMatroid.f k a0_0 l0_1).bind fun t73003 => ((spec_l1In.f a2 0 t73003).bind fun t73004 => (spec_BestOfSize.j0 k l1 a2 (!t73004) a0_0 l0_1))) = some (r1, r2) := by rw [if_pos rfl] at H; exact H
   clear H
   have H := H1
   clear H1
   replace H := Option.bind_eq_some_iff.mp H
   obtain ⟨t73003, A80, H⟩ := H
   replace H : ((spec_l1In.f a2 0 t73003).bind fun t73004 => (spec_BestOfSize.j0 k l1 a2 (!t73004) a0_0 l0_1)) = some (r1, r2) := H
   have A8 := aQ A80
   clear A80
   replace H := Option.bind_eq_some_iff.mp H
   obtain ⟨t73004, A90, H⟩ := H
   replace H : (spec_BestOfSize.j0 k l1 a2 (!t73004) a0_0 l0_1) = some (r1, r2) := H
   have A9 := aQ A90
   clear A90
   have H' := aQ H
   clear H
   have hcz10_0 := bc (v := (.int .i64 a0_0)) BK73001.out 0
   have hcz10_1 := bc (v := (.slice A0_1 l0_1.length c0_1)) BK73001.out 1
   have hfz10_0 := blk_frozen BK73001.out 0
   have hfz10_1 := blk_frozen BK73001.out 1
   go_wp2_with (first | ((with_reducible refine gate_callee (f := 125) rfl ?_); refine goesL_ (some 14) rfl rfl Try.func125 (by kernel_rfl) rfl #[.int .i64 a0_0, .slice A1 l1.length c1] rfl lm ?_; (with_reducible refine (spec_AreWeights.calls k a0_0 _ _ l1 true _ ?side1 ?side2 A6.out).mono ?_); (case side1 => exact pC (Kd.C_below HR1.out HB.out)); (case side2 => exact HC1.out); rintro e w' ⟨rfl, ⟨nd, rfl⟩⟩; refine ⟨_, rfl, ?_⟩) | (go_at_call 110; (with_reducible refine (spec_RankOfMatroid.calls k a0_0 _ _ l0_1 t73003 _ ?side1 ?side2 A8.out).mono ?_); (case side1 => repeat (first | exact (Kd.C_below HR0_1.out (pB1 HB.out GE73001.out)) | (with_reducible refine Kd.C_alloc ?_ _) | (with_reducible refine Kd.C_drewN ?_ _) | (with_reducible refine Kd.C_drew ?_))); (case side2 => exact HC0_1.out); rintro e w11 ⟨rfl, hb⟩; replace BK73001 := aQ (blk_below (g := gb73001) (o := .cells #[.int .i64 a0_0, .slice A0_1 l0_1.length c0_1] 28 (0, 0)) (pk BK73001.out) hb); replace HB := aQ (below_step (pB1 HB.out GE73001.out) hb); (try clear hb)) | (go_at_call 126; (with_reducible refine (spec_l1In.calls a2 0 t73003 t73004 _ A9.out).mono ?_); rintro e w' ⟨rfl, ⟨nd, rfl⟩⟩))
   go_meet
   case rel => exact ⟨_, (!t73004), rs_, H', ⟨by first | omega | exact Nat.le_refl _⟩, ⟨pk BK73001.out⟩, ⟨pB1 HB.out GE73001.out⟩⟩
  ·replace c7 := Bool.eq_false_iff.mpr c7
   subst c7
   have H1 : (spec_BestOfSize.j0 k l1 a2 true a0_0 l0_1) = some (r1, r2) := by rw [if_neg (show ¬ (false = true) by decide)] at H; exact H
   clear H
   have H := H1
   clear H1
   have H' := aQ H
   clear H
   have hcz12_0 := bc (v := (.int .i64 a0_0)) BK73001.out 0
   have hcz12_1 := bc (v := (.slice A0_1 l0_1.length c0_1)) BK73001.out 1
   have hfz12_0 := blk_frozen BK73001.out 0
   have hfz12_1 := blk_frozen BK73001.out 1
   go_wp2_with (first | ((with_reducible refine gate_callee (f := 125) rfl ?_); refine goesL_ (some 14) rfl rfl Try.func125 (by kernel_rfl) rfl #[.int .i64 a0_0, .slice A1 l1.length c1] rfl lm ?_; (with_reducible refine (spec_AreWeights.calls k a0_0 _ _ l1 false _ ?side1 ?side2 A6.out).mono ?_); (case side1 => exact pC (Kd.C_below HR1.out HB.out)); (case side2 => exact HC1.out); rintro e w' ⟨rfl, ⟨nd, rfl⟩⟩; refine ⟨_, rfl, ?_⟩))
   go_meet
   case rel => exact ⟨_, (true), rs_, H', ⟨by first | omega | exact Nat.le_refl _⟩, ⟨pk BK73001.out⟩, ⟨pB1 HB.out GE73001.out⟩⟩
 case rest =>
  clear HC4
  try clear c1
  try clear p2
  try clear c7
  try clear c12
  try clear hcz10_0
  try clear hcz10_1
  try clear hcz12_0
  try clear hcz12_1
  try clear hfz10_0
  try clear hfz10_1
  try clear hfz12_0
  try clear hfz12_1
  obtain ⟨kq, x22_3, rfl, HA, HJ3, BK73001, HB⟩ := hcut
  cases kq with
  | zero => exact absurd HA.out (by simp [spec_BestOfSize.j0])
  | succ kj3 =>
   have H := HA.out
   clear HA
   simp only [spec_BestOfSize.j0] at H
   by_cases c13 : x22_3 = true
   ·subst c13
    have H1 : (some (0, false)) = some (r1, r2) := by rw [if_pos rfl] at H; exact H
    clear H
    have H := H1
    clear H1
    simp only [Option.some.injEq, Prod.mk.injEq] at H
    obtain ⟨rfl, rfl⟩ := H
    go_wp2
    go_ret2
    exact ⟨re_, pB1 HB.out GE73001.out⟩
   ·replace c13 := Bool.eq_false_iff.mpr c13
    subst c13
    have H1 : ((spec_l19Taken.f kj3 a0_0 l0_1 l1).bind fun t73005 => (spec_BestOfSize.l0 kj3 a2 t73005 0 0)) = some (r1, r2) := by rw [if_neg (show ¬ (false = true) by decide)] at H; exact H
    clear H
    have H := H1
    clear H1
    replace H := Option.bind_eq_some_iff.mp H
    obtain ⟨t73005, A140, H⟩ := H
    replace H : (spec_BestOfSize.l0 kj3 a2 t73005 0 0) = some (r1, r2) := H
    have A14 := aQ A140
    clear A140
    have H' := aQ H
    clear H
    have hcz15_0 := bc (v := (.int .i64 a0_0)) BK73001.out 0
    have hcz15_1 := bc (v := (.slice A0_1 l0_1.length c0_1)) BK73001.out 1
    have hfz15_0 := blk_frozen BK73001.out 0
    have hfz15_1 := blk_frozen BK73001.out 1
    go_wp2_with (first | ((with_reducible refine gate_callee (f := 163) rfl ?_); refine goesL_ (some 25) rfl rfl Try.func163 (by kernel_rfl) rfl #[.agg #[.int .i64 a0_0, .slice A0_1 l0_1.length c0_1], .slice A1 l1.length c1] rfl lm ?_; (with_reducible refine (spec_l19Taken.calls kj3 a0_0 _ _ l0_1 _ _ l1 t73005 _ ?side1 ?side2 ?side3 ?side4 A14.out).mono ?_); (case side1 => exact pC (Kd.C_below HR0_1.out HB.out)); (case side2 => exact HC0_1.out); (case side3 => exact pC (Kd.C_below HR1.out HB.out)); (case side4 => exact HC1.out); rintro e w16 ⟨v73006, rfl, ho0, hb⟩; refine ⟨_, rfl, ?_⟩; have HO73007 := aQ (Kd.R_lower ho0 (below_size (pB1 HB.out GE73001.out))); replace BK73001 := aQ (blk_below (g := gb73001) (o := .cells #[.int .i64 a0_0, .slice A0_1 l0_1.length c0_1] 28 (0, 0)) (pk BK73001.out) hb); replace HB := aQ (below_step (pB1 HB.out GE73001.out) hb); (try clear hb); (try clear ho0)))
    go_loopg [9, 10] kj3 (fun kq v9 v10 w' => ∃ (x9_2 : Int) (x10_2 : Int), v9 = .int .i64 x9_2 ∧ v10 = .int .i64 x10_2 ∧ Aside0 (spec_BestOfSize.l0 kq a2 t73005 x9_2 x10_2 = some (r1, r2)) ∧ Aside0 (kq ≤ kj3) ∧ Aside0 (Kd.R (Kd.int .i64) 3 w' w.heap.size (fun _ => True) v73006 t73005) ∧ Aside0 (w'.heap[gb73001]? = some (.cells #[.int .i64 a0_0, (.slice A0_1 l0_1.length c0_1)] 28 (0, 0))) ∧ Aside0 (Below w.heap.size w w'))
    case atStart => exact ⟨(0), (0), rs_, rs_, H', ⟨Nat.le_refl _⟩, ⟨pR HO73007.out⟩, ⟨pk BK73001.out⟩, ⟨pB1 HB.out GE73001.out⟩⟩
    case round =>
     clear H'
     try clear c1
     try clear p2
     try clear c7
     try clear c12
     try clear c13
     try clear c16
     try clear hcz10_0
     try clear hcz10_1
     try clear hcz12_0
     try clear hcz12_1
     try clear hcz15_0
     try clear hcz15_1
     try clear hfz10_0
     try clear hfz10_1
     try clear hfz12_0
     try clear hfz12_1
     try clear hfz15_0
     try clear hfz15_1
     try clear p2
     obtain ⟨x9_2, x10_2, rfl, rfl, HA, HK2, HO_8, BK73001, HB⟩ := hrel
     cases gk with
     | zero => exact absurd HA.out (by simp [spec_BestOfSize.l0])
     | succ k2 =>
      have H := HA.out
      clear HA
      simp only [spec_BestOfSize.l0] at H
      by_cases c17 : x10_2 < a2
      ·rw [if_pos c17] at H
       have c17b0 : decide (x10_2 < a2) = true := decide_eq_true c17
       clear c17
       by_cases c18 : 0 ≤ x10_2
       ·rw [if_pos c18] at H
        have c18b0 : decide (0 ≤ x10_2) = true := decide_eq_true c18
        clear c18
        by_cases c19 : x10_2 < (t73005.length : Int)
        ·rw [if_pos c19] at H
         have c19b0 : decide (x10_2 < (t73005.length : Int)) = true := decide_eq_true c19
         clear c19
         obtain ⟨ji20, hji20⟩ : ∃ j_ : Int, (IntKind.u64.wrap (rd t73005 x10_2)) = j_ := ⟨_, rfl⟩
         replace H : (if 0 ≤ (ji20) then (spec_BestOfSize.l0 k2 a2 t73005 (Go.bits .or .i64 x9_2 (shl .i64 1 (ji20))) (wrap64 (x10_2 + 1))) else (none)) = some (r1, r2) := by first | (rw [hji20] at H; exact H) | (simp only [hji20] at H ⊢; exact H)
         by_cases c21 : 0 ≤ (ji20)
         ·rw [if_pos c21] at H
          have c21b0 := eq_true c21
          have c21b1 : decide (0 ≤ (ji20)) = true := decide_eq_true c21
          clear c21
          obtain ⟨ji22, hji22⟩ : ∃ j_ : Int, (shl .i64 1 (ji20)) = j_ := ⟨_, rfl⟩
          replace H : (spec_BestOfSize.l0 k2 a2 t73005 (Go.bits .or .i64 x9_2 (ji22)) (wrap64 (x10_2 + 1))) = some (r1, r2) := by first | (rw [hji22] at H; exact H) | (simp only [hji22] at H ⊢; exact H)
          have hji22_ : (IntKind.i64.wrap (1 * 2 ^ min (ji20).toNat 64)) = ji22 := hji22
          have hji22z : (ji20) ≤ 64 → (IntKind.i64.wrap (1 * 2 ^ (ji20).toNat)) = ji22 := shl_small hji22
          have hji22u : (IntKind.i64.wrap (2 ^ min (ji20).toNat 64)) = ji22 := by have h_ := hji22_; rw [Int.one_mul] at h_; exact h_
          have hji22v : (ji20) ≤ 64 → (IntKind.i64.wrap (2 ^ (ji20).toNat)) = ji22 := fun hle_ => by have h_ := hji22z hle_; rw [Int.one_mul] at h_; exact h_
          have hji22y : (wrap64 (1 * 2 ^ min (ji20).toNat 64)) = ji22 := (i64_w _).symm.trans hji22_
          have hji22x : (ji20) ≤ 64 → (wrap64 (1 * 2 ^ (ji20).toNat)) = ji22 := fun h_ => (i64_w _).symm.trans (hji22z h_)
          have H' := aQ H
          clear H
          obtain ⟨Ao23, co23, eo23⟩ := Kd.R_slice HO_8.out
          subst eo23
          have p73008 : 0 ≤ (x10_2 : Int) := of_decide_eq_true as_
          have q73008 : x10_2 < (t73005.length : Int) := of_decide_eq_true as_
          obtain ⟨ad73008, e73008, hx73008_0⟩ := Kd.at_int (Kd.R_reads' HO_8.out).2.2 x10_2 p73008 q73008
          cases e73008
          replace p73008 := eq_true p73008
          replace q73008 := eq_true q73008
          go_wp2
          go_roundg k2
          case measure => have := HJ3.out; have := HK2.out; omega
          case rel => exact ⟨(Go.bits .or .i64 x9_2 (ji22)), (wrap64 (x10_2 + 1)), (by first | rfl | (simp; done) | (simp only [← hji22] <;> (first | rfl | simp)) | (simp [*]; done)), rs_, H', ⟨by have := HJ3.out; have := HK2.out; omega⟩, ⟨pR HO_8.out⟩, ⟨pk BK73001.out⟩, ⟨pB1 HB.out GE73001.out⟩⟩
         ·rw [if_neg c21] at H
          exact absurd H (by simp)
        ·rw [if_neg c19] at H
         exact absurd H (by simp)
       ·rw [if_neg c18] at H
        exact absurd H (by simp)
      ·rw [if_neg c17] at H
       have c17b0 : decide (x10_2 < a2) = false := decide_eq_false c17
       clear c17
       simp only [Option.some.injEq, Prod.mk.injEq] at H
       obtain ⟨rfl, rfl⟩ := H
       go_wp2
       go_ret2
       exact ⟨re_, pB1 HB.out GE73001.out⟩
/-! ### spec_l21Best: function 161 -/
def spec_l21Best.f (k : Nat) (a0_0 : Int) (l0_1 : List Int) (l1 : List Int) (a2 : Int) : Option (Bool) := (spec_CountOf.f k a2).bind fun t162002 => ((spec_BestOfSize.f k a0_0 l0_1 l1 t162002).bind fun bt162003 => (if bt162003.2 = true then ((spec_WeightOf.f k l1 bt162003.1).bind fun t162005 => ((spec_WeightOf.f k l1 a2).bind fun t162006 => (some (t162005 == t162006)))) else (some false)))
theorem spec_l21Best.mono : ∀ a0 a1 a2 a3 k, LeO (spec_l21Best.f k a0 a1 a2 a3) (spec_l21Best.f (k + 1) a0 a1 a2 a3) := by
 intro a0 a1 a2 a3 k
 unfold spec_l21Best.f
 repeat' first
   | (with_reducible exact spec_BestOfSize.mono _ _ _ _ _)
   | (with_reducible exact spec_CountOf.mono _ _)
   | (with_reducible exact spec_WeightOf.mono _ _ _)
   | (with_reducible exact LeO.refl _)
   | (with_reducible exact LeO.none _)
   | (with_reducible refine LeO.ite ?_ ?_)
   | (with_reducible refine LeO.bind ?_ (fun _ => ?_))
   | exact spec_BestOfSize.mono _ _ _ _ _
   | exact spec_CountOf.mono _ _
   | exact spec_WeightOf.mono _ _ _
   | exact LeO.none _
   | refine LeO.ite ?_ ?_
   | refine LeO.bind ?_ (fun _ => ?_)
def spec_l21Best.T1 : Bool × List (List Nat × List Nat) := (true, [([], []), ([], []), ([], []), ([2], [2]), ([0, 1, 3, 3], [0, 1, 3]), ([4], [4]), ([5], [5]), ([5], [5]), ([6, 4, 0, 1, 2, 3, 4, 5, 6], [6]), ([7, 8, 0, 1, 2, 3, 4, 5, 6, 7, 8], [7])])
def spec_l21Best.B1 : List Nat := [0, 0, 0, 4, 15, 31, 63, 63, 127, 511]
theorem spec_l21Best.tab1 : rtab .any (opsOf Try.f161 1) = spec_l21Best.T1 := by kernel_rfl
theorem spec_l21Best.bits1 : waitsOk spec_l21Best.T1.2 spec_l21Best.B1 = true := by kernel_rfl
set_option maxHeartbeats 8000000 in
set_option maxRecDepth 100000 in
theorem spec_l21Best.calls (k : Nat) (a0_0 : Int) (A0_1 : Option Addr) (c0_1 : Nat) (l0_1 : List Int) (A1 : Option Addr) (c1 : Nat) (l1 : List Int) (a2 : Int) (r : Bool) (w : World) (hr0_1 : Kd.C (Kd.int .i64) w A0_1 l0_1.length l0_1) (hc0_1 : l0_1.length ≤ c0_1) (hr1 : Kd.C (Kd.int .i64) w A1 l1.length l1) (hc1 : l1.length ≤ c1) (h : spec_l21Best.f k a0_0 l0_1 l1 a2 = some r) :
  Calls Try.prog 161 #[.agg #[.int .i64 a0_0, .slice A0_1 l0_1.length c0_1], .slice A1 l1.length c1, .int .i64 a2] w fun e w' => e = .returned (.bool r) ∧ Below w.heap.size w w' := by
 have hu28 := Try.underlying28
 have HR0_1 := aQ hr0_1
 have HC0_1 := aQ hc0_1
 clear hr0_1 hc0_1
 have HR1 := aQ hr1
 have HC1 := aQ hc1
 clear hr1 hc1
 have HB := aQ (Below.refl w.heap.size w)
 have H : ((spec_CountOf.f k a2).bind fun t162002 => ((spec_BestOfSize.f k a0_0 l0_1 l1 t162002).bind fun bt162003 => (if bt162003.2 = true then ((spec_WeightOf.f k l1 bt162003.1).bind fun t162005 => ((spec_WeightOf.f k l1 a2).bind fun t162006 => (some (t162005 == t162006)))) else (some false)))) = some r := h
 clear h
 replace H := Option.bind_eq_some_iff.mp H
 obtain ⟨t162002, A40, H⟩ := H
 replace H : ((spec_BestOfSize.f k a0_0 l0_1 l1 t162002).bind fun bt162003 => (if bt162003.2 = true then ((spec_WeightOf.f k l1 bt162003.1).bind fun t162005 => ((spec_WeightOf.f k l1 a2).bind fun t162006 => (some (t162005 == t162006)))) else (some false))) = some r := H
 have A4 := aQ A40
 clear A40
 replace H := Option.bind_eq_some_iff.mp H
 obtain ⟨⟨t162003, t162004⟩, A50, H⟩ := H
 replace H : (if t162004 = true then ((spec_WeightOf.f k l1 t162003).bind fun t162005 => ((spec_WeightOf.f k l1 a2).bind fun t162006 => (some (t162005 == t162006)))) else (some false)) = some r := H
 have A5 := aQ A50
 clear A50
 by_cases c6 : t162004 = true
 ·subst c6
  have H1 : ((spec_WeightOf.f k l1 t162003).bind fun t162005 => ((spec_WeightOf.f k l1 a2).bind fun t162006 => (some (t162005 == t162006)))) = some r := by rw [if_pos rfl] at H; exact H
  clear H
  have H := H1
  clear H1
  replace H := Option.bind_eq_some_iff.mp H
  obtain ⟨t162005, A70, H⟩ := H
  replace H : ((spec_WeightOf.f k l1 a2).bind fun t162006 => (some (t162005 == t162006))) = some r := H
  have A7 := aQ A70
  clear A70
  replace H := Option.bind_eq_some_iff.mp H
  obtain ⟨t162006, A80, H⟩ := H
  replace H : (some (t162005 == t162006)) = some r := H
  have A8 := aQ A80
  clear A80
  obtain rfl := Option.some.inj H
  go_enter Try.func161, Try.ntmps161
  try go_wp2_with (first | ((with_reducible refine gate_dst (N := 3) rfl ?_); refine box_event ?hg (N := 3) ?hd (cs := #[.int .i64 a0_0, .slice A0_1 l0_1.length c0_1]) (t := 28) ?hr ?_; (case hd => rfl); (case hg => rfl); (case hr => first | (go_simp; done) | (go_simp; rfl)); intro gb162001 hg w9 hbox hb; have BK162001 := aQ (hbox); have GW162001 := aQ ((by rw [hg]; exact (below_size (pB HB.out)) : w.heap.size ≤ gb162001)); have GE162001 := aQ ((by rw [hg]; exact (below_size (pB HB.out)) : w.heap.size ≤ gb162001)); replace HB := aQ (below_step (pB HB.out) hb); clear hb hbox hg))
  have n0_ := aQ (blk_drew BK162001.out)
  have n1_ := aQ (below_drew1 HB.out)
  clear BK162001
  clear HB
  have BK162001 := n0_
  have HB := n1_
  clear n0_ n1_
  refine start_ (n := 10) (S := fun w' => w'.cell? ⟨gb162001, 0, none⟩ = some (.int .i64 a0_0) ∧ w'.cell? ⟨gb162001, 1, none⟩ = some (.slice A0_1 l0_1.length c0_1)) (ds := []) #[false, false, false, false, false, false, false, false, false, false] (by kernel_rfl) rfl rfl ⟨(blk_cell BK162001.out 0).trans rfl, (blk_cell BK162001.out 1).trans rfl⟩ (fun hHeld => ?_); refine with_tabW spec_l21Best.tab1 spec_l21Best.bits1 (fun HT_ HW_ => ?_)
  generalize w9.drew = w10 at BK162001 HB hHeld ⊢
  refine pure_ (i := 1) (N := some 11) (v := ?_) (a' := ?_) #[false, true, false, false, false, false, false, false, false, false] rfl rfl (any_of HT_.out (by kernel_rfl)) (fun _ _ _ h => h) (Or.inl ⟨by rfl, ?_⟩) ?_ ?_
  rotate_left
  ·intro w'
   go_simp
   with_reducible rfl
  rotate_left
  ·simp only [Act.put, List.setIfInBounds_toArray, List.set_cons_zero, List.set_cons_succ, i64_w, i32_w]
   rfl
  refine pure_ (i := 2) (N := some 12) (v := ?_) (a' := ?_) #[false, true, true, false, false, false, false, false, false, false] rfl rfl (any_of HT_.out (by kernel_rfl)) (fun _ _ _ h => h) (Or.inl ⟨by rfl, ?_⟩) ?_ ?_
  rotate_left
  ·intro w'
   go_simp
   with_reducible rfl
  rotate_left
  ·simp only [Act.put, List.setIfInBounds_toArray, List.set_cons_zero, List.set_cons_succ, i64_w, i32_w]
   rfl
  refine take_ (i := 0) (N := some 10) (v := ?_) (a' := ?_) #[true, true, true, false, false, false, false, false, false, false] rfl rfl (take_ofW HT_.out HW_.out (by kernel_rfl)) (fun _ _ _ h => h) (Or.inl ⟨by rfl, ?_⟩) hHeld ?_ ?_
  rotate_left
  ·rintro w' ⟨s0, s1⟩
   go_simp
   with_reducible rfl
  rotate_left
  ·simp only [Act.put, List.setIfInBounds_toArray, List.set_cons_zero, List.set_cons_succ, i64_w, i32_w]
   rfl
  refine one_ (i := 3) (N := some 13) #[true, true, true, true, false, false, false, false, false, false] rfl rfl (one_of HT_.out (by kernel_rfl)) (by decide) (fun K hK => ?_)
  refine goes_ Try.func116 (by kernel_rfl) rfl #[.int .i64 a2] (by rfl) rfl rfl lm ?_
  with_reducible refine (spec_CountOf.calls k a2 t162002 _ A4.out).mono ?_
  rintro e w' ⟨rfl, ⟨nd, rfl⟩⟩
  refine ⟨_, rfl, ?_⟩
  refine hK.out _ _ ⟨(blk_cell BK162001.out 0).trans rfl, (blk_cell BK162001.out 1).trans rfl⟩ (fun hHeld => ?_)
  clear hK K
  refine norm_ (a' := ?_) ?_ ?_
  rotate_left
  ·show Act.put _ (some 13) _ = _
   simp only [Act.put, List.setIfInBounds_toArray, List.set_cons_zero, List.set_cons_succ, i64_w, i32_w]
   rfl
  refine one_ (i := 4) (N := some 14) #[true, true, true, true, true, false, false, false, false, false] rfl rfl (one_of HT_.out (by kernel_rfl)) (by decide) (fun K hK => ?_)
  refine goes_ Try.func72 (by kernel_rfl) rfl #[.agg #[.int .i64 a0_0, .slice A0_1 l0_1.length c0_1], .slice A1 l1.length c1, .int .i64 t162002] (by rfl) rfl rfl lm ?_
  with_reducible refine (spec_BestOfSize.calls k a0_0 _ _ l0_1 _ _ l1 t162002 t162003 true _ ?side1 ?side2 ?side3 ?side4 A5.out).mono ?_
  (case side1 => repeat (first | exact (Kd.C_below HR0_1.out (pB1 HB.out GE162001.out)) | (with_reducible refine Kd.C_alloc ?_ _) | (with_reducible refine Kd.C_drewN ?_ _) | (with_reducible refine Kd.C_drew ?_)))
  (case side2 => exact HC0_1.out)
  (case side3 => repeat (first | exact (Kd.C_below HR1.out (pB1 HB.out GE162001.out)) | (with_reducible refine Kd.C_alloc ?_ _) | (with_reducible refine Kd.C_drewN ?_ _) | (with_reducible refine Kd.C_drew ?_)))
  (case side4 => exact HC1.out)
  rintro e w11 ⟨rfl, hb⟩
  refine ⟨_, rfl, ?_⟩
  have n0_ := aQ (blk_below (g := gb162001) (o := .cells #[.int .i64 a0_0, .slice A0_1 l0_1.length c0_1] 28 (0, 0)) (pk BK162001.out) hb)
  have n1_ := aQ (below_step (pB1 HB.out GE162001.out) hb)
  clear BK162001
  clear HB
  have BK162001 := n0_
  have HB := n1_
  clear n0_ n1_
  (try clear hb)
  (try clear hb2)
  (try clear hk)
  (try clear hi)
  refine hK.out _ _ ⟨(blk_cell BK162001.out 0).trans rfl, (blk_cell BK162001.out 1).trans rfl⟩ (fun hHeld => ?_)
  clear hK K
  refine norm_ (a' := ?_) ?_ ?_
  rotate_left
  ·show Act.put _ (some 14) _ = _
   simp only [Act.put, List.setIfInBounds_toArray, List.set_cons_zero, List.set_cons_succ, i64_w, i32_w]
   rfl
  refine pure_ (i := 5) (N := some 9) (v := ?_) (a' := ?_) #[true, true, true, true, true, true, false, false, false, false] rfl rfl (any_of HT_.out (by kernel_rfl)) (fun _ _ _ h => h) (Or.inl ⟨by rfl, ?_⟩) ?_ ?_
  rotate_left
  ·intro w'
   go_simp
   with_reducible rfl
  rotate_left
  ·simp only [Act.put, List.setIfInBounds_toArray, List.set_cons_zero, List.set_cons_succ, i64_w, i32_w]
   rfl
  refine pure_ (i := 6) (N := some 15) (v := ?_) (a' := ?_) #[true, true, true, true, true, true, true, false, false, false] rfl rfl (any_of HT_.out (by kernel_rfl)) (fun _ _ _ h => h) (Or.inl ⟨by rfl, ?_⟩) ?_ ?_
  rotate_left
  ·intro w'
   go_simp
   with_reducible rfl
  rotate_left
  ·simp only [Act.put, List.setIfInBounds_toArray, List.set_cons_zero, List.set_cons_succ, i64_w, i32_w]
   rfl
  refine pure_ (i := 7) (N := some 16) (v := ?_) (a' := ?_) #[true, true, true, true, true, true, true, true, false, false] rfl rfl (any_of HT_.out (by kernel_rfl)) (fun _ _ _ h => h) (Or.inl ⟨by rfl, ?_⟩) ?_ ?_
  rotate_left
  ·intro w'
   go_simp
   with_reducible rfl
  rotate_left
  ·simp only [Act.put, List.setIfInBounds_toArray, List.set_cons_zero, List.set_cons_succ, i64_w, i32_w]
   rfl
  refine pure_ (i := 8) (N := some 7) (v := ?_) (a' := ?_) #[true, true, true, true, true, true, true, true, true, false] rfl rfl (any_of HT_.out (by kernel_rfl)) (fun _ _ _ h => h) (Or.inl ⟨by rfl, ?_⟩) ?_ ?_
  rotate_left
  ·intro w'
   go_simp
   with_reducible rfl
  rotate_left
  ·simp only [Act.put, List.setIfInBounds_toArray, List.set_cons_zero, List.set_cons_succ, i64_w, i32_w]
   rfl
  refine pure_ (i := 9) (N := some 8) (v := ?_) (a' := ?_) #[true, true, true, true, true, true, true, true, true, true] rfl rfl (any_of HT_.out (by kernel_rfl)) (fun _ _ _ h => h) (Or.inl ⟨by rfl, ?_⟩) ?_ ?_
  rotate_left
  ·intro w'
   go_simp
   with_reducible rfl
  rotate_left
  ·simp only [Act.put, List.setIfInBounds_toArray, List.set_cons_zero, List.set_cons_succ, i64_w, i32_w]
   rfl
  refine done_ (done_of HT_.out (by kernel_rfl)) ?_
  try go_wp2_with (first | (go_at_call 131; (with_reducible refine (spec_WeightOf.calls k _ _ l1 t162003 t162005 _ ?side1 ?side2 A7.out).mono ?_); (case side1 => exact pC (Kd.C_below HR1.out HB.out)); (case side2 => exact HC1.out); rintro e w' ⟨rfl, ⟨nd, rfl⟩⟩) | (go_at_call 131; (with_reducible refine (spec_WeightOf.calls k _ _ l1 a2 t162006 _ ?side1 ?side2 A8.out).mono ?_); (case side1 => repeat (first | exact (Kd.C_below HR1.out (pB1 HB.out GE162001.out)) | (with_reducible refine Kd.C_alloc ?_ _) | (with_reducible refine Kd.C_drewN ?_ _) | (with_reducible refine Kd.C_drew ?_))); (case side2 => exact HC1.out); rintro e w' ⟨rfl, ⟨nd, rfl⟩⟩))
  go_ret
  exact ⟨re_, pB1 HB.out GE162001.out⟩
 ·replace c6 := Bool.eq_false_iff.mpr c6
  subst c6
  have H1 : (some false) = some r := by rw [if_neg (show ¬ (false = true) by decide)] at H; exact H
  clear H
  have H := H1
  clear H1
  obtain rfl := Option.some.inj H
  go_enter Try.func161, Try.ntmps161
  try go_wp2_with (first | ((with_reducible refine gate_dst (N := 3) rfl ?_); refine box_event ?hg (N := 3) ?hd (cs := #[.int .i64 a0_0, .slice A0_1 l0_1.length c0_1]) (t := 28) ?hr ?_; (case hd => rfl); (case hg => rfl); (case hr => first | (go_simp; done) | (go_simp; rfl)); intro gb162001 hg w12 hbox hb; have BK162001 := aQ (hbox); have GW162001 := aQ ((by rw [hg]; exact (below_size (pB HB.out)) : w.heap.size ≤ gb162001)); have GE162001 := aQ ((by rw [hg]; exact (below_size (pB HB.out)) : w.heap.size ≤ gb162001)); replace HB := aQ (below_step (pB HB.out) hb); clear hb hbox hg))
  have n0_ := aQ (blk_drew BK162001.out)
  have n1_ := aQ (below_drew1 HB.out)
  clear BK162001
  clear HB
  have BK162001 := n0_
  have HB := n1_
  clear n0_ n1_
  refine start_ (n := 10) (S := fun w' => w'.cell? ⟨gb162001, 0, none⟩ = some (.int .i64 a0_0) ∧ w'.cell? ⟨gb162001, 1, none⟩ = some (.slice A0_1 l0_1.length c0_1)) (ds := []) #[false, false, false, false, false, false, false, false, false, false] (by kernel_rfl) rfl rfl ⟨(blk_cell BK162001.out 0).trans rfl, (blk_cell BK162001.out 1).trans rfl⟩ (fun hHeld => ?_); refine with_tabW spec_l21Best.tab1 spec_l21Best.bits1 (fun HT_ HW_ => ?_)
  generalize w12.drew = w13 at BK162001 HB hHeld ⊢
  refine pure_ (i := 1) (N := some 11) (v := ?_) (a' := ?_) #[false, true, false, false, false, false, false, false, false, false] rfl rfl (any_of HT_.out (by kernel_rfl)) (fun _ _ _ h => h) (Or.inl ⟨by rfl, ?_⟩) ?_ ?_
  rotate_left
  ·intro w'
   go_simp
   with_reducible rfl
  rotate_left
  ·simp only [Act.put, List.setIfInBounds_toArray, List.set_cons_zero, List.set_cons_succ, i64_w, i32_w]
   rfl
  refine pure_ (i := 2) (N := some 12) (v := ?_) (a' := ?_) #[false, true, true, false, false, false, false, false, false, false] rfl rfl (any_of HT_.out (by kernel_rfl)) (fun _ _ _ h => h) (Or.inl ⟨by rfl, ?_⟩) ?_ ?_
  rotate_left
  ·intro w'
   go_simp
   with_reducible rfl
  rotate_left
  ·simp only [Act.put, List.setIfInBounds_toArray, List.set_cons_zero, List.set_cons_succ, i64_w, i32_w]
   rfl
  refine take_ (i := 0) (N := some 10) (v := ?_) (a' := ?_) #[true, true, true, false, false, false, false, false, false, false] rfl rfl (take_ofW HT_.out HW_.out (by kernel_rfl)) (fun _ _ _ h => h) (Or.inl ⟨by rfl, ?_⟩) hHeld ?_ ?_
  rotate_left
  ·rintro w' ⟨s0, s1⟩
   go_simp
   with_reducible rfl
  rotate_left
  ·simp only [Act.put, List.setIfInBounds_toArray, List.set_cons_zero, List.set_cons_succ, i64_w, i32_w]
   rfl
  refine one_ (i := 3) (N := some 13) #[true, true, true, true, false, false, false, false, false, false] rfl rfl (one_of HT_.out (by kernel_rfl)) (by decide) (fun K hK => ?_)
  refine goes_ Try.func116 (by kernel_rfl) rfl #[.int .i64 a2] (by rfl) rfl rfl lm ?_
  with_reducible refine (spec_CountOf.calls k a2 t162002 _ A4.out).mono ?_
  rintro e w' ⟨rfl, ⟨nd, rfl⟩⟩
  refine ⟨_, rfl, ?_⟩
  refine hK.out _ _ ⟨(blk_cell BK162001.out 0).trans rfl, (blk_cell BK162001.out 1).trans rfl⟩ (fun hHeld => ?_)
  clear hK K
  refine norm_ (a' := ?_) ?_ ?_
  rotate_left
  ·show Act.put _ (some 13) _ = _
   simp only [Act.put, List.setIfInBounds_toArray, List.set_cons_zero, List.set_cons_succ, i64_w, i32_w]
   rfl
  refine one_ (i := 4) (N := some 14) #[true, true, true, true, true, false, false, false, false, false] rfl rfl (one_of HT_.out (by kernel_rfl)) (by decide) (fun K hK => ?_)
  refine goes_ Try.func72 (by kernel_rfl) rfl #[.agg #[.int .i64 a0_0, .slice A0_1 l0_1.length c0_1], .slice A1 l1.length c1, .int .i64 t162002] (by rfl) rfl rfl lm ?_
  with_reducible refine (spec_BestOfSize.calls k a0_0 _ _ l0_1 _ _ l1 t162002 t162003 false _ ?side1 ?side2 ?side3 ?side4 A5.out).mono ?_
  (case side1 => repeat (first | exact (Kd.C_below HR0_1.out (pB1 HB.out GE162001.out)) | (with_reducible refine Kd.C_alloc ?_ _) | (with_reducible refine Kd.C_drewN ?_ _) | (with_reducible refine Kd.C_drew ?_)))
  (case side2 => exact HC0_1.out)
  (case side3 => repeat (first | exact (Kd.C_below HR1.out (pB1 HB.out GE162001.out)) | (with_reducible refine Kd.C_alloc ?_ _) | (with_reducible refine Kd.C_drewN ?_ _) | (with_reducible refine Kd.C_drew ?_)))
  (case side4 => exact HC1.out)
  rintro e w14 ⟨rfl, hb⟩
  refine ⟨_, rfl, ?_⟩
  have n0_ := aQ (blk_below (g := gb162001) (o := .cells #[.int .i64 a0_0, .slice A0_1 l0_1.length c0_1] 28 (0, 0)) (pk BK162001.out) hb)
  have n1_ := aQ (below_step (pB1 HB.out GE162001.out) hb)
  clear BK162001
  clear HB
  have BK162001 := n0_
  have HB := n1_
  clear n0_ n1_
  (try clear hb)
  (try clear hb2)
  (try clear hk)
  (try clear hi)
  refine hK.out _ _ ⟨(blk_cell BK162001.out 0).trans rfl, (blk_cell BK162001.out 1).trans rfl⟩ (fun hHeld => ?_)
  clear hK K
  refine norm_ (a' := ?_) ?_ ?_
  rotate_left
  ·show Act.put _ (some 14) _ = _
   simp only [Act.put, List.setIfInBounds_toArray, List.set_cons_zero, List.set_cons_succ, i64_w, i32_w]
   rfl
  refine pure_ (i := 5) (N := some 9) (v := ?_) (a' := ?_) #[true, true, true, true, true, true, false, false, false, false] rfl rfl (any_of HT_.out (by kernel_rfl)) (fun _ _ _ h => h) (Or.inl ⟨by rfl, ?_⟩) ?_ ?_
  rotate_left
  ·intro w'
   go_simp
   with_reducible rfl
  rotate_left
  ·simp only [Act.put, List.setIfInBounds_toArray, List.set_cons_zero, List.set_cons_succ, i64_w, i32_w]
   rfl
  refine pure_ (i := 6) (N := some 15) (v := ?_) (a' := ?_) #[true, true, true, true, true, true, true, false, false, false] rfl rfl (any_of HT_.out (by kernel_rfl)) (fun _ _ _ h => h) (Or.inl ⟨by rfl, ?_⟩) ?_ ?_
  rotate_left
  ·intro w'
   go_simp
   with_reducible rfl
  rotate_left
  ·simp only [Act.put, List.setIfInBounds_toArray, List.set_cons_zero, List.set_cons_succ, i64_w, i32_w]
   rfl
  refine pure_ (i := 7) (N := some 16) (v := ?_) (a' := ?_) #[true, true, true, true, true, true, true, true, false, false] rfl rfl (any_of HT_.out (by kernel_rfl)) (fun _ _ _ h => h) (Or.inl ⟨by rfl, ?_⟩) ?_ ?_
  rotate_left
  ·intro w'
   go_simp
   with_reducible rfl
  rotate_left
  ·simp only [Act.put, List.setIfInBounds_toArray, List.set_cons_zero, List.set_cons_succ, i64_w, i32_w]
   rfl
  refine pure_ (i := 8) (N := some 7) (v := ?_) (a' := ?_) #[true, true, true, true, true, true, true, true, true, false] rfl rfl (any_of HT_.out (by kernel_rfl)) (fun _ _ _ h => h) (Or.inl ⟨by rfl, ?_⟩) ?_ ?_
  rotate_left
  ·intro w'
   go_simp
   with_reducible rfl
  rotate_left
  ·simp only [Act.put, List.setIfInBounds_toArray, List.set_cons_zero, List.set_cons_succ, i64_w, i32_w]
   rfl
  refine pure_ (i := 9) (N := some 8) (v := ?_) (a' := ?_) #[true, true, true, true, true, true, true, true, true, true] rfl rfl (any_of HT_.out (by kernel_rfl)) (fun _ _ _ h => h) (Or.inl ⟨by rfl, ?_⟩) ?_ ?_
  rotate_left
  ·intro w'
   go_simp
   with_reducible rfl
  rotate_left
  ·simp only [Act.put, List.setIfInBounds_toArray, List.set_cons_zero, List.set_cons_succ, i64_w, i32_w]
   rfl
  refine done_ (done_of HT_.out (by kernel_rfl)) ?_
  try go_wp2
  go_ret
  exact ⟨re_, pB1 HB.out GE162001.out⟩
/-! ### spec_IsSplit: function 66 -/
def spec_IsSplit.f (k : Nat) (a0_0 : Int) (l0_1 : List Int) (a1_0 : Int) (l1_1 : List Int) (l2 : List Int) (l3 : List Int) (a4 : Int) : Option (Bool) := (spec_IsCommon.f k a0_0 l0_1 a1_0 l1_1 a4).bind fun t67003 => (if t67003 = true then ((spec_l21Best.f k a0_0 l0_1 l2 a4).bind fun t67004 => (if t67004 = true then ((spec_l21Best.f k a1_0 l1_1 l3 a4).bind fun t67005 => (some t67005)) else (some false))) else (some false))
theorem spec_IsSplit.mono : ∀ a0 a1 a2 a3 a4 a5 a6 k, LeO (spec_IsSplit.f k a0 a1 a2 a3 a4 a5 a6) (spec_IsSplit.f (k + 1) a0 a1 a2 a3 a4 a5 a6) := by
 intro a0 a1 a2 a3 a4 a5 a6 k
 unfold spec_IsSplit.f
 repeat' first
   | (with_reducible exact spec_IsCommon.mono _ _ _ _ _ _)
   | (with_reducible exact spec_l21Best.mono _ _ _ _ _)
   | (with_reducible exact LeO.refl _)
   | (with_reducible exact LeO.none _)
   | (with_reducible refine LeO.ite ?_ ?_)
   | (with_reducible refine LeO.bind ?_ (fun _ => ?_))
   | exact spec_IsCommon.mono _ _ _ _ _ _
   | exact spec_l21Best.mono _ _ _ _ _
   | exact LeO.none _
   | refine LeO.ite ?_ ?_
   | refine LeO.bind ?_ (fun _ => ?_)
set_option maxHeartbeats 8000000 in
set_option maxRecDepth 100000 in
theorem spec_IsSplit.calls (k : Nat) (a0_0 : Int) (A0_1 : Option Addr) (c0_1 : Nat) (l0_1 : List Int) (a1_0 : Int) (A1_1 : Option Addr) (c1_1 : Nat) (l1_1 : List Int) (A2 : Option Addr) (c2 : Nat) (l2 : List Int) (A3 : Option Addr) (c3 : Nat) (l3 : List Int) (a4 : Int) (r : Bool) (w : World) (hr0_1 : Kd.C (Kd.int .i64) w A0_1 l0_1.length l0_1) (hc0_1 : l0_1.length ≤ c0_1) (hr1_1 : Kd.C (Kd.int .i64) w A1_1 l1_1.length l1_1) (hc1_1 : l1_1.length ≤ c1_1) (hr2 : Kd.C (Kd.int .i64) w A2 l2.length l2) (hc2 : l2.length ≤ c2) (hr3 : Kd.C (Kd.int .i64) w A3 l3.length l3) (hc3 : l3.length ≤ c3) (h : spec_IsSplit.f k a0_0 l0_1 a1_0 l1_1 l2 l3 a4 = some r) :
  Calls Try.prog 66 #[.agg #[.int .i64 a0_0, .slice A0_1 l0_1.length c0_1], .agg #[.int .i64 a1_0, .slice A1_1 l1_1.length c1_1], .slice A2 l2.length c2, .slice A3 l3.length c3, .int .i64 a4] w fun e w' => e = .returned (.bool r) ∧ Below w.heap.size w w' := by
 have hu28 := Try.underlying28
 have HR0_1 := aQ hr0_1
 have HC0_1 := aQ hc0_1
 clear hr0_1 hc0_1
 have HR1_1 := aQ hr1_1
 have HC1_1 := aQ hc1_1
 clear hr1_1 hc1_1
 have HR2 := aQ hr2
 have HC2 := aQ hc2
 clear hr2 hc2
 have HR3 := aQ hr3
 have HC3 := aQ hc3
 clear hr3 hc3
 have HB := aQ (Below.refl w.heap.size w)
 have H : ((spec_IsCommon.f k a0_0 l0_1 a1_0 l1_1 a4).bind fun t67003 => (if t67003 = true then ((spec_l21Best.f k a0_0 l0_1 l2 a4).bind fun t67004 => (if t67004 = true then ((spec_l21Best.f k a1_0 l1_1 l3 a4).bind fun t67005 => (some t67005)) else (some false))) else (some false))) = some r := h
 clear h
 replace H := Option.bind_eq_some_iff.mp H
 obtain ⟨t67003, A60, H⟩ := H
 replace H : (if t67003 = true then ((spec_l21Best.f k a0_0 l0_1 l2 a4).bind fun t67004 => (if t67004 = true then ((spec_l21Best.f k a1_0 l1_1 l3 a4).bind fun t67005 => (some t67005)) else (some false))) else (some false)) = some r := H
 have A6 := aQ A60
 clear A60
 by_cases c7 : t67003 = true
 ·subst c7
  have H1 : ((spec_l21Best.f k a0_0 l0_1 l2 a4).bind fun t67004 => (if t67004 = true then ((spec_l21Best.f k a1_0 l1_1 l3 a4).bind fun t67005 => (some t67005)) else (some false))) = some r := by rw [if_pos rfl] at H; exact H
  clear H
  have H := H1
  clear H1
  replace H := Option.bind_eq_some_iff.mp H
  obtain ⟨t67004, A80, H⟩ := H
  replace H : (if t67004 = true then ((spec_l21Best.f k a1_0 l1_1 l3 a4).bind fun t67005 => (some t67005)) else (some false)) = some r := H
  have A8 := aQ A80
  clear A80
  by_cases c9 : t67004 = true
  ·subst c9
   have H1 : ((spec_l21Best.f k a1_0 l1_1 l3 a4).bind fun t67005 => (some t67005)) = some r := by rw [if_pos rfl] at H; exact H
   clear H
   have H := H1
   clear H1
   replace H := Option.bind_eq_some_iff.mp H
   obtain ⟨t67005, A100, H⟩ := H
   replace H : (some t67005) = some r := H
   have A10 := aQ A100
   clear A100
   obtain rfl := Option.some.inj H
   go_enter Try.func66, Try.ntmps66
   go_wp2_with (first | ((with_reducible refine gate_dst (N := 5) rfl ?_); refine box_event ?hg (N := 5) ?hd (cs := #[.int .i64 a0_0, .slice A0_1 l0_1.length c0_1]) (t := 28) ?hr ?_; (case hd => rfl); (case hg => rfl); (case hr => first | (go_simp; done) | (go_simp; rfl)); intro gb67001 hg w11 hbox hb; have BK67001 := aQ (hbox); have GW67001 := aQ ((by rw [hg]; exact (below_size (pB HB.out)) : w.heap.size ≤ gb67001)); have GE67001 := aQ ((by rw [hg]; exact (below_size (pB HB.out)) : w.heap.size ≤ gb67001)); replace HB := aQ (below_step (pB HB.out) hb); clear hb hbox hg) | ((with_reducible refine gate_dst (N := 6) rfl ?_); refine box_event ?hg (N := 6) ?hd (cs := #[.int .i64 a1_0, .slice A1_1 l1_1.length c1_1]) (t := 28) ?hr ?_; (case hd => rfl); (case hg => rfl); (case hr => first | (go_simp; done) | (go_simp; rfl)); intro gb67002 hg w12 hbox hb; have BK67002 := aQ (hbox); have GW67002 := aQ ((by rw [hg]; exact (below_size (pB1 HB.out GE67001.out)) : w.heap.size ≤ gb67002)); have GE67002 := aQ ((by rw [hg]; exact (below_size (pB1 HB.out GE67001.out)) : w.heap.size ≤ gb67002)); replace HB := aQ (below_step (pB1 HB.out GE67001.out) hb); have NB67001_67002 := aQ ((by rw [hg]; exact Nat.ne_of_lt (blk_lt (g := gb67001) (o := .cells #[.int .i64 a0_0, .slice A0_1 l0_1.length c0_1] 28 (0, 0)) (pk BK67001.out)) : gb67001 ≠ gb67002)); have NB67002_67001 := aQ ((by rw [hg]; exact Nat.ne_of_gt (blk_lt (g := gb67001) (o := .cells #[.int .i64 a0_0, .slice A0_1 l0_1.length c0_1] 28 (0, 0)) (pk BK67001.out)) : gb67002 ≠ gb67001)); replace BK67001 := aQ (blk_below (g := gb67001) (o := .cells #[.int .i64 a0_0, .slice A0_1 l0_1.length c0_1] 28 (0, 0)) (pk BK67001.out) hb); clear hb hbox hg; have hnb13 := NB67001_67002.out; have hnc13 := NB67002_67001.out; have hcz14_0 := bc (v := (.int .i64 a0_0)) BK67001.out 0; have hcz14_1 := bc (v := (.slice A0_1 l0_1.length c0_1)) BK67001.out 1; have hfz14_0 := blk_frozen BK67001.out 0; have hfz14_1 := blk_frozen BK67001.out 1; have hcz15_0 := bc (v := (.int .i64 a1_0)) BK67002.out 0; have hcz15_1 := bc (v := (.slice A1_1 l1_1.length c1_1)) BK67002.out 1; have hfz15_0 := blk_frozen BK67002.out 0; have hfz15_1 := blk_frozen BK67002.out 1) | ((with_reducible refine gate_callee (f := 114) rfl ?_); refine goesL_ (some 14) rfl rfl Try.func114 (by kernel_rfl) rfl #[.agg #[.int .i64 a0_0, .slice A0_1 l0_1.length c0_1], .agg #[.int .i64 a1_0, .slice A1_1 l1_1.length c1_1], .int .i64 a4] rfl lm ?_; (with_reducible refine (spec_IsCommon.calls k a0_0 _ _ l0_1 a1_0 _ _ l1_1 a4 true _ ?side1 ?side2 ?side3 ?side4 A6.out).mono ?_); (case side1 => exact pC (Kd.C_below HR0_1.out HB.out)); (case side2 => exact HC0_1.out); (case side3 => exact pC (Kd.C_below HR1_1.out HB.out)); (case side4 => exact HC1_1.out); rintro e w16 ⟨rfl, hb⟩; refine ⟨_, rfl, ?_⟩; replace BK67001 := aQ (blk_below (g := gb67001) (o := .cells #[.int .i64 a0_0, .slice A0_1 l0_1.length c0_1] 28 (0, 0)) (pk BK67001.out) hb); replace BK67002 := aQ (blk_below (g := gb67002) (o := .cells #[.int .i64 a1_0, .slice A1_1 l1_1.length c1_1] 28 (0, 0)) (pk BK67002.out) hb); replace HB := aQ (below_step (pB2 HB.out GE67001.out GE67002.out) hb); (try clear hb); have hcz17_0 := bc (v := (.int .i64 a0_0)) BK67001.out 0; have hcz17_1 := bc (v := (.slice A0_1 l0_1.length c0_1)) BK67001.out 1; have hfz17_0 := blk_frozen BK67001.out 0; have hfz17_1 := blk_frozen BK67001.out 1) | (go_at_call 161; (with_reducible refine (spec_l21Best.calls k a0_0 _ _ l0_1 _ _ l2 a4 true _ ?side1 ?side2 ?side3 ?side4 A8.out).mono ?_); (case side1 => exact pC (Kd.C_below HR0_1.out HB.out)); (case side2 => exact HC0_1.out); (case side3 => exact pC (Kd.C_below HR2.out HB.out)); (case side4 => exact HC2.out); rintro e w18 ⟨rfl, hb⟩; replace BK67001 := aQ (blk_below (g := gb67001) (o := .cells #[.int .i64 a0_0, .slice A0_1 l0_1.length c0_1] 28 (0, 0)) (pk BK67001.out) hb); replace BK67002 := aQ (blk_below (g := gb67002) (o := .cells #[.int .i64 a1_0, .slice A1_1 l1_1.length c1_1] 28 (0, 0)) (pk BK67002.out) hb); replace HB := aQ (below_step (pB2 HB.out GE67001.out GE67002.out) hb); (try clear hb); have hcz19_0 := bc (v := (.int .i64 a1_0)) BK67002.out 0; have hcz19_1 := bc (v := (.slice A1_1 l1_1.length c1_1)) BK67002.out 1; have hfz19_0 := blk_frozen BK67002.out 0; have hfz19_1 := blk_frozen BK67002.out 1) | (go_at_call 161; (with_reducible refine (spec_l21Best.calls k a1_0 _ _ l1_1 _ _ l3 a4 t67005 _ ?side1 ?side2 ?side3 ?side4 A10.out).mono ?_); (case side1 => exact pC (Kd.C_below HR1_1.out HB.out)); (case side2 => exact HC1_1.out); (case side3 => exact pC (Kd.C_below HR3.out HB.out)); (case side4 => exact HC3.out); rintro e w20 ⟨rfl, hb⟩; replace BK67001 := aQ (blk_below (g := gb67001) (o := .cells #[.int .i64 a0_0, .slice A0_1 l0_1.length c0_1] 28 (0, 0)) (pk BK67001.out) hb); replace BK67002 := aQ (blk_below (g := gb67002) (o := .cells #[.int .i64 a1_0, .slice A1_1 l1_1.length c1_1] 28 (0, 0)) (pk BK67002.out) hb); replace HB := aQ (below_step (pB2 HB.out GE67001.out GE67002.out) hb); (try clear hb)))
   go_ret
   exact ⟨re_, pB2 HB.out GE67001.out GE67002.out⟩
  ·replace c9 := Bool.eq_false_iff.mpr c9
   subst c9
   have H1 : (some false) = some r := by rw [if_neg (show ¬ (false = true) by decide)] at H; exact H
   clear H
   have H := H1
   clear H1
   obtain rfl := Option.some.inj H
   go_enter Try.func66, Try.ntmps66
   go_wp2_with (first | ((with_reducible refine gate_dst (N := 5) rfl ?_); refine box_event ?hg (N := 5) ?hd (cs := #[.int .i64 a0_0, .slice A0_1 l0_1.length c0_1]) (t := 28) ?hr ?_; (case hd => rfl); (case hg => rfl); (case hr => first | (go_simp; done) | (go_simp; rfl)); intro gb67001 hg w21 hbox hb; have BK67001 := aQ (hbox); have GW67001 := aQ ((by rw [hg]; exact (below_size (pB HB.out)) : w.heap.size ≤ gb67001)); have GE67001 := aQ ((by rw [hg]; exact (below_size (pB HB.out)) : w.heap.size ≤ gb67001)); replace HB := aQ (below_step (pB HB.out) hb); clear hb hbox hg) | ((with_reducible refine gate_dst (N := 6) rfl ?_); refine box_event ?hg (N := 6) ?hd (cs := #[.int .i64 a1_0, .slice A1_1 l1_1.length c1_1]) (t := 28) ?hr ?_; (case hd => rfl); (case hg => rfl); (case hr => first | (go_simp; done) | (go_simp; rfl)); intro gb67002 hg w22 hbox hb; have BK67002 := aQ (hbox); have GW67002 := aQ ((by rw [hg]; exact (below_size (pB1 HB.out GE67001.out)) : w.heap.size ≤ gb67002)); have GE67002 := aQ ((by rw [hg]; exact (below_size (pB1 HB.out GE67001.out)) : w.heap.size ≤ gb67002)); replace HB := aQ (below_step (pB1 HB.out GE67001.out) hb); have NB67001_67002 := aQ ((by rw [hg]; exact Nat.ne_of_lt (blk_lt (g := gb67001) (o := .cells #[.int .i64 a0_0, .slice A0_1 l0_1.length c0_1] 28 (0, 0)) (pk BK67001.out)) : gb67001 ≠ gb67002)); have NB67002_67001 := aQ ((by rw [hg]; exact Nat.ne_of_gt (blk_lt (g := gb67001) (o := .cells #[.int .i64 a0_0, .slice A0_1 l0_1.length c0_1] 28 (0, 0)) (pk BK67001.out)) : gb67002 ≠ gb67001)); replace BK67001 := aQ (blk_below (g := gb67001) (o := .cells #[.int .i64 a0_0, .slice A0_1 l0_1.length c0_1] 28 (0, 0)) (pk BK67001.out) hb); clear hb hbox hg; have hnb23 := NB67001_67002.out; have hnc23 := NB67002_67001.out; have hcz24_0 := bc (v := (.int .i64 a0_0)) BK67001.out 0; have hcz24_1 := bc (v := (.slice A0_1 l0_1.length c0_1)) BK67001.out 1; have hfz24_0 := blk_frozen BK67001.out 0; have hfz24_1 := blk_frozen BK67001.out 1; have hcz25_0 := bc (v := (.int .i64 a1_0)) BK67002.out 0; have hcz25_1 := bc (v := (.slice A1_1 l1_1.length c1_1)) BK67002.out 1; have hfz25_0 := blk_frozen BK67002.out 0; have hfz25_1 := blk_frozen BK67002.out 1) | ((with_reducible refine gate_callee (f := 114) rfl ?_); refine goesL_ (some 14) rfl rfl Try.func114 (by kernel_rfl) rfl #[.agg #[.int .i64 a0_0, .slice A0_1 l0_1.length c0_1], .agg #[.int .i64 a1_0, .slice A1_1 l1_1.length c1_1], .int .i64 a4] rfl lm ?_; (with_reducible refine (spec_IsCommon.calls k a0_0 _ _ l0_1 a1_0 _ _ l1_1 a4 true _ ?side1 ?side2 ?side3 ?side4 A6.out).mono ?_); (case side1 => exact pC (Kd.C_below HR0_1.out HB.out)); (case side2 => exact HC0_1.out); (case side3 => exact pC (Kd.C_below HR1_1.out HB.out)); (case side4 => exact HC1_1.out); rintro e w26 ⟨rfl, hb⟩; refine ⟨_, rfl, ?_⟩; replace BK67001 := aQ (blk_below (g := gb67001) (o := .cells #[.int .i64 a0_0, .slice A0_1 l0_1.length c0_1] 28 (0, 0)) (pk BK67001.out) hb); replace BK67002 := aQ (blk_below (g := gb67002) (o := .cells #[.int .i64 a1_0, .slice A1_1 l1_1.length c1_1] 28 (0, 0)) (pk BK67002.out) hb); replace HB := aQ (below_step (pB2 HB.out GE67001.out GE67002.out) hb); (try clear hb); have hcz27_0 := bc (v := (.int .i64 a0_0)) BK67001.out 0; have hcz27_1 := bc (v := (.slice A0_1 l0_1.length c0_1)) BK67001.out 1; have hfz27_0 := blk_frozen BK67001.out 0; have hfz27_1 := blk_frozen BK67001.out 1) | (go_at_call 161; (with_reducible refine (spec_l21Best.calls k a0_0 _ _ l0_1 _ _ l2 a4 false _ ?side1 ?side2 ?side3 ?side4 A8.out).mono ?_); (case side1 => exact pC (Kd.C_below HR0_1.out HB.out)); (case side2 => exact HC0_1.out); (case side3 => exact pC (Kd.C_below HR2.out HB.out)); (case side4 => exact HC2.out); rintro e w28 ⟨rfl, hb⟩; replace BK67001 := aQ (blk_below (g := gb67001) (o := .cells #[.int .i64 a0_0, .slice A0_1 l0_1.length c0_1] 28 (0, 0)) (pk BK67001.out) hb); replace BK67002 := aQ (blk_below (g := gb67002) (o := .cells #[.int .i64 a1_0, .slice A1_1 l1_1.length c1_1] 28 (0, 0)) (pk BK67002.out) hb); replace HB := aQ (below_step (pB2 HB.out GE67001.out GE67002.out) hb); (try clear hb)))
   go_ret
   exact ⟨re_, pB2 HB.out GE67001.out GE67002.out⟩
 ·replace c7 := Bool.eq_false_iff.mpr c7
  subst c7
  have H1 : (some false) = some r := by rw [if_neg (show ¬ (false = true) by decide)] at H; exact H
  clear H
  have H := H1
  clear H1
  obtain rfl := Option.some.inj H
  go_enter Try.func66, Try.ntmps66
  go_wp2_with (first | ((with_reducible refine gate_dst (N := 5) rfl ?_); refine box_event ?hg (N := 5) ?hd (cs := #[.int .i64 a0_0, .slice A0_1 l0_1.length c0_1]) (t := 28) ?hr ?_; (case hd => rfl); (case hg => rfl); (case hr => first | (go_simp; done) | (go_simp; rfl)); intro gb67001 hg w29 hbox hb; have BK67001 := aQ (hbox); have GW67001 := aQ ((by rw [hg]; exact (below_size (pB HB.out)) : w.heap.size ≤ gb67001)); have GE67001 := aQ ((by rw [hg]; exact (below_size (pB HB.out)) : w.heap.size ≤ gb67001)); replace HB := aQ (below_step (pB HB.out) hb); clear hb hbox hg) | ((with_reducible refine gate_dst (N := 6) rfl ?_); refine box_event ?hg (N := 6) ?hd (cs := #[.int .i64 a1_0, .slice A1_1 l1_1.length c1_1]) (t := 28) ?hr ?_; (case hd => rfl); (case hg => rfl); (case hr => first | (go_simp; done) | (go_simp; rfl)); intro gb67002 hg w30 hbox hb; have BK67002 := aQ (hbox); have GW67002 := aQ ((by rw [hg]; exact (below_size (pB1 HB.out GE67001.out)) : w.heap.size ≤ gb67002)); have GE67002 := aQ ((by rw [hg]; exact (below_size (pB1 HB.out GE67001.out)) : w.heap.size ≤ gb67002)); replace HB := aQ (below_step (pB1 HB.out GE67001.out) hb); have NB67001_67002 := aQ ((by rw [hg]; exact Nat.ne_of_lt (blk_lt (g := gb67001) (o := .cells #[.int .i64 a0_0, .slice A0_1 l0_1.length c0_1] 28 (0, 0)) (pk BK67001.out)) : gb67001 ≠ gb67002)); have NB67002_67001 := aQ ((by rw [hg]; exact Nat.ne_of_gt (blk_lt (g := gb67001) (o := .cells #[.int .i64 a0_0, .slice A0_1 l0_1.length c0_1] 28 (0, 0)) (pk BK67001.out)) : gb67002 ≠ gb67001)); replace BK67001 := aQ (blk_below (g := gb67001) (o := .cells #[.int .i64 a0_0, .slice A0_1 l0_1.length c0_1] 28 (0, 0)) (pk BK67001.out) hb); clear hb hbox hg; have hnb31 := NB67001_67002.out; have hnc31 := NB67002_67001.out; have hcz32_0 := bc (v := (.int .i64 a0_0)) BK67001.out 0; have hcz32_1 := bc (v := (.slice A0_1 l0_1.length c0_1)) BK67001.out 1; have hfz32_0 := blk_frozen BK67001.out 0; have hfz32_1 := blk_frozen BK67001.out 1; have hcz33_0 := bc (v := (.int .i64 a1_0)) BK67002.out 0; have hcz33_1 := bc (v := (.slice A1_1 l1_1.length c1_1)) BK67002.out 1; have hfz33_0 := blk_frozen BK67002.out 0; have hfz33_1 := blk_frozen BK67002.out 1) | ((with_reducible refine gate_callee (f := 114) rfl ?_); refine goesL_ (some 14) rfl rfl Try.func114 (by kernel_rfl) rfl #[.agg #[.int .i64 a0_0, .slice A0_1 l0_1.length c0_1], .agg #[.int .i64 a1_0, .slice A1_1 l1_1.length c1_1], .int .i64 a4] rfl lm ?_; (with_reducible refine (spec_IsCommon.calls k a0_0 _ _ l0_1 a1_0 _ _ l1_1 a4 false _ ?side1 ?side2 ?side3 ?side4 A6.out).mono ?_); (case side1 => exact pC (Kd.C_below HR0_1.out HB.out)); (case side2 => exact HC0_1.out); (case side3 => exact pC (Kd.C_below HR1_1.out HB.out)); (case side4 => exact HC1_1.out); rintro e w34 ⟨rfl, hb⟩; refine ⟨_, rfl, ?_⟩; replace BK67001 := aQ (blk_below (g := gb67001) (o := .cells #[.int .i64 a0_0, .slice A0_1 l0_1.length c0_1] 28 (0, 0)) (pk BK67001.out) hb); replace BK67002 := aQ (blk_below (g := gb67002) (o := .cells #[.int .i64 a1_0, .slice A1_1 l1_1.length c1_1] 28 (0, 0)) (pk BK67002.out) hb); replace HB := aQ (below_step (pB2 HB.out GE67001.out GE67002.out) hb); (try clear hb)))
  go_ret
  exact ⟨re_, pB2 HB.out GE67001.out GE67002.out⟩
end Go.Proofs.Ytinoamehdhgpgaa.A
