/- Machine side of the law FnCommon: Go functions as Lean functions, and proofs that calls come to what these tell. Conditions: those in each theorem. -/
import Derived.Test.YtimkekeaeojpkaaMFnCommon0
import Derived.Test.YtimkekeaeojpkaaMFnCommonq0
import Derived.Test.YtimkekeaeojpkaaMFnCommon1
set_option maxHeartbeats 8000000
set_option maxRecDepth 100000
namespace Go.Proofs.Ytimkekeaeojpkaa.A
open Go.RowKit Go.Proofs.YtimkekeaeojpkaaW.PrintWords Go.Proofs.YtimkekeaeojpkaaW.PrintLast Go.Proofs.YtimkekeaeojpkaaW.PrintMore Go.Proofs.Ytimkekeaeojpkaa.Z
attribute [local go_sem] ya8 yba ybm ybn yaY yaX ya6 ya9
set_option linter.unusedVariables false
set_option linter.unusedSimpArgs false
mutual
def yf.l0 : Nat → List Int → List Int → Int → Option (List Int)
 | 0, _, _, _ => none
 | k + 1, x0, x3, x4 => if x4 < (x0.length : Int) then (yf.l1 k x0 x3 x4 0) else (some x3)
def yf.l1 : Nat → List Int → List Int → Int → Int → Option (List Int)
 | 0, _, _, _, _ => none
 | k + 1, x0, x3, x4, x5 => if x5 < (x3.length : Int) then (if 0 ≤ x5 then (if 0 ≤ x4 then (if x4 < (x0.length : Int) then (if (rd x3 x5) < (rd x0 x4) then (yf.l1 k x0 x3 x4 (wrap64 (x5 + 1))) else (if (rd x3 x5) = (rd x0 x4) then (yf.l0 k x0 x3 (wrap64 (x4 + 1))) else ((some (([] : List Int) : List Int)).bind fun yq0 => (if x5 ≤ (x3.length : Int) then ((some (x3.drop (x5 : Int).toNat : List Int)).bind fun yq1 => (if yq0.length + yq1.length < 17592186044416 then ((some (yq0 ++ yq1 : List Int)).bind fun yq2 => ((some (x3.take (x5 : Int).toNat : List Int)).bind fun yq3 => (if yq3.length < 17592186044416 then ((some (yq3 ++ [rd x0 x4] : List Int)).bind fun yq4 => (if yq4.length + yq2.length < 17592186044416 then (yf.l0 k x0 (yq4 ++ yq2) (wrap64 (x4 + 1))) else (none))) else (none)))) else (none))) else (none))))) else (none)) else (none)) else (none)) else ((some (([] : List Int) : List Int)).bind fun yq5 => (if 0 ≤ x5 then (if x5 ≤ (x3.length : Int) then ((some (x3.drop (x5 : Int).toNat : List Int)).bind fun yq6 => (if yq5.length + yq6.length < 17592186044416 then ((some (yq5 ++ yq6 : List Int)).bind fun yq7 => ((some (x3.take (x5 : Int).toNat : List Int)).bind fun yq8 => (if 0 ≤ x4 then (if x4 < (x0.length : Int) then (if yq8.length < 17592186044416 then ((some (yq8 ++ [rd x0 x4] : List Int)).bind fun yq9 => (if yq9.length + yq7.length < 17592186044416 then (yf.l0 k x0 (yq9 ++ yq7) (wrap64 (x4 + 1))) else (none))) else (none)) else (none)) else (none)))) else (none))) else (none)) else (none)))
end
def yf.f (k : Nat) (l0 : List Int) : Option (List Int) := yf.l0 k l0 (([] : List Int)) 0
def yf.T6 : Bool × List (List Nat × List Nat) := (true, [([], []), ([], []), ([1], [1]), ([0, 2], [0, 2]), ([3], [3]), ([4], [4]), ([4], [4]), ([5, 6, 4], [4, 5, 6]), ([7, 4], [4, 7]), ([4], [4]), ([4], [4]), ([9, 10, 4], [4, 9, 10]), ([11, 4], [4, 11]), ([8, 12, 4], [4, 8, 12]), ([4, 13], [4, 13])])
def yf.B6 : List Nat := [0, 0, 2, 7, 15, 31, 31, 127, 255, 31, 31, 1567, 3615, 8191, 16383]
theorem yf.tab6 : rtab .any (yco Try.f143 6) = yf.T6 := by kernel_rfl
theorem yf.bits6 : ybf yf.T6.2 yf.B6 = true := by kernel_rfl
def yf.T8 : Bool × List (List Nat × List Nat) := (true, [([], []), ([], []), ([1], [1]), ([0, 2], [0, 2]), ([3], [3]), ([4], [4]), ([4], [4]), ([5, 6, 4], [4, 5, 6]), ([7, 4], [4, 7]), ([4], [4]), ([4], [4]), ([9, 10, 4], [4, 9, 10]), ([11, 4], [4, 11]), ([8, 12, 4], [4, 8, 12]), ([4, 13], [4, 13])])
def yf.B8 : List Nat := [0, 0, 2, 7, 15, 31, 31, 127, 255, 31, 31, 1567, 3615, 8191, 16383]
theorem yf.tab8 : rtab .any (yco Try.f143 8) = yf.T8 := by kernel_rfl
theorem yf.bits8 : ybf yf.T8.2 yf.B8 = true := by kernel_rfl
def yf.T10 : Bool × List (List Nat × List Nat) := (true, [([], []), ([], []), ([0, 1], [0, 1]), ([], []), ([], []), ([3, 4], [3, 4]), ([5], [5]), ([6], [6]), ([2, 7], [2, 7]), ([], []), ([8, 9, 8], [8, 9]), ([10, 10, 0, 1, 2, 3, 4, 5, 6, 7, 8, 9, 10], [0, 10])])
def yf.B10 : List Nat := [0, 0, 3, 0, 0, 24, 56, 120, 255, 0, 1023, 2047]
theorem yf.tab10 : rtab .any (yco Try.f143 10) = yf.T10 := by kernel_rfl
theorem yf.bits10 : ybf yf.T10.2 yf.B10 = true := by kernel_rfl
theorem yf.calls (k : Nat) (A0 : Option Addr) (c0 : Nat) (l0 : List Int) (r : List Int) (w : World) (hr0 : Kd.C (Kd.int .i64) w A0 l0.length l0) (hc0 : l0.length ≤ c0) (h : yf.f k l0 = some r) :
  Calls Try.prog 143 #[.slice A0 l0.length c0] w fun e w' => ∃ v0_ : Value, e = .returned (v0_) ∧ Kd.R (Kd.int .i64) 3 w' w.heap.size (fun _ => True) v0_ r ∧ Below w.heap.size w w' := by
 have HR0 := aQ hr0
 have HC0 := aQ hc0
 clear hr0 hc0
 have HB := aQ (Below.refl w.heap.size w)
 have H : (yf.l0 k l0 (([] : List Int)) 0) = some r := h
 clear h
 obtain ⟨yqa, hyqa⟩ : ∃ y_ : List Int, y_ = (([] : List Int)) := ⟨_, rfl⟩
 replace H : (yf.l0 k l0 yqa 0) = some r := by first | (rw [hyqa]; with_reducible exact H) | (rw [hyqa]; exact H)
 have Nyqa := aQ hyqa
 clear hyqa
 have H' := aQ H
 clear H
 go_enter Try.func143, Try.ntmps143
 go_wp2_with (first | ((with_reducible refine yb (N := 7) rfl ?_); refine Kd.R_lit (Kd.int .i64) _ 3 ?hg (N := 7) ?hd (xs := ([] : List Int)) (inner := []) (ok := fun _ => True) (okp := fun _ => True) ?hr ?hp (fun _ hk => hk) trivial (Below.refl _ _) (Nat.le_refl _) (by simp) ?_; (case hd => rfl); (case hg => rfl); (case hr => first | (go_simp; done) | (go_simp; rfl)); (case hp => exact (Reps.none _ _)); intro vqb w2 ho3 hb hg_ hnew_; clear hg_ hnew_; (first | rw [← Nyqa.out] at ho3 | (simp only [Int.reduceToNat] at ho3; rw [← Nyqa.out] at ho3)); have HOqc := aQ (Kd.R_lower ho3 (yc (pB HB.out))); replace HB := bs HB hb; clear hb ho3))
 go_loopg [3, 4] k (fun kq v3 v4 w' => ∃ (x3_1 : List Int) (x4_1 : Int), v4 = .int .i64 x4_1 ∧ Aside0 (yf.l0 kq l0 x3_1 x4_1 = some r) ∧ Aside0 (kq ≤ k) ∧ Aside0 (Kd.R (Kd.int .i64) 3 w' w.heap.size (fun _ => True) v3 x3_1) ∧ Aside0 (Below w.heap.size w w'))
 case atStart => exact ⟨(yqa), (0), rs_, H', ⟨Nat.le_refl _⟩, ⟨pR HOqc.out⟩, ⟨pB HB.out⟩⟩
 clear H'
 try clear c1
 try clear p2
 obtain ⟨x3_1, x4_1, rfl, HA, HK1, HO_3, HB⟩ := hrel
 rcases gk with _ | k1
 ·exact absurd HA.out (by simp [yf.l0])
 have H := HA.out
 clear HA
 simp only [yf.l0] at H
 by_cases c4 : x4_1 < (l0.length : Int)
 ·rw [if_pos c4] at H
  have c4b0 := decide_eq_true c4
  clear c4
  have H' := aQ H
  clear H
  go_wp2
  go_loopg [5] k1 (fun kq v5 w' => ∃ (x5_2 : Int), v5 = .int .i64 x5_2 ∧ Aside0 (yf.l1 kq l0 x3_1 x4_1 x5_2 = some r) ∧ Aside0 (kq ≤ k1) ∧ Aside0 (Kd.R (Kd.int .i64) 3 w' w.heap.size (fun _ => True) u3 x3_1) ∧ Aside0 (Below w.heap.size w w'))
  case atStart => exact ⟨(0), rs_, H', ⟨Nat.le_refl _⟩, ⟨pR HO_3.out⟩, ⟨pB HB.out⟩⟩
  clear H'
  try clear c1
  try clear p2
  try clear c4
  try clear c4b0
  try clear p2
  obtain ⟨x5_2, rfl, HA, HK2, HO_3, HB⟩ := hrel
  rcases gk with _ | k2
  ·exact absurd HA.out (by simp [yf.l1])
  have H := HA.out
  clear HA
  simp only [yf.l1] at H
  by_cases c5 : x5_2 < (x3_1.length : Int)
  ·rw [if_pos c5] at H
   have c5b0 := decide_eq_true c5
   clear c5
   replace H := gd H; obtain ⟨c6, H⟩ := H
   have c6b0 := decide_eq_true c6
   clear c6
   replace H := gd H; obtain ⟨c7, H⟩ := H
   have c7b0 := decide_eq_true c7
   clear c7
   replace H := gd H; obtain ⟨c8, H⟩ := H
   have c8b0 := decide_eq_true c8
   clear c8
   by_cases c9 : (rd x3_1 x5_2) < (rd l0 x4_1)
   ·rw [if_pos c9] at H
    have c9b0 := decide_eq_true c9
    clear c9
    have H' := aQ H
    clear H
    try go_wp2
    replace HO_3 := aQ (Kd.R_drew HO_3.out); replace HB := aQ (yK HB.out)
    obtain ⟨Ao11, co11, eo11⟩ := Kd.R_slice HO_3.out
    (first | subst eo11 | (injection eo11 with f1_ f2_ f3_; have f4_ := f1_.symm; have f5_ := f3_.symm; clear f1_ f2_ f3_; subst f4_; subst f5_))
    have pqd : 0 ≤ (x5_2 : Int) := of_decide_eq_true as_
    have qqd : x5_2 < (x3_1.length : Int) := of_decide_eq_true as_
    obtain ⟨adqd, eqd, hxqd_0⟩ := Kd.at_int (Kd.R_reads' HO_3.out).2.2 x5_2 pqd qqd
    cases eqd
    replace pqd := eq_true pqd
    replace qqd := eq_true qqd
    have pqe : 0 ≤ (x4_1 : Int) := of_decide_eq_true as_
    have qqe : x4_1 < (l0.length : Int) := of_decide_eq_true as_
    obtain ⟨adqe, eqe, hxqe_0⟩ := Kd.at_int HR0.out x4_1 pqe qqe
    have hwqe_0 := hxqe_0
    cases eqe
    replace hxqe_0 := (HB.out.cell (World.block_lt_of_cell? w _ hxqe_0)).trans hxqe_0
    replace pqe := eq_true pqe
    replace qqe := eq_true qqe
    refine ya0 (n := 15) (S := fun w' => w'.cell? (adqd.add (x5_2).toNat) = some (.int .i64 (rd x3_1 x5_2)) ∧ w'.cell? (adqe.add (x4_1).toNat) = some (.int .i64 (rd l0 x4_1))) (ds := []) _ (by kernel_rfl) rfl rfl ⟨hxqd_0, ((HB.out.cell (World.block_lt_of_cell? w _ hwqe_0)).trans hwqe_0)⟩ (fun hHeld => ?_); refine yaw yf.tab6 yf.bits6 (fun HT_ HW_ => ?_)
    generalize wr.drew = w10 at HO_3 HB hxqd_0 hxqe_0 hHeld ⊢
    refine pA 0 (some 14) HT_ ?_
    refine pA 1 (some 15) HT_ ?_
    refine pA 2 (some 16) HT_ ?_
    refine pA 3 (some 17) HT_ ?_
    refine pA 4 (some 18) HT_ ?_
    refine pA 5 (some 19) HT_ ?_
    refine pA 6 (some 20) HT_ ?_
    refine pA 7 (some 21) HT_ ?_
    refine pA 9 (some 23) HT_ ?_
    refine pA 10 (some 24) HT_ ?_
    refine pA 11 (some 25) HT_ ?_
    refine tA2 8 (some 22) HT_ HW_ hHeld ?_
    refine tA2 12 (some 26) HT_ HW_ hHeld ?_
    refine pA 13 (some 27) HT_ ?_
    refine pA 14 (some 28) HT_ ?_
    refine ybs (yaZ HT_.out (by kernel_rfl)) ?_
    try go_wp2
    go_roundg k2
    case measure => have := HK1.out; have := HK2.out; omega
    case rel => exact ⟨(wrap64 (x5_2 + 1)), rs_, H', ⟨by have := HK1.out; have := HK2.out; omega⟩, ⟨pR HO_3.out⟩, ⟨pB HB.out⟩⟩
   ·rw [if_neg c9] at H
    have c9b0 := decide_eq_false c9
    clear c9
    by_cases c12 : (rd x3_1 x5_2) = (rd l0 x4_1)
    ·rw [if_pos c12] at H
     have c12b0 : ((rd x3_1 x5_2) == (rd l0 x4_1)) = true := beq_iff_eq.mpr c12
     have c12b1 : ((rd x3_1 x5_2) != (rd l0 x4_1)) = false := bne_eq_false_iff_eq.mpr c12
     clear c12
     have H' := aQ H
     clear H
     try go_wp2
     replace HO_3 := aQ (Kd.R_drew HO_3.out); replace HB := aQ (yK HB.out)
     obtain ⟨Ao14, co14, eo14⟩ := Kd.R_slice HO_3.out
     (first | subst eo14 | (injection eo14 with f1_ f2_ f3_; have f4_ := f1_.symm; have f5_ := f3_.symm; clear f1_ f2_ f3_; subst f4_; subst f5_))
     have pqd : 0 ≤ (x5_2 : Int) := of_decide_eq_true as_
     have qqd : x5_2 < (x3_1.length : Int) := of_decide_eq_true as_
     obtain ⟨adqd, eqd, hxqd_0⟩ := Kd.at_int (Kd.R_reads' HO_3.out).2.2 x5_2 pqd qqd
     cases eqd
     replace pqd := eq_true pqd
     replace qqd := eq_true qqd
     have pqe : 0 ≤ (x4_1 : Int) := of_decide_eq_true as_
     have qqe : x4_1 < (l0.length : Int) := of_decide_eq_true as_
     obtain ⟨adqe, eqe, hxqe_0⟩ := Kd.at_int HR0.out x4_1 pqe qqe
     have hwqe_0 := hxqe_0
     cases eqe
     replace hxqe_0 := (HB.out.cell (World.block_lt_of_cell? w _ hxqe_0)).trans hxqe_0
     replace pqe := eq_true pqe
     replace qqe := eq_true qqe
     refine ya0 (n := 15) (S := fun w' => w'.cell? (adqd.add (x5_2).toNat) = some (.int .i64 (rd x3_1 x5_2)) ∧ w'.cell? (adqe.add (x4_1).toNat) = some (.int .i64 (rd l0 x4_1))) (ds := []) _ (by kernel_rfl) rfl rfl ⟨hxqd_0, ((HB.out.cell (World.block_lt_of_cell? w _ hwqe_0)).trans hwqe_0)⟩ (fun hHeld => ?_); refine yaw yf.tab6 yf.bits6 (fun HT_ HW_ => ?_)
     generalize wr.drew = w13 at HO_3 HB hxqd_0 hxqe_0 hHeld ⊢
     refine pA 0 (some 14) HT_ ?_
     refine pA 1 (some 15) HT_ ?_
     refine pA 2 (some 16) HT_ ?_
     refine pA 3 (some 17) HT_ ?_
     refine pA 4 (some 18) HT_ ?_
     refine pA 5 (some 19) HT_ ?_
     refine pA 6 (some 20) HT_ ?_
     refine pA 7 (some 21) HT_ ?_
     refine pA 9 (some 23) HT_ ?_
     refine pA 10 (some 24) HT_ ?_
     refine pA 11 (some 25) HT_ ?_
     refine tA2 8 (some 22) HT_ HW_ hHeld ?_
     refine tA2 12 (some 26) HT_ HW_ hHeld ?_
     refine pA 13 (some 27) HT_ ?_
     refine pA 14 (some 28) HT_ ?_
     refine ybs (yaZ HT_.out (by kernel_rfl)) ?_
     try go_wp2
     replace HO_3 := aQ (Kd.R_drew HO_3.out); replace HB := aQ (yK HB.out)
     have pqf : 0 ≤ (x5_2 : Int) := of_decide_eq_true as_
     have qqf : x5_2 < (x3_1.length : Int) := of_decide_eq_true as_
     obtain ⟨adqf, eqf, hxqf_0⟩ := Kd.at_int (Kd.R_reads' HO_3.out).2.2 x5_2 pqf qqf
     obtain rfl : adqd = adqf := (by injection eqf)
     replace pqf := eq_true pqf
     replace qqf := eq_true qqf
     have pqg : 0 ≤ (x4_1 : Int) := of_decide_eq_true as_
     have qqg : x4_1 < (l0.length : Int) := of_decide_eq_true as_
     obtain ⟨adqg, eqg, hxqg_0⟩ := Kd.at_int HR0.out x4_1 pqg qqg
     have hwqg_0 := hxqg_0
     obtain rfl : adqe = adqg := (by injection eqg)
     replace hxqg_0 := (HB.out.cell (World.block_lt_of_cell? w _ hxqg_0)).trans hxqg_0
     replace pqg := eq_true pqg
     replace qqg := eq_true qqg
     refine ya0 (n := 15) (S := fun w' => w'.cell? (adqd.add (x5_2).toNat) = some (.int .i64 (rd x3_1 x5_2)) ∧ w'.cell? (adqe.add (x4_1).toNat) = some (.int .i64 (rd l0 x4_1))) (ds := []) _ (by kernel_rfl) rfl rfl ⟨hxqf_0, ((HB.out.cell (World.block_lt_of_cell? w _ hwqg_0)).trans hwqg_0)⟩ (fun hHeld => ?_); refine yaw yf.tab8 yf.bits8 (fun HT_ HW_ => ?_)
     generalize w13.drew = w15 at HO_3 HB hxqf_0 hxqg_0 hHeld ⊢
     refine pA 0 (some 31) HT_ ?_
     refine pA 1 (some 32) HT_ ?_
     refine pA 2 (some 33) HT_ ?_
     refine pA 3 (some 34) HT_ ?_
     refine pA 4 (some 35) HT_ ?_
     refine pA 5 (some 36) HT_ ?_
     refine pA 6 (some 37) HT_ ?_
     refine pA 7 (some 38) HT_ ?_
     refine pA 9 (some 40) HT_ ?_
     refine pA 10 (some 41) HT_ ?_
     refine pA 11 (some 42) HT_ ?_
     refine tA2 8 (some 39) HT_ HW_ hHeld ?_
     refine tA2 12 (some 43) HT_ HW_ hHeld ?_
     refine pA 13 (some 44) HT_ ?_
     refine pA 14 (some 45) HT_ ?_
     refine ybs (yaZ HT_.out (by kernel_rfl)) ?_
     try go_wp2
     go_roundg k2
     case measure => have := HK1.out; have := HK2.out; omega
     case rel => exact ⟨(x3_1), (wrap64 (x4_1 + 1)), rs_, H', ⟨by have := HK1.out; have := HK2.out; omega⟩, ⟨pR HO_3.out⟩, ⟨pB HB.out⟩⟩
    ·rw [if_neg c12] at H
     have c12b0 : ((rd x3_1 x5_2) == (rd l0 x4_1)) = false := beq_eq_false_iff_ne.mpr c12
     have c12b1 : ((rd x3_1 x5_2) != (rd l0 x4_1)) = true := bne_iff_ne.mpr c12
     obtain ⟨yq0, hyq0⟩ : ∃ y_ : List Int, y_ = (([] : List Int)) := ⟨_, rfl⟩
     replace H : (if x5_2 ≤ (x3_1.length : Int) then ((some (x3_1.drop (x5_2 : Int).toNat : List Int)).bind fun yq1 => (if yq0.length + yq1.length < 17592186044416 then ((some (yq0 ++ yq1 : List Int)).bind fun yq2 => ((some (x3_1.take (x5_2 : Int).toNat : List Int)).bind fun yq3 => (if yq3.length < 17592186044416 then ((some (yq3 ++ [rd l0 x4_1] : List Int)).bind fun yq4 => (if yq4.length + yq2.length < 17592186044416 then (yf.l0 k2 l0 (yq4 ++ yq2) (wrap64 (x4_1 + 1))) else (none))) else (none)))) else (none))) else (none)) = some r := by first | (rw [hyq0]; with_reducible exact H) | (rw [hyq0]; exact H)
     have Nyq0 := aQ hyq0
     clear hyq0
     have c16b0 := eq_true (of_decide_eq_true as_ : 0 ≤ x5_2)
     replace H := gd H; obtain ⟨c17, H⟩ := H
     have c17b0 := eq_true c17
     have c17b1 := decide_eq_true c17
     clear c17
     obtain ⟨yq1, hyq1⟩ : ∃ y_ : List Int, y_ = (x3_1.drop (x5_2 : Int).toNat) := ⟨_, rfl⟩
     replace H : (if yq0.length + yq1.length < 17592186044416 then ((some (yq0 ++ yq1 : List Int)).bind fun yq2 => ((some (x3_1.take (x5_2 : Int).toNat : List Int)).bind fun yq3 => (if yq3.length < 17592186044416 then ((some (yq3 ++ [rd l0 x4_1] : List Int)).bind fun yq4 => (if yq4.length + yq2.length < 17592186044416 then (yf.l0 k2 l0 (yq4 ++ yq2) (wrap64 (x4_1 + 1))) else (none))) else (none)))) else (none)) = some r := by first | (rw [hyq1]; with_reducible exact H) | (rw [hyq1]; exact H)
     have Nyq1 := aQ hyq1
     clear hyq1
     replace H := gd H; obtain ⟨c18, H⟩ := H
     have LMc18 := aQ c18
     clear c18
     obtain ⟨yq2, hyq2⟩ : ∃ y_ : List Int, y_ = (yq0 ++ yq1) := ⟨_, rfl⟩
     replace H : ((some (x3_1.take (x5_2 : Int).toNat : List Int)).bind fun yq3 => (if yq3.length < 17592186044416 then ((some (yq3 ++ [rd l0 x4_1] : List Int)).bind fun yq4 => (if yq4.length + yq2.length < 17592186044416 then (yf.l0 k2 l0 (yq4 ++ yq2) (wrap64 (x4_1 + 1))) else (none))) else (none))) = some r := by first | (rw [hyq2]; with_reducible exact H) | (rw [hyq2]; exact H)
     have Nyq2 := aQ hyq2
     clear hyq2
     have c19b0 := eq_true (of_decide_eq_true as_ : x5_2 ≤ (x3_1.length : Int))
     obtain ⟨yq3, hyq3⟩ : ∃ y_ : List Int, y_ = (x3_1.take (x5_2 : Int).toNat) := ⟨_, rfl⟩
     replace H := yy hyq3 H
     (try dsimp only at H)
     have Nyq3 := aQ hyq3
     clear hyq3
     replace H := gd H; obtain ⟨c20, H⟩ := H
     have LMc20 := aQ c20
     clear c20
     obtain ⟨yq4, hyq4⟩ : ∃ y_ : List Int, y_ = (yq3 ++ [rd l0 x4_1]) := ⟨_, rfl⟩
     replace H : (if yq4.length + yq2.length < 17592186044416 then (yf.l0 k2 l0 (yq4 ++ yq2) (wrap64 (x4_1 + 1))) else (none)) = some r := by first | (rw [hyq4]; with_reducible exact H) | (rw [hyq4]; exact H)
     have Nyq4 := aQ hyq4
     clear hyq4
     replace H := gd H; obtain ⟨c21, H⟩ := H
     have LMc21 := aQ c21
     clear c21
     obtain ⟨yqh, hyqh⟩ : ∃ y_ : List Int, y_ = (yq4 ++ yq2) := ⟨_, rfl⟩
     replace H : (yf.l0 k2 l0 yqh (wrap64 (x4_1 + 1))) = some r := by first | (rw [hyqh]; with_reducible exact H) | (rw [hyqh]; exact H)
     have Nyqh := aQ hyqh
     clear hyqh
     have H' := aQ H
     clear H
     try go_wp2
     replace HO_3 := aQ (Kd.R_drew HO_3.out); replace HB := aQ (yK HB.out)
     obtain ⟨Ao23, co23, eo23⟩ := Kd.R_slice HO_3.out
     (first | subst eo23 | (injection eo23 with f1_ f2_ f3_; have f4_ := f1_.symm; have f5_ := f3_.symm; clear f1_ f2_ f3_; subst f4_; subst f5_))
     have pqd : 0 ≤ (x5_2 : Int) := of_decide_eq_true as_
     have qqd : x5_2 < (x3_1.length : Int) := of_decide_eq_true as_
     obtain ⟨adqd, eqd, hxqd_0⟩ := Kd.at_int (Kd.R_reads' HO_3.out).2.2 x5_2 pqd qqd
     cases eqd
     replace pqd := eq_true pqd
     replace qqd := eq_true qqd
     have pqe : 0 ≤ (x4_1 : Int) := of_decide_eq_true as_
     have qqe : x4_1 < (l0.length : Int) := of_decide_eq_true as_
     obtain ⟨adqe, eqe, hxqe_0⟩ := Kd.at_int HR0.out x4_1 pqe qqe
     have hwqe_0 := hxqe_0
     cases eqe
     replace hxqe_0 := (HB.out.cell (World.block_lt_of_cell? w _ hxqe_0)).trans hxqe_0
     replace pqe := eq_true pqe
     replace qqe := eq_true qqe
     refine ya0 (n := 15) (S := fun w' => w'.cell? (adqd.add (x5_2).toNat) = some (.int .i64 (rd x3_1 x5_2)) ∧ w'.cell? (adqe.add (x4_1).toNat) = some (.int .i64 (rd l0 x4_1))) (ds := []) _ (by kernel_rfl) rfl rfl ⟨hxqd_0, ((HB.out.cell (World.block_lt_of_cell? w _ hwqe_0)).trans hwqe_0)⟩ (fun hHeld => ?_); refine yaw yf.tab6 yf.bits6 (fun HT_ HW_ => ?_)
     generalize wr.drew = w22 at HO_3 HB hxqd_0 hxqe_0 hHeld ⊢
     refine pA 0 (some 14) HT_ ?_
     refine pA 1 (some 15) HT_ ?_
     refine pA 2 (some 16) HT_ ?_
     refine pA 3 (some 17) HT_ ?_
     refine pA 4 (some 18) HT_ ?_
     refine pA 5 (some 19) HT_ ?_
     refine pA 6 (some 20) HT_ ?_
     refine pA 7 (some 21) HT_ ?_
     refine pA 9 (some 23) HT_ ?_
     refine pA 10 (some 24) HT_ ?_
     refine pA 11 (some 25) HT_ ?_
     refine tA2 8 (some 22) HT_ HW_ hHeld ?_
     refine tA2 12 (some 26) HT_ HW_ hHeld ?_
     refine pA 13 (some 27) HT_ ?_
     refine pA 14 (some 28) HT_ ?_
     refine ybs (yaZ HT_.out (by kernel_rfl)) ?_
     try go_wp2
     replace HO_3 := aQ (Kd.R_drew HO_3.out); replace HB := aQ (yK HB.out)
     have pqf : 0 ≤ (x5_2 : Int) := of_decide_eq_true as_
     have qqf : x5_2 < (x3_1.length : Int) := of_decide_eq_true as_
     obtain ⟨adqf, eqf, hxqf_0⟩ := Kd.at_int (Kd.R_reads' HO_3.out).2.2 x5_2 pqf qqf
     obtain rfl : adqd = adqf := (by injection eqf)
     replace pqf := eq_true pqf
     replace qqf := eq_true qqf
     have pqg : 0 ≤ (x4_1 : Int) := of_decide_eq_true as_
     have qqg : x4_1 < (l0.length : Int) := of_decide_eq_true as_
     obtain ⟨adqg, eqg, hxqg_0⟩ := Kd.at_int HR0.out x4_1 pqg qqg
     have hwqg_0 := hxqg_0
     obtain rfl : adqe = adqg := (by injection eqg)
     replace hxqg_0 := (HB.out.cell (World.block_lt_of_cell? w _ hxqg_0)).trans hxqg_0
     replace pqg := eq_true pqg
     replace qqg := eq_true qqg
     refine ya0 (n := 15) (S := fun w' => w'.cell? (adqd.add (x5_2).toNat) = some (.int .i64 (rd x3_1 x5_2)) ∧ w'.cell? (adqe.add (x4_1).toNat) = some (.int .i64 (rd l0 x4_1))) (ds := []) _ (by kernel_rfl) rfl rfl ⟨hxqf_0, ((HB.out.cell (World.block_lt_of_cell? w _ hwqg_0)).trans hwqg_0)⟩ (fun hHeld => ?_); refine yaw yf.tab8 yf.bits8 (fun HT_ HW_ => ?_)
     generalize w22.drew = w24 at HO_3 HB hxqf_0 hxqg_0 hHeld ⊢
     refine pA 0 (some 31) HT_ ?_
     refine pA 1 (some 32) HT_ ?_
     refine pA 2 (some 33) HT_ ?_
     refine pA 3 (some 34) HT_ ?_
     refine pA 4 (some 35) HT_ ?_
     refine pA 5 (some 36) HT_ ?_
     refine pA 6 (some 37) HT_ ?_
     refine pA 7 (some 38) HT_ ?_
     refine pA 9 (some 40) HT_ ?_
     refine pA 10 (some 41) HT_ ?_
     refine pA 11 (some 42) HT_ ?_
     refine tA2 8 (some 39) HT_ HW_ hHeld ?_
     refine tA2 12 (some 43) HT_ HW_ hHeld ?_
     refine pA 13 (some 44) HT_ ?_
     refine pA 14 (some 45) HT_ ?_
     refine ybs (yaZ HT_.out (by kernel_rfl)) ?_
     try go_wp2_with (first | ((with_reducible refine yb (N := 46) rfl ?_); refine Kd.R_lit (Kd.int .i64) _ 3 ?hg (N := 46) ?hd (xs := ([] : List Int)) (inner := []) (ok := fun _ => True) (okp := fun _ => True) ?hr ?hp (fun _ hk => hk) trivial (Below.refl _ _) (Nat.le_refl _) (by simp) ?_; (case hd => rfl); (case hg => rfl); (case hr => first | (go_simp; done) | (go_simp; rfl)); (case hp => exact (Reps.none _ _)); intro vqi w25 ho26 hb hg_ hnew_; clear hg_ hnew_; (first | rw [← Nyq0.out] at ho26 | (simp only [Int.reduceToNat] at ho26; rw [← Nyq0.out] at ho26)); have HOqj := aQ (Kd.R_lower (Kd.R_new' ho26 (Kd.R_lt (pR HO_3.out))) (yc (pB HB.out))); replace HO_3 := aQ (Kd.R_elder' (pR HO_3.out) (Kd.R_base ho26) hb); replace HB := bs HB hb; clear hb ho26; have q27 : (x5_2 : Int) ≤ ((x3_1.length : Int) : Int) := of_decide_eq_true as_; obtain ⟨i027, hi027, _, hsz27, _⟩ := info_parts yaU; have hroom27 : x3_1.length ≤ co23 := (Kd.R_reads' HO_3.out).2.1; have hC27 : Kd.C (Kd.int .i64) _ (some adqd) x3_1.length x3_1 := (Kd.R_reads' HO_3.out).2.2; have q027 : (0 : Int) ≤ (x5_2 : Int) := of_decide_eq_true as_; have hcut27 := ydA (P := Try.prog) 22 3 .i64 Try.underlying22 hi027 1 hsz27 (some adqd) x3_1.length co23 x5_2 q027 q27; have hr27 := Kd.C_drop (m := (x5_2 : Int).toNat) (c := co23) hC27 (by omega) hroom27; obtain ⟨A27, hA27⟩ : ∃ A1, A1 = (if co23 = (x5_2 : Int).toNat then (some adqd) else ((some adqd) : Option Addr).map (·.add ((x5_2 : Int).toNat * 1))) := ⟨_, rfl⟩; obtain ⟨c27, hc27⟩ : ∃ c1, c1 = co23 - (x5_2 : Int).toNat := ⟨_, rfl⟩; have hy27 : yq1.length = x3_1.length - (x5_2 : Int).toNat := (by rw [Nyq1.out, List.length_drop] <;> omega); rw [show (x3_1).drop (x5_2 : Int).toNat = yq1 from Nyq1.out.symm] at hr27; replace hr27 : Kd.C (Kd.int .i64) _ A27 yq1.length yq1 := (by rw [hA27]; exact hr27); rw [← hy27, ← hA27, ← hc27] at hcut27; have HRqk := aQ hr27; have HCqk := aQ (show yq1.length ≤ c27 from by rw [hy27, hc27]; exact Nat.sub_le_sub_right hroom27 _); clear hr27 hC27 hroom27 hi027 hsz27 hc27; have KY27 := aQ hy27; have KA27 := aQ hA27; clear hy27 hA27; have KL27 := aQ (show (x5_2 : Int).toNat ≤ x3_1.length from by omega); replace q27 := eq_true q27) | ((with_reducible refine yO (b := .append) (xs := #[.tmp 46, .tmp 49]) rfl ?_); at_builtin; refine Kd.R_append_rows (Kd.int .i64) (w0 := w) w.heap.size rfl (.tmp 46) (.tmp 49) 22 3 (.int .i64 0) 8 rfl Try.underlying22 yaU rfl (by decide) (by omega) vqi yq0 yq1 _ _ _ (fun k_ => some k_ ≠ (.slice (some adqd) x3_1.length co23 : Value).ownBlock) (fun _ => False) rfl rfl ?aO ?aR (fun _ _ h => h) (fun _ h => h.elim) ?aF ?aB ?aS ?aL ?_; (case aR => exact pC ((by repeat (first | (with_reducible exact HRqk.out) | (with_reducible refine Kd.C_alloc ?_ _) | (with_reducible refine Kd.C_drewN ?_ _) | (with_reducible refine Kd.C_drew ?_) | exact HRqk.out)))); (case aB => exact (pB HB.out)); (case aF => exact (fun k_ hk => Kd.fresh' (Kd.R_lt (pR HO_3.out)) k_ hk)); (case aO => exact (by refine pRx ?_; exact Kd.R_mono HOqj.out (fun _ hk => hk.2))); (case aS => exact (yc (pB HB.out))); (case aL => have := LMc18.out; omega); intro vql w28 ho hb hg hat; rw [← Nyq2.out] at ho; replace HB := aQ (hb); replace HRqk := aQ ((show Kd.C (Kd.int .i64) w28 A27 yq1.length yq1 from by rw [Nyq1.out, KA27.out]; exact Kd.C_drop (m := (x5_2 : Int).toNat) (c := co23) ((Kd.R_reads' (Kd.R_after (ok := (fun _ => True)) (pR HO_3.out) hg hat)).2.2) KL27.out ((Kd.R_reads' (Kd.R_after (ok := (fun _ => True)) (pR HO_3.out) hg hat)).2.1))); replace HO_3 := aQ (Kd.R_after (ok := (fun _ => True)) (pR HO_3.out) hg hat); have HOqm := aQ (ho); clear HOqj; clear ho hb hg hat))
     replace HO_3 := aQ (Kd.R_drew HO_3.out); replace HOqm := aQ (Kd.R_drew HOqm.out); replace HRqk := aQ (Kd.C_drew HRqk.out); replace HB := aQ (yK HB.out)
     have q30 : (x5_2 : Int) ≤ ((x3_1.length : Int) : Int) := of_decide_eq_true as_
     obtain ⟨i030, hi030, _, hsz30, _⟩ := info_parts yaU
     have hcut30 := yfe (P := Try.prog) 22 3 .i64 Try.underlying22 hi030 (some adqd) x3_1.length co23 x5_2 (of_decide_eq_true as_) q30 (Kd.R_reads' HO_3.out).2.1
     have hr30 := Kd.R_take (m := (x5_2 : Int).toNat) HO_3.out (by omega)
     have hy30 : yq3.length = (x5_2 : Int).toNat := (by rw [Nyq3.out, List.length_take]; omega)
     rw [← Nyq3.out] at hr30
     rw [← hy30] at hr30 hcut30
     clear hy30 hi030 hsz30 HO_3
     have HOqn := aQ hr30
     clear hr30
     replace q30 := eq_true q30
     have pqo : 0 ≤ (x4_1 : Int) := of_decide_eq_true as_
     have qqo : x4_1 < (l0.length : Int) := of_decide_eq_true as_
     obtain ⟨adqo, eqo, hxqo_0⟩ := Kd.at_int HR0.out x4_1 pqo qqo
     have hwqo_0 := hxqo_0
     obtain rfl : adqe = adqo := (by injection eqo)
     replace hxqo_0 := (HB.out.cell (World.block_lt_of_cell? w _ hxqo_0)).trans hxqo_0
     replace pqo := eq_true pqo
     replace qqo := eq_true qqo
     refine ya0 (n := 12) (S := fun w' => w'.cell? (adqe.add (x4_1).toNat) = some (.int .i64 (rd l0 x4_1))) (ds := []) _ (by kernel_rfl) rfl rfl (((HB.out.cell (World.block_lt_of_cell? w _ hwqo_0)).trans hwqo_0)) (fun hHeld => ?_); refine yaw yf.tab10 yf.bits10 (fun HT_ HW_ => ?_)
     generalize w28.drew = w29 at HO_3 HOqm HRqk HB HOqn hxqo_0 hHeld ⊢
     refine pA 0 (some 51) HT_ ?_
     refine pA 1 (some 52) HT_ ?_
     refine pA 2 (some 53) HT_ ?_
     refine pA 3 (some 54) HT_ ?_
     refine pA 4 (some 55) HT_ ?_
     refine pA 5 (some 56) HT_ ?_
     refine pA 9 (some 60) HT_ ?_
     refine tA1 6 (some 57) HT_ HW_ hHeld ?_
     refine onA (i := 7) (N := some 58) HT_ (h := fun K hK => ?_)
     refine ygk (w1 := ?_) (v := ?_) (by rfl) rfl ?_ ?_
     rotate_left 2
     ·go_simp
      constructor
      ·rfl
      ·rfl
     refine hK.out _ _ ((World.cell?_alloc_lt _ _ _ (World.block_lt_of_cell? _ _ (((HB.out.cell (World.block_lt_of_cell? w _ hwqo_0)).trans hwqo_0)))).trans (((HB.out.cell (World.block_lt_of_cell? w _ hwqo_0)).trans hwqo_0))) (fun hHeld => ?_)
     clear hK K
     refine noN (some 58) (h := ?_)
     refine onA (i := 8) (N := some 59) HT_ (h := fun K hK => ?_)
     refine Kd.R_append_step (Kd.int .i64) (w0 := w) w.heap.size (by rfl) (.tmp 53) (.tmp 58) 22 3 (.int .i64 0) 8 rfl Try.underlying22 yaU rfl (by decide) (by omega) (.slice (some adqd) yq3.length co23) yq3 (rd l0 x4_1) [.int .i64 (rd l0 x4_1)] (fun k_ => some k_ ≠ (vql : Value).ownBlock) (fun _ => False) rfl rfl ?aP (fun _ hk => hk.elim) ?aF ?aO ?aB ?aS ?aL ?_
     (case aP => exact rfl)
     (case aB => exact (pB HB.out))
     (case aF => exact (fun k_ hk => Kd.fresh' (Kd.R_lt (pR HOqm.out)) k_ hk))
     (case aO => exact (by refine pRx ?_; exact Kd.R_mono HOqn.out (fun _ hk => hk.2)))
     (case aS => exact (yc (pB HB.out)))
     (case aL => have := LMc20.out; omega)
     intro vqp w31 ho hb hg hat
     rw [← Nyq4.out] at ho
     replace HOqm := aQ (Kd.R_after (ok := (fun _ => True)) (by refine pRx ?_; exact Kd.R_mono HOqm.out (fun _ hk => ⟨trivial, by first | exact hk | exact fun h_ => hk (h_.trans (ygl _ _ _ _))⟩)) hg hat); replace HB := aQ (hb); have HOqq := aQ (ho); clear HOqn
     clear ho hb hg hat
     obtain ⟨Ao33, co33, eo33⟩ := Kd.R_slice HOqm.out
     (first | subst eo33 | (injection eo33 with f1_ f2_ f3_; have f4_ := f1_.symm; have f5_ := f3_.symm; clear f1_ f2_ f3_; subst f4_; subst f5_))
     refine hK.out _ _ (((HB.out.cell (World.block_lt_of_cell? w _ hwqo_0)).trans hwqo_0)) (fun hHeld => ?_)
     clear hK K
     refine noN (some 59) (h := ?_)
     refine onA (i := 10) (N := some 61) HT_ (h := fun K hK => ?_)
     refine Kd.R_append_rows_step (Kd.int .i64) (w0 := w) w.heap.size (by rfl) (.tmp 59) (.tmp 60) 22 3 (.int .i64 0) 8 rfl Try.underlying22 yaU rfl (by decide) (by omega) vqp yq4 yq2 _ _ _ (fun k_ => some k_ ≠ (.slice Ao33 yq2.length co33 : Value).ownBlock) (fun _ => False) rfl rfl ?aO ?aR (fun _ _ h => h) (fun _ h => h.elim) ?aF ?aB ?aS ?aL ?_
     (case aR => exact pC ((Kd.R_reads' HOqm.out).2.2))
     (case aB => exact (pB HB.out))
     (case aF => exact (fun k_ hk => Kd.fresh' (Kd.R_lt (pR HOqm.out)) k_ hk))
     (case aO => exact (pR HOqq.out))
     (case aS => exact (yc (pB HB.out)))
     (case aL => have := LMc21.out; omega)
     intro vqr w32 ho hb hg hat
     rw [← Nyqh.out] at ho
     replace HOqm := aQ (Kd.R_after (ok := (fun _ => True)) (pR HOqm.out) hg hat); replace HB := aQ (hb); have HOqs := aQ (ho); clear HOqq
     clear ho hb hg hat
     refine hK.out _ _ (((HB.out.cell (World.block_lt_of_cell? w _ hwqo_0)).trans hwqo_0)) (fun hHeld => ?_)
     clear hK K
     refine noN (some 61) (h := ?_)
     refine pA 11 (some 3) HT_ ?_
     refine ybs (yaZ HT_.out (by kernel_rfl)) ?_
     try go_wp2
     go_roundg k2
     case measure => have := HK1.out; have := HK2.out; omega
     case rel => exact ⟨(yqh), (wrap64 (x4_1 + 1)), rs_, H', ⟨by have := HK1.out; have := HK2.out; omega⟩, ⟨by refine pRx ?_; exact Kd.R_mono HOqs.out (fun _ hk => trivial)⟩, ⟨pB HB.out⟩⟩
  ·rw [if_neg c5] at H
   have c5b0 := decide_eq_false c5
   clear c5
   obtain ⟨yq5, hyq5⟩ : ∃ y_ : List Int, y_ = (([] : List Int)) := ⟨_, rfl⟩
   replace H : (if 0 ≤ x5_2 then (if x5_2 ≤ (x3_1.length : Int) then ((some (x3_1.drop (x5_2 : Int).toNat : List Int)).bind fun yq6 => (if yq5.length + yq6.length < 17592186044416 then ((some (yq5 ++ yq6 : List Int)).bind fun yq7 => ((some (x3_1.take (x5_2 : Int).toNat : List Int)).bind fun yq8 => (if 0 ≤ x4_1 then (if x4_1 < (l0.length : Int) then (if yq8.length < 17592186044416 then ((some (yq8 ++ [rd l0 x4_1] : List Int)).bind fun yq9 => (if yq9.length + yq7.length < 17592186044416 then (yf.l0 k2 l0 (yq9 ++ yq7) (wrap64 (x4_1 + 1))) else (none))) else (none)) else (none)) else (none)))) else (none))) else (none)) else (none)) = some r := by first | (rw [hyq5]; with_reducible exact H) | (rw [hyq5]; exact H)
   have Nyq5 := aQ hyq5
   clear hyq5
   replace H := gd H; obtain ⟨c34, H⟩ := H
   have c34b0 := eq_true c34
   have c34b1 := decide_eq_true c34
   clear c34
   replace H := gd H; obtain ⟨c35, H⟩ := H
   have c35b0 := eq_true c35
   have c35b1 := decide_eq_true c35
   clear c35
   obtain ⟨yq6, hyq6⟩ : ∃ y_ : List Int, y_ = (x3_1.drop (x5_2 : Int).toNat) := ⟨_, rfl⟩
   replace H : (if yq5.length + yq6.length < 17592186044416 then ((some (yq5 ++ yq6 : List Int)).bind fun yq7 => ((some (x3_1.take (x5_2 : Int).toNat : List Int)).bind fun yq8 => (if 0 ≤ x4_1 then (if x4_1 < (l0.length : Int) then (if yq8.length < 17592186044416 then ((some (yq8 ++ [rd l0 x4_1] : List Int)).bind fun yq9 => (if yq9.length + yq7.length < 17592186044416 then (yf.l0 k2 l0 (yq9 ++ yq7) (wrap64 (x4_1 + 1))) else (none))) else (none)) else (none)) else (none)))) else (none)) = some r := by first | (rw [hyq6]; with_reducible exact H) | (rw [hyq6]; exact H)
   have Nyq6 := aQ hyq6
   clear hyq6
   replace H := gd H; obtain ⟨c36, H⟩ := H
   have LMc36 := aQ c36
   clear c36
   obtain ⟨yq7, hyq7⟩ : ∃ y_ : List Int, y_ = (yq5 ++ yq6) := ⟨_, rfl⟩
   replace H : ((some (x3_1.take (x5_2 : Int).toNat : List Int)).bind fun yq8 => (if 0 ≤ x4_1 then (if x4_1 < (l0.length : Int) then (if yq8.length < 17592186044416 then ((some (yq8 ++ [rd l0 x4_1] : List Int)).bind fun yq9 => (if yq9.length + yq7.length < 17592186044416 then (yf.l0 k2 l0 (yq9 ++ yq7) (wrap64 (x4_1 + 1))) else (none))) else (none)) else (none)) else (none))) = some r := by first | (rw [hyq7]; with_reducible exact H) | (rw [hyq7]; exact H)
   have Nyq7 := aQ hyq7
   clear hyq7
   have c37b0 := eq_true (of_decide_eq_true as_ : x5_2 ≤ (x3_1.length : Int))
   obtain ⟨yq8, hyq8⟩ : ∃ y_ : List Int, y_ = (x3_1.take (x5_2 : Int).toNat) := ⟨_, rfl⟩
   replace H := yy hyq8 H
   (try dsimp only at H)
   have Nyq8 := aQ hyq8
   clear hyq8
   replace H := gd H; obtain ⟨c38, H⟩ := H
   have c38b0 := decide_eq_true c38
   clear c38
   replace H := gd H; obtain ⟨c39, H⟩ := H
   have c39b0 := decide_eq_true c39
   clear c39
   replace H := gd H; obtain ⟨c40, H⟩ := H
   have LMc40 := aQ c40
   clear c40
   obtain ⟨yq9, hyq9⟩ : ∃ y_ : List Int, y_ = (yq8 ++ [rd l0 x4_1]) := ⟨_, rfl⟩
   replace H : (if yq9.length + yq7.length < 17592186044416 then (yf.l0 k2 l0 (yq9 ++ yq7) (wrap64 (x4_1 + 1))) else (none)) = some r := by first | (rw [hyq9]; with_reducible exact H) | (rw [hyq9]; exact H)
   have Nyq9 := aQ hyq9
   clear hyq9
   replace H := gd H; obtain ⟨c41, H⟩ := H
   have LMc41 := aQ c41
   clear c41
   obtain ⟨yqt, hyqt⟩ : ∃ y_ : List Int, y_ = (yq9 ++ yq7) := ⟨_, rfl⟩
   replace H : (yf.l0 k2 l0 yqt (wrap64 (x4_1 + 1))) = some r := by first | (rw [hyqt]; with_reducible exact H) | (rw [hyqt]; exact H)
   have Nyqt := aQ hyqt
   clear hyqt
   have H' := aQ H
   clear H
   try go_wp2
   replace HO_3 := aQ (Kd.R_drew HO_3.out); replace HB := aQ (yK HB.out)
   obtain ⟨Ao43, co43, eo43⟩ := Kd.R_slice HO_3.out
   (first | subst eo43 | (injection eo43 with f1_ f2_ f3_; have f4_ := f1_.symm; have f5_ := f3_.symm; clear f1_ f2_ f3_; subst f4_; subst f5_))
   refine ya0 (n := 15) (S := fun w' => True) (ds := []) _ (by kernel_rfl) rfl rfl trivial (fun hHeld => ?_); refine yaw yf.tab6 yf.bits6 (fun HT_ HW_ => ?_)
   generalize wr.drew = w42 at HO_3 HB hHeld ⊢
   refine pA 0 (some 14) HT_ ?_
   refine pA 1 (some 15) HT_ ?_
   refine pA 2 (some 16) HT_ ?_
   refine pA 3 (some 17) HT_ ?_
   refine pA 4 (some 18) HT_ ?_
   refine pU 5 (some 19) HT_ ?_
   refine pU 6 (some 20) HT_ ?_
   refine pU 7 (some 21) HT_ ?_
   refine pU 8 (some 22) HT_ ?_
   refine pU 9 (some 23) HT_ ?_
   refine pU 10 (some 24) HT_ ?_
   refine pU 11 (some 25) HT_ ?_
   refine pU 12 (some 26) HT_ ?_
   refine pU 13 (some 27) HT_ ?_
   refine pA 14 (some 28) HT_ ?_
   refine ybs (yaZ HT_.out (by kernel_rfl)) ?_
   try go_wp2
   replace HO_3 := aQ (Kd.R_drew HO_3.out); replace HB := aQ (yK HB.out)
   refine ya0 (n := 15) (S := fun w' => True) (ds := []) _ (by kernel_rfl) rfl rfl trivial (fun hHeld => ?_); refine yaw yf.tab8 yf.bits8 (fun HT_ HW_ => ?_)
   generalize w42.drew = w44 at HO_3 HB hHeld ⊢
   refine pA 0 (some 31) HT_ ?_
   refine pA 1 (some 32) HT_ ?_
   refine pA 2 (some 33) HT_ ?_
   refine pA 3 (some 34) HT_ ?_
   refine pA 4 (some 35) HT_ ?_
   refine pU 5 (some 36) HT_ ?_
   refine pU 6 (some 37) HT_ ?_
   refine pU 7 (some 38) HT_ ?_
   refine pU 8 (some 39) HT_ ?_
   refine pU 9 (some 40) HT_ ?_
   refine pU 10 (some 41) HT_ ?_
   refine pU 11 (some 42) HT_ ?_
   refine pU 12 (some 43) HT_ ?_
   refine pU 13 (some 44) HT_ ?_
   refine pA 14 (some 45) HT_ ?_
   refine ybs (yaZ HT_.out (by kernel_rfl)) ?_
   try go_wp2_with (first | ((with_reducible refine yb (N := 46) rfl ?_); refine Kd.R_lit (Kd.int .i64) _ 3 ?hg (N := 46) ?hd (xs := ([] : List Int)) (inner := []) (ok := fun _ => True) (okp := fun _ => True) ?hr ?hp (fun _ hk => hk) trivial (Below.refl _ _) (Nat.le_refl _) (by simp) ?_; (case hd => rfl); (case hg => rfl); (case hr => first | (go_simp; done) | (go_simp; rfl)); (case hp => exact (Reps.none _ _)); intro vqu w45 ho46 hb hg_ hnew_; clear hg_ hnew_; (first | rw [← Nyq5.out] at ho46 | (simp only [Int.reduceToNat] at ho46; rw [← Nyq5.out] at ho46)); have HOqv := aQ (Kd.R_lower (Kd.R_new' ho46 (Kd.R_lt (pR HO_3.out))) (yc (pB HB.out))); replace HO_3 := aQ (Kd.R_elder' (pR HO_3.out) (Kd.R_base ho46) hb); replace HB := bs HB hb; clear hb ho46; have q47 : (x5_2 : Int) ≤ ((x3_1.length : Int) : Int) := of_decide_eq_true as_; obtain ⟨i047, hi047, _, hsz47, _⟩ := info_parts yaU; have hroom47 : x3_1.length ≤ co43 := (Kd.R_reads' HO_3.out).2.1; have hC47 : Kd.C (Kd.int .i64) _ Ao43 x3_1.length x3_1 := (Kd.R_reads' HO_3.out).2.2; have q047 : (0 : Int) ≤ (x5_2 : Int) := of_decide_eq_true as_; have hcut47 := ydA (P := Try.prog) 22 3 .i64 Try.underlying22 hi047 1 hsz47 Ao43 x3_1.length co43 x5_2 q047 q47; have hr47 := Kd.C_drop (m := (x5_2 : Int).toNat) (c := co43) hC47 (by omega) hroom47; obtain ⟨A47, hA47⟩ : ∃ A1, A1 = (if co43 = (x5_2 : Int).toNat then Ao43 else (Ao43 : Option Addr).map (·.add ((x5_2 : Int).toNat * 1))) := ⟨_, rfl⟩; obtain ⟨c47, hc47⟩ : ∃ c1, c1 = co43 - (x5_2 : Int).toNat := ⟨_, rfl⟩; have hy47 : yq6.length = x3_1.length - (x5_2 : Int).toNat := (by rw [Nyq6.out, List.length_drop] <;> omega); rw [show (x3_1).drop (x5_2 : Int).toNat = yq6 from Nyq6.out.symm] at hr47; replace hr47 : Kd.C (Kd.int .i64) _ A47 yq6.length yq6 := (by rw [hA47]; exact hr47); rw [← hy47, ← hA47, ← hc47] at hcut47; have HRqw := aQ hr47; have HCqw := aQ (show yq6.length ≤ c47 from by rw [hy47, hc47]; exact Nat.sub_le_sub_right hroom47 _); clear hr47 hC47 hroom47 hi047 hsz47 hc47; have KY47 := aQ hy47; have KA47 := aQ hA47; clear hy47 hA47; have KL47 := aQ (show (x5_2 : Int).toNat ≤ x3_1.length from by omega); replace q47 := eq_true q47) | ((with_reducible refine yO (b := .append) (xs := #[.tmp 46, .tmp 49]) rfl ?_); at_builtin; refine Kd.R_append_rows (Kd.int .i64) (w0 := w) w.heap.size rfl (.tmp 46) (.tmp 49) 22 3 (.int .i64 0) 8 rfl Try.underlying22 yaU rfl (by decide) (by omega) vqu yq5 yq6 _ _ _ (fun k_ => some k_ ≠ (.slice Ao43 x3_1.length co43 : Value).ownBlock) (fun _ => False) rfl rfl ?aO ?aR (fun _ _ h => h) (fun _ h => h.elim) ?aF ?aB ?aS ?aL ?_; (case aR => exact pC ((by repeat (first | (with_reducible exact HRqw.out) | (with_reducible refine Kd.C_alloc ?_ _) | (with_reducible refine Kd.C_drewN ?_ _) | (with_reducible refine Kd.C_drew ?_) | exact HRqw.out)))); (case aB => exact (pB HB.out)); (case aF => exact (fun k_ hk => Kd.fresh' (Kd.R_lt (pR HO_3.out)) k_ hk)); (case aO => exact (by refine pRx ?_; exact Kd.R_mono HOqv.out (fun _ hk => hk.2))); (case aS => exact (yc (pB HB.out))); (case aL => have := LMc36.out; omega); intro vqx w48 ho hb hg hat; rw [← Nyq7.out] at ho; replace HB := aQ (hb); replace HRqw := aQ ((show Kd.C (Kd.int .i64) w48 A47 yq6.length yq6 from by rw [Nyq6.out, KA47.out]; exact Kd.C_drop (m := (x5_2 : Int).toNat) (c := co43) ((Kd.R_reads' (Kd.R_after (ok := (fun _ => True)) (pR HO_3.out) hg hat)).2.2) KL47.out ((Kd.R_reads' (Kd.R_after (ok := (fun _ => True)) (pR HO_3.out) hg hat)).2.1))); replace HO_3 := aQ (Kd.R_after (ok := (fun _ => True)) (pR HO_3.out) hg hat); have HOqy := aQ (ho); clear HOqv; clear ho hb hg hat))
   replace HO_3 := aQ (Kd.R_drew HO_3.out); replace HOqy := aQ (Kd.R_drew HOqy.out); replace HRqw := aQ (Kd.C_drew HRqw.out); replace HB := aQ (yK HB.out)
   have q50 : (x5_2 : Int) ≤ ((x3_1.length : Int) : Int) := of_decide_eq_true as_
   obtain ⟨i050, hi050, _, hsz50, _⟩ := info_parts yaU
   have hcut50 := yfe (P := Try.prog) 22 3 .i64 Try.underlying22 hi050 Ao43 x3_1.length co43 x5_2 (of_decide_eq_true as_) q50 (Kd.R_reads' HO_3.out).2.1
   have hr50 := Kd.R_take (m := (x5_2 : Int).toNat) HO_3.out (by omega)
   have hy50 : yq8.length = (x5_2 : Int).toNat := (by rw [Nyq8.out, List.length_take]; omega)
   rw [← Nyq8.out] at hr50
   rw [← hy50] at hr50 hcut50
   clear hy50 hi050 hsz50 HO_3
   have HOqz := aQ hr50
   clear hr50
   replace q50 := eq_true q50
   have pq10 : 0 ≤ (x4_1 : Int) := of_decide_eq_true as_
   have qq10 : x4_1 < (l0.length : Int) := of_decide_eq_true as_
   obtain ⟨adq10, eq10, hxq10_0⟩ := Kd.at_int HR0.out x4_1 pq10 qq10
   have hwq10_0 := hxq10_0
   cases eq10
   replace hxq10_0 := (HB.out.cell (World.block_lt_of_cell? w _ hxq10_0)).trans hxq10_0
   replace pq10 := eq_true pq10
   replace qq10 := eq_true qq10
   refine ya0 (n := 12) (S := fun w' => w'.cell? (adq10.add (x4_1).toNat) = some (.int .i64 (rd l0 x4_1))) (ds := []) _ (by kernel_rfl) rfl rfl (((HB.out.cell (World.block_lt_of_cell? w _ hwq10_0)).trans hwq10_0)) (fun hHeld => ?_); refine yaw yf.tab10 yf.bits10 (fun HT_ HW_ => ?_)
   generalize w48.drew = w49 at HO_3 HOqy HRqw HB HOqz hxq10_0 hHeld ⊢
   refine pA 0 (some 51) HT_ ?_
   refine pA 1 (some 52) HT_ ?_
   refine pA 2 (some 53) HT_ ?_
   refine pA 3 (some 54) HT_ ?_
   refine pA 4 (some 55) HT_ ?_
   refine pA 5 (some 56) HT_ ?_
   refine pA 9 (some 60) HT_ ?_
   refine tA1 6 (some 57) HT_ HW_ hHeld ?_
   refine onA (i := 7) (N := some 58) HT_ (h := fun K hK => ?_)
   refine ygk (w1 := ?_) (v := ?_) (by rfl) rfl ?_ ?_
   rotate_left 2
   ·go_simp
    constructor
    ·rfl
    ·rfl
   refine hK.out _ _ ((World.cell?_alloc_lt _ _ _ (World.block_lt_of_cell? _ _ (((HB.out.cell (World.block_lt_of_cell? w _ hwq10_0)).trans hwq10_0)))).trans (((HB.out.cell (World.block_lt_of_cell? w _ hwq10_0)).trans hwq10_0))) (fun hHeld => ?_)
   clear hK K
   refine noN (some 58) (h := ?_)
   refine onA (i := 8) (N := some 59) HT_ (h := fun K hK => ?_)
   refine Kd.R_append_step (Kd.int .i64) (w0 := w) w.heap.size (by rfl) (.tmp 53) (.tmp 58) 22 3 (.int .i64 0) 8 rfl Try.underlying22 yaU rfl (by decide) (by omega) (.slice Ao43 yq8.length co43) yq8 (rd l0 x4_1) [.int .i64 (rd l0 x4_1)] (fun k_ => some k_ ≠ (vqx : Value).ownBlock) (fun _ => False) rfl rfl ?aP (fun _ hk => hk.elim) ?aF ?aO ?aB ?aS ?aL ?_
   (case aP => exact rfl)
   (case aB => exact (pB HB.out))
   (case aF => exact (fun k_ hk => Kd.fresh' (Kd.R_lt (pR HOqy.out)) k_ hk))
   (case aO => exact (by refine pRx ?_; exact Kd.R_mono HOqz.out (fun _ hk => hk.2)))
   (case aS => exact (yc (pB HB.out)))
   (case aL => have := LMc40.out; omega)
   intro vq11 w51 ho hb hg hat
   rw [← Nyq9.out] at ho
   replace HOqy := aQ (Kd.R_after (ok := (fun _ => True)) (by refine pRx ?_; exact Kd.R_mono HOqy.out (fun _ hk => ⟨trivial, by first | exact hk | exact fun h_ => hk (h_.trans (ygl _ _ _ _))⟩)) hg hat); replace HB := aQ (hb); have HOq12 := aQ (ho); clear HOqz
   clear ho hb hg hat
   obtain ⟨Ao53, co53, eo53⟩ := Kd.R_slice HOqy.out
   (first | subst eo53 | (injection eo53 with f1_ f2_ f3_; have f4_ := f1_.symm; have f5_ := f3_.symm; clear f1_ f2_ f3_; subst f4_; subst f5_))
   refine hK.out _ _ (((HB.out.cell (World.block_lt_of_cell? w _ hwq10_0)).trans hwq10_0)) (fun hHeld => ?_)
   clear hK K
   refine noN (some 59) (h := ?_)
   refine onA (i := 10) (N := some 61) HT_ (h := fun K hK => ?_)
   refine Kd.R_append_rows_step (Kd.int .i64) (w0 := w) w.heap.size (by rfl) (.tmp 59) (.tmp 60) 22 3 (.int .i64 0) 8 rfl Try.underlying22 yaU rfl (by decide) (by omega) vq11 yq9 yq7 _ _ _ (fun k_ => some k_ ≠ (.slice Ao53 yq7.length co53 : Value).ownBlock) (fun _ => False) rfl rfl ?aO ?aR (fun _ _ h => h) (fun _ h => h.elim) ?aF ?aB ?aS ?aL ?_
   (case aR => exact pC ((Kd.R_reads' HOqy.out).2.2))
   (case aB => exact (pB HB.out))
   (case aF => exact (fun k_ hk => Kd.fresh' (Kd.R_lt (pR HOqy.out)) k_ hk))
   (case aO => exact (pR HOq12.out))
   (case aS => exact (yc (pB HB.out)))
   (case aL => have := LMc41.out; omega)
   intro vq13 w52 ho hb hg hat
   rw [← Nyqt.out] at ho
   replace HOqy := aQ (Kd.R_after (ok := (fun _ => True)) (pR HOqy.out) hg hat); replace HB := aQ (hb); have HOq14 := aQ (ho); clear HOq12
   clear ho hb hg hat
   refine hK.out _ _ (((HB.out.cell (World.block_lt_of_cell? w _ hwq10_0)).trans hwq10_0)) (fun hHeld => ?_)
   clear hK K
   refine noN (some 61) (h := ?_)
   refine pA 11 (some 3) HT_ ?_
   refine ybs (yaZ HT_.out (by kernel_rfl)) ?_
   try go_wp2
   go_roundg k2
   case measure => have := HK1.out; have := HK2.out; omega
   case rel => exact ⟨(yqt), (wrap64 (x4_1 + 1)), rs_, H', ⟨by have := HK1.out; have := HK2.out; omega⟩, ⟨by refine pRx ?_; exact Kd.R_mono HOq14.out (fun _ hk => trivial)⟩, ⟨pB HB.out⟩⟩
 ·rw [if_neg c4] at H
  have c4b0 := decide_eq_false c4
  clear c4
  obtain rfl := Option.some.inj H
  go_wp2
  go_ret
  exact ⟨_, by first | rfl | (simp [errW_none, yi] <;> rfl) | (simp [*, errW_none, yi] <;> rfl), by refine pRx ?_; exact HO_3.out, pB HB.out⟩
end Go.Proofs.Ytimkekeaeojpkaa.A
namespace Go.Proofs.Ytimkekeaeojpkaa.A
open Go.RowKit Go.Proofs.YtimkekeaeojpkaaW.PrintWords Go.Proofs.YtimkekeaeojpkaaW.PrintLast Go.Proofs.YtimkekeaeojpkaaW.PrintMore
attribute [local go_sem] ya8 yba ybm ybn yaY yaX ya6 ya9
set_option linter.unusedVariables false
set_option linter.unusedSimpArgs false
mutual
def yC.l0 : Nat → List Int → List Int → Int → Option (List Int)
 | 0, _, _, _ => none
 | k + 1, x0, x3, x4 => if x4 < (x0.length : Int) then (yC.l1 k x0 x3 x4 true 0) else ((yf.f k x3).bind fun tq0 => (some tq0))
def yC.l1 : Nat → List Int → List Int → Int → Bool → Int → Option (List Int)
 | 0, _, _, _, _, _ => none
 | k + 1, x0, x3, x4, x5, x6 => if x6 < (x0.length : Int) then (if x5 = true then (if 0 ≤ x6 then (if 0 ≤ x4 then (if x4 < (x0.length : Int) then (if (rd x0 x6) = (rd x0 x4) then (yC.l1 k x0 x3 x4 true (wrap64 (x6 + 1))) else (yC.l1 k x0 x3 x4 ((Go.bits .and .i64 (rd x0 x6) (rd x0 x4)) != (rd x0 x4)) (wrap64 (x6 + 1)))) else (none)) else (none)) else (none)) else (yC.l1 k x0 x3 x4 false (wrap64 (x6 + 1)))) else (if x5 = true then (if 0 ≤ x4 then (if x4 < (x0.length : Int) then (if x3.length < 17592186044416 then (yC.l0 k x0 (x3 ++ [rd x0 x4]) (wrap64 (x4 + 1))) else (none)) else (none)) else (none)) else (yC.l0 k x0 x3 (wrap64 (x4 + 1))))
end
def yC.f (k : Nat) (l0 : List Int) : Option (List Int) := (some (([] : List Int) : List Int)).bind fun yq1 => ((yP.f k 8 l0).bind fun tq2 => (if tq2 = true then (yC.l0 k l0 yq1 0) else (some yq1)))
theorem yC.calls (k : Nat) (A0 : Option Addr) (c0 : Nat) (l0 : List Int) (r : List Int) (w : World) (hr0 : Kd.C (Kd.int .i64) w A0 l0.length l0) (hc0 : l0.length ≤ c0) (h : yC.f k l0 = some r) :
  Calls Try.prog 108 #[.slice A0 l0.length c0] w fun e w' => ∃ v0_ : Value, e = .returned (v0_) ∧ Kd.R (Kd.int .i64) 3 w' w.heap.size (fun _ => True) v0_ r ∧ Below w.heap.size w w' := by
 have HR0 := aQ hr0
 have HC0 := aQ hc0
 clear hr0 hc0
 have HB := aQ (Below.refl w.heap.size w)
 have H := h
 clear h
 unfold yC.f at H
 (try dsimp only at H)
 obtain ⟨yq1, hyq1⟩ : ∃ y_ : List Int, y_ = (([] : List Int)) := ⟨_, rfl⟩
 replace H := yy hyq1 H
 (try dsimp only at H)
 have Nyq1 := aQ hyq1
 clear hyq1
 replace H := bo H; obtain ⟨tq2, A2, H⟩ := H
 (try dsimp only at H)
 by_cases c3 : tq2 = true
 ·subst c3
  rw [if_pos rfl] at H
  have H' := aQ H
  clear H
  go_enter Try.func108, Try.ntmps108
  go_wp2_with (first | ((with_reducible refine yb (N := 7) rfl ?_); refine Kd.R_lit (Kd.int .i64) _ 3 ?hg (N := 7) ?hd (xs := ([] : List Int)) (inner := []) (ok := fun _ => True) (okp := fun _ => True) ?hr ?hp (fun _ hk => hk) trivial (Below.refl _ _) (Nat.le_refl _) (by simp) ?_; (case hd => rfl); (case hg => rfl); (case hr => first | (go_simp; done) | (go_simp; rfl)); (case hp => exact (Reps.none _ _)); intro vq3 w4 ho5 hb hg_ hnew_; clear hg_ hnew_; (first | rw [← Nyq1.out] at ho5 | (simp only [Int.reduceToNat] at ho5; rw [← Nyq1.out] at ho5)); have HOq4 := aQ (Kd.R_lower ho5 (yc (pB HB.out))); replace HB := bs HB hb; clear hb ho5) | (go_at_call 110; (with_reducible refine (yP.calls k 8 _ _ l0 true _ ?side1 ?side2 A2.out).mono ?_); (case side1 => exact pC (Kd.C_below HR0.out HB.out)); (case side2 => exact HC0.out); rintro e w' ⟨rfl, ⟨nd, rfl⟩⟩; (try exact dq_)))
  repeat (go_quiet (first | ((with_reducible refine yb (N := 7) rfl ?_); refine Kd.R_lit (Kd.int .i64) _ 3 ?hg (N := 7) ?hd (xs := ([] : List Int)) (inner := []) (ok := fun _ => True) (okp := fun _ => True) ?hr ?hp (fun _ hk => hk) trivial (Below.refl _ _) (Nat.le_refl _) (by simp) ?_; (case hd => rfl); (case hg => rfl); (case hr => first | (go_simp; done) | (go_simp; rfl)); (case hp => exact (Reps.none _ _)); intro vq3 w4 ho5 hb hg_ hnew_; clear hg_ hnew_; (first | rw [← Nyq1.out] at ho5 | (simp only [Int.reduceToNat] at ho5; rw [← Nyq1.out] at ho5)); have HOq4 := aQ (Kd.R_lower ho5 (yc (pB HB.out))); replace HB := bs HB hb; clear hb ho5) | (go_at_call 110; (with_reducible refine (yP.calls k 8 _ _ l0 true _ ?side1 ?side2 A2.out).mono ?_); (case side1 => exact pC (Kd.C_below HR0.out HB.out)); (case side2 => exact HC0.out); rintro e w' ⟨rfl, ⟨nd, rfl⟩⟩; (try exact dq_))); try go_wp2_with (first | ((with_reducible refine yb (N := 7) rfl ?_); refine Kd.R_lit (Kd.int .i64) _ 3 ?hg (N := 7) ?hd (xs := ([] : List Int)) (inner := []) (ok := fun _ => True) (okp := fun _ => True) ?hr ?hp (fun _ hk => hk) trivial (Below.refl _ _) (Nat.le_refl _) (by simp) ?_; (case hd => rfl); (case hg => rfl); (case hr => first | (go_simp; done) | (go_simp; rfl)); (case hp => exact (Reps.none _ _)); intro vq3 w4 ho5 hb hg_ hnew_; clear hg_ hnew_; (first | rw [← Nyq1.out] at ho5 | (simp only [Int.reduceToNat] at ho5; rw [← Nyq1.out] at ho5)); have HOq4 := aQ (Kd.R_lower ho5 (yc (pB HB.out))); replace HB := bs HB hb; clear hb ho5) | (go_at_call 110; (with_reducible refine (yP.calls k 8 _ _ l0 true _ ?side1 ?side2 A2.out).mono ?_); (case side1 => exact pC (Kd.C_below HR0.out HB.out)); (case side2 => exact HC0.out); rintro e w' ⟨rfl, ⟨nd, rfl⟩⟩; (try exact dq_))))
  go_loopg [3, 4] k (fun kq v3 v4 w' => ∃ (x3_1 : List Int) (x4_1 : Int), v4 = .int .i64 x4_1 ∧ Aside0 (yC.l0 kq l0 x3_1 x4_1 = some r) ∧ Aside0 (kq ≤ k) ∧ Aside0 (Kd.R (Kd.int .i64) 3 w' w.heap.size (fun _ => True) v3 x3_1) ∧ Aside0 (Below w.heap.size w w'))
  case atStart => exact ⟨(yq1), (0), rs_, H', ⟨Nat.le_refl _⟩, ⟨pR HOq4.out⟩, ⟨pB HB.out⟩⟩
  clear H'
  try clear c1
  try clear p2
  try clear c3
  obtain ⟨x3_1, x4_1, rfl, HA, HK1, HO_3, HB⟩ := hrel
  rcases gk with _ | k1
  ·exact absurd HA.out (by simp [yC.l0])
  have H := HA.out
  clear HA
  simp only [yC.l0] at H
  by_cases c6 : x4_1 < (l0.length : Int)
  ·rw [if_pos c6] at H
   have c6b0 := decide_eq_true c6
   clear c6
   have H' := aQ H
   clear H
   go_wp2
   repeat (go_quiet (fail); try go_wp2)
   go_loopg [5, 6] k1 (fun kq v5 v6 w' => ∃ (x5_2 : Bool) (x6_2 : Int), v5 = .bool x5_2 ∧ v6 = .int .i64 x6_2 ∧ Aside0 (yC.l1 kq l0 x3_1 x4_1 x5_2 x6_2 = some r) ∧ Aside0 (kq ≤ k1) ∧ Aside0 (Kd.R (Kd.int .i64) 3 w' w.heap.size (fun _ => True) u3 x3_1) ∧ Aside0 (Below w.heap.size w w'))
   case atStart => exact ⟨(true), (0), rs_, rs_, H', ⟨Nat.le_refl _⟩, ⟨pR HO_3.out⟩, ⟨pB HB.out⟩⟩
   clear H'
   try clear c1
   try clear p2
   try clear c3
   try clear c6
   try clear c6b0
   try clear p2
   obtain ⟨x5_2, x6_2, rfl, rfl, HA, HK2, HO_3, HB⟩ := hrel
   rcases gk with _ | k2
   ·exact absurd HA.out (by simp [yC.l1])
   have H := HA.out
   clear HA
   simp only [yC.l1] at H
   by_cases c7 : x6_2 < (l0.length : Int)
   ·rw [if_pos c7] at H
    have c7b0 := decide_eq_true c7
    clear c7
    by_cases c8 : x5_2 = true
    ·subst c8
     rw [if_pos rfl] at H
     replace H := gd H; obtain ⟨c9, H⟩ := H
     have c9b0 := decide_eq_true c9
     clear c9
     replace H := gd H; obtain ⟨c10, H⟩ := H
     have c10b0 := decide_eq_true c10
     clear c10
     replace H := gd H; obtain ⟨c11, H⟩ := H
     have c11b0 := decide_eq_true c11
     clear c11
     by_cases c12 : (rd l0 x6_2) = (rd l0 x4_1)
     ·rw [if_pos c12] at H
      have c12b0 : ((rd l0 x6_2) == (rd l0 x4_1)) = true := beq_iff_eq.mpr c12
      have c12b1 : ((rd l0 x6_2) != (rd l0 x4_1)) = false := bne_eq_false_iff_eq.mpr c12
      clear c12
      have H' := aQ H
      clear H
      have pq5 : 0 ≤ (x6_2 : Int) := of_decide_eq_true as_
      have qq5 : x6_2 < (l0.length : Int) := of_decide_eq_true as_
      obtain ⟨adq5, eq5, hxq5_0⟩ := Kd.at_int HR0.out x6_2 pq5 qq5
      cases eq5
      replace hxq5_0 := (HB.out.cell (World.block_lt_of_cell? w _ hxq5_0)).trans hxq5_0
      replace pq5 := eq_true pq5
      replace qq5 := eq_true qq5
      have pq6 : 0 ≤ (x4_1 : Int) := of_decide_eq_true as_
      have qq6 : x4_1 < (l0.length : Int) := of_decide_eq_true as_
      obtain ⟨adq6, eq6, hxq6_0⟩ := Kd.at_int HR0.out x4_1 pq6 qq6
      obtain rfl : adq5 = adq6 := (by injection eq6)
      replace hxq6_0 := (HB.out.cell (World.block_lt_of_cell? w _ hxq6_0)).trans hxq6_0
      replace pq6 := eq_true pq6
      replace qq6 := eq_true qq6
      go_wp2
      repeat (go_quiet (fail); try go_wp2)
      go_roundg k2
      case measure => have := HK1.out; have := HK2.out; omega
      case rel => exact ⟨(true), (wrap64 (x6_2 + 1)), rs_, rs_, H', ⟨by have := HK1.out; have := HK2.out; omega⟩, ⟨pR HO_3.out⟩, ⟨pB HB.out⟩⟩
     ·rw [if_neg c12] at H
      have c12b0 : ((rd l0 x6_2) == (rd l0 x4_1)) = false := beq_eq_false_iff_ne.mpr c12
      have c12b1 : ((rd l0 x6_2) != (rd l0 x4_1)) = true := bne_iff_ne.mpr c12
      have H' := aQ H
      clear H
      have pq5 : 0 ≤ (x6_2 : Int) := of_decide_eq_true as_
      have qq5 : x6_2 < (l0.length : Int) := of_decide_eq_true as_
      obtain ⟨adq5, eq5, hxq5_0⟩ := Kd.at_int HR0.out x6_2 pq5 qq5
      cases eq5
      replace hxq5_0 := (HB.out.cell (World.block_lt_of_cell? w _ hxq5_0)).trans hxq5_0
      replace pq5 := eq_true pq5
      replace qq5 := eq_true qq5
      have pq6 : 0 ≤ (x4_1 : Int) := of_decide_eq_true as_
      have qq6 : x4_1 < (l0.length : Int) := of_decide_eq_true as_
      obtain ⟨adq6, eq6, hxq6_0⟩ := Kd.at_int HR0.out x4_1 pq6 qq6
      obtain rfl : adq5 = adq6 := (by injection eq6)
      replace hxq6_0 := (HB.out.cell (World.block_lt_of_cell? w _ hxq6_0)).trans hxq6_0
      replace pq6 := eq_true pq6
      replace qq6 := eq_true qq6
      have pq7 : 0 ≤ (x6_2 : Int) := of_decide_eq_true as_
      have qq7 : x6_2 < (l0.length : Int) := of_decide_eq_true as_
      obtain ⟨adq7, eq7, hxq7_0⟩ := Kd.at_int HR0.out x6_2 pq7 qq7
      obtain rfl : adq5 = adq7 := (by injection eq7)
      replace hxq7_0 := (HB.out.cell (World.block_lt_of_cell? w _ hxq7_0)).trans hxq7_0
      replace pq7 := eq_true pq7
      replace qq7 := eq_true qq7
      have pq8 : 0 ≤ (x4_1 : Int) := of_decide_eq_true as_
      have qq8 : x4_1 < (l0.length : Int) := of_decide_eq_true as_
      obtain ⟨adq8, eq8, hxq8_0⟩ := Kd.at_int HR0.out x4_1 pq8 qq8
      obtain rfl : adq5 = adq8 := (by injection eq8)
      replace hxq8_0 := (HB.out.cell (World.block_lt_of_cell? w _ hxq8_0)).trans hxq8_0
      replace pq8 := eq_true pq8
      replace qq8 := eq_true qq8
      have pq9 : 0 ≤ (x4_1 : Int) := of_decide_eq_true as_
      have qq9 : x4_1 < (l0.length : Int) := of_decide_eq_true as_
      obtain ⟨adq9, eq9, hxq9_0⟩ := Kd.at_int HR0.out x4_1 pq9 qq9
      obtain rfl : adq5 = adq9 := (by injection eq9)
      replace hxq9_0 := (HB.out.cell (World.block_lt_of_cell? w _ hxq9_0)).trans hxq9_0
      replace pq9 := eq_true pq9
      replace qq9 := eq_true qq9
      go_wp2
      repeat (go_quiet (fail); try go_wp2)
      go_roundg k2
      case measure => have := HK1.out; have := HK2.out; omega
      case rel => exact ⟨(((Go.bits .and .i64 (rd l0 x6_2) (rd l0 x4_1)) != (rd l0 x4_1))), (wrap64 (x6_2 + 1)), rs_, rs_, H', ⟨by have := HK1.out; have := HK2.out; omega⟩, ⟨pR HO_3.out⟩, ⟨pB HB.out⟩⟩
    ·replace c8 := Bool.eq_false_iff.mpr c8
     subst c8
     have H1 : (yC.l1 k2 l0 x3_1 x4_1 false (wrap64 (x6_2 + 1))) = some r := by rw [if_neg (show ¬ (false = true) by decide)] at H; exact H
     clear H
     have H := H1
     clear H1
     have H' := aQ H
     clear H
     go_wp2
     repeat (go_quiet (fail); try go_wp2)
     go_roundg k2
     case measure => have := HK1.out; have := HK2.out; omega
     case rel => exact ⟨(false), (wrap64 (x6_2 + 1)), rs_, rs_, H', ⟨by have := HK1.out; have := HK2.out; omega⟩, ⟨pR HO_3.out⟩, ⟨pB HB.out⟩⟩
   ·rw [if_neg c7] at H
    have c7b0 := decide_eq_false c7
    clear c7
    by_cases c13 : x5_2 = true
    ·subst c13
     rw [if_pos rfl] at H
     replace H := gd H; obtain ⟨c14, H⟩ := H
     have c14b0 := decide_eq_true c14
     clear c14
     replace H := gd H; obtain ⟨c15, H⟩ := H
     have c15b0 := decide_eq_true c15
     clear c15
     replace H := gd H; obtain ⟨c16, H⟩ := H
     have LMc16 := aQ c16
     clear c16
     obtain ⟨yqa, hyqa⟩ : ∃ y_ : List Int, y_ = (x3_1 ++ [rd l0 x4_1]) := ⟨_, rfl⟩
     replace H : (yC.l0 k2 l0 yqa (wrap64 (x4_1 + 1))) = some r := by first | (rw [hyqa]; with_reducible exact H) | (rw [hyqa]; exact H)
     have Nyqa := aQ hyqa
     clear hyqa
     have H' := aQ H
     clear H
     have pqb : 0 ≤ (x4_1 : Int) := of_decide_eq_true as_
     have qqb : x4_1 < (l0.length : Int) := of_decide_eq_true as_
     obtain ⟨adqb, eqb, hxqb_0⟩ := Kd.at_int HR0.out x4_1 pqb qqb
     cases eqb
     replace hxqb_0 := (HB.out.cell (World.block_lt_of_cell? w _ hxqb_0)).trans hxqb_0
     replace pqb := eq_true pqb
     replace qqb := eq_true qqb
     go_wp2_with (first | ((with_reducible refine yO (b := .append) (xs := #[.tmp 53, .tmp 58]) rfl ?_); at_builtin; refine Kd.R_append (Kd.int .i64) (w0 := w) w.heap.size rfl (.tmp 53) (.tmp 58) 22 3 (.int .i64 0) 8 rfl Try.underlying22 yaU rfl (by decide) (by omega) u3 x3_1 (rd l0 x4_1) [.int .i64 (rd l0 x4_1)] (fun _ => True) (fun _ => False) rfl rfl ?aP (fun _ hk => hk.elim) ?aF ?aO ?aB ?aS ?aL ?_; (case aP => exact rfl); (case aB => exact (pB HB.out)); (case aF => exact (fun _ _ => trivial)); (case aO => exact (pR HO_3.out)); (case aS => exact (yc (pB HB.out))); (case aL => have := LMc16.out; omega); intro vqc w17 ho hb hg hat; rw [← Nyqa.out] at ho; replace HB := aQ (hb); have HOqd := aQ (ho); clear HO_3; clear ho hb hg hat))
     repeat (go_quiet (first | ((with_reducible refine yO (b := .append) (xs := #[.tmp 53, .tmp 58]) rfl ?_); at_builtin; refine Kd.R_append (Kd.int .i64) (w0 := w) w.heap.size rfl (.tmp 53) (.tmp 58) 22 3 (.int .i64 0) 8 rfl Try.underlying22 yaU rfl (by decide) (by omega) u3 x3_1 (rd l0 x4_1) [.int .i64 (rd l0 x4_1)] (fun _ => True) (fun _ => False) rfl rfl ?aP (fun _ hk => hk.elim) ?aF ?aO ?aB ?aS ?aL ?_; (case aP => exact rfl); (case aB => exact (pB HB.out)); (case aF => exact (fun _ _ => trivial)); (case aO => exact (pR HO_3.out)); (case aS => exact (yc (pB HB.out))); (case aL => have := LMc16.out; omega); intro vqc w17 ho hb hg hat; rw [← Nyqa.out] at ho; replace HB := aQ (hb); have HOqd := aQ (ho); clear HO_3; clear ho hb hg hat)); try go_wp2_with (first | ((with_reducible refine yO (b := .append) (xs := #[.tmp 53, .tmp 58]) rfl ?_); at_builtin; refine Kd.R_append (Kd.int .i64) (w0 := w) w.heap.size rfl (.tmp 53) (.tmp 58) 22 3 (.int .i64 0) 8 rfl Try.underlying22 yaU rfl (by decide) (by omega) u3 x3_1 (rd l0 x4_1) [.int .i64 (rd l0 x4_1)] (fun _ => True) (fun _ => False) rfl rfl ?aP (fun _ hk => hk.elim) ?aF ?aO ?aB ?aS ?aL ?_; (case aP => exact rfl); (case aB => exact (pB HB.out)); (case aF => exact (fun _ _ => trivial)); (case aO => exact (pR HO_3.out)); (case aS => exact (yc (pB HB.out))); (case aL => have := LMc16.out; omega); intro vqc w17 ho hb hg hat; rw [← Nyqa.out] at ho; replace HB := aQ (hb); have HOqd := aQ (ho); clear HO_3; clear ho hb hg hat)))
     go_roundg k2
     case measure => have := HK1.out; have := HK2.out; omega
     case rel => exact ⟨(yqa), (wrap64 (x4_1 + 1)), rs_, H', ⟨by have := HK1.out; have := HK2.out; omega⟩, ⟨pR HOqd.out⟩, ⟨pB HB.out⟩⟩
    ·replace c13 := Bool.eq_false_iff.mpr c13
     subst c13
     have H1 : (yC.l0 k2 l0 x3_1 (wrap64 (x4_1 + 1))) = some r := by rw [if_neg (show ¬ (false = true) by decide)] at H; exact H
     clear H
     have H := H1
     clear H1
     have H' := aQ H
     clear H
     go_wp2
     repeat (go_quiet (fail); try go_wp2)
     go_roundg k2
     case measure => have := HK1.out; have := HK2.out; omega
     case rel => exact ⟨(x3_1), (wrap64 (x4_1 + 1)), rs_, H', ⟨by have := HK1.out; have := HK2.out; omega⟩, ⟨pR HO_3.out⟩, ⟨pB HB.out⟩⟩
  ·rw [if_neg c6] at H
   have c6b0 := decide_eq_false c6
   clear c6
   replace H := bo H; obtain ⟨tq0, A18, H⟩ := H
   (try dsimp only at H)
   obtain rfl := Option.some.inj H
   obtain ⟨Ao19, co19, eo19⟩ := Kd.R_slice HO_3.out
   subst eo19
   go_wp2_with (first | (go_at_call 143; (with_reducible refine (yf.calls k1 _ _ x3_1 tq0 _ ?side1 ?side2 A18.out).mono ?_); (case side1 => exact pC ((Kd.R_reads' HO_3.out).2.2)); (case side2 => exact (Kd.R_reads' HO_3.out).2.1); rintro e w20 ⟨vqe, rfl, ho0, hb⟩; have HOqf := aQ (Kd.R_lower (Kd.R_new' ho0 (Kd.R_lt (pR HO_3.out))) (yc (pB HB.out))); replace HO_3 := aQ (Kd.R_elder' (pR HO_3.out) (Kd.R_base ho0) hb); replace HB := bs HB hb; (try clear hb); (try clear ho0)))
   repeat (go_quiet (first | (go_at_call 143; (with_reducible refine (yf.calls k1 _ _ x3_1 tq0 _ ?side1 ?side2 A18.out).mono ?_); (case side1 => exact pC ((Kd.R_reads' HO_3.out).2.2)); (case side2 => exact (Kd.R_reads' HO_3.out).2.1); rintro e w20 ⟨vqe, rfl, ho0, hb⟩; have HOqf := aQ (Kd.R_lower (Kd.R_new' ho0 (Kd.R_lt (pR HO_3.out))) (yc (pB HB.out))); replace HO_3 := aQ (Kd.R_elder' (pR HO_3.out) (Kd.R_base ho0) hb); replace HB := bs HB hb; (try clear hb); (try clear ho0))); try go_wp2_with (first | (go_at_call 143; (with_reducible refine (yf.calls k1 _ _ x3_1 tq0 _ ?side1 ?side2 A18.out).mono ?_); (case side1 => exact pC ((Kd.R_reads' HO_3.out).2.2)); (case side2 => exact (Kd.R_reads' HO_3.out).2.1); rintro e w20 ⟨vqe, rfl, ho0, hb⟩; have HOqf := aQ (Kd.R_lower (Kd.R_new' ho0 (Kd.R_lt (pR HO_3.out))) (yc (pB HB.out))); replace HO_3 := aQ (Kd.R_elder' (pR HO_3.out) (Kd.R_base ho0) hb); replace HB := bs HB hb; (try clear hb); (try clear ho0))))
   go_ret
   exact ⟨_, by first | rfl | (simp [errW_none, yi] <;> rfl) | (simp [*, errW_none, yi] <;> rfl), by refine pRx ?_; exact Kd.R_mono HOqf.out (fun _ hk => trivial), pB HB.out⟩
 ·replace c3 := Bool.eq_false_iff.mpr c3
  subst c3
  have H1 : (some yq1) = some r := by rw [if_neg (show ¬ (false = true) by decide)] at H; exact H
  clear H
  have H := H1
  clear H1
  obtain rfl := Option.some.inj H
  go_enter Try.func108, Try.ntmps108
  go_wp2_with (first | ((with_reducible refine yb (N := 7) rfl ?_); refine Kd.R_lit (Kd.int .i64) _ 3 ?hg (N := 7) ?hd (xs := ([] : List Int)) (inner := []) (ok := fun _ => True) (okp := fun _ => True) ?hr ?hp (fun _ hk => hk) trivial (Below.refl _ _) (Nat.le_refl _) (by simp) ?_; (case hd => rfl); (case hg => rfl); (case hr => first | (go_simp; done) | (go_simp; rfl)); (case hp => exact (Reps.none _ _)); intro vq3 w21 ho22 hb hg_ hnew_; clear hg_ hnew_; (first | rw [← Nyq1.out] at ho22 | (simp only [Int.reduceToNat] at ho22; rw [← Nyq1.out] at ho22)); have HOq4 := aQ (Kd.R_lower ho22 (yc (pB HB.out))); replace HB := bs HB hb; clear hb ho22) | (go_at_call 110; (with_reducible refine (yP.calls k 8 _ _ l0 false _ ?side1 ?side2 A2.out).mono ?_); (case side1 => exact pC (Kd.C_below HR0.out HB.out)); (case side2 => exact HC0.out); rintro e w' ⟨rfl, ⟨nd, rfl⟩⟩; (try exact dq_)))
  repeat (go_quiet (first | ((with_reducible refine yb (N := 7) rfl ?_); refine Kd.R_lit (Kd.int .i64) _ 3 ?hg (N := 7) ?hd (xs := ([] : List Int)) (inner := []) (ok := fun _ => True) (okp := fun _ => True) ?hr ?hp (fun _ hk => hk) trivial (Below.refl _ _) (Nat.le_refl _) (by simp) ?_; (case hd => rfl); (case hg => rfl); (case hr => first | (go_simp; done) | (go_simp; rfl)); (case hp => exact (Reps.none _ _)); intro vq3 w21 ho22 hb hg_ hnew_; clear hg_ hnew_; (first | rw [← Nyq1.out] at ho22 | (simp only [Int.reduceToNat] at ho22; rw [← Nyq1.out] at ho22)); have HOq4 := aQ (Kd.R_lower ho22 (yc (pB HB.out))); replace HB := bs HB hb; clear hb ho22) | (go_at_call 110; (with_reducible refine (yP.calls k 8 _ _ l0 false _ ?side1 ?side2 A2.out).mono ?_); (case side1 => exact pC (Kd.C_below HR0.out HB.out)); (case side2 => exact HC0.out); rintro e w' ⟨rfl, ⟨nd, rfl⟩⟩; (try exact dq_))); try go_wp2_with (first | ((with_reducible refine yb (N := 7) rfl ?_); refine Kd.R_lit (Kd.int .i64) _ 3 ?hg (N := 7) ?hd (xs := ([] : List Int)) (inner := []) (ok := fun _ => True) (okp := fun _ => True) ?hr ?hp (fun _ hk => hk) trivial (Below.refl _ _) (Nat.le_refl _) (by simp) ?_; (case hd => rfl); (case hg => rfl); (case hr => first | (go_simp; done) | (go_simp; rfl)); (case hp => exact (Reps.none _ _)); intro vq3 w21 ho22 hb hg_ hnew_; clear hg_ hnew_; (first | rw [← Nyq1.out] at ho22 | (simp only [Int.reduceToNat] at ho22; rw [← Nyq1.out] at ho22)); have HOq4 := aQ (Kd.R_lower ho22 (yc (pB HB.out))); replace HB := bs HB hb; clear hb ho22) | (go_at_call 110; (with_reducible refine (yP.calls k 8 _ _ l0 false _ ?side1 ?side2 A2.out).mono ?_); (case side1 => exact pC (Kd.C_below HR0.out HB.out)); (case side2 => exact HC0.out); rintro e w' ⟨rfl, ⟨nd, rfl⟩⟩; (try exact dq_))))
  go_ret
  exact ⟨_, by first | rfl | (simp [errW_none, yi] <;> rfl) | (simp [*, errW_none, yi] <;> rfl), by refine pRx ?_; exact HOq4.out, pB HB.out⟩
def yag.l0 : Nat → Int → List Int → List Int → Int → Option (Int × List Int)
 | 0, _, _, _, _ => none
 | k + 1, x0, x1, x5, x6 => (yT.f x0).bind fun tq0 => (if x6 ≤ tq0 then ((yt.f k x6).bind fun tq1 => ((yv.f k x1 tq1 (([] : List Int))).bind fun btq2 => (if btq2.2 = true then (if x5.length < 17592186044416 then (yag.l0 k x0 x1 (x5 ++ [x6]) (wrap64 (x6 + 1))) else (none)) else (yag.l0 k x0 x1 x5 (wrap64 (x6 + 1)))))) else ((yC.f k x5).bind fun tq3 => (some (x0, tq3))))
def yag.f (k : Nat) (a0 : Int) (l1 : List Int) : Option (Int × List Int) := (ybt.f k a0 l1).bind fun tq4 => (if tq4 = true then (yag.l0 k a0 l1 (([] : List Int)) 0) else (some (0, ([] : List Int))))
theorem yag.calls (k : Nat) (a0 : Int) (A1 : Option Addr) (c1 : Nat) (l1 : List Int) (r1 : Int) (r2 : List Int) (w : World) (hr1 : Kd.C (Kd.int .i64) w A1 l1.length l1) (hc1 : l1.length ≤ c1) (h : yag.f k a0 l1 = some (r1, r2)) :
  Calls Try.prog 49 #[.int .i64 a0, .slice A1 l1.length c1] w fun e w' => ∃ v1_ : Value, e = .returned (.agg #[.int .i64 r1, v1_]) ∧ Kd.R (Kd.int .i64) 3 w' w.heap.size (fun _ => True) v1_ r2 ∧ Below w.heap.size w w' := by
 have hu28 := Try.underlying28
 have HR1 := aQ hr1
 have HC1 := aQ hc1
 clear hr1 hc1
 have HB := aQ (Below.refl w.heap.size w)
 have H := h
 clear h
 unfold yag.f at H
 (try dsimp only at H)
 replace H := bo H; obtain ⟨tq4, A3, H⟩ := H
 (try dsimp only at H)
 by_cases c4 : tq4 = true
 ·subst c4
  rw [if_pos rfl] at H
  obtain ⟨yq5, hyq5⟩ : ∃ y_ : List Int, y_ = (([] : List Int)) := ⟨_, rfl⟩
  replace H : (yag.l0 k a0 l1 yq5 0) = some (r1, r2) := by first | (rw [hyq5]; with_reducible exact H) | (rw [hyq5]; exact H)
  have Nyq5 := aQ hyq5
  clear hyq5
  have H' := aQ H
  clear H
  go_enter Try.func49, Try.ntmps49
  go_wp2_with (first | ((with_reducible refine yb (N := 4) rfl ?_); refine bx 4 #[.int .i64 0, .slice none 0 0] 28 ?_; intro gbq6 hg w5 hbox hb; have BKq6 := aQ (hbox); have GWq6 := gB HB hg; have GEq6 := gB HB hg; replace HB := bs HB hb; clear hb hbox hg) | (refine gq 51 (some 11) Try.func51 #[.int .i64 a0, .slice A1 l1.length c1] ?_; (with_reducible refine (ybt.calls k a0 _ _ l1 true _ ?side1 ?side2 A3.out).mono ?_); (case side1 => exact pC (Kd.C_below HR1.out HB.out)); (case side2 => exact HC1.out); rintro e w' ⟨rfl, ⟨nd, rfl⟩⟩; refine ⟨_, rfl, ?_⟩) | ((with_reducible refine yb (N := 14) rfl ?_); refine Kd.R_lit (Kd.int .i64) _ 3 ?hg (N := 14) ?hd (xs := ([] : List Int)) (inner := []) (ok := fun _ => True) (okp := fun _ => True) ?hr ?hp (fun _ hk => hk) trivial (Below.refl _ _) (Nat.le_refl _) (by simp) ?_; (case hd => rfl); (case hg => rfl); (case hr => first | (go_simp; done) | (go_simp; rfl)); (case hp => exact (Reps.none _ _)); intro vq7 w6 ho7 hb hg_ hnew_; clear hg_ hnew_; (first | rw [← Nyq5.out] at ho7 | (simp only [Int.reduceToNat] at ho7; rw [← Nyq5.out] at ho7)); have HOq8 := aQ (Kd.R_lower ho7 (yc (pB1 HB.out GEq6.out))); replace BKq6 := bb BKq6 hb; replace HB := bs HB hb; clear hb ho7))
  go_loopg [5, 6] k (fun kq v5 v6 w' => ∃ (x5_1 : List Int) (x6_1 : Int), v6 = .int .i64 x6_1 ∧ Aside0 (yag.l0 kq a0 l1 x5_1 x6_1 = some (r1, r2)) ∧ Aside0 (kq ≤ k) ∧ Aside0 (Kd.R (Kd.int .i64) 3 w' w.heap.size (fun _ => True) v5 x5_1) ∧ Aside0 (w'.heap[gbq6]? = some (.cells #[.int .i64 0, (.slice none 0 0)] 28 (0, 0))) ∧ Aside0 (Below w.heap.size w w'))
  case atStart => exact ⟨(yq5), (0), rs_, H', ⟨Nat.le_refl _⟩, ⟨pR HOq8.out⟩, ⟨pk BKq6.out⟩, ⟨pB1 HB.out GEq6.out⟩⟩
  clear H'
  try clear c1
  try clear p2
  try clear c4
  try clear c5
  obtain ⟨x5_1, x6_1, rfl, HA, HK1, HO_5, BKq6, HB⟩ := hrel
  rcases gk with _ | k1
  ·exact absurd HA.out (by simp [yag.l0])
  have H := HA.out
  clear HA
  simp only [yag.l0] at H
  replace H := bo H; obtain ⟨tq0, A8, H⟩ := H
  (try dsimp only at H)
  by_cases c9 : x6_1 ≤ tq0
  ·rw [if_pos c9] at H
   have c9b0 := decide_eq_true c9
   clear c9
   replace H := bo H; obtain ⟨tq1, A10, H⟩ := H
   (try dsimp only at H)
   obtain ⟨yq9, hyq9⟩ : ∃ y_ : List Int, y_ = (([] : List Int)) := ⟨_, rfl⟩
   replace H : ((yv.f k1 l1 tq1 yq9).bind fun btq2 => (if btq2.2 = true then (if x5_1.length < 17592186044416 then (yag.l0 k1 a0 l1 (x5_1 ++ [x6_1]) (wrap64 (x6_1 + 1))) else (none)) else (yag.l0 k1 a0 l1 x5_1 (wrap64 (x6_1 + 1))))) = some (r1, r2) := by first | (rw [hyq9]; with_reducible exact H) | (rw [hyq9]; exact H)
   have Nyq9 := aQ hyq9
   clear hyq9
   replace H := bo H; obtain ⟨⟨tq2, tqa⟩, A11, H⟩ := H
   (try dsimp only at H)
   by_cases c12 : tqa = true
   ·subst c12
    rw [if_pos rfl] at H
    replace H := gd H; obtain ⟨c13, H⟩ := H
    have LMc13 := aQ c13
    clear c13
    obtain ⟨yqb, hyqb⟩ : ∃ y_ : List Int, y_ = (x5_1 ++ [x6_1]) := ⟨_, rfl⟩
    replace H : (yag.l0 k1 a0 l1 yqb (wrap64 (x6_1 + 1))) = some (r1, r2) := by first | (rw [hyqb]; with_reducible exact H) | (rw [hyqb]; exact H)
    have Nyqb := aQ hyqb
    clear hyqb
    have H' := aQ H
    clear H
    go_wp2_with (first | (refine gq 81 (some 17) Try.func81 #[.int .i64 a0] ?_; (with_reducible refine (yT.calls a0 tq0 _ A8.out).mono ?_); rintro e w' ⟨rfl, ⟨nd, rfl⟩⟩; refine ⟨_, rfl, ?_⟩) | (refine gq 53 (some 24) Try.func53 #[.int .i64 x6_1] ?_; (with_reducible refine (yt.calls k1 x6_1 tq1 _ A10.out).mono ?_); rintro e w14 ⟨vqc, rfl, ho0, hb⟩; refine ⟨_, rfl, ?_⟩; have HOqd := aQ (Kd.R_lower (Kd.R_new' ho0 (Kd.R_lt (pR HO_5.out))) (yc (pB1 HB.out GEq6.out))); replace HO_5 := aQ (Kd.R_elder' (pR HO_5.out) (Kd.R_base ho0) hb); replace BKq6 := bb BKq6 hb; replace HB := bs HB hb; (try clear hb); (try clear ho0)) | ((with_reducible refine yb (N := 25) rfl ?_); refine Kd.R_lit (Kd.int .i64) _ 3 ?hg (N := 25) ?hd (xs := ([] : List Int)) (inner := []) (ok := fun _ => True) (okp := fun _ => True) ?hr ?hp (fun _ hk => hk) trivial (Below.refl _ _) (Nat.le_refl _) (by simp) ?_; (case hd => rfl); (case hg => rfl); (case hr => first | (go_simp; done) | (go_simp; rfl)); (case hp => exact (Reps.none _ _)); intro vqe w15 ho16 hb hg_ hnew_; clear hg_ hnew_; (first | rw [← Nyq9.out] at ho16 | (simp only [Int.reduceToNat] at ho16; rw [← Nyq9.out] at ho16)); have HOqf := aQ (Kd.R_lower (Kd.R_new' (Kd.R_new' ho16 (Kd.R_lt (pR HO_5.out))) (Kd.R_lt (pR HOqd.out))) (yc (pB1 HB.out GEq6.out))); replace HO_5 := aQ (Kd.R_elder' (pR HO_5.out) (Kd.R_base ho16) hb); replace HOqd := aQ (Kd.R_elder' (pR HOqd.out) (Kd.R_base ho16) hb); replace BKq6 := bb BKq6 hb; replace HB := bs HB hb; clear hb ho16; obtain ⟨Ao17, co17, eo17⟩ := Kd.R_slice HOqd.out; subst eo17; obtain ⟨Ao18, co18, eo18⟩ := Kd.R_slice HOqf.out; subst eo18) | (refine gq 105 (some 26) Try.func105 #[.slice A1 l1.length c1, .slice Ao17 tq1.length co17, .slice Ao18 yq9.length co18] ?_; (with_reducible refine (yv.calls k1 _ _ l1 _ _ tq1 (fun k_ => some k_ = (.slice Ao18 yq9.length co18 : Value).ownBlock) (.slice Ao18 yq9.length co18) yq9 tq2 true w _ ?side1 ?side2 ?side3 ?side4 ?side5 ?side6 A11.out).mono ?_); (case side1 => exact pb HB); (case side2 => exact Kd.C_kept_came (Kd.heap_int .i64) HR1.out (pB1 HB.out GEq6.out) (fun k_ hs_ => (fun e_ => Kd.R_base HOqf.out k_ e_.symm) hs_)); (case side3 => exact HC1.out); (case side4 => exact Kd.C_kept_own (HOqd.out) (fun k_ hk_ hs_ => (hk_.2) hs_)); (case side5 => exact (Kd.R_reads' HOqd.out).2.1); (case side6 => exact Kd.R_tight rfl HOqf.out); rintro e w19 ⟨vqg, rfl, ho0, hb, hkp⟩; refine ⟨_, rfl, ?_⟩; replace BKq6 := aQ (yem (pk BKq6.out) hkp (fun hs_ => (fun e_ => (Kd.R_ne HOqf.out BKq6.out (by decide)) e_) hs_)); have HOqh := aQ (Kd.R_mono (ok' := fun k_ => some k_ ≠ (u5 : Value).ownBlock ∧ some k_ ≠ (.slice Ao17 tq1.length co17 : Value).ownBlock) ho0 (fun k_ hk_ => ⟨Or.elim hk_ (fun hs_ => fun e_ => (((HO_5.out).1 k_ e_.symm).2) hs_) (fun hn_ => (Kd.fresh' (Kd.R_lt (pR HO_5.out)) k_ hn_)), Or.elim hk_ (fun hs_ => fun e_ => (((HOqd.out).1 k_ e_.symm).2) hs_) (fun hn_ => (Kd.fresh' (Kd.R_lt (pR HOqd.out)) k_ hn_))⟩)); replace HO_5 := aQ (Kd.R_mono (ok' := fun k_ => some k_ ≠ (.slice Ao17 tq1.length co17 : Value).ownBlock ∧ some k_ ≠ (vqg : Value).ownBlock) (Kd.R_keptB (HO_5.out) hkp (fun k_ hk_ hs_ => (hk_.2) hs_)) (fun k_ hk_ => ⟨hk_.1.1.2, fun e_ => Or.elim (ho0.1 k_ e_.symm) (fun hs_ => hk_.2.1 hs_) (fun hn_ => Nat.not_le.2 hk_.2.2 hn_)⟩)); replace HOqd := aQ (Kd.R_mono (ok' := fun k_ => some k_ ≠ (u5 : Value).ownBlock ∧ some k_ ≠ (vqg : Value).ownBlock) (Kd.R_keptB (HOqd.out) hkp (fun k_ hk_ hs_ => (hk_.2) hs_)) (fun k_ hk_ => ⟨hk_.1.1.2, fun e_ => Or.elim (ho0.1 k_ e_.symm) (fun hs_ => hk_.2.1 hs_) (fun hn_ => Nat.not_le.2 hk_.2.2 hn_)⟩)); replace HB := aQ (hb); clear HOqf; (try clear hb); (try clear hkp); (try clear ho0)) | ((with_reducible refine yO (b := .append) (xs := #[.tmp 30, .tmp 32]) rfl ?_); at_builtin; refine Kd.R_append (Kd.int .i64) (w0 := w) w.heap.size rfl (.tmp 30) (.tmp 32) 22 3 (.int .i64 0) 8 rfl Try.underlying22 yaU rfl (by decide) (by omega) u5 x5_1 x6_1 [.int .i64 x6_1] (fun k_ => some k_ ≠ (.slice Ao17 tq1.length co17 : Value).ownBlock ∧ some k_ ≠ (vqg : Value).ownBlock) (fun _ => False) rfl rfl ?aP (fun _ hk => hk.elim) ?aF ?aO ?aB ?aS ?aL ?_; (case aP => exact rfl); (case aB => exact (pB1 HB.out GEq6.out)); (case aF => exact (fun k_ hk => ⟨Kd.fresh' (Kd.R_lt (pR HOqd.out)) k_ hk, Kd.fresh' (Kd.R_lt (pR HOqh.out)) k_ hk⟩)); (case aO => exact (pR HO_5.out)); (case aS => exact (yc (pB1 HB.out GEq6.out))); (case aL => have := LMc13.out; omega); intro vqi w20 ho hb hg hat; rw [← Nyqb.out] at ho; replace BKq6 := aQ (ybu (g := gbq6) (o := .cells #[.int .i64 0, .slice none 0 0] 28 (0, 0)) (pk BKq6.out) hg (Kd.R_ne HO_5.out BKq6.out (by decide))); replace HOqd := aQ (Kd.R_after (ok := (fun k_ => some k_ ≠ (vqg : Value).ownBlock)) (by refine pRx ?_; exact Kd.R_mono HOqd.out (fun _ hk => ⟨hk.2, hk.1⟩)) hg hat); replace HOqh := aQ (Kd.R_after (ok := (fun k_ => some k_ ≠ (.slice Ao17 tq1.length co17 : Value).ownBlock)) (by refine pRx ?_; exact Kd.R_mono HOqh.out (fun _ hk => ⟨hk.2, hk.1⟩)) hg hat); replace HB := aQ (hb); have HOqj := aQ (ho); clear HO_5; clear ho hb hg hat))
    go_roundg k1
    case measure => have := HK1.out; omega
    case rel => exact ⟨(yqb), (wrap64 (x6_1 + 1)), rs_, H', ⟨by have := HK1.out; omega⟩, ⟨by refine pRx ?_; exact Kd.R_mono HOqj.out (fun _ hk => trivial)⟩, ⟨pk BKq6.out⟩, ⟨pB1 HB.out GEq6.out⟩⟩
   ·replace c12 := Bool.eq_false_iff.mpr c12
    subst c12
    have H1 : (yag.l0 k1 a0 l1 x5_1 (wrap64 (x6_1 + 1))) = some (r1, r2) := by rw [if_neg (show ¬ (false = true) by decide)] at H; exact H
    clear H
    have H := H1
    clear H1
    have H' := aQ H
    clear H
    go_wp2_with (first | (refine gq 81 (some 17) Try.func81 #[.int .i64 a0] ?_; (with_reducible refine (yT.calls a0 tq0 _ A8.out).mono ?_); rintro e w' ⟨rfl, ⟨nd, rfl⟩⟩; refine ⟨_, rfl, ?_⟩) | (refine gq 53 (some 24) Try.func53 #[.int .i64 x6_1] ?_; (with_reducible refine (yt.calls k1 x6_1 tq1 _ A10.out).mono ?_); rintro e w21 ⟨vqc, rfl, ho0, hb⟩; refine ⟨_, rfl, ?_⟩; have HOqd := aQ (Kd.R_lower (Kd.R_new' ho0 (Kd.R_lt (pR HO_5.out))) (yc (pB1 HB.out GEq6.out))); replace HO_5 := aQ (Kd.R_elder' (pR HO_5.out) (Kd.R_base ho0) hb); replace BKq6 := bb BKq6 hb; replace HB := bs HB hb; (try clear hb); (try clear ho0)) | ((with_reducible refine yb (N := 25) rfl ?_); refine Kd.R_lit (Kd.int .i64) _ 3 ?hg (N := 25) ?hd (xs := ([] : List Int)) (inner := []) (ok := fun _ => True) (okp := fun _ => True) ?hr ?hp (fun _ hk => hk) trivial (Below.refl _ _) (Nat.le_refl _) (by simp) ?_; (case hd => rfl); (case hg => rfl); (case hr => first | (go_simp; done) | (go_simp; rfl)); (case hp => exact (Reps.none _ _)); intro vqe w22 ho23 hb hg_ hnew_; clear hg_ hnew_; (first | rw [← Nyq9.out] at ho23 | (simp only [Int.reduceToNat] at ho23; rw [← Nyq9.out] at ho23)); have HOqf := aQ (Kd.R_lower (Kd.R_new' (Kd.R_new' ho23 (Kd.R_lt (pR HO_5.out))) (Kd.R_lt (pR HOqd.out))) (yc (pB1 HB.out GEq6.out))); replace HO_5 := aQ (Kd.R_elder' (pR HO_5.out) (Kd.R_base ho23) hb); replace HOqd := aQ (Kd.R_elder' (pR HOqd.out) (Kd.R_base ho23) hb); replace BKq6 := bb BKq6 hb; replace HB := bs HB hb; clear hb ho23; obtain ⟨Ao24, co24, eo24⟩ := Kd.R_slice HOqd.out; subst eo24; obtain ⟨Ao25, co25, eo25⟩ := Kd.R_slice HOqf.out; subst eo25) | (refine gq 105 (some 26) Try.func105 #[.slice A1 l1.length c1, .slice Ao24 tq1.length co24, .slice Ao25 yq9.length co25] ?_; (with_reducible refine (yv.calls k1 _ _ l1 _ _ tq1 (fun k_ => some k_ = (.slice Ao25 yq9.length co25 : Value).ownBlock) (.slice Ao25 yq9.length co25) yq9 tq2 false w _ ?side1 ?side2 ?side3 ?side4 ?side5 ?side6 A11.out).mono ?_); (case side1 => exact pb HB); (case side2 => exact Kd.C_kept_came (Kd.heap_int .i64) HR1.out (pB1 HB.out GEq6.out) (fun k_ hs_ => (fun e_ => Kd.R_base HOqf.out k_ e_.symm) hs_)); (case side3 => exact HC1.out); (case side4 => exact Kd.C_kept_own (HOqd.out) (fun k_ hk_ hs_ => (hk_.2) hs_)); (case side5 => exact (Kd.R_reads' HOqd.out).2.1); (case side6 => exact Kd.R_tight rfl HOqf.out); rintro e w26 ⟨vqg, rfl, ho0, hb, hkp⟩; refine ⟨_, rfl, ?_⟩; replace BKq6 := aQ (yem (pk BKq6.out) hkp (fun hs_ => (fun e_ => (Kd.R_ne HOqf.out BKq6.out (by decide)) e_) hs_)); have HOqh := aQ (Kd.R_mono (ok' := fun k_ => some k_ ≠ (u5 : Value).ownBlock ∧ some k_ ≠ (.slice Ao24 tq1.length co24 : Value).ownBlock) ho0 (fun k_ hk_ => ⟨Or.elim hk_ (fun hs_ => fun e_ => (((HO_5.out).1 k_ e_.symm).2) hs_) (fun hn_ => (Kd.fresh' (Kd.R_lt (pR HO_5.out)) k_ hn_)), Or.elim hk_ (fun hs_ => fun e_ => (((HOqd.out).1 k_ e_.symm).2) hs_) (fun hn_ => (Kd.fresh' (Kd.R_lt (pR HOqd.out)) k_ hn_))⟩)); replace HO_5 := aQ (Kd.R_mono (ok' := fun k_ => some k_ ≠ (.slice Ao24 tq1.length co24 : Value).ownBlock ∧ some k_ ≠ (vqg : Value).ownBlock) (Kd.R_keptB (HO_5.out) hkp (fun k_ hk_ hs_ => (hk_.2) hs_)) (fun k_ hk_ => ⟨hk_.1.1.2, fun e_ => Or.elim (ho0.1 k_ e_.symm) (fun hs_ => hk_.2.1 hs_) (fun hn_ => Nat.not_le.2 hk_.2.2 hn_)⟩)); replace HOqd := aQ (Kd.R_mono (ok' := fun k_ => some k_ ≠ (u5 : Value).ownBlock ∧ some k_ ≠ (vqg : Value).ownBlock) (Kd.R_keptB (HOqd.out) hkp (fun k_ hk_ hs_ => (hk_.2) hs_)) (fun k_ hk_ => ⟨hk_.1.1.2, fun e_ => Or.elim (ho0.1 k_ e_.symm) (fun hs_ => hk_.2.1 hs_) (fun hn_ => Nat.not_le.2 hk_.2.2 hn_)⟩)); replace HB := aQ (hb); clear HOqf; (try clear hb); (try clear hkp); (try clear ho0)))
    go_roundg k1
    case measure => have := HK1.out; omega
    case rel => exact ⟨(x5_1), (wrap64 (x6_1 + 1)), rs_, H', ⟨by have := HK1.out; omega⟩, ⟨by refine pRx ?_; exact Kd.R_mono HO_5.out (fun _ hk => trivial)⟩, ⟨pk BKq6.out⟩, ⟨pB1 HB.out GEq6.out⟩⟩
  ·rw [if_neg c9] at H
   have c9b0 := decide_eq_false c9
   clear c9
   replace H := bo H; obtain ⟨tq3, A27, H⟩ := H
   (try dsimp only at H)
   simp only [Option.some.injEq, Prod.mk.injEq] at H
   obtain ⟨rfl, rfl⟩ := H
   go_wp2_with (first | (refine gq 81 (some 17) Try.func81 #[.int .i64 a0] ?_; (with_reducible refine (yT.calls a0 tq0 _ A8.out).mono ?_); rintro e w' ⟨rfl, ⟨nd, rfl⟩⟩; refine ⟨_, rfl, ?_⟩; (try (rw [ya1 wr]; generalize hq_ : World.drewN wr _ = wr; have n0_ : Aside0 (Kd.R (Kd.int .i64) 3 wr w.heap.size (fun _ => True) u5 x5_1) := ⟨by rw [← hq_]; exact (pR HO_5.out)⟩; have n1_ : Aside0 (wr.heap[gbq6]? = some (.cells #[.int .i64 0, .slice none 0 0] 28 (0, 0))) := ⟨by rw [← hq_]; exact (pk BKq6.out)⟩; have n2_ : Aside0 (Below w.heap.size w wr) := ⟨by rw [← hq_]; exact (pB1 HB.out GEq6.out)⟩; clear HO_5 BKq6 HB hq_; have HO_5 := n0_; have BKq6 := n1_; have HB := n2_; clear n0_ n1_ n2_)); obtain ⟨Ao28, co28, eo28⟩ := Kd.R_slice HO_5.out; subst eo28) | (refine gq 108 (some 36) Try.func108 #[.slice Ao28 x5_1.length co28] ?_; (with_reducible refine (yC.calls k1 _ _ x5_1 tq3 _ ?side1 ?side2 A27.out).mono ?_); (case side1 => exact pC ((Kd.R_reads' HO_5.out).2.2)); (case side2 => exact (Kd.R_reads' HO_5.out).2.1); rintro e w29 ⟨vqk, rfl, ho0, hb⟩; refine ⟨_, rfl, ?_⟩; have HOql := aQ (Kd.R_lower (Kd.R_new' ho0 (Kd.R_lt (pR HO_5.out))) (yc (pB1 HB.out GEq6.out))); replace HO_5 := aQ (Kd.R_elder' (pR HO_5.out) (Kd.R_base ho0) hb); replace BKq6 := bb BKq6 hb; replace HB := bs HB hb; (try clear hb); (try clear ho0); obtain ⟨Ao30, co30, eo30⟩ := Kd.R_slice HOql.out; subst eo30; obtain ⟨hcz31_0, hcz31_1, hfz31_0, hfz31_1⟩ := c2 BKq6))
   refine bodyPost_ret (results_cell_row rfl _ _ gbq6 28 #[.int .i64 a0, .slice Ao30 tq3.length co30] (0, 0) _ rfl (by refine pkx ?_; refine yh (cs := #[.int .i64 a0, .slice none 0 0]) ?_ 1 _ rfl; refine pkx ?_; refine yh (cs := #[.int .i64 0, .slice none 0 0]) ?_ 0 _ rfl; refine pkx ?_; exact BKq6.out) Try.underlying28 rfl (by kernel_rfl)) rfl ?_
   exact ⟨_, by first | rfl | (simp [errW_none, yi] <;> rfl) | (simp [*, errW_none, yi] <;> rfl), by refine pRx ?_; exact rf HOql BKq6, pB1 HB.out GEq6.out⟩
 ·replace c4 := Bool.eq_false_iff.mpr c4
  subst c4
  have H1 : (some (0, ([] : List Int))) = some (r1, r2) := by rw [if_neg (show ¬ (false = true) by decide)] at H; exact H
  clear H
  have H := H1
  clear H1
  simp only [Option.some.injEq, Prod.mk.injEq] at H
  obtain ⟨rfl, rfl⟩ := H
  go_enter Try.func49, Try.ntmps49
  go_wp2_with (first | ((with_reducible refine yb (N := 4) rfl ?_); refine bx 4 #[.int .i64 0, .slice none 0 0] 28 ?_; intro gbq6 hg w32 hbox hb; have BKq6 := aQ (hbox); have GWq6 := gB HB hg; have GEq6 := gB HB hg; replace HB := bs HB hb; clear hb hbox hg) | (refine gq 51 (some 11) Try.func51 #[.int .i64 a0, .slice A1 l1.length c1] ?_; (with_reducible refine (ybt.calls k a0 _ _ l1 false _ ?side1 ?side2 A3.out).mono ?_); (case side1 => exact pC (Kd.C_below HR1.out HB.out)); (case side2 => exact HC1.out); rintro e w' ⟨rfl, ⟨nd, rfl⟩⟩; refine ⟨_, rfl, ?_⟩; (try (rw [ya1 w32]; generalize hq_ : World.drewN w32 _ = w32; have n0_ : Aside0 (w32.heap[gbq6]? = some (.cells #[.int .i64 0, .slice none 0 0] 28 (0, 0))) := ⟨by rw [← hq_]; exact (pk BKq6.out)⟩; have n1_ : Aside0 (Below w.heap.size w w32) := ⟨by rw [← hq_]; exact (pB1 HB.out GEq6.out)⟩; clear BKq6 HB hq_; have BKq6 := n0_; have HB := n1_; clear n0_ n1_)); obtain ⟨hcz33_0, hcz33_1, hfz33_0, hfz33_1⟩ := c2 BKq6))
  refine bodyPost_ret (results_cell_row rfl _ _ gbq6 28 #[.int .i64 0, .slice none 0 0] (0, 0) _ rfl (by refine pkx ?_; refine yh (cs := #[.int .i64 0, .slice none 0 0]) ?_ 1 _ rfl; refine pkx ?_; refine yh (cs := #[.int .i64 0, .slice none 0 0]) ?_ 0 _ rfl; refine pkx ?_; exact BKq6.out) Try.underlying28 rfl (by kernel_rfl)) rfl ?_
  exact ⟨_, by first | rfl | (simp [errW_none, yi] <;> rfl) | (simp [*, errW_none, yi] <;> rfl), by first | exact Kd.R_nil _ _ _ _ _ | exact Kd.N_nil _ _ _ _ _ | exact Kd.V_nil _ _ _ _ _ | exact Kd.Q_nil _ _ _ _ _ | exact Kd.S_nil _ _ _ _ _, pB1 HB.out GEq6.out⟩
def yr.l0 : Nat → Int → List Int → Int → Option (Bool)
 | 0, _, _, _ => none
 | k + 1, x0, x1, x5 => if x5 < (x1.length : Int) then (if 0 ≤ x5 then ((yJ.f x0 (rd x1 x5)).bind fun tq0 => (if tq0 = true then (if x5 > 0 then (if 0 ≤ (wrap64 (x5 - 1)) then (if (wrap64 (x5 - 1)) < (x1.length : Int) then (if (rd x1 (wrap64 (x5 - 1))) ≥ (rd x1 x5) then (some false) else (yr.l0 k x0 x1 (wrap64 (x5 + 1)))) else (none)) else (none)) else (yr.l0 k x0 x1 (wrap64 (x5 + 1)))) else (some false))) else (none)) else ((yaf.f x0 0 8).bind fun tq1 => (some tq1))
def yr.f (k : Nat) (a0 : Int) (l1 : List Int) : Option (Bool) := yr.l0 k a0 l1 0
theorem yr.mono_l : ∀ k, (∀ y0 y1 y2, LeO (yr.l0 k y0 y1 y2) (yr.l0 (k + 1) y0 y1 y2))
 | 0 => fun _ _ _ r h => by simp [yr.l0] at h
 | k + 1 => by
  have ih0 := yr.mono_l k
  ·intro y0 y1 y2
   unfold yr.l0
   repeat' first | (with_reducible first | exact ih0 _ _ _ | exact LeO.refl _ | exact LeO.none _ | refine LeO.ite ?_ ?_ | refine LeO.bind ?_ (fun _ => ?_)) | exact ih0 _ _ _ | exact LeO.none _ | refine LeO.ite ?_ ?_ | refine LeO.bind ?_ (fun _ => ?_)
theorem yr.mono : ∀ a0 a1 k, LeO (yr.f k a0 a1) (yr.f (k + 1) a0 a1) := by
 intro a0 a1 k
 have ih0 := yr.mono_l k
 unfold yr.f
 repeat' first | (with_reducible first | exact ih0 _ _ _ | exact LeO.refl _ | exact LeO.none _ | refine LeO.ite ?_ ?_ | refine LeO.bind ?_ (fun _ => ?_)) | exact ih0 _ _ _ | exact LeO.none _ | refine LeO.ite ?_ ?_ | refine LeO.bind ?_ (fun _ => ?_)
theorem yr.calls (k : Nat) (a0 : Int) (A1 : Option Addr) (c1 : Nat) (l1 : List Int) (r : Bool) (w : World) (hr1 : Kd.C (Kd.int .i64) w A1 l1.length l1) (hc1 : l1.length ≤ c1) (h : yr.f k a0 l1 = some r) :
  Calls Try.prog 112 #[.int .i64 a0, .slice A1 l1.length c1] w fun e w' => e = .returned (.bool r) ∧ Drawn0 w w' := by
 have HR1 := aQ hr1
 have HC1 := aQ hc1
 clear hr1 hc1
 have H : (yr.l0 k a0 l1 0) = some r := h
 clear h
 have H' := aQ H
 clear H
 go_enter Try.func112, Try.ntmps112
 go_wp2
 repeat (go_quiet (fail); try go_wp2)
 go_loopg [5] k (fun kq v5 w' => ∃ (x5_1 : Int), v5 = .int .i64 x5_1 ∧ Aside0 (yr.l0 kq a0 l1 x5_1 = some r) ∧ Aside0 (kq ≤ k) ∧ Drawn0 w w')
 case atStart => exact ⟨(0), rs_, H', ⟨Nat.le_refl _⟩, rd_⟩
 clear H'
 try clear c1
 try clear p2
 obtain ⟨x5_1, rfl, HA, HK1, ⟨m1, rfl⟩⟩ := hrel
 rcases gk with _ | k1
 ·exact absurd HA.out (by simp [yr.l0])
 have H := HA.out
 clear HA
 simp only [yr.l0] at H
 by_cases c3 : x5_1 < (l1.length : Int)
 ·rw [if_pos c3] at H
  have c3b0 := decide_eq_true c3
  clear c3
  replace H := gd H; obtain ⟨c4, H⟩ := H
  have c4b0 := decide_eq_true c4
  clear c4
  replace H := bo H; obtain ⟨tq0, A5, H⟩ := H
  (try dsimp only at H)
  by_cases c6 : tq0 = true
  ·subst c6
   rw [if_pos rfl] at H
   by_cases c7 : x5_1 > 0
   ·rw [if_pos c7] at H
    have c7b0 := decide_eq_true c7
    clear c7
    obtain ⟨ji8, hji8⟩ : ∃ j_ : Int, (wrap64 (x5_1 - 1)) = j_ := ⟨_, rfl⟩
    replace H : (if 0 ≤ (ji8) then (if (ji8) < (l1.length : Int) then (if (rd l1 (ji8)) ≥ (rd l1 x5_1) then (some false) else (yr.l0 k1 a0 l1 (wrap64 (x5_1 + 1)))) else (none)) else (none)) = some r := by first | (rw [hji8] at H; exact H) | (simp only [hji8] at H ⊢; exact H)
    (try rw [hji8] at A5)
    have hji8w : (IntKind.i64.wrap (x5_1 - 1)) = ji8 := (i64_w _).trans hji8
    replace H := gd H; obtain ⟨c9, H⟩ := H
    have c9b0 := decide_eq_true c9
    clear c9
    replace H := gd H; obtain ⟨c10, H⟩ := H
    have c10b0 := decide_eq_true c10
    clear c10
    by_cases c11 : (rd l1 (ji8)) ≥ (rd l1 x5_1)
    ·rw [if_pos c11] at H
     have c11b0 := decide_eq_true c11
     clear c11
     obtain rfl := Option.some.inj H
     have pq2 : 0 ≤ (x5_1 : Int) := of_decide_eq_true as_
     have qq2 : x5_1 < (l1.length : Int) := of_decide_eq_true as_
     obtain ⟨adq2, eq2, hxq2_0⟩ := Kd.at_int HR1.out x5_1 pq2 qq2
     cases eq2
     replace pq2 := eq_true pq2
     replace qq2 := eq_true qq2
     go_wp2_with (first | (go_at_call 55; (with_reducible refine (yJ.calls a0 (rd l1 x5_1) true _ A5.out).mono ?_); rintro e w' ⟨rfl, ⟨nd, rfl⟩⟩; (try exact dq_); have pq3 : 0 ≤ ((ji8) : Int) := of_decide_eq_true as_; have qq3 : (ji8) < (l1.length : Int) := of_decide_eq_true as_; obtain ⟨adq3, eq3, hxq3_0⟩ := Kd.at_int HR1.out (ji8) pq3 qq3; obtain rfl : adq2 = adq3 := (by injection eq3); replace pq3 := eq_true pq3; replace qq3 := eq_true qq3; have pq4 : 0 ≤ (x5_1 : Int) := of_decide_eq_true as_; have qq4 : x5_1 < (l1.length : Int) := of_decide_eq_true as_; obtain ⟨adq4, eq4, hxq4_0⟩ := Kd.at_int HR1.out x5_1 pq4 qq4; obtain rfl : adq2 = adq4 := (by injection eq4); replace pq4 := eq_true pq4; replace qq4 := eq_true qq4))
     repeat (go_quiet (first | (go_at_call 55; (with_reducible refine (yJ.calls a0 (rd l1 x5_1) true _ A5.out).mono ?_); rintro e w' ⟨rfl, ⟨nd, rfl⟩⟩; (try exact dq_); have pq3 : 0 ≤ ((ji8) : Int) := of_decide_eq_true as_; have qq3 : (ji8) < (l1.length : Int) := of_decide_eq_true as_; obtain ⟨adq3, eq3, hxq3_0⟩ := Kd.at_int HR1.out (ji8) pq3 qq3; obtain rfl : adq2 = adq3 := (by injection eq3); replace pq3 := eq_true pq3; replace qq3 := eq_true qq3; have pq4 : 0 ≤ (x5_1 : Int) := of_decide_eq_true as_; have qq4 : x5_1 < (l1.length : Int) := of_decide_eq_true as_; obtain ⟨adq4, eq4, hxq4_0⟩ := Kd.at_int HR1.out x5_1 pq4 qq4; obtain rfl : adq2 = adq4 := (by injection eq4); replace pq4 := eq_true pq4; replace qq4 := eq_true qq4)); try go_wp2_with (first | (go_at_call 55; (with_reducible refine (yJ.calls a0 (rd l1 x5_1) true _ A5.out).mono ?_); rintro e w' ⟨rfl, ⟨nd, rfl⟩⟩; (try exact dq_); have pq3 : 0 ≤ ((ji8) : Int) := of_decide_eq_true as_; have qq3 : (ji8) < (l1.length : Int) := of_decide_eq_true as_; obtain ⟨adq3, eq3, hxq3_0⟩ := Kd.at_int HR1.out (ji8) pq3 qq3; obtain rfl : adq2 = adq3 := (by injection eq3); replace pq3 := eq_true pq3; replace qq3 := eq_true qq3; have pq4 : 0 ≤ (x5_1 : Int) := of_decide_eq_true as_; have qq4 : x5_1 < (l1.length : Int) := of_decide_eq_true as_; obtain ⟨adq4, eq4, hxq4_0⟩ := Kd.at_int HR1.out x5_1 pq4 qq4; obtain rfl : adq2 = adq4 := (by injection eq4); replace pq4 := eq_true pq4; replace qq4 := eq_true qq4)))
     go_ret
     exact ⟨by first | rfl | (simp; done) | (simp only [← hji8] <;> (first | rfl | simp)) | (simp [*]; done), rd_⟩
    ·rw [if_neg c11] at H
     have c11b0 := decide_eq_false c11
     clear c11
     have H' := aQ H
     clear H
     have pq2 : 0 ≤ (x5_1 : Int) := of_decide_eq_true as_
     have qq2 : x5_1 < (l1.length : Int) := of_decide_eq_true as_
     obtain ⟨adq2, eq2, hxq2_0⟩ := Kd.at_int HR1.out x5_1 pq2 qq2
     cases eq2
     replace pq2 := eq_true pq2
     replace qq2 := eq_true qq2
     go_wp2_with (first | (go_at_call 55; (with_reducible refine (yJ.calls a0 (rd l1 x5_1) true _ A5.out).mono ?_); rintro e w' ⟨rfl, ⟨nd, rfl⟩⟩; (try exact dq_); have pq3 : 0 ≤ ((ji8) : Int) := of_decide_eq_true as_; have qq3 : (ji8) < (l1.length : Int) := of_decide_eq_true as_; obtain ⟨adq3, eq3, hxq3_0⟩ := Kd.at_int HR1.out (ji8) pq3 qq3; obtain rfl : adq2 = adq3 := (by injection eq3); replace pq3 := eq_true pq3; replace qq3 := eq_true qq3; have pq4 : 0 ≤ (x5_1 : Int) := of_decide_eq_true as_; have qq4 : x5_1 < (l1.length : Int) := of_decide_eq_true as_; obtain ⟨adq4, eq4, hxq4_0⟩ := Kd.at_int HR1.out x5_1 pq4 qq4; obtain rfl : adq2 = adq4 := (by injection eq4); replace pq4 := eq_true pq4; replace qq4 := eq_true qq4))
     repeat (go_quiet (first | (go_at_call 55; (with_reducible refine (yJ.calls a0 (rd l1 x5_1) true _ A5.out).mono ?_); rintro e w' ⟨rfl, ⟨nd, rfl⟩⟩; (try exact dq_); have pq3 : 0 ≤ ((ji8) : Int) := of_decide_eq_true as_; have qq3 : (ji8) < (l1.length : Int) := of_decide_eq_true as_; obtain ⟨adq3, eq3, hxq3_0⟩ := Kd.at_int HR1.out (ji8) pq3 qq3; obtain rfl : adq2 = adq3 := (by injection eq3); replace pq3 := eq_true pq3; replace qq3 := eq_true qq3; have pq4 : 0 ≤ (x5_1 : Int) := of_decide_eq_true as_; have qq4 : x5_1 < (l1.length : Int) := of_decide_eq_true as_; obtain ⟨adq4, eq4, hxq4_0⟩ := Kd.at_int HR1.out x5_1 pq4 qq4; obtain rfl : adq2 = adq4 := (by injection eq4); replace pq4 := eq_true pq4; replace qq4 := eq_true qq4)); try go_wp2_with (first | (go_at_call 55; (with_reducible refine (yJ.calls a0 (rd l1 x5_1) true _ A5.out).mono ?_); rintro e w' ⟨rfl, ⟨nd, rfl⟩⟩; (try exact dq_); have pq3 : 0 ≤ ((ji8) : Int) := of_decide_eq_true as_; have qq3 : (ji8) < (l1.length : Int) := of_decide_eq_true as_; obtain ⟨adq3, eq3, hxq3_0⟩ := Kd.at_int HR1.out (ji8) pq3 qq3; obtain rfl : adq2 = adq3 := (by injection eq3); replace pq3 := eq_true pq3; replace qq3 := eq_true qq3; have pq4 : 0 ≤ (x5_1 : Int) := of_decide_eq_true as_; have qq4 : x5_1 < (l1.length : Int) := of_decide_eq_true as_; obtain ⟨adq4, eq4, hxq4_0⟩ := Kd.at_int HR1.out x5_1 pq4 qq4; obtain rfl : adq2 = adq4 := (by injection eq4); replace pq4 := eq_true pq4; replace qq4 := eq_true qq4)))
     go_roundg k1
     case measure => have := HK1.out; omega
     case rel => exact ⟨(wrap64 (x5_1 + 1)), rs_, H', ⟨by have := HK1.out; omega⟩, rd_⟩
   ·rw [if_neg c7] at H
    have c7b0 := decide_eq_false c7
    clear c7
    have H' := aQ H
    clear H
    have pq2 : 0 ≤ (x5_1 : Int) := of_decide_eq_true as_
    have qq2 : x5_1 < (l1.length : Int) := of_decide_eq_true as_
    obtain ⟨adq2, eq2, hxq2_0⟩ := Kd.at_int HR1.out x5_1 pq2 qq2
    cases eq2
    replace pq2 := eq_true pq2
    replace qq2 := eq_true qq2
    go_wp2_with (first | (go_at_call 55; (with_reducible refine (yJ.calls a0 (rd l1 x5_1) true _ A5.out).mono ?_); rintro e w' ⟨rfl, ⟨nd, rfl⟩⟩; (try exact dq_)))
    repeat (go_quiet (first | (go_at_call 55; (with_reducible refine (yJ.calls a0 (rd l1 x5_1) true _ A5.out).mono ?_); rintro e w' ⟨rfl, ⟨nd, rfl⟩⟩; (try exact dq_))); try go_wp2_with (first | (go_at_call 55; (with_reducible refine (yJ.calls a0 (rd l1 x5_1) true _ A5.out).mono ?_); rintro e w' ⟨rfl, ⟨nd, rfl⟩⟩; (try exact dq_))))
    go_roundg k1
    case measure => have := HK1.out; omega
    case rel => exact ⟨(wrap64 (x5_1 + 1)), rs_, H', ⟨by have := HK1.out; omega⟩, rd_⟩
  ·replace c6 := Bool.eq_false_iff.mpr c6
   subst c6
   have H1 : (some false) = some r := by rw [if_neg (show ¬ (false = true) by decide)] at H; exact H
   clear H
   have H := H1
   clear H1
   obtain rfl := Option.some.inj H
   have pq2 : 0 ≤ (x5_1 : Int) := of_decide_eq_true as_
   have qq2 : x5_1 < (l1.length : Int) := of_decide_eq_true as_
   obtain ⟨adq2, eq2, hxq2_0⟩ := Kd.at_int HR1.out x5_1 pq2 qq2
   cases eq2
   replace pq2 := eq_true pq2
   replace qq2 := eq_true qq2
   go_wp2_with (first | (go_at_call 55; (with_reducible refine (yJ.calls a0 (rd l1 x5_1) false _ A5.out).mono ?_); rintro e w' ⟨rfl, ⟨nd, rfl⟩⟩; (try exact dq_)))
   repeat (go_quiet (first | (go_at_call 55; (with_reducible refine (yJ.calls a0 (rd l1 x5_1) false _ A5.out).mono ?_); rintro e w' ⟨rfl, ⟨nd, rfl⟩⟩; (try exact dq_))); try go_wp2_with (first | (go_at_call 55; (with_reducible refine (yJ.calls a0 (rd l1 x5_1) false _ A5.out).mono ?_); rintro e w' ⟨rfl, ⟨nd, rfl⟩⟩; (try exact dq_))))
   go_ret
   exact ⟨rs_, rd_⟩
 ·rw [if_neg c3] at H
  have c3b0 := decide_eq_false c3
  clear c3
  replace H := bo H; obtain ⟨tq1, A12, H⟩ := H
  (try dsimp only at H)
  obtain rfl := Option.some.inj H
  go_wp2_with (first | (go_at_call 98; (with_reducible refine (yaf.calls a0 0 8 tq1 _ A12.out).mono ?_); rintro e w' ⟨rfl, ⟨nd, rfl⟩⟩; (try exact dq_)))
  repeat (go_quiet (first | (go_at_call 98; (with_reducible refine (yaf.calls a0 0 8 tq1 _ A12.out).mono ?_); rintro e w' ⟨rfl, ⟨nd, rfl⟩⟩; (try exact dq_))); try go_wp2_with (first | (go_at_call 98; (with_reducible refine (yaf.calls a0 0 8 tq1 _ A12.out).mono ?_); rintro e w' ⟨rfl, ⟨nd, rfl⟩⟩; (try exact dq_))))
  go_ret
  exact ⟨rs_, rd_⟩
def yn.l0 : Nat → Int → Int → Int → Int → Int → List Int → Option (Bool)
 | 0, _, _, _, _, _, _ => none
 | k + 1, x1, x2, x3, x9, x145002000, x145002001 => if x9 < x145002000 then ((yU.f x2 x9).bind fun tq0 => (if tq0 = true then ((yU.f x1 x9).bind fun tq1 => (if tq1 = true then (yn.l0 k x1 x2 x3 (wrap64 (x9 + 1)) x145002000 x145002001) else (if 0 ≤ (IntKind.u64.wrap (x3)) then (if 0 ≤ (IntKind.u64.wrap (x9)) then ((yL.f k x145002001 (wrap64 ((wrap64 (x1 - (shl .i64 1 (IntKind.u64.wrap (x3))))) + (shl .i64 1 (IntKind.u64.wrap (x9)))))).bind fun tq2 => (if tq2 = true then (some true) else (yn.l0 k x1 x2 x3 (wrap64 (x9 + 1)) x145002000 x145002001))) else (none)) else (none)))) else (yn.l0 k x1 x2 x3 (wrap64 (x9 + 1)) x145002000 x145002001))) else (some false)
def yn.f (k : Nat) (a0_0 : Int) (l0_1 : List Int) (a1 : Int) (a2 : Int) (a3 : Int) : Option (Bool) := yn.l0 k a1 a2 a3 0 a0_0 l0_1
theorem yn.mono_l : ∀ k, (∀ y0 y1 y2 y3 y4 y5, LeO (yn.l0 k y0 y1 y2 y3 y4 y5) (yn.l0 (k + 1) y0 y1 y2 y3 y4 y5))
 | 0 => fun _ _ _ _ _ _ r h => by simp [yn.l0] at h
 | k + 1 => by
  have ih0 := yn.mono_l k
  ·intro y0 y1 y2 y3 y4 y5
   unfold yn.l0
   repeat' first | (with_reducible first | exact ih0 _ _ _ _ _ _ | exact yL.mono _ _ _ | exact LeO.refl _ | exact LeO.none _ | refine LeO.ite ?_ ?_ | refine LeO.bind ?_ (fun _ => ?_)) | exact ih0 _ _ _ _ _ _ | exact LeO.none _ | refine LeO.ite ?_ ?_ | refine LeO.bind ?_ (fun _ => ?_)
theorem yn.mono : ∀ a0 a1 a2 a3 a4 k, LeO (yn.f k a0 a1 a2 a3 a4) (yn.f (k + 1) a0 a1 a2 a3 a4) := by
 intro a0 a1 a2 a3 a4 k
 have ih0 := yn.mono_l k
 unfold yn.f
 repeat' first | (with_reducible first | exact ih0 _ _ _ _ _ _ | exact yL.mono _ _ _ | exact LeO.refl _ | exact LeO.none _ | refine LeO.ite ?_ ?_ | refine LeO.bind ?_ (fun _ => ?_)) | exact ih0 _ _ _ _ _ _ | exact LeO.none _ | refine LeO.ite ?_ ?_ | refine LeO.bind ?_ (fun _ => ?_)
theorem yn.calls (k : Nat) (a0_0 : Int) (A0_1 : Option Addr) (c0_1 : Nat) (l0_1 : List Int) (a1 : Int) (a2 : Int) (a3 : Int) (r : Bool) (w : World) (hr0_1 : Kd.C (Kd.int .i64) w A0_1 l0_1.length l0_1) (hc0_1 : l0_1.length ≤ c0_1) (h : yn.f k a0_0 l0_1 a1 a2 a3 = some r) :
  Calls Try.prog 144 #[.agg #[.int .i64 a0_0, .slice A0_1 l0_1.length c0_1], .int .i64 a1, .int .i64 a2, .int .i64 a3] w fun e w' => e = .returned (.bool r) ∧ Below w.heap.size w w' := by
 have hu28 := Try.underlying28
 have HR0_1 := aQ hr0_1
 have HC0_1 := aQ hc0_1
 clear hr0_1 hc0_1
 have HB := aQ (Below.refl w.heap.size w)
 have H : (yn.l0 k a1 a2 a3 0 a0_0 l0_1) = some r := h
 clear h
 have H' := aQ H
 clear H
 go_enter Try.func144, Try.ntmps144
 go_wp2_with (first | ((with_reducible refine yb (N := 4) rfl ?_); refine bx 4 #[.int .i64 a0_0, .slice A0_1 l0_1.length c0_1] 28 ?_; intro gbq3 hg w5 hbox hb; have BKq3 := aQ (hbox); have GWq3 := gB HB hg; have GEq3 := gB HB hg; replace HB := bs HB hb; clear hb hbox hg))
 go_loopg [9] k (fun kq v9 w' => ∃ (x9_1 : Int), v9 = .int .i64 x9_1 ∧ Aside0 (yn.l0 kq a1 a2 a3 x9_1 a0_0 l0_1 = some r) ∧ Aside0 (kq ≤ k) ∧ Aside0 (w'.heap[gbq3]? = some (.cells #[.int .i64 a0_0, (.slice A0_1 l0_1.length c0_1)] 28 (0, 0))) ∧ Aside0 (Below w.heap.size w w'))
 case atStart => exact ⟨(0), rs_, H', ⟨Nat.le_refl _⟩, ⟨pk BKq3.out⟩, ⟨pB1 HB.out GEq3.out⟩⟩
 clear H'
 try clear c1
 try clear p2
 obtain ⟨x9_1, rfl, HA, HK1, BKq3, HB⟩ := hrel
 rcases gk with _ | k1
 ·exact absurd HA.out (by simp [yn.l0])
 have H := HA.out
 clear HA
 simp only [yn.l0] at H
 by_cases c6 : x9_1 < a0_0
 ·rw [if_pos c6] at H
  have c6b0 := decide_eq_true c6
  clear c6
  replace H := bo H; obtain ⟨tq0, A7, H⟩ := H
  (try dsimp only at H)
  by_cases c8 : tq0 = true
  ·subst c8
   rw [if_pos rfl] at H
   replace H := bo H; obtain ⟨tq1, A9, H⟩ := H
   (try dsimp only at H)
   by_cases c10 : tq1 = true
   ·subst c10
    rw [if_pos rfl] at H
    have H' := aQ H
    clear H
    obtain ⟨hcz11_0, hcz11_1, hfz11_0, hfz11_1⟩ := c2 BKq3
    go_wp2_with (first | ((with_reducible refine yaJ (f := 69) rfl ?_); refine gl (some 18) Try.func69 #[.int .i64 a2, .int .i64 x9_1] ?_; (with_reducible refine (yU.calls a2 x9_1 true _ A7.out).mono ?_); rintro e w' ⟨rfl, ⟨nd, rfl⟩⟩; refine ⟨_, rfl, ?_⟩) | (go_at_call 69; (with_reducible refine (yU.calls a1 x9_1 true _ A9.out).mono ?_); rintro e w' ⟨rfl, ⟨nd, rfl⟩⟩))
    go_roundg k1
    case measure => have := HK1.out; omega
    case rel => exact ⟨(wrap64 (x9_1 + 1)), rs_, H', ⟨by have := HK1.out; omega⟩, ⟨pk BKq3.out⟩, ⟨pB1 HB.out GEq3.out⟩⟩
   ·replace c10 := Bool.eq_false_iff.mpr c10
    subst c10
    have H1 : (if 0 ≤ (IntKind.u64.wrap (a3)) then (if 0 ≤ (IntKind.u64.wrap (x9_1)) then ((yL.f k1 l0_1 (wrap64 ((wrap64 (a1 - (shl .i64 1 (IntKind.u64.wrap (a3))))) + (shl .i64 1 (IntKind.u64.wrap (x9_1)))))).bind fun tq2 => (if tq2 = true then (some true) else (yn.l0 k1 a1 a2 a3 (wrap64 (x9_1 + 1)) a0_0 l0_1))) else (none)) else (none)) = some r := by rw [if_neg (show ¬ (false = true) by decide)] at H; exact H
    clear H
    have H := H1
    clear H1
    obtain ⟨ji12, hji12⟩ : ∃ j_ : Int, (IntKind.u64.wrap (a3)) = j_ := ⟨_, rfl⟩
    replace H : (if 0 ≤ (ji12) then (if 0 ≤ (IntKind.u64.wrap (x9_1)) then ((yL.f k1 l0_1 (wrap64 ((wrap64 (a1 - (shl .i64 1 (ji12)))) + (shl .i64 1 (IntKind.u64.wrap (x9_1)))))).bind fun tq2 => (if tq2 = true then (some true) else (yn.l0 k1 a1 a2 a3 (wrap64 (x9_1 + 1)) a0_0 l0_1))) else (none)) else (none)) = some r := by first | (rw [hji12] at H; exact H) | (simp only [hji12] at H ⊢; exact H)
    (try rw [hji12] at A7)
    (try rw [hji12] at A9)
    replace H := gd H; obtain ⟨c13, H⟩ := H
    have c13b0 := eq_true c13
    have c13b1 := decide_eq_true c13
    clear c13
    obtain ⟨ji14, hji14⟩ : ∃ j_ : Int, (shl .i64 1 (ji12)) = j_ := ⟨_, rfl⟩
    replace H : (if 0 ≤ (IntKind.u64.wrap (x9_1)) then ((yL.f k1 l0_1 (wrap64 ((wrap64 (a1 - (ji14))) + (shl .i64 1 (IntKind.u64.wrap (x9_1)))))).bind fun tq2 => (if tq2 = true then (some true) else (yn.l0 k1 a1 a2 a3 (wrap64 (x9_1 + 1)) a0_0 l0_1))) else (none)) = some r := by first | (rw [hji14] at H; exact H) | (simp only [hji14] at H ⊢; exact H)
    (try rw [hji14] at A7)
    (try rw [hji14] at A9)
    have hji14_ : (IntKind.i64.wrap (1 * 2 ^ min (ji12).toNat 64)) = ji14 := hji14
    have hji14z : (ji12) ≤ 64 → (IntKind.i64.wrap (1 * 2 ^ (ji12).toNat)) = ji14 := ybA hji14
    have hji14u : (IntKind.i64.wrap (2 ^ min (ji12).toNat 64)) = ji14 := by have h_ := hji14_; rw [Int.one_mul] at h_; exact h_
    have hji14v : (ji12) ≤ 64 → (IntKind.i64.wrap (2 ^ (ji12).toNat)) = ji14 := fun hle_ => by have h_ := hji14z hle_; rw [Int.one_mul] at h_; exact h_
    have hji14y : (wrap64 (1 * 2 ^ min (ji12).toNat 64)) = ji14 := (i64_w _).symm.trans hji14_
    have hji14x : (ji12) ≤ 64 → (wrap64 (1 * 2 ^ (ji12).toNat)) = ji14 := fun h_ => (i64_w _).symm.trans (hji14z h_)
    obtain ⟨ji15, hji15⟩ : ∃ j_ : Int, (IntKind.u64.wrap (x9_1)) = j_ := ⟨_, rfl⟩
    replace H : (if 0 ≤ (ji15) then ((yL.f k1 l0_1 (wrap64 ((wrap64 (a1 - (ji14))) + (shl .i64 1 (ji15))))).bind fun tq2 => (if tq2 = true then (some true) else (yn.l0 k1 a1 a2 a3 (wrap64 (x9_1 + 1)) a0_0 l0_1))) else (none)) = some r := by first | (rw [hji15] at H; exact H) | (simp only [hji15] at H ⊢; exact H)
    (try rw [hji15] at A7)
    (try rw [hji15] at A9)
    replace H := gd H; obtain ⟨c16, H⟩ := H
    have c16b0 := eq_true c16
    have c16b1 := decide_eq_true c16
    clear c16
    obtain ⟨ji17, hji17⟩ : ∃ j_ : Int, (shl .i64 1 (ji15)) = j_ := ⟨_, rfl⟩
    replace H : ((yL.f k1 l0_1 (wrap64 ((wrap64 (a1 - (ji14))) + (ji17)))).bind fun tq2 => (if tq2 = true then (some true) else (yn.l0 k1 a1 a2 a3 (wrap64 (x9_1 + 1)) a0_0 l0_1))) = some r := by first | (rw [hji17] at H; exact H) | (simp only [hji17] at H ⊢; exact H)
    (try rw [hji17] at A7)
    (try rw [hji17] at A9)
    have hji17_ : (IntKind.i64.wrap (1 * 2 ^ min (ji15).toNat 64)) = ji17 := hji17
    have hji17z : (ji15) ≤ 64 → (IntKind.i64.wrap (1 * 2 ^ (ji15).toNat)) = ji17 := ybA hji17
    have hji17u : (IntKind.i64.wrap (2 ^ min (ji15).toNat 64)) = ji17 := by have h_ := hji17_; rw [Int.one_mul] at h_; exact h_
    have hji17v : (ji15) ≤ 64 → (IntKind.i64.wrap (2 ^ (ji15).toNat)) = ji17 := fun hle_ => by have h_ := hji17z hle_; rw [Int.one_mul] at h_; exact h_
    have hji17y : (wrap64 (1 * 2 ^ min (ji15).toNat 64)) = ji17 := (i64_w _).symm.trans hji17_
    have hji17x : (ji15) ≤ 64 → (wrap64 (1 * 2 ^ (ji15).toNat)) = ji17 := fun h_ => (i64_w _).symm.trans (hji17z h_)
    replace H := bo H; obtain ⟨tq2, A18, H⟩ := H
    (try dsimp only at H)
    by_cases c19 : tq2 = true
    ·subst c19
     rw [if_pos rfl] at H
     obtain rfl := Option.some.inj H
     obtain ⟨hcz20_0, hcz20_1, hfz20_0, hfz20_1⟩ := c2 BKq3
     go_wp2_with (first | ((with_reducible refine yaJ (f := 69) rfl ?_); refine gl (some 18) Try.func69 #[.int .i64 a2, .int .i64 x9_1] ?_; (with_reducible refine (yU.calls a2 x9_1 true _ A7.out).mono ?_); rintro e w' ⟨rfl, ⟨nd, rfl⟩⟩; refine ⟨_, rfl, ?_⟩) | (go_at_call 69; (with_reducible refine (yU.calls a1 x9_1 false _ A9.out).mono ?_); rintro e w' ⟨rfl, ⟨nd, rfl⟩⟩) | (go_at_call 115; (with_reducible refine (yL.calls k1 _ _ l0_1 (wrap64 ((wrap64 (a1 - (ji14))) + (ji17))) true _ ?side1 ?side2 A18.out).mono ?_); (case side1 => exact pC ((Kd.C_below HR0_1.out (pB1 HB.out GEq3.out)))); (case side2 => exact HC0_1.out); rintro e w' ⟨rfl, ⟨nd, rfl⟩⟩))
     go_ret
     exact ⟨by first | rfl | (simp [errW_none, yi] <;> rfl) | (simp only [← hji12, ← hji14, ← hji15, ← hji17]; first | rfl | (simp [errW_none, yi] <;> rfl)) | (simp [*, errW_none, yi] <;> rfl), pB1 HB.out GEq3.out⟩
    ·replace c19 := Bool.eq_false_iff.mpr c19
     subst c19
     have H1 : (yn.l0 k1 a1 a2 a3 (wrap64 (x9_1 + 1)) a0_0 l0_1) = some r := by rw [if_neg (show ¬ (false = true) by decide)] at H; exact H
     clear H
     have H := H1
     clear H1
     have H' := aQ H
     clear H
     obtain ⟨hcz21_0, hcz21_1, hfz21_0, hfz21_1⟩ := c2 BKq3
     go_wp2_with (first | ((with_reducible refine yaJ (f := 69) rfl ?_); refine gl (some 18) Try.func69 #[.int .i64 a2, .int .i64 x9_1] ?_; (with_reducible refine (yU.calls a2 x9_1 true _ A7.out).mono ?_); rintro e w' ⟨rfl, ⟨nd, rfl⟩⟩; refine ⟨_, rfl, ?_⟩) | (go_at_call 69; (with_reducible refine (yU.calls a1 x9_1 false _ A9.out).mono ?_); rintro e w' ⟨rfl, ⟨nd, rfl⟩⟩) | (go_at_call 115; (with_reducible refine (yL.calls k1 _ _ l0_1 (wrap64 ((wrap64 (a1 - (ji14))) + (ji17))) false _ ?side1 ?side2 A18.out).mono ?_); (case side1 => exact pC ((Kd.C_below HR0_1.out (pB1 HB.out GEq3.out)))); (case side2 => exact HC0_1.out); rintro e w' ⟨rfl, ⟨nd, rfl⟩⟩))
     go_roundg k1
     case measure => have := HK1.out; omega
     case rel => exact ⟨(wrap64 (x9_1 + 1)), rs_, H', ⟨by have := HK1.out; omega⟩, ⟨pk BKq3.out⟩, ⟨pB1 HB.out GEq3.out⟩⟩
  ·replace c8 := Bool.eq_false_iff.mpr c8
   subst c8
   have H1 : (yn.l0 k1 a1 a2 a3 (wrap64 (x9_1 + 1)) a0_0 l0_1) = some r := by rw [if_neg (show ¬ (false = true) by decide)] at H; exact H
   clear H
   have H := H1
   clear H1
   have H' := aQ H
   clear H
   obtain ⟨hcz22_0, hcz22_1, hfz22_0, hfz22_1⟩ := c2 BKq3
   go_wp2_with (first | ((with_reducible refine yaJ (f := 69) rfl ?_); refine gl (some 18) Try.func69 #[.int .i64 a2, .int .i64 x9_1] ?_; (with_reducible refine (yU.calls a2 x9_1 false _ A7.out).mono ?_); rintro e w' ⟨rfl, ⟨nd, rfl⟩⟩; refine ⟨_, rfl, ?_⟩))
   go_roundg k1
   case measure => have := HK1.out; omega
   case rel => exact ⟨(wrap64 (x9_1 + 1)), rs_, H', ⟨by have := HK1.out; omega⟩, ⟨pk BKq3.out⟩, ⟨pB1 HB.out GEq3.out⟩⟩
 ·rw [if_neg c6] at H
  have c6b0 := decide_eq_false c6
  clear c6
  obtain rfl := Option.some.inj H
  obtain ⟨hcz23_0, hcz23_1, hfz23_0, hfz23_1⟩ := c2 BKq3
  go_wp2
  go_ret
  exact ⟨re_, pB1 HB.out GEq3.out⟩
mutual
def yd.l0 : Nat → Int → Int → List Int → Option (Int × Int × Int × Bool)
 | 0, _, _, _ => none
 | k + 1, x4, x112002000, x112002001 => if x4 < (x112002001.length : Int) then (yd.l1 k x4 0 x112002000 x112002001) else (some (0, 0, 0, false))
def yd.l1 : Nat → Int → Int → Int → List Int → Option (Int × Int × Int × Bool)
 | 0, _, _, _, _ => none
 | k + 1, x4, x5, x112002000, x112002001 => if x5 < (x112002001.length : Int) then (yd.l2 k x4 x5 0 x112002000 x112002001) else (yd.l0 k (wrap64 (x4 + 1)) x112002000 x112002001)
def yd.l2 : Nat → Int → Int → Int → Int → List Int → Option (Int × Int × Int × Bool)
 | 0, _, _, _, _, _ => none
 | k + 1, x4, x5, x6, x112002000, x112002001 => if x6 < x112002000 then (if 0 ≤ x4 then (if x4 < (x112002001.length : Int) then (if 0 ≤ x5 then (if x5 < (x112002001.length : Int) then ((yU.f (rd x112002001 x4) x6).bind fun tq0 => (if tq0 = true then ((yU.f (rd x112002001 x5) x6).bind fun tq1 => (if tq1 = true then (yd.l2 k x4 x5 (wrap64 (x6 + 1)) x112002000 x112002001) else ((yn.f k x112002000 x112002001 (rd x112002001 x4) (rd x112002001 x5) x6).bind fun tq2 => (if tq2 = true then (yd.l2 k x4 x5 (wrap64 (x6 + 1)) x112002000 x112002001) else (some (rd x112002001 x4, rd x112002001 x5, x6, true)))))) else (yd.l2 k x4 x5 (wrap64 (x6 + 1)) x112002000 x112002001))) else (none)) else (none)) else (none)) else (none)) else (yd.l1 k x4 (wrap64 (x5 + 1)) x112002000 x112002001)
end
def yd.f (k : Nat) (a0_0 : Int) (l0_1 : List Int) : Option (Int × Int × Int × Bool) := (yr.f k a0_0 l0_1).bind fun tq3 => (if tq3 = true then (yd.l0 k 0 a0_0 l0_1) else (some (0, 0, 0, false)))
theorem yd.mono_l : ∀ k, (∀ y0 y1 y2, LeO (yd.l0 k y0 y1 y2) (yd.l0 (k + 1) y0 y1 y2)) ∧ (∀ y0 y1 y2 y3, LeO (yd.l1 k y0 y1 y2 y3) (yd.l1 (k + 1) y0 y1 y2 y3)) ∧ (∀ y0 y1 y2 y3 y4, LeO (yd.l2 k y0 y1 y2 y3 y4) (yd.l2 (k + 1) y0 y1 y2 y3 y4))
 | 0 => ⟨fun _ _ _ r h => by simp [yd.l0] at h, fun _ _ _ _ r h => by simp [yd.l1] at h, fun _ _ _ _ _ r h => by simp [yd.l2] at h⟩
 | k + 1 => by
  obtain ⟨ih0, ih1, ih2⟩ := yd.mono_l k
  refine ⟨?_, ?_, ?_⟩
  ·intro y0 y1 y2
   unfold yd.l0
   repeat' first | (with_reducible first | exact ih0 _ _ _ | exact ih1 _ _ _ _ | exact ih2 _ _ _ _ _ | exact yr.mono _ _ _ | exact yn.mono _ _ _ _ _ _ | exact LeO.refl _ | exact LeO.none _ | refine LeO.ite ?_ ?_ | refine LeO.bind ?_ (fun _ => ?_)) | exact ih0 _ _ _ | exact ih1 _ _ _ _ | exact ih2 _ _ _ _ _ | exact LeO.none _ | refine LeO.ite ?_ ?_ | refine LeO.bind ?_ (fun _ => ?_)
  ·intro y0 y1 y2 y3
   unfold yd.l1
   repeat' first | (with_reducible first | exact ih0 _ _ _ | exact ih1 _ _ _ _ | exact ih2 _ _ _ _ _ | exact yr.mono _ _ _ | exact yn.mono _ _ _ _ _ _ | exact LeO.refl _ | exact LeO.none _ | refine LeO.ite ?_ ?_ | refine LeO.bind ?_ (fun _ => ?_)) | exact ih0 _ _ _ | exact ih1 _ _ _ _ | exact ih2 _ _ _ _ _ | exact LeO.none _ | refine LeO.ite ?_ ?_ | refine LeO.bind ?_ (fun _ => ?_)
  ·intro y0 y1 y2 y3 y4
   unfold yd.l2
   repeat' first | (with_reducible first | exact ih0 _ _ _ | exact ih1 _ _ _ _ | exact ih2 _ _ _ _ _ | exact yr.mono _ _ _ | exact yn.mono _ _ _ _ _ _ | exact LeO.refl _ | exact LeO.none _ | refine LeO.ite ?_ ?_ | refine LeO.bind ?_ (fun _ => ?_)) | exact ih0 _ _ _ | exact ih1 _ _ _ _ | exact ih2 _ _ _ _ _ | exact LeO.none _ | refine LeO.ite ?_ ?_ | refine LeO.bind ?_ (fun _ => ?_)
theorem yd.mono : ∀ a0 a1 k, LeO (yd.f k a0 a1) (yd.f (k + 1) a0 a1) := by
 intro a0 a1 k
 obtain ⟨ih0, ih1, ih2⟩ := yd.mono_l k
 unfold yd.f
 repeat' first | (with_reducible first | exact ih0 _ _ _ | exact ih1 _ _ _ _ | exact ih2 _ _ _ _ _ | exact yr.mono _ _ _ | exact yn.mono _ _ _ _ _ _ | exact LeO.refl _ | exact LeO.none _ | refine LeO.ite ?_ ?_ | refine LeO.bind ?_ (fun _ => ?_)) | exact ih0 _ _ _ | exact ih1 _ _ _ _ | exact ih2 _ _ _ _ _ | exact LeO.none _ | refine LeO.ite ?_ ?_ | refine LeO.bind ?_ (fun _ => ?_)
theorem yd.calls (k : Nat) (a0_0 : Int) (A0_1 : Option Addr) (c0_1 : Nat) (l0_1 : List Int) (r1 : Int) (r2 : Int) (r3 : Int) (r4 : Bool) (w : World) (hr0_1 : Kd.C (Kd.int .i64) w A0_1 l0_1.length l0_1) (hc0_1 : l0_1.length ≤ c0_1) (h : yd.f k a0_0 l0_1 = some (r1, r2, r3, r4)) :
  Calls Try.prog 111 #[.agg #[.int .i64 a0_0, .slice A0_1 l0_1.length c0_1]] w fun e w' => e = .returned (.tuple #[.agg #[.int .i64 r1, .int .i64 r2, .int .i64 r3], .bool r4]) ∧ Below w.heap.size w w' := by
 have hu28 := Try.underlying28
 have hu94 := Try.underlying94
 have HR0_1 := aQ hr0_1
 have HC0_1 := aQ hc0_1
 clear hr0_1 hc0_1
 have HB := aQ (Below.refl w.heap.size w)
 have H := h
 clear h
 unfold yd.f at H
 (try dsimp only at H)
 replace H := bo H; obtain ⟨tq3, A2, H⟩ := H
 (try dsimp only at H)
 by_cases c3 : tq3 = true
 ·subst c3
  rw [if_pos rfl] at H
  have H' := aQ H
  clear H
  go_enter Try.func111, Try.ntmps111
  go_wp2_with (first | ((with_reducible refine yb (N := 1) rfl ?_); refine bx 1 #[.int .i64 a0_0, .slice A0_1 l0_1.length c0_1] 28 ?_; intro gbq4 hg w4 hbox hb; have BKq4 := aQ (hbox); have GWq4 := gB HB hg; have GEq4 := gB HB hg; replace HB := bs HB hb; clear hb hbox hg) | ((with_reducible refine yb (N := 2) rfl ?_); refine bx 2 #[.int .i64 0, .int .i64 0, .int .i64 0] 94 ?_; intro gbq5 hg w5 hbox hb; have BKq5 := aQ (hbox); have GWq5 := gB HB hg; have GEq5 := gB HB hg; replace HB := bs HB hb; have NBq4_q5 := nl BKq4 hg; have NBq5_q4 := ng BKq4 hg; replace BKq4 := bb BKq4 hb; clear hb hbox hg; have hnb6 := NBq4_q5.out; have hnc6 := NBq5_q4.out; obtain ⟨hcz7_0, hcz7_1, hfz7_0, hfz7_1⟩ := c2 BKq4) | (refine gq 112 (some 13) Try.func112 #[.int .i64 a0_0, .slice A0_1 l0_1.length c0_1] ?_; (with_reducible refine (yr.calls k a0_0 _ _ l0_1 true _ ?side1 ?side2 A2.out).mono ?_); (case side1 => exact pC (Kd.C_below HR0_1.out HB.out)); (case side2 => exact HC0_1.out); rintro e w' ⟨rfl, ⟨nd, rfl⟩⟩; refine ⟨_, rfl, ?_⟩))
  go_loopg [4] k (fun kq v4 w' => ∃ (x4_1 : Int) (x112003000_1 : Int) (x112003001_1 : Int) (x112003002_1 : Int), v4 = .int .i64 x4_1 ∧ Aside0 (yd.l0 kq x4_1 a0_0 l0_1 = some (r1, r2, r3, r4)) ∧ Aside0 (kq ≤ k) ∧ Aside0 (w'.heap[gbq4]? = some (.cells #[.int .i64 a0_0, (.slice A0_1 l0_1.length c0_1)] 28 (0, 0))) ∧ Aside0 (w'.heap[gbq5]? = some (.cells #[.int .i64 x112003000_1, .int .i64 x112003001_1, .int .i64 x112003002_1] 94 (0, 0))) ∧ Aside0 (Below w.heap.size w w'))
  case atStart => exact ⟨(0), (0), (0), (0), rs_, H', ⟨Nat.le_refl _⟩, ⟨pk BKq4.out⟩, ⟨pk BKq5.out⟩, ⟨pB2 HB.out GEq4.out GEq5.out⟩⟩
  clear H'
  try clear c1
  try clear p2
  try clear c3
  try clear c6
  try clear hcz7_0
  try clear hcz7_1
  try clear hfz7_0
  try clear hfz7_1
  obtain ⟨x4_1, x112003000_1, x112003001_1, x112003002_1, rfl, HA, HK1, BKq4, BKq5, HB⟩ := hrel
  rcases gk with _ | k1
  ·exact absurd HA.out (by simp [yd.l0])
  have H := HA.out
  clear HA
  simp only [yd.l0] at H
  by_cases c8 : x4_1 < (l0_1.length : Int)
  ·rw [if_pos c8] at H
   have c8b0 := decide_eq_true c8
   clear c8
   have H' := aQ H
   clear H
   have hnb9 := NBq4_q5.out
   have hnc9 := NBq5_q4.out
   obtain ⟨hcz10_0, hcz10_1, hfz10_0, hfz10_1⟩ := c2 BKq4
   go_wp2
   go_loopg [5] k1 (fun kq v5 w' => ∃ (x5_2 : Int) (x112003000_2 : Int) (x112003001_2 : Int) (x112003002_2 : Int), v5 = .int .i64 x5_2 ∧ Aside0 (yd.l1 kq x4_1 x5_2 a0_0 l0_1 = some (r1, r2, r3, r4)) ∧ Aside0 (kq ≤ k1) ∧ Aside0 (w'.heap[gbq4]? = some (.cells #[.int .i64 a0_0, (.slice A0_1 l0_1.length c0_1)] 28 (0, 0))) ∧ Aside0 (w'.heap[gbq5]? = some (.cells #[.int .i64 x112003000_2, .int .i64 x112003001_2, .int .i64 x112003002_2] 94 (0, 0))) ∧ Aside0 (Below w.heap.size w w'))
   case atStart => exact ⟨(0), (x112003000_1), (x112003001_1), (x112003002_1), rs_, H', ⟨Nat.le_refl _⟩, ⟨pk BKq4.out⟩, ⟨pk BKq5.out⟩, ⟨pB2 HB.out GEq4.out GEq5.out⟩⟩
   clear H'
   try clear c1
   try clear p2
   try clear c3
   try clear c6
   try clear c8
   try clear c8b0
   try clear c9
   try clear hcz10_0
   try clear hcz10_1
   try clear hcz7_0
   try clear hcz7_1
   try clear hfz10_0
   try clear hfz10_1
   try clear hfz7_0
   try clear hfz7_1
   try clear p2
   obtain ⟨x5_2, x112003000_2, x112003001_2, x112003002_2, rfl, HA, HK2, BKq4, BKq5, HB⟩ := hrel
   rcases gk with _ | k2
   ·exact absurd HA.out (by simp [yd.l1])
   have H := HA.out
   clear HA
   simp only [yd.l1] at H
   by_cases c11 : x5_2 < (l0_1.length : Int)
   ·rw [if_pos c11] at H
    have c11b0 := decide_eq_true c11
    clear c11
    have H' := aQ H
    clear H
    have hnb12 := NBq4_q5.out
    have hnc12 := NBq5_q4.out
    obtain ⟨hcz13_0, hcz13_1, hfz13_0, hfz13_1⟩ := c2 BKq4
    go_wp2
    go_loopg [6] k2 (fun kq v6 w' => ∃ (x6_3 : Int) (x112003000_3 : Int) (x112003001_3 : Int) (x112003002_3 : Int), v6 = .int .i64 x6_3 ∧ Aside0 (yd.l2 kq x4_1 x5_2 x6_3 a0_0 l0_1 = some (r1, r2, r3, r4)) ∧ Aside0 (kq ≤ k2) ∧ Aside0 (w'.heap[gbq4]? = some (.cells #[.int .i64 a0_0, (.slice A0_1 l0_1.length c0_1)] 28 (0, 0))) ∧ Aside0 (w'.heap[gbq5]? = some (.cells #[.int .i64 x112003000_3, .int .i64 x112003001_3, .int .i64 x112003002_3] 94 (0, 0))) ∧ Aside0 (Below w.heap.size w w'))
    case atStart => exact ⟨(0), (x112003000_2), (x112003001_2), (x112003002_2), rs_, H', ⟨Nat.le_refl _⟩, ⟨pk BKq4.out⟩, ⟨pk BKq5.out⟩, ⟨pB2 HB.out GEq4.out GEq5.out⟩⟩
    clear H'
    try clear c1
    try clear p2
    try clear c3
    try clear c6
    try clear c8
    try clear c8b0
    try clear c9
    try clear c11
    try clear c11b0
    try clear c12
    try clear hcz10_0
    try clear hcz10_1
    try clear hcz13_0
    try clear hcz13_1
    try clear hcz7_0
    try clear hcz7_1
    try clear hfz10_0
    try clear hfz10_1
    try clear hfz13_0
    try clear hfz13_1
    try clear hfz7_0
    try clear hfz7_1
    try clear p2
    obtain ⟨x6_3, x112003000_3, x112003001_3, x112003002_3, rfl, HA, HK3, BKq4, BKq5, HB⟩ := hrel
    rcases gk with _ | k3
    ·exact absurd HA.out (by simp [yd.l2])
    have H := HA.out
    clear HA
    simp only [yd.l2] at H
    by_cases c14 : x6_3 < a0_0
    ·rw [if_pos c14] at H
     have c14b0 := decide_eq_true c14
     clear c14
     replace H := gd H; obtain ⟨c15, H⟩ := H
     have c15b0 := decide_eq_true c15
     clear c15
     replace H := gd H; obtain ⟨c16, H⟩ := H
     have c16b0 := decide_eq_true c16
     clear c16
     replace H := gd H; obtain ⟨c17, H⟩ := H
     have c17b0 := decide_eq_true c17
     clear c17
     replace H := gd H; obtain ⟨c18, H⟩ := H
     have c18b0 := decide_eq_true c18
     clear c18
     replace H := bo H; obtain ⟨tq0, A19, H⟩ := H
     (try dsimp only at H)
     by_cases c20 : tq0 = true
     ·subst c20
      rw [if_pos rfl] at H
      replace H := bo H; obtain ⟨tq1, A21, H⟩ := H
      (try dsimp only at H)
      by_cases c22 : tq1 = true
      ·subst c22
       rw [if_pos rfl] at H
       have H' := aQ H
       clear H
       have hnb23 := NBq4_q5.out
       have hnc23 := NBq5_q4.out
       obtain ⟨hcz24_0, hcz24_1, hfz24_0, hfz24_1⟩ := c2 BKq4
       have pq6 : 0 ≤ (x4_1 : Int) := of_decide_eq_true as_
       have qq6 : x4_1 < (l0_1.length : Int) := of_decide_eq_true as_
       obtain ⟨adq6, eq6, hxq6_0⟩ := Kd.at_int HR0_1.out x4_1 pq6 qq6
       cases eq6
       replace hxq6_0 := (HB.out.cell (World.block_lt_of_cell? w _ hxq6_0)).trans hxq6_0
       replace pq6 := eq_true pq6
       replace qq6 := eq_true qq6
       have pq7 : 0 ≤ (x5_2 : Int) := of_decide_eq_true as_
       have qq7 : x5_2 < (l0_1.length : Int) := of_decide_eq_true as_
       obtain ⟨adq7, eq7, hxq7_0⟩ := Kd.at_int HR0_1.out x5_2 pq7 qq7
       obtain rfl : adq6 = adq7 := (by injection eq7)
       replace hxq7_0 := (HB.out.cell (World.block_lt_of_cell? w _ hxq7_0)).trans hxq7_0
       replace pq7 := eq_true pq7
       replace qq7 := eq_true qq7
       go_wp2_with (first | (refine gq 69 (some 48) Try.func69 #[.int .i64 (rd l0_1 x4_1), .int .i64 x6_3] ?_; (with_reducible refine (yU.calls (rd l0_1 x4_1) x6_3 true _ A19.out).mono ?_); rintro e w' ⟨rfl, ⟨nd, rfl⟩⟩; refine ⟨_, rfl, ?_⟩) | (go_at_call 69; (with_reducible refine (yU.calls (rd l0_1 x5_2) x6_3 true _ A21.out).mono ?_); rintro e w' ⟨rfl, ⟨nd, rfl⟩⟩))
       go_roundg k3
       case measure => have := HK1.out; have := HK2.out; have := HK3.out; omega
       case rel => exact ⟨(wrap64 (x6_3 + 1)), (x112003000_3), (x112003001_3), (x112003002_3), rs_, H', ⟨by have := HK1.out; have := HK2.out; have := HK3.out; omega⟩, ⟨pk BKq4.out⟩, ⟨pk BKq5.out⟩, ⟨pB2 HB.out GEq4.out GEq5.out⟩⟩
      ·replace c22 := Bool.eq_false_iff.mpr c22
       subst c22
       have H1 : ((yn.f k3 a0_0 l0_1 (rd l0_1 x4_1) (rd l0_1 x5_2) x6_3).bind fun tq2 => (if tq2 = true then (yd.l2 k3 x4_1 x5_2 (wrap64 (x6_3 + 1)) a0_0 l0_1) else (some (rd l0_1 x4_1, rd l0_1 x5_2, x6_3, true)))) = some (r1, r2, r3, r4) := by rw [if_neg (show ¬ (false = true) by decide)] at H; exact H
       clear H
       have H := H1
       clear H1
       replace H := bo H; obtain ⟨tq2, A25, H⟩ := H
       (try dsimp only at H)
       by_cases c26 : tq2 = true
       ·subst c26
        rw [if_pos rfl] at H
        have H' := aQ H
        clear H
        have hnb27 := NBq4_q5.out
        have hnc27 := NBq5_q4.out
        obtain ⟨hcz28_0, hcz28_1, hfz28_0, hfz28_1⟩ := c2 BKq4
        have pq6 : 0 ≤ (x4_1 : Int) := of_decide_eq_true as_
        have qq6 : x4_1 < (l0_1.length : Int) := of_decide_eq_true as_
        obtain ⟨adq6, eq6, hxq6_0⟩ := Kd.at_int HR0_1.out x4_1 pq6 qq6
        cases eq6
        replace hxq6_0 := (HB.out.cell (World.block_lt_of_cell? w _ hxq6_0)).trans hxq6_0
        replace pq6 := eq_true pq6
        replace qq6 := eq_true qq6
        have pq7 : 0 ≤ (x5_2 : Int) := of_decide_eq_true as_
        have qq7 : x5_2 < (l0_1.length : Int) := of_decide_eq_true as_
        obtain ⟨adq7, eq7, hxq7_0⟩ := Kd.at_int HR0_1.out x5_2 pq7 qq7
        obtain rfl : adq6 = adq7 := (by injection eq7)
        replace hxq7_0 := (HB.out.cell (World.block_lt_of_cell? w _ hxq7_0)).trans hxq7_0
        replace pq7 := eq_true pq7
        replace qq7 := eq_true qq7
        go_wp2_with (first | (refine gq 69 (some 48) Try.func69 #[.int .i64 (rd l0_1 x4_1), .int .i64 x6_3] ?_; (with_reducible refine (yU.calls (rd l0_1 x4_1) x6_3 true _ A19.out).mono ?_); rintro e w' ⟨rfl, ⟨nd, rfl⟩⟩; refine ⟨_, rfl, ?_⟩) | (go_at_call 69; (with_reducible refine (yU.calls (rd l0_1 x5_2) x6_3 false _ A21.out).mono ?_); rintro e w' ⟨rfl, ⟨nd, rfl⟩⟩) | (go_at_call 144; (with_reducible refine (yn.calls k3 a0_0 _ _ l0_1 (rd l0_1 x4_1) (rd l0_1 x5_2) x6_3 true _ ?side1 ?side2 A25.out).mono ?_); (case side1 => exact pC ((Kd.C_below HR0_1.out (pB2 HB.out GEq4.out GEq5.out)))); (case side2 => exact HC0_1.out); rintro e w29 ⟨rfl, hb⟩; replace BKq4 := bb BKq4 hb; replace BKq5 := bb BKq5 hb; replace HB := bs HB hb; (try clear hb)))
        go_roundg k3
        case measure => have := HK1.out; have := HK2.out; have := HK3.out; omega
        case rel => exact ⟨(wrap64 (x6_3 + 1)), (x112003000_3), (x112003001_3), (x112003002_3), rs_, H', ⟨by have := HK1.out; have := HK2.out; have := HK3.out; omega⟩, ⟨pk BKq4.out⟩, ⟨pk BKq5.out⟩, ⟨pB2 HB.out GEq4.out GEq5.out⟩⟩
       ·replace c26 := Bool.eq_false_iff.mpr c26
        subst c26
        have H1 : (some (rd l0_1 x4_1, rd l0_1 x5_2, x6_3, true)) = some (r1, r2, r3, r4) := by rw [if_neg (show ¬ (false = true) by decide)] at H; exact H
        clear H
        have H := H1
        clear H1
        simp only [Option.some.injEq, Prod.mk.injEq] at H
        obtain ⟨rfl, rfl, rfl, rfl⟩ := H
        have hnb30 := NBq4_q5.out
        have hnc30 := NBq5_q4.out
        obtain ⟨hcz31_0, hcz31_1, hfz31_0, hfz31_1⟩ := c2 BKq4
        have pq6 : 0 ≤ (x4_1 : Int) := of_decide_eq_true as_
        have qq6 : x4_1 < (l0_1.length : Int) := of_decide_eq_true as_
        obtain ⟨adq6, eq6, hxq6_0⟩ := Kd.at_int HR0_1.out x4_1 pq6 qq6
        cases eq6
        replace hxq6_0 := (HB.out.cell (World.block_lt_of_cell? w _ hxq6_0)).trans hxq6_0
        replace pq6 := eq_true pq6
        replace qq6 := eq_true qq6
        have pq7 : 0 ≤ (x5_2 : Int) := of_decide_eq_true as_
        have qq7 : x5_2 < (l0_1.length : Int) := of_decide_eq_true as_
        obtain ⟨adq7, eq7, hxq7_0⟩ := Kd.at_int HR0_1.out x5_2 pq7 qq7
        obtain rfl : adq6 = adq7 := (by injection eq7)
        replace hxq7_0 := (HB.out.cell (World.block_lt_of_cell? w _ hxq7_0)).trans hxq7_0
        replace pq7 := eq_true pq7
        replace qq7 := eq_true qq7
        go_wp2_with (first | (refine gq 69 (some 48) Try.func69 #[.int .i64 (rd l0_1 x4_1), .int .i64 x6_3] ?_; (with_reducible refine (yU.calls (rd l0_1 x4_1) x6_3 true _ A19.out).mono ?_); rintro e w' ⟨rfl, ⟨nd, rfl⟩⟩; refine ⟨_, rfl, ?_⟩; (try (rw [ya1 wr]; generalize hq_ : World.drewN wr _ = wr; have n0_ : Aside0 (wr.heap[gbq4]? = some (.cells #[.int .i64 a0_0, .slice (some adq6) l0_1.length c0_1] 28 (0, 0))) := ⟨by rw [← hq_]; exact (pk BKq4.out)⟩; have n1_ : Aside0 (wr.heap[gbq5]? = some (.cells #[.int .i64 x112003000_3, .int .i64 x112003001_3, .int .i64 x112003002_3] 94 (0, 0))) := ⟨by rw [← hq_]; exact (pk BKq5.out)⟩; have n2_ : Aside0 (Below w.heap.size w wr) := ⟨by rw [← hq_]; exact (pB2 HB.out GEq4.out GEq5.out)⟩; clear BKq4 BKq5 HB hq_; have BKq4 := n0_; have BKq5 := n1_; have HB := n2_; clear n0_ n1_ n2_; obtain ⟨hcz31_0, hcz31_1, hfz31_0, hfz31_1⟩ := c2 BKq4))) | (go_at_call 69; (with_reducible refine (yU.calls (rd l0_1 x5_2) x6_3 false _ A21.out).mono ?_); rintro e w' ⟨rfl, ⟨nd, rfl⟩⟩; (try (rw [ya1 wr]; generalize hq_ : World.drewN wr _ = wr; have n0_ : Aside0 (wr.heap[gbq4]? = some (.cells #[.int .i64 a0_0, .slice (some adq6) l0_1.length c0_1] 28 (0, 0))) := ⟨by rw [← hq_]; exact (pk BKq4.out)⟩; have n1_ : Aside0 (wr.heap[gbq5]? = some (.cells #[.int .i64 x112003000_3, .int .i64 x112003001_3, .int .i64 x112003002_3] 94 (0, 0))) := ⟨by rw [← hq_]; exact (pk BKq5.out)⟩; have n2_ : Aside0 (Below w.heap.size w wr) := ⟨by rw [← hq_]; exact (pB2 HB.out GEq4.out GEq5.out)⟩; clear BKq4 BKq5 HB hq_; have BKq4 := n0_; have BKq5 := n1_; have HB := n2_; clear n0_ n1_ n2_; obtain ⟨hcz31_0, hcz31_1, hfz31_0, hfz31_1⟩ := c2 BKq4))) | (go_at_call 144; (with_reducible refine (yn.calls k3 a0_0 _ _ l0_1 (rd l0_1 x4_1) (rd l0_1 x5_2) x6_3 false _ ?side1 ?side2 A25.out).mono ?_); (case side1 => exact pC (Kd.C_below HR0_1.out HB.out)); (case side2 => exact HC0_1.out); rintro e w32 ⟨rfl, hb⟩; replace BKq4 := bb BKq4 hb; replace BKq5 := bb BKq5 hb; replace HB := bs HB hb; (try clear hb); have hcz33_0 := bc (v := (.int .i64 x112003000_3)) BKq5.out 0; have hcz33_1 := bc (v := (.int .i64 x112003001_3)) BKq5.out 1; have hcz33_2 := bc (v := (.int .i64 x112003002_3)) BKq5.out 2; have hfz33_0 := yl BKq5.out 0; have hfz33_1 := yl BKq5.out 1; have hfz33_2 := yl BKq5.out 2))
        refine bodyPost_ret (ya7 rfl _ _ gbq5 94 #[.int .i64 (rd l0_1 x4_1), .int .i64 (rd l0_1 x5_2), .int .i64 x6_3] (0, 0) _ rfl (by refine pkx ?_; refine yh (cs := #[.int .i64 (rd l0_1 x4_1), .int .i64 (rd l0_1 x5_2), .int .i64 x112003002_3]) ?_ 2 _ rfl; refine pkx ?_; refine yh (cs := #[.int .i64 (rd l0_1 x4_1), .int .i64 x112003001_3, .int .i64 x112003002_3]) ?_ 1 _ rfl; refine pkx ?_; refine yh (cs := #[.int .i64 x112003000_3, .int .i64 x112003001_3, .int .i64 x112003002_3]) ?_ 0 _ rfl; refine pkx ?_; exact BKq5.out) Try.underlying94 rfl (by kernel_rfl)) rfl ?_
        exact ⟨re_, pB2 HB.out GEq4.out GEq5.out⟩
     ·replace c20 := Bool.eq_false_iff.mpr c20
      subst c20
      have H1 : (yd.l2 k3 x4_1 x5_2 (wrap64 (x6_3 + 1)) a0_0 l0_1) = some (r1, r2, r3, r4) := by rw [if_neg (show ¬ (false = true) by decide)] at H; exact H
      clear H
      have H := H1
      clear H1
      have H' := aQ H
      clear H
      have hnb34 := NBq4_q5.out
      have hnc34 := NBq5_q4.out
      obtain ⟨hcz35_0, hcz35_1, hfz35_0, hfz35_1⟩ := c2 BKq4
      have pq6 : 0 ≤ (x4_1 : Int) := of_decide_eq_true as_
      have qq6 : x4_1 < (l0_1.length : Int) := of_decide_eq_true as_
      obtain ⟨adq6, eq6, hxq6_0⟩ := Kd.at_int HR0_1.out x4_1 pq6 qq6
      cases eq6
      replace hxq6_0 := (HB.out.cell (World.block_lt_of_cell? w _ hxq6_0)).trans hxq6_0
      replace pq6 := eq_true pq6
      replace qq6 := eq_true qq6
      have pq7 : 0 ≤ (x5_2 : Int) := of_decide_eq_true as_
      have qq7 : x5_2 < (l0_1.length : Int) := of_decide_eq_true as_
      obtain ⟨adq7, eq7, hxq7_0⟩ := Kd.at_int HR0_1.out x5_2 pq7 qq7
      obtain rfl : adq6 = adq7 := (by injection eq7)
      replace hxq7_0 := (HB.out.cell (World.block_lt_of_cell? w _ hxq7_0)).trans hxq7_0
      replace pq7 := eq_true pq7
      replace qq7 := eq_true qq7
      go_wp2_with (first | (refine gq 69 (some 48) Try.func69 #[.int .i64 (rd l0_1 x4_1), .int .i64 x6_3] ?_; (with_reducible refine (yU.calls (rd l0_1 x4_1) x6_3 false _ A19.out).mono ?_); rintro e w' ⟨rfl, ⟨nd, rfl⟩⟩; refine ⟨_, rfl, ?_⟩))
      go_roundg k3
      case measure => have := HK1.out; have := HK2.out; have := HK3.out; omega
      case rel => exact ⟨(wrap64 (x6_3 + 1)), (x112003000_3), (x112003001_3), (x112003002_3), rs_, H', ⟨by have := HK1.out; have := HK2.out; have := HK3.out; omega⟩, ⟨pk BKq4.out⟩, ⟨pk BKq5.out⟩, ⟨pB2 HB.out GEq4.out GEq5.out⟩⟩
    ·rw [if_neg c14] at H
     have c14b0 := decide_eq_false c14
     clear c14
     have H' := aQ H
     clear H
     have hnb36 := NBq4_q5.out
     have hnc36 := NBq5_q4.out
     obtain ⟨hcz37_0, hcz37_1, hfz37_0, hfz37_1⟩ := c2 BKq4
     go_wp2
     go_roundg k3
     case measure => have := HK1.out; have := HK2.out; have := HK3.out; omega
     case rel => exact ⟨(wrap64 (x5_2 + 1)), (x112003000_3), (x112003001_3), (x112003002_3), rs_, H', ⟨by have := HK1.out; have := HK2.out; have := HK3.out; omega⟩, ⟨pk BKq4.out⟩, ⟨pk BKq5.out⟩, ⟨pB2 HB.out GEq4.out GEq5.out⟩⟩
   ·rw [if_neg c11] at H
    have c11b0 := decide_eq_false c11
    clear c11
    have H' := aQ H
    clear H
    have hnb38 := NBq4_q5.out
    have hnc38 := NBq5_q4.out
    obtain ⟨hcz39_0, hcz39_1, hfz39_0, hfz39_1⟩ := c2 BKq4
    go_wp2
    go_roundg k2
    case measure => have := HK1.out; have := HK2.out; omega
    case rel => exact ⟨(wrap64 (x4_1 + 1)), (x112003000_2), (x112003001_2), (x112003002_2), rs_, H', ⟨by have := HK1.out; have := HK2.out; omega⟩, ⟨pk BKq4.out⟩, ⟨pk BKq5.out⟩, ⟨pB2 HB.out GEq4.out GEq5.out⟩⟩
  ·rw [if_neg c8] at H
   have c8b0 := decide_eq_false c8
   clear c8
   simp only [Option.some.injEq, Prod.mk.injEq] at H
   obtain ⟨rfl, rfl, rfl, rfl⟩ := H
   have hnb40 := NBq4_q5.out
   have hnc40 := NBq5_q4.out
   obtain ⟨hcz41_0, hcz41_1, hfz41_0, hfz41_1⟩ := c2 BKq4
   have hcz42_0 := bc (v := (.int .i64 x112003000_1)) BKq5.out 0
   have hcz42_1 := bc (v := (.int .i64 x112003001_1)) BKq5.out 1
   have hcz42_2 := bc (v := (.int .i64 x112003002_1)) BKq5.out 2
   have hfz42_0 := yl BKq5.out 0
   have hfz42_1 := yl BKq5.out 1
   have hfz42_2 := yl BKq5.out 2
   go_wp2
   refine bodyPost_ret (ya7 rfl _ _ gbq5 94 #[.int .i64 0, .int .i64 0, .int .i64 0] (0, 0) _ rfl (by refine pkx ?_; refine yh (cs := #[.int .i64 0, .int .i64 0, .int .i64 x112003002_1]) ?_ 2 _ rfl; refine pkx ?_; refine yh (cs := #[.int .i64 0, .int .i64 x112003001_1, .int .i64 x112003002_1]) ?_ 1 _ rfl; refine pkx ?_; refine yh (cs := #[.int .i64 x112003000_1, .int .i64 x112003001_1, .int .i64 x112003002_1]) ?_ 0 _ rfl; refine pkx ?_; exact BKq5.out) Try.underlying94 rfl (by kernel_rfl)) rfl ?_
   exact ⟨re_, pB2 HB.out GEq4.out GEq5.out⟩
 ·replace c3 := Bool.eq_false_iff.mpr c3
  subst c3
  have H1 : (some (0, 0, 0, false)) = some (r1, r2, r3, r4) := by rw [if_neg (show ¬ (false = true) by decide)] at H; exact H
  clear H
  have H := H1
  clear H1
  simp only [Option.some.injEq, Prod.mk.injEq] at H
  obtain ⟨rfl, rfl, rfl, rfl⟩ := H
  go_enter Try.func111, Try.ntmps111
  go_wp2_with (first | ((with_reducible refine yb (N := 1) rfl ?_); refine bx 1 #[.int .i64 a0_0, .slice A0_1 l0_1.length c0_1] 28 ?_; intro gbq4 hg w43 hbox hb; have BKq4 := aQ (hbox); have GWq4 := gB HB hg; have GEq4 := gB HB hg; replace HB := bs HB hb; clear hb hbox hg) | ((with_reducible refine yb (N := 2) rfl ?_); refine bx 2 #[.int .i64 0, .int .i64 0, .int .i64 0] 94 ?_; intro gbq5 hg w44 hbox hb; have BKq5 := aQ (hbox); have GWq5 := gB HB hg; have GEq5 := gB HB hg; replace HB := bs HB hb; have NBq4_q5 := nl BKq4 hg; have NBq5_q4 := ng BKq4 hg; replace BKq4 := bb BKq4 hb; clear hb hbox hg; have hnb45 := NBq4_q5.out; have hnc45 := NBq5_q4.out; obtain ⟨hcz46_0, hcz46_1, hfz46_0, hfz46_1⟩ := c2 BKq4) | (refine gq 112 (some 13) Try.func112 #[.int .i64 a0_0, .slice A0_1 l0_1.length c0_1] ?_; (with_reducible refine (yr.calls k a0_0 _ _ l0_1 false _ ?side1 ?side2 A2.out).mono ?_); (case side1 => exact pC (Kd.C_below HR0_1.out HB.out)); (case side2 => exact HC0_1.out); rintro e w' ⟨rfl, ⟨nd, rfl⟩⟩; refine ⟨_, rfl, ?_⟩; (try (rw [ya1 w44]; generalize hq_ : World.drewN w44 _ = w44; have n0_ : Aside0 (w44.heap[gbq4]? = some (.cells #[.int .i64 a0_0, .slice A0_1 l0_1.length c0_1] 28 (0, 0))) := ⟨by rw [← hq_]; exact (pk BKq4.out)⟩; have n1_ : Aside0 (w44.heap[gbq5]? = some (.cells #[.int .i64 0, .int .i64 0, .int .i64 0] 94 (0, 0))) := ⟨by rw [← hq_]; exact (pk BKq5.out)⟩; have n2_ : Aside0 (Below w.heap.size w w44) := ⟨by rw [← hq_]; exact (pB2 HB.out GEq4.out GEq5.out)⟩; clear BKq4 BKq5 HB hq_; have BKq4 := n0_; have BKq5 := n1_; have HB := n2_; clear n0_ n1_ n2_)); have hcz47_0 := bc (v := (.int .i64 0)) BKq5.out 0; have hcz47_1 := bc (v := (.int .i64 0)) BKq5.out 1; have hcz47_2 := bc (v := (.int .i64 0)) BKq5.out 2; have hfz47_0 := yl BKq5.out 0; have hfz47_1 := yl BKq5.out 1; have hfz47_2 := yl BKq5.out 2))
  refine bodyPost_ret (ya7 rfl _ _ gbq5 94 #[.int .i64 0, .int .i64 0, .int .i64 0] (0, 0) _ rfl (by refine pkx ?_; refine yh (cs := #[.int .i64 0, .int .i64 0, .int .i64 0]) ?_ 2 _ rfl; refine pkx ?_; refine yh (cs := #[.int .i64 0, .int .i64 0, .int .i64 0]) ?_ 1 _ rfl; refine pkx ?_; refine yh (cs := #[.int .i64 0, .int .i64 0, .int .i64 0]) ?_ 0 _ rfl; refine pkx ?_; exact BKq5.out) Try.underlying94 rfl (by kernel_rfl)) rfl ?_
  exact ⟨re_, pB2 HB.out GEq4.out GEq5.out⟩
def yM.f (k : Nat) (a0_0 : Int) (l0_1 : List Int) : Option (Bool) := (yd.f k a0_0 l0_1).bind fun btq0 => ((yr.f k a0_0 l0_1).bind fun tq1 => (if tq1 = true then (if (l0_1.length : Int) > 0 then (some (!btq0.2.2.2)) else (some false)) else (some false)))
theorem yM.mono : ∀ a0 a1 k, LeO (yM.f k a0 a1) (yM.f (k + 1) a0 a1) := by
 intro a0 a1 k
 unfold yM.f
 repeat' first | (with_reducible first | exact yd.mono _ _ _ | exact yr.mono _ _ _ | exact LeO.refl _ | exact LeO.none _ | refine LeO.ite ?_ ?_ | refine LeO.bind ?_ (fun _ => ?_)) | exact LeO.none _ | refine LeO.ite ?_ ?_ | refine LeO.bind ?_ (fun _ => ?_)
theorem yM.calls (k : Nat) (a0_0 : Int) (A0_1 : Option Addr) (c0_1 : Nat) (l0_1 : List Int) (r : Bool) (w : World) (hr0_1 : Kd.C (Kd.int .i64) w A0_1 l0_1.length l0_1) (hc0_1 : l0_1.length ≤ c0_1) (h : yM.f k a0_0 l0_1 = some r) :
  Calls Try.prog 52 #[.agg #[.int .i64 a0_0, .slice A0_1 l0_1.length c0_1]] w fun e w' => e = .returned (.bool r) ∧ Below w.heap.size w w' := by
 have hu28 := Try.underlying28
 have hu94 := Try.underlying94
 have HR0_1 := aQ hr0_1
 have HC0_1 := aQ hc0_1
 clear hr0_1 hc0_1
 have HB := aQ (Below.refl w.heap.size w)
 have H := h
 clear h
 unfold yM.f at H
 (try dsimp only at H)
 replace H := bo H; obtain ⟨⟨tq0, tq2, tq3, tq4⟩, A2, H⟩ := H
 (try dsimp only at H)
 replace H := bo H; obtain ⟨tq1, A3, H⟩ := H
 (try dsimp only at H)
 by_cases c4 : tq1 = true
 ·subst c4
  rw [if_pos rfl] at H
  by_cases c5 : (l0_1.length : Int) > 0
  ·rw [if_pos c5] at H
   have c5b0 := decide_eq_true c5
   have c5b1 : decide (0 < l0_1.length) = true := decide_eq_true (by omega)
   clear c5
   obtain rfl := Option.some.inj H
   go_enter Try.func52, Try.ntmps52
   go_wp2_with (first | ((with_reducible refine yb (N := 1) rfl ?_); (try (refine yae (by rfl) ?_; dsimp only)); refine bx 1 #[.int .i64 a0_0, .slice A0_1 l0_1.length c0_1] 28 ?_; intro gbq5 hg w6 hbox hb; have BKq5 := aQ (hbox); have GWq5 := gB HB hg; have GEq5 := gB HB hg; replace HB := bs HB hb; clear hb hbox hg; obtain ⟨hcz7_0, hcz7_1, hfz7_0, hfz7_1⟩ := c2 BKq5) | (refine gq 111 (some 7) Try.func111 #[.agg #[.int .i64 a0_0, .slice A0_1 l0_1.length c0_1]] ?_; (with_reducible refine (yd.calls k a0_0 _ _ l0_1 tq0 tq2 tq3 tq4 _ ?side1 ?side2 A2.out).mono ?_); (case side1 => exact pC (Kd.C_below HR0_1.out HB.out)); (case side2 => exact HC0_1.out); rintro e w8 ⟨rfl, hb⟩; refine ⟨_, rfl, ?_⟩; replace BKq5 := bb BKq5 hb; replace HB := bs HB hb; (try clear hb)) | ((with_reducible refine yb (N := 3) rfl ?_); (try (refine yae (by rfl) ?_; dsimp only)); refine bx 3 #[.int .i64 0, .int .i64 0, .int .i64 0] 94 ?_; intro gbq6 hg w9 hbox hb; have BKq6 := aQ (hbox); have GWq6 := gB HB hg; have GEq6 := gB HB hg; replace HB := bs HB hb; have NBq5_q6 := nl BKq5 hg; have NBq6_q5 := ng BKq5 hg; replace BKq5 := bb BKq5 hb; clear hb hbox hg; have hnb10 := NBq6_q5.out; have hnc10 := NBq5_q6.out; have hcz11_0 := bc (v := (.int .i64 0)) BKq6.out 0; have hcz11_1 := bc (v := (.int .i64 0)) BKq6.out 1; have hcz11_2 := bc (v := (.int .i64 0)) BKq6.out 2; have hfz11_0 := yl BKq6.out 0; have hfz11_1 := yl BKq6.out 1; have hfz11_2 := yl BKq6.out 2; obtain ⟨hcz12_0, hcz12_1, hfz12_0, hfz12_1⟩ := c2 BKq5) | (refine gq 112 (some 14) Try.func112 #[.int .i64 a0_0, .slice A0_1 l0_1.length c0_1] ?_; (with_reducible refine (yr.calls k a0_0 _ _ l0_1 true _ ?side1 ?side2 A3.out).mono ?_); (case side1 => exact Kd.C_below HR0_1.out (pB2 HB.out GEq5.out GEq6.out)); (case side2 => exact HC0_1.out); rintro e w' ⟨rfl, ⟨nd, rfl⟩⟩; refine ⟨_, rfl, ?_⟩))
   go_ret
   exact ⟨re_, pB2 HB.out GEq5.out GEq6.out⟩
  ·rw [if_neg c5] at H
   have c5b0 := decide_eq_false c5
   have c5b1 : decide (0 < l0_1.length) = false := decide_eq_false (by omega)
   clear c5
   obtain rfl := Option.some.inj H
   go_enter Try.func52, Try.ntmps52
   go_wp2_with (first | ((with_reducible refine yb (N := 1) rfl ?_); (try (refine yae (by rfl) ?_; dsimp only)); refine bx 1 #[.int .i64 a0_0, .slice A0_1 l0_1.length c0_1] 28 ?_; intro gbq5 hg w13 hbox hb; have BKq5 := aQ (hbox); have GWq5 := gB HB hg; have GEq5 := gB HB hg; replace HB := bs HB hb; clear hb hbox hg; obtain ⟨hcz14_0, hcz14_1, hfz14_0, hfz14_1⟩ := c2 BKq5) | (refine gq 111 (some 7) Try.func111 #[.agg #[.int .i64 a0_0, .slice A0_1 l0_1.length c0_1]] ?_; (with_reducible refine (yd.calls k a0_0 _ _ l0_1 tq0 tq2 tq3 tq4 _ ?side1 ?side2 A2.out).mono ?_); (case side1 => exact pC (Kd.C_below HR0_1.out HB.out)); (case side2 => exact HC0_1.out); rintro e w15 ⟨rfl, hb⟩; refine ⟨_, rfl, ?_⟩; replace BKq5 := bb BKq5 hb; replace HB := bs HB hb; (try clear hb)) | ((with_reducible refine yb (N := 3) rfl ?_); (try (refine yae (by rfl) ?_; dsimp only)); refine bx 3 #[.int .i64 0, .int .i64 0, .int .i64 0] 94 ?_; intro gbq6 hg w16 hbox hb; have BKq6 := aQ (hbox); have GWq6 := gB HB hg; have GEq6 := gB HB hg; replace HB := bs HB hb; have NBq5_q6 := nl BKq5 hg; have NBq6_q5 := ng BKq5 hg; replace BKq5 := bb BKq5 hb; clear hb hbox hg; have hnb17 := NBq6_q5.out; have hnc17 := NBq5_q6.out; have hcz18_0 := bc (v := (.int .i64 0)) BKq6.out 0; have hcz18_1 := bc (v := (.int .i64 0)) BKq6.out 1; have hcz18_2 := bc (v := (.int .i64 0)) BKq6.out 2; have hfz18_0 := yl BKq6.out 0; have hfz18_1 := yl BKq6.out 1; have hfz18_2 := yl BKq6.out 2; obtain ⟨hcz19_0, hcz19_1, hfz19_0, hfz19_1⟩ := c2 BKq5) | (refine gq 112 (some 14) Try.func112 #[.int .i64 a0_0, .slice A0_1 l0_1.length c0_1] ?_; (with_reducible refine (yr.calls k a0_0 _ _ l0_1 true _ ?side1 ?side2 A3.out).mono ?_); (case side1 => exact Kd.C_below HR0_1.out (pB2 HB.out GEq5.out GEq6.out)); (case side2 => exact HC0_1.out); rintro e w' ⟨rfl, ⟨nd, rfl⟩⟩; refine ⟨_, rfl, ?_⟩))
   go_ret
   exact ⟨re_, pB2 HB.out GEq5.out GEq6.out⟩
 ·replace c4 := Bool.eq_false_iff.mpr c4
  subst c4
  have H1 : (some false) = some r := by rw [if_neg (show ¬ (false = true) by decide)] at H; exact H
  clear H
  have H := H1
  clear H1
  obtain rfl := Option.some.inj H
  go_enter Try.func52, Try.ntmps52
  go_wp2_with (first | ((with_reducible refine yb (N := 1) rfl ?_); (try (refine yae (by rfl) ?_; dsimp only)); refine bx 1 #[.int .i64 a0_0, .slice A0_1 l0_1.length c0_1] 28 ?_; intro gbq5 hg w20 hbox hb; have BKq5 := aQ (hbox); have GWq5 := gB HB hg; have GEq5 := gB HB hg; replace HB := bs HB hb; clear hb hbox hg; obtain ⟨hcz21_0, hcz21_1, hfz21_0, hfz21_1⟩ := c2 BKq5) | (refine gq 111 (some 7) Try.func111 #[.agg #[.int .i64 a0_0, .slice A0_1 l0_1.length c0_1]] ?_; (with_reducible refine (yd.calls k a0_0 _ _ l0_1 tq0 tq2 tq3 tq4 _ ?side1 ?side2 A2.out).mono ?_); (case side1 => exact pC (Kd.C_below HR0_1.out HB.out)); (case side2 => exact HC0_1.out); rintro e w22 ⟨rfl, hb⟩; refine ⟨_, rfl, ?_⟩; replace BKq5 := bb BKq5 hb; replace HB := bs HB hb; (try clear hb)) | ((with_reducible refine yb (N := 3) rfl ?_); (try (refine yae (by rfl) ?_; dsimp only)); refine bx 3 #[.int .i64 0, .int .i64 0, .int .i64 0] 94 ?_; intro gbq6 hg w23 hbox hb; have BKq6 := aQ (hbox); have GWq6 := gB HB hg; have GEq6 := gB HB hg; replace HB := bs HB hb; have NBq5_q6 := nl BKq5 hg; have NBq6_q5 := ng BKq5 hg; replace BKq5 := bb BKq5 hb; clear hb hbox hg; have hnb24 := NBq6_q5.out; have hnc24 := NBq5_q6.out; have hcz25_0 := bc (v := (.int .i64 0)) BKq6.out 0; have hcz25_1 := bc (v := (.int .i64 0)) BKq6.out 1; have hcz25_2 := bc (v := (.int .i64 0)) BKq6.out 2; have hfz25_0 := yl BKq6.out 0; have hfz25_1 := yl BKq6.out 1; have hfz25_2 := yl BKq6.out 2; obtain ⟨hcz26_0, hcz26_1, hfz26_0, hfz26_1⟩ := c2 BKq5) | (refine gq 112 (some 14) Try.func112 #[.int .i64 a0_0, .slice A0_1 l0_1.length c0_1] ?_; (with_reducible refine (yr.calls k a0_0 _ _ l0_1 false _ ?side1 ?side2 A3.out).mono ?_); (case side1 => exact Kd.C_below HR0_1.out (pB2 HB.out GEq5.out GEq6.out)); (case side2 => exact HC0_1.out); rintro e w' ⟨rfl, ⟨nd, rfl⟩⟩; refine ⟨_, rfl, ?_⟩))
  go_ret
  exact ⟨re_, pB2 HB.out GEq5.out GEq6.out⟩
def ya3.f (s0_0 : List Int) (s0_1 : Int) (s0_2 : Int) (a1 : Int) : Option (Bool × Int × Int) := (yk.f s0_0 s0_1 s0_2 a1).bind fun btq0 => (some ((btq0.1 == 0), btq0.2.1, btq0.2.2))
theorem ya3.calls (g : Nat) (s0_0 : List Int) (s0_1 : Int) (s0_2 : Int) (a1 : Int) (r1 : Bool) (r2 : Int) (r3 : Int) (w0 w : World) (hI : IsS106 w0 w g s0_0 s0_1 s0_2) (hB : Below w0.heap.size w0 w) (h : ya3.f s0_0 s0_1 s0_2 a1 = some (r1, r2, r3)) :
  Calls Try.prog 89 #[.pointer (some ⟨g, 0, none⟩), .int .i64 a1] w fun e w' => e = .returned (.bool r1) ∧ IsS106 w0 w' g s0_0 r2 r3 ∧ Below w0.heap.size w0 w' ∧ KeepBut w w' g none := by
 have HI0 := aQ hI
 have HK := aQ (KeepBut.refl w g none)
 have HL := aQ hB.size
 clear hI
 have HW0 := aQ hB.size
 have HB := aQ hB
 clear hB
 have H := h
 clear h
 unfold ya3.f at H
 (try dsimp only at H)
 replace H := bo H; obtain ⟨⟨tq0, tq1, tq2⟩, A3, H⟩ := H
 (try dsimp only at H)
 simp only [Option.some.injEq, Prod.mk.injEq] at H
 obtain ⟨rfl, rfl, rfl⟩ := H
 go_enter Try.func89, Try.ntmps89
 go_wp2_with (first | (refine gq 91 (some 7) Try.func91 #[.pointer (some ⟨g, 0, none⟩), .int .i64 a1] ?_; (with_reducible refine (yk.calls g s0_0 s0_1 s0_2 a1 tq0 tq1 tq2 w0 _ ?side1 ?side2 A3.out).mono ?_); (case side1 => exact pi_ HI0); (case side2 => exact pbI HB); rintro e w4 ⟨rfl, hi, hb, hk⟩; refine ⟨_, rfl, ?_⟩; replace HK := kh HK hk; replace HB := aQ (hb); replace HI0 := aQ (hi); (try clear hb); (try clear hk); (try clear hi)))
 go_ret
 exact ⟨re_, pi_ HI0, pbI HB, pq HK⟩
mutual
def yg.l0 : Nat → Int → Int → Int → Int → List Int → Int → Int → Option (Int)
 | 0, _, _, _, _, _, _, _ => none
 | k + 1, x0, x1, x2, x4, x11, x12, x13 => if x13 < x2 then ((yU.f x4 x13).bind fun tq0 => (if tq0 = true then (yg.l1 k x0 x1 x2 x4 x11 x12 x13 x12) else (yg.l0 k x0 x1 x2 x4 x11 x12 (wrap64 (x13 + 1))))) else (some x12)
def yg.j2 : Nat → Int → Int → Int → Int → List Int → Int → Int → Int → Option (Int)
 | 0, _, _, _, _, _, _, _, _ => none
 | k + 1, x0, x1, x2, x4, x11, x12, x13, x14 => if x14 ≥ x1 then (yg.l0 k x0 x1 x2 x4 x11 x12 (wrap64 (x13 + 1))) else (yg.l2 k x0 x1 x2 x4 x11 x12 x13 x14 0)
def yg.l2 : Nat → Int → Int → Int → Int → List Int → Int → Int → Int → Int → Option (Int)
 | 0, _, _, _, _, _, _, _, _, _ => none
 | k + 1, x0, x1, x2, x4, x11, x12, x13, x14, x15 => if x15 < x2 then (if 0 ≤ (wrap64 ((wrap64 (x14 * x2)) + x15)) then (if (wrap64 ((wrap64 (x14 * x2)) + x15)) < (x11.length : Int) then (if 0 ≤ (wrap64 ((wrap64 (x12 * x2)) + x15)) then (if (wrap64 ((wrap64 (x12 * x2)) + x15)) < (x11.length : Int) then (yg.l2 k x0 x1 x2 x4 ((x11.set ((wrap64 ((wrap64 (x14 * x2)) + x15)) : Int).toNat (rd x11 (wrap64 ((wrap64 (x12 * x2)) + x15)))).set ((wrap64 ((wrap64 (x12 * x2)) + x15)) : Int).toNat (rd x11 (wrap64 ((wrap64 (x14 * x2)) + x15)))) x12 x13 x14 (wrap64 (x15 + 1))) else (none)) else (none)) else (none)) else (none)) else (yg.l3 k x0 x1 x2 x4 x11 x12 x13 (wrap64 (x12 + 1)))
def yg.l3 : Nat → Int → Int → Int → Int → List Int → Int → Int → Int → Option (Int)
 | 0, _, _, _, _, _, _, _, _ => none
 | k + 1, x0, x1, x2, x4, x11, x12, x13, x17 => if x17 < x1 then (if 0 ≤ (wrap64 ((wrap64 (x17 * x2)) + x13)) then (if (wrap64 ((wrap64 (x17 * x2)) + x13)) < (x11.length : Int) then (if 0 ≤ (wrap64 ((wrap64 (x12 * x2)) + x13)) then (if (wrap64 ((wrap64 (x12 * x2)) + x13)) < (x11.length : Int) then (yg.l4 k x0 x1 x2 x4 x11 x12 x13 x17 (rd x11 (wrap64 ((wrap64 (x17 * x2)) + x13))) (rd x11 (wrap64 ((wrap64 (x12 * x2)) + x13))) 0) else (none)) else (none)) else (none)) else (none)) else (yg.l0 k x0 x1 x2 x4 x11 (wrap64 (x12 + 1)) (wrap64 (x13 + 1)))
def yg.l4 : Nat → Int → Int → Int → Int → List Int → Int → Int → Int → Int → Int → Int → Option (Int)
 | 0, _, _, _, _, _, _, _, _, _, _, _ => none
 | k + 1, x0, x1, x2, x4, x11, x12, x13, x17, x18, x19, x20 => if x20 < x2 then (if 0 ≤ (wrap64 ((wrap64 (x17 * x2)) + x20)) then (if (wrap64 ((wrap64 (x17 * x2)) + x20)) < (x11.length : Int) then (if 0 ≤ (wrap64 ((wrap64 (x12 * x2)) + x20)) then (if (wrap64 ((wrap64 (x12 * x2)) + x20)) < (x11.length : Int) then (if x0 = 0 then (none) else (yg.l4 k x0 x1 x2 x4 (x11.set ((wrap64 ((wrap64 (x17 * x2)) + x20)) : Int).toNat (Int.tmod (wrap64 ((Int.tmod (wrap64 ((wrap64 ((rd x11 (wrap64 ((wrap64 (x17 * x2)) + x20))) * x19)) - (wrap64 ((rd x11 (wrap64 ((wrap64 (x12 * x2)) + x20))) * x18)))) x0) + x0)) x0)) x12 x13 x17 x18 x19 (wrap64 (x20 + 1)))) else (none)) else (none)) else (none)) else (none)) else (yg.l3 k x0 x1 x2 x4 x11 x12 x13 (wrap64 (x17 + 1)))
def yg.l1 : Nat → Int → Int → Int → Int → List Int → Int → Int → Int → Option (Int)
 | 0, _, _, _, _, _, _, _, _ => none
 | k + 1, x0, x1, x2, x4, x11, x12, x13, x14 => if x14 < x1 then (if 0 ≤ (wrap64 ((wrap64 (x14 * x2)) + x13)) then (if (wrap64 ((wrap64 (x14 * x2)) + x13)) < (x11.length : Int) then (if (rd x11 (wrap64 ((wrap64 (x14 * x2)) + x13))) = 0 then (yg.l1 k x0 x1 x2 x4 x11 x12 x13 (wrap64 (x14 + 1))) else (yg.j2 k x0 x1 x2 x4 x11 x12 x13 x14)) else (none)) else (none)) else (yg.j2 k x0 x1 x2 x4 x11 x12 x13 x14)
end
def yg.f (k : Nat) (a0 : Int) (a1 : Int) (a2 : Int) (l3 : List Int) (a4 : Int) : Option (Int) := (some (([] : List Int) : List Int)).bind fun yq1 => (if yq1.length + l3.length < 17592186044416 then (yg.l0 k a0 a1 a2 a4 (yq1 ++ l3) 0 0) else (none))
def yg.T25 : Bool × List (List Nat × List Nat) := (true, [([], []), ([], []), ([], []), ([1, 2], [1, 2]), ([], []), ([3, 4], [3, 4]), ([], []), ([], []), ([], []), ([7, 8], [7, 8]), ([], []), ([9, 10], [9, 10]), ([6, 11], [6, 11]), ([12], [12]), ([], []), ([13, 14], [13, 14]), ([], []), ([], []), ([], []), ([17, 18], [17, 18]), ([], []), ([19, 20], [19, 20]), ([16, 21], [16, 21]), ([22], [22]), ([], []), ([23, 24], [23, 24]), ([15, 25], [15, 25]), ([], []), ([26, 27], [26, 27]), ([], []), ([28, 29], [28, 29]), ([], []), ([30, 31], [30, 31]), ([0, 5, 0, 1, 2, 3, 4, 5, 6, 7, 8, 9, 10, 11, 12, 13, 14, 15, 16, 17, 18, 19, 20, 21, 22, 23, 24, 25, 26, 27, 28, 29, 30, 31, 32], [0, 5]), ([33, 32, 0, 1, 2, 3, 4, 5, 6, 7, 8, 9, 10, 11, 12, 13, 14, 15, 16, 17, 18, 19, 20, 21, 22, 23, 24, 25, 26, 27, 28, 29, 30, 31, 32], [32, 33])])
def yg.B25 : List Nat := [0, 0, 0, 6, 0, 30, 0, 0, 0, 384, 0, 1920, 4032, 8128, 0, 32704, 0, 0, 0, 393216, 0, 1966080, 4128768, 8323072, 0, 33488896, 67108800, 0, 268435392, 0, 1073741760, 0, 4294967232, 8589934591, 17179869183]
theorem yg.tab25 : rtab .any (yco Try.f185 25) = yg.T25 := by kernel_rfl
theorem yg.bits25 : ybf yg.T25.2 yg.B25 = true := by kernel_rfl
theorem yg.calls (k : Nat) (a0 : Int) (a1 : Int) (a2 : Int) (A3 : Option Addr) (c3 : Nat) (l3 : List Int) (a4 : Int) (r : Int) (w : World) (hr3 : Kd.C (Kd.int .i64) w A3 l3.length l3) (hc3 : l3.length ≤ c3) (h : yg.f k a0 a1 a2 l3 a4 = some r) :
  Calls Try.prog 185 #[.int .i64 a0, .int .i64 a1, .int .i64 a2, .slice A3 l3.length c3, .int .i64 a4] w fun e w' => e = .returned (.int .i64 r) ∧ Below w.heap.size w w' := by
 have HR3 := aQ hr3
 have HC3 := aQ hc3
 clear hr3 hc3
 have HB := aQ (Below.refl w.heap.size w)
 have H := h
 clear h
 unfold yg.f at H
 (try dsimp only at H)
 obtain ⟨yq1, hyq1⟩ : ∃ y_ : List Int, y_ = (([] : List Int)) := ⟨_, rfl⟩
 replace H := yy hyq1 H
 (try dsimp only at H)
 have Nyq1 := aQ hyq1
 clear hyq1
 replace H := gd H; obtain ⟨c6, H⟩ := H
 have LMc6 := aQ c6
 clear c6
 obtain ⟨yq2, hyq2⟩ : ∃ y_ : List Int, y_ = (yq1 ++ l3) := ⟨_, rfl⟩
 replace H : (yg.l0 k a0 a1 a2 a4 yq2 0 0) = some r := by first | (rw [hyq2]; with_reducible exact H) | (rw [hyq2]; exact H)
 have Nyq2 := aQ hyq2
 clear hyq2
 have H' := aQ H
 clear H
 go_enter Try.func185, Try.ntmps185
 go_wp2_with (first | ((with_reducible refine yb (N := 21) rfl ?_); refine Kd.R_lit (Kd.int .i64) _ 3 ?hg (N := 21) ?hd (xs := ([] : List Int)) (inner := []) (ok := fun _ => True) (okp := fun _ => True) ?hr ?hp (fun _ hk => hk) trivial (Below.refl _ _) (Nat.le_refl _) (by simp) ?_; (case hd => rfl); (case hg => rfl); (case hr => first | (go_simp; done) | (go_simp; rfl)); (case hp => exact (Reps.none _ _)); intro vq3 w7 ho8 hb hg_ hnew_; clear hg_ hnew_; (first | rw [← Nyq1.out] at ho8 | (simp only [Int.reduceToNat] at ho8; rw [← Nyq1.out] at ho8)); have HOq4 := aQ (Kd.R_lower ho8 (yc (pB HB.out))); replace HB := bs HB hb; clear hb ho8) | ((with_reducible refine yO (b := .append) (xs := #[.tmp 21, .tmp 22]) rfl ?_); at_builtin; refine Kd.R_append_rows (Kd.int .i64) (w0 := w) w.heap.size rfl (.tmp 21) (.tmp 22) 22 3 (.int .i64 0) 8 rfl Try.underlying22 yaU rfl (by decide) (by omega) vq3 yq1 l3 _ _ _ (fun _ => True) (fun _ => False) rfl rfl ?aO ?aR (fun _ _ h => h) (fun _ h => h.elim) ?aF ?aB ?aS ?aL ?_; (case aR => exact pC (Kd.C_below HR3.out HB.out)); (case aB => exact (pB HB.out)); (case aF => exact (fun _ _ => trivial)); (case aO => exact (pR HOq4.out)); (case aS => exact (yc (pB HB.out))); (case aL => have := LMc6.out; omega); intro vq5 w9 ho hb hg hat; rw [← Nyq2.out] at ho; replace HB := aQ (hb); have HOq6 := aQ (ho); clear HOq4; clear ho hb hg hat))
 go_loopg [12, 13] k (fun kq v12 v13 w' => ∃ (x11_1 : List Int) (x12_1 : Int) (x13_1 : Int), v12 = .int .i64 x12_1 ∧ v13 = .int .i64 x13_1 ∧ Aside0 (yg.l0 kq a0 a1 a2 a4 x11_1 x12_1 x13_1 = some r) ∧ Aside0 (kq ≤ k) ∧ Aside0 (Kd.R (Kd.int .i64) 3 w' w.heap.size (fun _ => True) vq5 x11_1) ∧ Aside0 (Below w.heap.size w w'))
 case atStart => exact ⟨(yq2), (0), (0), rs_, rs_, H', ⟨Nat.le_refl _⟩, ⟨pR HOq6.out⟩, ⟨pB HB.out⟩⟩
 clear H'
 try clear c1
 try clear p2
 try clear c3
 try clear c6
 obtain ⟨x11_1, x12_1, x13_1, rfl, rfl, HA, HK1, HO_11, HB⟩ := hrel
 rcases gk with _ | k1
 ·exact absurd HA.out (by simp [yg.l0])
 have H := HA.out
 clear HA
 simp only [yg.l0] at H
 by_cases c10 : x13_1 < a2
 ·rw [if_pos c10] at H
  have c10b0 := decide_eq_true c10
  clear c10
  replace H := bo H; obtain ⟨tq0, A11, H⟩ := H
  (try dsimp only at H)
  by_cases c12 : tq0 = true
  ·subst c12
   rw [if_pos rfl] at H
   have HC13 := aQ H
   clear H
   go_upto_block 2 with (first | (refine gq 69 (some 31) Try.func69 #[.int .i64 a4, .int .i64 x13_1] ?_; (with_reducible refine (yU.calls a4 x13_1 true _ A11.out).mono ?_); rintro e w' ⟨rfl, ⟨nd, rfl⟩⟩; refine ⟨_, rfl, ?_⟩))
   (try simp only [Act.put, List.setIfInBounds_toArray, List.set_cons_zero, List.set_cons_succ])
   go_cut [14] (fun v14 wc => ∃ (kq : Nat) (x14_12 : Int), v14 = .int .i64 x14_12 ∧ Aside0 (yg.j2 kq a0 a1 a2 a4 x11_1 x12_1 x13_1 x14_12 = some r) ∧ Aside0 (kq ≤ k1) ∧ Aside0 (Kd.R (Kd.int .i64) 3 wc w.heap.size (fun _ => True) vq5 x11_1) ∧ Aside0 (Below w.heap.size w wc))
   case first =>
    have H := HC13.out
    clear HC13
    have H' := aQ H
    clear H
    go_wp2
    go_loopg [14] k1 (fun kq v14 w' => ∃ (x14_2 : Int), v14 = .int .i64 x14_2 ∧ Aside0 (yg.l1 kq a0 a1 a2 a4 x11_1 x12_1 x13_1 x14_2 = some r) ∧ Aside0 (kq ≤ k1) ∧ Aside0 (Kd.R (Kd.int .i64) 3 w' w.heap.size (fun _ => True) vq5 x11_1) ∧ Aside0 (Below w.heap.size w w'))
    case atStart => exact ⟨(x12_1), rs_, H', ⟨Nat.le_refl _⟩, ⟨pR HO_11.out⟩, ⟨pB HB.out⟩⟩
    clear H'
    try clear c1
    try clear p2
    try clear c3
    try clear c6
    try clear p6
    try clear c10
    try clear c10b0
    try clear c12
    try clear p2
    obtain ⟨x14_2, rfl, HA, HK2, HO_11, HB⟩ := hrel
    rcases gk with _ | k2
    ·exact absurd HA.out (by simp [yg.l1])
    have H := HA.out
    clear HA
    simp only [yg.l1] at H
    by_cases c14 : x14_2 < a1
    ·rw [if_pos c14] at H
     have c14b0 := decide_eq_true c14
     clear c14
     (first | rw [c14b0] | (simp only [i64_w, ybq]; rw [c14b0]) | skip)
     obtain ⟨ji15, hji15⟩ : ∃ j_ : Int, (wrap64 ((wrap64 (x14_2 * a2)) + x13_1)) = j_ := ⟨_, rfl⟩
     replace H : (if 0 ≤ (ji15) then (if (ji15) < (x11_1.length : Int) then (if (rd x11_1 (ji15)) = 0 then (yg.l1 k2 a0 a1 a2 a4 x11_1 x12_1 x13_1 (wrap64 (x14_2 + 1))) else (yg.j2 k2 a0 a1 a2 a4 x11_1 x12_1 x13_1 x14_2)) else (none)) else (none)) = some r := by first | (rw [hji15] at H; exact H) | (simp only [hji15] at H ⊢; exact H)
     have hji15w : (IntKind.i64.wrap ((wrap64 (x14_2 * a2)) + x13_1)) = ji15 := (i64_w _).trans hji15
     replace H := gd H; obtain ⟨c16, H⟩ := H
     have c16b0 := decide_eq_true c16
     clear c16
     replace H := gd H; obtain ⟨c17, H⟩ := H
     have c17b0 := decide_eq_true c17
     clear c17
     by_cases c18 : (rd x11_1 (ji15)) = 0
     ·rw [if_pos c18] at H
      have c18b0 : ((rd x11_1 (ji15)) == 0) = true := beq_iff_eq.mpr c18
      have c18b1 : ((rd x11_1 (ji15)) != 0) = false := bne_eq_false_iff_eq.mpr c18
      clear c18
      have H' := aQ H
      clear H
      obtain ⟨Ao19, co19, eo19⟩ := Kd.R_slice HO_11.out
      subst eo19
      have pq7 : 0 ≤ ((ji15) : Int) := of_decide_eq_true as_
      have qq7 : (ji15) < (x11_1.length : Int) := of_decide_eq_true as_
      obtain ⟨adq7, eq7, hxq7_0⟩ := Kd.at_int (Kd.R_reads' HO_11.out).2.2 (ji15) pq7 qq7
      cases eq7
      replace pq7 := eq_true pq7
      replace qq7 := eq_true qq7
      go_wp2
      go_roundg k2
      case measure => have := HK1.out; have := HK2.out; omega
      case rel => exact ⟨(wrap64 (x14_2 + 1)), rs_, H', ⟨by have := HK1.out; have := HK2.out; omega⟩, ⟨pR HO_11.out⟩, ⟨pB HB.out⟩⟩
     ·rw [if_neg c18] at H
      have c18b0 : ((rd x11_1 (ji15)) == 0) = false := beq_eq_false_iff_ne.mpr c18
      have c18b1 : ((rd x11_1 (ji15)) != 0) = true := bne_iff_ne.mpr c18
      have H' := aQ H
      clear H
      obtain ⟨Ao20, co20, eo20⟩ := Kd.R_slice HO_11.out
      subst eo20
      have pq7 : 0 ≤ ((ji15) : Int) := of_decide_eq_true as_
      have qq7 : (ji15) < (x11_1.length : Int) := of_decide_eq_true as_
      obtain ⟨adq7, eq7, hxq7_0⟩ := Kd.at_int (Kd.R_reads' HO_11.out).2.2 (ji15) pq7 qq7
      cases eq7
      replace pq7 := eq_true pq7
      replace qq7 := eq_true qq7
      go_wp2
      go_meet
      case rel => exact ⟨_, (x14_2), rs_, H', ⟨by have := HK1.out; have := HK2.out; first | omega | exact Nat.le_refl _⟩, ⟨pR HO_11.out⟩, ⟨pB HB.out⟩⟩
    ·rw [if_neg c14] at H
     have c14b0 := decide_eq_false c14
     clear c14
     (first | rw [c14b0] | (simp only [i64_w, ybq]; rw [c14b0]) | skip)
     have H' := aQ H
     clear H
     go_wp2
     go_meet
     case rel => exact ⟨_, (x14_2), rs_, H', ⟨by have := HK1.out; have := HK2.out; first | omega | exact Nat.le_refl _⟩, ⟨pR HO_11.out⟩, ⟨pB HB.out⟩⟩
   case rest =>
    clear HC13
    try clear c1
    try clear p1
    try clear q1
    try clear hx1
    try clear p2
    try clear c3
    try clear c6
    try clear p6
    try clear c10
    try clear c10b0
    try clear c12
    try clear c14
    try clear c14b0
    try clear c16
    try clear c16b0
    try clear c17
    try clear c17b0
    try clear c18
    try clear c18b0
    try clear c18b1
    try clear p18
    try clear q18
    try clear hx18
    try clear hxq7_0
    try clear pq7
    try clear p2
    try clear p6
    try clear qq7
    obtain ⟨kq, x14_12, rfl, HA, HJ12, HO_11, HB⟩ := hcut
    cases kq with
    | zero => exact absurd HA.out (by simp [yg.j2])
    | succ kj12 =>
     have H := HA.out
     clear HA
     simp only [yg.j2] at H
     by_cases c21 : x14_12 ≥ a1
     ·rw [if_pos c21] at H
      have c21b0 := decide_eq_true c21
      clear c21
      have H' := aQ H
      clear H
      go_wp2
      go_roundg kj12
      case measure => have := HK1.out; have := HJ12.out; omega
      case rel => exact ⟨(x11_1), (x12_1), (wrap64 (x13_1 + 1)), rs_, rs_, H', ⟨by have := HK1.out; have := HJ12.out; omega⟩, ⟨pR HO_11.out⟩, ⟨pB HB.out⟩⟩
     ·rw [if_neg c21] at H
      have c21b0 := decide_eq_false c21
      clear c21
      have H' := aQ H
      clear H
      go_wp2
      go_loopg [15] kj12 (fun kq v15 w' => ∃ (x11_3 : List Int) (x15_3 : Int), v15 = .int .i64 x15_3 ∧ Aside0 (yg.l2 kq a0 a1 a2 a4 x11_3 x12_1 x13_1 x14_12 x15_3 = some r) ∧ Aside0 (kq ≤ kj12) ∧ Aside0 (Kd.R (Kd.int .i64) 3 w' w.heap.size (fun _ => True) vq5 x11_3) ∧ Aside0 (Below w.heap.size w w'))
      case atStart => exact ⟨(x11_1), (0), rs_, H', ⟨Nat.le_refl _⟩, ⟨pR HO_11.out⟩, ⟨pB HB.out⟩⟩
      clear H'
      try clear c1
      try clear p1
      try clear q1
      try clear hx1
      try clear c2
      try clear p2
      try clear c3
      try clear c6
      try clear p6
      try clear c10
      try clear c10b0
      try clear c12
      try clear c14
      try clear c14b0
      try clear c16
      try clear c16b0
      try clear c17
      try clear c17b0
      try clear c18
      try clear c18b0
      try clear c18b1
      try clear p18
      try clear q18
      try clear hx18
      try clear c21
      try clear c21b0
      try clear hxq7_0
      try clear p1
      try clear p18
      try clear pq7
      try clear p2
      try clear p6
      try clear q1
      try clear q18
      try clear qq7
      obtain ⟨x11_3, x15_3, rfl, HA, HK3, HO_11, HB⟩ := hrel
      rcases gk with _ | k3
      ·exact absurd HA.out (by simp [yg.l2])
      have H := HA.out
      clear HA
      simp only [yg.l2] at H
      by_cases c22 : x15_3 < a2
      ·rw [if_pos c22] at H
       have c22b0 := decide_eq_true c22
       clear c22
       obtain ⟨ji23, hji23⟩ : ∃ j_ : Int, (wrap64 ((wrap64 (x14_12 * a2)) + x15_3)) = j_ := ⟨_, rfl⟩
       replace H : (if 0 ≤ (ji23) then (if (ji23) < (x11_3.length : Int) then (if 0 ≤ (wrap64 ((wrap64 (x12_1 * a2)) + x15_3)) then (if (wrap64 ((wrap64 (x12_1 * a2)) + x15_3)) < (x11_3.length : Int) then (yg.l2 k3 a0 a1 a2 a4 ((x11_3.set ((ji23) : Int).toNat (rd x11_3 (wrap64 ((wrap64 (x12_1 * a2)) + x15_3)))).set ((wrap64 ((wrap64 (x12_1 * a2)) + x15_3)) : Int).toNat (rd x11_3 (ji23))) x12_1 x13_1 x14_12 (wrap64 (x15_3 + 1))) else (none)) else (none)) else (none)) else (none)) = some r := by first | (rw [hji23] at H; exact H) | (simp only [hji23] at H ⊢; exact H)
       have hji23w : (IntKind.i64.wrap ((wrap64 (x14_12 * a2)) + x15_3)) = ji23 := (i64_w _).trans hji23
       replace H := gd H; obtain ⟨c24, H⟩ := H
       have c24b0 := decide_eq_true c24
       clear c24
       replace H := gd H; obtain ⟨c25, H⟩ := H
       have c25b0 := decide_eq_true c25
       clear c25
       obtain ⟨ji26, hji26⟩ : ∃ j_ : Int, (wrap64 ((wrap64 (x12_1 * a2)) + x15_3)) = j_ := ⟨_, rfl⟩
       replace H : (if 0 ≤ (ji26) then (if (ji26) < (x11_3.length : Int) then (yg.l2 k3 a0 a1 a2 a4 ((x11_3.set ((ji23) : Int).toNat (rd x11_3 (ji26))).set ((ji26) : Int).toNat (rd x11_3 (ji23))) x12_1 x13_1 x14_12 (wrap64 (x15_3 + 1))) else (none)) else (none)) = some r := by first | (rw [hji26] at H; exact H) | (simp only [hji26] at H ⊢; exact H)
       have hji26w : (IntKind.i64.wrap ((wrap64 (x12_1 * a2)) + x15_3)) = ji26 := (i64_w _).trans hji26
       replace H := gd H; obtain ⟨c27, H⟩ := H
       have c27b0 := decide_eq_true c27
       clear c27
       replace H := gd H; obtain ⟨c28, H⟩ := H
       have c28b0 := decide_eq_true c28
       clear c28
       obtain ⟨yq8, hyq8⟩ : ∃ y_ : List Int, y_ = (x11_3.set ((ji23) : Int).toNat (rd x11_3 (ji26))) := ⟨_, rfl⟩
       replace H : (yg.l2 k3 a0 a1 a2 a4 (yq8.set ((ji26) : Int).toNat (rd x11_3 (ji23))) x12_1 x13_1 x14_12 (wrap64 (x15_3 + 1))) = some r := by first | (rw [hyq8]; with_reducible exact H) | (rw [hyq8]; exact H)
       have Nyq8 := aQ hyq8
       clear hyq8
       obtain ⟨yq9, hyq9⟩ : ∃ y_ : List Int, y_ = (yq8.set ((ji26) : Int).toNat (rd x11_3 (ji23))) := ⟨_, rfl⟩
       replace H : (yg.l2 k3 a0 a1 a2 a4 yq9 x12_1 x13_1 x14_12 (wrap64 (x15_3 + 1))) = some r := by first | (rw [hyq9]; with_reducible exact H) | (rw [hyq9]; exact H)
       have Nyq9 := aQ hyq9
       clear hyq9
       have H' := aQ H
       clear H
       obtain ⟨Ao31, co31, eo31⟩ := Kd.R_slice HO_11.out
       subst eo31
       have pqa : 0 ≤ ((ji23) : Int) := of_decide_eq_true as_
       have qqa : (ji23) < (x11_3.length : Int) := of_decide_eq_true as_
       obtain ⟨adqa, eqa, hxqa_0⟩ := Kd.at_int (Kd.R_reads' HO_11.out).2.2 (ji23) pqa qqa
       cases eqa
       replace pqa := eq_true pqa
       replace qqa := eq_true qqa
       have pqb : 0 ≤ ((ji26) : Int) := of_decide_eq_true as_
       have qqb : (ji26) < (x11_3.length : Int) := of_decide_eq_true as_
       obtain ⟨adqb, eqb, hxqb_0⟩ := Kd.at_int (Kd.R_reads' HO_11.out).2.2 (ji26) pqb qqb
       obtain rfl : adqa = adqb := (by injection eqb)
       replace pqb := eq_true pqb
       replace qqb := eq_true qqb
       have p29 : 0 ≤ ((ji23) : Int) := of_decide_eq_true as_
       have q29 : ((ji23) : Int) < ((x11_3.length : Int) : Int) := of_decide_eq_true as_
       obtain ⟨go29, co29, eo29, gb29, gl29, cl29, HG29⟩ := Kd.R_form HO_11.out (by omega)
       (first | cases eo29 | (injection eo29 with ea_ en_ ec_; (first | subst ea_ | (injection ea_ with ea_; subst ea_)); subst ec_; clear en_))
       have GB29 := aQ gb29
       have GG29 := aQ HG29
       clear gb29 gl29 HG29
       (first | simp only [ybJ] at hxqa_0 | skip)
       (first | simp only [ybJ] at hxqb_0 | skip)
       obtain ⟨hx29_0, hf29_0⟩ := Kd.R_celln 0 HO_11.out ((ji23) : Int) p29 q29
       replace p29 := eq_true p29
       replace q29 := eq_true q29
       have HP32 := Kd.R_putg HO_11.out ((ji23) : Int) (rd x11_3 (ji26))
       go_wp2_with (first | ((with_reducible refine yeh (t := 3) (p := 80) rfl ?_); refine ydO (t := 3) (p := 80) (v := ?vo_w33) (w1 := (wr.setCell ⟨go29, ((ji23) : Int).toNat, none⟩ (.int .i64 (rd x11_3 (ji26))))) ?hg ?ho ?hn ?hr ?_; (case ho => rfl); (case hg => rfl); (case hn => rfl); (case hr => first | (go_simp; done) | (go_simp; rfl)); intro w33 hw; have hg : wr.grownBy w33 (some go29) := (by rw [hw]; exact HP32.2); have hp_ : Kd.R (Kd.int .i64) 3 w33 w.heap.size (fun _ => True) (.slice (some ⟨go29, 0, none⟩) x11_3.length co31) yq8 := (by rw [hw, Nyq8.out]; exact HP32.1); clear HP32; replace HO_11 := aQ (hp_); replace HB := aQ ((by rw [hw]; exact ybb (HB.out) GB29.out : Below w.heap.size w w33)); clear hg hw hp_; have p30 : 0 ≤ ((ji26) : Int) := of_decide_eq_true as_; have q30 : ((ji26) : Int) < ((x11_3.length : Int) : Int) := of_decide_eq_true as_; obtain ⟨hx30_0, hf30_0⟩ := Kd.R_celln 0 HO_11.out ((ji26) : Int) p30 q30; replace p30 := eq_true p30; replace q30 := eq_true q30; obtain ⟨hy34_, hz34_⟩ := Kd.R_celln 0 HO_11.out ((ji26) : Int) (of_decide_eq_true as_) (of_decide_eq_true as_); have HP34 := Kd.R_putg HO_11.out ((ji26) : Int) (rd x11_3 (ji23))) | ((with_reducible refine yeh (t := 3) (p := 88) rfl ?_); refine ydO (t := 3) (p := 88) (v := ?vo_w35) (w1 := (w33.setCell ⟨go29, ((ji26) : Int).toNat, none⟩ (.int .i64 (rd x11_3 (ji23))))) ?hg ?ho ?hn ?hr ?_; (case ho => rfl); (case hg => rfl); (case hn => rfl); (case hr => first | (go_simp; done) | (go_simp; rfl)); intro w35 hw; have hg : w33.grownBy w35 (some go29) := (by rw [hw]; exact HP34.2); have hp_ : Kd.R (Kd.int .i64) 3 w35 w.heap.size (fun _ => True) (.slice (some ⟨go29, 0, none⟩) x11_3.length co31) yq9 := (by rw [hw, Nyq9.out]; exact HP34.1); clear HP34; replace HO_11 := aQ (hp_); replace HB := aQ ((by rw [hw]; exact ybb (HB.out) GB29.out : Below w.heap.size w w35)); clear hg hw hp_))
       go_roundg k3
       case measure => have := HK1.out; have := HJ12.out; have := HK3.out; omega
       case rel => exact ⟨(yq9), (wrap64 (x15_3 + 1)), rs_, H', ⟨by have := HK1.out; have := HJ12.out; have := HK3.out; omega⟩, ⟨pR HO_11.out⟩, ⟨pB HB.out⟩⟩
      ·rw [if_neg c22] at H
       have c22b0 := decide_eq_false c22
       clear c22
       have H' := aQ H
       clear H
       go_wp2
       go_loopg [17] k3 (fun kq v17 w' => ∃ (x11_4 : List Int) (x17_4 : Int), v17 = .int .i64 x17_4 ∧ Aside0 (yg.l3 kq a0 a1 a2 a4 x11_4 x12_1 x13_1 x17_4 = some r) ∧ Aside0 (kq ≤ k3) ∧ Aside0 (Kd.R (Kd.int .i64) 3 w' w.heap.size (fun _ => True) vq5 x11_4) ∧ Aside0 (Below w.heap.size w w'))
       case atStart => exact ⟨(x11_3), (wrap64 (x12_1 + 1)), rs_, H', ⟨Nat.le_refl _⟩, ⟨pR HO_11.out⟩, ⟨pB HB.out⟩⟩
       clear H'
       try clear c1
       try clear p1
       try clear q1
       try clear hx1
       try clear c2
       try clear p2
       try clear q2
       try clear hx2
       try clear c3
       try clear p3
       try clear q3
       try clear hx3
       try clear c6
       try clear p6
       try clear c10
       try clear c10b0
       try clear c12
       try clear c14
       try clear c14b0
       try clear c16
       try clear c16b0
       try clear c17
       try clear c17b0
       try clear c18
       try clear c18b0
       try clear c18b1
       try clear p18
       try clear q18
       try clear hx18
       try clear c21
       try clear c21b0
       try clear c22
       try clear c22b0
       try clear c24
       try clear c24b0
       try clear c25
       try clear c25b0
       try clear c27
       try clear c27b0
       try clear c28
       try clear c28b0
       try clear p29
       try clear q29
       try clear hx29
       try clear hf29
       try clear p30
       try clear q30
       try clear hx30
       try clear hf30
       try clear hxq7_0
       try clear hxqa_0
       try clear hxqb_0
       try clear hx29_0
       try clear hx30_0
       try clear p1
       try clear p18
       try clear pq7
       try clear pqa
       try clear pqb
       try clear p2
       try clear p29
       try clear p30
       try clear p6
       try clear q1
       try clear q18
       try clear qq7
       try clear qqa
       try clear qqb
       try clear q29
       try clear q30
       obtain ⟨x11_4, x17_4, rfl, HA, HK4, HO_11, HB⟩ := hrel
       rcases gk with _ | k4
       ·exact absurd HA.out (by simp [yg.l3])
       have H := HA.out
       clear HA
       simp only [yg.l3] at H
       by_cases c36 : x17_4 < a1
       ·rw [if_pos c36] at H
        have c36b0 := decide_eq_true c36
        clear c36
        obtain ⟨ji37, hji37⟩ : ∃ j_ : Int, (wrap64 ((wrap64 (x17_4 * a2)) + x13_1)) = j_ := ⟨_, rfl⟩
        replace H : (if 0 ≤ (ji37) then (if (ji37) < (x11_4.length : Int) then (if 0 ≤ (wrap64 ((wrap64 (x12_1 * a2)) + x13_1)) then (if (wrap64 ((wrap64 (x12_1 * a2)) + x13_1)) < (x11_4.length : Int) then (yg.l4 k4 a0 a1 a2 a4 x11_4 x12_1 x13_1 x17_4 (rd x11_4 (ji37)) (rd x11_4 (wrap64 ((wrap64 (x12_1 * a2)) + x13_1))) 0) else (none)) else (none)) else (none)) else (none)) = some r := by first | (rw [hji37] at H; exact H) | (simp only [hji37] at H ⊢; exact H)
        have hji37w : (IntKind.i64.wrap ((wrap64 (x17_4 * a2)) + x13_1)) = ji37 := (i64_w _).trans hji37
        replace H := gd H; obtain ⟨c38, H⟩ := H
        have c38b0 := decide_eq_true c38
        clear c38
        replace H := gd H; obtain ⟨c39, H⟩ := H
        have c39b0 := decide_eq_true c39
        clear c39
        obtain ⟨ji40, hji40⟩ : ∃ j_ : Int, (wrap64 ((wrap64 (x12_1 * a2)) + x13_1)) = j_ := ⟨_, rfl⟩
        replace H : (if 0 ≤ (ji40) then (if (ji40) < (x11_4.length : Int) then (yg.l4 k4 a0 a1 a2 a4 x11_4 x12_1 x13_1 x17_4 (rd x11_4 (ji37)) (rd x11_4 (ji40)) 0) else (none)) else (none)) = some r := by first | (rw [hji40] at H; exact H) | (simp only [hji40] at H ⊢; exact H)
        have hji40w : (IntKind.i64.wrap ((wrap64 (x12_1 * a2)) + x13_1)) = ji40 := (i64_w _).trans hji40
        replace H := gd H; obtain ⟨c41, H⟩ := H
        have c41b0 := decide_eq_true c41
        clear c41
        replace H := gd H; obtain ⟨c42, H⟩ := H
        have c42b0 := decide_eq_true c42
        clear c42
        have H' := aQ H
        clear H
        obtain ⟨Ao43, co43, eo43⟩ := Kd.R_slice HO_11.out
        subst eo43
        have pqc : 0 ≤ ((ji37) : Int) := of_decide_eq_true as_
        have qqc : (ji37) < (x11_4.length : Int) := of_decide_eq_true as_
        obtain ⟨adqc, eqc, hxqc_0⟩ := Kd.at_int (Kd.R_reads' HO_11.out).2.2 (ji37) pqc qqc
        cases eqc
        replace pqc := eq_true pqc
        replace qqc := eq_true qqc
        have pqd : 0 ≤ ((ji40) : Int) := of_decide_eq_true as_
        have qqd : (ji40) < (x11_4.length : Int) := of_decide_eq_true as_
        obtain ⟨adqd, eqd, hxqd_0⟩ := Kd.at_int (Kd.R_reads' HO_11.out).2.2 (ji40) pqd qqd
        obtain rfl : adqc = adqd := (by injection eqd)
        replace pqd := eq_true pqd
        replace qqd := eq_true qqd
        obtain ⟨go52, co52, eo52, gb52, gl52, cl52, HG52⟩ := Kd.R_form HO_11.out (by have := of_eq_true pqc; have := of_eq_true qqc; omega)
        (first | cases eo52 | (injection eo52 with ea_ en_ ec_; (first | subst ea_ | (injection ea_ with ea_; subst ea_)); subst ec_; clear en_))
        clear gb52 gl52 HG52
        (first | simp only [ybJ] at hxqc_0 | skip)
        (first | simp only [ybJ] at hxqd_0 | skip)
        go_wp2
        go_loopg [20] k4 (fun kq v20 w' => ∃ (x11_5 : List Int) (x20_5 : Int), v20 = .int .i64 x20_5 ∧ Aside0 (yg.l4 kq a0 a1 a2 a4 x11_5 x12_1 x13_1 x17_4 (rd x11_4 (ji37)) (rd x11_4 (ji40)) x20_5 = some r) ∧ Aside0 (kq ≤ k4) ∧ Aside0 (Kd.R (Kd.int .i64) 3 w' w.heap.size (fun _ => True) (.slice (some ⟨go52, 0, none⟩) x11_4.length co43) x11_5) ∧ Aside0 (Below w.heap.size w w'))
        case atStart => exact ⟨(x11_4), (0), rs_, H', ⟨Nat.le_refl _⟩, ⟨pR HO_11.out⟩, ⟨pB HB.out⟩⟩
        clear H'
        try clear c1
        try clear p1
        try clear q1
        try clear hx1
        try clear c2
        try clear p2
        try clear q2
        try clear hx2
        try clear c3
        try clear p3
        try clear q3
        try clear hx3
        try clear c4
        try clear c6
        try clear p6
        try clear c10
        try clear c10b0
        try clear c12
        try clear c14
        try clear c14b0
        try clear c16
        try clear c16b0
        try clear c17
        try clear c17b0
        try clear c18
        try clear c18b0
        try clear c18b1
        try clear p18
        try clear q18
        try clear hx18
        try clear c21
        try clear c21b0
        try clear c22
        try clear c22b0
        try clear c24
        try clear c24b0
        try clear c25
        try clear c25b0
        try clear c27
        try clear c27b0
        try clear c28
        try clear c28b0
        try clear p29
        try clear q29
        try clear hx29
        try clear hf29
        try clear p30
        try clear q30
        try clear hx30
        try clear hf30
        try clear c36
        try clear c36b0
        try clear c38
        try clear c38b0
        try clear c39
        try clear c39b0
        try clear c41
        try clear c41b0
        try clear c42
        try clear c42b0
        try clear hxq7_0
        try clear hxqa_0
        try clear hxqb_0
        try clear hxqc_0
        try clear hxqd_0
        try clear hx29_0
        try clear hx30_0
        try clear p1
        try clear p18
        try clear pq7
        try clear pqa
        try clear pqb
        try clear pqc
        try clear pqd
        try clear p2
        try clear p29
        try clear p3
        try clear p30
        try clear p6
        try clear q1
        try clear q18
        try clear qq7
        try clear qqa
        try clear qqb
        try clear qqc
        try clear qqd
        try clear q2
        try clear q29
        try clear q3
        try clear q30
        obtain ⟨x11_5, x20_5, rfl, HA, HK5, HO_11, HB⟩ := hrel
        have hl11_5 := (Kd.R_reads' HO_11.out).1
        rw [hl11_5] at HO_11
        (try simp only [hl11_5])
        rcases gk with _ | k5
        ·exact absurd HA.out (by simp [yg.l4])
        have H := HA.out
        clear HA
        simp only [yg.l4] at H
        by_cases c44 : x20_5 < a2
        ·rw [if_pos c44] at H
         have c44b0 := decide_eq_true c44
         clear c44
         obtain ⟨ji45, hji45⟩ : ∃ j_ : Int, (wrap64 ((wrap64 (x17_4 * a2)) + x20_5)) = j_ := ⟨_, rfl⟩
         replace H : (if 0 ≤ (ji45) then (if (ji45) < (x11_5.length : Int) then (if 0 ≤ (wrap64 ((wrap64 (x12_1 * a2)) + x20_5)) then (if (wrap64 ((wrap64 (x12_1 * a2)) + x20_5)) < (x11_5.length : Int) then (if a0 = 0 then (none) else (yg.l4 k5 a0 a1 a2 a4 (x11_5.set ((ji45) : Int).toNat (Int.tmod (wrap64 ((Int.tmod (wrap64 ((wrap64 ((rd x11_5 (ji45)) * (rd x11_4 (ji40)))) - (wrap64 ((rd x11_5 (wrap64 ((wrap64 (x12_1 * a2)) + x20_5))) * (rd x11_4 (ji37)))))) a0) + a0)) a0)) x12_1 x13_1 x17_4 (rd x11_4 (ji37)) (rd x11_4 (ji40)) (wrap64 (x20_5 + 1)))) else (none)) else (none)) else (none)) else (none)) = some r := by first | (rw [hji45] at H; exact H) | (simp only [hji45] at H ⊢; exact H)
         have hji45w : (IntKind.i64.wrap ((wrap64 (x17_4 * a2)) + x20_5)) = ji45 := (i64_w _).trans hji45
         replace H := gd H; obtain ⟨c46, H⟩ := H
         have c46b0 := decide_eq_true c46
         clear c46
         replace H := gd H; obtain ⟨c47, H⟩ := H
         have c47b0 := decide_eq_true c47
         clear c47
         obtain ⟨ji48, hji48⟩ : ∃ j_ : Int, (wrap64 ((wrap64 (x12_1 * a2)) + x20_5)) = j_ := ⟨_, rfl⟩
         replace H : (if 0 ≤ (ji48) then (if (ji48) < (x11_5.length : Int) then (if a0 = 0 then (none) else (yg.l4 k5 a0 a1 a2 a4 (x11_5.set ((ji45) : Int).toNat (Int.tmod (wrap64 ((Int.tmod (wrap64 ((wrap64 ((rd x11_5 (ji45)) * (rd x11_4 (ji40)))) - (wrap64 ((rd x11_5 (ji48)) * (rd x11_4 (ji37)))))) a0) + a0)) a0)) x12_1 x13_1 x17_4 (rd x11_4 (ji37)) (rd x11_4 (ji40)) (wrap64 (x20_5 + 1)))) else (none)) else (none)) = some r := by first | (rw [hji48] at H; exact H) | (simp only [hji48] at H ⊢; exact H)
         have hji48w : (IntKind.i64.wrap ((wrap64 (x12_1 * a2)) + x20_5)) = ji48 := (i64_w _).trans hji48
         replace H := gd H; obtain ⟨c49, H⟩ := H
         have c49b0 := decide_eq_true c49
         clear c49
         replace H := gd H; obtain ⟨c50, H⟩ := H
         have c50b0 := decide_eq_true c50
         clear c50
         by_cases c51 : a0 = 0
         ·rw [if_pos c51] at H
          exact absurd H (by simp)
         ·rw [if_neg c51] at H
          have c51b0 : (a0 == 0) = false := beq_eq_false_iff_ne.mpr c51
          have c51b1 : (a0 != 0) = true := bne_iff_ne.mpr c51
          obtain ⟨yqe, hyqe⟩ : ∃ y_ : List Int, y_ = (x11_5.set ((ji45) : Int).toNat (Int.tmod (wrap64 ((Int.tmod (wrap64 ((wrap64 ((rd x11_5 (ji45)) * (rd x11_4 (ji40)))) - (wrap64 ((rd x11_5 (ji48)) * (rd x11_4 (ji37)))))) a0) + a0)) a0)) := ⟨_, rfl⟩
          replace H : (yg.l4 k5 a0 a1 a2 a4 yqe x12_1 x13_1 x17_4 (rd x11_4 (ji37)) (rd x11_4 (ji40)) (wrap64 (x20_5 + 1))) = some r := by first | (rw [hyqe]; with_reducible exact H) | (rw [hyqe]; exact H)
          have Nyqe := aQ hyqe
          clear hyqe
          have H' := aQ H
          clear H
          try go_wp2
          replace HO_11 := aQ (Kd.R_drew HO_11.out); replace HB := aQ (yK HB.out)
          have pqf : 0 ≤ ((ji45) : Int) := of_decide_eq_true as_
          have qqf : (ji45) < (x11_5.length : Int) := of_decide_eq_true as_
          obtain ⟨adqf, eqf, hxqf_0⟩ := Kd.at_int (Kd.R_reads' HO_11.out).2.2 (ji45) pqf qqf
          cases eqf
          replace pqf := eq_true pqf
          replace qqf := eq_true qqf
          have pqg : 0 ≤ ((ji48) : Int) := of_decide_eq_true as_
          have qqg : (ji48) < (x11_5.length : Int) := of_decide_eq_true as_
          obtain ⟨adqg, eqg, hxqg_0⟩ := Kd.at_int (Kd.R_reads' HO_11.out).2.2 (ji48) pqg qqg
          cases eqg
          replace pqg := eq_true pqg
          replace qqg := eq_true qqg
          have p52 : 0 ≤ ((ji45) : Int) := of_decide_eq_true as_
          have q52 : ((ji45) : Int) < ((x11_5.length : Int) : Int) := of_decide_eq_true as_
          obtain ⟨go52z, co52, eo52, gb52, gl52, cl52, HG52⟩ := Kd.R_form HO_11.out (by omega)
          obtain rfl : go52 = go52z := (by have h_ := eo52; simp at h_; first | exact h_ | exact h_.1)
          (first | cases eo52 | (injection eo52 with ea_ en_ ec_; (first | subst ea_ | (injection ea_ with ea_; subst ea_)); subst ec_; clear en_))
          have GB52 := aQ gb52
          have GG52 := aQ HG52
          clear gb52 gl52 HG52
          (first | simp only [ybJ] at hxqc_0 | skip)
          (first | simp only [ybJ] at hxqd_0 | skip)
          (first | simp only [ybJ] at hxqf_0 | skip)
          (first | simp only [ybJ] at hxqg_0 | skip)
          obtain ⟨hx52_0, hf52_0⟩ := Kd.R_celln 0 HO_11.out ((ji45) : Int) p52 q52
          replace p52 := eq_true p52
          replace q52 := eq_true q52
          have HP54 := Kd.R_putn HO_11.out ((ji45) : Int) (Int.tmod (wrap64 ((Int.tmod (wrap64 ((wrap64 ((rd x11_5 (ji45)) * (rd x11_4 (ji40)))) - (wrap64 ((rd x11_5 (ji48)) * (rd x11_4 (ji37)))))) a0) + a0)) a0)
          rw [← Nyqe.out] at HP54
          have HQ54 := aQ HP54
          clear HP54
          refine ya0 (n := 35) (S := fun w' => w'.cell? ⟨go52, ((ji45)).toNat, none⟩ = some (.int .i64 (rd x11_5 (ji45))) ∧ w'.cell? ⟨go52, ((ji48)).toNat, none⟩ = some (.int .i64 (rd x11_5 (ji48)))) (ds := [34]) _ (by kernel_rfl) rfl rfl ⟨hxqf_0, hxqg_0⟩ (fun hHeld => ?_); refine yaw yg.tab25 yg.bits25 (fun HT_ HW_ => ?_)
          generalize wr.drew = w53 at HO_11 HB GG52 HQ54 hf52_0 hxqf_0 hxqg_0 hx52_0 hHeld ⊢
          refine pJ 0 (some 117) HT_ #[true, false, false, false, false, false, false, false, false, false, false, false, false, false, false, false, false, false, false, false, false, false, false, false, false, false, false, false, false, false, false, false, false, false, false] ?_
          refine pJ 1 (some 118) HT_ #[true, true, false, false, false, false, false, false, false, false, false, false, false, false, false, false, false, false, false, false, false, false, false, false, false, false, false, false, false, false, false, false, false, false, false] ?_
          refine pJ 2 (some 119) HT_ #[true, true, true, false, false, false, false, false, false, false, false, false, false, false, false, false, false, false, false, false, false, false, false, false, false, false, false, false, false, false, false, false, false, false, false] ?_
          refine pJ 3 (some 120) HT_ #[true, true, true, true, false, false, false, false, false, false, false, false, false, false, false, false, false, false, false, false, false, false, false, false, false, false, false, false, false, false, false, false, false, false, false] ?_
          refine pJ 4 (some 121) HT_ #[true, true, true, true, true, false, false, false, false, false, false, false, false, false, false, false, false, false, false, false, false, false, false, false, false, false, false, false, false, false, false, false, false, false, false] ?_
          refine pJ 5 (some 122) HT_ #[true, true, true, true, true, true, false, false, false, false, false, false, false, false, false, false, false, false, false, false, false, false, false, false, false, false, false, false, false, false, false, false, false, false, false] ?_
          refine pJ 6 (some 123) HT_ #[true, true, true, true, true, true, true, false, false, false, false, false, false, false, false, false, false, false, false, false, false, false, false, false, false, false, false, false, false, false, false, false, false, false, false] ?_
          refine pJ 7 (some 124) HT_ #[true, true, true, true, true, true, true, true, false, false, false, false, false, false, false, false, false, false, false, false, false, false, false, false, false, false, false, false, false, false, false, false, false, false, false] ?_
          refine pJ 8 (some 125) HT_ #[true, true, true, true, true, true, true, true, true, false, false, false, false, false, false, false, false, false, false, false, false, false, false, false, false, false, false, false, false, false, false, false, false, false, false] ?_
          refine pJ 9 (some 126) HT_ #[true, true, true, true, true, true, true, true, true, true, false, false, false, false, false, false, false, false, false, false, false, false, false, false, false, false, false, false, false, false, false, false, false, false, false] ?_
          refine pJ 10 (some 127) HT_ #[true, true, true, true, true, true, true, true, true, true, true, false, false, false, false, false, false, false, false, false, false, false, false, false, false, false, false, false, false, false, false, false, false, false, false] ?_
          refine pJ 11 (some 128) HT_ #[true, true, true, true, true, true, true, true, true, true, true, true, false, false, false, false, false, false, false, false, false, false, false, false, false, false, false, false, false, false, false, false, false, false, false] ?_
          refine pJ 12 (some 129) HT_ #[true, true, true, true, true, true, true, true, true, true, true, true, true, false, false, false, false, false, false, false, false, false, false, false, false, false, false, false, false, false, false, false, false, false, false] ?_
          refine pJ 14 (some 131) HT_ #[true, true, true, true, true, true, true, true, true, true, true, true, true, false, true, false, false, false, false, false, false, false, false, false, false, false, false, false, false, false, false, false, false, false, false] ?_
          refine pJ 16 (some 133) HT_ #[true, true, true, true, true, true, true, true, true, true, true, true, true, false, true, false, true, false, false, false, false, false, false, false, false, false, false, false, false, false, false, false, false, false, false] ?_
          refine pJ 17 (some 134) HT_ #[true, true, true, true, true, true, true, true, true, true, true, true, true, false, true, false, true, true, false, false, false, false, false, false, false, false, false, false, false, false, false, false, false, false, false] ?_
          refine pJ 18 (some 135) HT_ #[true, true, true, true, true, true, true, true, true, true, true, true, true, false, true, false, true, true, true, false, false, false, false, false, false, false, false, false, false, false, false, false, false, false, false] ?_
          refine pJ 19 (some 136) HT_ #[true, true, true, true, true, true, true, true, true, true, true, true, true, false, true, false, true, true, true, true, false, false, false, false, false, false, false, false, false, false, false, false, false, false, false] ?_
          refine pJ 20 (some 137) HT_ #[true, true, true, true, true, true, true, true, true, true, true, true, true, false, true, false, true, true, true, true, true, false, false, false, false, false, false, false, false, false, false, false, false, false, false] ?_
          refine pJ 21 (some 138) HT_ #[true, true, true, true, true, true, true, true, true, true, true, true, true, false, true, false, true, true, true, true, true, true, false, false, false, false, false, false, false, false, false, false, false, false, false] ?_
          refine pJ 22 (some 139) HT_ #[true, true, true, true, true, true, true, true, true, true, true, true, true, false, true, false, true, true, true, true, true, true, true, false, false, false, false, false, false, false, false, false, false, false, false] ?_
          refine pJ 24 (some 141) HT_ #[true, true, true, true, true, true, true, true, true, true, true, true, true, false, true, false, true, true, true, true, true, true, true, false, true, false, false, false, false, false, false, false, false, false, false] ?_
          refine pJ 27 (some 144) HT_ #[true, true, true, true, true, true, true, true, true, true, true, true, true, false, true, false, true, true, true, true, true, true, true, false, true, false, false, true, false, false, false, false, false, false, false] ?_
          refine pJ 29 (some 146) HT_ #[true, true, true, true, true, true, true, true, true, true, true, true, true, false, true, false, true, true, true, true, true, true, true, false, true, false, false, true, false, true, false, false, false, false, false] ?_
          refine pJ 31 (some 148) HT_ #[true, true, true, true, true, true, true, true, true, true, true, true, true, false, true, false, true, true, true, true, true, true, true, false, true, false, false, true, false, true, false, true, false, false, false] ?_
          refine take_ (i := 13) (N := some 130) (v := ?_) (a' := ?_) #[true, true, true, true, true, true, true, true, true, true, true, true, true, true, true, false, true, true, true, true, true, true, true, false, true, false, false, true, false, true, false, true, false, false, false] rfl rfl (ybK HT_.out HW_.out (by kernel_rfl)) (fun _ _ _ h => h) (Or.inl ⟨by rfl, ?_⟩) hHeld ?_ ?_
          rotate_left
          ·rintro w' ⟨s0, s1⟩
           go_simp
           with_reducible rfl
          rotate_left
          ·simp only [Act.put, List.setIfInBounds_toArray, List.set_cons_zero, List.set_cons_succ, i64_w, ybq]
           rfl
          refine pJ 15 (some 132) HT_ #[true, true, true, true, true, true, true, true, true, true, true, true, true, true, true, true, true, true, true, true, true, true, true, false, true, false, false, true, false, true, false, true, false, false, false] ?_
          refine take_ (i := 23) (N := some 140) (v := ?_) (a' := ?_) #[true, true, true, true, true, true, true, true, true, true, true, true, true, true, true, true, true, true, true, true, true, true, true, true, true, false, false, true, false, true, false, true, false, false, false] rfl rfl (ybK HT_.out HW_.out (by kernel_rfl)) (fun _ _ _ h => h) (Or.inl ⟨by rfl, ?_⟩) hHeld ?_ ?_
          rotate_left
          ·rintro w' ⟨s0, s1⟩
           go_simp
           with_reducible rfl
          rotate_left
          ·simp only [Act.put, List.setIfInBounds_toArray, List.set_cons_zero, List.set_cons_succ, i64_w, ybq]
           rfl
          refine pJ 25 (some 142) HT_ #[true, true, true, true, true, true, true, true, true, true, true, true, true, true, true, true, true, true, true, true, true, true, true, true, true, true, false, true, false, true, false, true, false, false, false] ?_
          refine pJ 26 (some 143) HT_ #[true, true, true, true, true, true, true, true, true, true, true, true, true, true, true, true, true, true, true, true, true, true, true, true, true, true, true, true, false, true, false, true, false, false, false] ?_
          refine pJ 28 (some 145) HT_ #[true, true, true, true, true, true, true, true, true, true, true, true, true, true, true, true, true, true, true, true, true, true, true, true, true, true, true, true, true, true, false, true, false, false, false] ?_
          refine pJ 30 (some 147) HT_ #[true, true, true, true, true, true, true, true, true, true, true, true, true, true, true, true, true, true, true, true, true, true, true, true, true, true, true, true, true, true, true, true, false, false, false] ?_
          refine pJ 32 (some 149) HT_ #[true, true, true, true, true, true, true, true, true, true, true, true, true, true, true, true, true, true, true, true, true, true, true, true, true, true, true, true, true, true, true, true, true, false, false] ?_
          refine pJ 33 (some 150) HT_ #[true, true, true, true, true, true, true, true, true, true, true, true, true, true, true, true, true, true, true, true, true, true, true, true, true, true, true, true, true, true, true, true, true, true, false] ?_
          refine yhn (i := 34) (N := none) #[true, true, true, true, true, true, true, true, true, true, true, true, true, true, true, true, true, true, true, true, true, true, true, true, true, true, true, true, true, true, true, true, true, true, true] rfl rfl (ybP HT_.out (by kernel_rfl)) (by decide) (fun K hK => ?_)
          refine ybU (w1 := ?_) (by rfl) rfl ?_ ?_
          rotate_left
          ·go_simp
           rfl
          refine hK.out _ _ ?_
          clear hK K
          refine ybs (yaZ HT_.out (by kernel_rfl)) ?_
          try go_wp2
          (try simp only [← hl11_5])
          go_roundg k5
          case measure => have := HK1.out; have := HJ12.out; have := HK3.out; have := HK4.out; have := HK5.out; omega
          case rel => exact ⟨(yqe), (wrap64 (x20_5 + 1)), rs_, H', ⟨by have := HK1.out; have := HJ12.out; have := HK3.out; have := HK4.out; have := HK5.out; omega⟩, ⟨by (try simp only [hl11_5]); refine pRx ?_; exact HQ54.out⟩, ⟨pb HB⟩⟩
        ·rw [if_neg c44] at H
         have c44b0 := decide_eq_false c44
         clear c44
         have H' := aQ H
         clear H
         go_wp2
         (try simp only [← hl11_5])
         go_roundg k5
         case measure => have := HK1.out; have := HJ12.out; have := HK3.out; have := HK4.out; have := HK5.out; omega
         case rel => exact ⟨(x11_5), (wrap64 (x17_4 + 1)), rs_, H', ⟨by have := HK1.out; have := HJ12.out; have := HK3.out; have := HK4.out; have := HK5.out; omega⟩, ⟨by (try simp only [hl11_5]); refine pRx ?_; exact HO_11.out⟩, ⟨pB HB.out⟩⟩
       ·rw [if_neg c36] at H
        have c36b0 := decide_eq_false c36
        clear c36
        have H' := aQ H
        clear H
        go_wp2
        go_roundg k4
        case measure => have := HK1.out; have := HJ12.out; have := HK3.out; have := HK4.out; omega
        case rel => exact ⟨(x11_4), (wrap64 (x12_1 + 1)), (wrap64 (x13_1 + 1)), rs_, rs_, H', ⟨by have := HK1.out; have := HJ12.out; have := HK3.out; have := HK4.out; omega⟩, ⟨pR HO_11.out⟩, ⟨pB HB.out⟩⟩
  ·replace c12 := Bool.eq_false_iff.mpr c12
   subst c12
   have H1 : (yg.l0 k1 a0 a1 a2 a4 x11_1 x12_1 (wrap64 (x13_1 + 1))) = some r := by rw [if_neg (show ¬ (false = true) by decide)] at H; exact H
   clear H
   have H := H1
   clear H1
   have H' := aQ H
   clear H
   go_wp2_with (first | (refine gq 69 (some 31) Try.func69 #[.int .i64 a4, .int .i64 x13_1] ?_; (with_reducible refine (yU.calls a4 x13_1 false _ A11.out).mono ?_); rintro e w' ⟨rfl, ⟨nd, rfl⟩⟩; refine ⟨_, rfl, ?_⟩))
   go_roundg k1
   case measure => have := HK1.out; omega
   case rel => exact ⟨(x11_1), (x12_1), (wrap64 (x13_1 + 1)), rs_, rs_, H', ⟨by have := HK1.out; omega⟩, ⟨pR HO_11.out⟩, ⟨pB HB.out⟩⟩
 ·rw [if_neg c10] at H
  have c10b0 := decide_eq_false c10
  clear c10
  obtain rfl := Option.some.inj H
  go_wp2
  go_ret
  exact ⟨re_, pB HB.out⟩
end Go.Proofs.Ytimkekeaeojpkaa.A
