/- The pure side of the law FnExactIsPaving: what the Lean functions of the print compute, and that the law holds of them. Conditions: those in each lemma. -/
import Derived.Test.YtinoamehdhgpgaaMFnExactIsPaving1
import Derived.Test.YtinoamehdhgpgaaMFnExactIsPaving2
import Derived.Test.YtinoamehdhgpgaaMFnExactIsPaving3
import Derived.Test.YtinoamehdhgpgaaMFnExactIsPaving4
import Derived.Test.YtinoamehdhgpgaaMFnExactIsPaving5
import Derived.Test.YtinoamehdhgpgaaMFnExactIsPavingq0
namespace Go.Proofs.Ytinoamehdhgpgaa.A
open Go.RowKit
def laws_FnExactIsPaving.Pure : Prop := ∀ (a0_0 : Int) (l0_1 : List Int), (Lit.int .i64 a0_0).wf = true → l0_1.length ≤ maxLen → (∀ x ∈ l0_1, (Lit.int .i64 x).wf = true) → ∃ k, laws_FnExactIsPaving.f k a0_0 l0_1 = some true
end Go.Proofs.Ytinoamehdhgpgaa.A

namespace Go.Proofs.Ytinoamehdhgpgaa.Q
open Go Go.RowKit Go.Proofs.Ytinoamehdhgpgaa.A Go.Proofs.YtinoamehdhgpgaaW.PrintWords Go.Proofs.YtinoamehdhgpgaaW.PrintLast Go.Proofs.YtinoamehdhgpgaaW.PrintMore Go.Proofs.Ytinoamehdhgpgaa.Z
set_option linter.unusedVariables false
set_option linter.unusedSimpArgs false

theorem toInt_l0 (l : List Int) (hl : l.length ≤ 17592186044416) : ∀ (rest pre : List Int), l = pre ++ rest → Ev (fun k => laws_toIntS.l0 k l (pre ++ List.replicate rest.length 0) (pre.length : Int)) l := by
  intro rest
  induction rest with
  | nil =>
    intro pre h
    apply Ev.step
    · intro k
      simp only [laws_toIntS.l0]
      rw [if_neg (by rw [h]; simp)]
    · subst h; simpa using Ev.now _
  | cons x rest ih =>
    intro pre h
    have hlen : (pre.length : Int) < (l.length : Int) := by rw [h]; simp; omega
    apply Ev.step
    · intro k
      simp only [laws_toIntS.l0]
      rw [if_pos hlen, if_pos (by omega), if_pos (by simp; omega)]
    · have := ih (pre ++ [x]) (by rw [h]; simp)
      have e : wrap64 ((pre.length : Int) + 1) = ((pre ++ [x]).length : Int) := by
        rw [wrap64_of (by omega) (by omega)]; simp
      rw [e]
      have e2 : (pre ++ List.replicate (x :: rest).length 0).set (pre.length : Int).toNat (rd l (pre.length : Int)) = (pre ++ [x]) ++ List.replicate rest.length 0 := by
        have : rd l (pre.length : Int) = x := by rw [h]; exact rd_mid _ _ _
        rw [this]
        simp [List.replicate_succ]
      rw [e2]
      exact this
theorem toInt_ev (l : List Int) (hl : l.length ≤ 17592186044416) : Ev (fun k => laws_toIntS.f k l) l := by
  unfold laws_toIntS.f
  refine Ev.ifp (by omega) (Ev.ifp (by simp; omega) ?_)
  simpa using toInt_l0 l hl l [] rfl
theorem eqInt_l0 (l : List Int) (hl : l.length ≤ 17592186044416) (l' : List Int) (hll : l'.length = l.length) : ∀ (rest rest' pre : List Int), l = pre ++ rest → l' = pre ++ rest' → Ev (fun k => laws_eqIntS.l0 k l l' (pre.length : Int)) (decide (l = l')) := by
  intro rest
  induction rest with
  | nil =>
    intro rest' pre h h'
    have : rest' = [] := by
      apply List.eq_nil_of_length_eq_zero
      have h1 := congrArg List.length h
      have h2 := congrArg List.length h'
      rw [List.length_append] at h1 h2
      simp only [List.length_nil] at h1
      omega
    subst this
    apply Ev.step
    · intro k
      simp only [laws_eqIntS.l0]
      rw [if_neg (by rw [h]; simp)]
    · have : l = l' := by rw [h, h']
      simpa [this] using Ev.now _
  | cons x rest ih =>
    intro rest' pre h h'
    have hlen : (pre.length : Int) < (l.length : Int) := by rw [h]; simp; omega
    cases rest' with
    | nil => exact absurd hll (by rw [h, h']; simp)
    | cons y rest' =>
    have e1 : rd l (pre.length : Int) = x := by rw [h]; exact rd_mid _ _ _
    have e2 : rd l' (pre.length : Int) = y := by rw [h']; exact rd_mid _ _ _
    by_cases hxy : x = y
    · subst hxy
      apply Ev.step
      · intro k
        simp only [laws_eqIntS.l0]
        rw [if_pos hlen, if_pos (by omega), if_pos (by omega), if_pos (by rw [e1, e2])]
      · have := ih rest' (pre ++ [x]) (by rw [h]; simp) (by rw [h']; simp)
        have e : wrap64 ((pre.length : Int) + 1) = ((pre ++ [x]).length : Int) := by
          rw [wrap64_of (by omega) (by omega)]; simp
        rw [e]
        exact this
    · apply Ev.step
      · intro k
        simp only [laws_eqIntS.l0]
        rw [if_pos hlen, if_pos (by omega), if_pos (by omega), if_neg (by rw [e1, e2]; exact hxy)]
      · have : l ≠ l' := by rw [h, h']; simp [hxy]
        simpa [this] using Ev.now _
theorem eqInt_ev (l l' : List Int) (hl : l.length ≤ 17592186044416) : Ev (fun k => laws_eqIntS.f k l l') (decide (l = l')) := by
  unfold laws_eqIntS.f
  by_cases h : (l.length : Int) = (l'.length : Int)
  · refine Ev.ifp h ?_
    exact eqInt_l0 l hl l' (by omega) l l' [] rfl rfl
  · refine Ev.ifn h ?_
    have : l ≠ l' := by rintro rfl; exact h rfl
    simpa [this] using Ev.now _
theorem eqInt_self (l : List Int) (hl : l.length ≤ 17592186044416) : Ev (fun k => laws_eqIntS.f k l l) true := by simpa using eqInt_ev l l hl

end Go.Proofs.Ytinoamehdhgpgaa.Q

namespace Go.Proofs.Ytinoamehdhgpgaa.Q
open Go Go.RowKit Go.Proofs.Ytinoamehdhgpgaa.A Go.Proofs.YtinoamehdhgpgaaW.PrintWords Go.Proofs.YtinoamehdhgpgaaW.PrintLast Go.Proofs.YtinoamehdhgpgaaW.PrintMore Go.Proofs.Ytinoamehdhgpgaa.Z
set_option linter.unusedVariables false
set_option linter.unusedSimpArgs false

theorem szMat_eq (n : Int) (l : List Int) (left : Int) (h0 : 0 ≤ left) (h1 : left ≤ 1048576) (hl : l.length ≤ maxLen) : laws_szMatroid.f n l left = some (if (l.length : Int) > left then -1 else left - (l.length : Int)) := by
  unfold maxLen at hl
  unfold laws_szMatroid.f laws_szIntS.f
  rw [wrap64_of (by omega) (by omega)]
  by_cases h : (l.length : Int) > left
  · rw [if_pos h, if_pos (by omega), Option.bind_some, if_pos (by decide)]
  · rw [if_neg h, if_neg (by omega), Option.bind_some, if_neg (by omega)]
theorem toMat_ev (n : Int) (l : List Int) (hl : l.length ≤ 17592186044416) : Ev (fun k => laws_toMatroid.f k n l) (n, l) := by
  unfold laws_toMatroid.f
  exact Ev.bind (toInt_ev l hl) (Ev.now _)
theorem eqMat_ev (n : Int) (l : List Int) (hl : l.length ≤ 17592186044416) : Ev (fun k => laws_eqMatroid.f k n l n l) true := by
  unfold laws_eqMatroid.f
  refine Ev.ifp rfl (Ev.bind (eqInt_self l hl) (Ev.ifp rfl (Ev.now _)))

end Go.Proofs.Ytinoamehdhgpgaa.Q

namespace Go.Proofs.Ytinoamehdhgpgaa.Q
open Go Go.RowKit Go.Proofs.Ytinoamehdhgpgaa.A Go.Proofs.YtinoamehdhgpgaaW.PrintWords Go.Proofs.YtinoamehdhgpgaaW.PrintLast Go.Proofs.YtinoamehdhgpgaaW.PrintMore Go.Proofs.Ytinoamehdhgpgaa.Z
set_option linter.unusedVariables false
set_option linter.unusedSimpArgs false

theorem l1In_eq (a b c : Int) : spec_l1In.f a b c = some (decide (b ≤ a) && decide (a ≤ c)) := by
  unfold spec_l1In.f
  by_cases h : a ≥ b
  · rw [if_pos h]; simp [h]
  · rw [if_neg h]; simp only [ge_iff_le] at h; simp [h]
theorem isSize_eq (a : Int) : impl_isSize.f a = some (decide (0 ≤ a) && decide (a ≤ 8)) := by
  unfold impl_isSize.f
  by_cases h : a ≥ 0
  · rw [if_pos h]; simp [h]
  · rw [if_neg h]; simp only [ge_iff_le] at h; simp [h]
theorem specIsSet_eq (n s : Int) : spec_IsSet.f n s = some (isSetB n s) := by
  unfold spec_IsSet.f
  rw [l1In_eq, Option.bind_some]
  unfold isSetB
  by_cases h : (decide (0 ≤ n) && decide (n ≤ 8)) = true
  · rw [if_pos h, if_pos (u64_nonneg _), l1In_eq, Option.bind_some, h, Bool.true_and]
    simp only [Bool.and_eq_true, decide_eq_true_eq] at h
    obtain ⟨m, rfl⟩ := Int.eq_ofNat_of_zero_le h.1
    have h8 : m ≤ 8 := by omega
    rw [u64_of (by omega) (by omega), shl_one (by omega)]
    have hp := pow_le_256 h8
    rw [Int.toNat_natCast]
    have e : (2 : Int) ^ m = ((2 ^ m : Nat) : Int) := by simp
    rw [e]
    generalize 2 ^ m = q at hp
    rw [wrap64_of (by omega) (by omega)]
    congr 2
    rw [Bool.eq_iff_iff]
    simp only [decide_eq_true_eq]
    omega
  · rw [if_neg h, Bool.eq_false_iff.2 h, Bool.false_and]
theorem implIsSet_eq (n s : Int) : impl_IsSet.f n s = some (isSetB n s) := by
  unfold impl_IsSet.f
  rw [isSize_eq, Option.bind_some]
  unfold isSetB
  by_cases h : (decide (0 ≤ n) && decide (n ≤ 8)) = true
  · rw [if_pos h, h, Bool.true_and]
    simp only [Bool.and_eq_true, decide_eq_true_eq] at h
    by_cases hs : s ≥ 0
    · rw [if_pos hs, if_pos h.1]
      obtain ⟨m, rfl⟩ := Int.eq_ofNat_of_zero_le h.1
      rw [shl_one (by omega), Int.toNat_natCast]
      have e : ((2 ^ m : Nat) : Int) = 2 ^ m := by simp
      rw [e]
      have : decide (0 ≤ s) = true := by simpa using hs
      rw [this, Bool.true_and]
    · rw [if_neg hs]
      have : decide (0 ≤ s) = false := by simpa using hs
      rw [this, Bool.false_and]
  · rw [if_neg h, Bool.eq_false_iff.2 h, Bool.false_and]
theorem isSet8 (s : Int) : isSetB 8 s = isAnyB s := by
  unfold isSetB isAnyB
  rw [Bool.eq_iff_iff]
  simp
theorem isAny_eq (s : Int) : impl_isAny.f s = some (isAnyB s) := by
  unfold impl_isAny.f isAnyB
  by_cases h : s ≥ 0
  · rw [if_pos h]; simp [h]
  · rw [if_neg h]; simp only [ge_iff_le] at h; simp [h]
theorem isAnyB_lt {s : Int} (h : isAnyB s = true) : ∃ t : Nat, s = t ∧ t < 256 := by
  simp only [isAnyB, Bool.and_eq_true, decide_eq_true_eq] at h
  obtain ⟨t, rfl⟩ := Int.eq_ofNat_of_zero_le h.1
  exact ⟨t, rfl, by omega⟩
theorem implHas_eq (s e : Int) : impl_HasElement.f s e = some (hasB s e) := by
  unfold impl_HasElement.f hasB
  rw [isAny_eq, Option.bind_some]
  by_cases h : isAnyB s = true
  · rw [if_pos h, h, Bool.true_and]
    obtain ⟨t, rfl, ht⟩ := isAnyB_lt h
    by_cases h0 : e ≥ 0
    · rw [if_pos h0]
      obtain ⟨m, rfl⟩ := Int.eq_ofNat_of_zero_le h0
      by_cases h8 : (m : Int) < 8
      · rw [if_pos h8, if_pos h0, bit_nat (lt256_63 ht)]
        simp [h8]
      · rw [if_neg h8]; simp [h8]
    · rw [if_neg h0]; simp only [ge_iff_le] at h0; simp [h0]
  · rw [if_neg h, Bool.eq_false_iff.2 h]; simp
theorem l2Has_eq {s e : Nat} (hs : s < 2 ^ 63) (he : e < 2 ^ 63) : spec_l2Has.f (s : Int) (e : Int) = some (s.testBit e) := by
  unfold spec_l2Has.f
  rw [if_pos (u64_nonneg _), u64_of (by omega) (by omega), bit_nat hs]
end Go.Proofs.Ytinoamehdhgpgaa.Q

namespace Go.Proofs.Ytinoamehdhgpgaa.Q
open Go Go.RowKit Go.Proofs.Ytinoamehdhgpgaa.A Go.Proofs.YtinoamehdhgpgaaW.PrintWords Go.Proofs.YtinoamehdhgpgaaW.PrintLast Go.Proofs.YtinoamehdhgpgaaW.PrintMore Go.Proofs.Ytinoamehdhgpgaa.Z
set_option linter.unusedVariables false
set_option linter.unusedSimpArgs false

theorem specCount_l0 : ∀ (d x : Nat), x ≤ d → x < 256 → ∀ acc : Int, 0 ≤ acc → acc + (d : Int) ≤ 1000 → Ev (fun k => spec_CountOf.l0 k (x : Int) acc) (acc + (pc x : Int)) := by
  intro d
  induction d with
  | zero =>
    intro x hx _ acc h0 h1
    obtain rfl : x = 0 := by omega
    apply Ev.step
    · intro k
      simp only [spec_CountOf.l0]
      rw [if_neg (by decide)]
    · rw [pc_zero, show acc + ((0 : Nat) : Int) = acc from by omega]
      exact Ev.now _
  | succ d ih =>
    intro x hx h256 acc h0 h1
    by_cases hz : x = 0
    · subst hz
      exact ih 0 (by omega) h256 acc h0 (by omega)
    · have hb : Go.bits .and .i64 (x : Int) 1 = ((x % 2 : Nat) : Int) := by
        have := and_nat (a := x) (b := 1) (lt256_63 h256) (by decide)
        rw [Nat.and_one_is_mod] at this
        exact this
      apply Ev.step
      · intro k
        simp only [spec_CountOf.l0]
        rw [if_pos (by omega), hb, wrap64_of (by omega) (by omega), show (x : Int) / 2 = ((x / 2 : Nat) : Int) from by omega]
      · have hp := pc_step x h256
        have hl := pc_le (x / 2)
        have := ih (x / 2) (by omega) (by omega) (acc + ((x % 2 : Nat) : Int)) (by omega) (by omega)
        rw [show acc + ((x % 2 : Nat) : Int) + (pc (x / 2) : Int) = acc + (pc x : Int) from by omega] at this
        exact this
theorem specCount_ev (s : Nat) (h : s < 256) : Ev (fun k => spec_CountOf.f k (s : Int)) (pc s : Int) := by
  unfold spec_CountOf.f
  refine Ev.cbind (specIsSet_eq _ _) (Ev.ifp ?_ ?_)
  · rw [isSet8, isAnyB_nat]; simpa using h
  · have := specCount_l0 s s (Nat.le_refl _) h 0 (by omega) (by omega)
    rw [Int.zero_add] at this
    exact this
end Go.Proofs.Ytinoamehdhgpgaa.Q

namespace Go.Proofs.Ytinoamehdhgpgaa.Q
open Go Go.RowKit Go.Proofs.Ytinoamehdhgpgaa.A Go.Proofs.YtinoamehdhgpgaaW.PrintWords Go.Proofs.YtinoamehdhgpgaaW.PrintLast Go.Proofs.YtinoamehdhgpgaaW.PrintMore Go.Proofs.Ytinoamehdhgpgaa.Z
set_option linter.unusedVariables false
set_option linter.unusedSimpArgs false

set_option maxRecDepth 100000 in
theorem ones64 : ∀ s < 256, bits_OnesCount64.f ((s : Nat) : Int) = some ((pc s : Nat) : Int) := by decide +kernel
theorem implCount_eq (s : Nat) (h : s < 256) : impl_CountOf.f (s : Int) = some (pc s : Int) := by
  unfold impl_CountOf.f
  rw [isAny_eq, Option.bind_some, if_pos (by rw [isAnyB_nat]; simpa using h), u64_of (by omega) (by omega)]
  unfold bits_OnesCount.f
  rw [ones64 s h]
  rfl
end Go.Proofs.Ytinoamehdhgpgaa.Q

namespace Go.Proofs.Ytinoamehdhgpgaa.Q
open Go Go.RowKit Go.Proofs.Ytinoamehdhgpgaa.A Go.Proofs.YtinoamehdhgpgaaW.PrintWords Go.Proofs.YtinoamehdhgpgaaW.PrintLast Go.Proofs.YtinoamehdhgpgaaW.PrintMore Go.Proofs.Ytinoamehdhgpgaa.Z
set_option linter.unusedVariables false
set_option linter.unusedSimpArgs false

def famG (n : Int) : Option Int → List Int → Bool
  | _, [] => decide (0 ≤ n) && decide (n ≤ 8)
  | p, x :: xs => isSetB n x && ((match p with | none => true | some q => decide (q < x)) && famG n (some x) xs)
/-- A family: sets of n elements, strictly ascending. -/
def famB (n : Int) (l : List Int) : Bool := famG n none l
def prevO (l : List Int) (i : Nat) : Option Int := if i = 0 then none else some (rd l ((i - 1 : Nat) : Int))
theorem prevO_succ (l : List Int) (i : Nat) (hi : i < l.length) : prevO l (i + 1) = some l[i] := by
  unfold prevO
  rw [if_neg (by omega), Nat.add_sub_cancel, rd_getElem l i hi]
theorem specFam_ev (n : Int) (l : List Int) (hl : l.length ≤ 17592186044416) : Ev (fun k => spec_IsFamily.f k n l) (famB n l) := by
  have h := down (P := fun i => Ev (fun k => spec_IsFamily.l0 k n l (i : Int)) (famG n (prevO l i) (l.drop i))) l.length
    (by
      apply Ev.step
      · intro k
        simp only [spec_IsFamily.l0, l1In_eq, Option.bind_some]
        rw [if_neg (by omega)]
      · rw [drop_end]; exact Ev.now _)
    (by
      intro i hi ih
      apply Ev.step
      · intro k
        simp only [spec_IsFamily.l0, specIsSet_eq, Option.bind_some]
        rw [if_pos (by omega), if_pos (by omega), rd_getElem l i hi, w_succ hi hl]
      · rw [drop_cons l i hi]
        rw [prevO_succ l i hi] at ih
        simp only [famG]
        by_cases hx : isSetB n l[i] = true
        · refine Ev.ifp hx ?_
          rw [hx, Bool.true_and]
          by_cases h0 : (i : Int) > 0
          · refine Ev.ifp h0 ?_
            rw [wrap64_of (by omega) (by omega), show (i : Int) - 1 = ((i - 1 : Nat) : Int) from by omega]
            refine Ev.ifp (by omega) (Ev.ifp (by omega) ?_)
            unfold prevO
            rw [if_neg (by omega)]
            by_cases hq : rd l ((i - 1 : Nat) : Int) ≥ l[i]
            · refine Ev.ifp hq ?_
              simp only []
              rw [show decide (rd l ((i - 1 : Nat) : Int) < l[i]) = false from by simpa using hq, Bool.false_and]
              exact Ev.now _
            · refine Ev.ifn hq ?_
              simp only []
              rw [show decide (rd l ((i - 1 : Nat) : Int) < l[i]) = true from by simpa using hq, Bool.true_and]
              exact ih
          · refine Ev.ifn h0 ?_
            unfold prevO
            rw [if_pos (by omega)]
            simp only [Bool.true_and]
            exact ih
        · refine Ev.ifn hx ?_
          rw [Bool.eq_false_iff.2 hx, Bool.false_and]; exact Ev.now _)
  exact h
theorem implFam_ev (n : Int) (l : List Int) (hl : l.length ≤ 17592186044416) : Ev (fun k => impl_IsFamily.f k n l) (famB n l) := by
  have h := down (P := fun i => Ev (fun k => impl_IsFamily.l0 k n l l (l.length : Int) (i : Int)) (famG n (prevO l i) (l.drop i))) l.length
    (by
      apply Ev.step
      · intro k
        simp only [impl_IsFamily.l0, isSize_eq, Option.bind_some]
        rw [if_neg (by omega)]
      · rw [drop_end]; exact Ev.now _)
    (by
      intro i hi ih
      apply Ev.step
      · intro k
        simp only [impl_IsFamily.l0, implIsSet_eq, Option.bind_some]
        rw [if_pos (by omega), if_pos (by omega), if_pos (by omega), rd_getElem l i hi, w_succ hi hl]
      · rw [drop_cons l i hi]
        rw [prevO_succ l i hi] at ih
        simp only [famG]
        by_cases hx : isSetB n l[i] = true
        · refine Ev.ifp hx ?_
          rw [hx, Bool.true_and]
          by_cases h0 : (i : Int) > 0
          · refine Ev.ifp h0 ?_
            rw [wrap64_of (by omega) (by omega), show (i : Int) - 1 = ((i - 1 : Nat) : Int) from by omega]
            refine Ev.ifp (by omega) (Ev.ifp (by omega) ?_)
            unfold prevO
            rw [if_neg (by omega)]
            by_cases hq : l[i] ≤ rd l ((i - 1 : Nat) : Int)
            · refine Ev.ifp hq ?_
              simp only []
              rw [show decide (rd l ((i - 1 : Nat) : Int) < l[i]) = false from by simpa using hq, Bool.false_and]
              exact Ev.now _
            · refine Ev.ifn hq ?_
              simp only []
              rw [show decide (rd l ((i - 1 : Nat) : Int) < l[i]) = true from by simpa using hq, Bool.true_and]
              exact ih
          · refine Ev.ifn h0 ?_
            unfold prevO
            rw [if_pos (by omega)]
            simp only [Bool.true_and]
            exact ih
        · refine Ev.ifn hx ?_
          rw [Bool.eq_false_iff.2 hx, Bool.false_and]; exact Ev.now _)
  exact h
theorem famG_facts (n : Int) : ∀ (l : List Int) (p : Option Int), famG n p l = true → (0 ≤ n ∧ n ≤ 8) ∧ (∀ x ∈ l, isSetB n x = true) ∧ l.Pairwise (· < ·) ∧ (∀ q, p = some q → ∀ x ∈ l, q < x) := by
  intro l
  induction l with
  | nil =>
    intro p h
    simp only [famG, Bool.and_eq_true, decide_eq_true_eq] at h
    exact ⟨h, fun x hx => by simp at hx, List.Pairwise.nil, fun q _ x hx => by simp at hx⟩
  | cons y l ih =>
    intro p h
    simp only [famG, Bool.and_eq_true] at h
    obtain ⟨h1, h2, h3⟩ := h
    obtain ⟨i1, i2, i3, i4⟩ := ih _ h3
    refine ⟨i1, fun x hx => ?_, List.pairwise_cons.2 ⟨fun x hx => i4 y rfl x hx, i3⟩, fun q hq x hx => ?_⟩
    · rcases List.mem_cons.1 hx with rfl | hx
      · exact h1
      · exact i2 x hx
    · subst hq
      simp only [decide_eq_true_eq] at h2
      rcases List.mem_cons.1 hx with rfl | hx
      · exact h2
      · exact Int.lt_trans h2 (i4 y rfl x hx)
/-- A family as numbers: its size, its sets. -/
theorem famB_nat {n : Int} {l : List Int} (h : famB n l = true) : ∃ (m : Nat) (L : List Nat), n = m ∧ m ≤ 8 ∧ l = L.map (fun x : Nat => (x : Int)) ∧ (∀ x ∈ L, x < 2 ^ m) ∧ L.Pairwise (· < ·) := by
  obtain ⟨h1, h2, h3, _⟩ := famG_facts n l none h
  obtain ⟨m, rfl⟩ := Int.eq_ofNat_of_zero_le h1.1
  have hnn : ∀ x ∈ l, 0 ≤ x := fun x hx => by
    obtain ⟨_, t, _, rfl, _⟩ := isSetB_lt (h2 x hx)
    omega
  have hl : l = (l.map Int.toNat).map (fun x : Nat => (x : Int)) := by
    rw [List.map_map]
    conv => lhs; rw [← List.map_id l]
    apply List.map_congr_left
    intro x hx
    have := hnn x hx
    simp only [id, Function.comp]
    omega
  refine ⟨m, l.map Int.toNat, rfl, by omega, hl, fun x hx => ?_, ?_⟩
  · obtain ⟨y, hy, rfl⟩ := List.mem_map.1 hx
    obtain ⟨m', t, hm, rfl, _, ht, _⟩ := isSetB_lt (h2 y hy)
    have : m = m' := by omega
    subst this
    rw [Int.toNat_natCast]; exact ht
  · rw [List.pairwise_map]
    exact h3.imp_of_mem (fun {a b} ha hb hab => by
      have := hnn a ha
      have := hnn b hb
      omega)

end Go.Proofs.Ytinoamehdhgpgaa.Q

namespace Go.Proofs.Ytinoamehdhgpgaa.Q
open Go Go.RowKit Go.Proofs.Ytinoamehdhgpgaa.A Go.Proofs.YtinoamehdhgpgaaW.PrintWords Go.Proofs.YtinoamehdhgpgaaW.PrintLast Go.Proofs.YtinoamehdhgpgaaW.PrintMore Go.Proofs.Ytinoamehdhgpgaa.Z
set_option linter.unusedVariables false
set_option linter.unusedSimpArgs false

/-- The elements of a set, as whole numbers; none where it is no set. -/
def elsB (s : Int) : List Int := ((List.range 8).filter (fun e : Nat => hasB s (e : Int))).map (fun e : Nat => (e : Int))
theorem range'_cons {i n : Nat} (h : i < n) : List.range' i (n - i) = i :: List.range' (i + 1) (n - (i + 1)) := by
  rw [show n - i = (n - (i + 1)) + 1 from by omega, List.range'_succ]
theorem filter_cons_map {s : Int} {i : Nat} (l : List Nat) : ((i :: l).filter (fun e : Nat => hasB s (e : Int))).map (fun e : Nat => (e : Int)) = (if hasB s (i : Int) = true then [(i : Int)] else []) ++ (l.filter (fun e : Nat => hasB s (e : Int))).map (fun e : Nat => (e : Int)) := by
  rw [List.filter_cons]
  by_cases h : hasB s (i : Int) = true
  · rw [if_pos h, if_pos h]; rfl
  · rw [if_neg h, if_neg h]; rfl
theorem implElements_ev (s : Int) : Ev (fun k => impl_ElementsOf.f k s) (elsB s) := by
  have h := down (P := fun i => ∀ acc : List Int, acc.length ≤ i → Ev (fun k => impl_ElementsOf.l0 k s acc (i : Int)) (acc ++ ((List.range' i (8 - i)).filter (fun e : Nat => hasB s (e : Int))).map (fun e : Nat => (e : Int)))) 8
    (by
      intro acc ha
      apply Ev.step
      · intro k
        simp only [impl_ElementsOf.l0, implHas_eq, Option.bind_some]
        rw [if_neg (by omega)]
      · simpa using Ev.now _)
    (by
      intro i hi ih acc ha
      apply Ev.step
      · intro k
        simp only [impl_ElementsOf.l0, implHas_eq, Option.bind_some]
        rw [if_pos (by omega), w_succ hi (by omega)]
      · rw [range'_cons hi, filter_cons_map]
        by_cases hx : hasB s (i : Int) = true
        · refine Ev.ifp hx (Ev.ifp (by omega) ?_)
          rw [if_pos hx, ← List.append_assoc]
          exact ih (acc ++ [(i : Int)]) (by simp; omega)
        · refine Ev.ifn hx ?_
          rw [if_neg hx]
          exact ih acc (by omega))
  have h0 := h [] (Nat.le_refl 0)
  rw [show ((0 : Nat) : Int) = 0 from rfl] at h0
  have e : elsB s = [] ++ ((List.range' 0 (8 - 0)).filter (fun e : Nat => hasB s (e : Int))).map (fun e : Nat => (e : Int)) := by
    unfold elsB
    rw [List.nil_append, List.range_eq_range']
  rw [e]
  unfold impl_ElementsOf.f
  exact h0
theorem elsB_nat {s : Nat} (h : s < 256) : elsB (s : Int) = (els s).map (fun e : Nat => (e : Int)) := by
  have e : (List.range 8).filter (fun e : Nat => hasB (s : Int) (e : Int)) = (List.range 8).filter (fun e : Nat => s.testBit e) :=
    List.filter_congr (fun e he => by
      rw [List.mem_range] at he
      rw [hasB_nat]
      simp [h, he])
  unfold elsB els
  rw [e]

end Go.Proofs.Ytinoamehdhgpgaa.Q

namespace Go.Proofs.Ytinoamehdhgpgaa.Q
open Go Go.RowKit Go.Proofs.Ytinoamehdhgpgaa.A Go.Proofs.YtinoamehdhgpgaaW.PrintWords Go.Proofs.YtinoamehdhgpgaaW.PrintLast Go.Proofs.YtinoamehdhgpgaaW.PrintMore Go.Proofs.Ytinoamehdhgpgaa.Z
set_option linter.unusedVariables false
set_option linter.unusedSimpArgs false

theorem contains_cons (x : Int) (l : List Int) (a : Int) : (x :: l).contains a = (decide (x = a) || l.contains a) := by
  rw [Bool.eq_iff_iff]
  simp only [List.contains_iff_mem, List.mem_cons, Bool.or_eq_true, decide_eq_true_eq]
  constructor
  · rintro (h | h)
    · exact .inl h.symm
    · exact .inr h
  · rintro (h | h)
    · exact .inl h.symm
    · exact .inr h
theorem specHasSet_ev (l : List Int) (a : Int) (hl : l.length ≤ 17592186044416) : Ev (fun k => spec_HasSet.f k l a) (l.contains a) := by
  have h := down (P := fun i => Ev (fun k => spec_HasSet.l0 k l a (i : Int)) ((l.drop i).contains a)) l.length
    (by
      apply Ev.step
      · intro k
        simp only [spec_HasSet.l0]
        rw [if_neg (by omega)]
      · rw [drop_end]; exact Ev.now _)
    (by
      intro i hi ih
      apply Ev.step
      · intro k
        simp only [spec_HasSet.l0]
        rw [if_pos (by omega), if_pos (by omega), rd_getElem l i hi, w_succ hi hl]
      · rw [drop_cons l i hi, contains_cons]
        by_cases hx : l[i] = a
        · refine Ev.ifp hx ?_
          rw [show decide (l[i] = a) = true from by simpa using hx, Bool.true_or]; exact Ev.now _
        · refine Ev.ifn hx ?_
          rw [show decide (l[i] = a) = false from by simpa using hx, Bool.false_or]; exact ih)
  exact h

end Go.Proofs.Ytinoamehdhgpgaa.Q

namespace Go.Proofs.Ytinoamehdhgpgaa.Q
open Go Go.RowKit Go.Proofs.Ytinoamehdhgpgaa.A Go.Proofs.YtinoamehdhgpgaaW.PrintWords Go.Proofs.YtinoamehdhgpgaaW.PrintLast Go.Proofs.YtinoamehdhgpgaaW.PrintMore Go.Proofs.Ytinoamehdhgpgaa.Z
set_option linter.unusedVariables false
set_option linter.unusedSimpArgs false

theorem index_l0 (l : List Int) (a : Int) (hl : l.length ≤ 17592186044416) : ∃ r : Int, Ev (fun k => slices_Index_int_int.f k l a) r ∧ (decide (r ≥ 0) = l.contains a) := by
  have h := down (P := fun i => ∃ r : Int, Ev (fun k => slices_Index_int_int.l0 k l a (l.length : Int) (i : Int)) r ∧ (decide (r ≥ 0) = (l.drop i).contains a)) l.length
    (by
      refine ⟨-1, ?_, by rw [drop_end]; rfl⟩
      apply Ev.step
      · intro k
        simp only [slices_Index_int_int.l0]
        rw [if_neg (by omega)]
      · exact Ev.now _)
    (by
      intro i hi ih
      rw [drop_cons l i hi, contains_cons]
      by_cases hx : l[i] = a
      · refine ⟨(i : Int), ?_, ?_⟩
        · apply Ev.step
          · intro k
            simp only [slices_Index_int_int.l0]
            rw [if_pos (by omega), if_pos (by omega), if_pos (by omega), rd_getElem l i hi, if_pos hx.symm]
          · exact Ev.now _
        · rw [show decide (l[i] = a) = true from by simpa using hx, Bool.true_or]
          simp
      · obtain ⟨r, hr, hd⟩ := ih
        refine ⟨r, ?_, ?_⟩
        · apply Ev.step
          · intro k
            simp only [slices_Index_int_int.l0]
            rw [if_pos (by omega), if_pos (by omega), if_pos (by omega), rd_getElem l i hi, if_neg (fun hc => hx hc.symm), w_succ hi hl]
          · exact hr
        · rw [show decide (l[i] = a) = false from by simpa using hx, Bool.false_or]; exact hd)
  exact h
theorem contains_ev (l : List Int) (a : Int) (hl : l.length ≤ 17592186044416) : Ev (fun k => slices_Contains_int_int.f k l a) (l.contains a) := by
  obtain ⟨r, hr, hd⟩ := index_l0 l a hl
  unfold slices_Contains_int_int.f
  refine Ev.bind hr ?_
  rw [hd]; exact Ev.now _

end Go.Proofs.Ytinoamehdhgpgaa.Q

namespace Go.Proofs.Ytinoamehdhgpgaa.Q
open Go Go.RowKit Go.Proofs.YtinoamehdhgpgaaW.PrintWords Go.Proofs.YtinoamehdhgpgaaW.PrintLast Go.Proofs.YtinoamehdhgpgaaW.PrintMore Go.Proofs.Ytinoamehdhgpgaa.Z
set_option linter.unusedVariables false
set_option linter.unusedSimpArgs false

/-- Can e be exchanged for an element of b? -/
def hasEx (l : List Int) (a b e : Nat) : Bool := (els (dif b a)).any (fun f => l.contains ((dif a (2 ^ e) ||| 2 ^ f : Nat) : Int))
def failE (l : List Int) (a b : Nat) : List Nat → Option Nat
  | [] => none
  | e :: es => if hasEx l a b e = true then failE l a b es else some e
def failB (l : List Int) (a : Nat) : List Nat → Option (Nat × Nat)
  | [] => none
  | b :: bs => match failE l a b (els (dif a b)) with
    | none => failB l a bs
    | some e => some (b, e)
def failA (l : List Int) (L : List Nat) : List Nat → Option (Nat × Nat × Nat)
  | [] => none
  | a :: la => match failB l a L with
    | none => failA l L la
    | some (b, e) => some (a, b, e)
def told : Option (Nat × Nat × Nat) → Int × Int × Int × Bool
  | none => (0, 0, 0, false)
  | some (a, b, e) => ((a : Int), (b : Int), (e : Int), true)
/-- What FirstFailure hands back. -/
def failT (n : Int) (l : List Int) : Int × Int × Int × Bool := if famB n l = true then told (failA l (l.map Int.toNat) (l.map Int.toNat)) else (0, 0, 0, false)
theorem els_dif {a b n : Nat} (ha : a < 2 ^ n) (hn : n ≤ 8) : els (dif a b) = (List.range n).filter (fun e => a.testBit e && !b.testBit e) := by
  have h1 : (List.range 8).filter (fun e => (dif a b).testBit e) = (List.range 8).filter (fun e => decide (e < n) && (a.testBit e && !b.testBit e)) :=
    List.filter_congr (fun e _ => by
      rw [dif_bit]
      by_cases h : e < n
      · simp [h]
      · have : a.testBit e = false := Nat.testBit_lt_two_pow (Nat.lt_of_lt_of_le ha (Nat.pow_le_pow_right (by decide) (by omega)))
        simp [this])
  unfold els
  rw [h1]
  have h2 : ∀ (p : Nat → Bool) (a b : Nat), (List.range a).filter (fun e => decide (e < b) && p e) = (List.range (min a b)).filter p := by
    intro p a b
    induction a with
    | zero => simp
    | succ a ih =>
      rw [List.range_succ, List.filter_append, ih]
      by_cases h : a < b
      · rw [show min (a + 1) b = min a b + 1 from by omega, List.range_succ, List.filter_append]
        have e : min a b = a := by omega
        rw [e]
        congr 1
        simp [List.filter_cons, h]
      · rw [show min (a + 1) b = min a b from by omega]
        simp [List.filter_cons, h]
  rw [h2, Nat.min_eq_right hn]

end Go.Proofs.Ytinoamehdhgpgaa.Q

namespace Go.Proofs.Ytinoamehdhgpgaa.Q
open Go Go.RowKit Go.Proofs.Ytinoamehdhgpgaa.A Go.Proofs.YtinoamehdhgpgaaW.PrintWords Go.Proofs.YtinoamehdhgpgaaW.PrintLast Go.Proofs.YtinoamehdhgpgaaW.PrintMore Go.Proofs.Ytinoamehdhgpgaa.Z
set_option linter.unusedVariables false
set_option linter.unusedSimpArgs false

theorem specEx_ev (n : Nat) (hn : n ≤ 8) (l : List Int) (hl : l.length ≤ 17592186044416) (a b e : Nat) (ha : a < 256) (hb : b < 2 ^ n) (he : e < 8) (hae : a.testBit e = true) :
    Ev (fun k => spec_l4Exchange.f k (n : Int) l (a : Int) (b : Int) (e : Int)) (hasEx l a b e) := by
  have hb256 : b < 256 := Nat.lt_of_lt_of_le hb (pow_le_256 hn)
  have h := down (P := fun f => Ev (fun k => spec_l4Exchange.l0 k (a : Int) (b : Int) (e : Int) (f : Int) (n : Int) l) (((List.range' f (n - f)).filter (fun f => b.testBit f && !a.testBit f)).any (fun f => l.contains ((dif a (2 ^ e) ||| 2 ^ f : Nat) : Int)))) n
    (by
      apply Ev.step
      · intro k
        simp only [spec_l4Exchange.l0]
        rw [if_neg (by omega)]
      · rw [Nat.sub_self]; exact Ev.now _)
    (by
      intro f hf ih
      have hih : Ev (fun k => spec_l4Exchange.l0 k (a : Int) (b : Int) (e : Int) (wrap64 ((f : Int) + 1)) (n : Int) l) (((List.range' (f + 1) (n - (f + 1))).filter (fun f => b.testBit f && !a.testBit f)).any (fun f => l.contains ((dif a (2 ^ e) ||| 2 ^ f : Nat) : Int))) := by
        rw [w_succ hf (by omega)]; exact ih
      apply Ev.step
      · intro k
        simp only [spec_l4Exchange.l0, l2Has_eq (lt256_63 hb256) (show f < 2 ^ 63 by omega), l2Has_eq (lt256_63 ha) (show f < 2 ^ 63 by omega), Option.bind_some]
        rw [if_pos (by omega)]
      · rw [range'_cons hf, List.filter_cons]
        by_cases hbf : b.testBit f = true
        · refine Ev.ifp hbf ?_
          by_cases haf : a.testBit f = true
          · refine Ev.ifp haf ?_
            rw [if_neg (by rw [haf]; simp)]
            exact hih
          · refine Ev.ifn haf (Ev.ifp (u64_nonneg _) (Ev.ifp (u64_nonneg _) ?_))
            have haf' := Bool.eq_false_iff.2 haf
            rw [if_pos (by rw [hbf, haf']; rfl), List.any_cons]
            obtain ⟨x1, x2, x3⟩ := exch_arith ha he (show f < 8 by omega) hae haf'
            have hp : 2 ^ f < 256 := Nat.pow_lt_pow_right (a := 2) (m := f) (n := 8) (by decide) (by omega)
            have ex : wrap64 (wrap64 ((a : Int) - shl .i64 1 (IntKind.u64.wrap (e : Int))) + shl .i64 1 (IntKind.u64.wrap (f : Int))) = ((dif a (2 ^ e) ||| 2 ^ f : Nat) : Int) := by
              rw [u64_of (by omega) (by omega), u64_of (by omega) (by omega), shl_one (by omega), shl_one (by omega), ← x1]
              generalize 2 ^ e = p at *
              generalize 2 ^ f = q at *
              rw [wrap64_of (n := (a : Int) - (p : Int)) (by omega) (by omega), wrap64_of (by omega) (by omega)]
              omega
            rw [ex]
            refine Ev.bind (specHasSet_ev l _ hl) ?_
            by_cases hc : l.contains ((dif a (2 ^ e) ||| 2 ^ f : Nat) : Int) = true
            · refine Ev.ifp hc ?_
              rw [hc, Bool.true_or]; exact Ev.now _
            · refine Ev.ifn hc ?_
              rw [Bool.eq_false_iff.2 hc, Bool.false_or]; exact hih
        · refine Ev.ifn hbf ?_
          rw [if_neg (by rw [Bool.eq_false_iff.2 hbf]; simp)]
          exact hih)
  rw [Nat.sub_zero, ← List.range_eq_range', ← els_dif hb hn] at h
  exact h
theorem specFail_l2 (n : Nat) (hn : n ≤ 8) (l : List Int) (hl : l.length ≤ 17592186044416) (i j : Nat) (hi : i < l.length) (hj : j < l.length) (a b : Nat) (hai : rd l (i : Int) = a) (hbj : rd l (j : Int) = b) (ha : a < 2 ^ n) (hb : b < 2 ^ n) (K : Int × Int × Int × Bool)
    (hK : Ev (fun k => spec_FirstFailure.l1 k (i : Int) (wrap64 ((j : Int) + 1)) (n : Int) l) K) :
    Ev (fun k => spec_FirstFailure.l2 k (i : Int) (j : Int) 0 (n : Int) l) (match failE l a b (els (dif a b)) with | none => K | some e => ((a : Int), (b : Int), (e : Int), true)) := by
  have ha256 : a < 256 := Nat.lt_of_lt_of_le ha (pow_le_256 hn)
  have hb256 : b < 256 := Nat.lt_of_lt_of_le hb (pow_le_256 hn)
  have h := down (P := fun e => Ev (fun k => spec_FirstFailure.l2 k (i : Int) (j : Int) (e : Int) (n : Int) l) (match failE l a b ((List.range' e (n - e)).filter (fun e => a.testBit e && !b.testBit e)) with | none => K | some e => ((a : Int), (b : Int), (e : Int), true))) n
    (by
      apply Ev.step
      · intro k
        simp only [spec_FirstFailure.l2]
        rw [if_neg (by omega)]
      · rw [Nat.sub_self]; exact hK)
    (by
      intro e he ih
      have hih : Ev (fun k => spec_FirstFailure.l2 k (i : Int) (j : Int) (wrap64 ((e : Int) + 1)) (n : Int) l) (match failE l a b ((List.range' (e + 1) (n - (e + 1))).filter (fun e => a.testBit e && !b.testBit e)) with | none => K | some e => ((a : Int), (b : Int), (e : Int), true)) := by
        rw [w_succ he (by omega)]; exact ih
      apply Ev.step
      · intro k
        simp only [spec_FirstFailure.l2]
        rw [if_pos (by omega), if_pos (by omega), if_pos (by omega), if_pos (by omega), if_pos (by omega), hai, hbj, l2Has_eq (lt256_63 ha256) (show e < 2 ^ 63 by omega), l2Has_eq (lt256_63 hb256) (show e < 2 ^ 63 by omega), Option.bind_some, Option.bind_some]
      · rw [range'_cons he, List.filter_cons]
        by_cases hae : a.testBit e = true
        · refine Ev.ifp hae ?_
          by_cases hbe : b.testBit e = true
          · refine Ev.ifp hbe ?_
            rw [if_neg (by rw [hbe]; simp)]
            exact hih
          · refine Ev.ifn hbe (Ev.bind (specEx_ev n hn l hl a b e ha256 hb (by omega) hae) ?_)
            rw [if_pos (by rw [hae, Bool.eq_false_iff.2 hbe]; rfl)]
            simp only [failE]
            by_cases hx : hasEx l a b e = true
            · refine Ev.ifp hx ?_
              rw [if_pos hx]; exact hih
            · refine Ev.ifn hx ?_
              rw [if_neg hx]; exact Ev.now _
        · refine Ev.ifn hae ?_
          rw [if_neg (by rw [Bool.eq_false_iff.2 hae]; simp)]
          exact hih)
  rw [Nat.sub_zero, ← List.range_eq_range', ← els_dif ha hn] at h
  exact h
theorem specFail_ev (n : Int) (l : List Int) (hl : l.length ≤ 17592186044416) : Ev (fun k => spec_FirstFailure.f k n l) (failT n l) := by
  unfold spec_FirstFailure.f failT
  refine Ev.bind (specFam_ev n l hl) ?_
  by_cases hf : famB n l = true
  · refine Ev.ifp hf ?_
    rw [if_pos hf]
    obtain ⟨m, L, rfl, hm, rfl, hL, _⟩ := famB_nat hf
    rw [toNat_map]
    have hlen : (L.map (fun x : Nat => (x : Int))).length = L.length := List.length_map _
    rw [hlen] at hl
    have hrd : ∀ i, (h : i < L.length) → rd (L.map (fun x : Nat => (x : Int))) (i : Int) = (L[i] : Int) := fun i h => by
      rw [rd_getElem _ i (by rw [hlen]; exact h), List.getElem_map]
    have hl' : (L.map (fun x : Nat => (x : Int))).length ≤ 17592186044416 := by rw [hlen]; exact hl
    generalize L.map (fun x : Nat => (x : Int)) = l at hlen hrd hl'
    have h := down (P := fun i => Ev (fun k => spec_FirstFailure.l0 k (i : Int) (m : Int) l) (told (failA l L (L.drop i)))) L.length
      (by
        apply Ev.step
        · intro k
          simp only [spec_FirstFailure.l0]
          rw [if_neg (by omega)]
        · rw [drop_end]; exact Ev.now _)
      (by
        intro i hi ih
        have hia := hL _ (List.getElem_mem hi)
        have hih : Ev (fun k => spec_FirstFailure.l0 k (wrap64 ((i : Int) + 1)) (m : Int) l) (told (failA l L (L.drop (i + 1)))) := by
          rw [w_succ hi hl]; exact ih
        apply Ev.step
        · intro k
          simp only [spec_FirstFailure.l0]
          rw [if_pos (by omega)]
        · have h1 := down (P := fun j => Ev (fun k => spec_FirstFailure.l1 k (i : Int) (j : Int) (m : Int) l) (match failB l L[i] (L.drop j) with | none => told (failA l L (L.drop (i + 1))) | some (b, e) => ((L[i] : Int), (b : Int), (e : Int), true))) L.length
            (by
              apply Ev.step
              · intro k
                simp only [spec_FirstFailure.l1]
                rw [if_neg (by omega)]
              · rw [drop_end]; exact hih)
            (by
              intro j hj ihj
              have hjb := hL _ (List.getElem_mem hj)
              apply Ev.step
              · intro k
                simp only [spec_FirstFailure.l1]
                rw [if_pos (by omega)]
              · have h2 := specFail_l2 m hm l hl' i j (by omega) (by omega) L[i] L[j] (hrd i hi) (hrd j hj) hia hjb _ (by rw [w_succ hj hl]; exact ihj)
                rw [drop_cons L j hj]
                simp only [failB]
                generalize failE l L[i] L[j] (els (dif L[i] L[j])) = q at h2
                cases q with
                | none => exact h2
                | some e => exact h2)
          rw [drop_cons L i hi]
          simp only [failA]
          rw [List.drop_zero] at h1
          generalize failB l L[i] L = q at h1
          cases q with
          | none => exact h1
          | some x => exact h1)
    exact h
  · refine Ev.ifn hf ?_
    rw [if_neg hf]
    exact Ev.now _

end Go.Proofs.Ytinoamehdhgpgaa.Q

namespace Go.Proofs.Ytinoamehdhgpgaa.Q
open Go Go.RowKit Go.Proofs.Ytinoamehdhgpgaa.A Go.Proofs.YtinoamehdhgpgaaW.PrintWords Go.Proofs.YtinoamehdhgpgaaW.PrintLast Go.Proofs.YtinoamehdhgpgaaW.PrintMore Go.Proofs.Ytinoamehdhgpgaa.Z
set_option linter.unusedVariables false
set_option linter.unusedSimpArgs false

/-- A matroid: a family, not empty, without a failure of the exchange. -/
def matB (n : Int) (l : List Int) : Bool := famB n l && (decide ((l.length : Int) > 0) && !(failT n l).2.2.2)
theorem specMat_ev (n : Int) (l : List Int) (hl : l.length ≤ 17592186044416) : Ev (fun k => spec_IsMatroid.f k n l) (matB n l) := by
  unfold spec_IsMatroid.f matB
  refine Ev.bind (specFail_ev n l hl) (Ev.bind (specFam_ev n l hl) ?_)
  by_cases hf : famB n l = true
  · refine Ev.ifp hf ?_
    rw [hf, Bool.true_and]
    by_cases h0 : (l.length : Int) > 0
    · refine Ev.ifp h0 ?_
      rw [show decide ((l.length : Int) > 0) = true from by simpa using h0, Bool.true_and]
      exact Ev.now _
    · refine Ev.ifn h0 ?_
      rw [show decide ((l.length : Int) > 0) = false from by simpa using h0, Bool.false_and]
      exact Ev.now _
  · refine Ev.ifn hf ?_
    rw [Bool.eq_false_iff.2 hf, Bool.false_and]
    exact Ev.now _

end Go.Proofs.Ytinoamehdhgpgaa.Q

namespace Go.Proofs.Ytinoamehdhgpgaa.Q
open Go Go.RowKit Go.Proofs.YtinoamehdhgpgaaW.PrintWords Go.Proofs.YtinoamehdhgpgaaW.PrintLast Go.Proofs.YtinoamehdhgpgaaW.PrintMore Go.Proofs.Ytinoamehdhgpgaa.Z
set_option linter.unusedVariables false
set_option linter.unusedSimpArgs false

/-- What a matroid is, as numbers. -/
theorem matB_nat {n : Int} {l : List Int} (h : matB n l = true) : ∃ (m : Nat) (L : List Nat), n = m ∧ m ≤ 8 ∧ l = ints L ∧ (∀ x ∈ L, x < 2 ^ m) ∧ (∀ x ∈ L, x < 256) ∧ L.Pairwise (· < ·) ∧ L ≠ [] := by
  simp only [matB, Bool.and_eq_true, decide_eq_true_eq] at h
  obtain ⟨m, L, rfl, hm, rfl, hL, hp⟩ := famB_nat h.1
  refine ⟨m, L, rfl, hm, rfl, hL, fun x hx => Nat.lt_of_lt_of_le (hL x hx) (pow_le_256 hm), hp, ?_⟩
  rintro rfl
  simp at h
theorem ints_len (L : List Nat) : (ints L).length = L.length := List.length_map _
theorem ints_rd (L : List Nat) (i : Nat) (h : i < L.length) : rd (ints L) (i : Int) = (L[i] : Int) := by
  rw [rd_getElem _ i (by rw [ints_len]; exact h)]
  simp [ints]

end Go.Proofs.Ytinoamehdhgpgaa.Q

namespace Go.Proofs.Ytinoamehdhgpgaa.Q
open Go Go.RowKit Go.Proofs.YtinoamehdhgpgaaW.PrintWords Go.Proofs.YtinoamehdhgpgaaW.PrintLast Go.Proofs.YtinoamehdhgpgaaW.PrintMore Go.Proofs.Ytinoamehdhgpgaa.Z
set_option linter.unusedVariables false
set_option linter.unusedSimpArgs false

theorem failE_none {l : List Int} {a b : Nat} : ∀ {es : List Nat}, failE l a b es = none → ∀ e ∈ es, hasEx l a b e = true := by
  intro es
  induction es with
  | nil => intro _ e he; simp at he
  | cons x es ih =>
    intro h e he
    simp only [failE] at h
    by_cases hx : hasEx l a b x = true
    · rw [if_pos hx] at h
      rcases List.mem_cons.1 he with rfl | he
      · exact hx
      · exact ih h e he
    · rw [if_neg hx] at h; cases h
theorem failB_none {l : List Int} {a : Nat} : ∀ {bs : List Nat}, failB l a bs = none → ∀ b ∈ bs, failE l a b (els (dif a b)) = none := by
  intro bs
  induction bs with
  | nil => intro _ e he; simp at he
  | cons x bs ih =>
    intro h b hb
    simp only [failB] at h
    cases hx : failE l a x (els (dif a x)) with
    | none =>
      rw [hx] at h
      rcases List.mem_cons.1 hb with rfl | hb
      · exact hx
      · exact ih h b hb
    | some e => rw [hx] at h; cases h
theorem failA_none {l : List Int} {L : List Nat} : ∀ {la : List Nat}, failA l L la = none → ∀ a ∈ la, failB l a L = none := by
  intro la
  induction la with
  | nil => intro _ e he; simp at he
  | cons x la ih =>
    intro h b hb
    simp only [failA] at h
    cases hx : failB l x L with
    | none =>
      rw [hx] at h
      rcases List.mem_cons.1 hb with rfl | hb
      · exact hx
      · exact ih h b hb
    | some e => rw [hx] at h; cases h
theorem ints_mem {L : List Nat} {x : Nat} : (ints L).contains (x : Int) = true ↔ x ∈ L := by
  rw [List.contains_iff_mem]
  unfold ints
  rw [List.mem_map]
  constructor
  · rintro ⟨y, hy, he⟩
    have : y = x := by omega
    subst this; exact hy
  · intro h; exact ⟨x, h, rfl⟩
/-- What IsMatroid tells is a matroid. -/
theorem matB_mat {n : Int} {l : List Int} (h : matB n l = true) : ∃ (m : Nat) (L : List Nat), n = m ∧ l = ints L ∧ Mat m L ∧ L.Pairwise (· < ·) := by
  have h0 := h
  obtain ⟨m, L, rfl, hm, rfl, hL, hL256, hp, hne⟩ := matB_nat h
  refine ⟨m, L, rfl, rfl, ⟨hm, hL, hne, ?_⟩, hp⟩
  simp only [matB, Bool.and_eq_true] at h0
  obtain ⟨hf, _, hff⟩ := h0
  unfold failT at hff
  rw [if_pos hf, show (ints L).map Int.toNat = L from toNat_map L] at hff
  cases hA : failA (ints L) L L with
  | some x => rw [hA] at hff; simp [told] at hff
  | none =>
    intro a ha b hb e he hae hbe
    have h1 := failE_none (failB_none (failA_none hA a ha) b hb) e (mem_els.2 ⟨he, by rw [dif_bit, hae, hbe]; rfl⟩)
    unfold hasEx at h1
    obtain ⟨f, hf', hc⟩ := List.any_eq_true.1 h1
    obtain ⟨hf8, hfb⟩ := mem_els.1 hf'
    rw [dif_bit] at hfb
    simp only [Bool.and_eq_true, Bool.not_eq_true'] at hfb
    exact ⟨f, hf8, hfb.1, hfb.2, ints_mem.1 hc⟩
end Go.Proofs.Ytinoamehdhgpgaa.Q

namespace Go.Proofs.Ytinoamehdhgpgaa.Q
open Go Go.RowKit Go.Proofs.Ytinoamehdhgpgaa.A Go.Proofs.YtinoamehdhgpgaaW.PrintWords Go.Proofs.YtinoamehdhgpgaaW.PrintLast Go.Proofs.YtinoamehdhgpgaaW.PrintMore Go.Proofs.Ytinoamehdhgpgaa.Z
set_option linter.unusedVariables false
set_option linter.unusedSimpArgs false

theorem pow_wrap {e : Nat} (he : e < 8) : IntKind.i64.wrap (2 ^ e) = ((2 ^ e : Nat) : Int) := by
  have h2 : (2 ^ e : Nat) < 9223372036854775808 := by
    have := Nat.pow_lt_pow_right (a := 2) (by decide) (show e < 63 by omega)
    simpa using this
  have h3 : (2 : Int) ^ e = ((2 ^ e : Nat) : Int) := by simp
  rw [h3]
  exact i64_wrap_nat h2
theorem implC_ev (l : List Int) (hl : l.length ≤ 17592186044416) (a e f : Nat) (ha : a < 256) (he : e < 8) (hf : f < 8) : Ev (fun k => impl_FirstFailure.c k l (a : Int) (e : Int) (f : Int)) (l.contains ((dif a (2 ^ e) ||| 2 ^ f : Nat) : Int)) := by
  unfold impl_FirstFailure.c impl_HasSet.f
  refine Ev.ifp (by omega) (Ev.ifp (by omega) ?_)
  have hp : ∀ x < 8, 2 ^ x < 2 ^ 63 := fun x hx => Nat.pow_lt_pow_right (by decide) (by omega)
  rw [Int.toNat_natCast, Int.toNat_natCast, pow_wrap he, pow_wrap hf, andNot_nat (lt256_63 ha) (hp e he), or_nat (lt256_63 (dif_lt ha)) (hp f hf)]
  exact Ev.bind (contains_ev l _ hl) (Ev.now _)
theorem els_lt {s e : Nat} (h : e ∈ els s) : e < 8 := (mem_els.1 h).1
theorem any_map (p : Int → Bool) (L : List Nat) : (L.map (fun x : Nat => (x : Int))).any p = L.any (fun x => p (x : Int)) := by
  rw [List.any_map]; rfl
theorem implFail_l2 (l : List Int) (hl : l.length ≤ 17592186044416) (a b : Nat) (ha : a < 256) (hb : b < 256) : ∀ es : List Nat, (∀ e ∈ es, e < 8) → Ev (fun k => impl_FirstFailure.l2 k l (a : Int) (b : Int) (es.map (fun x : Nat => (x : Int)))) ((failE l a b es).map (fun x : Nat => (x : Int))) := by
  intro es
  induction es with
  | nil => intro _; exact Ev.now _
  | cons e es ih =>
    intro hm
    have he := hm e (List.mem_cons_self ..)
    simp only [List.map_cons, impl_FirstFailure.l2]
    rw [andNot_nat (lt256_63 hb) (lt256_63 ha)]
    refine Ev.bind (implElements_ev _) ?_
    rw [elsB_nat (dif_lt hb)]
    refine Ev.bind (a := hasEx l a b e) ?_ ?_
    · have h := Ev_anyO (g := fun k f => impl_FirstFailure.c k l (a : Int) (e : Int) f) (p := fun f => l.contains ((dif a (2 ^ e) ||| 2 ^ f.toNat : Nat) : Int)) (l := (els (dif b a)).map (fun x : Nat => (x : Int)))
        (fun x hx => by
          obtain ⟨f, hf, rfl⟩ := List.mem_map.1 hx
          have := implC_ev l hl a e f ha he (els_lt hf)
          rw [Int.toNat_natCast]
          exact this)
      rw [any_map] at h
      simp only [Int.toNat_natCast] at h
      exact h
    · simp only [failE]
      by_cases hx : hasEx l a b e = true
      · refine Ev.ifp hx ?_
        rw [if_pos hx]
        exact ih (fun e' he' => hm e' (List.mem_cons_of_mem _ he'))
      · refine Ev.ifn hx ?_
        rw [if_neg hx]
        exact Ev.now _
theorem implFail_l1 (l : List Int) (hl : l.length ≤ 17592186044416) (a : Nat) (ha : a < 256) : ∀ bs : List Nat, (∀ b ∈ bs, b < 256) → Ev (fun k => impl_FirstFailure.l1 k l (a : Int) (bs.map (fun x : Nat => (x : Int)))) ((failB l a bs).map (fun x : Nat × Nat => ((x.1 : Int), (x.2 : Int)))) := by
  intro bs
  induction bs with
  | nil => intro _; exact Ev.now _
  | cons b bs ih =>
    intro hm
    have hb := hm b (List.mem_cons_self ..)
    simp only [List.map_cons, impl_FirstFailure.l1]
    rw [andNot_nat (lt256_63 ha) (lt256_63 hb)]
    refine Ev.bind (implElements_ev _) ?_
    rw [elsB_nat (dif_lt ha)]
    refine Ev.bind (implFail_l2 l hl a b ha hb _ (fun e he => els_lt he)) ?_
    simp only [failB]
    cases failE l a b (els (dif a b)) with
    | none => exact ih (fun b' hb' => hm b' (List.mem_cons_of_mem _ hb'))
    | some e => exact Ev.now _
theorem implFail_l0 (l : List Int) (L : List Nat) (hlL : l = L.map (fun x : Nat => (x : Int))) (hl : l.length ≤ 17592186044416) (hL : ∀ b ∈ L, b < 256) : ∀ la : List Nat, (∀ a ∈ la, a < 256) → Ev (fun k => impl_FirstFailure.l0 k l (la.map (fun x : Nat => (x : Int)))) ((failA l L la).map (fun x : Nat × Nat × Nat => ((x.1 : Int), (x.2.1 : Int), (x.2.2 : Int)))) := by
  intro la
  induction la with
  | nil => intro _; exact Ev.now _
  | cons a la ih =>
    intro hm
    have ha := hm a (List.mem_cons_self ..)
    simp only [List.map_cons, impl_FirstFailure.l0]
    refine Ev.bind (a := (failB l a L).map (fun x : Nat × Nat => ((x.1 : Int), (x.2 : Int)))) (by
      have := implFail_l1 l hl a ha L hL
      rw [← hlL] at this
      exact this) ?_
    simp only [failA]
    cases failB l a L with
    | none => exact ih (fun a' ha' => hm a' (List.mem_cons_of_mem _ ha'))
    | some x => exact Ev.now _
theorem implFail_ev (n : Int) (l : List Int) (hl : l.length ≤ 17592186044416) : Ev (fun k => impl_FirstFailure.f k n l) (failT n l) := by
  unfold impl_FirstFailure.f failT
  refine Ev.bind (implFam_ev n l hl) ?_
  by_cases hf : famB n l = true
  · refine Ev.ifp hf ?_
    rw [if_pos hf]
    obtain ⟨m, L, rfl, hm, hlL, hL, _⟩ := famB_nat hf
    have hmap : l.map Int.toNat = L := by rw [hlL, toNat_map]
    have h256 : ∀ b ∈ L, b < 256 := fun b hb => Nat.lt_of_lt_of_le (hL b hb) (pow_le_256 hm)
    have h := implFail_l0 l L hlL hl h256 L h256
    rw [← hlL] at h
    refine Ev.bind h ?_
    rw [hmap]
    cases failA l L L with
    | none => exact Ev.now _
    | some x => exact Ev.now _
  · refine Ev.ifn hf ?_
    rw [if_neg hf]
    exact Ev.now _

end Go.Proofs.Ytinoamehdhgpgaa.Q

namespace Go.Proofs.Ytinoamehdhgpgaa.Q
open Go Go.RowKit Go.Proofs.Ytinoamehdhgpgaa.A Go.Proofs.YtinoamehdhgpgaaW.PrintWords Go.Proofs.YtinoamehdhgpgaaW.PrintLast Go.Proofs.YtinoamehdhgpgaaW.PrintMore Go.Proofs.Ytinoamehdhgpgaa.Z
set_option linter.unusedVariables false
set_option linter.unusedSimpArgs false

theorem implMat_ev (n : Int) (l : List Int) (hl : l.length ≤ 17592186044416) : Ev (fun k => impl_IsMatroid.f k n l) (matB n l) := by
  unfold impl_IsMatroid.f matB
  refine Ev.bind (implFail_ev n l hl) (Ev.bind (implFam_ev n l hl) ?_)
  by_cases hf : famB n l = true
  · refine Ev.ifp hf ?_
    rw [hf, Bool.true_and]
    by_cases h0 : (l.length : Int) > 0
    · refine Ev.ifp h0 ?_
      rw [show decide ((l.length : Int) > 0) = true from by simpa using h0, Bool.true_and]
      exact Ev.now _
    · refine Ev.ifn h0 ?_
      rw [show decide ((l.length : Int) > 0) = false from by simpa using h0, Bool.false_and]
      exact Ev.now _
  · refine Ev.ifn hf ?_
    rw [Bool.eq_false_iff.2 hf, Bool.false_and]
    exact Ev.now _

end Go.Proofs.Ytinoamehdhgpgaa.Q

namespace Go.Proofs.Ytinoamehdhgpgaa.Q
open Go Go.RowKit Go.Proofs.Ytinoamehdhgpgaa.A Go.Proofs.YtinoamehdhgpgaaW.PrintWords Go.Proofs.YtinoamehdhgpgaaW.PrintLast Go.Proofs.YtinoamehdhgpgaaW.PrintMore Go.Proofs.Ytinoamehdhgpgaa.Z
set_option linter.unusedVariables false
set_option linter.unusedSimpArgs false

theorem l1Max_eq (a b : Int) : spec_l1Max.f a b = some (max a b) := by
  unfold spec_l1Max.f
  by_cases h : a > b
  · rw [if_pos h]; congr 1; omega
  · rw [if_neg h]; congr 1; omega
theorem specRank_ev (n : Int) (L : List Nat) (s : Nat) (hl : L.length ≤ 17592186044416) (hL : ∀ b ∈ L, b < 256) (hs : s < 256) : Ev (fun k => spec_l5Rank.f k n (ints L) (s : Int)) (rkN L s : Int) := by
  have h := down (P := fun i => ∀ acc : Nat, Ev (fun k => spec_l5Rank.l0 k (s : Int) (acc : Int) (i : Int) n (ints L)) ((maxN acc ((L.drop i).map (fun b => pc (b &&& s))) : Nat) : Int)) L.length
    (by
      intro acc
      apply Ev.step
      · intro k
        simp only [spec_l5Rank.l0]
        rw [if_neg (by rw [ints_len]; omega)]
      · rw [drop_end]; exact Ev.now _)
    (by
      intro i hi ih acc
      have hb := hL _ (List.getElem_mem hi)
      apply Ev.step
      · intro k
        simp only [spec_l5Rank.l0, l1Max_eq, Option.bind_some]
        rw [if_pos (by rw [ints_len]; omega), if_pos (by omega), ints_rd L i hi, w_succ hi hl, and_nat (lt256_63 hb) (lt256_63 hs)]
      · refine Ev.bind (specCount_ev _ (and_lt hb)) ?_
        rw [drop_cons L i hi, List.map_cons, maxN_cons]
        have := ih (max acc (pc (L[i] &&& s)))
        rw [show ((max acc (pc (L[i] &&& s)) : Nat) : Int) = max (acc : Int) (pc (L[i] &&& s) : Int) from by omega] at this
        exact this)
  exact h 0
end Go.Proofs.Ytinoamehdhgpgaa.Q

namespace Go.Proofs.Ytinoamehdhgpgaa.Q
open Go Go.RowKit Go.Proofs.Ytinoamehdhgpgaa.A Go.Proofs.YtinoamehdhgpgaaW.PrintWords Go.Proofs.YtinoamehdhgpgaaW.PrintLast Go.Proofs.YtinoamehdhgpgaaW.PrintMore Go.Proofs.Ytinoamehdhgpgaa.Z
set_option linter.unusedVariables false
set_option linter.unusedSimpArgs false

def rankB (n : Int) (l : List Int) : Int := if matB n l = true then (pc (rd l 0).toNat : Int) else -1
theorem specRankOf_ev (n : Int) (l : List Int) (hl : l.length ≤ 17592186044416) : Ev (fun k => spec_RankOfMatroid.f k n l) (rankB n l) := by
  unfold spec_RankOfMatroid.f rankB
  refine Ev.bind (specMat_ev n l hl) ?_
  by_cases h : matB n l = true
  · refine Ev.ifp h ?_
    rw [if_pos h]
    obtain ⟨m, L, rfl, rfl, hM, _⟩ := matB_mat h
    have h0 : 0 < L.length := List.length_pos_iff.2 hM.some
    have e := ints_rd L 0 h0
    rw [show ((0 : Nat) : Int) = 0 from rfl] at e
    refine Ev.ifp (by rw [ints_len]; omega) ?_
    rw [e, Int.toNat_natCast]
    exact Ev.bind (specCount_ev _ (hM.lt _ (List.getElem_mem h0))) (Ev.now _)
  · refine Ev.ifn h ?_
    rw [if_neg h]; exact Ev.now _
theorem implRankOf_ev (n : Int) (l : List Int) (hl : l.length ≤ 17592186044416) : Ev (fun k => impl_RankOfMatroid.f k n l) (rankB n l) := by
  unfold impl_RankOfMatroid.f rankB
  refine Ev.bind (implMat_ev n l hl) ?_
  by_cases h : matB n l = true
  · refine Ev.ifp h ?_
    rw [if_pos h]
    obtain ⟨m, L, rfl, rfl, hM, _⟩ := matB_mat h
    have h0 : 0 < L.length := List.length_pos_iff.2 hM.some
    have e := ints_rd L 0 h0
    rw [show ((0 : Nat) : Int) = 0 from rfl] at e
    refine Ev.ifp (by rw [ints_len]; omega) ?_
    rw [e, Int.toNat_natCast]
    exact Ev.cbind (implCount_eq _ (hM.lt _ (List.getElem_mem h0))) (Ev.now _)
  · refine Ev.ifn h ?_
    rw [if_neg h]; exact Ev.now _

end Go.Proofs.Ytinoamehdhgpgaa.Q

namespace Go.Proofs.Ytinoamehdhgpgaa.Q
open Go Go.RowKit Go.Proofs.Ytinoamehdhgpgaa.A Go.Proofs.YtinoamehdhgpgaaW.PrintWords Go.Proofs.YtinoamehdhgpgaaW.PrintLast Go.Proofs.YtinoamehdhgpgaaW.PrintMore Go.Proofs.Ytinoamehdhgpgaa.Z
set_option linter.unusedVariables false
set_option linter.unusedSimpArgs false

def fullN (m : Nat) : Nat := 2 ^ m - 1
theorem full_sub_all : ∀ m < 9, ∀ u < 256, (!decide (u < 2 ^ m) || (decide (fullN m - u = dif (fullN m) u) && decide (fullN m < 2 ^ m))) = true := by decide +kernel
theorem full_sub {m u : Nat} (hm : m ≤ 8) (hu : u < 2 ^ m) : fullN m - u = dif (fullN m) u ∧ fullN m < 2 ^ m ∧ fullN m < 256 := by
  have h256 := Nat.lt_of_lt_of_le hu (pow_le_256 hm)
  have h := full_sub_all m (by omega) u h256
  rw [show decide (u < 2 ^ m) = true from by simpa using hu] at h
  simp only [Bool.not_true, Bool.false_or, Bool.and_eq_true, decide_eq_true_eq] at h
  exact ⟨h.1, h.2, Nat.lt_of_lt_of_le h.2 (pow_le_256 hm)⟩
theorem full_lt {m : Nat} (hm : m ≤ 8) : fullN m < 2 ^ m ∧ fullN m < 256 := (full_sub hm (Nat.two_pow_pos m)).2
theorem specFull_eq {m : Nat} (hm : m ≤ 8) : spec_FullSet.f (m : Int) = some ((fullN m : Nat) : Int) := by
  unfold spec_FullSet.f fullN
  have hp := pow_le_256 hm
  have h0 := Nat.two_pow_pos m
  rw [l1In_eq, Option.bind_some, if_pos (by simp; omega), if_pos (u64_nonneg _), u64_of (by omega) (by omega), shl_one (by omega)]
  generalize 2 ^ m = q at *
  rw [wrap64_of (by omega) (by omega)]
  congr 1
  omega
theorem implFull_eq {m : Nat} (hm : m ≤ 8) : impl_FullSet.f (m : Int) = some ((fullN m : Nat) : Int) := by
  unfold impl_FullSet.f fullN
  have hp := pow_le_256 hm
  have h0 := Nat.two_pow_pos m
  rw [isSize_eq, Option.bind_some, if_pos (by simp; omega), if_pos (by omega), shl_one (by omega)]
  generalize 2 ^ m = q at *
  rw [wrap64_of (by omega) (by omega)]
  congr 1
  omega

end Go.Proofs.Ytinoamehdhgpgaa.Q

namespace Go.Proofs.Ytinoamehdhgpgaa.Q
open Go Go.RowKit Go.Proofs.YtinoamehdhgpgaaW.PrintWords Go.Proofs.YtinoamehdhgpgaaW.PrintLast Go.Proofs.YtinoamehdhgpgaaW.PrintMore Go.Proofs.Ytinoamehdhgpgaa.Z
set_option linter.unusedVariables false
set_option linter.unusedSimpArgs false

theorem rk_ge {L : List Nat} {b : Nat} (hb : b ∈ L) (s : Nat) : pc (b &&& s) ≤ rkN L s := maxN_mem _ 0 _ (List.mem_map.2 ⟨b, hb, rfl⟩)
theorem rk_attain {L : List Nat} (hne : L ≠ []) (s : Nat) : ∃ b ∈ L, pc (b &&& s) = rkN L s := by
  rcases maxN_cases (L.map (fun b => pc (b &&& s))) 0 with h | h
  · obtain ⟨b, hb⟩ := List.exists_mem_of_ne_nil L hne
    have := rk_ge hb s
    refine ⟨b, hb, ?_⟩
    unfold rkN at this ⊢
    omega
  · obtain ⟨b, hb, e⟩ := List.mem_map.1 h
    exact ⟨b, hb, e⟩
theorem rk_mono {L : List Nat} (hne : L ≠ []) {X Y : Nat} (h : ∀ i, X.testBit i = true → Y.testBit i = true) : rkN L X ≤ rkN L Y := by
  obtain ⟨b, hb, e⟩ := rk_attain hne X
  rw [← e]
  refine Nat.le_trans (pc_mono fun i _ hi => ?_) (rk_ge hb Y)
  rw [Nat.testBit_and, Bool.and_eq_true] at hi ⊢
  exact ⟨hi.1, h i hi.2⟩
theorem Mat.both_step {m : Nat} {L : List Nat} (h : Mat m L) {S T c : Nat} (hST : ∀ i, S.testBit i = true → T.testBit i = true) (hc : c ∈ L) (hcT : pc (c &&& T) = rkN L T) : ∀ (d b : Nat), b ∈ L → pc (b &&& S) = rkN L S → pc (dif b c) = d → ∃ b ∈ L, pc (b &&& S) = rkN L S ∧ pc (b &&& T) = rkN L T := by
  intro d
  induction d with
  | zero =>
    intro b hb hS hd
    refine ⟨b, hb, hS, Nat.le_antisymm (rk_ge hb T) ?_⟩
    rw [← hcT]
    have hcard := h.card hb hc
    refine pc_mono fun i hi hbi => ?_
    rw [Nat.testBit_and, Bool.and_eq_true] at hbi ⊢
    refine ⟨?_, hbi.2⟩
    cases hb' : b.testBit i
    · have h1 : pc b < pc c := by
        have e1 := pc_dif_and c (2 ^ i)
        have hle : pc b ≤ pc (dif c (2 ^ i)) := pc_mono fun j hj hbj => by
          rw [del_bit]
          have : c.testBit j = true := by
            cases hcj : c.testBit j
            · have : 0 < pc (dif b c) := pc_pos hj (by rw [dif_bit, hbj, hcj]; rfl)
              omega
            · rfl
          rw [this]
          have hne : ¬ i = j := by rintro rfl; rw [hb'] at hbj; cases hbj
          simp [hne]
        have := pc_del hi hbi.1
        omega
      omega
    · rfl
  | succ d ih =>
    intro b hb hS hd
    by_cases hT : pc (b &&& T) = rkN L T
    · exact ⟨b, hb, hS, hT⟩
    · have hlt : pc (b &&& T) < pc (c &&& T) := by
        have := rk_ge hb T
        omega
      have hcard := h.card hb hc
      have e1 := pc_dif_and b T
      have e2 := pc_dif_and c T
      obtain ⟨e, he, hbe, hce⟩ := exists_new (a := dif c T) (b := dif b T) (by omega)
      rw [dif_bit, Bool.and_eq_true, Bool.not_eq_true'] at hbe
      have hce' : c.testBit e = false := by
        rw [dif_bit, hbe.2] at hce
        simpa using hce
      obtain ⟨f, hf, h1, h2, hm⟩ := h.exch b hb c hc e he hbe.1 hce'
      refine ih (swp b e f) hm ?_ ?_
      · refine Nat.le_antisymm (rk_ge hm S) ?_
        rw [← hS]
        refine pc_mono fun i _ hi => ?_
        rw [Nat.testBit_and, Bool.and_eq_true] at hi ⊢
        refine ⟨?_, hi.2⟩
        have hie : ¬ e = i := by rintro rfl; have := hST _ hi.2; rw [hbe.2] at this; cases this
        rw [swp_bit, hi.1]
        simp [hie]
      · have e3 : dif (swp b e f) c = dif (dif b c) (2 ^ e) := by
          apply Nat.eq_of_testBit_eq
          intro i
          rw [dif_bit, swp_bit, del_bit, dif_bit]
          by_cases hi : f = i
          · subst hi; rw [h1, h2]; simp
          · simp [hi]
            cases b.testBit i <;> cases c.testBit i <;> simp
        rw [e3]
        have := pc_del (a := dif b c) he (by rw [dif_bit, hbe.1, hce']; rfl)
        omega
theorem Mat.both {m : Nat} {L : List Nat} (h : Mat m L) {S T : Nat} (hST : ∀ i, S.testBit i = true → T.testBit i = true) : ∃ b ∈ L, pc (b &&& S) = rkN L S ∧ pc (b &&& T) = rkN L T := by
  obtain ⟨c, hc, hcT⟩ := rk_attain h.some T
  obtain ⟨b, hb, hbS⟩ := rk_attain h.some S
  exact Mat.both_step h hST hc hcT _ b hb hbS rfl
theorem Mat.rk_sub {m : Nat} {L : List Nat} (h : Mat m L) (X Y : Nat) : rkN L (X ||| Y) + rkN L (X &&& Y) ≤ rkN L X + rkN L Y := by
  obtain ⟨b, hb, h1, h2⟩ := Mat.both h (S := X &&& Y) (T := X ||| Y) (fun i hi => by rw [Nat.testBit_and, Bool.and_eq_true] at hi; rw [Nat.testBit_or, hi.1]; rfl)
  have e := pc_or_and (b &&& X) (b &&& Y)
  have e1 : (b &&& X) ||| (b &&& Y) = b &&& (X ||| Y) := by
    apply Nat.eq_of_testBit_eq
    intro i
    simp only [Nat.testBit_or, Nat.testBit_and]
    cases b.testBit i <;> cases X.testBit i <;> cases Y.testBit i <;> rfl
  have e2 : (b &&& X) &&& (b &&& Y) = b &&& (X &&& Y) := by
    apply Nat.eq_of_testBit_eq
    intro i
    simp only [Nat.testBit_and]
    cases b.testBit i <;> cases X.testBit i <;> cases Y.testBit i <;> rfl
  rw [e1, e2, h1, h2] at e
  have k1 := rk_ge hb X
  have k2 := rk_ge hb Y
  omega
theorem bit_out {m A i : Nat} (h : A < 2 ^ m) (hi : m ≤ i) : A.testBit i = false := Nat.testBit_lt_two_pow (Nat.lt_of_lt_of_le h (Nat.pow_le_pow_right (by omega) hi))
end Go.Proofs.Ytinoamehdhgpgaa.Q

namespace Go.Proofs.Ytinoamehdhgpgaa.Q
open Go Go.RowKit Go.Proofs.YtinoamehdhgpgaaW.PrintWords Go.Proofs.YtinoamehdhgpgaaW.PrintLast Go.Proofs.YtinoamehdhgpgaaW.PrintMore Go.Proofs.Ytinoamehdhgpgaa.Z
set_option linter.unusedVariables false
set_option linter.unusedSimpArgs false

theorem bit_lt {m s i : Nat} (hs : s < 2 ^ m) (h : s.testBit i = true) : i < m := by
  refine Classical.byContradiction fun hc => ?_
  rw [bit_out hs (by omega)] at h; cases h
theorem pow_lt_of {m i : Nat} (h : i < m) : 2 ^ i < 2 ^ m := Nat.pow_lt_pow_right (by omega) h
/-- Sets of m elements, closed downward, and a smaller one can be filled up from a greater one. -/
structure Ind (m : Nat) (I : Nat → Prop) : Prop where
  size : m ≤ 8
  sets : ∀ s, I s → s < 2 ^ m
  zero : I 0
  down : ∀ s t, I t → subN s t → I s
  aug : ∀ a b, I a → I b → pc a < pc b → ∃ e, e < 8 ∧ b.testBit e = true ∧ a.testBit e = false ∧ I (a ||| 2 ^ e)
def orL (a : Nat) : List Nat → Nat
  | [] => a
  | e :: es => orL a es ||| 2 ^ e
theorem orL_bit (a i : Nat) : ∀ es : List Nat, (orL a es).testBit i = (a.testBit i || decide (i ∈ es)) := by
  intro es
  induction es with
  | nil => simp [orL]
  | cons e es ih =>
    simp only [orL]
    rw [add_bit, ih]
    by_cases h : e = i
    · subst h; simp
    · have : ¬ i = e := fun x => h x.symm
      simp [h, this]
theorem Mat.aug {m : Nat} {L : List Nat} (h : Mat m L) {a b : Nat} (ha : indN L a = true) (hb : indN L b = true) (hlt : pc a < pc b) : ∃ e, e < 8 ∧ b.testBit e = true ∧ a.testBit e = false ∧ indN L (a ||| 2 ^ e) = true := by
  refine Classical.byContradiction fun hc => ?_
  have hlt256 : ∀ s, indN L s = true → s < 256 := fun s hs => by
    obtain ⟨x, hx, hsub⟩ := indN_iff.1 hs
    exact Nat.lt_of_le_of_lt (subN_le hsub) (h.lt x hx)
  have ra := (rk_eq_iff (hlt256 a ha) h.some).2 ha
  have rb := (rk_eq_iff (hlt256 b hb) h.some).2 hb
  have h1 : ∀ e, e < 8 → b.testBit e = true → rkN L (a ||| 2 ^ e) ≤ rkN L a := by
    intro e he hbe
    cases hae : a.testBit e
    · have hn : ¬ indN L (a ||| 2 ^ e) = true := fun x => hc ⟨e, he, hbe, hae, x⟩
      have hl : a ||| 2 ^ e < 256 := Nat.or_lt_two_pow (n := 8) (hlt256 a ha) (pow_lt_of he)
      have hne := mt (rk_eq_iff hl h.some).1 hn
      have hle := rkN_le L (a ||| 2 ^ e)
      rw [pc_add he hae] at hle hne
      omega
    · refine rk_mono h.some fun i hi => ?_
      rw [add_bit, Bool.or_eq_true] at hi
      rcases hi with hi | hi
      · exact hi
      · rw [← of_decide_eq_true hi]; exact hae
  have h2 : ∀ es : List Nat, (∀ e ∈ es, e < 8 ∧ b.testBit e = true) → rkN L (orL a es) ≤ rkN L a := by
    intro es
    induction es with
    | nil => intro _; exact Nat.le_refl _
    | cons e es ih =>
      intro hes
      have ih' := ih (fun x hx => hes x (List.mem_cons_of_mem _ hx))
      have he := hes e (List.mem_cons_self ..)
      have hs := Mat.rk_sub h (orL a es) (a ||| 2 ^ e)
      have k1 : rkN L a ≤ rkN L (orL a es &&& (a ||| 2 ^ e)) := rk_mono h.some fun i hi => by
        rw [Nat.testBit_and, orL_bit, add_bit, hi]; rfl
      have k2 : rkN L (orL a es ||| 2 ^ e) ≤ rkN L (orL a es ||| (a ||| 2 ^ e)) := rk_mono h.some fun i hi => by
        rw [Nat.testBit_or, Bool.or_eq_true] at hi ⊢
        rcases hi with hi | hi
        · exact .inl hi
        · right; rw [Nat.testBit_or, hi, Bool.or_true]
      have k3 := h1 e he.1 he.2
      simp only [orL]
      omega
  have h3 := h2 (els b) (fun e he => mem_els.1 he)
  have h4 : rkN L b ≤ rkN L (orL a (els b)) := rk_mono h.some fun i hi => by
    rw [orL_bit, Bool.or_eq_true]
    right
    refine decide_eq_true (mem_els.2 ⟨?_, hi⟩)
    refine Classical.byContradiction fun hc => ?_
    rw [bit_ge (hlt256 b hb) hc] at hi; cases hi
  omega
variable {m : Nat} {I : Nat → Prop}
theorem Ind.lt (h : Ind m I) {s : Nat} (hs : I s) : s < 256 := Nat.lt_of_lt_of_le (h.sets s hs) (pow_le_256 h.size)
/-- The greatest size of an independent set. -/
theorem Ind.max (h : Ind m I) : ∃ r, (∃ b, I b ∧ pc b = r) ∧ ∀ s, I s → pc s ≤ r := by
  have key : ∀ d b, I b → 8 - pc b ≤ d → ∃ r, (∃ b, I b ∧ pc b = r) ∧ ∀ s, I s → pc s ≤ r := by
    intro d
    induction d with
    | zero =>
      intro b hb hd
      refine ⟨pc b, ⟨b, hb, rfl⟩, fun s _ => ?_⟩
      have := pc_le s
      have := pc_le b
      omega
    | succ d ih =>
      intro b hb hd
      by_cases hx : ∃ s, I s ∧ pc b < pc s
      · obtain ⟨s, hs, hlt⟩ := hx
        exact ih s hs (by omega)
      · refine ⟨pc b, ⟨b, hb, rfl⟩, fun s hs => ?_⟩
        have : ¬ pc b < pc s := fun hl => hx ⟨s, hs, hl⟩
        omega
  exact key 8 0 h.zero (by omega)
/-- The independent sets are those within its bases. -/
theorem Ind.indN_iff (h : Ind m I) {L : List Nat} {r : Nat} (hL : ∀ b, b ∈ L ↔ I b ∧ pc b = r) (hne : ∃ b, I b ∧ pc b = r) (hmax : ∀ s, I s → pc s ≤ r) (s : Nat) : indN L s = true ↔ I s := by
  constructor
  · intro hs
    obtain ⟨x, hx, hsub⟩ := Z.indN_iff.1 hs
    exact h.down s x ((hL x).1 hx).1 hsub
  · obtain ⟨b, ib, pb⟩ := hne
    have key : ∀ d s, I s → r - pc s ≤ d → ∃ x, x ∈ L ∧ subN s x := by
      intro d
      induction d with
      | zero =>
        intro s hs hd
        have := hmax s hs
        exact ⟨s, (hL s).2 ⟨hs, by omega⟩, subN_refl s⟩
      | succ d ih =>
        intro s hs hd
        by_cases he : pc s = r
        · exact ⟨s, (hL s).2 ⟨hs, he⟩, subN_refl s⟩
        · have := hmax s hs
          obtain ⟨e, he8, h1, h2, h3⟩ := h.aug s b hs ib (by omega)
          obtain ⟨x, hx, hsub⟩ := ih _ h3 (by rw [pc_add he8 h2]; omega)
          refine ⟨x, hx, subN_trans (subN_bit.2 fun i hi => ?_) hsub⟩
          rw [add_bit, hi, Bool.true_or]
    intro hs
    obtain ⟨x, hx, hsub⟩ := key _ s hs (Nat.le_refl _)
    exact Z.indN_iff.2 ⟨x, hx, hsub⟩
/-- At most one element, and of S. -/
def One (S s : Nat) : Prop := s = 0 ∨ ∃ e, e < 8 ∧ S.testBit e = true ∧ s = 2 ^ e
theorem Ind.one {S : Nat} (hm : m ≤ 8) (hS : S < 2 ^ m) : Ind m (One S) := by
  refine ⟨hm, ?_, .inl rfl, ?_, ?_⟩
  · rintro s (rfl | ⟨e, he, h1, rfl⟩)
    · exact Nat.two_pow_pos _
    · exact pow_lt_of (bit_lt hS h1)
  · rintro s t (rfl | ⟨e, he, h1, rfl⟩) hst
    · left
      have := subN_le hst
      omega
    · cases hb : s.testBit e
      · left
        apply Nat.eq_of_testBit_eq
        intro i
        rw [Nat.zero_testBit]
        cases hi : s.testBit i
        · rfl
        · have := subN_bit.1 hst i hi
          rw [Nat.testBit_two_pow] at this
          rw [of_decide_eq_true this, hi] at hb; cases hb
      · right
        refine ⟨e, he, h1, ?_⟩
        apply Nat.eq_of_testBit_eq
        intro i
        rw [Nat.testBit_two_pow]
        by_cases hi : e = i
        · subst hi; rw [hb]; simp
        · rw [decide_eq_false hi]
          cases hs : s.testBit i
          · rfl
          · have := subN_bit.1 hst i hs
            rw [Nat.testBit_two_pow] at this
            exact absurd (of_decide_eq_true this) hi
  · rintro a b (rfl | ⟨e, he, h1, rfl⟩) hb hlt
    · rcases hb with rfl | ⟨f, hf, h2, rfl⟩
      · omega
      · exact ⟨f, hf, by rw [Nat.testBit_two_pow]; simp, Nat.zero_testBit _, by rw [Nat.zero_or]; exact .inr ⟨f, hf, h2, rfl⟩⟩
    · rw [pc_pow he] at hlt
      rcases hb with rfl | ⟨f, hf, h2, rfl⟩
      · rw [pc_zero] at hlt; omega
      · rw [pc_pow hf] at hlt; omega
end Go.Proofs.Ytinoamehdhgpgaa.Q

namespace Go.Proofs.Ytinoamehdhgpgaa.Q
open Go Go.RowKit Go.Proofs.Ytinoamehdhgpgaa.A Go.Proofs.YtinoamehdhgpgaaW.PrintWords Go.Proofs.YtinoamehdhgpgaaW.PrintLast Go.Proofs.YtinoamehdhgpgaaW.PrintMore Go.Proofs.Ytinoamehdhgpgaa.Z
set_option linter.unusedVariables false
set_option linter.unusedSimpArgs false

/-- A number put into a list in order, once. -/
def insO (x : Int) : List Int → List Int
  | [] => [x]
  | y :: ys => if y < x then y :: insO x ys else (if y = x then y :: ys else x :: y :: ys)
def sortO (acc X : List Int) : List Int := X.foldl (fun a x => insO x a) acc
theorem insO_len (x : Int) (l : List Int) : (insO x l).length ≤ l.length + 1 := by
  induction l with
  | nil => exact Nat.le_refl _
  | cons y l ih =>
    simp only [insO]
    by_cases h : y < x
    · rw [if_pos h, List.length_cons, List.length_cons]; omega
    · rw [if_neg h]
      by_cases h2 : y = x
      · rw [if_pos h2]; omega
      · rw [if_neg h2]; simp only [List.length_cons]; omega
theorem insO_mem (x a : Int) (l : List Int) : a ∈ insO x l ↔ a = x ∨ a ∈ l := by
  induction l with
  | nil => simp [insO]
  | cons y l ih =>
    simp only [insO]
    by_cases h : y < x
    · rw [if_pos h, List.mem_cons, ih, List.mem_cons]
      constructor
      · rintro (h' | h' | h')
        · exact .inr (.inl h')
        · exact .inl h'
        · exact .inr (.inr h')
      · rintro (h' | h' | h')
        · exact .inr (.inl h')
        · exact .inl h'
        · exact .inr (.inr h')
    · rw [if_neg h]
      by_cases h2 : y = x
      · rw [if_pos h2]
        subst h2
        constructor
        · exact .inr
        · rintro (rfl | h')
          · exact List.mem_cons_self ..
          · exact h'
      · rw [if_neg h2, List.mem_cons]
theorem insO_pair (x : Int) (l : List Int) (hl : l.Pairwise (· < ·)) : (insO x l).Pairwise (· < ·) := by
  induction l with
  | nil => simp [insO]
  | cons y l ih =>
    rw [List.pairwise_cons] at hl
    simp only [insO]
    by_cases h : y < x
    · rw [if_pos h, List.pairwise_cons]
      refine ⟨fun a ha => ?_, ih hl.2⟩
      rcases (insO_mem x a l).1 ha with rfl | ha
      · exact h
      · exact hl.1 a ha
    · rw [if_neg h]
      by_cases h2 : y = x
      · rw [if_pos h2, List.pairwise_cons]; exact hl
      · rw [if_neg h2, List.pairwise_cons, List.pairwise_cons]
        refine ⟨fun a ha => ?_, hl⟩
        rcases List.mem_cons.1 ha with rfl | ha
        · omega
        · have := hl.1 a ha; omega
theorem sortO_mem (X : List Int) (a : Int) : ∀ acc : List Int, a ∈ sortO acc X ↔ a ∈ X ∨ a ∈ acc := by
  induction X with
  | nil => intro acc; simp [sortO]
  | cons x X ih =>
    intro acc
    have := ih (insO x acc)
    unfold sortO at this ⊢
    rw [List.foldl_cons, this, insO_mem, List.mem_cons]
    constructor
    · rintro (h | h | h)
      · exact .inl (.inr h)
      · exact .inl (.inl h)
      · exact .inr h
    · rintro ((h | h) | h)
      · exact .inr (.inl h)
      · exact .inl h
      · exact .inr (.inr h)
theorem sortO_pair (X : List Int) : ∀ acc : List Int, acc.Pairwise (· < ·) → (sortO acc X).Pairwise (· < ·) := by
  induction X with
  | nil => intro acc h; exact h
  | cons x X ih => intro acc h; exact ih _ (insO_pair x acc h)
/-- Two lists in order with the same members are one. -/
theorem pair_unique : ∀ {X Y : List Int}, X.Pairwise (· < ·) → Y.Pairwise (· < ·) → (∀ a, a ∈ X ↔ a ∈ Y) → X = Y := by
  intro X
  induction X with
  | nil =>
    intro Y _ _ h
    cases Y with
    | nil => rfl
    | cons y Y => exact absurd ((h y).2 (List.mem_cons_self ..)) (by simp)
  | cons x X ih =>
    intro Y hX hY h
    cases Y with
    | nil => exact absurd ((h x).1 (List.mem_cons_self ..)) (by simp)
    | cons y Y =>
      rw [List.pairwise_cons] at hX hY
      have hxy : x = y := by
        rcases List.mem_cons.1 ((h x).1 (List.mem_cons_self ..)) with e | hx
        · exact e
        · rcases List.mem_cons.1 ((h y).2 (List.mem_cons_self ..)) with e | hy
          · exact e.symm
          · have h1 := hX.1 y hy
            have h2 := hY.1 x hx
            omega
      subst hxy
      rw [ih hX.2 hY.2 (fun a => ?_)]
      constructor
      · intro ha
        rcases List.mem_cons.1 ((h a).1 (List.mem_cons_of_mem _ ha)) with e | h'
        · have := hX.1 a ha; omega
        · exact h'
      · intro ha
        rcases List.mem_cons.1 ((h a).2 (List.mem_cons_of_mem _ ha)) with e | h'
        · have := hY.1 a ha; omega
        · exact h'
theorem specSort_ev (X : List Int) (hx : X.length ≤ 8796093022208) : Ev (fun k => spec_SortSets.f k X) (sortO [] X) := by
  have hd := down (P := fun i => ∀ acc : List Int, acc.length ≤ i → Ev (fun k => spec_SortSets.l0 k X acc (i : Int)) (sortO acc (X.drop i))) X.length
    (by
      intro acc _
      apply Ev.step
      · intro k
        rw [spec_SortSets.l0, if_neg (by omega)]
      · rw [drop_end]; exact Ev.now _)
    (by
      intro i hi ih acc ha
      have ihs := fun y (hy : y = insO X[i] acc) => ih y (by subst hy; have := insO_len X[i] acc; omega)
      rw [drop_cons X i hi]
      have h1 := down (P := fun j => Ev (fun k => spec_SortSets.l1 k X acc (i : Int) (j : Int)) (sortO (acc.take j ++ insO X[i] (acc.drop j)) (X.drop (i + 1)))) acc.length
        (by
          rw [List.take_length, drop_end]
          have hr := ih (acc ++ [X[i]]) (by rw [List.length_append, List.length_singleton]; omega)
          apply Ev.step
          · intro k
            rw [spec_SortSets.l1, if_neg (by omega), w_succ hi (by omega)]
          · simp only [Option.bind_some, Int.toNat_natCast, List.drop_length, List.take_length, List.nil_append, List.append_nil, List.length_nil, List.length_append, List.length_singleton]
            refine Ev.ifp (by omega) (Ev.ifp (by omega) (Ev.ifp (by omega) (Ev.ifp (by omega) (Ev.ifp (by omega) (Ev.ifp (by omega) (Ev.ifp (by omega) ?_))))))
            rw [rd_getElem X i hi]
            exact hr)
        (by
          intro j hj ihj
          apply Ev.step
          · intro k
            rw [spec_SortSets.l1, if_pos (by omega), if_pos (by omega), if_pos (by omega), if_pos (by omega), rd_getElem acc j hj, rd_getElem X i hi, w_succ hi (by omega), w_succ hj (by omega)]
          · rw [drop_cons acc j hj]
            simp only [insO]
            by_cases hlt : acc[j] < X[i]
            · rw [if_pos hlt]
              refine Ev.ifp hlt ?_
              rw [take_snoc acc j hj, List.append_assoc, List.singleton_append] at ihj
              exact ihj
            · rw [if_neg hlt]
              refine Ev.ifn hlt ?_
              by_cases heq : acc[j] = X[i]
              · rw [if_pos heq]
                refine Ev.ifp heq ?_
                rw [← drop_cons acc j hj, List.take_append_drop]
                exact ih acc (by omega)
              · rw [if_neg heq]
                refine Ev.ifn heq ?_
                have hr := ih (acc.take j ++ X[i] :: acc[j] :: acc.drop (j + 1)) (by
                  rw [List.length_append, List.length_cons, List.length_cons, List.length_take, List.length_drop]; omega)
                simp only [Option.bind_some, Int.toNat_natCast, List.nil_append, List.length_nil]
                refine Ev.ifp (by omega) (Ev.ifp (by rw [List.length_drop]; omega) (Ev.ifp (by rw [List.length_take]; omega) (Ev.ifp (by rw [List.length_append, List.length_singleton, List.length_take, List.length_drop]; omega) ?_)))
                rw [drop_cons acc j hj, List.append_assoc, List.singleton_append]
                exact hr)
      apply Ev.step
      · intro k
        rw [spec_SortSets.l0, if_pos (by omega)]
      · have h0 := h1
        rw [List.take_zero, List.drop_zero, List.nil_append] at h0
        show Ev _ (sortO acc (X[i] :: X.drop (i + 1)))
        exact h0)
  exact hd [] (Nat.zero_le _)

end Go.Proofs.Ytinoamehdhgpgaa.Q

namespace Go.Proofs.Ytinoamehdhgpgaa.Q
open Go Go.RowKit Go.Proofs.Ytinoamehdhgpgaa.A Go.Proofs.YtinoamehdhgpgaaW.PrintWords Go.Proofs.YtinoamehdhgpgaaW.PrintLast Go.Proofs.YtinoamehdhgpgaaW.PrintMore Go.Proofs.Ytinoamehdhgpgaa.Z
set_option linter.unusedVariables false
set_option linter.unusedSimpArgs false

theorem subset_eq (t s : Int) : impl_IsSubset.f t s = some (isAnyB t && (isAnyB s && decide (subN t.toNat s.toNat))) := by
  unfold impl_IsSubset.f
  rw [isAny_eq, isAny_eq, Option.bind_some, Option.bind_some]
  by_cases h1 : isAnyB t = true
  · rw [if_pos h1, h1, Bool.true_and]
    by_cases h2 : isAnyB s = true
    · rw [if_pos h2, h2, Bool.true_and]
      obtain ⟨a, rfl, ha⟩ := isAnyB_lt h1
      obtain ⟨b, rfl, hb⟩ := isAnyB_lt h2
      rw [andNot_nat (lt256_63 ha) (lt256_63 hb), Int.toNat_natCast, Int.toNat_natCast]
      have e : (((dif a b : Nat) : Int) == 0) = decide (subN a b) := by
        rw [Bool.eq_iff_iff, beq_iff_eq, decide_eq_true_eq]
        have h := @dif_zero a b
        constructor
        · intro h0; exact h.1 (by omega)
        · intro h0; have := h.2 h0; omega
      rw [e]
    · rw [if_neg h2, Bool.eq_false_iff.2 h2, Bool.false_and]
  · rw [if_neg h1, Bool.eq_false_iff.2 h1, Bool.false_and]
/-- independent at whatever number. -/
def indB (L : List Nat) (s : Int) : Bool := isAnyB s && indN L s.toNat
theorem implInd_ev (n : Int) (L : List Nat) (s : Int) (hl : L.length ≤ 17592186044416) (hL : ∀ b ∈ L, b < 256) : Ev (fun k => impl_independent.f k n (ints L) s) (indB L s) := by
  have h := down (P := fun i => Ev (fun k => impl_independent.l0 k s (ints L) ((ints L).length : Int) (i : Int)) (isAnyB s && (L.drop i).any (fun b => decide (subN s.toNat b)))) L.length
    (by
      apply Ev.step
      · intro k
        simp only [impl_independent.l0]
        rw [if_neg (by rw [ints_len]; omega)]
      · rw [drop_end]
        simp only [List.any_nil, Bool.and_false]
        exact Ev.now _)
    (by
      intro i hi ih
      have hb := hL _ (List.getElem_mem hi)
      apply Ev.step
      · intro k
        simp only [impl_independent.l0, subset_eq, Option.bind_some]
        rw [if_pos (by rw [ints_len]; omega), if_pos (by omega), if_pos (by rw [ints_len]; omega), ints_rd L i hi, w_succ hi hl]
      · rw [drop_cons L i hi, List.any_cons]
        rw [show isAnyB (L[i] : Int) = true from by rw [isAnyB_nat]; simpa using hb, Bool.true_and, Int.toNat_natCast]
        by_cases hx : (isAnyB s && decide (subN s.toNat L[i])) = true
        · refine Ev.ifp hx ?_
          simp only [Bool.and_eq_true] at hx
          rw [hx.1, hx.2]
          exact Ev.now _
        · refine Ev.ifn hx ?_
          have : (isAnyB s && (decide (subN s.toNat L[i]) || (L.drop (i + 1)).any (fun b => decide (subN s.toNat b)))) = (isAnyB s && (L.drop (i + 1)).any (fun b => decide (subN s.toNat b))) := by
            cases h1 : isAnyB s
            · rfl
            · rw [h1] at hx
              simp only [Bool.true_and] at hx ⊢
              rw [Bool.eq_false_iff.2 hx, Bool.false_or]
          rw [this]
          exact ih)
  exact h
theorem indB_nat {L : List Nat} {s : Nat} (hs : s < 256) : indB L (s : Int) = indN L s := by
  unfold indB
  rw [isAnyB_nat, show decide (s < 256) = true from by simpa using hs, Bool.true_and, Int.toNat_natCast]
end Go.Proofs.Ytinoamehdhgpgaa.Q

namespace Go.Proofs.Ytinoamehdhgpgaa.Q
open Go Go.RowKit Go.Proofs.Ytinoamehdhgpgaa.A Go.Proofs.YtinoamehdhgpgaaW.PrintWords Go.Proofs.YtinoamehdhgpgaaW.PrintLast Go.Proofs.YtinoamehdhgpgaaW.PrintMore Go.Proofs.Ytinoamehdhgpgaa.Z
set_option linter.unusedVariables false
set_option linter.unusedSimpArgs false

theorem ints_pair {L : List Nat} (h : L.Pairwise (· < ·)) : (ints L).Pairwise (· < ·) := by
  unfold ints
  rw [List.pairwise_map]
  exact h.imp (fun hab => by omega)
end Go.Proofs.Ytinoamehdhgpgaa.Q

namespace Go.Proofs.Ytinoamehdhgpgaa.Q
open Go Go.RowKit Go.Proofs.YtinoamehdhgpgaaW.PrintWords Go.Proofs.YtinoamehdhgpgaaW.PrintLast Go.Proofs.YtinoamehdhgpgaaW.PrintMore Go.Proofs.Ytinoamehdhgpgaa.Z
set_option linter.unusedVariables false
set_option linter.unusedSimpArgs false

/-- The sets in none of which another one lies. -/
def lowN (F : List Nat) : List Nat := F.filter (fun s => !F.any (fun t => decide (t ≠ s) && decide (subN t s)))
variable {m : Nat} {I : Nat → Prop} {p : Nat → Bool}
end Go.Proofs.Ytinoamehdhgpgaa.Q

namespace Go.Proofs.Ytinoamehdhgpgaa.Q
open Go Go.RowKit Go.Proofs.Ytinoamehdhgpgaa.A Go.Proofs.YtinoamehdhgpgaaW.PrintWords Go.Proofs.YtinoamehdhgpgaaW.PrintLast Go.Proofs.YtinoamehdhgpgaaW.PrintMore Go.Proofs.Ytinoamehdhgpgaa.Z
set_option linter.unusedVariables false
set_option linter.unusedSimpArgs false

/-- All sets of a list are sets of n elements. -/
def setsB (n : Int) (l : List Int) : Bool := l.all (isSetB n)
theorem specSets_ev (n : Int) (l : List Int) (hl : l.length ≤ 17592186044416) : Ev (fun k => spec_l3Sets.f k n l) (setsB n l) := by
  have h := down (P := fun i => Ev (fun k => spec_l3Sets.l0 k n l (i : Int)) (setsB n (l.drop i))) l.length
    (by
      apply Ev.step
      · intro k
        simp only [spec_l3Sets.l0, specIsSet_eq, Option.bind_some]
        rw [if_neg (by omega)]
      · rw [drop_end]; exact Ev.now _)
    (by
      intro i hi ih
      apply Ev.step
      · intro k
        simp only [spec_l3Sets.l0, specIsSet_eq, Option.bind_some]
        rw [if_pos (by omega), if_pos (by omega), rd_getElem l i hi, w_succ hi hl]
      · rw [drop_cons l i hi]
        simp only [setsB, List.all_cons]
        by_cases hx : isSetB n l[i] = true
        · refine Ev.ifp hx ?_
          rw [hx, Bool.true_and]; exact ih
        · refine Ev.ifn hx ?_
          rw [Bool.eq_false_iff.2 hx, Bool.false_and]; exact Ev.now _)
  exact h
end Go.Proofs.Ytinoamehdhgpgaa.Q

namespace Go.Proofs.Ytinoamehdhgpgaa.Q
open Go Go.RowKit Go.Proofs.Ytinoamehdhgpgaa.A Go.Proofs.YtinoamehdhgpgaaW.PrintWords Go.Proofs.YtinoamehdhgpgaaW.PrintLast Go.Proofs.YtinoamehdhgpgaaW.PrintMore Go.Proofs.Ytinoamehdhgpgaa.Z
set_option linter.unusedVariables false
set_option linter.unusedSimpArgs false

theorem areSets_ev (l : List Int) (hl : l.length ≤ 17592186044416) : Ev (fun k => impl_areSets.f k l) (l.all isAnyB) := by
  have h := down (P := fun i => Ev (fun k => impl_areSets.l0 k l (l.length : Int) (i : Int)) ((l.drop i).all isAnyB)) l.length
    (by
      apply Ev.step
      · intro k
        simp only [impl_areSets.l0, isAny_eq, Option.bind_some]
        rw [if_neg (by omega)]
      · rw [drop_end]; exact Ev.now _)
    (by
      intro i hi ih
      apply Ev.step
      · intro k
        simp only [impl_areSets.l0, isAny_eq, Option.bind_some]
        rw [if_pos (by omega), if_pos (by omega), if_pos (by omega), rd_getElem l i hi, w_succ hi hl]
      · rw [drop_cons l i hi, List.all_cons]
        by_cases hx : isAnyB l[i] = true
        · refine Ev.ifp hx ?_
          rw [hx, Bool.true_and]; exact ih
        · refine Ev.ifn hx ?_
          rw [Bool.eq_false_iff.2 hx, Bool.false_and]; exact Ev.now _)
  exact h
theorem sortC_ints {X : List Int} {D : List Nat} (hD : D.Pairwise (· < ·)) (h : ∀ a, a ∈ X ↔ a ∈ ints D) : sortC X = ints D :=
  pair_unique (sortC_spec X).1 (ints_pair hD) (fun a => ((sortC_spec X).2 a).trans (h a))
theorem implSort_eq {F : List Nat} (hp : F.Pairwise (· < ·)) (hl : F.length < 17592186044416) : impl_SortSets.f (ints F) = some (ints F) := by
  unfold impl_SortSets.f
  rw [if_pos (by rw [ints_len]; exact hl), sortC_ints hp (fun a => Iff.rfl)]
theorem sortO_intsB {X : List Int} {D : List Nat} (hD : D.Pairwise (· < ·)) (h : ∀ a, a ∈ X ↔ a ∈ ints D) : sortO [] X = ints D :=
  pair_unique (sortO_pair X [] List.Pairwise.nil) (ints_pair hD) (fun a => by rw [sortO_mem, h]; simp)
end Go.Proofs.Ytinoamehdhgpgaa.Q

namespace Go.Proofs.Ytinoamehdhgpgaa.Q
open Go Go.RowKit Go.Proofs.Ytinoamehdhgpgaa.A Go.Proofs.YtinoamehdhgpgaaW.PrintWords Go.Proofs.YtinoamehdhgpgaaW.PrintLast Go.Proofs.YtinoamehdhgpgaaW.PrintMore Go.Proofs.Ytinoamehdhgpgaa.Z
set_option linter.unusedVariables false
set_option linter.unusedSimpArgs false

def okMinimalSets (t s : Nat) : Bool := decide (t = s) || !decide (subN t s)
theorem okMinimalSets_all (F : List Nat) (s : Nat) : F.all (fun t => okMinimalSets t s) = !F.any (fun t => decide (t ≠ s) && decide (subN t s)) := by
  induction F with
  | nil => rfl
  | cons x F ih =>
    rw [List.all_cons, List.any_cons, ih, Bool.not_or]
    congr 1
    unfold okMinimalSets
    by_cases h : x = s
    · simp [h]
    · simp [h]
theorem specMinimalSets_ev {F : List Nat} (hF : ∀ x ∈ F, x < 256) (hp : F.Pairwise (· < ·)) (hl : F.length ≤ 65536) : Ev (fun k => spec_MinimalSets.f k (ints F)) (ints (lowN F)) := by
  have hset : setsB 8 (ints F) = true := by
    unfold setsB
    rw [List.all_eq_true]
    intro x hx
    obtain ⟨t, ht, rfl⟩ := List.mem_map.1 hx
    rw [isSet8, isAnyB_nat]
    exact decide_eq_true (hF t ht)
  have hd := down (P := fun i => ∀ acc : List Nat, acc.length ≤ i → Ev (fun k => spec_MinimalSets.l0 k (ints F) (ints acc) (i : Int)) (sortO [] (ints (acc ++ (F.drop i).filter (fun s => F.all (fun t => okMinimalSets t s)))))) F.length
    (by
      intro acc ha
      apply Ev.step
      · intro k
        rw [spec_MinimalSets.l0, if_neg (by rw [ints_len]; omega)]
      · rw [drop_end, List.filter_nil, List.append_nil]
        exact Ev.bind (specSort_ev _ (by rw [ints_len]; omega)) (Ev.now _))
    (by
      intro i hi ih acc ha
      rw [drop_cons F i hi, List.filter_cons]
      have hs := hF _ (List.getElem_mem hi)
      have h1 := down (P := fun j => ∀ fine : Bool, Ev (fun k => spec_MinimalSets.l1 k (ints F) (ints acc) (i : Int) fine (j : Int)) (sortO [] (ints ((if (fine && (F.drop j).all (fun t => okMinimalSets t F[i])) = true then acc ++ [F[i]] else acc) ++ (F.drop (i + 1)).filter (fun s => F.all (fun t => okMinimalSets t s)))))) F.length
        (by
          intro fine
          apply Ev.step
          · intro k
            rw [spec_MinimalSets.l1, if_neg (by rw [ints_len]; omega)]
          · rw [drop_end]
            cases fine with
            | true =>
              refine Ev.ifp rfl (Ev.ifp (by omega) (Ev.ifp (by rw [ints_len]; omega) (Ev.ifp (by rw [ints_len]; omega) ?_)))
              rw [ints_rd F i hi, w_succ hi (by omega), if_pos (by rfl)]
              have := ih (acc ++ [F[i]]) (by rw [List.length_append, List.length_singleton]; omega)
              rw [show ints acc ++ [(F[i] : Int)] = ints (acc ++ [F[i]]) from by simp [ints]]
              exact this
            | false =>
              refine Ev.ifn (by decide) ?_
              rw [w_succ hi (by omega), if_neg (by simp)]
              exact ih acc (by omega))
        (by
          intro j hj ihj fine
          have ht := hF _ (List.getElem_mem hj)
          apply Ev.step
          · intro k
            rw [spec_MinimalSets.l1, if_pos (by rw [ints_len]; omega)]
          · rw [drop_cons F j hj, List.all_cons]
            cases fine with
            | true =>
              refine Ev.ifp rfl (Ev.ifp (by omega) (Ev.ifp (by omega) (Ev.ifp (by rw [ints_len]; omega) ?_)))
              rw [ints_rd F i hi, ints_rd F j hj, w_succ hj (by omega)]
              by_cases he : F[j] = F[i]
              · refine Ev.ifp (by rw [he]) ?_
                have := ihj true
                rw [show okMinimalSets F[j] F[i] = true from by unfold okMinimalSets; simp [he], Bool.true_and]
                exact this
              · refine Ev.ifn (fun h => he (by omega)) ?_
                have := ihj (okMinimalSets F[j] F[i])
                rw [Bool.true_and]
                have e : ((Go.bits .and .i64 (F[j] : Int) (F[i] : Int)) != (F[j] : Int)) = okMinimalSets F[j] F[i] := by
                  rw [and_nat (lt256_63 ht) (lt256_63 hs), Bool.eq_iff_iff, bne_iff_ne]
                  unfold okMinimalSets
                  rw [show decide (F[j] = F[i]) = false from decide_eq_false he, Bool.false_or, Bool.not_eq_true', decide_eq_false_iff_not]
                  unfold subN
                  skip
                  constructor
                  · intro h1 h2; exact h1 (by rw [h2])
                  · intro h1 h2; exact h1 (by omega)
                rw [e]
                exact this
            | false =>
              refine Ev.ifn (by decide) ?_
              have := ihj false
              rw [w_succ hj (by omega)]
              simpa using this)
      have h0 := h1 true
      rw [List.drop_zero, Bool.true_and] at h0
      apply Ev.step
      · intro k
        rw [spec_MinimalSets.l0, if_pos (by rw [ints_len]; omega)]
      · by_cases hg : F.all (fun t => okMinimalSets t F[i]) = true
        · rw [if_pos hg]
          rw [if_pos hg, List.append_assoc, List.singleton_append] at h0
          exact h0
        · rw [if_neg hg]
          rw [if_neg hg] at h0
          exact h0)
  have h0 := hd [] (Nat.zero_le _)
  rw [List.drop_zero, List.nil_append] at h0
  have e : lowN F = F.filter (fun s => F.all (fun t => okMinimalSets t s)) := by
    unfold lowN
    apply List.filter_congr
    intro s _
    rw [okMinimalSets_all]
  rw [← e, sortO_intsB (D := lowN F) (List.Pairwise.filter _ hp) (fun a => Iff.rfl)] at h0
  unfold spec_MinimalSets.f
  simp only [Option.bind_some]
  refine Ev.bind (specSets_ev 8 (ints F) (by rw [ints_len]; omega)) ?_
  rw [hset]
  exact Ev.ifp rfl h0

end Go.Proofs.Ytinoamehdhgpgaa.Q

namespace Go.Proofs.Ytinoamehdhgpgaa.Q
open Go Go.RowKit Go.Proofs.Ytinoamehdhgpgaa.A Go.Proofs.YtinoamehdhgpgaaW.PrintWords Go.Proofs.YtinoamehdhgpgaaW.PrintLast Go.Proofs.YtinoamehdhgpgaaW.PrintMore Go.Proofs.Ytinoamehdhgpgaa.Z
set_option linter.unusedVariables false
set_option linter.unusedSimpArgs false

theorem implMinimalSets_ev {F : List Nat} (hF : ∀ x ∈ F, x < 256) (hp : F.Pairwise (· < ·)) (hl : F.length ≤ 65536) : Ev (fun k => impl_MinimalSets.f k (ints F)) (ints (lowN F)) := by
  unfold impl_MinimalSets.f
  have hset : (ints F).all isAnyB = true := by
    rw [List.all_eq_true]
    intro x hx
    obtain ⟨t, ht, rfl⟩ := List.mem_map.1 hx
    rw [isAnyB_nat]
    exact decide_eq_true (hF t ht)
  refine Ev.bind (areSets_ev (ints F) (by rw [ints_len]; omega)) ?_
  rw [hset]
  refine Ev.ifp rfl ?_
  refine Ev.cbind (implSort_eq hp (by omega)) ?_
  have e : (ints F).filter (fun x : Int => !F.any (fun t => decide (t ≠ x.toNat) && decide (subN t x.toNat))) = ints (lowN F) := by
    unfold ints lowN
    rw [List.filter_map]
    congr 1
  rw [← e]
  refine Ev_filterO (g := fun _ s => impl_MinimalSets.p (ints F) s) (p := fun x : Int => !F.any (fun t => decide (t ≠ x.toNat) && decide (subN t x.toNat))) ?_
  intro x hx
  obtain ⟨s, hs, rfl⟩ := List.mem_map.1 hx
  unfold impl_MinimalSets.p
  have h := Ev_anyO (g := fun _ t => impl_MinimalSets.c (s : Int) t) (p := fun y : Int => decide (y.toNat ≠ s) && decide (subN y.toNat s)) (l := ints F) (fun y hy => by
    obtain ⟨t, ht, rfl⟩ := List.mem_map.1 hy
    unfold impl_MinimalSets.c
    by_cases he : t = s
    · rw [if_pos (by rw [he])]
      have : (decide ((t : Int).toNat ≠ s) && decide (subN (t : Int).toNat s)) = false := by simp [he]
      rw [this]; exact Ev.now _
    · rw [if_neg (by omega), subset_eq, isAnyB_nat, isAnyB_nat, decide_eq_true (hF t ht), decide_eq_true (hF s hs), Int.toNat_natCast, Int.toNat_natCast]
      have : decide (t ≠ s) = true := decide_eq_true he
      rw [this]
      exact Ev.now _)
  have e2 : (ints F).any (fun y : Int => decide (y.toNat ≠ s) && decide (subN y.toNat s)) = F.any (fun t => decide (t ≠ (s : Int).toNat) && decide (subN t (s : Int).toNat)) := by
    unfold ints
    rw [List.any_map]
    rfl
  rw [e2] at h
  exact Ev.bind h (Ev.now _)

end Go.Proofs.Ytinoamehdhgpgaa.Q

namespace Go.Proofs.Ytinoamehdhgpgaa.Q
open Go Go.RowKit Go.Proofs.Ytinoamehdhgpgaa.A Go.Proofs.YtinoamehdhgpgaaW.PrintWords Go.Proofs.YtinoamehdhgpgaaW.PrintLast Go.Proofs.YtinoamehdhgpgaaW.PrintMore Go.Proofs.Ytinoamehdhgpgaa.Z
set_option linter.unusedVariables false
set_option linter.unusedSimpArgs false

def depN (m : Nat) (L : List Nat) : List Nat := (List.range (2 ^ m)).filter (fun s => !indN L s)
def cirN (m : Nat) (L : List Nat) : List Nat := lowN (depN m L)
theorem depN_lt {m : Nat} {L : List Nat} {s : Nat} (h : s ∈ depN m L) : s < 2 ^ m := List.mem_range.1 (List.mem_filter.1 h).1
theorem depN_len {m : Nat} (hm : m ≤ 8) (L : List Nat) : (depN m L).length ≤ 256 := by
  unfold depN
  refine Nat.le_trans (List.length_filter_le _ _) ?_
  rw [List.length_range]; exact pow_le_256 hm
theorem depN_pair (m : Nat) (L : List Nat) : (depN m L).Pairwise (· < ·) := List.Pairwise.filter _ List.pairwise_lt_range
theorem cirN_mem {m : Nat} {L : List Nat} {s : Nat} (h : s ∈ cirN m L) : s ∈ depN m L := (List.mem_filter.1 h).1
theorem cirN_len {m : Nat} (hm : m ≤ 8) (L : List Nat) : (cirN m L).length ≤ 256 := Nat.le_trans (List.length_filter_le _ _) (depN_len hm L)
theorem fromTo_full {m : Nat} : fromTo 0 ((fullN m : Nat) : Int) = ints (List.range (2 ^ m)) := by
  have := Nat.two_pow_pos m
  unfold fromTo ints fullN
  rw [List.range_eq_range', show (((2 ^ m - 1 : Nat) : Int) + 1).toNat - (0 : Int).toNat = 2 ^ m from by omega]
  rfl
/-- What the program's setsOf computes. -/
theorem setsOf_ev {m : Nat} (hm : m ≤ 8) {g : Nat → Int → Option Bool} {p : Nat → Bool} (h : ∀ t : Nat, t < 2 ^ m → Ev (fun k => g k (t : Int)) (p t)) : Ev (fun k => setsO (g k) ((fullN m : Nat) : Int)) (ints ((List.range (2 ^ m)).filter p)) := by
  unfold setsO
  rw [fromTo_full]
  have hf : (ints (List.range (2 ^ m))).filter (fun x : Int => p x.toNat) = ints ((List.range (2 ^ m)).filter p) := by
    unfold ints
    rw [List.filter_map]
    congr 1
  rw [← hf]
  refine Ev_filterO (p := fun x : Int => p x.toNat) ?_
  intro x hx
  obtain ⟨t, ht, rfl⟩ := List.mem_map.1 hx
  rw [Int.toNat_natCast]
  exact h t (List.mem_range.1 ht)
theorem full_small {m : Nat} (hm : m ≤ 8) : 0 ≤ ((fullN m : Nat) : Int) ∧ ((fullN m : Nat) : Int) ≤ 1000 := by
  have := (full_lt hm).2
  omega
theorem specCir6_ev {m : Nat} {L : List Nat} (hM : Mat m L) (hl : L.length ≤ 17592186044416) : Ev (fun k => spec_l6Circuits.f k (m : Int) (ints L)) (ints (cirN m L)) := by
  have hm := hM.size
  have hL := hM.lt
  have hp2 := Nat.two_pow_pos m
  have h2m := pow_le_256 hm
  have hd := down (P := fun i => ∀ acc : List Nat, acc.length ≤ i → acc ++ (List.range' i (2 ^ m - i)).filter (fun s => !indN L s) = depN m L → Ev (fun k => spec_l6Circuits.l0 k (ints acc) (i : Int) (m : Int) (ints L)) (ints (cirN m L))) (2 ^ m)
    (by
      intro acc _ he
      rw [Nat.sub_self, List.range'_zero, List.filter_nil, List.append_nil] at he
      apply Ev.step
      · intro k
        simp only [spec_l6Circuits.l0, specFull_eq hm, Option.bind_some]
        rw [if_neg (by unfold fullN; omega), he]
      · exact Ev.bind (specMinimalSets_ev (fun x hx => Nat.lt_of_lt_of_le (depN_lt hx) h2m) (depN_pair m L) (Nat.le_trans (depN_len hm L) (by decide))) (Ev.now _))
    (by
      intro i hi ih acc ha he
      rw [range'_cons' hi, List.filter_cons] at he
      apply Ev.step
      · intro k
        simp only [spec_l6Circuits.l0, specFull_eq hm, Option.bind_some]
        rw [if_pos (by unfold fullN; omega), w_succ hi (by omega)]
      · refine Ev.bind (specRank_ev _ L i hl hL (by omega)) (Ev.bind (specCount_ev i (by omega)) ?_)
        have hle := rkN_le L i
        have hiff := rk_eq_iff (s := i) (by omega) hM.some
        by_cases h : indN L i = true
        · rw [if_neg (by rw [h]; decide)] at he
          have := hiff.2 h
          exact Ev.ifn (by omega) (ih acc (by omega) he)
        · rw [if_pos (by rw [Bool.eq_false_iff.2 h]; rfl)] at he
          have : rkN L i ≠ pc i := fun e => h (hiff.1 e)
          refine Ev.ifp (by omega) (Ev.ifp (by rw [ints_len]; omega) ?_)
          rw [show ints acc ++ [(i : Int)] = ints (acc ++ [i]) from by simp [ints]]
          exact ih (acc ++ [i]) (by rw [List.length_append, List.length_singleton]; omega) (by rw [List.append_assoc, List.singleton_append]; exact he))
  exact hd [] (Nat.zero_le _) (by rw [Nat.sub_zero, ← List.range_eq_range', List.nil_append]; rfl)
theorem implCir_ev {m : Nat} {L : List Nat} (hmat : matB (m : Int) (ints L) = true) (hM : Mat m L) (hl : L.length ≤ 17592186044416) : Ev (fun k => impl_Circuits.f k (m : Int) (ints L)) (ints (cirN m L)) := by
  have hm := hM.size
  have h2m := pow_le_256 hm
  unfold impl_Circuits.f
  refine Ev.bind (implMat_ev _ _ (by rw [ints_len]; exact hl)) (Ev.ifp hmat ?_)
  have hs := setsOf_ev hm (g := fun k s => impl_Circuits.c k (m : Int) (ints L) s) (p := fun s => !indN L s) (fun t ht => by
    unfold impl_Circuits.c
    have := implInd_ev (m : Int) L (t : Int) hl hM.lt
    rw [indB_nat (by omega)] at this
    exact Ev.bind this (Ev.now _))
  refine Ev.bind (Ev.cbind (implFull_eq hm) (Ev.ifp (full_small hm) hs)) ?_
  exact implMinimalSets_ev (F := depN m L) (fun x hx => Nat.lt_of_lt_of_le (depN_lt hx) h2m) (depN_pair m L) (Nat.le_trans (depN_len hm L) (by decide))

end Go.Proofs.Ytinoamehdhgpgaa.Q

namespace Go.Proofs.Ytinoamehdhgpgaa.Q
open Go Go.RowKit Go.Proofs.Ytinoamehdhgpgaa.A Go.Proofs.YtinoamehdhgpgaaW.PrintWords Go.Proofs.YtinoamehdhgpgaaW.PrintLast Go.Proofs.YtinoamehdhgpgaaW.PrintMore Go.Proofs.Ytinoamehdhgpgaa.Z
set_option linter.unusedVariables false
set_option linter.unusedSimpArgs false

def gir : Nat → List Nat → Nat
  | acc, [] => acc
  | acc, c :: cs => if acc = 0 then gir (pc c) cs else (if pc c < acc then gir (pc c) cs else gir acc cs)
theorem gir_iff (r : Int) : ∀ (cs : List Nat) (acc : Nat), (∀ c ∈ cs, 0 < pc c) → ((gir acc cs = 0 ∨ r ≤ (gir acc cs : Int)) ↔ ((acc = 0 ∨ r ≤ (acc : Int)) ∧ ∀ c ∈ cs, r ≤ (pc c : Int))) := by
  intro cs
  induction cs with
  | nil => intro acc _; simp [gir]
  | cons c cs ih =>
    intro acc h
    have hc := h c (List.mem_cons_self ..)
    have hcs : ∀ x ∈ cs, 0 < pc x := fun x hx => h x (List.mem_cons_of_mem _ hx)
    rw [List.forall_mem_cons, gir]
    by_cases h0 : acc = 0
    · rw [if_pos h0, ih _ hcs]
      constructor
      · rintro ⟨h1, h2⟩; exact ⟨.inl h0, by omega, h2⟩
      · rintro ⟨_, h1, h2⟩; exact ⟨.inr h1, h2⟩
    · rw [if_neg h0]
      by_cases h1 : pc c < acc
      · rw [if_pos h1, ih _ hcs]
        constructor
        · rintro ⟨h2, h3⟩; exact ⟨.inr (by omega), by omega, h3⟩
        · rintro ⟨_, h2, h3⟩; exact ⟨.inr h2, h3⟩
      · rw [if_neg h1, ih _ hcs]
        constructor
        · rintro ⟨h2, h3⟩; exact ⟨h2, by omega, h3⟩
        · rintro ⟨h2, _, h3⟩; exact ⟨h2, h3⟩
def paveB (n : Int) (l : List Int) : Bool := matB n l && !(cirN n.toNat (l.map Int.toNat)).any (fun c => decide ((pc c : Int) < rankB n l))
theorem girth_l0 (C : List Nat) (hl : C.length ≤ 17592186044416) (hC : ∀ c ∈ C, c < 256) : Ev (fun k => spec_GirthOf.l0 k (ints C) 0 0) (gir 0 C : Int) := by
  have hd := down (P := fun i => ∀ acc : Nat, Ev (fun k => spec_GirthOf.l0 k (ints C) (acc : Int) (i : Int)) (gir acc (C.drop i) : Int)) C.length
    (by
      intro acc
      apply Ev.step
      · intro k
        rw [spec_GirthOf.l0, if_neg (by rw [ints_len]; omega)]
      · rw [drop_end]; exact Ev.now _)
    (by
      intro i hi ih acc
      have hc := hC _ (List.getElem_mem hi)
      apply Ev.step
      · intro k
        rw [spec_GirthOf.l0, if_pos (by rw [ints_len]; omega), if_pos (by omega), ints_rd C i hi, w_succ hi hl]
      · refine Ev.bind (specCount_ev _ hc) ?_
        rw [drop_cons C i hi, gir]
        by_cases h0 : acc = 0
        · rw [if_pos h0]
          exact Ev.ifp (by omega) (ih _)
        · rw [if_neg h0]
          refine Ev.ifn (by omega) ?_
          by_cases h1 : pc C[i] < acc
          · rw [if_pos h1]; exact Ev.ifp (by omega) (ih _)
          · rw [if_neg h1]; exact Ev.ifn (by omega) (ih _))
  have := hd 0
  rw [List.drop_zero] at this
  exact this
theorem specGirth_ev {m : Nat} {L : List Nat} (hmat : matB (m : Int) (ints L) = true) (hM : Mat m L) (hl : L.length ≤ 17592186044416) : Ev (fun k => spec_GirthOf.f k (m : Int) (ints L)) (gir 0 (cirN m L) : Int) := by
  unfold spec_GirthOf.f spec_Circuits.f
  have hlen := cirN_len hM.size L
  refine Ev.bind (Ev.bind (specMat_ev _ _ (by rw [ints_len]; exact hl)) (Ev.ifp hmat (Ev.bind (specCir6_ev hM hl) (Ev.now _)))) (girth_l0 _ (by omega) (fun c hc => ?_))
  exact Nat.lt_of_lt_of_le (depN_lt (cirN_mem hc)) (pow_le_256 hM.size)
theorem specGirth_no {n : Int} {l : List Int} (h : ¬ matB n l = true) (hl : l.length ≤ 17592186044416) : Ev (fun k => spec_GirthOf.f k n l) 0 := by
  unfold spec_GirthOf.f spec_Circuits.f
  refine Ev.bind (Ev.bind (specMat_ev _ _ hl) (Ev.ifn h (Ev.now _))) ?_
  exact girth_l0 [] (Nat.zero_le _) (fun c hc => by simp at hc)
theorem cirN_pos {m : Nat} {L : List Nat} (hne : L ≠ []) {c : Nat} (h : c ∈ cirN m L) (hc256 : c < 256) : 0 < pc c := by
  have hd := List.mem_filter.1 (cirN_mem h)
  rcases Nat.eq_zero_or_pos (pc c) with h0 | h0
  · rw [pc_zero_iff hc256] at h0
    subst h0
    obtain ⟨b, hb⟩ := List.exists_mem_of_ne_nil L hne
    have : indN L 0 = true := by
      unfold indN
      exact List.any_eq_true.2 ⟨b, hb, decide_eq_true (subN_bit.2 (fun i hi => by simp at hi))⟩
    rw [this] at hd
    exact absurd hd.2 (by decide)
  · exact h0
theorem specPave_ev (n : Int) (l : List Int) (hl : l.length ≤ 17592186044416) : Ev (fun k => spec_IsPaving.f k n l) (paveB n l) := by
  unfold spec_IsPaving.f paveB
  by_cases h : matB n l = true
  · have hmat := h
    obtain ⟨m, L, rfl, rfl, hM, _⟩ := matB_mat h
    rw [show (ints L).map Int.toNat = L from toNat_map L, Int.toNat_natCast, h, Bool.true_and]
    have hl' : L.length ≤ 17592186044416 := by rw [ints_len] at hl; exact hl
    refine Ev.bind (specGirth_ev hmat hM hl') (Ev.bind (specMat_ev _ _ hl) (Ev.ifp h ?_))
    have hpos : ∀ c ∈ cirN m L, 0 < pc c := fun c hc => cirN_pos hM.some hc (Nat.lt_of_lt_of_le (depN_lt (cirN_mem hc)) (pow_le_256 hM.size))
    have hiff := gir_iff (rankB (m : Int) (ints L)) (cirN m L) 0 hpos
    have hall : (!(cirN m L).any (fun c => decide ((pc c : Int) < rankB (m : Int) (ints L)))) = true ↔ ∀ c ∈ cirN m L, rankB (m : Int) (ints L) ≤ (pc c : Int) := by
      rw [Bool.not_eq_true', ← Bool.not_eq_true, List.any_eq_true]
      constructor
      · intro h c hc
        by_cases hq : rankB (m : Int) (ints L) ≤ (pc c : Int)
        · exact hq
        · exact absurd ⟨c, hc, decide_eq_true (by omega)⟩ h
      · rintro h ⟨c, hc, hq⟩
        have := h c hc
        have := of_decide_eq_true hq
        omega
    by_cases h0 : gir 0 (cirN m L) = 0
    · have hv := hall.2 (hiff.1 (.inl h0)).2
      rw [hv]
      exact Ev.ifp (by omega) (Ev.now _)
    · refine Ev.ifn (by omega) (Ev.bind (specRankOf_ev _ _ hl) ?_)
      have e : decide (((gir 0 (cirN m L) : Nat) : Int) ≥ rankB (m : Int) (ints L)) = !(cirN m L).any (fun c => decide ((pc c : Int) < rankB (m : Int) (ints L))) := by
        rw [Bool.eq_iff_iff, decide_eq_true_eq, hall]
        constructor
        · intro hq; exact (hiff.1 (.inr hq)).2
        · intro hq
          rcases hiff.2 ⟨.inl rfl, hq⟩ with h1 | h1
          · exact absurd h1 h0
          · exact h1
      rw [e]; exact Ev.now _
  · rw [Bool.eq_false_iff.2 h, Bool.false_and]
    exact Ev.bind (specGirth_no h hl) (Ev.bind (specMat_ev _ _ hl) (Ev.ifn h (Ev.now _)))
theorem implPave_ev (n : Int) (l : List Int) (hl : l.length ≤ 17592186044416) : Ev (fun k => impl_IsPaving.f k n l) (paveB n l) := by
  unfold impl_IsPaving.f paveB
  refine Ev.bind (implRankOf_ev n l hl) (Ev.bind (implMat_ev n l hl) ?_)
  by_cases h : matB n l = true
  · have hmat := h
    obtain ⟨m, L, rfl, rfl, hM, _⟩ := matB_mat h
    rw [show (ints L).map Int.toNat = L from toNat_map L, Int.toNat_natCast, h, Bool.true_and]
    refine Ev.ifp rfl (Ev.bind (implCir_ev hmat hM (by rw [ints_len] at hl; exact hl)) ?_)
    have ha := Ev_anyO (g := fun _ c => impl_IsPaving.c (rankB (m : Int) (ints L)) c) (p := fun c : Int => decide ((pc c.toNat : Int) < rankB (m : Int) (ints L))) (l := ints (cirN m L)) (fun y hy => by
      obtain ⟨c, hc, rfl⟩ := List.mem_map.1 hy
      apply Ev.const
      unfold impl_IsPaving.c
      rw [implCount_eq c (Nat.lt_of_lt_of_le (depN_lt (cirN_mem hc)) (pow_le_256 hM.size)), Option.bind_some, Int.toNat_natCast])
    refine Ev.bind ha ?_
    have e : (ints (cirN m L)).any (fun c : Int => decide ((pc c.toNat : Int) < rankB (m : Int) (ints L))) = (cirN m L).any (fun c => decide ((pc c : Int) < rankB (m : Int) (ints L))) := by
      unfold ints
      rw [List.any_map]
      rfl
    rw [e]; exact Ev.now _
  · rw [Bool.eq_false_iff.2 h, Bool.false_and]
    exact Ev.ifn (by simp) (Ev.now _)

end Go.Proofs.Ytinoamehdhgpgaa.Q

namespace Go.Proofs.Ytinoamehdhgpgaa.Pure
open Go Go.RowKit Go.Proofs.Ytinoamehdhgpgaa.A Go.Proofs.YtinoamehdhgpgaaW.PrintWords Go.Proofs.YtinoamehdhgpgaaW.PrintLast Go.Proofs.YtinoamehdhgpgaaW.PrintMore Go.Proofs.Ytinoamehdhgpgaa.Z Go.Proofs.Ytinoamehdhgpgaa.Q
set_option linter.unusedVariables false
set_option linter.unusedSimpArgs false

theorem FnExactIsPaving : laws_FnExactIsPaving.Pure := by
  intro n l hn hm hw
  unfold laws_FnExactIsPaving.f
  refine Ev.rounds ?_
  refine Ev.cbind (szMat_eq n l 1048576 (by omega) (by omega) hm) ?_
  by_cases h1 : (l.length : Int) > 1048576
  · rw [if_pos h1]
    exact Ev.ifp (by decide) (Ev.now _)
  rw [if_neg h1]
  refine Ev.ifn (by omega) ?_
  have hl : l.length ≤ 17592186044416 := by omega
  refine Ev.bind (toMat_ev n l hl) (Ev.bind (specPave_ev n l hl) (Ev.bind (toMat_ev n l hl) (Ev.bind (implPave_ev n l hl) ?_)))
  exact Ev.ifn (by simp) (Ev.bind (toMat_ev n l hl) (Ev.bind (eqMat_ev n l hl) (Ev.ifp rfl (Ev.now _))))

end Go.Proofs.Ytinoamehdhgpgaa.Pure
