/- The pure side of the law FnExactCutOf: what the Lean functions of the print compute, and that the law holds of them. Conditions: those in each lemma. -/
import Derived.Test.YtinoamehdhgpgaaMFnExactCutOf1
import Derived.Test.YtinoamehdhgpgaaMFnExactCutOf2
import Derived.Test.YtinoamehdhgpgaaMFnExactCutOf3
import Derived.Test.YtinoamehdhgpgaaMFnExactCutOf4
import Derived.Test.YtinoamehdhgpgaaMFnExactCutOf5
import Derived.Test.YtinoamehdhgpgaaMFnExactCutOf6
import Derived.Test.YtinoamehdhgpgaaMFnExactCutOf7
import Derived.Test.YtinoamehdhgpgaaMFnExactCutOfq0
namespace Go.Proofs.Ytinoamehdhgpgaa.A
open Go.RowKit
def laws_FnExactCutOf.Pure : Prop := ∀ (a0_0 : Int) (l0_1 : List Int), (Lit.int .i64 a0_0).wf = true → l0_1.length ≤ maxLen → (∀ x ∈ l0_1, (Lit.int .i64 x).wf = true) → ∃ k, laws_FnExactCutOf.f k a0_0 l0_1 = some true
end Go.Proofs.Ytinoamehdhgpgaa.A

namespace Go.Proofs.Ytinoamehdhgpgaa.Q
open Go Go.RowKit Go.Proofs.Ytinoamehdhgpgaa.A Go.Proofs.YtinoamehdhgpgaaW.PrintWords Go.Proofs.YtinoamehdhgpgaaW.PrintLast Go.Proofs.YtinoamehdhgpgaaW.PrintMore Go.Proofs.Ytinoamehdhgpgaa.Z
set_option linter.unusedVariables false
set_option linter.unusedSimpArgs false

theorem toInt_l0 (l : List Int) (hl : l.length ≤ 17592186044416) : ∀ (rest pre : List Int), l = pre ++ rest → Ev (fun k => laws_toIntS.l0 k l (pre ++ List.replicate rest.length 0) (pre.length : Int)) l := by
  intro rest
  induction rest with
  | nil =>
    intro pre h
    apply Ev.step
    · intro k
      simp only [laws_toIntS.l0]
      rw [if_neg (by rw [h]; simp)]
    · subst h; simpa using Ev.now _
  | cons x rest ih =>
    intro pre h
    have hlen : (pre.length : Int) < (l.length : Int) := by rw [h]; simp; omega
    apply Ev.step
    · intro k
      simp only [laws_toIntS.l0]
      rw [if_pos hlen, if_pos (by omega), if_pos (by simp; omega)]
    · have := ih (pre ++ [x]) (by rw [h]; simp)
      have e : wrap64 ((pre.length : Int) + 1) = ((pre ++ [x]).length : Int) := by
        rw [wrap64_of (by omega) (by omega)]; simp
      rw [e]
      have e2 : (pre ++ List.replicate (x :: rest).length 0).set (pre.length : Int).toNat (rd l (pre.length : Int)) = (pre ++ [x]) ++ List.replicate rest.length 0 := by
        have : rd l (pre.length : Int) = x := by rw [h]; exact rd_mid _ _ _
        rw [this]
        simp [List.replicate_succ]
      rw [e2]
      exact this
theorem toInt_ev (l : List Int) (hl : l.length ≤ 17592186044416) : Ev (fun k => laws_toIntS.f k l) l := by
  unfold laws_toIntS.f
  refine Ev.ifp (by omega) (Ev.ifp (by simp; omega) ?_)
  simpa using toInt_l0 l hl l [] rfl
theorem eqInt_l0 (l : List Int) (hl : l.length ≤ 17592186044416) (l' : List Int) (hll : l'.length = l.length) : ∀ (rest rest' pre : List Int), l = pre ++ rest → l' = pre ++ rest' → Ev (fun k => laws_eqIntS.l0 k l l' (pre.length : Int)) (decide (l = l')) := by
  intro rest
  induction rest with
  | nil =>
    intro rest' pre h h'
    have : rest' = [] := by
      apply List.eq_nil_of_length_eq_zero
      have h1 := congrArg List.length h
      have h2 := congrArg List.length h'
      rw [List.length_append] at h1 h2
      simp only [List.length_nil] at h1
      omega
    subst this
    apply Ev.step
    · intro k
      simp only [laws_eqIntS.l0]
      rw [if_neg (by rw [h]; simp)]
    · have : l = l' := by rw [h, h']
      simpa [this] using Ev.now _
  | cons x rest ih =>
    intro rest' pre h h'
    have hlen : (pre.length : Int) < (l.length : Int) := by rw [h]; simp; omega
    cases rest' with
    | nil => exact absurd hll (by rw [h, h']; simp)
    | cons y rest' =>
    have e1 : rd l (pre.length : Int) = x := by rw [h]; exact rd_mid _ _ _
    have e2 : rd l' (pre.length : Int) = y := by rw [h']; exact rd_mid _ _ _
    by_cases hxy : x = y
    · subst hxy
      apply Ev.step
      · intro k
        simp only [laws_eqIntS.l0]
        rw [if_pos hlen, if_pos (by omega), if_pos (by omega), if_pos (by rw [e1, e2])]
      · have := ih rest' (pre ++ [x]) (by rw [h]; simp) (by rw [h']; simp)
        have e : wrap64 ((pre.length : Int) + 1) = ((pre ++ [x]).length : Int) := by
          rw [wrap64_of (by omega) (by omega)]; simp
        rw [e]
        exact this
    · apply Ev.step
      · intro k
        simp only [laws_eqIntS.l0]
        rw [if_pos hlen, if_pos (by omega), if_pos (by omega), if_neg (by rw [e1, e2]; exact hxy)]
      · have : l ≠ l' := by rw [h, h']; simp [hxy]
        simpa [this] using Ev.now _
theorem eqInt_ev (l l' : List Int) (hl : l.length ≤ 17592186044416) : Ev (fun k => laws_eqIntS.f k l l') (decide (l = l')) := by
  unfold laws_eqIntS.f
  by_cases h : (l.length : Int) = (l'.length : Int)
  · refine Ev.ifp h ?_
    exact eqInt_l0 l hl l' (by omega) l l' [] rfl rfl
  · refine Ev.ifn h ?_
    have : l ≠ l' := by rintro rfl; exact h rfl
    simpa [this] using Ev.now _
theorem eqInt_self (l : List Int) (hl : l.length ≤ 17592186044416) : Ev (fun k => laws_eqIntS.f k l l) true := by simpa using eqInt_ev l l hl

end Go.Proofs.Ytinoamehdhgpgaa.Q

namespace Go.Proofs.Ytinoamehdhgpgaa.Q
open Go Go.RowKit Go.Proofs.Ytinoamehdhgpgaa.A Go.Proofs.YtinoamehdhgpgaaW.PrintWords Go.Proofs.YtinoamehdhgpgaaW.PrintLast Go.Proofs.YtinoamehdhgpgaaW.PrintMore Go.Proofs.Ytinoamehdhgpgaa.Z
set_option linter.unusedVariables false
set_option linter.unusedSimpArgs false

theorem szMat_eq (n : Int) (l : List Int) (left : Int) (h0 : 0 ≤ left) (h1 : left ≤ 1048576) (hl : l.length ≤ maxLen) : laws_szMatroid.f n l left = some (if (l.length : Int) > left then -1 else left - (l.length : Int)) := by
  unfold maxLen at hl
  unfold laws_szMatroid.f laws_szIntS.f
  rw [wrap64_of (by omega) (by omega)]
  by_cases h : (l.length : Int) > left
  · rw [if_pos h, if_pos (by omega), Option.bind_some, if_pos (by decide)]
  · rw [if_neg h, if_neg (by omega), Option.bind_some, if_neg (by omega)]
theorem toMat_ev (n : Int) (l : List Int) (hl : l.length ≤ 17592186044416) : Ev (fun k => laws_toMatroid.f k n l) (n, l) := by
  unfold laws_toMatroid.f
  exact Ev.bind (toInt_ev l hl) (Ev.now _)
theorem eqMat_ev (n : Int) (l : List Int) (hl : l.length ≤ 17592186044416) : Ev (fun k => laws_eqMatroid.f k n l n l) true := by
  unfold laws_eqMatroid.f
  refine Ev.ifp rfl (Ev.bind (eqInt_self l hl) (Ev.ifp rfl (Ev.now _)))

end Go.Proofs.Ytinoamehdhgpgaa.Q

namespace Go.Proofs.Ytinoamehdhgpgaa.Q
open Go Go.RowKit Go.Proofs.Ytinoamehdhgpgaa.A Go.Proofs.YtinoamehdhgpgaaW.PrintWords Go.Proofs.YtinoamehdhgpgaaW.PrintLast Go.Proofs.YtinoamehdhgpgaaW.PrintMore Go.Proofs.Ytinoamehdhgpgaa.Z
set_option linter.unusedVariables false
set_option linter.unusedSimpArgs false

/-- n numbers that go up by one from a. -/
def marks (a : Int) (n : Nat) : List Int := (List.range n).map (fun i : Nat => a + (i : Int))
theorem marks_len (a : Int) (n : Nat) : (marks a n).length = n := by simp [marks]
theorem marks_succ (a : Int) (n : Nat) : marks a (n + 1) = marks a n ++ [a + (n : Int)] := by simp [marks, List.range_succ]
theorem marks_get (a : Int) (n i : Nat) (h : i < n) : rd (marks a n) (i : Int) = a + (i : Int) := by
  rw [rd_getElem _ i (by rw [marks_len]; exact h)]
  simp [marks]
theorem mark_ev (l : List Int) (a : Int) (h0 : 0 ≤ a) (h1 : a ≤ 1000000000000000) (hl : l.length ≤ 17592186044416) : Ev (fun k => laws_markIntS.f k l a) (a + (l.length : Int), marks a l.length) := by
  have h := down (P := fun i => Ev (fun k => laws_markIntS.l0 k (marks a i ++ l.drop i) (a + (i : Int)) (i : Int)) (a + (l.length : Int), marks a l.length)) l.length
    (by
      apply Ev.step
      · intro k
        simp only [laws_markIntS.l0]
        rw [if_neg (by rw [List.length_append, marks_len, List.length_drop]; omega)]
      · rw [drop_end, List.append_nil]
        exact Ev.now _)
    (by
      intro i hi ih
      apply Ev.step
      · intro k
        simp only [laws_markIntS.l0]
        rw [if_pos (by rw [List.length_append, marks_len, List.length_drop]; omega), if_pos (by omega), w_succ hi hl, wrap64_of (by omega) (by omega)]
      · have e : (marks a i ++ l.drop i).set (i : Int).toNat (a + (i : Int)) = marks a (i + 1) ++ l.drop (i + 1) := by
          rw [drop_cons l i hi, marks_succ, Int.toNat_natCast, List.set_append_right _ _ (by rw [marks_len]; omega), marks_len, Nat.sub_self, List.set_cons_zero, List.append_assoc]
          rfl
        rw [e, show a + (i : Int) + 1 = a + ((i + 1 : Nat) : Int) from by omega]
        exact ih)
  have e : marks a 0 ++ l.drop 0 = l := by simp [marks]
  rw [e, show a + ((0 : Nat) : Int) = a from by omega] at h
  exact h
theorem held_ev (n : Nat) (a : Int) (h0 : 0 ≤ a) (h1 : a ≤ 1000000000000000) (hl : n ≤ 17592186044416) : Ev (fun k => laws_heldIntS.f k (marks a n) a) (a + (n : Int)) := by
  have h := down (P := fun i => Ev (fun k => laws_heldIntS.l0 k (marks a n) (a + (i : Int)) (i : Int)) (a + (n : Int))) n
    (by
      apply Ev.step
      · intro k
        simp only [laws_heldIntS.l0]
        rw [if_neg (by rw [marks_len]; omega)]
      · exact Ev.now _)
    (by
      intro i hi ih
      apply Ev.step
      · intro k
        simp only [laws_heldIntS.l0]
        rw [if_pos (by rw [marks_len]; omega), if_pos (by omega), if_pos (marks_get a n i hi), w_succ hi hl, wrap64_of (by omega) (by omega)]
      · rw [show a + (i : Int) + 1 = a + ((i + 1 : Nat) : Int) from by omega]
        exact ih)
  rw [show a + ((0 : Nat) : Int) = a from by omega] at h
  exact h

end Go.Proofs.Ytinoamehdhgpgaa.Q

namespace Go.Proofs.Ytinoamehdhgpgaa.Q
open Go Go.RowKit Go.Proofs.Ytinoamehdhgpgaa.A Go.Proofs.YtinoamehdhgpgaaW.PrintWords Go.Proofs.YtinoamehdhgpgaaW.PrintLast Go.Proofs.YtinoamehdhgpgaaW.PrintMore Go.Proofs.Ytinoamehdhgpgaa.Z
set_option linter.unusedVariables false
set_option linter.unusedSimpArgs false

theorem l1In_eq (a b c : Int) : spec_l1In.f a b c = some (decide (b ≤ a) && decide (a ≤ c)) := by
  unfold spec_l1In.f
  by_cases h : a ≥ b
  · rw [if_pos h]; simp [h]
  · rw [if_neg h]; simp only [ge_iff_le] at h; simp [h]
theorem isSize_eq (a : Int) : impl_isSize.f a = some (decide (0 ≤ a) && decide (a ≤ 8)) := by
  unfold impl_isSize.f
  by_cases h : a ≥ 0
  · rw [if_pos h]; simp [h]
  · rw [if_neg h]; simp only [ge_iff_le] at h; simp [h]
theorem specIsSet_eq (n s : Int) : spec_IsSet.f n s = some (isSetB n s) := by
  unfold spec_IsSet.f
  rw [l1In_eq, Option.bind_some]
  unfold isSetB
  by_cases h : (decide (0 ≤ n) && decide (n ≤ 8)) = true
  · rw [if_pos h, if_pos (u64_nonneg _), l1In_eq, Option.bind_some, h, Bool.true_and]
    simp only [Bool.and_eq_true, decide_eq_true_eq] at h
    obtain ⟨m, rfl⟩ := Int.eq_ofNat_of_zero_le h.1
    have h8 : m ≤ 8 := by omega
    rw [u64_of (by omega) (by omega), shl_one (by omega)]
    have hp := pow_le_256 h8
    rw [Int.toNat_natCast]
    have e : (2 : Int) ^ m = ((2 ^ m : Nat) : Int) := by simp
    rw [e]
    generalize 2 ^ m = q at hp
    rw [wrap64_of (by omega) (by omega)]
    congr 2
    rw [Bool.eq_iff_iff]
    simp only [decide_eq_true_eq]
    omega
  · rw [if_neg h, Bool.eq_false_iff.2 h, Bool.false_and]
theorem implIsSet_eq (n s : Int) : impl_IsSet.f n s = some (isSetB n s) := by
  unfold impl_IsSet.f
  rw [isSize_eq, Option.bind_some]
  unfold isSetB
  by_cases h : (decide (0 ≤ n) && decide (n ≤ 8)) = true
  · rw [if_pos h, h, Bool.true_and]
    simp only [Bool.and_eq_true, decide_eq_true_eq] at h
    by_cases hs : s ≥ 0
    · rw [if_pos hs, if_pos h.1]
      obtain ⟨m, rfl⟩ := Int.eq_ofNat_of_zero_le h.1
      rw [shl_one (by omega), Int.toNat_natCast]
      have e : ((2 ^ m : Nat) : Int) = 2 ^ m := by simp
      rw [e]
      have : decide (0 ≤ s) = true := by simpa using hs
      rw [this, Bool.true_and]
    · rw [if_neg hs]
      have : decide (0 ≤ s) = false := by simpa using hs
      rw [this, Bool.false_and]
  · rw [if_neg h, Bool.eq_false_iff.2 h, Bool.false_and]
theorem isSet8 (s : Int) : isSetB 8 s = isAnyB s := by
  unfold isSetB isAnyB
  rw [Bool.eq_iff_iff]
  simp
theorem isAny_eq (s : Int) : impl_isAny.f s = some (isAnyB s) := by
  unfold impl_isAny.f isAnyB
  by_cases h : s ≥ 0
  · rw [if_pos h]; simp [h]
  · rw [if_neg h]; simp only [ge_iff_le] at h; simp [h]
theorem isAnyB_lt {s : Int} (h : isAnyB s = true) : ∃ t : Nat, s = t ∧ t < 256 := by
  simp only [isAnyB, Bool.and_eq_true, decide_eq_true_eq] at h
  obtain ⟨t, rfl⟩ := Int.eq_ofNat_of_zero_le h.1
  exact ⟨t, rfl, by omega⟩
theorem implHas_eq (s e : Int) : impl_HasElement.f s e = some (hasB s e) := by
  unfold impl_HasElement.f hasB
  rw [isAny_eq, Option.bind_some]
  by_cases h : isAnyB s = true
  · rw [if_pos h, h, Bool.true_and]
    obtain ⟨t, rfl, ht⟩ := isAnyB_lt h
    by_cases h0 : e ≥ 0
    · rw [if_pos h0]
      obtain ⟨m, rfl⟩ := Int.eq_ofNat_of_zero_le h0
      by_cases h8 : (m : Int) < 8
      · rw [if_pos h8, if_pos h0, bit_nat (lt256_63 ht)]
        simp [h8]
      · rw [if_neg h8]; simp [h8]
    · rw [if_neg h0]; simp only [ge_iff_le] at h0; simp [h0]
  · rw [if_neg h, Bool.eq_false_iff.2 h]; simp
theorem l2Has_eq {s e : Nat} (hs : s < 2 ^ 63) (he : e < 2 ^ 63) : spec_l2Has.f (s : Int) (e : Int) = some (s.testBit e) := by
  unfold spec_l2Has.f
  rw [if_pos (u64_nonneg _), u64_of (by omega) (by omega), bit_nat hs]
theorem specHas_eq (s e : Int) : spec_HasElement.f s e = some (hasB s e) := by
  unfold spec_HasElement.f hasB
  rw [specIsSet_eq, Option.bind_some, isSet8]
  by_cases h : isAnyB s = true
  · rw [if_pos h, h, Bool.true_and, l1In_eq, Option.bind_some]
    obtain ⟨t, rfl, ht⟩ := isAnyB_lt h
    by_cases h0 : (decide (0 ≤ e) && decide (e ≤ 7)) = true
    · rw [if_pos h0]
      simp only [Bool.and_eq_true, decide_eq_true_eq] at h0
      obtain ⟨m, rfl⟩ := Int.eq_ofNat_of_zero_le h0.1
      rw [l2Has_eq (lt256_63 ht) (by omega), Option.bind_some]
      have : decide ((m : Int) < 8) = true := by simp; omega
      simp [this]
    · rw [if_neg h0]
      have : (decide (0 ≤ e) && decide (e < 8)) = false := by
        rw [Bool.eq_false_iff]
        intro hc
        apply h0
        simp only [Bool.and_eq_true, decide_eq_true_eq] at *
        omega
      rw [this, Bool.false_and]
  · rw [if_neg h, Bool.eq_false_iff.2 h]; simp

end Go.Proofs.Ytinoamehdhgpgaa.Q

namespace Go.Proofs.Ytinoamehdhgpgaa.Q
open Go Go.RowKit Go.Proofs.Ytinoamehdhgpgaa.A Go.Proofs.YtinoamehdhgpgaaW.PrintWords Go.Proofs.YtinoamehdhgpgaaW.PrintLast Go.Proofs.YtinoamehdhgpgaaW.PrintMore Go.Proofs.Ytinoamehdhgpgaa.Z
set_option linter.unusedVariables false
set_option linter.unusedSimpArgs false

def famG (n : Int) : Option Int → List Int → Bool
  | _, [] => decide (0 ≤ n) && decide (n ≤ 8)
  | p, x :: xs => isSetB n x && ((match p with | none => true | some q => decide (q < x)) && famG n (some x) xs)
/-- A family: sets of n elements, strictly ascending. -/
def famB (n : Int) (l : List Int) : Bool := famG n none l
def prevO (l : List Int) (i : Nat) : Option Int := if i = 0 then none else some (rd l ((i - 1 : Nat) : Int))
theorem prevO_succ (l : List Int) (i : Nat) (hi : i < l.length) : prevO l (i + 1) = some l[i] := by
  unfold prevO
  rw [if_neg (by omega), Nat.add_sub_cancel, rd_getElem l i hi]
theorem specFam_ev (n : Int) (l : List Int) (hl : l.length ≤ 17592186044416) : Ev (fun k => spec_IsFamily.f k n l) (famB n l) := by
  have h := down (P := fun i => Ev (fun k => spec_IsFamily.l0 k n l (i : Int)) (famG n (prevO l i) (l.drop i))) l.length
    (by
      apply Ev.step
      · intro k
        simp only [spec_IsFamily.l0, l1In_eq, Option.bind_some]
        rw [if_neg (by omega)]
      · rw [drop_end]; exact Ev.now _)
    (by
      intro i hi ih
      apply Ev.step
      · intro k
        simp only [spec_IsFamily.l0, specIsSet_eq, Option.bind_some]
        rw [if_pos (by omega), if_pos (by omega), rd_getElem l i hi, w_succ hi hl]
      · rw [drop_cons l i hi]
        rw [prevO_succ l i hi] at ih
        simp only [famG]
        by_cases hx : isSetB n l[i] = true
        · refine Ev.ifp hx ?_
          rw [hx, Bool.true_and]
          by_cases h0 : (i : Int) > 0
          · refine Ev.ifp h0 ?_
            rw [wrap64_of (by omega) (by omega), show (i : Int) - 1 = ((i - 1 : Nat) : Int) from by omega]
            refine Ev.ifp (by omega) (Ev.ifp (by omega) ?_)
            unfold prevO
            rw [if_neg (by omega)]
            by_cases hq : rd l ((i - 1 : Nat) : Int) ≥ l[i]
            · refine Ev.ifp hq ?_
              simp only []
              rw [show decide (rd l ((i - 1 : Nat) : Int) < l[i]) = false from by simpa using hq, Bool.false_and]
              exact Ev.now _
            · refine Ev.ifn hq ?_
              simp only []
              rw [show decide (rd l ((i - 1 : Nat) : Int) < l[i]) = true from by simpa using hq, Bool.true_and]
              exact ih
          · refine Ev.ifn h0 ?_
            unfold prevO
            rw [if_pos (by omega)]
            simp only [Bool.true_and]
            exact ih
        · refine Ev.ifn hx ?_
          rw [Bool.eq_false_iff.2 hx, Bool.false_and]; exact Ev.now _)
  exact h
theorem implFam_ev (n : Int) (l : List Int) (hl : l.length ≤ 17592186044416) : Ev (fun k => impl_IsFamily.f k n l) (famB n l) := by
  have h := down (P := fun i => Ev (fun k => impl_IsFamily.l0 k n l l (l.length : Int) (i : Int)) (famG n (prevO l i) (l.drop i))) l.length
    (by
      apply Ev.step
      · intro k
        simp only [impl_IsFamily.l0, isSize_eq, Option.bind_some]
        rw [if_neg (by omega)]
      · rw [drop_end]; exact Ev.now _)
    (by
      intro i hi ih
      apply Ev.step
      · intro k
        simp only [impl_IsFamily.l0, implIsSet_eq, Option.bind_some]
        rw [if_pos (by omega), if_pos (by omega), if_pos (by omega), rd_getElem l i hi, w_succ hi hl]
      · rw [drop_cons l i hi]
        rw [prevO_succ l i hi] at ih
        simp only [famG]
        by_cases hx : isSetB n l[i] = true
        · refine Ev.ifp hx ?_
          rw [hx, Bool.true_and]
          by_cases h0 : (i : Int) > 0
          · refine Ev.ifp h0 ?_
            rw [wrap64_of (by omega) (by omega), show (i : Int) - 1 = ((i - 1 : Nat) : Int) from by omega]
            refine Ev.ifp (by omega) (Ev.ifp (by omega) ?_)
            unfold prevO
            rw [if_neg (by omega)]
            by_cases hq : l[i] ≤ rd l ((i - 1 : Nat) : Int)
            · refine Ev.ifp hq ?_
              simp only []
              rw [show decide (rd l ((i - 1 : Nat) : Int) < l[i]) = false from by simpa using hq, Bool.false_and]
              exact Ev.now _
            · refine Ev.ifn hq ?_
              simp only []
              rw [show decide (rd l ((i - 1 : Nat) : Int) < l[i]) = true from by simpa using hq, Bool.true_and]
              exact ih
          · refine Ev.ifn h0 ?_
            unfold prevO
            rw [if_pos (by omega)]
            simp only [Bool.true_and]
            exact ih
        · refine Ev.ifn hx ?_
          rw [Bool.eq_false_iff.2 hx, Bool.false_and]; exact Ev.now _)
  exact h
theorem famG_facts (n : Int) : ∀ (l : List Int) (p : Option Int), famG n p l = true → (0 ≤ n ∧ n ≤ 8) ∧ (∀ x ∈ l, isSetB n x = true) ∧ l.Pairwise (· < ·) ∧ (∀ q, p = some q → ∀ x ∈ l, q < x) := by
  intro l
  induction l with
  | nil =>
    intro p h
    simp only [famG, Bool.and_eq_true, decide_eq_true_eq] at h
    exact ⟨h, fun x hx => by simp at hx, List.Pairwise.nil, fun q _ x hx => by simp at hx⟩
  | cons y l ih =>
    intro p h
    simp only [famG, Bool.and_eq_true] at h
    obtain ⟨h1, h2, h3⟩ := h
    obtain ⟨i1, i2, i3, i4⟩ := ih _ h3
    refine ⟨i1, fun x hx => ?_, List.pairwise_cons.2 ⟨fun x hx => i4 y rfl x hx, i3⟩, fun q hq x hx => ?_⟩
    · rcases List.mem_cons.1 hx with rfl | hx
      · exact h1
      · exact i2 x hx
    · subst hq
      simp only [decide_eq_true_eq] at h2
      rcases List.mem_cons.1 hx with rfl | hx
      · exact h2
      · exact Int.lt_trans h2 (i4 y rfl x hx)
/-- A family as numbers: its size, its sets. -/
theorem famB_nat {n : Int} {l : List Int} (h : famB n l = true) : ∃ (m : Nat) (L : List Nat), n = m ∧ m ≤ 8 ∧ l = L.map (fun x : Nat => (x : Int)) ∧ (∀ x ∈ L, x < 2 ^ m) ∧ L.Pairwise (· < ·) := by
  obtain ⟨h1, h2, h3, _⟩ := famG_facts n l none h
  obtain ⟨m, rfl⟩ := Int.eq_ofNat_of_zero_le h1.1
  have hnn : ∀ x ∈ l, 0 ≤ x := fun x hx => by
    obtain ⟨_, t, _, rfl, _⟩ := isSetB_lt (h2 x hx)
    omega
  have hl : l = (l.map Int.toNat).map (fun x : Nat => (x : Int)) := by
    rw [List.map_map]
    conv => lhs; rw [← List.map_id l]
    apply List.map_congr_left
    intro x hx
    have := hnn x hx
    simp only [id, Function.comp]
    omega
  refine ⟨m, l.map Int.toNat, rfl, by omega, hl, fun x hx => ?_, ?_⟩
  · obtain ⟨y, hy, rfl⟩ := List.mem_map.1 hx
    obtain ⟨m', t, hm, rfl, _, ht, _⟩ := isSetB_lt (h2 y hy)
    have : m = m' := by omega
    subst this
    rw [Int.toNat_natCast]; exact ht
  · rw [List.pairwise_map]
    exact h3.imp_of_mem (fun {a b} ha hb hab => by
      have := hnn a ha
      have := hnn b hb
      omega)

end Go.Proofs.Ytinoamehdhgpgaa.Q

namespace Go.Proofs.Ytinoamehdhgpgaa.Q
open Go Go.RowKit Go.Proofs.Ytinoamehdhgpgaa.A Go.Proofs.YtinoamehdhgpgaaW.PrintWords Go.Proofs.YtinoamehdhgpgaaW.PrintLast Go.Proofs.YtinoamehdhgpgaaW.PrintMore Go.Proofs.Ytinoamehdhgpgaa.Z
set_option linter.unusedVariables false
set_option linter.unusedSimpArgs false

/-- The elements of a set, as whole numbers; none where it is no set. -/
def elsB (s : Int) : List Int := ((List.range 8).filter (fun e : Nat => hasB s (e : Int))).map (fun e : Nat => (e : Int))
theorem range'_cons {i n : Nat} (h : i < n) : List.range' i (n - i) = i :: List.range' (i + 1) (n - (i + 1)) := by
  rw [show n - i = (n - (i + 1)) + 1 from by omega, List.range'_succ]
theorem filter_cons_map {s : Int} {i : Nat} (l : List Nat) : ((i :: l).filter (fun e : Nat => hasB s (e : Int))).map (fun e : Nat => (e : Int)) = (if hasB s (i : Int) = true then [(i : Int)] else []) ++ (l.filter (fun e : Nat => hasB s (e : Int))).map (fun e : Nat => (e : Int)) := by
  rw [List.filter_cons]
  by_cases h : hasB s (i : Int) = true
  · rw [if_pos h, if_pos h]; rfl
  · rw [if_neg h, if_neg h]; rfl
theorem implElements_ev (s : Int) : Ev (fun k => impl_ElementsOf.f k s) (elsB s) := by
  have h := down (P := fun i => ∀ acc : List Int, acc.length ≤ i → Ev (fun k => impl_ElementsOf.l0 k s acc (i : Int)) (acc ++ ((List.range' i (8 - i)).filter (fun e : Nat => hasB s (e : Int))).map (fun e : Nat => (e : Int)))) 8
    (by
      intro acc ha
      apply Ev.step
      · intro k
        simp only [impl_ElementsOf.l0, implHas_eq, Option.bind_some]
        rw [if_neg (by omega)]
      · simpa using Ev.now _)
    (by
      intro i hi ih acc ha
      apply Ev.step
      · intro k
        simp only [impl_ElementsOf.l0, implHas_eq, Option.bind_some]
        rw [if_pos (by omega), w_succ hi (by omega)]
      · rw [range'_cons hi, filter_cons_map]
        by_cases hx : hasB s (i : Int) = true
        · refine Ev.ifp hx (Ev.ifp (by omega) ?_)
          rw [if_pos hx, ← List.append_assoc]
          exact ih (acc ++ [(i : Int)]) (by simp; omega)
        · refine Ev.ifn hx ?_
          rw [if_neg hx]
          exact ih acc (by omega))
  have h0 := h [] (Nat.le_refl 0)
  rw [show ((0 : Nat) : Int) = 0 from rfl] at h0
  have e : elsB s = [] ++ ((List.range' 0 (8 - 0)).filter (fun e : Nat => hasB s (e : Int))).map (fun e : Nat => (e : Int)) := by
    unfold elsB
    rw [List.nil_append, List.range_eq_range']
  rw [e]
  unfold impl_ElementsOf.f
  exact h0
theorem elsB_nat {s : Nat} (h : s < 256) : elsB (s : Int) = (els s).map (fun e : Nat => (e : Int)) := by
  have e : (List.range 8).filter (fun e : Nat => hasB (s : Int) (e : Int)) = (List.range 8).filter (fun e : Nat => s.testBit e) :=
    List.filter_congr (fun e he => by
      rw [List.mem_range] at he
      rw [hasB_nat]
      simp [h, he])
  unfold elsB els
  rw [e]

end Go.Proofs.Ytinoamehdhgpgaa.Q

namespace Go.Proofs.Ytinoamehdhgpgaa.Q
open Go Go.RowKit Go.Proofs.Ytinoamehdhgpgaa.A Go.Proofs.YtinoamehdhgpgaaW.PrintWords Go.Proofs.YtinoamehdhgpgaaW.PrintLast Go.Proofs.YtinoamehdhgpgaaW.PrintMore Go.Proofs.Ytinoamehdhgpgaa.Z
set_option linter.unusedVariables false
set_option linter.unusedSimpArgs false

theorem contains_cons (x : Int) (l : List Int) (a : Int) : (x :: l).contains a = (decide (x = a) || l.contains a) := by
  rw [Bool.eq_iff_iff]
  simp only [List.contains_iff_mem, List.mem_cons, Bool.or_eq_true, decide_eq_true_eq]
  constructor
  · rintro (h | h)
    · exact .inl h.symm
    · exact .inr h
  · rintro (h | h)
    · exact .inl h.symm
    · exact .inr h
theorem specHasSet_ev (l : List Int) (a : Int) (hl : l.length ≤ 17592186044416) : Ev (fun k => spec_HasSet.f k l a) (l.contains a) := by
  have h := down (P := fun i => Ev (fun k => spec_HasSet.l0 k l a (i : Int)) ((l.drop i).contains a)) l.length
    (by
      apply Ev.step
      · intro k
        simp only [spec_HasSet.l0]
        rw [if_neg (by omega)]
      · rw [drop_end]; exact Ev.now _)
    (by
      intro i hi ih
      apply Ev.step
      · intro k
        simp only [spec_HasSet.l0]
        rw [if_pos (by omega), if_pos (by omega), rd_getElem l i hi, w_succ hi hl]
      · rw [drop_cons l i hi, contains_cons]
        by_cases hx : l[i] = a
        · refine Ev.ifp hx ?_
          rw [show decide (l[i] = a) = true from by simpa using hx, Bool.true_or]; exact Ev.now _
        · refine Ev.ifn hx ?_
          rw [show decide (l[i] = a) = false from by simpa using hx, Bool.false_or]; exact ih)
  exact h

end Go.Proofs.Ytinoamehdhgpgaa.Q

namespace Go.Proofs.Ytinoamehdhgpgaa.Q
open Go Go.RowKit Go.Proofs.Ytinoamehdhgpgaa.A Go.Proofs.YtinoamehdhgpgaaW.PrintWords Go.Proofs.YtinoamehdhgpgaaW.PrintLast Go.Proofs.YtinoamehdhgpgaaW.PrintMore Go.Proofs.Ytinoamehdhgpgaa.Z
set_option linter.unusedVariables false
set_option linter.unusedSimpArgs false

theorem index_l0 (l : List Int) (a : Int) (hl : l.length ≤ 17592186044416) : ∃ r : Int, Ev (fun k => slices_Index_int_int.f k l a) r ∧ (decide (r ≥ 0) = l.contains a) := by
  have h := down (P := fun i => ∃ r : Int, Ev (fun k => slices_Index_int_int.l0 k l a (l.length : Int) (i : Int)) r ∧ (decide (r ≥ 0) = (l.drop i).contains a)) l.length
    (by
      refine ⟨-1, ?_, by rw [drop_end]; rfl⟩
      apply Ev.step
      · intro k
        simp only [slices_Index_int_int.l0]
        rw [if_neg (by omega)]
      · exact Ev.now _)
    (by
      intro i hi ih
      rw [drop_cons l i hi, contains_cons]
      by_cases hx : l[i] = a
      · refine ⟨(i : Int), ?_, ?_⟩
        · apply Ev.step
          · intro k
            simp only [slices_Index_int_int.l0]
            rw [if_pos (by omega), if_pos (by omega), if_pos (by omega), rd_getElem l i hi, if_pos hx.symm]
          · exact Ev.now _
        · rw [show decide (l[i] = a) = true from by simpa using hx, Bool.true_or]
          simp
      · obtain ⟨r, hr, hd⟩ := ih
        refine ⟨r, ?_, ?_⟩
        · apply Ev.step
          · intro k
            simp only [slices_Index_int_int.l0]
            rw [if_pos (by omega), if_pos (by omega), if_pos (by omega), rd_getElem l i hi, if_neg (fun hc => hx hc.symm), w_succ hi hl]
          · exact hr
        · rw [show decide (l[i] = a) = false from by simpa using hx, Bool.false_or]; exact hd)
  exact h
theorem contains_ev (l : List Int) (a : Int) (hl : l.length ≤ 17592186044416) : Ev (fun k => slices_Contains_int_int.f k l a) (l.contains a) := by
  obtain ⟨r, hr, hd⟩ := index_l0 l a hl
  unfold slices_Contains_int_int.f
  refine Ev.bind hr ?_
  rw [hd]; exact Ev.now _

end Go.Proofs.Ytinoamehdhgpgaa.Q

namespace Go.Proofs.Ytinoamehdhgpgaa.Q
open Go Go.RowKit Go.Proofs.YtinoamehdhgpgaaW.PrintWords Go.Proofs.YtinoamehdhgpgaaW.PrintLast Go.Proofs.YtinoamehdhgpgaaW.PrintMore Go.Proofs.Ytinoamehdhgpgaa.Z
set_option linter.unusedVariables false
set_option linter.unusedSimpArgs false

/-- Can e be exchanged for an element of b? -/
def hasEx (l : List Int) (a b e : Nat) : Bool := (els (dif b a)).any (fun f => l.contains ((dif a (2 ^ e) ||| 2 ^ f : Nat) : Int))
def failE (l : List Int) (a b : Nat) : List Nat → Option Nat
  | [] => none
  | e :: es => if hasEx l a b e = true then failE l a b es else some e
def failB (l : List Int) (a : Nat) : List Nat → Option (Nat × Nat)
  | [] => none
  | b :: bs => match failE l a b (els (dif a b)) with
    | none => failB l a bs
    | some e => some (b, e)
def failA (l : List Int) (L : List Nat) : List Nat → Option (Nat × Nat × Nat)
  | [] => none
  | a :: la => match failB l a L with
    | none => failA l L la
    | some (b, e) => some (a, b, e)
def told : Option (Nat × Nat × Nat) → Int × Int × Int × Bool
  | none => (0, 0, 0, false)
  | some (a, b, e) => ((a : Int), (b : Int), (e : Int), true)
/-- What FirstFailure hands back. -/
def failT (n : Int) (l : List Int) : Int × Int × Int × Bool := if famB n l = true then told (failA l (l.map Int.toNat) (l.map Int.toNat)) else (0, 0, 0, false)
theorem els_dif {a b n : Nat} (ha : a < 2 ^ n) (hn : n ≤ 8) : els (dif a b) = (List.range n).filter (fun e => a.testBit e && !b.testBit e) := by
  have h1 : (List.range 8).filter (fun e => (dif a b).testBit e) = (List.range 8).filter (fun e => decide (e < n) && (a.testBit e && !b.testBit e)) :=
    List.filter_congr (fun e _ => by
      rw [dif_bit]
      by_cases h : e < n
      · simp [h]
      · have : a.testBit e = false := Nat.testBit_lt_two_pow (Nat.lt_of_lt_of_le ha (Nat.pow_le_pow_right (by decide) (by omega)))
        simp [this])
  unfold els
  rw [h1]
  have h2 : ∀ (p : Nat → Bool) (a b : Nat), (List.range a).filter (fun e => decide (e < b) && p e) = (List.range (min a b)).filter p := by
    intro p a b
    induction a with
    | zero => simp
    | succ a ih =>
      rw [List.range_succ, List.filter_append, ih]
      by_cases h : a < b
      · rw [show min (a + 1) b = min a b + 1 from by omega, List.range_succ, List.filter_append]
        have e : min a b = a := by omega
        rw [e]
        congr 1
        simp [List.filter_cons, h]
      · rw [show min (a + 1) b = min a b from by omega]
        simp [List.filter_cons, h]
  rw [h2, Nat.min_eq_right hn]

end Go.Proofs.Ytinoamehdhgpgaa.Q

namespace Go.Proofs.Ytinoamehdhgpgaa.Q
open Go Go.RowKit Go.Proofs.Ytinoamehdhgpgaa.A Go.Proofs.YtinoamehdhgpgaaW.PrintWords Go.Proofs.YtinoamehdhgpgaaW.PrintLast Go.Proofs.YtinoamehdhgpgaaW.PrintMore Go.Proofs.Ytinoamehdhgpgaa.Z
set_option linter.unusedVariables false
set_option linter.unusedSimpArgs false

theorem specEx_ev (n : Nat) (hn : n ≤ 8) (l : List Int) (hl : l.length ≤ 17592186044416) (a b e : Nat) (ha : a < 256) (hb : b < 2 ^ n) (he : e < 8) (hae : a.testBit e = true) :
    Ev (fun k => spec_l4Exchange.f k (n : Int) l (a : Int) (b : Int) (e : Int)) (hasEx l a b e) := by
  have hb256 : b < 256 := Nat.lt_of_lt_of_le hb (pow_le_256 hn)
  have h := down (P := fun f => Ev (fun k => spec_l4Exchange.l0 k (a : Int) (b : Int) (e : Int) (f : Int) (n : Int) l) (((List.range' f (n - f)).filter (fun f => b.testBit f && !a.testBit f)).any (fun f => l.contains ((dif a (2 ^ e) ||| 2 ^ f : Nat) : Int)))) n
    (by
      apply Ev.step
      · intro k
        simp only [spec_l4Exchange.l0]
        rw [if_neg (by omega)]
      · rw [Nat.sub_self]; exact Ev.now _)
    (by
      intro f hf ih
      have hih : Ev (fun k => spec_l4Exchange.l0 k (a : Int) (b : Int) (e : Int) (wrap64 ((f : Int) + 1)) (n : Int) l) (((List.range' (f + 1) (n - (f + 1))).filter (fun f => b.testBit f && !a.testBit f)).any (fun f => l.contains ((dif a (2 ^ e) ||| 2 ^ f : Nat) : Int))) := by
        rw [w_succ hf (by omega)]; exact ih
      apply Ev.step
      · intro k
        simp only [spec_l4Exchange.l0, l2Has_eq (lt256_63 hb256) (show f < 2 ^ 63 by omega), l2Has_eq (lt256_63 ha) (show f < 2 ^ 63 by omega), Option.bind_some]
        rw [if_pos (by omega)]
      · rw [range'_cons hf, List.filter_cons]
        by_cases hbf : b.testBit f = true
        · refine Ev.ifp hbf ?_
          by_cases haf : a.testBit f = true
          · refine Ev.ifp haf ?_
            rw [if_neg (by rw [haf]; simp)]
            exact hih
          · refine Ev.ifn haf (Ev.ifp (u64_nonneg _) (Ev.ifp (u64_nonneg _) ?_))
            have haf' := Bool.eq_false_iff.2 haf
            rw [if_pos (by rw [hbf, haf']; rfl), List.any_cons]
            obtain ⟨x1, x2, x3⟩ := exch_arith ha he (show f < 8 by omega) hae haf'
            have hp : 2 ^ f < 256 := Nat.pow_lt_pow_right (a := 2) (m := f) (n := 8) (by decide) (by omega)
            have ex : wrap64 (wrap64 ((a : Int) - shl .i64 1 (IntKind.u64.wrap (e : Int))) + shl .i64 1 (IntKind.u64.wrap (f : Int))) = ((dif a (2 ^ e) ||| 2 ^ f : Nat) : Int) := by
              rw [u64_of (by omega) (by omega), u64_of (by omega) (by omega), shl_one (by omega), shl_one (by omega), ← x1]
              generalize 2 ^ e = p at *
              generalize 2 ^ f = q at *
              rw [wrap64_of (n := (a : Int) - (p : Int)) (by omega) (by omega), wrap64_of (by omega) (by omega)]
              omega
            rw [ex]
            refine Ev.bind (specHasSet_ev l _ hl) ?_
            by_cases hc : l.contains ((dif a (2 ^ e) ||| 2 ^ f : Nat) : Int) = true
            · refine Ev.ifp hc ?_
              rw [hc, Bool.true_or]; exact Ev.now _
            · refine Ev.ifn hc ?_
              rw [Bool.eq_false_iff.2 hc, Bool.false_or]; exact hih
        · refine Ev.ifn hbf ?_
          rw [if_neg (by rw [Bool.eq_false_iff.2 hbf]; simp)]
          exact hih)
  rw [Nat.sub_zero, ← List.range_eq_range', ← els_dif hb hn] at h
  exact h
theorem specFail_l2 (n : Nat) (hn : n ≤ 8) (l : List Int) (hl : l.length ≤ 17592186044416) (i j : Nat) (hi : i < l.length) (hj : j < l.length) (a b : Nat) (hai : rd l (i : Int) = a) (hbj : rd l (j : Int) = b) (ha : a < 2 ^ n) (hb : b < 2 ^ n) (K : Int × Int × Int × Bool)
    (hK : Ev (fun k => spec_FirstFailure.l1 k (i : Int) (wrap64 ((j : Int) + 1)) (n : Int) l) K) :
    Ev (fun k => spec_FirstFailure.l2 k (i : Int) (j : Int) 0 (n : Int) l) (match failE l a b (els (dif a b)) with | none => K | some e => ((a : Int), (b : Int), (e : Int), true)) := by
  have ha256 : a < 256 := Nat.lt_of_lt_of_le ha (pow_le_256 hn)
  have hb256 : b < 256 := Nat.lt_of_lt_of_le hb (pow_le_256 hn)
  have h := down (P := fun e => Ev (fun k => spec_FirstFailure.l2 k (i : Int) (j : Int) (e : Int) (n : Int) l) (match failE l a b ((List.range' e (n - e)).filter (fun e => a.testBit e && !b.testBit e)) with | none => K | some e => ((a : Int), (b : Int), (e : Int), true))) n
    (by
      apply Ev.step
      · intro k
        simp only [spec_FirstFailure.l2]
        rw [if_neg (by omega)]
      · rw [Nat.sub_self]; exact hK)
    (by
      intro e he ih
      have hih : Ev (fun k => spec_FirstFailure.l2 k (i : Int) (j : Int) (wrap64 ((e : Int) + 1)) (n : Int) l) (match failE l a b ((List.range' (e + 1) (n - (e + 1))).filter (fun e => a.testBit e && !b.testBit e)) with | none => K | some e => ((a : Int), (b : Int), (e : Int), true)) := by
        rw [w_succ he (by omega)]; exact ih
      apply Ev.step
      · intro k
        simp only [spec_FirstFailure.l2]
        rw [if_pos (by omega), if_pos (by omega), if_pos (by omega), if_pos (by omega), if_pos (by omega), hai, hbj, l2Has_eq (lt256_63 ha256) (show e < 2 ^ 63 by omega), l2Has_eq (lt256_63 hb256) (show e < 2 ^ 63 by omega), Option.bind_some, Option.bind_some]
      · rw [range'_cons he, List.filter_cons]
        by_cases hae : a.testBit e = true
        · refine Ev.ifp hae ?_
          by_cases hbe : b.testBit e = true
          · refine Ev.ifp hbe ?_
            rw [if_neg (by rw [hbe]; simp)]
            exact hih
          · refine Ev.ifn hbe (Ev.bind (specEx_ev n hn l hl a b e ha256 hb (by omega) hae) ?_)
            rw [if_pos (by rw [hae, Bool.eq_false_iff.2 hbe]; rfl)]
            simp only [failE]
            by_cases hx : hasEx l a b e = true
            · refine Ev.ifp hx ?_
              rw [if_pos hx]; exact hih
            · refine Ev.ifn hx ?_
              rw [if_neg hx]; exact Ev.now _
        · refine Ev.ifn hae ?_
          rw [if_neg (by rw [Bool.eq_false_iff.2 hae]; simp)]
          exact hih)
  rw [Nat.sub_zero, ← List.range_eq_range', ← els_dif ha hn] at h
  exact h
theorem specFail_ev (n : Int) (l : List Int) (hl : l.length ≤ 17592186044416) : Ev (fun k => spec_FirstFailure.f k n l) (failT n l) := by
  unfold spec_FirstFailure.f failT
  refine Ev.bind (specFam_ev n l hl) ?_
  by_cases hf : famB n l = true
  · refine Ev.ifp hf ?_
    rw [if_pos hf]
    obtain ⟨m, L, rfl, hm, rfl, hL, _⟩ := famB_nat hf
    rw [toNat_map]
    have hlen : (L.map (fun x : Nat => (x : Int))).length = L.length := List.length_map _
    rw [hlen] at hl
    have hrd : ∀ i, (h : i < L.length) → rd (L.map (fun x : Nat => (x : Int))) (i : Int) = (L[i] : Int) := fun i h => by
      rw [rd_getElem _ i (by rw [hlen]; exact h), List.getElem_map]
    have hl' : (L.map (fun x : Nat => (x : Int))).length ≤ 17592186044416 := by rw [hlen]; exact hl
    generalize L.map (fun x : Nat => (x : Int)) = l at hlen hrd hl'
    have h := down (P := fun i => Ev (fun k => spec_FirstFailure.l0 k (i : Int) (m : Int) l) (told (failA l L (L.drop i)))) L.length
      (by
        apply Ev.step
        · intro k
          simp only [spec_FirstFailure.l0]
          rw [if_neg (by omega)]
        · rw [drop_end]; exact Ev.now _)
      (by
        intro i hi ih
        have hia := hL _ (List.getElem_mem hi)
        have hih : Ev (fun k => spec_FirstFailure.l0 k (wrap64 ((i : Int) + 1)) (m : Int) l) (told (failA l L (L.drop (i + 1)))) := by
          rw [w_succ hi hl]; exact ih
        apply Ev.step
        · intro k
          simp only [spec_FirstFailure.l0]
          rw [if_pos (by omega)]
        · have h1 := down (P := fun j => Ev (fun k => spec_FirstFailure.l1 k (i : Int) (j : Int) (m : Int) l) (match failB l L[i] (L.drop j) with | none => told (failA l L (L.drop (i + 1))) | some (b, e) => ((L[i] : Int), (b : Int), (e : Int), true))) L.length
            (by
              apply Ev.step
              · intro k
                simp only [spec_FirstFailure.l1]
                rw [if_neg (by omega)]
              · rw [drop_end]; exact hih)
            (by
              intro j hj ihj
              have hjb := hL _ (List.getElem_mem hj)
              apply Ev.step
              · intro k
                simp only [spec_FirstFailure.l1]
                rw [if_pos (by omega)]
              · have h2 := specFail_l2 m hm l hl' i j (by omega) (by omega) L[i] L[j] (hrd i hi) (hrd j hj) hia hjb _ (by rw [w_succ hj hl]; exact ihj)
                rw [drop_cons L j hj]
                simp only [failB]
                generalize failE l L[i] L[j] (els (dif L[i] L[j])) = q at h2
                cases q with
                | none => exact h2
                | some e => exact h2)
          rw [drop_cons L i hi]
          simp only [failA]
          rw [List.drop_zero] at h1
          generalize failB l L[i] L = q at h1
          cases q with
          | none => exact h1
          | some x => exact h1)
    exact h
  · refine Ev.ifn hf ?_
    rw [if_neg hf]
    exact Ev.now _

end Go.Proofs.Ytinoamehdhgpgaa.Q

namespace Go.Proofs.Ytinoamehdhgpgaa.Q
open Go Go.RowKit Go.Proofs.Ytinoamehdhgpgaa.A Go.Proofs.YtinoamehdhgpgaaW.PrintWords Go.Proofs.YtinoamehdhgpgaaW.PrintLast Go.Proofs.YtinoamehdhgpgaaW.PrintMore Go.Proofs.Ytinoamehdhgpgaa.Z
set_option linter.unusedVariables false
set_option linter.unusedSimpArgs false

/-- A matroid: a family, not empty, without a failure of the exchange. -/
def matB (n : Int) (l : List Int) : Bool := famB n l && (decide ((l.length : Int) > 0) && !(failT n l).2.2.2)
theorem specMat_ev (n : Int) (l : List Int) (hl : l.length ≤ 17592186044416) : Ev (fun k => spec_IsMatroid.f k n l) (matB n l) := by
  unfold spec_IsMatroid.f matB
  refine Ev.bind (specFail_ev n l hl) (Ev.bind (specFam_ev n l hl) ?_)
  by_cases hf : famB n l = true
  · refine Ev.ifp hf ?_
    rw [hf, Bool.true_and]
    by_cases h0 : (l.length : Int) > 0
    · refine Ev.ifp h0 ?_
      rw [show decide ((l.length : Int) > 0) = true from by simpa using h0, Bool.true_and]
      exact Ev.now _
    · refine Ev.ifn h0 ?_
      rw [show decide ((l.length : Int) > 0) = false from by simpa using h0, Bool.false_and]
      exact Ev.now _
  · refine Ev.ifn hf ?_
    rw [Bool.eq_false_iff.2 hf, Bool.false_and]
    exact Ev.now _

end Go.Proofs.Ytinoamehdhgpgaa.Q

namespace Go.Proofs.Ytinoamehdhgpgaa.Q
open Go Go.RowKit Go.Proofs.YtinoamehdhgpgaaW.PrintWords Go.Proofs.YtinoamehdhgpgaaW.PrintLast Go.Proofs.YtinoamehdhgpgaaW.PrintMore Go.Proofs.Ytinoamehdhgpgaa.Z
set_option linter.unusedVariables false
set_option linter.unusedSimpArgs false

/-- What a matroid is, as numbers. -/
theorem matB_nat {n : Int} {l : List Int} (h : matB n l = true) : ∃ (m : Nat) (L : List Nat), n = m ∧ m ≤ 8 ∧ l = ints L ∧ (∀ x ∈ L, x < 2 ^ m) ∧ (∀ x ∈ L, x < 256) ∧ L.Pairwise (· < ·) ∧ L ≠ [] := by
  simp only [matB, Bool.and_eq_true, decide_eq_true_eq] at h
  obtain ⟨m, L, rfl, hm, rfl, hL, hp⟩ := famB_nat h.1
  refine ⟨m, L, rfl, hm, rfl, hL, fun x hx => Nat.lt_of_lt_of_le (hL x hx) (pow_le_256 hm), hp, ?_⟩
  rintro rfl
  simp at h
theorem ints_len (L : List Nat) : (ints L).length = L.length := List.length_map _
theorem ints_rd (L : List Nat) (i : Nat) (h : i < L.length) : rd (ints L) (i : Int) = (L[i] : Int) := by
  rw [rd_getElem _ i (by rw [ints_len]; exact h)]
  simp [ints]

end Go.Proofs.Ytinoamehdhgpgaa.Q

namespace Go.Proofs.Ytinoamehdhgpgaa.Q
open Go Go.RowKit Go.Proofs.Ytinoamehdhgpgaa.A Go.Proofs.YtinoamehdhgpgaaW.PrintWords Go.Proofs.YtinoamehdhgpgaaW.PrintLast Go.Proofs.YtinoamehdhgpgaaW.PrintMore Go.Proofs.Ytinoamehdhgpgaa.Z
set_option linter.unusedVariables false
set_option linter.unusedSimpArgs false

/-- A number put into a list in order, once. -/
def insO (x : Int) : List Int → List Int
  | [] => [x]
  | y :: ys => if y < x then y :: insO x ys else (if y = x then y :: ys else x :: y :: ys)
def sortO (acc X : List Int) : List Int := X.foldl (fun a x => insO x a) acc
theorem insO_len (x : Int) (l : List Int) : (insO x l).length ≤ l.length + 1 := by
  induction l with
  | nil => exact Nat.le_refl _
  | cons y l ih =>
    simp only [insO]
    by_cases h : y < x
    · rw [if_pos h, List.length_cons, List.length_cons]; omega
    · rw [if_neg h]
      by_cases h2 : y = x
      · rw [if_pos h2]; omega
      · rw [if_neg h2]; simp only [List.length_cons]; omega
theorem insO_mem (x a : Int) (l : List Int) : a ∈ insO x l ↔ a = x ∨ a ∈ l := by
  induction l with
  | nil => simp [insO]
  | cons y l ih =>
    simp only [insO]
    by_cases h : y < x
    · rw [if_pos h, List.mem_cons, ih, List.mem_cons]
      constructor
      · rintro (h' | h' | h')
        · exact .inr (.inl h')
        · exact .inl h'
        · exact .inr (.inr h')
      · rintro (h' | h' | h')
        · exact .inr (.inl h')
        · exact .inl h'
        · exact .inr (.inr h')
    · rw [if_neg h]
      by_cases h2 : y = x
      · rw [if_pos h2]
        subst h2
        constructor
        · exact .inr
        · rintro (rfl | h')
          · exact List.mem_cons_self ..
          · exact h'
      · rw [if_neg h2, List.mem_cons]
theorem insO_pair (x : Int) (l : List Int) (hl : l.Pairwise (· < ·)) : (insO x l).Pairwise (· < ·) := by
  induction l with
  | nil => simp [insO]
  | cons y l ih =>
    rw [List.pairwise_cons] at hl
    simp only [insO]
    by_cases h : y < x
    · rw [if_pos h, List.pairwise_cons]
      refine ⟨fun a ha => ?_, ih hl.2⟩
      rcases (insO_mem x a l).1 ha with rfl | ha
      · exact h
      · exact hl.1 a ha
    · rw [if_neg h]
      by_cases h2 : y = x
      · rw [if_pos h2, List.pairwise_cons]; exact hl
      · rw [if_neg h2, List.pairwise_cons, List.pairwise_cons]
        refine ⟨fun a ha => ?_, hl⟩
        rcases List.mem_cons.1 ha with rfl | ha
        · omega
        · have := hl.1 a ha; omega
theorem sortO_mem (X : List Int) (a : Int) : ∀ acc : List Int, a ∈ sortO acc X ↔ a ∈ X ∨ a ∈ acc := by
  induction X with
  | nil => intro acc; simp [sortO]
  | cons x X ih =>
    intro acc
    have := ih (insO x acc)
    unfold sortO at this ⊢
    rw [List.foldl_cons, this, insO_mem, List.mem_cons]
    constructor
    · rintro (h | h | h)
      · exact .inl (.inr h)
      · exact .inl (.inl h)
      · exact .inr h
    · rintro ((h | h) | h)
      · exact .inr (.inl h)
      · exact .inl h
      · exact .inr (.inr h)
theorem sortO_pair (X : List Int) : ∀ acc : List Int, acc.Pairwise (· < ·) → (sortO acc X).Pairwise (· < ·) := by
  induction X with
  | nil => intro acc h; exact h
  | cons x X ih => intro acc h; exact ih _ (insO_pair x acc h)
/-- Two lists in order with the same members are one. -/
theorem pair_unique : ∀ {X Y : List Int}, X.Pairwise (· < ·) → Y.Pairwise (· < ·) → (∀ a, a ∈ X ↔ a ∈ Y) → X = Y := by
  intro X
  induction X with
  | nil =>
    intro Y _ _ h
    cases Y with
    | nil => rfl
    | cons y Y => exact absurd ((h y).2 (List.mem_cons_self ..)) (by simp)
  | cons x X ih =>
    intro Y hX hY h
    cases Y with
    | nil => exact absurd ((h x).1 (List.mem_cons_self ..)) (by simp)
    | cons y Y =>
      rw [List.pairwise_cons] at hX hY
      have hxy : x = y := by
        rcases List.mem_cons.1 ((h x).1 (List.mem_cons_self ..)) with e | hx
        · exact e
        · rcases List.mem_cons.1 ((h y).2 (List.mem_cons_self ..)) with e | hy
          · exact e.symm
          · have h1 := hX.1 y hy
            have h2 := hY.1 x hx
            omega
      subst hxy
      rw [ih hX.2 hY.2 (fun a => ?_)]
      constructor
      · intro ha
        rcases List.mem_cons.1 ((h a).1 (List.mem_cons_of_mem _ ha)) with e | h'
        · have := hX.1 a ha; omega
        · exact h'
      · intro ha
        rcases List.mem_cons.1 ((h a).2 (List.mem_cons_of_mem _ ha)) with e | h'
        · have := hY.1 a ha; omega
        · exact h'
theorem specSort_ev (X : List Int) (hx : X.length ≤ 8796093022208) : Ev (fun k => spec_SortSets.f k X) (sortO [] X) := by
  have hd := down (P := fun i => ∀ acc : List Int, acc.length ≤ i → Ev (fun k => spec_SortSets.l0 k X acc (i : Int)) (sortO acc (X.drop i))) X.length
    (by
      intro acc _
      apply Ev.step
      · intro k
        rw [spec_SortSets.l0, if_neg (by omega)]
      · rw [drop_end]; exact Ev.now _)
    (by
      intro i hi ih acc ha
      have ihs := fun y (hy : y = insO X[i] acc) => ih y (by subst hy; have := insO_len X[i] acc; omega)
      rw [drop_cons X i hi]
      have h1 := down (P := fun j => Ev (fun k => spec_SortSets.l1 k X acc (i : Int) (j : Int)) (sortO (acc.take j ++ insO X[i] (acc.drop j)) (X.drop (i + 1)))) acc.length
        (by
          rw [List.take_length, drop_end]
          have hr := ih (acc ++ [X[i]]) (by rw [List.length_append, List.length_singleton]; omega)
          apply Ev.step
          · intro k
            rw [spec_SortSets.l1, if_neg (by omega), w_succ hi (by omega)]
          · simp only [Option.bind_some, Int.toNat_natCast, List.drop_length, List.take_length, List.nil_append, List.append_nil, List.length_nil, List.length_append, List.length_singleton]
            refine Ev.ifp (by omega) (Ev.ifp (by omega) (Ev.ifp (by omega) (Ev.ifp (by omega) (Ev.ifp (by omega) (Ev.ifp (by omega) (Ev.ifp (by omega) ?_))))))
            rw [rd_getElem X i hi]
            exact hr)
        (by
          intro j hj ihj
          apply Ev.step
          · intro k
            rw [spec_SortSets.l1, if_pos (by omega), if_pos (by omega), if_pos (by omega), if_pos (by omega), rd_getElem acc j hj, rd_getElem X i hi, w_succ hi (by omega), w_succ hj (by omega)]
          · rw [drop_cons acc j hj]
            simp only [insO]
            by_cases hlt : acc[j] < X[i]
            · rw [if_pos hlt]
              refine Ev.ifp hlt ?_
              rw [take_snoc acc j hj, List.append_assoc, List.singleton_append] at ihj
              exact ihj
            · rw [if_neg hlt]
              refine Ev.ifn hlt ?_
              by_cases heq : acc[j] = X[i]
              · rw [if_pos heq]
                refine Ev.ifp heq ?_
                rw [← drop_cons acc j hj, List.take_append_drop]
                exact ih acc (by omega)
              · rw [if_neg heq]
                refine Ev.ifn heq ?_
                have hr := ih (acc.take j ++ X[i] :: acc[j] :: acc.drop (j + 1)) (by
                  rw [List.length_append, List.length_cons, List.length_cons, List.length_take, List.length_drop]; omega)
                simp only [Option.bind_some, Int.toNat_natCast, List.nil_append, List.length_nil]
                refine Ev.ifp (by omega) (Ev.ifp (by rw [List.length_drop]; omega) (Ev.ifp (by rw [List.length_take]; omega) (Ev.ifp (by rw [List.length_append, List.length_singleton, List.length_take, List.length_drop]; omega) ?_)))
                rw [drop_cons acc j hj, List.append_assoc, List.singleton_append]
                exact hr)
      apply Ev.step
      · intro k
        rw [spec_SortSets.l0, if_pos (by omega)]
      · have h0 := h1
        rw [List.take_zero, List.drop_zero, List.nil_append] at h0
        show Ev _ (sortO acc (X[i] :: X.drop (i + 1)))
        exact h0)
  exact hd [] (Nat.zero_le _)

end Go.Proofs.Ytinoamehdhgpgaa.Q

namespace Go.Proofs.Ytinoamehdhgpgaa.Q
open Go Go.RowKit Go.Proofs.Ytinoamehdhgpgaa.A Go.Proofs.YtinoamehdhgpgaaW.PrintWords Go.Proofs.YtinoamehdhgpgaaW.PrintLast Go.Proofs.YtinoamehdhgpgaaW.PrintMore Go.Proofs.Ytinoamehdhgpgaa.Z
set_option linter.unusedVariables false
set_option linter.unusedSimpArgs false

theorem specCount_l0 : ∀ (d x : Nat), x ≤ d → x < 256 → ∀ acc : Int, 0 ≤ acc → acc + (d : Int) ≤ 1000 → Ev (fun k => spec_CountOf.l0 k (x : Int) acc) (acc + (pc x : Int)) := by
  intro d
  induction d with
  | zero =>
    intro x hx _ acc h0 h1
    obtain rfl : x = 0 := by omega
    apply Ev.step
    · intro k
      simp only [spec_CountOf.l0]
      rw [if_neg (by decide)]
    · rw [pc_zero, show acc + ((0 : Nat) : Int) = acc from by omega]
      exact Ev.now _
  | succ d ih =>
    intro x hx h256 acc h0 h1
    by_cases hz : x = 0
    · subst hz
      exact ih 0 (by omega) h256 acc h0 (by omega)
    · have hb : Go.bits .and .i64 (x : Int) 1 = ((x % 2 : Nat) : Int) := by
        have := and_nat (a := x) (b := 1) (lt256_63 h256) (by decide)
        rw [Nat.and_one_is_mod] at this
        exact this
      apply Ev.step
      · intro k
        simp only [spec_CountOf.l0]
        rw [if_pos (by omega), hb, wrap64_of (by omega) (by omega), show (x : Int) / 2 = ((x / 2 : Nat) : Int) from by omega]
      · have hp := pc_step x h256
        have hl := pc_le (x / 2)
        have := ih (x / 2) (by omega) (by omega) (acc + ((x % 2 : Nat) : Int)) (by omega) (by omega)
        rw [show acc + ((x % 2 : Nat) : Int) + (pc (x / 2) : Int) = acc + (pc x : Int) from by omega] at this
        exact this
theorem specCount_ev (s : Nat) (h : s < 256) : Ev (fun k => spec_CountOf.f k (s : Int)) (pc s : Int) := by
  unfold spec_CountOf.f
  refine Ev.cbind (specIsSet_eq _ _) (Ev.ifp ?_ ?_)
  · rw [isSet8, isAnyB_nat]; simpa using h
  · have := specCount_l0 s s (Nat.le_refl _) h 0 (by omega) (by omega)
    rw [Int.zero_add] at this
    exact this
end Go.Proofs.Ytinoamehdhgpgaa.Q

namespace Go.Proofs.Ytinoamehdhgpgaa.Q
open Go Go.RowKit Go.Proofs.Ytinoamehdhgpgaa.A Go.Proofs.YtinoamehdhgpgaaW.PrintWords Go.Proofs.YtinoamehdhgpgaaW.PrintLast Go.Proofs.YtinoamehdhgpgaaW.PrintMore Go.Proofs.Ytinoamehdhgpgaa.Z
set_option linter.unusedVariables false
set_option linter.unusedSimpArgs false

theorem l1Max_eq (a b : Int) : spec_l1Max.f a b = some (max a b) := by
  unfold spec_l1Max.f
  by_cases h : a > b
  · rw [if_pos h]; congr 1; omega
  · rw [if_neg h]; congr 1; omega
theorem specRank_ev (n : Int) (L : List Nat) (s : Nat) (hl : L.length ≤ 17592186044416) (hL : ∀ b ∈ L, b < 256) (hs : s < 256) : Ev (fun k => spec_l5Rank.f k n (ints L) (s : Int)) (rkN L s : Int) := by
  have h := down (P := fun i => ∀ acc : Nat, Ev (fun k => spec_l5Rank.l0 k (s : Int) (acc : Int) (i : Int) n (ints L)) ((maxN acc ((L.drop i).map (fun b => pc (b &&& s))) : Nat) : Int)) L.length
    (by
      intro acc
      apply Ev.step
      · intro k
        simp only [spec_l5Rank.l0]
        rw [if_neg (by rw [ints_len]; omega)]
      · rw [drop_end]; exact Ev.now _)
    (by
      intro i hi ih acc
      have hb := hL _ (List.getElem_mem hi)
      apply Ev.step
      · intro k
        simp only [spec_l5Rank.l0, l1Max_eq, Option.bind_some]
        rw [if_pos (by rw [ints_len]; omega), if_pos (by omega), ints_rd L i hi, w_succ hi hl, and_nat (lt256_63 hb) (lt256_63 hs)]
      · refine Ev.bind (specCount_ev _ (and_lt hb)) ?_
        rw [drop_cons L i hi, List.map_cons, maxN_cons]
        have := ih (max acc (pc (L[i] &&& s)))
        rw [show ((max acc (pc (L[i] &&& s)) : Nat) : Int) = max (acc : Int) (pc (L[i] &&& s) : Int) from by omega] at this
        exact this)
  exact h 0
end Go.Proofs.Ytinoamehdhgpgaa.Q

namespace Go.Proofs.Ytinoamehdhgpgaa.Q
open Go Go.RowKit Go.Proofs.Ytinoamehdhgpgaa.A Go.Proofs.YtinoamehdhgpgaaW.PrintWords Go.Proofs.YtinoamehdhgpgaaW.PrintLast Go.Proofs.YtinoamehdhgpgaaW.PrintMore Go.Proofs.Ytinoamehdhgpgaa.Z
set_option linter.unusedVariables false
set_option linter.unusedSimpArgs false

set_option maxRecDepth 100000 in
theorem ones64 : ∀ s < 256, bits_OnesCount64.f ((s : Nat) : Int) = some ((pc s : Nat) : Int) := by decide +kernel
theorem implCount_eq (s : Nat) (h : s < 256) : impl_CountOf.f (s : Int) = some (pc s : Int) := by
  unfold impl_CountOf.f
  rw [isAny_eq, Option.bind_some, if_pos (by rw [isAnyB_nat]; simpa using h), u64_of (by omega) (by omega)]
  unfold bits_OnesCount.f
  rw [ones64 s h]
  rfl
end Go.Proofs.Ytinoamehdhgpgaa.Q

namespace Go.Proofs.Ytinoamehdhgpgaa.Q
open Go Go.RowKit Go.Proofs.Ytinoamehdhgpgaa.A Go.Proofs.YtinoamehdhgpgaaW.PrintWords Go.Proofs.YtinoamehdhgpgaaW.PrintLast Go.Proofs.YtinoamehdhgpgaaW.PrintMore Go.Proofs.Ytinoamehdhgpgaa.Z
set_option linter.unusedVariables false
set_option linter.unusedSimpArgs false

theorem mx_nat (a b : Nat) : mx (a : Int) (b : Int) = ((max a b : Nat) : Int) := by
  unfold mx
  split <;> omega
theorem implRank_ev (n : Int) (L : List Nat) (s : Nat) (hl : L.length ≤ 17592186044416) (hL : ∀ b ∈ L, b < 256) (hs : s < 256) : Ev (fun k => impl_rankIn.f k n (ints L) (s : Int)) (rkN L s : Int) := by
  have h := down (P := fun i => ∀ acc : Nat, Ev (fun k => impl_rankIn.l0 k (s : Int) (acc : Int) (ints L) ((ints L).length : Int) (i : Int)) ((maxN acc ((L.drop i).map (fun b => pc (b &&& s))) : Nat) : Int)) L.length
    (by
      intro acc
      apply Ev.step
      · intro k
        simp only [impl_rankIn.l0]
        rw [if_neg (by rw [ints_len]; omega)]
      · rw [drop_end]; exact Ev.now _)
    (by
      intro i hi ih acc
      have hb := hL _ (List.getElem_mem hi)
      apply Ev.step
      · intro k
        simp only [impl_rankIn.l0]
        rw [if_pos (by rw [ints_len]; omega), if_pos (by omega), if_pos (by rw [ints_len]; omega), ints_rd L i hi, w_succ hi hl, and_nat (lt256_63 hs) (lt256_63 hb), Nat.and_comm, implCount_eq _ (and_lt hb), Option.bind_some, mx_nat]
      · rw [drop_cons L i hi, List.map_cons, maxN_cons]
        exact ih _)
  exact h 0

end Go.Proofs.Ytinoamehdhgpgaa.Q

namespace Go.Proofs.Ytinoamehdhgpgaa.Q
open Go Go.RowKit Go.Proofs.Ytinoamehdhgpgaa.A Go.Proofs.YtinoamehdhgpgaaW.PrintWords Go.Proofs.YtinoamehdhgpgaaW.PrintLast Go.Proofs.YtinoamehdhgpgaaW.PrintMore Go.Proofs.Ytinoamehdhgpgaa.Z
set_option linter.unusedVariables false
set_option linter.unusedSimpArgs false

def fullN (m : Nat) : Nat := 2 ^ m - 1
theorem full_sub_all : ∀ m < 9, ∀ u < 256, (!decide (u < 2 ^ m) || (decide (fullN m - u = dif (fullN m) u) && decide (fullN m < 2 ^ m))) = true := by decide +kernel
theorem full_sub {m u : Nat} (hm : m ≤ 8) (hu : u < 2 ^ m) : fullN m - u = dif (fullN m) u ∧ fullN m < 2 ^ m ∧ fullN m < 256 := by
  have h256 := Nat.lt_of_lt_of_le hu (pow_le_256 hm)
  have h := full_sub_all m (by omega) u h256
  rw [show decide (u < 2 ^ m) = true from by simpa using hu] at h
  simp only [Bool.not_true, Bool.false_or, Bool.and_eq_true, decide_eq_true_eq] at h
  exact ⟨h.1, h.2, Nat.lt_of_lt_of_le h.2 (pow_le_256 hm)⟩
theorem full_lt {m : Nat} (hm : m ≤ 8) : fullN m < 2 ^ m ∧ fullN m < 256 := (full_sub hm (Nat.two_pow_pos m)).2
theorem full_bit (m i : Nat) : (fullN m).testBit i = decide (i < m) := Nat.testBit_two_pow_sub_one m i
theorem specFull_eq {m : Nat} (hm : m ≤ 8) : spec_FullSet.f (m : Int) = some ((fullN m : Nat) : Int) := by
  unfold spec_FullSet.f fullN
  have hp := pow_le_256 hm
  have h0 := Nat.two_pow_pos m
  rw [l1In_eq, Option.bind_some, if_pos (by simp; omega), if_pos (u64_nonneg _), u64_of (by omega) (by omega), shl_one (by omega)]
  generalize 2 ^ m = q at *
  rw [wrap64_of (by omega) (by omega)]
  congr 1
  omega
theorem implFull_eq {m : Nat} (hm : m ≤ 8) : impl_FullSet.f (m : Int) = some ((fullN m : Nat) : Int) := by
  unfold impl_FullSet.f fullN
  have hp := pow_le_256 hm
  have h0 := Nat.two_pow_pos m
  rw [isSize_eq, Option.bind_some, if_pos (by simp; omega), if_pos (by omega), shl_one (by omega)]
  generalize 2 ^ m = q at *
  rw [wrap64_of (by omega) (by omega)]
  congr 1
  omega

end Go.Proofs.Ytinoamehdhgpgaa.Q

namespace Go.Proofs.Ytinoamehdhgpgaa.Q
open Go Go.RowKit Go.Proofs.Ytinoamehdhgpgaa.A Go.Proofs.YtinoamehdhgpgaaW.PrintWords Go.Proofs.YtinoamehdhgpgaaW.PrintLast Go.Proofs.YtinoamehdhgpgaaW.PrintMore Go.Proofs.Ytinoamehdhgpgaa.Z
set_option linter.unusedVariables false
set_option linter.unusedSimpArgs false

def clN (L : List Nat) (t acc : Nat) : List Nat → Nat
  | [] => acc
  | i :: is => if rkN L (t ||| 2 ^ i) = rkN L t then clN L t (acc ||| 2 ^ i) is else clN L t acc is
theorem clN_bit (L : List Nat) (t j : Nat) (is : List Nat) : ∀ acc : Nat, (clN L t acc is).testBit j = (acc.testBit j || (decide (j ∈ is) && decide (rkN L (t ||| 2 ^ j) = rkN L t))) := by
  induction is with
  | nil => intro acc; simp [clN]
  | cons i is ih =>
    intro acc
    simp only [clN]
    by_cases h : rkN L (t ||| 2 ^ i) = rkN L t
    · rw [if_pos h, ih, add_bit]
      by_cases hij : i = j
      · subst hij
        simp [h]
      · rw [show decide (i = j) = false from decide_eq_false hij, Bool.or_false]
        have : (j ∈ i :: is) ↔ j ∈ is := by
          rw [List.mem_cons]
          exact ⟨fun h' => h'.resolve_left (fun e => hij e.symm), .inr⟩
        rw [show decide (j ∈ i :: is) = decide (j ∈ is) from by rw [decide_eq_decide]; exact this]
    · rw [if_neg h, ih]
      by_cases hij : i = j
      · subst hij
        simp [h]
      · have : (j ∈ i :: is) ↔ j ∈ is := by
          rw [List.mem_cons]
          exact ⟨fun h' => h'.resolve_left (fun e => hij e.symm), .inr⟩
        rw [show decide (j ∈ i :: is) = decide (j ∈ is) from by rw [decide_eq_decide]; exact this]
theorem clN_lt (L : List Nat) (t : Nat) (is : List Nat) : ∀ acc : Nat, acc < 256 → (∀ i ∈ is, i < 8) → clN L t acc is < 256 := by
  induction is with
  | nil => intro acc h _; exact h
  | cons i is ih =>
    intro acc h h8
    simp only [clN]
    have hi := h8 i (List.mem_cons_self ..)
    have hr := fun j hj => h8 j (List.mem_cons_of_mem _ hj)
    by_cases hc : rkN L (t ||| 2 ^ i) = rkN L t
    · rw [if_pos hc]
      exact ih _ (Nat.or_lt_two_pow (n := 8) h (Nat.pow_lt_pow_right (by omega) hi)) hr
    · rw [if_neg hc]; exact ih _ h hr
/-- The closure of a set. -/
def closN (m : Nat) (L : List Nat) (t : Nat) : Nat := clN L t 0 (List.range m)
theorem closN_lt {m : Nat} (hm : m ≤ 8) (L : List Nat) (t : Nat) : closN m L t < 256 := clN_lt L t _ 0 (by omega) (fun i hi => by have := List.mem_range.1 hi; omega)
theorem closN_spec {m : Nat} (hm : m ≤ 8) (L : List Nat) {t : Nat} (ht : t < 2 ^ m) : clN L t t (List.range m) = closN m L t := by
  have ht256 := Nat.lt_of_lt_of_le ht (pow_le_256 hm)
  have h8 : ∀ i ∈ List.range m, i < 8 := fun i hi => by have := List.mem_range.1 hi; omega
  apply set_ext (clN_lt L t _ t ht256 h8) (closN_lt hm L t)
  intro j _
  unfold closN
  rw [clN_bit, clN_bit, Nat.zero_testBit, Bool.false_or]
  cases hj : t.testBit j
  · rw [Bool.false_or]
  · have hjm : j < m := by
      rcases Nat.lt_or_ge j m with h' | h'
      · exact h'
      · have := Nat.testBit_lt_two_pow (Nat.lt_of_lt_of_le ht (Nat.pow_le_pow_right (by omega) h'))
        rw [hj] at this; cases this
    have e : t ||| 2 ^ j = t := by
      apply Nat.eq_of_testBit_eq
      intro i
      rw [add_bit]
      by_cases hi : j = i
      · subst hi; rw [hj]; rfl
      · simp [hi]
    rw [e]
    simp [hjm]
theorem specClos_ev {m : Nat} (hm : m ≤ 8) (L : List Nat) (t : Nat) (hl : L.length ≤ 17592186044416) (hL : ∀ b ∈ L, b < 256) (ht : t < 2 ^ m) : Ev (fun k => spec_l5Closure.f k (m : Int) (ints L) (t : Int)) ((closN m L t : Nat) : Int) := by
  have ht256 := Nat.lt_of_lt_of_le ht (pow_le_256 hm)
  unfold spec_l5Closure.f
  refine Ev.bind (specRank_ev _ L t hl hL ht256) ?_
  have hd := down (P := fun i => ∀ acc : Nat, acc < 256 → Ev (fun k => spec_l5Closure.l0 k (t : Int) (acc : Int) (rkN L t : Int) (i : Int) (m : Int) (ints L)) ((clN L t acc (List.range' i (m - i)) : Nat) : Int)) m
    (by
      intro acc _
      apply Ev.step
      · intro k
        simp only [spec_l5Closure.l0]
        rw [if_neg (by omega)]
      · rw [Nat.sub_self]; exact Ev.now _)
    (by
      intro i hi ih acc ha
      have hp : 2 ^ i < 256 := Nat.pow_lt_pow_right (by omega) (show i < 8 by omega)
      have ho : t ||| 2 ^ i < 256 := Nat.or_lt_two_pow (n := 8) ht256 hp
      have ho2 : acc ||| 2 ^ i < 256 := Nat.or_lt_two_pow (n := 8) ha hp
      apply Ev.step
      · intro k
        simp only [spec_l5Closure.l0]
        rw [if_pos (by omega), u64_of (n := (i : Int)) (by omega) (by omega), if_pos (by omega), shl_one (by omega), or_nat (lt256_63 ht256) (lt256_63 hp), or_nat (lt256_63 ha) (lt256_63 hp), w_succ hi (by omega)]
      · rw [range'_cons' hi]
        simp only [clN]
        refine Ev.bind (specRank_ev _ L _ hl hL ho) ?_
        by_cases h : rkN L (t ||| 2 ^ i) = rkN L t
        · rw [if_pos h]; exact Ev.ifp (by omega) (ih _ ho2)
        · rw [if_neg h]; exact Ev.ifn (by omega) (ih _ ha))
  have h0 := hd t ht256
  rw [Nat.sub_zero, ← List.range_eq_range', closN_spec hm L ht] at h0
  exact h0
theorem implClos_ev {m : Nat} (hm : m ≤ 8) (L : List Nat) (t : Nat) (hl : L.length ≤ 17592186044416) (hL : ∀ b ∈ L, b < 256) (ht256 : t < 256) : Ev (fun k => impl_closure.f k (m : Int) (ints L) (t : Int)) ((closN m L t : Nat) : Int) := by
  unfold impl_closure.f
  refine Ev.bind (implRank_ev _ L t hl hL ht256) ?_
  have hd := down (P := fun i => ∀ acc : Nat, acc < 256 → Ev (fun k => impl_closure.l0 k (t : Int) (rkN L t : Int) (acc : Int) (i : Int) (m : Int) (ints L)) ((clN L t acc (List.range' i (m - i)) : Nat) : Int)) m
    (by
      intro acc _
      apply Ev.step
      · intro k
        simp only [impl_closure.l0]
        rw [if_neg (by omega)]
      · rw [Nat.sub_self]; exact Ev.now _)
    (by
      intro i hi ih acc ha
      have hp : 2 ^ i < 256 := Nat.pow_lt_pow_right (by omega) (show i < 8 by omega)
      have ho : t ||| 2 ^ i < 256 := Nat.or_lt_two_pow (n := 8) ht256 hp
      have ho2 : acc ||| 2 ^ i < 256 := Nat.or_lt_two_pow (n := 8) ha hp
      apply Ev.step
      · intro k
        simp only [impl_closure.l0]
        rw [if_pos (by omega), if_pos (by omega), shl_one (by omega), or_nat (lt256_63 ht256) (lt256_63 hp), or_nat (lt256_63 ha) (lt256_63 hp), w_succ hi (by omega)]
      · rw [range'_cons' hi]
        simp only [clN]
        refine Ev.bind (implRank_ev _ L _ hl hL ho) ?_
        by_cases h : rkN L (t ||| 2 ^ i) = rkN L t
        · rw [if_pos h]; exact Ev.ifp (by omega) (ih _ ho2)
        · rw [if_neg h]; exact Ev.ifn (by omega) (ih _ ha))
  have h0 := hd 0 (by omega)
  rw [Nat.sub_zero, ← List.range_eq_range'] at h0
  exact h0

end Go.Proofs.Ytinoamehdhgpgaa.Q

namespace Go.Proofs.Ytinoamehdhgpgaa.Q
open Go Go.RowKit Go.Proofs.Ytinoamehdhgpgaa.A Go.Proofs.YtinoamehdhgpgaaW.PrintWords Go.Proofs.YtinoamehdhgpgaaW.PrintLast Go.Proofs.YtinoamehdhgpgaaW.PrintMore Go.Proofs.Ytinoamehdhgpgaa.Z
set_option linter.unusedVariables false
set_option linter.unusedSimpArgs false

def isFlat (m : Nat) (L : List Nat) (t : Nat) : Bool := decide (closN m L t = t)
def flN (m : Nat) (L : List Nat) : List Nat := (List.range (2 ^ m)).filter (isFlat m L)
theorem flN_lt {m : Nat} {L : List Nat} {t : Nat} (h : t ∈ flN m L) : t < 2 ^ m := List.mem_range.1 (List.mem_filter.1 h).1
theorem flN_len {m : Nat} (hm : m ≤ 8) (L : List Nat) : (flN m L).length ≤ 256 := by
  have h1 : (flN m L).length ≤ (List.range (2 ^ m)).length := List.length_filter_le _ _
  rw [List.length_range] at h1
  have := pow_le_256 hm
  omega
theorem specFlats7_ev {m : Nat} (hm : m ≤ 8) (L : List Nat) (hl : L.length ≤ 17592186044416) (hL : ∀ b ∈ L, b < 256) : Ev (fun k => spec_l7Flats.f k (m : Int) (ints L)) (ints (flN m L)) := by
  have hp2 := Nat.two_pow_pos m
  have h2m := pow_le_256 hm
  have hd := down (P := fun i => ∀ acc : List Nat, acc.length ≤ i → Ev (fun k => spec_l7Flats.l0 k (ints acc) (i : Int) (m : Int) (ints L)) (ints (acc ++ (List.range' i (2 ^ m - i)).filter (isFlat m L)))) (2 ^ m)
    (by
      intro acc _
      apply Ev.step
      · intro k
        simp only [spec_l7Flats.l0, specFull_eq hm, Option.bind_some]
        rw [if_neg (by unfold fullN; omega)]
      · rw [Nat.sub_self, List.range'_zero, List.filter_nil, List.append_nil]; exact Ev.now _)
    (by
      intro i hi ih acc ha
      apply Ev.step
      · intro k
        simp only [spec_l7Flats.l0, specFull_eq hm, Option.bind_some]
        rw [if_pos (by unfold fullN; omega), w_succ hi (by omega)]
      · rw [range'_cons' hi, List.filter_cons]
        refine Ev.bind (specClos_ev hm L i hl hL hi) ?_
        by_cases h : closN m L i = i
        · rw [if_pos (show isFlat m L i = true from decide_eq_true h)]
          refine Ev.ifp (by omega) (Ev.ifp (by rw [ints_len]; omega) ?_)
          have := ih (acc ++ [i]) (by rw [List.length_append, List.length_singleton]; omega)
          rw [List.append_assoc, List.singleton_append] at this
          rw [show ints acc ++ [(i : Int)] = ints (acc ++ [i]) from by simp [ints]]
          exact this
        · rw [if_neg (show ¬ isFlat m L i = true from by unfold isFlat; simpa using h)]
          exact Ev.ifn (by omega) (ih acc (by omega)))
  have h0 := hd [] (by simp)
  rw [Nat.sub_zero, ← List.range_eq_range', List.nil_append] at h0
  exact h0
theorem implFlats_ev {m : Nat} (hm : m ≤ 8) (L : List Nat) (hl : L.length ≤ 17592186044416) (hL : ∀ b ∈ L, b < 256) : Ev (fun k => impl_flatsIn.f k (m : Int) (ints L)) (ints (flN m L)) := by
  have h2m := pow_le_256 hm
  have hp := Nat.two_pow_pos m
  unfold impl_flatsIn.f
  refine Ev.cbind (implFull_eq hm) (Ev.ifp (by unfold fullN; omega) ?_)
  have e : fromTo 0 ((fullN m : Nat) : Int) = ints (List.range (2 ^ m)) := by
    unfold fromTo ints fullN
    rw [List.range_eq_range', show (((2 ^ m - 1 : Nat) : Int) + 1).toNat - (0 : Int).toNat = 2 ^ m from by omega]
    rfl
  unfold setsO
  rw [e]
  have hf : (ints (List.range (2 ^ m))).filter (fun x : Int => isFlat m L x.toNat) = ints (flN m L) := by
    unfold ints flN
    rw [List.filter_map]
    congr 1
  rw [← hf]
  refine Ev_filterO (p := fun x : Int => isFlat m L x.toNat) ?_
  intro x hx
  unfold ints at hx
  obtain ⟨t, ht, rfl⟩ := List.mem_map.1 hx
  have ht2 := List.mem_range.1 ht
  unfold impl_flatsIn.c
  refine Ev.bind (implClos_ev hm L t hl hL (by omega)) ?_
  have : (((closN m L t : Nat) : Int) == (t : Int)) = isFlat m L (t : Int).toNat := by
    rw [Int.toNat_natCast]
    unfold isFlat
    rw [Bool.eq_iff_iff, beq_iff_eq, decide_eq_true_eq]
    omega
  rw [this]
  exact Ev.now _

end Go.Proofs.Ytinoamehdhgpgaa.Q

namespace Go.Proofs.Ytinoamehdhgpgaa.Q
open Go Go.RowKit Go.Proofs.Ytinoamehdhgpgaa.A Go.Proofs.YtinoamehdhgpgaaW.PrintWords Go.Proofs.YtinoamehdhgpgaaW.PrintLast Go.Proofs.YtinoamehdhgpgaaW.PrintMore Go.Proofs.Ytinoamehdhgpgaa.Z
set_option linter.unusedVariables false
set_option linter.unusedSimpArgs false

theorem specElements_ev (s : Int) : Ev (fun k => spec_ElementsOf.f k s) (elsB s) := by
  have h := down (P := fun i => ∀ acc : List Int, acc.length ≤ i → Ev (fun k => spec_ElementsOf.l0 k s acc (i : Int)) (acc ++ ((List.range' i (8 - i)).filter (fun e : Nat => hasB s (e : Int))).map (fun e : Nat => (e : Int)))) 8
    (by
      intro acc ha
      apply Ev.step
      · intro k
        simp only [spec_ElementsOf.l0, specHas_eq, Option.bind_some]
        rw [if_neg (by omega)]
      · simpa using Ev.now _)
    (by
      intro i hi ih acc ha
      apply Ev.step
      · intro k
        simp only [spec_ElementsOf.l0, specHas_eq, Option.bind_some]
        rw [if_pos (by omega), w_succ hi (by omega)]
      · rw [range'_cons hi, filter_cons_map]
        by_cases hx : hasB s (i : Int) = true
        · refine Ev.ifp hx (Ev.ifp (by omega) ?_)
          rw [if_pos hx, ← List.append_assoc]
          exact ih (acc ++ [(i : Int)]) (by simp; omega)
        · refine Ev.ifn hx ?_
          rw [if_neg hx]
          exact ih acc (by omega))
  have h0 := h [] (Nat.le_refl 0)
  rw [show ((0 : Nat) : Int) = 0 from rfl] at h0
  have e : elsB s = [] ++ ((List.range' 0 (8 - 0)).filter (fun e : Nat => hasB s (e : Int))).map (fun e : Nat => (e : Int)) := by
    unfold elsB
    rw [List.nil_append, List.range_eq_range']
  rw [e]
  unfold spec_ElementsOf.f
  exact h0

end Go.Proofs.Ytinoamehdhgpgaa.Q

namespace Go.Proofs.Ytinoamehdhgpgaa.Q
open Go Go.RowKit Go.Proofs.YtinoamehdhgpgaaW.PrintWords Go.Proofs.YtinoamehdhgpgaaW.PrintLast Go.Proofs.YtinoamehdhgpgaaW.PrintMore Go.Proofs.Ytinoamehdhgpgaa.Z
set_option linter.unusedVariables false
set_option linter.unusedSimpArgs false

theorem failE_none {l : List Int} {a b : Nat} : ∀ {es : List Nat}, failE l a b es = none → ∀ e ∈ es, hasEx l a b e = true := by
  intro es
  induction es with
  | nil => intro _ e he; simp at he
  | cons x es ih =>
    intro h e he
    simp only [failE] at h
    by_cases hx : hasEx l a b x = true
    · rw [if_pos hx] at h
      rcases List.mem_cons.1 he with rfl | he
      · exact hx
      · exact ih h e he
    · rw [if_neg hx] at h; cases h
theorem failB_none {l : List Int} {a : Nat} : ∀ {bs : List Nat}, failB l a bs = none → ∀ b ∈ bs, failE l a b (els (dif a b)) = none := by
  intro bs
  induction bs with
  | nil => intro _ e he; simp at he
  | cons x bs ih =>
    intro h b hb
    simp only [failB] at h
    cases hx : failE l a x (els (dif a x)) with
    | none =>
      rw [hx] at h
      rcases List.mem_cons.1 hb with rfl | hb
      · exact hx
      · exact ih h b hb
    | some e => rw [hx] at h; cases h
theorem failA_none {l : List Int} {L : List Nat} : ∀ {la : List Nat}, failA l L la = none → ∀ a ∈ la, failB l a L = none := by
  intro la
  induction la with
  | nil => intro _ e he; simp at he
  | cons x la ih =>
    intro h b hb
    simp only [failA] at h
    cases hx : failB l x L with
    | none =>
      rw [hx] at h
      rcases List.mem_cons.1 hb with rfl | hb
      · exact hx
      · exact ih h b hb
    | some e => rw [hx] at h; cases h
theorem ints_mem {L : List Nat} {x : Nat} : (ints L).contains (x : Int) = true ↔ x ∈ L := by
  rw [List.contains_iff_mem]
  unfold ints
  rw [List.mem_map]
  constructor
  · rintro ⟨y, hy, he⟩
    have : y = x := by omega
    subst this; exact hy
  · intro h; exact ⟨x, h, rfl⟩
/-- What IsMatroid tells is a matroid. -/
theorem matB_mat {n : Int} {l : List Int} (h : matB n l = true) : ∃ (m : Nat) (L : List Nat), n = m ∧ l = ints L ∧ Mat m L ∧ L.Pairwise (· < ·) := by
  have h0 := h
  obtain ⟨m, L, rfl, hm, rfl, hL, hL256, hp, hne⟩ := matB_nat h
  refine ⟨m, L, rfl, rfl, ⟨hm, hL, hne, ?_⟩, hp⟩
  simp only [matB, Bool.and_eq_true] at h0
  obtain ⟨hf, _, hff⟩ := h0
  unfold failT at hff
  rw [if_pos hf, show (ints L).map Int.toNat = L from toNat_map L] at hff
  cases hA : failA (ints L) L L with
  | some x => rw [hA] at hff; simp [told] at hff
  | none =>
    intro a ha b hb e he hae hbe
    have h1 := failE_none (failB_none (failA_none hA a ha) b hb) e (mem_els.2 ⟨he, by rw [dif_bit, hae, hbe]; rfl⟩)
    unfold hasEx at h1
    obtain ⟨f, hf', hc⟩ := List.any_eq_true.1 h1
    obtain ⟨hf8, hfb⟩ := mem_els.1 hf'
    rw [dif_bit] at hfb
    simp only [Bool.and_eq_true, Bool.not_eq_true'] at hfb
    exact ⟨f, hf8, hfb.1, hfb.2, ints_mem.1 hc⟩
end Go.Proofs.Ytinoamehdhgpgaa.Q

namespace Go.Proofs.Ytinoamehdhgpgaa.Q
open Go Go.RowKit Go.Proofs.Ytinoamehdhgpgaa.A Go.Proofs.YtinoamehdhgpgaaW.PrintWords Go.Proofs.YtinoamehdhgpgaaW.PrintLast Go.Proofs.YtinoamehdhgpgaaW.PrintMore Go.Proofs.Ytinoamehdhgpgaa.Z
set_option linter.unusedVariables false
set_option linter.unusedSimpArgs false

theorem pow_wrap {e : Nat} (he : e < 8) : IntKind.i64.wrap (2 ^ e) = ((2 ^ e : Nat) : Int) := by
  have h2 : (2 ^ e : Nat) < 9223372036854775808 := by
    have := Nat.pow_lt_pow_right (a := 2) (by decide) (show e < 63 by omega)
    simpa using this
  have h3 : (2 : Int) ^ e = ((2 ^ e : Nat) : Int) := by simp
  rw [h3]
  exact i64_wrap_nat h2
theorem implC_ev (l : List Int) (hl : l.length ≤ 17592186044416) (a e f : Nat) (ha : a < 256) (he : e < 8) (hf : f < 8) : Ev (fun k => impl_FirstFailure.c k l (a : Int) (e : Int) (f : Int)) (l.contains ((dif a (2 ^ e) ||| 2 ^ f : Nat) : Int)) := by
  unfold impl_FirstFailure.c impl_HasSet.f
  refine Ev.ifp (by omega) (Ev.ifp (by omega) ?_)
  have hp : ∀ x < 8, 2 ^ x < 2 ^ 63 := fun x hx => Nat.pow_lt_pow_right (by decide) (by omega)
  rw [Int.toNat_natCast, Int.toNat_natCast, pow_wrap he, pow_wrap hf, andNot_nat (lt256_63 ha) (hp e he), or_nat (lt256_63 (dif_lt ha)) (hp f hf)]
  exact Ev.bind (contains_ev l _ hl) (Ev.now _)
theorem els_lt {s e : Nat} (h : e ∈ els s) : e < 8 := (mem_els.1 h).1
theorem any_map (p : Int → Bool) (L : List Nat) : (L.map (fun x : Nat => (x : Int))).any p = L.any (fun x => p (x : Int)) := by
  rw [List.any_map]; rfl
theorem implFail_l2 (l : List Int) (hl : l.length ≤ 17592186044416) (a b : Nat) (ha : a < 256) (hb : b < 256) : ∀ es : List Nat, (∀ e ∈ es, e < 8) → Ev (fun k => impl_FirstFailure.l2 k l (a : Int) (b : Int) (es.map (fun x : Nat => (x : Int)))) ((failE l a b es).map (fun x : Nat => (x : Int))) := by
  intro es
  induction es with
  | nil => intro _; exact Ev.now _
  | cons e es ih =>
    intro hm
    have he := hm e (List.mem_cons_self ..)
    simp only [List.map_cons, impl_FirstFailure.l2]
    rw [andNot_nat (lt256_63 hb) (lt256_63 ha)]
    refine Ev.bind (implElements_ev _) ?_
    rw [elsB_nat (dif_lt hb)]
    refine Ev.bind (a := hasEx l a b e) ?_ ?_
    · have h := Ev_anyO (g := fun k f => impl_FirstFailure.c k l (a : Int) (e : Int) f) (p := fun f => l.contains ((dif a (2 ^ e) ||| 2 ^ f.toNat : Nat) : Int)) (l := (els (dif b a)).map (fun x : Nat => (x : Int)))
        (fun x hx => by
          obtain ⟨f, hf, rfl⟩ := List.mem_map.1 hx
          have := implC_ev l hl a e f ha he (els_lt hf)
          rw [Int.toNat_natCast]
          exact this)
      rw [any_map] at h
      simp only [Int.toNat_natCast] at h
      exact h
    · simp only [failE]
      by_cases hx : hasEx l a b e = true
      · refine Ev.ifp hx ?_
        rw [if_pos hx]
        exact ih (fun e' he' => hm e' (List.mem_cons_of_mem _ he'))
      · refine Ev.ifn hx ?_
        rw [if_neg hx]
        exact Ev.now _
theorem implFail_l1 (l : List Int) (hl : l.length ≤ 17592186044416) (a : Nat) (ha : a < 256) : ∀ bs : List Nat, (∀ b ∈ bs, b < 256) → Ev (fun k => impl_FirstFailure.l1 k l (a : Int) (bs.map (fun x : Nat => (x : Int)))) ((failB l a bs).map (fun x : Nat × Nat => ((x.1 : Int), (x.2 : Int)))) := by
  intro bs
  induction bs with
  | nil => intro _; exact Ev.now _
  | cons b bs ih =>
    intro hm
    have hb := hm b (List.mem_cons_self ..)
    simp only [List.map_cons, impl_FirstFailure.l1]
    rw [andNot_nat (lt256_63 ha) (lt256_63 hb)]
    refine Ev.bind (implElements_ev _) ?_
    rw [elsB_nat (dif_lt ha)]
    refine Ev.bind (implFail_l2 l hl a b ha hb _ (fun e he => els_lt he)) ?_
    simp only [failB]
    cases failE l a b (els (dif a b)) with
    | none => exact ih (fun b' hb' => hm b' (List.mem_cons_of_mem _ hb'))
    | some e => exact Ev.now _
theorem implFail_l0 (l : List Int) (L : List Nat) (hlL : l = L.map (fun x : Nat => (x : Int))) (hl : l.length ≤ 17592186044416) (hL : ∀ b ∈ L, b < 256) : ∀ la : List Nat, (∀ a ∈ la, a < 256) → Ev (fun k => impl_FirstFailure.l0 k l (la.map (fun x : Nat => (x : Int)))) ((failA l L la).map (fun x : Nat × Nat × Nat => ((x.1 : Int), (x.2.1 : Int), (x.2.2 : Int)))) := by
  intro la
  induction la with
  | nil => intro _; exact Ev.now _
  | cons a la ih =>
    intro hm
    have ha := hm a (List.mem_cons_self ..)
    simp only [List.map_cons, impl_FirstFailure.l0]
    refine Ev.bind (a := (failB l a L).map (fun x : Nat × Nat => ((x.1 : Int), (x.2 : Int)))) (by
      have := implFail_l1 l hl a ha L hL
      rw [← hlL] at this
      exact this) ?_
    simp only [failA]
    cases failB l a L with
    | none => exact ih (fun a' ha' => hm a' (List.mem_cons_of_mem _ ha'))
    | some x => exact Ev.now _
theorem implFail_ev (n : Int) (l : List Int) (hl : l.length ≤ 17592186044416) : Ev (fun k => impl_FirstFailure.f k n l) (failT n l) := by
  unfold impl_FirstFailure.f failT
  refine Ev.bind (implFam_ev n l hl) ?_
  by_cases hf : famB n l = true
  · refine Ev.ifp hf ?_
    rw [if_pos hf]
    obtain ⟨m, L, rfl, hm, hlL, hL, _⟩ := famB_nat hf
    have hmap : l.map Int.toNat = L := by rw [hlL, toNat_map]
    have h256 : ∀ b ∈ L, b < 256 := fun b hb => Nat.lt_of_lt_of_le (hL b hb) (pow_le_256 hm)
    have h := implFail_l0 l L hlL hl h256 L h256
    rw [← hlL] at h
    refine Ev.bind h ?_
    rw [hmap]
    cases failA l L L with
    | none => exact Ev.now _
    | some x => exact Ev.now _
  · refine Ev.ifn hf ?_
    rw [if_neg hf]
    exact Ev.now _

end Go.Proofs.Ytinoamehdhgpgaa.Q

namespace Go.Proofs.Ytinoamehdhgpgaa.Q
open Go Go.RowKit Go.Proofs.Ytinoamehdhgpgaa.A Go.Proofs.YtinoamehdhgpgaaW.PrintWords Go.Proofs.YtinoamehdhgpgaaW.PrintLast Go.Proofs.YtinoamehdhgpgaaW.PrintMore Go.Proofs.Ytinoamehdhgpgaa.Z
set_option linter.unusedVariables false
set_option linter.unusedSimpArgs false

theorem implMat_ev (n : Int) (l : List Int) (hl : l.length ≤ 17592186044416) : Ev (fun k => impl_IsMatroid.f k n l) (matB n l) := by
  unfold impl_IsMatroid.f matB
  refine Ev.bind (implFail_ev n l hl) (Ev.bind (implFam_ev n l hl) ?_)
  by_cases hf : famB n l = true
  · refine Ev.ifp hf ?_
    rw [hf, Bool.true_and]
    by_cases h0 : (l.length : Int) > 0
    · refine Ev.ifp h0 ?_
      rw [show decide ((l.length : Int) > 0) = true from by simpa using h0, Bool.true_and]
      exact Ev.now _
    · refine Ev.ifn h0 ?_
      rw [show decide ((l.length : Int) > 0) = false from by simpa using h0, Bool.false_and]
      exact Ev.now _
  · refine Ev.ifn hf ?_
    rw [Bool.eq_false_iff.2 hf, Bool.false_and]
    exact Ev.now _

end Go.Proofs.Ytinoamehdhgpgaa.Q

namespace Go.Proofs.Ytinoamehdhgpgaa.Q
open Go Go.RowKit Go.Proofs.YtinoamehdhgpgaaW.PrintWords Go.Proofs.YtinoamehdhgpgaaW.PrintLast Go.Proofs.YtinoamehdhgpgaaW.PrintMore Go.Proofs.Ytinoamehdhgpgaa.Z
set_option linter.unusedVariables false
set_option linter.unusedSimpArgs false

theorem rk_ge {L : List Nat} {b : Nat} (hb : b ∈ L) (s : Nat) : pc (b &&& s) ≤ rkN L s := maxN_mem _ 0 _ (List.mem_map.2 ⟨b, hb, rfl⟩)
theorem rk_attain {L : List Nat} (hne : L ≠ []) (s : Nat) : ∃ b ∈ L, pc (b &&& s) = rkN L s := by
  rcases maxN_cases (L.map (fun b => pc (b &&& s))) 0 with h | h
  · obtain ⟨b, hb⟩ := List.exists_mem_of_ne_nil L hne
    have := rk_ge hb s
    refine ⟨b, hb, ?_⟩
    unfold rkN at this ⊢
    omega
  · obtain ⟨b, hb, e⟩ := List.mem_map.1 h
    exact ⟨b, hb, e⟩
theorem rk_mono {L : List Nat} (hne : L ≠ []) {X Y : Nat} (h : ∀ i, X.testBit i = true → Y.testBit i = true) : rkN L X ≤ rkN L Y := by
  obtain ⟨b, hb, e⟩ := rk_attain hne X
  rw [← e]
  refine Nat.le_trans (pc_mono fun i _ hi => ?_) (rk_ge hb Y)
  rw [Nat.testBit_and, Bool.and_eq_true] at hi ⊢
  exact ⟨hi.1, h i hi.2⟩
theorem Mat.both_step {m : Nat} {L : List Nat} (h : Mat m L) {S T c : Nat} (hST : ∀ i, S.testBit i = true → T.testBit i = true) (hc : c ∈ L) (hcT : pc (c &&& T) = rkN L T) : ∀ (d b : Nat), b ∈ L → pc (b &&& S) = rkN L S → pc (dif b c) = d → ∃ b ∈ L, pc (b &&& S) = rkN L S ∧ pc (b &&& T) = rkN L T := by
  intro d
  induction d with
  | zero =>
    intro b hb hS hd
    refine ⟨b, hb, hS, Nat.le_antisymm (rk_ge hb T) ?_⟩
    rw [← hcT]
    have hcard := h.card hb hc
    refine pc_mono fun i hi hbi => ?_
    rw [Nat.testBit_and, Bool.and_eq_true] at hbi ⊢
    refine ⟨?_, hbi.2⟩
    cases hb' : b.testBit i
    · have h1 : pc b < pc c := by
        have e1 := pc_dif_and c (2 ^ i)
        have hle : pc b ≤ pc (dif c (2 ^ i)) := pc_mono fun j hj hbj => by
          rw [del_bit]
          have : c.testBit j = true := by
            cases hcj : c.testBit j
            · have : 0 < pc (dif b c) := pc_pos hj (by rw [dif_bit, hbj, hcj]; rfl)
              omega
            · rfl
          rw [this]
          have hne : ¬ i = j := by rintro rfl; rw [hb'] at hbj; cases hbj
          simp [hne]
        have := pc_del hi hbi.1
        omega
      omega
    · rfl
  | succ d ih =>
    intro b hb hS hd
    by_cases hT : pc (b &&& T) = rkN L T
    · exact ⟨b, hb, hS, hT⟩
    · have hlt : pc (b &&& T) < pc (c &&& T) := by
        have := rk_ge hb T
        omega
      have hcard := h.card hb hc
      have e1 := pc_dif_and b T
      have e2 := pc_dif_and c T
      obtain ⟨e, he, hbe, hce⟩ := exists_new (a := dif c T) (b := dif b T) (by omega)
      rw [dif_bit, Bool.and_eq_true, Bool.not_eq_true'] at hbe
      have hce' : c.testBit e = false := by
        rw [dif_bit, hbe.2] at hce
        simpa using hce
      obtain ⟨f, hf, h1, h2, hm⟩ := h.exch b hb c hc e he hbe.1 hce'
      refine ih (swp b e f) hm ?_ ?_
      · refine Nat.le_antisymm (rk_ge hm S) ?_
        rw [← hS]
        refine pc_mono fun i _ hi => ?_
        rw [Nat.testBit_and, Bool.and_eq_true] at hi ⊢
        refine ⟨?_, hi.2⟩
        have hie : ¬ e = i := by rintro rfl; have := hST _ hi.2; rw [hbe.2] at this; cases this
        rw [swp_bit, hi.1]
        simp [hie]
      · have e3 : dif (swp b e f) c = dif (dif b c) (2 ^ e) := by
          apply Nat.eq_of_testBit_eq
          intro i
          rw [dif_bit, swp_bit, del_bit, dif_bit]
          by_cases hi : f = i
          · subst hi; rw [h1, h2]; simp
          · simp [hi]
            cases b.testBit i <;> cases c.testBit i <;> simp
        rw [e3]
        have := pc_del (a := dif b c) he (by rw [dif_bit, hbe.1, hce']; rfl)
        omega
theorem Mat.both {m : Nat} {L : List Nat} (h : Mat m L) {S T : Nat} (hST : ∀ i, S.testBit i = true → T.testBit i = true) : ∃ b ∈ L, pc (b &&& S) = rkN L S ∧ pc (b &&& T) = rkN L T := by
  obtain ⟨c, hc, hcT⟩ := rk_attain h.some T
  obtain ⟨b, hb, hbS⟩ := rk_attain h.some S
  exact Mat.both_step h hST hc hcT _ b hb hbS rfl
theorem bit_out {m A i : Nat} (h : A < 2 ^ m) (hi : m ≤ i) : A.testBit i = false := Nat.testBit_lt_two_pow (Nat.lt_of_lt_of_le h (Nat.pow_le_pow_right (by omega) hi))
/-- Equal at every bit below m, at m, and beyond. -/
theorem eq_at {X Y m : Nat} (h1 : ∀ i, i < m → X.testBit i = Y.testBit i) (h2 : X.testBit m = Y.testBit m) (h3 : ∀ i, m < i → X.testBit i = Y.testBit i) : X = Y := by
  apply Nat.eq_of_testBit_eq
  intro i
  rcases Nat.lt_trichotomy i m with h | h | h
  · exact h1 i h
  · subst h; exact h2
  · exact h3 i h
end Go.Proofs.Ytinoamehdhgpgaa.Q

namespace Go.Proofs.Ytinoamehdhgpgaa.Q
open Go Go.RowKit Go.Proofs.Ytinoamehdhgpgaa.A Go.Proofs.YtinoamehdhgpgaaW.PrintWords Go.Proofs.YtinoamehdhgpgaaW.PrintLast Go.Proofs.YtinoamehdhgpgaaW.PrintMore Go.Proofs.Ytinoamehdhgpgaa.Z
set_option linter.unusedVariables false
set_option linter.unusedSimpArgs false

theorem els_full : ∀ q < 9, els (fullN q) = List.range q := by decide +kernel
theorem mod_bit : ∀ b < 256, ∀ i < 8, b % 2 ^ (i + 1) = b % 2 ^ i + (if b.testBit i = true then 2 ^ i else 0) := by decide +kernel
theorem specPackId_ev {q b : Nat} (hq : q ≤ 8) (hb : b < 2 ^ q) : Ev (fun k => spec_PackSet.f k (b : Int) ((fullN q : Nat) : Int)) (b : Int) := by
  have hb256 := Nat.lt_of_lt_of_le hb (pow_le_256 hq)
  unfold spec_PackSet.f
  have he := specElements_ev ((fullN q : Nat) : Int)
  rw [elsB_nat (full_lt hq).2, els_full q (by omega)] at he
  refine Ev.bind he ?_
  have hd := down (P := fun i => Ev (fun k => spec_PackSet.l0 k (b : Int) ((b % 2 ^ i : Nat) : Int) ((List.range q).map (fun e : Nat => (e : Int))) (i : Int)) (b : Int)) q
    (by
      apply Ev.step
      · intro k
        rw [spec_PackSet.l0, if_neg (by rw [List.length_map, List.length_range]; omega)]
      · rw [Nat.mod_eq_of_lt hb]; exact Ev.now _)
    (by
      intro i hi ih
      have hrd : rd ((List.range q).map (fun e : Nat => (e : Int))) (i : Int) = (i : Int) := by
        rw [rd_getElem _ i (by rw [List.length_map, List.length_range]; exact hi)]
        simp
      have hm := mod_bit b hb256 i (by omega)
      have h1 : b % 2 ^ i < 256 := Nat.lt_of_le_of_lt (Nat.mod_le _ _) hb256
      have h2 : 2 ^ i < 256 := Nat.pow_lt_pow_right (by omega) (show i < 8 by omega)
      apply Ev.step
      · intro k
        rw [spec_PackSet.l0, if_pos (by rw [List.length_map, List.length_range]; omega), if_pos (by omega), hrd, u64_of (n := (i : Int)) (by omega) (by omega), shl_one (by omega), w_succ hi (by omega), wrap64_of (n := ((b % 2 ^ i : Nat) : Int) + ((2 ^ i : Nat) : Int)) (by omega) (by omega)]
      · refine Ev.cbind (specHas_eq _ _) ?_
        rw [hasB_nat, show decide (b < 256) = true from decide_eq_true hb256, show decide (i < 8) = true from decide_eq_true (by omega), Bool.true_and, Bool.true_and]
        by_cases hx : b.testBit i = true
        · rw [if_pos hx] at hm
          rw [hm] at ih
          refine Ev.ifp hx (Ev.ifp (by omega) ?_)
          rw [show ((b % 2 ^ i : Nat) : Int) + ((2 ^ i : Nat) : Int) = ((b % 2 ^ i + 2 ^ i : Nat) : Int) from by omega]
          exact ih
        · rw [if_neg hx] at hm
          rw [hm] at ih
          exact Ev.ifn hx ih)
  rw [Nat.pow_zero, Nat.mod_one] at hd
  exact hd
def orAll (acc : Nat) (l : List Nat) : Nat := l.foldl (fun a e => a ||| 2 ^ e) acc
theorem orAll_bit (l : List Nat) (j : Nat) : ∀ acc : Nat, (orAll acc l).testBit j = (acc.testBit j || decide (j ∈ l)) := by
  induction l with
  | nil => intro acc; simp [orAll]
  | cons e l ih =>
    intro acc
    have := ih (acc ||| 2 ^ e)
    unfold orAll at this ⊢
    rw [List.foldl_cons, this, add_bit, Bool.or_assoc]
    congr 1
    rw [Bool.eq_iff_iff]
    simp only [Bool.or_eq_true, decide_eq_true_eq, List.mem_cons]
    constructor
    · rintro (h | h)
      · exact .inl h.symm
      · exact .inr h
    · rintro (h | h)
      · exact .inl h.symm
      · exact .inr h
theorem orAll_lt (l : List Nat) : ∀ acc : Nat, acc < 256 → (∀ e ∈ l, e < 8) → orAll acc l < 256 := by
  induction l with
  | nil => intro acc h _; exact h
  | cons e l ih =>
    intro acc h h8
    exact ih _ (Nat.or_lt_two_pow (n := 8) h (Nat.pow_lt_pow_right (by omega) (h8 e (List.mem_cons_self ..)))) (fun x hx => h8 x (List.mem_cons_of_mem _ hx))
theorem orAll_els {s : Nat} (hs : s < 256) : orAll 0 (els s) = s := by
  apply set_ext (orAll_lt _ 0 (by omega) (fun e he => (mem_els.1 he).1)) hs
  intro i hi
  rw [orAll_bit, Nat.zero_testBit, Bool.false_or, Bool.eq_iff_iff, decide_eq_true_eq, mem_els]
  exact ⟨fun h => h.2, fun h => ⟨hi, h⟩⟩
theorem implUnpackId_ev {q s : Nat} (hq : q ≤ 8) (hs : s < 2 ^ q) : Ev (fun k => impl_UnpackSet.f k (s : Int) ((fullN q : Nat) : Int)) (s : Int) := by
  have hs256 := Nat.lt_of_lt_of_le hs (pow_le_256 hq)
  unfold impl_UnpackSet.f
  have he := implElements_ev ((fullN q : Nat) : Int)
  rw [elsB_nat (full_lt hq).2, els_full q (by omega)] at he
  have he2 := implElements_ev (s : Int)
  rw [elsB_nat hs256] at he2
  refine Ev.bind he (Ev.bind he2 ?_)
  have hmem : ∀ e ∈ els s, e < q := by
    intro e hh
    rcases Nat.lt_or_ge e q with h | h
    · exact h
    · have := (mem_els.1 hh).2
      rw [bit_out hs h] at this; cases this
  have hlen : (els s).length ≤ 8 := pc_le s
  have hres := orAll_els hs256
  generalize els s = C at hmem hlen hres ⊢
  have hd := down (P := fun i => ∀ acc : Nat, acc < 256 → Ev (fun k => impl_UnpackSet.l0 k ((List.range q).map (fun e : Nat => (e : Int))) (acc : Int) (C.map (fun e : Nat => (e : Int))) ((C.map (fun e : Nat => (e : Int))).length : Int) (i : Int)) ((orAll acc (C.drop i) : Nat) : Int)) C.length
    (by
      intro acc _
      apply Ev.step
      · intro k
        rw [impl_UnpackSet.l0, if_neg (by rw [List.length_map]; omega)]
      · rw [drop_end]; exact Ev.now _)
    (by
      intro i hi ih acc ha
      have hc := hmem _ (List.getElem_mem hi)
      have h2 : 2 ^ C[i] < 256 := Nat.pow_lt_pow_right (by omega) (show C[i] < 8 by omega)
      have hrd : rd (C.map (fun e : Nat => (e : Int))) (i : Int) = (C[i] : Int) := by
        rw [rd_getElem _ i (by rw [List.length_map]; exact hi)]
        simp
      have hrd2 : rd ((List.range q).map (fun e : Nat => (e : Int))) (C[i] : Int) = (C[i] : Int) := by
        rw [rd_getElem _ C[i] (by rw [List.length_map, List.length_range]; exact hc)]
        simp
      apply Ev.step
      · intro k
        rw [impl_UnpackSet.l0, if_pos (by rw [List.length_map]; omega), if_pos (by omega), if_pos (by rw [List.length_map]; omega), hrd, hrd2, if_neg (by rw [List.length_map, List.length_range]; omega), if_pos (by omega), if_pos (by rw [List.length_map, List.length_range]; omega), if_pos (by omega), shl_one (by omega), or_nat (lt256_63 ha) (lt256_63 h2), w_succ hi (by omega)]
      · rw [drop_cons C i hi]
        exact ih _ (Nat.or_lt_two_pow (n := 8) ha h2))
  have h0 := hd 0 (by omega)
  rw [List.drop_zero, hres] at h0
  exact h0
/-- The bases of what is left on the first q elements. -/
def delN (q : Nat) (L : List Nat) : List Nat := (List.range (2 ^ q)).filter (fun s => decide (pc s = rkN L (fullN q)) && decide (rkN L s = rkN L (fullN q)))
theorem delN_lt {q : Nat} {L : List Nat} {s : Nat} (h : s ∈ delN q L) : s < 2 ^ q := List.mem_range.1 (List.mem_filter.1 h).1
theorem delN_len {q : Nat} (hq : q ≤ 8) (L : List Nat) : (delN q L).length ≤ 256 := by
  have h1 : (delN q L).length ≤ (List.range (2 ^ q)).length := List.length_filter_le _ _
  rw [List.length_range] at h1
  have := pow_le_256 hq
  omega
theorem ints_pair {L : List Nat} (h : L.Pairwise (· < ·)) : (ints L).Pairwise (· < ·) := by
  unfold ints
  rw [List.pairwise_map]
  exact h.imp (fun hab => by omega)
theorem delN_pair (q : Nat) (L : List Nat) : (delN q L).Pairwise (· < ·) := List.Pairwise.filter _ List.pairwise_lt_range
theorem and_full {q b : Nat} : b &&& fullN q < 2 ^ q := by
  have : fullN q < 2 ^ q := by unfold fullN; have := Nat.two_pow_pos q; omega
  exact Nat.lt_of_le_of_lt Nat.and_le_right this
theorem sub_card {a b : Nat} (ha : a < 256) (hb : b < 256) (h : subN a b) (hc : pc b ≤ pc a) : a = b := by
  apply set_ext ha hb
  intro i hi
  cases hbi : b.testBit i
  · cases hai : a.testBit i
    · rfl
    · rw [subN_bit.1 h i hai] at hbi; cases hbi
  · cases hai : a.testBit i
    · have h1 : pc a ≤ pc (dif b (2 ^ i)) := pc_mono fun j _ hj => by
        rw [del_bit, subN_bit.1 h j hj]
        have : ¬ i = j := by rintro rfl; rw [hai] at hj; cases hj
        simp [this]
      have := pc_del hi hbi
      omega
    · rfl
/-- The parts of bases below q that are largest are those sets. -/
theorem del_mem {q : Nat} {L : List Nat} (hq : q ≤ 8) (hne : L ≠ []) (a : Nat) : (∃ b ∈ L, pc (b &&& fullN q) = rkN L (fullN q) ∧ b &&& fullN q = a) ↔ a ∈ delN q L := by
  unfold delN
  rw [List.mem_filter, List.mem_range, Bool.and_eq_true, decide_eq_true_eq, decide_eq_true_eq]
  have h256 := pow_le_256 hq
  constructor
  · rintro ⟨b, hb, hp, rfl⟩
    have hlt : b &&& fullN q < 2 ^ q := and_full
    refine ⟨hlt, hp, Nat.le_antisymm (rk_mono hne fun i hi => ?_) ?_⟩
    · rw [Nat.testBit_and, Bool.and_eq_true] at hi; exact hi.2
    · rw [← hp]
      have := rk_ge hb (b &&& fullN q)
      rw [← Nat.and_assoc, Nat.and_self] at this
      exact this
  · rintro ⟨hlt, hp, hr⟩
    have hi : indN L a = true := (rk_eq_iff (by omega) hne).1 (by omega)
    obtain ⟨b, hb, hs⟩ := indN_iff.1 hi
    have hsub : subN a (b &&& fullN q) := subN_bit.2 fun i hi => by
      rw [Nat.testBit_and, subN_bit.1 hs i hi, full_bit]
      rcases Nat.lt_or_ge i q with h | h
      · rw [decide_eq_true h]; rfl
      · rw [bit_out hlt h] at hi; cases hi
    have hge := rk_ge hb (fullN q)
    have hlt2 : b &&& fullN q < 2 ^ q := and_full
    have he := sub_card (by omega) (by omega) hsub (by omega)
    exact ⟨b, hb, by rw [← he]; exact hp, he.symm⟩

end Go.Proofs.Ytinoamehdhgpgaa.Q

namespace Go.Proofs.Ytinoamehdhgpgaa.Q
open Go Go.RowKit Go.Proofs.Ytinoamehdhgpgaa.A Go.Proofs.YtinoamehdhgpgaaW.PrintWords Go.Proofs.YtinoamehdhgpgaaW.PrintLast Go.Proofs.YtinoamehdhgpgaaW.PrintMore Go.Proofs.Ytinoamehdhgpgaa.Z
set_option linter.unusedVariables false
set_option linter.unusedSimpArgs false

theorem sortO_ints {X : List Int} {D : List Nat} (hD : D.Pairwise (· < ·)) (h : ∀ a, a ∈ X ↔ a ∈ ints D) : sortO [] X = ints D := by
  refine pair_unique (sortO_pair X [] List.Pairwise.nil) (ints_pair hD) (fun a => ?_)
  rw [sortO_mem, h]
  simp
theorem full_set {m q : Nat} (hq : q ≤ m) : fullN q < 2 ^ m := by
  have h1 : 2 ^ q ≤ 2 ^ m := Nat.pow_le_pow_right (by omega) hq
  have := Nat.two_pow_pos q
  unfold fullN
  omega
theorem specBases_ev {m q : Nat} {L : List Nat} (hmat : matB (m : Int) (ints L) = true) (hM : Mat m L) (hq : q ≤ m) (hl : L.length ≤ 8796093022208) : Ev (fun k => spec_BasesOf.f k (m : Int) (ints L) ((fullN q : Nat) : Int)) (ints (delN q L)) := by
  have hm := hM.size
  have hq8 : q ≤ 8 := by omega
  have hf := full_lt hq8
  have hset : isSetB (m : Int) ((fullN q : Nat) : Int) = true := by
    rw [isSetB_nat, show decide (m ≤ 8) = true from decide_eq_true hm, show decide (fullN q < 2 ^ m) = true from decide_eq_true (full_set hq)]; rfl
  unfold spec_BasesOf.f spec_RankOf.f
  simp only [Option.bind_some]
  refine Ev.bind (a := (rkN L (fullN q) : Int)) (Ev.bind (specMat_ev _ _ (by rw [ints_len]; omega)) (Ev.ifp hmat (Ev.cbind (specIsSet_eq _ _) (Ev.ifp hset (Ev.bind (specRank_ev _ L _ (by omega) hM.lt hf.2) (Ev.now _)))))) (Ev.ifn (by omega) ?_)
  have hd := down (P := fun i => ∀ acc : List Nat, acc.length ≤ i → Ev (fun k => spec_BasesOf.l0 k ((fullN q : Nat) : Int) (ints acc) (rkN L (fullN q) : Int) (i : Int) (m : Int) (ints L)) (sortO [] (ints (acc ++ ((L.drop i).filter (fun b => decide (pc (b &&& fullN q) = rkN L (fullN q)))).map (fun b => b &&& fullN q))))) L.length
    (by
      intro acc ha
      apply Ev.step
      · intro k
        rw [spec_BasesOf.l0, if_neg (by rw [ints_len]; omega)]
      · rw [drop_end, List.filter_nil, List.map_nil, List.append_nil]
        exact Ev.bind (specSort_ev _ (by rw [ints_len]; omega)) (Ev.now _))
    (by
      intro i hi ih acc ha
      have hb := hM.lt _ (List.getElem_mem hi)
      apply Ev.step
      · intro k
        rw [spec_BasesOf.l0, if_pos (by rw [ints_len]; omega), if_pos (by omega), ints_rd L i hi, w_succ hi (by omega), and_nat (lt256_63 hb) (lt256_63 hf.2)]
      · rw [drop_cons L i hi, List.filter_cons]
        refine Ev.bind (specCount_ev _ (and_lt hb)) ?_
        by_cases h : pc (L[i] &&& fullN q) = rkN L (fullN q)
        · rw [if_pos (decide_eq_true h)]
          refine Ev.ifp (by omega) (Ev.ifp (by rw [ints_len]; omega) ?_)
          have := ih (acc ++ [L[i] &&& fullN q]) (by rw [List.length_append, List.length_singleton]; omega)
          rw [List.append_assoc, List.singleton_append] at this
          rw [show ints acc ++ [((L[i] &&& fullN q : Nat) : Int)] = ints (acc ++ [L[i] &&& fullN q]) from by simp [ints]]
          exact this
        · rw [if_neg (by simpa using h)]
          exact Ev.ifn (by omega) (ih acc (by omega)))
  have h0 := hd [] (Nat.zero_le _)
  rw [List.drop_zero, List.nil_append, sortO_ints (delN_pair q L) (fun a => ?_)] at h0
  · exact h0
  · unfold ints
    rw [List.mem_map, List.mem_map]
    constructor
    · rintro ⟨x, hx, rfl⟩
      obtain ⟨b, hb, rfl⟩ := List.mem_map.1 hx
      obtain ⟨hb1, hb2⟩ := List.mem_filter.1 hb
      exact ⟨_, (del_mem hq8 hM.some _).1 ⟨b, hb1, of_decide_eq_true hb2, rfl⟩, rfl⟩
    · rintro ⟨x, hx, rfl⟩
      obtain ⟨b, hb, hp, rfl⟩ := (del_mem hq8 hM.some x).2 hx
      exact ⟨_, List.mem_map.2 ⟨b, List.mem_filter.2 ⟨hb, decide_eq_true hp⟩, rfl⟩, rfl⟩
theorem specPack10_ev {q : Nat} (hq : q ≤ 8) (L : List Nat) : Ev (fun k => spec_l10Pack.f k ((fullN q : Nat) : Int) (ints (delN q L))) ((q : Int), ints (delN q L)) := by
  have hf := full_lt hq
  have hlen := delN_len hq L
  have hlt : ∀ x ∈ delN q L, x < 2 ^ q := fun x hx => delN_lt hx
  have hpair := delN_pair q L
  have hcount := specCount_ev (fullN q) hf.2
  have hpq : pc (fullN q) = q := by
    unfold pc
    rw [els_full q (by omega), List.length_range]
  rw [hpq] at hcount
  generalize delN q L = D at hlen hlt hpair ⊢
  have hd := down (P := fun i => ∀ acc : List Nat, acc.length ≤ i → acc ++ D.drop i = D → Ev (fun k => spec_l10Pack.l0 k ((fullN q : Nat) : Int) (ints D) (ints acc) (i : Int)) ((q : Int), ints D)) D.length
    (by
      intro acc ha hacc
      rw [drop_end, List.append_nil] at hacc
      subst hacc
      apply Ev.step
      · intro k
        rw [spec_l10Pack.l0, if_neg (by rw [ints_len]; omega)]
      · refine Ev.bind hcount (Ev.bind (specSort_ev _ (by rw [ints_len]; omega)) ?_)
        rw [sortO_ints hpair (fun a => Iff.rfl)]
        exact Ev.now _)
    (by
      intro i hi ih acc ha hacc
      apply Ev.step
      · intro k
        rw [spec_l10Pack.l0, if_pos (by rw [ints_len]; omega), if_pos (by omega), ints_rd D i hi, w_succ hi (by omega)]
      · refine Ev.bind (specPackId_ev hq (hlt _ (List.getElem_mem hi))) (Ev.ifp (by rw [ints_len]; omega) ?_)
        rw [show ints acc ++ [(D[i] : Int)] = ints (acc ++ [D[i]]) from by simp [ints]]
        refine ih _ (by rw [List.length_append, List.length_singleton]; omega) ?_
        rw [List.append_assoc, List.singleton_append, ← drop_cons D i hi]
        exact hacc)
  unfold spec_l10Pack.f
  exact hd [] (Nat.zero_le _) (by simp)
theorem specDel_ev {q : Nat} {L : List Nat} (hmat : matB ((q + 1 : Nat) : Int) (ints L) = true) (hM : Mat (q + 1) L) (hl : L.length ≤ 8796093022208) : Ev (fun k => spec_DeleteSet.f k ((q + 1 : Nat) : Int) (ints L) ((2 ^ q : Nat) : Int)) ((q : Int), ints (delN q L)) := by
  have hm := hM.size
  have hp : 2 ^ q < 2 ^ (q + 1) := Nat.pow_lt_pow_right (by omega) (by omega)
  have h256 : 2 ^ q < 256 := Nat.pow_lt_pow_right (by omega) (show q < 8 by omega)
  have hset : isSetB ((q + 1 : Nat) : Int) ((2 ^ q : Nat) : Int) = true := by
    rw [isSetB_nat, show decide (q + 1 ≤ 8) = true from decide_eq_true hm, show decide (2 ^ q < 2 ^ (q + 1)) = true from decide_eq_true hp]; rfl
  have hdiff : wrap64 (((fullN (q + 1) : Nat) : Int) - ((2 ^ q : Nat) : Int)) = ((fullN q : Nat) : Int) := by
    have e : 2 ^ (q + 1) = 2 ^ q + 2 ^ q := by rw [Nat.pow_succ]; omega
    have := Nat.two_pow_pos q
    have hf := full_lt hm
    rw [wrap64_of (by omega) (by omega)]
    unfold fullN
    omega
  unfold spec_DeleteSet.f spec_RankOf.f
  refine Ev.bind (a := (rkN L (2 ^ q) : Int)) (Ev.bind (specMat_ev _ _ (by rw [ints_len]; omega)) (Ev.ifp hmat (Ev.cbind (specIsSet_eq _ _) (Ev.ifp hset (Ev.bind (specRank_ev _ L _ (by omega) hM.lt h256) (Ev.now _)))))) (Ev.ifn (by omega) ?_)
  refine Ev.cbind (specFull_eq hm) ?_
  rw [hdiff]
  exact Ev.bind (specBases_ev hmat hM (by omega) hl) (Ev.bind (specPack10_ev (by omega) L) (Ev.now _))
theorem implMinor_ev {q : Nat} {L : List Nat} (hM : Mat (q + 1) L) (hl : L.length ≤ 8796093022208) : Ev (fun k => impl_minor.f k ((q + 1 : Nat) : Int) (ints L) ((fullN q : Nat) : Int) 0) ((q : Int), ints (delN q L)) := by
  have hm := hM.size
  have hq : q ≤ 8 := by omega
  have hf := full_lt hq
  have hpos := Nat.two_pow_pos q
  have h2q := pow_le_256 hq
  have hpq : pc (fullN q) = q := by
    unfold pc
    rw [els_full q (by omega), List.length_range]
  have hr0 : rkN L 0 = 0 := by have := rkN_le L 0; rw [pc_zero] at this; omega
  have hrk0 := implRank_ev ((q + 1 : Nat) : Int) L 0 (by omega) hM.lt (by decide)
  rw [hr0] at hrk0
  unfold impl_minor.f
  rw [show (0 : Int) = ((0 : Nat) : Int) from rfl, or_nat (lt256_63 hf.2) (by decide), Nat.or_zero]
  refine Ev.bind hrk0 (Ev.bind (implRank_ev _ L (fullN q) (by omega) hM.lt hf.2) (Ev.cbind (implCount_eq _ hf.2) ?_))
  have hrle := Nat.le_trans (rkN_le L (fullN q)) (pc_le (fullN q))
  rw [hpq, wrap64_of (n := (rkN L (fullN q) : Int) - ((0 : Nat) : Int)) (by omega) (by omega), show (rkN L (fullN q) : Int) - ((0 : Nat) : Int) = (rkN L (fullN q) : Int) from by omega]
  have hd := down (P := fun i => ∀ acc : List Nat, acc.length ≤ i → Ev (fun k => impl_minor.l0 k ((fullN q : Nat) : Int) ((0 : Nat) : Int) ((0 : Nat) : Int) (rkN L (fullN q) : Int) (i : Int) ((q + 1 : Nat) : Int) (ints L) (q : Int) (ints acc)) ((q : Int), ints (acc ++ (List.range' i (2 ^ q - i)).filter (fun s => decide (pc s = rkN L (fullN q)) && decide (rkN L s = rkN L (fullN q)))))) (2 ^ q)
    (by
      intro acc _
      apply Ev.step
      · intro k
        simp only [impl_minor.l0, implFull_eq hq, Option.bind_some]
        rw [if_neg (by unfold fullN; omega)]
      · rw [Nat.sub_self, List.range'_zero, List.filter_nil, List.append_nil]; exact Ev.now _)
    (by
      intro i hi ih acc ha
      have hi256 : i < 256 := by omega
      have hri := Nat.le_trans (rkN_le L i) (pc_le i)
      apply Ev.step
      · intro k
        simp only [impl_minor.l0, implFull_eq hq, implCount_eq i hi256, Option.bind_some]
        rw [if_pos (by unfold fullN; omega), w_succ hi (by omega)]
      · rw [range'_cons' hi, List.filter_cons]
        by_cases h1 : pc i = rkN L (fullN q)
        · refine Ev.ifp (by omega) (Ev.bind (implUnpackId_ev hq hi) ?_)
          rw [or_nat (lt256_63 hi256) (by decide), Nat.or_zero]
          refine Ev.bind (implRank_ev _ L i (by omega) hM.lt hi256) ?_
          rw [wrap64_of (n := (rkN L i : Int) - ((0 : Nat) : Int)) (by omega) (by omega)]
          by_cases h2 : rkN L i = rkN L (fullN q)
          · rw [if_pos (by rw [decide_eq_true h1, decide_eq_true h2]; rfl)]
            refine Ev.ifp (by omega) (Ev.ifp (by rw [ints_len]; omega) ?_)
            have := ih (acc ++ [i]) (by rw [List.length_append, List.length_singleton]; omega)
            rw [List.append_assoc, List.singleton_append] at this
            rw [show ints acc ++ [(i : Int)] = ints (acc ++ [i]) from by simp [ints]]
            exact this
          · rw [if_neg (by rw [decide_eq_false h2, Bool.and_false]; decide)]
            exact Ev.ifn (by omega) (ih acc (by omega))
        · rw [if_neg (by rw [decide_eq_false h1, Bool.false_and]; decide)]
          exact Ev.ifn (by omega) (ih acc (by omega)))
  have h0 := hd [] (Nat.zero_le _)
  rw [Nat.sub_zero, ← List.range_eq_range', List.nil_append] at h0
  exact h0
theorem implDel_ev {q : Nat} {L : List Nat} (hmat : matB ((q + 1 : Nat) : Int) (ints L) = true) (hM : Mat (q + 1) L) (hl : L.length ≤ 8796093022208) : Ev (fun k => impl_DeleteSet.f k ((q + 1 : Nat) : Int) (ints L) ((2 ^ q : Nat) : Int)) ((q : Int), ints (delN q L)) := by
  have hm := hM.size
  have hp : 2 ^ q < 2 ^ (q + 1) := Nat.pow_lt_pow_right (by omega) (by omega)
  have h256 : 2 ^ q < 256 := Nat.pow_lt_pow_right (by omega) (show q < 8 by omega)
  have hset : isSetB ((q + 1 : Nat) : Int) ((2 ^ q : Nat) : Int) = true := by
    rw [isSetB_nat, show decide (q + 1 ≤ 8) = true from decide_eq_true hm, show decide (2 ^ q < 2 ^ (q + 1)) = true from decide_eq_true hp]; rfl
  have hfm := full_lt hm
  have hdiff : dif (fullN (q + 1)) (2 ^ q) = fullN q := by
    refine eq_at (m := q) (fun i hi => ?_) ?_ (fun i hi => ?_) <;> simp only [dif_bit, full_bit, Nat.testBit_two_pow]
    · have : ¬ q = i := by omega
      simp [this, hi, show i < q + 1 by omega]
    · simp
    · simp [show ¬ i < q + 1 by omega, show ¬ i < q by omega]
  unfold impl_DeleteSet.f impl_knows.f
  refine Ev.bind (a := true) ?_ (Ev.ifp rfl (Ev.cbind (implFull_eq hm) ?_))
  · refine Ev.bind (implMat_ev _ _ (by rw [ints_len]; omega)) (Ev.ifp hmat (Ev.cbind (implIsSet_eq _ _) ?_))
    rw [hset]; exact Ev.now _
  · rw [andNot_nat (lt256_63 hfm.2) (lt256_63 h256), hdiff]
    exact Ev.bind (implMinor_ev hM hl) (Ev.now _)

end Go.Proofs.Ytinoamehdhgpgaa.Q

namespace Go.Proofs.Ytinoamehdhgpgaa.Q
open Go Go.RowKit Go.Proofs.Ytinoamehdhgpgaa.A Go.Proofs.YtinoamehdhgpgaaW.PrintWords Go.Proofs.YtinoamehdhgpgaaW.PrintLast Go.Proofs.YtinoamehdhgpgaaW.PrintMore Go.Proofs.Ytinoamehdhgpgaa.Z
set_option linter.unusedVariables false
set_option linter.unusedSimpArgs false

def cutL (q : Nat) (L : List Nat) : List Nat := (flN q (delN q L)).filter (fun f => decide (rkN L f = rkN L (f ||| 2 ^ q)))
def cutOfB (n : Int) (l : List Int) : List Int := if matB n l = true then (if n = 0 then [] else ints (cutL (n.toNat - 1) (l.map Int.toNat))) else []
theorem cutL_len {q : Nat} (hq : q ≤ 8) (L : List Nat) : (cutL q L).length ≤ 256 := Nat.le_trans (List.length_filter_le _ _) (flN_len hq _)
theorem cutOfB_len (n : Int) (l : List Int) : (cutOfB n l).length ≤ 256 := by
  unfold cutOfB
  by_cases h : matB n l = true
  · rw [if_pos h]
    by_cases h0 : n = 0
    · rw [if_pos h0]; exact Nat.zero_le _
    · rw [if_neg h0]
      obtain ⟨m, L, rfl, hm, rfl, hL, hL256, _, hne⟩ := matB_nat h
      rw [ints_len, Int.toNat_natCast]
      exact cutL_len (by omega) _
  · rw [if_neg h]; exact Nat.zero_le _
theorem delN_lt256 {q : Nat} (hq : q ≤ 8) (L : List Nat) : ∀ b ∈ delN q L, b < 256 := fun b hb => Nat.lt_of_lt_of_le (delN_lt hb) (pow_le_256 hq)
theorem add_top {f q : Nat} (hf : f < 2 ^ q) : f + 2 ^ q = f ||| 2 ^ q := by
  have h := Nat.two_pow_add_eq_or_of_lt hf 1
  rw [Nat.mul_one] at h
  rw [Nat.add_comm, h, Nat.or_comm]
theorem specCutOf_ev (n : Int) (l : List Int) (hl : l.length ≤ 8796093022208) : Ev (fun k => spec_CutOf.f k n l) (cutOfB n l) := by
  have hfin : ∀ x : Bool, x = true → Ev (fun k => spec_CutOf.j0 k [] x n l) [] := by
    intro x hx
    apply Ev.step
    · intro k
      rw [spec_CutOf.j0]
    · exact Ev.ifp hx (Ev.now _)
  unfold spec_CutOf.f cutOfB
  simp only [Option.bind_some]
  refine Ev.bind (specMat_ev n l (by omega)) ?_
  by_cases h : matB n l = true
  rotate_left
  · rw [if_neg h]; exact Ev.ifn h (hfin _ rfl)
  rw [if_pos h]
  refine Ev.ifp h ?_
  by_cases h0 : n = 0
  · rw [if_pos h0]; exact hfin _ (by rw [h0]; rfl)
  rw [if_neg h0]
  have hmat := h
  obtain ⟨m, L, rfl, rfl, hM, _⟩ := matB_mat h
  obtain ⟨q, rfl⟩ : ∃ q, m = q + 1 := ⟨m - 1, by omega⟩
  rw [show (ints L).map Int.toNat = L from toNat_map L, Int.toNat_natCast, Nat.add_sub_cancel]
  rw [ints_len] at hl
  have hm := hM.size
  have h256 : 2 ^ q < 256 := Nat.pow_lt_pow_right (by omega) (show q < 8 by omega)
  have hw : wrap64 (((q + 1 : Nat) : Int) - 1) = (q : Int) := by rw [wrap64_of (by omega) (by omega)]; omega
  apply Ev.step
  · intro k
    rw [spec_CutOf.j0, if_neg (by simp; omega), hw, u64_of (n := (q : Int)) (by omega) (by omega), if_pos (by omega), shl_one (by omega)]
  · refine Ev.bind (specDel_ev hmat hM hl) (Ev.bind (specFlats7_ev (by omega) (delN q L) (by have := delN_len (show q ≤ 8 by omega) L; omega) (delN_lt256 (by omega) L)) ?_)
    have hfl := flN_len (show q ≤ 8 by omega) (delN q L)
    have hlt : ∀ x ∈ flN q (delN q L), x < 2 ^ q := fun x hx => flN_lt hx
    unfold cutL
    generalize flN q (delN q L) = F at hfl hlt ⊢
    have hd := down (P := fun i => ∀ acc : List Nat, acc.length ≤ i → Ev (fun k => spec_CutOf.l0 k (ints acc) ((2 ^ q : Nat) : Int) (ints F) (i : Int) ((q + 1 : Nat) : Int) (ints L)) (ints (acc ++ (F.drop i).filter (fun f => decide (rkN L f = rkN L (f ||| 2 ^ q)))))) F.length
      (by
        intro acc _
        apply Ev.step
        · intro k
          rw [spec_CutOf.l0, if_neg (by rw [ints_len]; omega)]
        · rw [drop_end, List.filter_nil, List.append_nil]; exact Ev.now _)
      (by
        intro i hi ih acc ha
        have hf := hlt _ (List.getElem_mem hi)
        have hf256 : F[i] < 256 := by omega
        have ho : F[i] ||| 2 ^ q < 256 := Nat.or_lt_two_pow (n := 8) hf256 h256
        apply Ev.step
        · intro k
          rw [spec_CutOf.l0, if_pos (by rw [ints_len]; omega), if_pos (by omega), ints_rd F i hi, w_succ hi (by omega), wrap64_of (n := (F[i] : Int) + ((2 ^ q : Nat) : Int)) (by omega) (by omega), show (F[i] : Int) + ((2 ^ q : Nat) : Int) = ((F[i] ||| 2 ^ q : Nat) : Int) from by rw [← add_top hf]; omega]
        · rw [drop_cons F i hi, List.filter_cons]
          refine Ev.bind (specRank_ev _ L _ (by omega) hM.lt hf256) (Ev.bind (specRank_ev _ L _ (by omega) hM.lt ho) ?_)
          by_cases h : rkN L F[i] = rkN L (F[i] ||| 2 ^ q)
          · rw [if_pos (decide_eq_true h)]
            refine Ev.ifp (by omega) (Ev.ifp (by rw [ints_len]; omega) ?_)
            have := ih (acc ++ [F[i]]) (by rw [List.length_append, List.length_singleton]; omega)
            rw [List.append_assoc, List.singleton_append] at this
            rw [show ints acc ++ [(F[i] : Int)] = ints (acc ++ [F[i]]) from by simp [ints]]
            exact this
          · rw [if_neg (by simpa using h)]
            exact Ev.ifn (by omega) (ih acc (by omega)))
    exact hd [] (Nat.zero_le _)
theorem implCutOf_ev (n : Int) (l : List Int) (hl : l.length ≤ 8796093022208) : Ev (fun k => impl_CutOf.f k n l) (cutOfB n l) := by
  have hfin : ∀ x : Bool, x = true → Ev (fun k => impl_CutOf.j0 k x n l) [] := by
    intro x hx
    apply Ev.step
    · intro k
      rw [impl_CutOf.j0]
    · exact Ev.ifp hx (Ev.now _)
  unfold impl_CutOf.f cutOfB
  refine Ev.bind (implMat_ev n l (by omega)) ?_
  by_cases h : matB n l = true
  rotate_left
  · rw [if_neg h]; exact Ev.ifn h (hfin _ rfl)
  rw [if_pos h]
  refine Ev.ifp h ?_
  by_cases h0 : n = 0
  · rw [if_pos h0]; exact hfin _ (by rw [h0]; rfl)
  rw [if_neg h0]
  have hmat := h
  obtain ⟨m, L, rfl, rfl, hM, _⟩ := matB_mat h
  obtain ⟨q, rfl⟩ : ∃ q, m = q + 1 := ⟨m - 1, by omega⟩
  rw [show (ints L).map Int.toNat = L from toNat_map L, Int.toNat_natCast, Nat.add_sub_cancel]
  rw [ints_len] at hl
  have hm := hM.size
  have h256 : 2 ^ q < 256 := Nat.pow_lt_pow_right (by omega) (show q < 8 by omega)
  have hw : wrap64 (((q + 1 : Nat) : Int) - 1) = (q : Int) := by rw [wrap64_of (by omega) (by omega)]; omega
  apply Ev.step
  · intro k
    rw [impl_CutOf.j0, if_neg (by simp; omega), hw, if_pos (by omega), shl_one (by omega)]
  · refine Ev.bind (implDel_ev hmat hM hl) (Ev.bind (implFlats_ev (by omega) (delN q L) (by have := delN_len (show q ≤ 8 by omega) L; omega) (delN_lt256 (by omega) L)) ?_)
    have hfl := flN_len (show q ≤ 8 by omega) (delN q L)
    have hlt : ∀ x ∈ flN q (delN q L), x < 2 ^ q := fun x hx => flN_lt hx
    unfold cutL
    generalize flN q (delN q L) = F at hfl hlt ⊢
    have hd := down (P := fun i => ∀ acc : List Nat, acc.length ≤ i → Ev (fun k => impl_CutOf.l0 k ((2 ^ q : Nat) : Int) (ints acc) (ints F) ((ints F).length : Int) (i : Int) ((q + 1 : Nat) : Int) (ints L)) (ints (acc ++ (F.drop i).filter (fun f => decide (rkN L f = rkN L (f ||| 2 ^ q)))))) F.length
      (by
        intro acc _
        apply Ev.step
        · intro k
          rw [impl_CutOf.l0, if_neg (by rw [ints_len]; omega)]
        · rw [drop_end, List.filter_nil, List.append_nil]; exact Ev.now _)
      (by
        intro i hi ih acc ha
        have hf := hlt _ (List.getElem_mem hi)
        have hf256 : F[i] < 256 := by omega
        have ho : F[i] ||| 2 ^ q < 256 := Nat.or_lt_two_pow (n := 8) hf256 h256
        apply Ev.step
        · intro k
          rw [impl_CutOf.l0, if_pos (by rw [ints_len]; omega), if_pos (by omega), if_pos (by rw [ints_len]; omega), ints_rd F i hi, w_succ hi (by omega), or_nat (lt256_63 hf256) (lt256_63 h256)]
        · rw [drop_cons F i hi, List.filter_cons]
          refine Ev.bind (implRank_ev _ L _ (by omega) hM.lt hf256) (Ev.bind (implRank_ev _ L _ (by omega) hM.lt ho) ?_)
          by_cases h : rkN L F[i] = rkN L (F[i] ||| 2 ^ q)
          · rw [if_pos (decide_eq_true h)]
            refine Ev.ifp (by omega) (Ev.ifp (by rw [ints_len]; omega) ?_)
            have := ih (acc ++ [F[i]]) (by rw [List.length_append, List.length_singleton]; omega)
            rw [List.append_assoc, List.singleton_append] at this
            rw [show ints acc ++ [(F[i] : Int)] = ints (acc ++ [F[i]]) from by simp [ints]]
            exact this
          · rw [if_neg (by simpa using h)]
            exact Ev.ifn (by omega) (ih acc (by omega)))
    exact hd [] (Nat.zero_le _)

end Go.Proofs.Ytinoamehdhgpgaa.Q

namespace Go.Proofs.Ytinoamehdhgpgaa.Pure
open Go Go.RowKit Go.Proofs.Ytinoamehdhgpgaa.A Go.Proofs.YtinoamehdhgpgaaW.PrintWords Go.Proofs.YtinoamehdhgpgaaW.PrintLast Go.Proofs.YtinoamehdhgpgaaW.PrintMore Go.Proofs.Ytinoamehdhgpgaa.Z Go.Proofs.Ytinoamehdhgpgaa.Q
set_option linter.unusedVariables false
set_option linter.unusedSimpArgs false

theorem FnExactCutOf : laws_FnExactCutOf.Pure := by
  intro n l hn hm hw
  unfold laws_FnExactCutOf.f
  refine Ev.rounds ?_
  refine Ev.cbind (szMat_eq n l 1048576 (by omega) (by omega) hm) ?_
  by_cases h1 : (l.length : Int) > 1048576
  · rw [if_pos h1]
    exact Ev.ifp (by decide) (Ev.now _)
  rw [if_neg h1]
  refine Ev.ifn (by omega) ?_
  have hl' : l.length ≤ 17592186044416 := by omega
  have hg : (cutOfB n l).length ≤ 17592186044416 := Nat.le_trans (cutOfB_len n l) (by decide)
  refine Ev.bind (toMat_ev n l hl') (Ev.bind (specCutOf_ev n l (by omega)) (Ev.bind (toMat_ev n l hl') (Ev.bind (implCutOf_ev n l (by omega)) (Ev.bind (eqInt_self _ hg) (Ev.ifp rfl ?_)))))
  refine Ev.bind (toMat_ev n l hl') (Ev.bind (eqMat_ev n l hl') (Ev.ifp rfl ?_))
  have hmk : Ev (fun k => laws_markMatroid.f k n l 1) (1 + (l.length : Int), marks 1 l.length) := by
    unfold laws_markMatroid.f
    exact Ev.bind (mark_ev l 1 (by omega) (by omega) hl') (Ev.now _)
  refine Ev.bind hmk (Ev.ifn (by simp only []; omega) (Ev.bind (eqInt_self _ hg) ?_))
  apply Ev.step
  · intro k
    rw [laws_FnExactCutOf.j0]
  refine Ev.ifn (by decide) ?_
  refine Ev.bind (mark_ev _ 1 (by omega) (by omega) hg) (Ev.bind (held_ev _ 1 (by omega) (by omega) hg) ?_)
  refine Ev.ifn (by omega) (Ev.ifp rfl ?_)
  refine Ev.bind (toMat_ev n l hl') (Ev.bind (implCutOf_ev n l (by omega)) (Ev.bind (eqInt_self _ hg) (Ev.ifp rfl ?_)))
  refine Ev.bind (held_ev _ 1 (by omega) (by omega) hg) ?_
  exact Ev.ifn (by omega) (Ev.ifp rfl (Ev.now _))

end Go.Proofs.Ytinoamehdhgpgaa.Pure
