/- The pure side of the law FnExactRenameMatroid: what the Lean functions of the print compute, and that the law holds of them. Conditions: those in each lemma. -/
import Derived.Test.YtinoamehdhgpgaaMFnExactRenameMatroid1
import Derived.Test.YtinoamehdhgpgaaMFnExactRenameMatroid2
import Derived.Test.YtinoamehdhgpgaaMFnExactRenameMatroid3
import Derived.Test.YtinoamehdhgpgaaMFnExactRenameMatroid4
import Derived.Test.YtinoamehdhgpgaaMFnExactRenameMatroid5
import Derived.Test.YtinoamehdhgpgaaMFnExactRenameMatroidq0
namespace Go.Proofs.Ytinoamehdhgpgaa.A
open Go.RowKit
def laws_FnExactRenameMatroid.Pure : Prop := ∀ (a0_0 : Int) (l0_1 : List Int) (l1 : List Int), (Lit.int .i64 a0_0).wf = true → l0_1.length ≤ maxLen → (∀ x ∈ l0_1, (Lit.int .i64 x).wf = true) → l1.length ≤ maxLen → (∀ x ∈ l1, (Lit.int .i64 x).wf = true) → ∃ k, laws_FnExactRenameMatroid.f k a0_0 l0_1 l1 = some true
end Go.Proofs.Ytinoamehdhgpgaa.A

namespace Go.Proofs.Ytinoamehdhgpgaa.Q
open Go Go.RowKit Go.Proofs.Ytinoamehdhgpgaa.A Go.Proofs.YtinoamehdhgpgaaW.PrintWords Go.Proofs.YtinoamehdhgpgaaW.PrintLast Go.Proofs.YtinoamehdhgpgaaW.PrintMore Go.Proofs.Ytinoamehdhgpgaa.Z
set_option linter.unusedVariables false
set_option linter.unusedSimpArgs false

theorem toInt_l0 (l : List Int) (hl : l.length ≤ 17592186044416) : ∀ (rest pre : List Int), l = pre ++ rest → Ev (fun k => laws_toIntS.l0 k l (pre ++ List.replicate rest.length 0) (pre.length : Int)) l := by
  intro rest
  induction rest with
  | nil =>
    intro pre h
    apply Ev.step
    · intro k
      simp only [laws_toIntS.l0]
      rw [if_neg (by rw [h]; simp)]
    · subst h; simpa using Ev.now _
  | cons x rest ih =>
    intro pre h
    have hlen : (pre.length : Int) < (l.length : Int) := by rw [h]; simp; omega
    apply Ev.step
    · intro k
      simp only [laws_toIntS.l0]
      rw [if_pos hlen, if_pos (by omega), if_pos (by simp; omega)]
    · have := ih (pre ++ [x]) (by rw [h]; simp)
      have e : wrap64 ((pre.length : Int) + 1) = ((pre ++ [x]).length : Int) := by
        rw [wrap64_of (by omega) (by omega)]; simp
      rw [e]
      have e2 : (pre ++ List.replicate (x :: rest).length 0).set (pre.length : Int).toNat (rd l (pre.length : Int)) = (pre ++ [x]) ++ List.replicate rest.length 0 := by
        have : rd l (pre.length : Int) = x := by rw [h]; exact rd_mid _ _ _
        rw [this]
        simp [List.replicate_succ]
      rw [e2]
      exact this
theorem toInt_ev (l : List Int) (hl : l.length ≤ 17592186044416) : Ev (fun k => laws_toIntS.f k l) l := by
  unfold laws_toIntS.f
  refine Ev.ifp (by omega) (Ev.ifp (by simp; omega) ?_)
  simpa using toInt_l0 l hl l [] rfl
theorem eqInt_l0 (l : List Int) (hl : l.length ≤ 17592186044416) (l' : List Int) (hll : l'.length = l.length) : ∀ (rest rest' pre : List Int), l = pre ++ rest → l' = pre ++ rest' → Ev (fun k => laws_eqIntS.l0 k l l' (pre.length : Int)) (decide (l = l')) := by
  intro rest
  induction rest with
  | nil =>
    intro rest' pre h h'
    have : rest' = [] := by
      apply List.eq_nil_of_length_eq_zero
      have h1 := congrArg List.length h
      have h2 := congrArg List.length h'
      rw [List.length_append] at h1 h2
      simp only [List.length_nil] at h1
      omega
    subst this
    apply Ev.step
    · intro k
      simp only [laws_eqIntS.l0]
      rw [if_neg (by rw [h]; simp)]
    · have : l = l' := by rw [h, h']
      simpa [this] using Ev.now _
  | cons x rest ih =>
    intro rest' pre h h'
    have hlen : (pre.length : Int) < (l.length : Int) := by rw [h]; simp; omega
    cases rest' with
    | nil => exact absurd hll (by rw [h, h']; simp)
    | cons y rest' =>
    have e1 : rd l (pre.length : Int) = x := by rw [h]; exact rd_mid _ _ _
    have e2 : rd l' (pre.length : Int) = y := by rw [h']; exact rd_mid _ _ _
    by_cases hxy : x = y
    · subst hxy
      apply Ev.step
      · intro k
        simp only [laws_eqIntS.l0]
        rw [if_pos hlen, if_pos (by omega), if_pos (by omega), if_pos (by rw [e1, e2])]
      · have := ih rest' (pre ++ [x]) (by rw [h]; simp) (by rw [h']; simp)
        have e : wrap64 ((pre.length : Int) + 1) = ((pre ++ [x]).length : Int) := by
          rw [wrap64_of (by omega) (by omega)]; simp
        rw [e]
        exact this
    · apply Ev.step
      · intro k
        simp only [laws_eqIntS.l0]
        rw [if_pos hlen, if_pos (by omega), if_pos (by omega), if_neg (by rw [e1, e2]; exact hxy)]
      · have : l ≠ l' := by rw [h, h']; simp [hxy]
        simpa [this] using Ev.now _
theorem eqInt_ev (l l' : List Int) (hl : l.length ≤ 17592186044416) : Ev (fun k => laws_eqIntS.f k l l') (decide (l = l')) := by
  unfold laws_eqIntS.f
  by_cases h : (l.length : Int) = (l'.length : Int)
  · refine Ev.ifp h ?_
    exact eqInt_l0 l hl l' (by omega) l l' [] rfl rfl
  · refine Ev.ifn h ?_
    have : l ≠ l' := by rintro rfl; exact h rfl
    simpa [this] using Ev.now _
theorem eqInt_self (l : List Int) (hl : l.length ≤ 17592186044416) : Ev (fun k => laws_eqIntS.f k l l) true := by simpa using eqInt_ev l l hl

end Go.Proofs.Ytinoamehdhgpgaa.Q

namespace Go.Proofs.Ytinoamehdhgpgaa.Q
open Go Go.RowKit Go.Proofs.Ytinoamehdhgpgaa.A Go.Proofs.YtinoamehdhgpgaaW.PrintWords Go.Proofs.YtinoamehdhgpgaaW.PrintLast Go.Proofs.YtinoamehdhgpgaaW.PrintMore Go.Proofs.Ytinoamehdhgpgaa.Z
set_option linter.unusedVariables false
set_option linter.unusedSimpArgs false

theorem szMat_eq (n : Int) (l : List Int) (left : Int) (h0 : 0 ≤ left) (h1 : left ≤ 1048576) (hl : l.length ≤ maxLen) : laws_szMatroid.f n l left = some (if (l.length : Int) > left then -1 else left - (l.length : Int)) := by
  unfold maxLen at hl
  unfold laws_szMatroid.f laws_szIntS.f
  rw [wrap64_of (by omega) (by omega)]
  by_cases h : (l.length : Int) > left
  · rw [if_pos h, if_pos (by omega), Option.bind_some, if_pos (by decide)]
  · rw [if_neg h, if_neg (by omega), Option.bind_some, if_neg (by omega)]
theorem toMat_ev (n : Int) (l : List Int) (hl : l.length ≤ 17592186044416) : Ev (fun k => laws_toMatroid.f k n l) (n, l) := by
  unfold laws_toMatroid.f
  exact Ev.bind (toInt_ev l hl) (Ev.now _)
theorem eqMat_ev (n : Int) (l : List Int) (hl : l.length ≤ 17592186044416) : Ev (fun k => laws_eqMatroid.f k n l n l) true := by
  unfold laws_eqMatroid.f
  refine Ev.ifp rfl (Ev.bind (eqInt_self l hl) (Ev.ifp rfl (Ev.now _)))

end Go.Proofs.Ytinoamehdhgpgaa.Q

namespace Go.Proofs.Ytinoamehdhgpgaa.Q
open Go Go.RowKit Go.Proofs.Ytinoamehdhgpgaa.A Go.Proofs.YtinoamehdhgpgaaW.PrintWords Go.Proofs.YtinoamehdhgpgaaW.PrintLast Go.Proofs.YtinoamehdhgpgaaW.PrintMore Go.Proofs.Ytinoamehdhgpgaa.Z
set_option linter.unusedVariables false
set_option linter.unusedSimpArgs false

/-- n numbers that go up by one from a. -/
def marks (a : Int) (n : Nat) : List Int := (List.range n).map (fun i : Nat => a + (i : Int))
theorem marks_len (a : Int) (n : Nat) : (marks a n).length = n := by simp [marks]
theorem marks_succ (a : Int) (n : Nat) : marks a (n + 1) = marks a n ++ [a + (n : Int)] := by simp [marks, List.range_succ]
theorem marks_get (a : Int) (n i : Nat) (h : i < n) : rd (marks a n) (i : Int) = a + (i : Int) := by
  rw [rd_getElem _ i (by rw [marks_len]; exact h)]
  simp [marks]
theorem mark_ev (l : List Int) (a : Int) (h0 : 0 ≤ a) (h1 : a ≤ 1000000000000000) (hl : l.length ≤ 17592186044416) : Ev (fun k => laws_markIntS.f k l a) (a + (l.length : Int), marks a l.length) := by
  have h := down (P := fun i => Ev (fun k => laws_markIntS.l0 k (marks a i ++ l.drop i) (a + (i : Int)) (i : Int)) (a + (l.length : Int), marks a l.length)) l.length
    (by
      apply Ev.step
      · intro k
        simp only [laws_markIntS.l0]
        rw [if_neg (by rw [List.length_append, marks_len, List.length_drop]; omega)]
      · rw [drop_end, List.append_nil]
        exact Ev.now _)
    (by
      intro i hi ih
      apply Ev.step
      · intro k
        simp only [laws_markIntS.l0]
        rw [if_pos (by rw [List.length_append, marks_len, List.length_drop]; omega), if_pos (by omega), w_succ hi hl, wrap64_of (by omega) (by omega)]
      · have e : (marks a i ++ l.drop i).set (i : Int).toNat (a + (i : Int)) = marks a (i + 1) ++ l.drop (i + 1) := by
          rw [drop_cons l i hi, marks_succ, Int.toNat_natCast, List.set_append_right _ _ (by rw [marks_len]; omega), marks_len, Nat.sub_self, List.set_cons_zero, List.append_assoc]
          rfl
        rw [e, show a + (i : Int) + 1 = a + ((i + 1 : Nat) : Int) from by omega]
        exact ih)
  have e : marks a 0 ++ l.drop 0 = l := by simp [marks]
  rw [e, show a + ((0 : Nat) : Int) = a from by omega] at h
  exact h
theorem held_ev (n : Nat) (a : Int) (h0 : 0 ≤ a) (h1 : a ≤ 1000000000000000) (hl : n ≤ 17592186044416) : Ev (fun k => laws_heldIntS.f k (marks a n) a) (a + (n : Int)) := by
  have h := down (P := fun i => Ev (fun k => laws_heldIntS.l0 k (marks a n) (a + (i : Int)) (i : Int)) (a + (n : Int))) n
    (by
      apply Ev.step
      · intro k
        simp only [laws_heldIntS.l0]
        rw [if_neg (by rw [marks_len]; omega)]
      · exact Ev.now _)
    (by
      intro i hi ih
      apply Ev.step
      · intro k
        simp only [laws_heldIntS.l0]
        rw [if_pos (by rw [marks_len]; omega), if_pos (by omega), if_pos (marks_get a n i hi), w_succ hi hl, wrap64_of (by omega) (by omega)]
      · rw [show a + (i : Int) + 1 = a + ((i + 1 : Nat) : Int) from by omega]
        exact ih)
  rw [show a + ((0 : Nat) : Int) = a from by omega] at h
  exact h

end Go.Proofs.Ytinoamehdhgpgaa.Q

namespace Go.Proofs.Ytinoamehdhgpgaa.Q
open Go Go.RowKit Go.Proofs.Ytinoamehdhgpgaa.A Go.Proofs.YtinoamehdhgpgaaW.PrintWords Go.Proofs.YtinoamehdhgpgaaW.PrintLast Go.Proofs.YtinoamehdhgpgaaW.PrintMore Go.Proofs.Ytinoamehdhgpgaa.Z
set_option linter.unusedVariables false
set_option linter.unusedSimpArgs false

theorem markMat_ev (n : Int) (l : List Int) (hl : l.length ≤ 17592186044416) : Ev (fun k => laws_markMatroid.f k n l 1) (1 + (l.length : Int), marks 1 l.length) := by
  unfold laws_markMatroid.f
  exact Ev.bind (mark_ev l 1 (by omega) (by omega) hl) (Ev.now _)
theorem heldMat_ev (n : Int) (c : Nat) (hl : c ≤ 17592186044416) : Ev (fun k => laws_heldMatroid.f k n (marks 1 c) 1) (1 + (c : Int)) := by
  unfold laws_heldMatroid.f
  exact Ev.bind (held_ev c 1 (by omega) (by omega) hl) (Ev.ifn (by omega) (Ev.now _))

end Go.Proofs.Ytinoamehdhgpgaa.Q

namespace Go.Proofs.Ytinoamehdhgpgaa.Q
open Go Go.RowKit Go.Proofs.Ytinoamehdhgpgaa.A Go.Proofs.YtinoamehdhgpgaaW.PrintWords Go.Proofs.YtinoamehdhgpgaaW.PrintLast Go.Proofs.YtinoamehdhgpgaaW.PrintMore Go.Proofs.Ytinoamehdhgpgaa.Z
set_option linter.unusedVariables false
set_option linter.unusedSimpArgs false

theorem l1In_eq (a b c : Int) : spec_l1In.f a b c = some (decide (b ≤ a) && decide (a ≤ c)) := by
  unfold spec_l1In.f
  by_cases h : a ≥ b
  · rw [if_pos h]; simp [h]
  · rw [if_neg h]; simp only [ge_iff_le] at h; simp [h]
theorem isSize_eq (a : Int) : impl_isSize.f a = some (decide (0 ≤ a) && decide (a ≤ 8)) := by
  unfold impl_isSize.f
  by_cases h : a ≥ 0
  · rw [if_pos h]; simp [h]
  · rw [if_neg h]; simp only [ge_iff_le] at h; simp [h]
theorem specIsSet_eq (n s : Int) : spec_IsSet.f n s = some (isSetB n s) := by
  unfold spec_IsSet.f
  rw [l1In_eq, Option.bind_some]
  unfold isSetB
  by_cases h : (decide (0 ≤ n) && decide (n ≤ 8)) = true
  · rw [if_pos h, if_pos (u64_nonneg _), l1In_eq, Option.bind_some, h, Bool.true_and]
    simp only [Bool.and_eq_true, decide_eq_true_eq] at h
    obtain ⟨m, rfl⟩ := Int.eq_ofNat_of_zero_le h.1
    have h8 : m ≤ 8 := by omega
    rw [u64_of (by omega) (by omega), shl_one (by omega)]
    have hp := pow_le_256 h8
    rw [Int.toNat_natCast]
    have e : (2 : Int) ^ m = ((2 ^ m : Nat) : Int) := by simp
    rw [e]
    generalize 2 ^ m = q at hp
    rw [wrap64_of (by omega) (by omega)]
    congr 2
    rw [Bool.eq_iff_iff]
    simp only [decide_eq_true_eq]
    omega
  · rw [if_neg h, Bool.eq_false_iff.2 h, Bool.false_and]
theorem implIsSet_eq (n s : Int) : impl_IsSet.f n s = some (isSetB n s) := by
  unfold impl_IsSet.f
  rw [isSize_eq, Option.bind_some]
  unfold isSetB
  by_cases h : (decide (0 ≤ n) && decide (n ≤ 8)) = true
  · rw [if_pos h, h, Bool.true_and]
    simp only [Bool.and_eq_true, decide_eq_true_eq] at h
    by_cases hs : s ≥ 0
    · rw [if_pos hs, if_pos h.1]
      obtain ⟨m, rfl⟩ := Int.eq_ofNat_of_zero_le h.1
      rw [shl_one (by omega), Int.toNat_natCast]
      have e : ((2 ^ m : Nat) : Int) = 2 ^ m := by simp
      rw [e]
      have : decide (0 ≤ s) = true := by simpa using hs
      rw [this, Bool.true_and]
    · rw [if_neg hs]
      have : decide (0 ≤ s) = false := by simpa using hs
      rw [this, Bool.false_and]
  · rw [if_neg h, Bool.eq_false_iff.2 h, Bool.false_and]
theorem isAny_eq (s : Int) : impl_isAny.f s = some (isAnyB s) := by
  unfold impl_isAny.f isAnyB
  by_cases h : s ≥ 0
  · rw [if_pos h]; simp [h]
  · rw [if_neg h]; simp only [ge_iff_le] at h; simp [h]
theorem isAnyB_lt {s : Int} (h : isAnyB s = true) : ∃ t : Nat, s = t ∧ t < 256 := by
  simp only [isAnyB, Bool.and_eq_true, decide_eq_true_eq] at h
  obtain ⟨t, rfl⟩ := Int.eq_ofNat_of_zero_le h.1
  exact ⟨t, rfl, by omega⟩
theorem implHas_eq (s e : Int) : impl_HasElement.f s e = some (hasB s e) := by
  unfold impl_HasElement.f hasB
  rw [isAny_eq, Option.bind_some]
  by_cases h : isAnyB s = true
  · rw [if_pos h, h, Bool.true_and]
    obtain ⟨t, rfl, ht⟩ := isAnyB_lt h
    by_cases h0 : e ≥ 0
    · rw [if_pos h0]
      obtain ⟨m, rfl⟩ := Int.eq_ofNat_of_zero_le h0
      by_cases h8 : (m : Int) < 8
      · rw [if_pos h8, if_pos h0, bit_nat (lt256_63 ht)]
        simp [h8]
      · rw [if_neg h8]; simp [h8]
    · rw [if_neg h0]; simp only [ge_iff_le] at h0; simp [h0]
  · rw [if_neg h, Bool.eq_false_iff.2 h]; simp
theorem l2Has_eq {s e : Nat} (hs : s < 2 ^ 63) (he : e < 2 ^ 63) : spec_l2Has.f (s : Int) (e : Int) = some (s.testBit e) := by
  unfold spec_l2Has.f
  rw [if_pos (u64_nonneg _), u64_of (by omega) (by omega), bit_nat hs]
end Go.Proofs.Ytinoamehdhgpgaa.Q

namespace Go.Proofs.Ytinoamehdhgpgaa.Q
open Go Go.RowKit Go.Proofs.Ytinoamehdhgpgaa.A Go.Proofs.YtinoamehdhgpgaaW.PrintWords Go.Proofs.YtinoamehdhgpgaaW.PrintLast Go.Proofs.YtinoamehdhgpgaaW.PrintMore Go.Proofs.Ytinoamehdhgpgaa.Z
set_option linter.unusedVariables false
set_option linter.unusedSimpArgs false

def famG (n : Int) : Option Int → List Int → Bool
  | _, [] => decide (0 ≤ n) && decide (n ≤ 8)
  | p, x :: xs => isSetB n x && ((match p with | none => true | some q => decide (q < x)) && famG n (some x) xs)
/-- A family: sets of n elements, strictly ascending. -/
def famB (n : Int) (l : List Int) : Bool := famG n none l
def prevO (l : List Int) (i : Nat) : Option Int := if i = 0 then none else some (rd l ((i - 1 : Nat) : Int))
theorem prevO_succ (l : List Int) (i : Nat) (hi : i < l.length) : prevO l (i + 1) = some l[i] := by
  unfold prevO
  rw [if_neg (by omega), Nat.add_sub_cancel, rd_getElem l i hi]
theorem specFam_ev (n : Int) (l : List Int) (hl : l.length ≤ 17592186044416) : Ev (fun k => spec_IsFamily.f k n l) (famB n l) := by
  have h := down (P := fun i => Ev (fun k => spec_IsFamily.l0 k n l (i : Int)) (famG n (prevO l i) (l.drop i))) l.length
    (by
      apply Ev.step
      · intro k
        simp only [spec_IsFamily.l0, l1In_eq, Option.bind_some]
        rw [if_neg (by omega)]
      · rw [drop_end]; exact Ev.now _)
    (by
      intro i hi ih
      apply Ev.step
      · intro k
        simp only [spec_IsFamily.l0, specIsSet_eq, Option.bind_some]
        rw [if_pos (by omega), if_pos (by omega), rd_getElem l i hi, w_succ hi hl]
      · rw [drop_cons l i hi]
        rw [prevO_succ l i hi] at ih
        simp only [famG]
        by_cases hx : isSetB n l[i] = true
        · refine Ev.ifp hx ?_
          rw [hx, Bool.true_and]
          by_cases h0 : (i : Int) > 0
          · refine Ev.ifp h0 ?_
            rw [wrap64_of (by omega) (by omega), show (i : Int) - 1 = ((i - 1 : Nat) : Int) from by omega]
            refine Ev.ifp (by omega) (Ev.ifp (by omega) ?_)
            unfold prevO
            rw [if_neg (by omega)]
            by_cases hq : rd l ((i - 1 : Nat) : Int) ≥ l[i]
            · refine Ev.ifp hq ?_
              simp only []
              rw [show decide (rd l ((i - 1 : Nat) : Int) < l[i]) = false from by simpa using hq, Bool.false_and]
              exact Ev.now _
            · refine Ev.ifn hq ?_
              simp only []
              rw [show decide (rd l ((i - 1 : Nat) : Int) < l[i]) = true from by simpa using hq, Bool.true_and]
              exact ih
          · refine Ev.ifn h0 ?_
            unfold prevO
            rw [if_pos (by omega)]
            simp only [Bool.true_and]
            exact ih
        · refine Ev.ifn hx ?_
          rw [Bool.eq_false_iff.2 hx, Bool.false_and]; exact Ev.now _)
  exact h
theorem implFam_ev (n : Int) (l : List Int) (hl : l.length ≤ 17592186044416) : Ev (fun k => impl_IsFamily.f k n l) (famB n l) := by
  have h := down (P := fun i => Ev (fun k => impl_IsFamily.l0 k n l l (l.length : Int) (i : Int)) (famG n (prevO l i) (l.drop i))) l.length
    (by
      apply Ev.step
      · intro k
        simp only [impl_IsFamily.l0, isSize_eq, Option.bind_some]
        rw [if_neg (by omega)]
      · rw [drop_end]; exact Ev.now _)
    (by
      intro i hi ih
      apply Ev.step
      · intro k
        simp only [impl_IsFamily.l0, implIsSet_eq, Option.bind_some]
        rw [if_pos (by omega), if_pos (by omega), if_pos (by omega), rd_getElem l i hi, w_succ hi hl]
      · rw [drop_cons l i hi]
        rw [prevO_succ l i hi] at ih
        simp only [famG]
        by_cases hx : isSetB n l[i] = true
        · refine Ev.ifp hx ?_
          rw [hx, Bool.true_and]
          by_cases h0 : (i : Int) > 0
          · refine Ev.ifp h0 ?_
            rw [wrap64_of (by omega) (by omega), show (i : Int) - 1 = ((i - 1 : Nat) : Int) from by omega]
            refine Ev.ifp (by omega) (Ev.ifp (by omega) ?_)
            unfold prevO
            rw [if_neg (by omega)]
            by_cases hq : l[i] ≤ rd l ((i - 1 : Nat) : Int)
            · refine Ev.ifp hq ?_
              simp only []
              rw [show decide (rd l ((i - 1 : Nat) : Int) < l[i]) = false from by simpa using hq, Bool.false_and]
              exact Ev.now _
            · refine Ev.ifn hq ?_
              simp only []
              rw [show decide (rd l ((i - 1 : Nat) : Int) < l[i]) = true from by simpa using hq, Bool.true_and]
              exact ih
          · refine Ev.ifn h0 ?_
            unfold prevO
            rw [if_pos (by omega)]
            simp only [Bool.true_and]
            exact ih
        · refine Ev.ifn hx ?_
          rw [Bool.eq_false_iff.2 hx, Bool.false_and]; exact Ev.now _)
  exact h
theorem famG_facts (n : Int) : ∀ (l : List Int) (p : Option Int), famG n p l = true → (0 ≤ n ∧ n ≤ 8) ∧ (∀ x ∈ l, isSetB n x = true) ∧ l.Pairwise (· < ·) ∧ (∀ q, p = some q → ∀ x ∈ l, q < x) := by
  intro l
  induction l with
  | nil =>
    intro p h
    simp only [famG, Bool.and_eq_true, decide_eq_true_eq] at h
    exact ⟨h, fun x hx => by simp at hx, List.Pairwise.nil, fun q _ x hx => by simp at hx⟩
  | cons y l ih =>
    intro p h
    simp only [famG, Bool.and_eq_true] at h
    obtain ⟨h1, h2, h3⟩ := h
    obtain ⟨i1, i2, i3, i4⟩ := ih _ h3
    refine ⟨i1, fun x hx => ?_, List.pairwise_cons.2 ⟨fun x hx => i4 y rfl x hx, i3⟩, fun q hq x hx => ?_⟩
    · rcases List.mem_cons.1 hx with rfl | hx
      · exact h1
      · exact i2 x hx
    · subst hq
      simp only [decide_eq_true_eq] at h2
      rcases List.mem_cons.1 hx with rfl | hx
      · exact h2
      · exact Int.lt_trans h2 (i4 y rfl x hx)
/-- A family as numbers: its size, its sets. -/
theorem famB_nat {n : Int} {l : List Int} (h : famB n l = true) : ∃ (m : Nat) (L : List Nat), n = m ∧ m ≤ 8 ∧ l = L.map (fun x : Nat => (x : Int)) ∧ (∀ x ∈ L, x < 2 ^ m) ∧ L.Pairwise (· < ·) := by
  obtain ⟨h1, h2, h3, _⟩ := famG_facts n l none h
  obtain ⟨m, rfl⟩ := Int.eq_ofNat_of_zero_le h1.1
  have hnn : ∀ x ∈ l, 0 ≤ x := fun x hx => by
    obtain ⟨_, t, _, rfl, _⟩ := isSetB_lt (h2 x hx)
    omega
  have hl : l = (l.map Int.toNat).map (fun x : Nat => (x : Int)) := by
    rw [List.map_map]
    conv => lhs; rw [← List.map_id l]
    apply List.map_congr_left
    intro x hx
    have := hnn x hx
    simp only [id, Function.comp]
    omega
  refine ⟨m, l.map Int.toNat, rfl, by omega, hl, fun x hx => ?_, ?_⟩
  · obtain ⟨y, hy, rfl⟩ := List.mem_map.1 hx
    obtain ⟨m', t, hm, rfl, _, ht, _⟩ := isSetB_lt (h2 y hy)
    have : m = m' := by omega
    subst this
    rw [Int.toNat_natCast]; exact ht
  · rw [List.pairwise_map]
    exact h3.imp_of_mem (fun {a b} ha hb hab => by
      have := hnn a ha
      have := hnn b hb
      omega)

end Go.Proofs.Ytinoamehdhgpgaa.Q

namespace Go.Proofs.Ytinoamehdhgpgaa.Q
open Go Go.RowKit Go.Proofs.Ytinoamehdhgpgaa.A Go.Proofs.YtinoamehdhgpgaaW.PrintWords Go.Proofs.YtinoamehdhgpgaaW.PrintLast Go.Proofs.YtinoamehdhgpgaaW.PrintMore Go.Proofs.Ytinoamehdhgpgaa.Z
set_option linter.unusedVariables false
set_option linter.unusedSimpArgs false

/-- The elements of a set, as whole numbers; none where it is no set. -/
def elsB (s : Int) : List Int := ((List.range 8).filter (fun e : Nat => hasB s (e : Int))).map (fun e : Nat => (e : Int))
theorem range'_cons {i n : Nat} (h : i < n) : List.range' i (n - i) = i :: List.range' (i + 1) (n - (i + 1)) := by
  rw [show n - i = (n - (i + 1)) + 1 from by omega, List.range'_succ]
theorem filter_cons_map {s : Int} {i : Nat} (l : List Nat) : ((i :: l).filter (fun e : Nat => hasB s (e : Int))).map (fun e : Nat => (e : Int)) = (if hasB s (i : Int) = true then [(i : Int)] else []) ++ (l.filter (fun e : Nat => hasB s (e : Int))).map (fun e : Nat => (e : Int)) := by
  rw [List.filter_cons]
  by_cases h : hasB s (i : Int) = true
  · rw [if_pos h, if_pos h]; rfl
  · rw [if_neg h, if_neg h]; rfl
theorem implElements_ev (s : Int) : Ev (fun k => impl_ElementsOf.f k s) (elsB s) := by
  have h := down (P := fun i => ∀ acc : List Int, acc.length ≤ i → Ev (fun k => impl_ElementsOf.l0 k s acc (i : Int)) (acc ++ ((List.range' i (8 - i)).filter (fun e : Nat => hasB s (e : Int))).map (fun e : Nat => (e : Int)))) 8
    (by
      intro acc ha
      apply Ev.step
      · intro k
        simp only [impl_ElementsOf.l0, implHas_eq, Option.bind_some]
        rw [if_neg (by omega)]
      · simpa using Ev.now _)
    (by
      intro i hi ih acc ha
      apply Ev.step
      · intro k
        simp only [impl_ElementsOf.l0, implHas_eq, Option.bind_some]
        rw [if_pos (by omega), w_succ hi (by omega)]
      · rw [range'_cons hi, filter_cons_map]
        by_cases hx : hasB s (i : Int) = true
        · refine Ev.ifp hx (Ev.ifp (by omega) ?_)
          rw [if_pos hx, ← List.append_assoc]
          exact ih (acc ++ [(i : Int)]) (by simp; omega)
        · refine Ev.ifn hx ?_
          rw [if_neg hx]
          exact ih acc (by omega))
  have h0 := h [] (Nat.le_refl 0)
  rw [show ((0 : Nat) : Int) = 0 from rfl] at h0
  have e : elsB s = [] ++ ((List.range' 0 (8 - 0)).filter (fun e : Nat => hasB s (e : Int))).map (fun e : Nat => (e : Int)) := by
    unfold elsB
    rw [List.nil_append, List.range_eq_range']
  rw [e]
  unfold impl_ElementsOf.f
  exact h0
theorem elsB_nat {s : Nat} (h : s < 256) : elsB (s : Int) = (els s).map (fun e : Nat => (e : Int)) := by
  have e : (List.range 8).filter (fun e : Nat => hasB (s : Int) (e : Int)) = (List.range 8).filter (fun e : Nat => s.testBit e) :=
    List.filter_congr (fun e he => by
      rw [List.mem_range] at he
      rw [hasB_nat]
      simp [h, he])
  unfold elsB els
  rw [e]

end Go.Proofs.Ytinoamehdhgpgaa.Q

namespace Go.Proofs.Ytinoamehdhgpgaa.Q
open Go Go.RowKit Go.Proofs.Ytinoamehdhgpgaa.A Go.Proofs.YtinoamehdhgpgaaW.PrintWords Go.Proofs.YtinoamehdhgpgaaW.PrintLast Go.Proofs.YtinoamehdhgpgaaW.PrintMore Go.Proofs.Ytinoamehdhgpgaa.Z
set_option linter.unusedVariables false
set_option linter.unusedSimpArgs false

theorem contains_cons (x : Int) (l : List Int) (a : Int) : (x :: l).contains a = (decide (x = a) || l.contains a) := by
  rw [Bool.eq_iff_iff]
  simp only [List.contains_iff_mem, List.mem_cons, Bool.or_eq_true, decide_eq_true_eq]
  constructor
  · rintro (h | h)
    · exact .inl h.symm
    · exact .inr h
  · rintro (h | h)
    · exact .inl h.symm
    · exact .inr h
theorem specHasSet_ev (l : List Int) (a : Int) (hl : l.length ≤ 17592186044416) : Ev (fun k => spec_HasSet.f k l a) (l.contains a) := by
  have h := down (P := fun i => Ev (fun k => spec_HasSet.l0 k l a (i : Int)) ((l.drop i).contains a)) l.length
    (by
      apply Ev.step
      · intro k
        simp only [spec_HasSet.l0]
        rw [if_neg (by omega)]
      · rw [drop_end]; exact Ev.now _)
    (by
      intro i hi ih
      apply Ev.step
      · intro k
        simp only [spec_HasSet.l0]
        rw [if_pos (by omega), if_pos (by omega), rd_getElem l i hi, w_succ hi hl]
      · rw [drop_cons l i hi, contains_cons]
        by_cases hx : l[i] = a
        · refine Ev.ifp hx ?_
          rw [show decide (l[i] = a) = true from by simpa using hx, Bool.true_or]; exact Ev.now _
        · refine Ev.ifn hx ?_
          rw [show decide (l[i] = a) = false from by simpa using hx, Bool.false_or]; exact ih)
  exact h

end Go.Proofs.Ytinoamehdhgpgaa.Q

namespace Go.Proofs.Ytinoamehdhgpgaa.Q
open Go Go.RowKit Go.Proofs.Ytinoamehdhgpgaa.A Go.Proofs.YtinoamehdhgpgaaW.PrintWords Go.Proofs.YtinoamehdhgpgaaW.PrintLast Go.Proofs.YtinoamehdhgpgaaW.PrintMore Go.Proofs.Ytinoamehdhgpgaa.Z
set_option linter.unusedVariables false
set_option linter.unusedSimpArgs false

theorem index_l0 (l : List Int) (a : Int) (hl : l.length ≤ 17592186044416) : ∃ r : Int, Ev (fun k => slices_Index_int_int.f k l a) r ∧ (decide (r ≥ 0) = l.contains a) := by
  have h := down (P := fun i => ∃ r : Int, Ev (fun k => slices_Index_int_int.l0 k l a (l.length : Int) (i : Int)) r ∧ (decide (r ≥ 0) = (l.drop i).contains a)) l.length
    (by
      refine ⟨-1, ?_, by rw [drop_end]; rfl⟩
      apply Ev.step
      · intro k
        simp only [slices_Index_int_int.l0]
        rw [if_neg (by omega)]
      · exact Ev.now _)
    (by
      intro i hi ih
      rw [drop_cons l i hi, contains_cons]
      by_cases hx : l[i] = a
      · refine ⟨(i : Int), ?_, ?_⟩
        · apply Ev.step
          · intro k
            simp only [slices_Index_int_int.l0]
            rw [if_pos (by omega), if_pos (by omega), if_pos (by omega), rd_getElem l i hi, if_pos hx.symm]
          · exact Ev.now _
        · rw [show decide (l[i] = a) = true from by simpa using hx, Bool.true_or]
          simp
      · obtain ⟨r, hr, hd⟩ := ih
        refine ⟨r, ?_, ?_⟩
        · apply Ev.step
          · intro k
            simp only [slices_Index_int_int.l0]
            rw [if_pos (by omega), if_pos (by omega), if_pos (by omega), rd_getElem l i hi, if_neg (fun hc => hx hc.symm), w_succ hi hl]
          · exact hr
        · rw [show decide (l[i] = a) = false from by simpa using hx, Bool.false_or]; exact hd)
  exact h
theorem contains_ev (l : List Int) (a : Int) (hl : l.length ≤ 17592186044416) : Ev (fun k => slices_Contains_int_int.f k l a) (l.contains a) := by
  obtain ⟨r, hr, hd⟩ := index_l0 l a hl
  unfold slices_Contains_int_int.f
  refine Ev.bind hr ?_
  rw [hd]; exact Ev.now _

end Go.Proofs.Ytinoamehdhgpgaa.Q

namespace Go.Proofs.Ytinoamehdhgpgaa.Q
open Go Go.RowKit Go.Proofs.YtinoamehdhgpgaaW.PrintWords Go.Proofs.YtinoamehdhgpgaaW.PrintLast Go.Proofs.YtinoamehdhgpgaaW.PrintMore Go.Proofs.Ytinoamehdhgpgaa.Z
set_option linter.unusedVariables false
set_option linter.unusedSimpArgs false

/-- Can e be exchanged for an element of b? -/
def hasEx (l : List Int) (a b e : Nat) : Bool := (els (dif b a)).any (fun f => l.contains ((dif a (2 ^ e) ||| 2 ^ f : Nat) : Int))
def failE (l : List Int) (a b : Nat) : List Nat → Option Nat
  | [] => none
  | e :: es => if hasEx l a b e = true then failE l a b es else some e
def failB (l : List Int) (a : Nat) : List Nat → Option (Nat × Nat)
  | [] => none
  | b :: bs => match failE l a b (els (dif a b)) with
    | none => failB l a bs
    | some e => some (b, e)
def failA (l : List Int) (L : List Nat) : List Nat → Option (Nat × Nat × Nat)
  | [] => none
  | a :: la => match failB l a L with
    | none => failA l L la
    | some (b, e) => some (a, b, e)
def told : Option (Nat × Nat × Nat) → Int × Int × Int × Bool
  | none => (0, 0, 0, false)
  | some (a, b, e) => ((a : Int), (b : Int), (e : Int), true)
/-- What FirstFailure hands back. -/
def failT (n : Int) (l : List Int) : Int × Int × Int × Bool := if famB n l = true then told (failA l (l.map Int.toNat) (l.map Int.toNat)) else (0, 0, 0, false)
theorem els_dif {a b n : Nat} (ha : a < 2 ^ n) (hn : n ≤ 8) : els (dif a b) = (List.range n).filter (fun e => a.testBit e && !b.testBit e) := by
  have h1 : (List.range 8).filter (fun e => (dif a b).testBit e) = (List.range 8).filter (fun e => decide (e < n) && (a.testBit e && !b.testBit e)) :=
    List.filter_congr (fun e _ => by
      rw [dif_bit]
      by_cases h : e < n
      · simp [h]
      · have : a.testBit e = false := Nat.testBit_lt_two_pow (Nat.lt_of_lt_of_le ha (Nat.pow_le_pow_right (by decide) (by omega)))
        simp [this])
  unfold els
  rw [h1]
  have h2 : ∀ (p : Nat → Bool) (a b : Nat), (List.range a).filter (fun e => decide (e < b) && p e) = (List.range (min a b)).filter p := by
    intro p a b
    induction a with
    | zero => simp
    | succ a ih =>
      rw [List.range_succ, List.filter_append, ih]
      by_cases h : a < b
      · rw [show min (a + 1) b = min a b + 1 from by omega, List.range_succ, List.filter_append]
        have e : min a b = a := by omega
        rw [e]
        congr 1
        simp [List.filter_cons, h]
      · rw [show min (a + 1) b = min a b from by omega]
        simp [List.filter_cons, h]
  rw [h2, Nat.min_eq_right hn]

end Go.Proofs.Ytinoamehdhgpgaa.Q

namespace Go.Proofs.Ytinoamehdhgpgaa.Q
open Go Go.RowKit Go.Proofs.Ytinoamehdhgpgaa.A Go.Proofs.YtinoamehdhgpgaaW.PrintWords Go.Proofs.YtinoamehdhgpgaaW.PrintLast Go.Proofs.YtinoamehdhgpgaaW.PrintMore Go.Proofs.Ytinoamehdhgpgaa.Z
set_option linter.unusedVariables false
set_option linter.unusedSimpArgs false

theorem specEx_ev (n : Nat) (hn : n ≤ 8) (l : List Int) (hl : l.length ≤ 17592186044416) (a b e : Nat) (ha : a < 256) (hb : b < 2 ^ n) (he : e < 8) (hae : a.testBit e = true) :
    Ev (fun k => spec_l4Exchange.f k (n : Int) l (a : Int) (b : Int) (e : Int)) (hasEx l a b e) := by
  have hb256 : b < 256 := Nat.lt_of_lt_of_le hb (pow_le_256 hn)
  have h := down (P := fun f => Ev (fun k => spec_l4Exchange.l0 k (a : Int) (b : Int) (e : Int) (f : Int) (n : Int) l) (((List.range' f (n - f)).filter (fun f => b.testBit f && !a.testBit f)).any (fun f => l.contains ((dif a (2 ^ e) ||| 2 ^ f : Nat) : Int)))) n
    (by
      apply Ev.step
      · intro k
        simp only [spec_l4Exchange.l0]
        rw [if_neg (by omega)]
      · rw [Nat.sub_self]; exact Ev.now _)
    (by
      intro f hf ih
      have hih : Ev (fun k => spec_l4Exchange.l0 k (a : Int) (b : Int) (e : Int) (wrap64 ((f : Int) + 1)) (n : Int) l) (((List.range' (f + 1) (n - (f + 1))).filter (fun f => b.testBit f && !a.testBit f)).any (fun f => l.contains ((dif a (2 ^ e) ||| 2 ^ f : Nat) : Int))) := by
        rw [w_succ hf (by omega)]; exact ih
      apply Ev.step
      · intro k
        simp only [spec_l4Exchange.l0, l2Has_eq (lt256_63 hb256) (show f < 2 ^ 63 by omega), l2Has_eq (lt256_63 ha) (show f < 2 ^ 63 by omega), Option.bind_some]
        rw [if_pos (by omega)]
      · rw [range'_cons hf, List.filter_cons]
        by_cases hbf : b.testBit f = true
        · refine Ev.ifp hbf ?_
          by_cases haf : a.testBit f = true
          · refine Ev.ifp haf ?_
            rw [if_neg (by rw [haf]; simp)]
            exact hih
          · refine Ev.ifn haf (Ev.ifp (u64_nonneg _) (Ev.ifp (u64_nonneg _) ?_))
            have haf' := Bool.eq_false_iff.2 haf
            rw [if_pos (by rw [hbf, haf']; rfl), List.any_cons]
            obtain ⟨x1, x2, x3⟩ := exch_arith ha he (show f < 8 by omega) hae haf'
            have hp : 2 ^ f < 256 := Nat.pow_lt_pow_right (a := 2) (m := f) (n := 8) (by decide) (by omega)
            have ex : wrap64 (wrap64 ((a : Int) - shl .i64 1 (IntKind.u64.wrap (e : Int))) + shl .i64 1 (IntKind.u64.wrap (f : Int))) = ((dif a (2 ^ e) ||| 2 ^ f : Nat) : Int) := by
              rw [u64_of (by omega) (by omega), u64_of (by omega) (by omega), shl_one (by omega), shl_one (by omega), ← x1]
              generalize 2 ^ e = p at *
              generalize 2 ^ f = q at *
              rw [wrap64_of (n := (a : Int) - (p : Int)) (by omega) (by omega), wrap64_of (by omega) (by omega)]
              omega
            rw [ex]
            refine Ev.bind (specHasSet_ev l _ hl) ?_
            by_cases hc : l.contains ((dif a (2 ^ e) ||| 2 ^ f : Nat) : Int) = true
            · refine Ev.ifp hc ?_
              rw [hc, Bool.true_or]; exact Ev.now _
            · refine Ev.ifn hc ?_
              rw [Bool.eq_false_iff.2 hc, Bool.false_or]; exact hih
        · refine Ev.ifn hbf ?_
          rw [if_neg (by rw [Bool.eq_false_iff.2 hbf]; simp)]
          exact hih)
  rw [Nat.sub_zero, ← List.range_eq_range', ← els_dif hb hn] at h
  exact h
theorem specFail_l2 (n : Nat) (hn : n ≤ 8) (l : List Int) (hl : l.length ≤ 17592186044416) (i j : Nat) (hi : i < l.length) (hj : j < l.length) (a b : Nat) (hai : rd l (i : Int) = a) (hbj : rd l (j : Int) = b) (ha : a < 2 ^ n) (hb : b < 2 ^ n) (K : Int × Int × Int × Bool)
    (hK : Ev (fun k => spec_FirstFailure.l1 k (i : Int) (wrap64 ((j : Int) + 1)) (n : Int) l) K) :
    Ev (fun k => spec_FirstFailure.l2 k (i : Int) (j : Int) 0 (n : Int) l) (match failE l a b (els (dif a b)) with | none => K | some e => ((a : Int), (b : Int), (e : Int), true)) := by
  have ha256 : a < 256 := Nat.lt_of_lt_of_le ha (pow_le_256 hn)
  have hb256 : b < 256 := Nat.lt_of_lt_of_le hb (pow_le_256 hn)
  have h := down (P := fun e => Ev (fun k => spec_FirstFailure.l2 k (i : Int) (j : Int) (e : Int) (n : Int) l) (match failE l a b ((List.range' e (n - e)).filter (fun e => a.testBit e && !b.testBit e)) with | none => K | some e => ((a : Int), (b : Int), (e : Int), true))) n
    (by
      apply Ev.step
      · intro k
        simp only [spec_FirstFailure.l2]
        rw [if_neg (by omega)]
      · rw [Nat.sub_self]; exact hK)
    (by
      intro e he ih
      have hih : Ev (fun k => spec_FirstFailure.l2 k (i : Int) (j : Int) (wrap64 ((e : Int) + 1)) (n : Int) l) (match failE l a b ((List.range' (e + 1) (n - (e + 1))).filter (fun e => a.testBit e && !b.testBit e)) with | none => K | some e => ((a : Int), (b : Int), (e : Int), true)) := by
        rw [w_succ he (by omega)]; exact ih
      apply Ev.step
      · intro k
        simp only [spec_FirstFailure.l2]
        rw [if_pos (by omega), if_pos (by omega), if_pos (by omega), if_pos (by omega), if_pos (by omega), hai, hbj, l2Has_eq (lt256_63 ha256) (show e < 2 ^ 63 by omega), l2Has_eq (lt256_63 hb256) (show e < 2 ^ 63 by omega), Option.bind_some, Option.bind_some]
      · rw [range'_cons he, List.filter_cons]
        by_cases hae : a.testBit e = true
        · refine Ev.ifp hae ?_
          by_cases hbe : b.testBit e = true
          · refine Ev.ifp hbe ?_
            rw [if_neg (by rw [hbe]; simp)]
            exact hih
          · refine Ev.ifn hbe (Ev.bind (specEx_ev n hn l hl a b e ha256 hb (by omega) hae) ?_)
            rw [if_pos (by rw [hae, Bool.eq_false_iff.2 hbe]; rfl)]
            simp only [failE]
            by_cases hx : hasEx l a b e = true
            · refine Ev.ifp hx ?_
              rw [if_pos hx]; exact hih
            · refine Ev.ifn hx ?_
              rw [if_neg hx]; exact Ev.now _
        · refine Ev.ifn hae ?_
          rw [if_neg (by rw [Bool.eq_false_iff.2 hae]; simp)]
          exact hih)
  rw [Nat.sub_zero, ← List.range_eq_range', ← els_dif ha hn] at h
  exact h
theorem specFail_ev (n : Int) (l : List Int) (hl : l.length ≤ 17592186044416) : Ev (fun k => spec_FirstFailure.f k n l) (failT n l) := by
  unfold spec_FirstFailure.f failT
  refine Ev.bind (specFam_ev n l hl) ?_
  by_cases hf : famB n l = true
  · refine Ev.ifp hf ?_
    rw [if_pos hf]
    obtain ⟨m, L, rfl, hm, rfl, hL, _⟩ := famB_nat hf
    rw [toNat_map]
    have hlen : (L.map (fun x : Nat => (x : Int))).length = L.length := List.length_map _
    rw [hlen] at hl
    have hrd : ∀ i, (h : i < L.length) → rd (L.map (fun x : Nat => (x : Int))) (i : Int) = (L[i] : Int) := fun i h => by
      rw [rd_getElem _ i (by rw [hlen]; exact h), List.getElem_map]
    have hl' : (L.map (fun x : Nat => (x : Int))).length ≤ 17592186044416 := by rw [hlen]; exact hl
    generalize L.map (fun x : Nat => (x : Int)) = l at hlen hrd hl'
    have h := down (P := fun i => Ev (fun k => spec_FirstFailure.l0 k (i : Int) (m : Int) l) (told (failA l L (L.drop i)))) L.length
      (by
        apply Ev.step
        · intro k
          simp only [spec_FirstFailure.l0]
          rw [if_neg (by omega)]
        · rw [drop_end]; exact Ev.now _)
      (by
        intro i hi ih
        have hia := hL _ (List.getElem_mem hi)
        have hih : Ev (fun k => spec_FirstFailure.l0 k (wrap64 ((i : Int) + 1)) (m : Int) l) (told (failA l L (L.drop (i + 1)))) := by
          rw [w_succ hi hl]; exact ih
        apply Ev.step
        · intro k
          simp only [spec_FirstFailure.l0]
          rw [if_pos (by omega)]
        · have h1 := down (P := fun j => Ev (fun k => spec_FirstFailure.l1 k (i : Int) (j : Int) (m : Int) l) (match failB l L[i] (L.drop j) with | none => told (failA l L (L.drop (i + 1))) | some (b, e) => ((L[i] : Int), (b : Int), (e : Int), true))) L.length
            (by
              apply Ev.step
              · intro k
                simp only [spec_FirstFailure.l1]
                rw [if_neg (by omega)]
              · rw [drop_end]; exact hih)
            (by
              intro j hj ihj
              have hjb := hL _ (List.getElem_mem hj)
              apply Ev.step
              · intro k
                simp only [spec_FirstFailure.l1]
                rw [if_pos (by omega)]
              · have h2 := specFail_l2 m hm l hl' i j (by omega) (by omega) L[i] L[j] (hrd i hi) (hrd j hj) hia hjb _ (by rw [w_succ hj hl]; exact ihj)
                rw [drop_cons L j hj]
                simp only [failB]
                generalize failE l L[i] L[j] (els (dif L[i] L[j])) = q at h2
                cases q with
                | none => exact h2
                | some e => exact h2)
          rw [drop_cons L i hi]
          simp only [failA]
          rw [List.drop_zero] at h1
          generalize failB l L[i] L = q at h1
          cases q with
          | none => exact h1
          | some x => exact h1)
    exact h
  · refine Ev.ifn hf ?_
    rw [if_neg hf]
    exact Ev.now _

end Go.Proofs.Ytinoamehdhgpgaa.Q

namespace Go.Proofs.Ytinoamehdhgpgaa.Q
open Go Go.RowKit Go.Proofs.Ytinoamehdhgpgaa.A Go.Proofs.YtinoamehdhgpgaaW.PrintWords Go.Proofs.YtinoamehdhgpgaaW.PrintLast Go.Proofs.YtinoamehdhgpgaaW.PrintMore Go.Proofs.Ytinoamehdhgpgaa.Z
set_option linter.unusedVariables false
set_option linter.unusedSimpArgs false

/-- A matroid: a family, not empty, without a failure of the exchange. -/
def matB (n : Int) (l : List Int) : Bool := famB n l && (decide ((l.length : Int) > 0) && !(failT n l).2.2.2)
theorem specMat_ev (n : Int) (l : List Int) (hl : l.length ≤ 17592186044416) : Ev (fun k => spec_IsMatroid.f k n l) (matB n l) := by
  unfold spec_IsMatroid.f matB
  refine Ev.bind (specFail_ev n l hl) (Ev.bind (specFam_ev n l hl) ?_)
  by_cases hf : famB n l = true
  · refine Ev.ifp hf ?_
    rw [hf, Bool.true_and]
    by_cases h0 : (l.length : Int) > 0
    · refine Ev.ifp h0 ?_
      rw [show decide ((l.length : Int) > 0) = true from by simpa using h0, Bool.true_and]
      exact Ev.now _
    · refine Ev.ifn h0 ?_
      rw [show decide ((l.length : Int) > 0) = false from by simpa using h0, Bool.false_and]
      exact Ev.now _
  · refine Ev.ifn hf ?_
    rw [Bool.eq_false_iff.2 hf, Bool.false_and]
    exact Ev.now _

end Go.Proofs.Ytinoamehdhgpgaa.Q

namespace Go.Proofs.Ytinoamehdhgpgaa.Q
open Go Go.RowKit Go.Proofs.YtinoamehdhgpgaaW.PrintWords Go.Proofs.YtinoamehdhgpgaaW.PrintLast Go.Proofs.YtinoamehdhgpgaaW.PrintMore Go.Proofs.Ytinoamehdhgpgaa.Z
set_option linter.unusedVariables false
set_option linter.unusedSimpArgs false

/-- What a matroid is, as numbers. -/
theorem matB_nat {n : Int} {l : List Int} (h : matB n l = true) : ∃ (m : Nat) (L : List Nat), n = m ∧ m ≤ 8 ∧ l = ints L ∧ (∀ x ∈ L, x < 2 ^ m) ∧ (∀ x ∈ L, x < 256) ∧ L.Pairwise (· < ·) ∧ L ≠ [] := by
  simp only [matB, Bool.and_eq_true, decide_eq_true_eq] at h
  obtain ⟨m, L, rfl, hm, rfl, hL, hp⟩ := famB_nat h.1
  refine ⟨m, L, rfl, hm, rfl, hL, fun x hx => Nat.lt_of_lt_of_le (hL x hx) (pow_le_256 hm), hp, ?_⟩
  rintro rfl
  simp at h
theorem ints_len (L : List Nat) : (ints L).length = L.length := List.length_map _
theorem ints_rd (L : List Nat) (i : Nat) (h : i < L.length) : rd (ints L) (i : Int) = (L[i] : Int) := by
  rw [rd_getElem _ i (by rw [ints_len]; exact h)]
  simp [ints]

end Go.Proofs.Ytinoamehdhgpgaa.Q

namespace Go.Proofs.Ytinoamehdhgpgaa.Q
open Go Go.RowKit Go.Proofs.Ytinoamehdhgpgaa.A Go.Proofs.YtinoamehdhgpgaaW.PrintWords Go.Proofs.YtinoamehdhgpgaaW.PrintLast Go.Proofs.YtinoamehdhgpgaaW.PrintMore Go.Proofs.Ytinoamehdhgpgaa.Z
set_option linter.unusedVariables false
set_option linter.unusedSimpArgs false

theorem pow_wrap {e : Nat} (he : e < 8) : IntKind.i64.wrap (2 ^ e) = ((2 ^ e : Nat) : Int) := by
  have h2 : (2 ^ e : Nat) < 9223372036854775808 := by
    have := Nat.pow_lt_pow_right (a := 2) (by decide) (show e < 63 by omega)
    simpa using this
  have h3 : (2 : Int) ^ e = ((2 ^ e : Nat) : Int) := by simp
  rw [h3]
  exact i64_wrap_nat h2
theorem implC_ev (l : List Int) (hl : l.length ≤ 17592186044416) (a e f : Nat) (ha : a < 256) (he : e < 8) (hf : f < 8) : Ev (fun k => impl_FirstFailure.c k l (a : Int) (e : Int) (f : Int)) (l.contains ((dif a (2 ^ e) ||| 2 ^ f : Nat) : Int)) := by
  unfold impl_FirstFailure.c impl_HasSet.f
  refine Ev.ifp (by omega) (Ev.ifp (by omega) ?_)
  have hp : ∀ x < 8, 2 ^ x < 2 ^ 63 := fun x hx => Nat.pow_lt_pow_right (by decide) (by omega)
  rw [Int.toNat_natCast, Int.toNat_natCast, pow_wrap he, pow_wrap hf, andNot_nat (lt256_63 ha) (hp e he), or_nat (lt256_63 (dif_lt ha)) (hp f hf)]
  exact Ev.bind (contains_ev l _ hl) (Ev.now _)
theorem els_lt {s e : Nat} (h : e ∈ els s) : e < 8 := (mem_els.1 h).1
theorem any_map (p : Int → Bool) (L : List Nat) : (L.map (fun x : Nat => (x : Int))).any p = L.any (fun x => p (x : Int)) := by
  rw [List.any_map]; rfl
theorem implFail_l2 (l : List Int) (hl : l.length ≤ 17592186044416) (a b : Nat) (ha : a < 256) (hb : b < 256) : ∀ es : List Nat, (∀ e ∈ es, e < 8) → Ev (fun k => impl_FirstFailure.l2 k l (a : Int) (b : Int) (es.map (fun x : Nat => (x : Int)))) ((failE l a b es).map (fun x : Nat => (x : Int))) := by
  intro es
  induction es with
  | nil => intro _; exact Ev.now _
  | cons e es ih =>
    intro hm
    have he := hm e (List.mem_cons_self ..)
    simp only [List.map_cons, impl_FirstFailure.l2]
    rw [andNot_nat (lt256_63 hb) (lt256_63 ha)]
    refine Ev.bind (implElements_ev _) ?_
    rw [elsB_nat (dif_lt hb)]
    refine Ev.bind (a := hasEx l a b e) ?_ ?_
    · have h := Ev_anyO (g := fun k f => impl_FirstFailure.c k l (a : Int) (e : Int) f) (p := fun f => l.contains ((dif a (2 ^ e) ||| 2 ^ f.toNat : Nat) : Int)) (l := (els (dif b a)).map (fun x : Nat => (x : Int)))
        (fun x hx => by
          obtain ⟨f, hf, rfl⟩ := List.mem_map.1 hx
          have := implC_ev l hl a e f ha he (els_lt hf)
          rw [Int.toNat_natCast]
          exact this)
      rw [any_map] at h
      simp only [Int.toNat_natCast] at h
      exact h
    · simp only [failE]
      by_cases hx : hasEx l a b e = true
      · refine Ev.ifp hx ?_
        rw [if_pos hx]
        exact ih (fun e' he' => hm e' (List.mem_cons_of_mem _ he'))
      · refine Ev.ifn hx ?_
        rw [if_neg hx]
        exact Ev.now _
theorem implFail_l1 (l : List Int) (hl : l.length ≤ 17592186044416) (a : Nat) (ha : a < 256) : ∀ bs : List Nat, (∀ b ∈ bs, b < 256) → Ev (fun k => impl_FirstFailure.l1 k l (a : Int) (bs.map (fun x : Nat => (x : Int)))) ((failB l a bs).map (fun x : Nat × Nat => ((x.1 : Int), (x.2 : Int)))) := by
  intro bs
  induction bs with
  | nil => intro _; exact Ev.now _
  | cons b bs ih =>
    intro hm
    have hb := hm b (List.mem_cons_self ..)
    simp only [List.map_cons, impl_FirstFailure.l1]
    rw [andNot_nat (lt256_63 ha) (lt256_63 hb)]
    refine Ev.bind (implElements_ev _) ?_
    rw [elsB_nat (dif_lt ha)]
    refine Ev.bind (implFail_l2 l hl a b ha hb _ (fun e he => els_lt he)) ?_
    simp only [failB]
    cases failE l a b (els (dif a b)) with
    | none => exact ih (fun b' hb' => hm b' (List.mem_cons_of_mem _ hb'))
    | some e => exact Ev.now _
theorem implFail_l0 (l : List Int) (L : List Nat) (hlL : l = L.map (fun x : Nat => (x : Int))) (hl : l.length ≤ 17592186044416) (hL : ∀ b ∈ L, b < 256) : ∀ la : List Nat, (∀ a ∈ la, a < 256) → Ev (fun k => impl_FirstFailure.l0 k l (la.map (fun x : Nat => (x : Int)))) ((failA l L la).map (fun x : Nat × Nat × Nat => ((x.1 : Int), (x.2.1 : Int), (x.2.2 : Int)))) := by
  intro la
  induction la with
  | nil => intro _; exact Ev.now _
  | cons a la ih =>
    intro hm
    have ha := hm a (List.mem_cons_self ..)
    simp only [List.map_cons, impl_FirstFailure.l0]
    refine Ev.bind (a := (failB l a L).map (fun x : Nat × Nat => ((x.1 : Int), (x.2 : Int)))) (by
      have := implFail_l1 l hl a ha L hL
      rw [← hlL] at this
      exact this) ?_
    simp only [failA]
    cases failB l a L with
    | none => exact ih (fun a' ha' => hm a' (List.mem_cons_of_mem _ ha'))
    | some x => exact Ev.now _
theorem implFail_ev (n : Int) (l : List Int) (hl : l.length ≤ 17592186044416) : Ev (fun k => impl_FirstFailure.f k n l) (failT n l) := by
  unfold impl_FirstFailure.f failT
  refine Ev.bind (implFam_ev n l hl) ?_
  by_cases hf : famB n l = true
  · refine Ev.ifp hf ?_
    rw [if_pos hf]
    obtain ⟨m, L, rfl, hm, hlL, hL, _⟩ := famB_nat hf
    have hmap : l.map Int.toNat = L := by rw [hlL, toNat_map]
    have h256 : ∀ b ∈ L, b < 256 := fun b hb => Nat.lt_of_lt_of_le (hL b hb) (pow_le_256 hm)
    have h := implFail_l0 l L hlL hl h256 L h256
    rw [← hlL] at h
    refine Ev.bind h ?_
    rw [hmap]
    cases failA l L L with
    | none => exact Ev.now _
    | some x => exact Ev.now _
  · refine Ev.ifn hf ?_
    rw [if_neg hf]
    exact Ev.now _

end Go.Proofs.Ytinoamehdhgpgaa.Q

namespace Go.Proofs.Ytinoamehdhgpgaa.Q
open Go Go.RowKit Go.Proofs.Ytinoamehdhgpgaa.A Go.Proofs.YtinoamehdhgpgaaW.PrintWords Go.Proofs.YtinoamehdhgpgaaW.PrintLast Go.Proofs.YtinoamehdhgpgaaW.PrintMore Go.Proofs.Ytinoamehdhgpgaa.Z
set_option linter.unusedVariables false
set_option linter.unusedSimpArgs false

theorem implMat_ev (n : Int) (l : List Int) (hl : l.length ≤ 17592186044416) : Ev (fun k => impl_IsMatroid.f k n l) (matB n l) := by
  unfold impl_IsMatroid.f matB
  refine Ev.bind (implFail_ev n l hl) (Ev.bind (implFam_ev n l hl) ?_)
  by_cases hf : famB n l = true
  · refine Ev.ifp hf ?_
    rw [hf, Bool.true_and]
    by_cases h0 : (l.length : Int) > 0
    · refine Ev.ifp h0 ?_
      rw [show decide ((l.length : Int) > 0) = true from by simpa using h0, Bool.true_and]
      exact Ev.now _
    · refine Ev.ifn h0 ?_
      rw [show decide ((l.length : Int) > 0) = false from by simpa using h0, Bool.false_and]
      exact Ev.now _
  · refine Ev.ifn hf ?_
    rw [Bool.eq_false_iff.2 hf, Bool.false_and]
    exact Ev.now _

end Go.Proofs.Ytinoamehdhgpgaa.Q

namespace Go.Proofs.Ytinoamehdhgpgaa.Q
open Go Go.RowKit Go.Proofs.Ytinoamehdhgpgaa.A Go.Proofs.YtinoamehdhgpgaaW.PrintWords Go.Proofs.YtinoamehdhgpgaaW.PrintLast Go.Proofs.YtinoamehdhgpgaaW.PrintMore Go.Proofs.Ytinoamehdhgpgaa.Z
set_option linter.unusedVariables false
set_option linter.unusedSimpArgs false

def renG (n : Int) : List Int → Nat → Bool
  | [], _ => true
  | x :: xs, seen => (decide (0 ≤ x) && decide (x < n) && decide (x < 8) && !seen.testBit x.toNat) && renG n xs (seen ||| 2 ^ x.toNat)
def isRenB (n : Int) (l : List Int) : Bool := decide ((l.length : Int) = n) && decide (n ≤ 8) && renG n l 0
theorem or_lt {a x : Nat} (ha : a < 256) (hx : x < 8) : a ||| 2 ^ x < 256 := by
  have h1 : a < 2 ^ 8 := ha
  have h2 : 2 ^ x < 2 ^ 8 := Nat.pow_lt_pow_right (by decide) hx
  exact Nat.or_lt_two_pow h1 h2
theorem pow_lt_256 {x : Nat} (hx : x < 8) : 2 ^ x < 256 := Nat.pow_lt_pow_right (a := 2) (m := x) (n := 8) (by decide) hx
theorem specRen_l0 (n : Int) (l : List Int) (hl : l.length ≤ 17592186044416) (hn : (l.length : Int) = n) (h8 : n ≤ 8) : ∀ seen : Nat, seen < 256 → Ev (fun k => spec_IsRenaming.l0 k n l (seen : Int) 0) (renG n l seen) := by
  have h := down (P := fun i => ∀ seen : Nat, seen < 256 → Ev (fun k => spec_IsRenaming.l0 k n l (seen : Int) (i : Int)) (renG n (l.drop i) seen)) l.length
    (by
      intro seen hs
      apply Ev.step
      · intro k
        simp only [spec_IsRenaming.l0]
        rw [if_neg (by omega)]
      · rw [drop_end]; exact Ev.now _)
    (by
      intro i hi ih seen hs
      apply Ev.step
      · intro k
        simp only [spec_IsRenaming.l0, l1In_eq, Option.bind_some]
        rw [if_pos (by omega), if_pos (by omega), if_pos (by omega), rd_getElem l i hi, w_succ hi hl, wrap64_of (by omega) (by omega)]
      · rw [drop_cons l i hi]
        simp only [renG]
        by_cases hx : (decide (0 ≤ l[i]) && decide (l[i] ≤ n - 1)) = true
        · refine Ev.ifp hx ?_
          simp only [Bool.and_eq_true, decide_eq_true_eq] at hx
          obtain ⟨x, hxe⟩ := Int.eq_ofNat_of_zero_le hx.1
          rw [hxe] at hx ⊢
          have hx8 : x < 8 := by omega
          have c1 : (decide (0 ≤ (x : Int)) && decide ((x : Int) < n) && decide ((x : Int) < 8)) = true := by
            simp only [Bool.and_eq_true, decide_eq_true_eq]; omega
          rw [c1, Bool.true_and, Int.toNat_natCast]
          refine Ev.cbind (l2Has_eq (lt256_63 hs) (by omega)) ?_
          by_cases hb : seen.testBit x = true
          · refine Ev.ifp hb ?_
            rw [hb]; exact Ev.now _
          · refine Ev.ifn hb (Ev.ifp (u64_nonneg _) ?_)
            rw [Bool.eq_false_iff.2 hb, u64_of (by omega) (by omega), shl_one (by omega), or_nat (lt256_63 hs) (lt256_63 (pow_lt_256 hx8))]
            exact ih _ (or_lt hs hx8)
        · refine Ev.ifn hx ?_
          have c1 : (decide (0 ≤ l[i]) && decide (l[i] < n)) = false := by
            rw [Bool.eq_false_iff]
            intro hc
            apply hx
            simp only [Bool.and_eq_true, decide_eq_true_eq] at *
            omega
          rw [c1]
          exact Ev.now _)
  exact h
theorem specRen_ev (n : Int) (l : List Int) (hl : l.length ≤ 17592186044416) : Ev (fun k => spec_IsRenaming.f k n l) (isRenB n l) := by
  unfold spec_IsRenaming.f isRenB
  by_cases hn : (l.length : Int) = n
  · refine Ev.ifp hn ?_
    rw [show decide ((l.length : Int) = n) = true from by simpa using hn, Bool.true_and]
    apply Ev.step
    · intro k
      rw [spec_IsRenaming.j0]
    · by_cases h8 : n > 8
      · refine Ev.ifp (by simpa using h8) ?_
        rw [show decide (n ≤ 8) = false from by simpa using h8]
        exact Ev.now _
      · refine Ev.ifn (by simpa using h8) ?_
        rw [show decide (n ≤ 8) = true from by simp; omega, Bool.true_and]
        exact specRen_l0 n l hl hn (by omega) 0 (by omega)
  · refine Ev.ifn hn ?_
    rw [show decide ((l.length : Int) = n) = false from by simpa using hn]
    apply Ev.step
    · intro k
      rw [spec_IsRenaming.j0]
    · refine Ev.ifp rfl ?_
      exact Ev.now _
theorem implRen_l0 (n : Int) (l : List Int) (hl : l.length ≤ 17592186044416) : ∀ seen : Nat, seen < 256 → Ev (fun k => impl_IsRenaming.l0 k n l (seen : Int) l (l.length : Int) 0) (renG n l seen && ((decide (0 ≤ n) && decide (n ≤ 8)) && decide ((l.length : Int) = n))) := by
  have h := down (P := fun i => ∀ seen : Nat, seen < 256 → Ev (fun k => impl_IsRenaming.l0 k n l (seen : Int) l (l.length : Int) (i : Int)) (renG n (l.drop i) seen && ((decide (0 ≤ n) && decide (n ≤ 8)) && decide ((l.length : Int) = n)))) l.length
    (by
      intro seen hs
      apply Ev.step
      · intro k
        simp only [impl_IsRenaming.l0, isSize_eq, Option.bind_some]
        rw [if_neg (by omega)]
      · rw [drop_end]
        simp only [renG, Bool.true_and]
        by_cases h8 : (decide (0 ≤ n) && decide (n ≤ 8)) = true
        · refine Ev.ifp h8 ?_
          rw [h8, Bool.true_and]; exact Ev.now _
        · refine Ev.ifn h8 ?_
          rw [Bool.eq_false_iff.2 h8, Bool.false_and]; exact Ev.now _)
    (by
      intro i hi ih seen hs
      apply Ev.step
      · intro k
        simp only [impl_IsRenaming.l0]
        rw [if_pos (by omega), if_pos (by omega), if_pos (by omega), rd_getElem l i hi, w_succ hi hl]
      · rw [drop_cons l i hi]
        simp only [renG]
        by_cases h0 : l[i] < 0
        · refine Ev.ifp h0 ?_
          rw [show decide (0 ≤ l[i]) = false from by simpa using h0]
          exact Ev.now _
        · refine Ev.ifn h0 ?_
          by_cases hn : l[i] ≥ n
          · refine Ev.ifp hn ?_
            rw [show decide (l[i] < n) = false from by simpa using hn, Bool.and_false]
            exact Ev.now _
          · refine Ev.ifn hn ?_
            by_cases h8 : l[i] ≥ 8
            · refine Ev.ifp h8 ?_
              rw [show decide (l[i] < 8) = false from by simpa using h8, Bool.and_false]
              exact Ev.now _
            · refine Ev.ifn h8 (Ev.ifp (by omega) ?_)
              obtain ⟨x, hxe⟩ := Int.eq_ofNat_of_zero_le (show 0 ≤ l[i] by omega)
              rw [hxe] at h0 hn h8 ⊢
              have hx8 : x < 8 := by omega
              have c1 : (decide (0 ≤ (x : Int)) && decide ((x : Int) < n) && decide ((x : Int) < 8)) = true := by
                simp only [Bool.and_eq_true, decide_eq_true_eq]; omega
              rw [c1, Bool.true_and, Int.toNat_natCast]
              by_cases hb : seen.testBit x = true
              · refine Ev.ifp ((bit_natP (lt256_63 hs)).2 hb) ?_
                rw [hb]; exact Ev.now _
              · refine Ev.ifn (fun hc => hb ((bit_natP (lt256_63 hs)).1 hc)) ?_
                rw [Bool.eq_false_iff.2 hb, shl_one (by omega), or_nat (lt256_63 hs) (lt256_63 (pow_lt_256 hx8))]
                exact ih _ (or_lt hs hx8))
  exact h
theorem implRen_ev (n : Int) (l : List Int) (hl : l.length ≤ 17592186044416) : Ev (fun k => impl_IsRenaming.f k n l) (isRenB n l) := by
  have h := implRen_l0 n l hl 0 (by omega)
  have e : (renG n l 0 && ((decide (0 ≤ n) && decide (n ≤ 8)) && decide ((l.length : Int) = n))) = isRenB n l := by
    unfold isRenB
    by_cases hn : (l.length : Int) = n
    · have : decide (0 ≤ n) = true := by simp; omega
      rw [this, show decide ((l.length : Int) = n) = true from by simpa using hn]
      cases renG n l 0 <;> cases decide (n ≤ 8) <;> rfl
    · rw [show decide ((l.length : Int) = n) = false from by simpa using hn]
      simp
  rw [e] at h
  exact h

end Go.Proofs.Ytinoamehdhgpgaa.Q

namespace Go.Proofs.Ytinoamehdhgpgaa.Q
open Go Go.RowKit Go.Proofs.Ytinoamehdhgpgaa.A Go.Proofs.YtinoamehdhgpgaaW.PrintWords Go.Proofs.YtinoamehdhgpgaaW.PrintLast Go.Proofs.YtinoamehdhgpgaaW.PrintMore Go.Proofs.Ytinoamehdhgpgaa.Z
set_option linter.unusedVariables false
set_option linter.unusedSimpArgs false

theorem filter_range_swap (p : Nat → Bool) (a b : Nat) : (List.range a).filter (fun e => decide (e < b) && p e) = (List.range (min a b)).filter p := by
  induction a with
  | zero => simp
  | succ a ih =>
    rw [List.range_succ, List.filter_append, ih]
    by_cases h : a < b
    · rw [show min (a + 1) b = min a b + 1 from by omega, List.range_succ, List.filter_append]
      have e : min a b = a := by omega
      rw [e]
      congr 1
      simp [List.filter_cons, h]
    · rw [show min (a + 1) b = min a b from by omega]
      simp [List.filter_cons, h]
end Go.Proofs.Ytinoamehdhgpgaa.Q

namespace Go.Proofs.Ytinoamehdhgpgaa.Q
open Go Go.RowKit Go.Proofs.Ytinoamehdhgpgaa.A Go.Proofs.YtinoamehdhgpgaaW.PrintWords Go.Proofs.YtinoamehdhgpgaaW.PrintLast Go.Proofs.YtinoamehdhgpgaaW.PrintMore Go.Proofs.Ytinoamehdhgpgaa.Z
set_option linter.unusedVariables false
set_option linter.unusedSimpArgs false

theorem renG_mem {n : Int} : ∀ {l : List Int} {seen : Nat}, renG n l seen = true → ∀ x ∈ l, 0 ≤ x ∧ x < n ∧ x < 8 := by
  intro l
  induction l with
  | nil => intro seen _ x hx; simp at hx
  | cons y ys ih =>
    intro seen h x hx
    simp only [renG, Bool.and_eq_true, decide_eq_true_eq] at h
    rcases List.mem_cons.1 hx with rfl | hx
    · exact ⟨h.1.1.1.1, h.1.1.1.2, h.1.1.2⟩
    · exact ih h.2 x hx
/-- The places of some elements, gathered. -/
def orFold (l : List Int) (acc : Nat) (es : List Nat) : Nat := es.foldl (fun (a : Nat) (e : Nat) => a ||| 2 ^ (rd l (e : Int)).toNat) acc
def renSetN (l : List Int) (s : Nat) : Nat := orFold l 0 ((List.range l.length).filter (fun e => s.testBit e))
theorem rd_range {l : List Int} (hm : ∀ x ∈ l, 0 ≤ x ∧ x < 8) {i : Nat} (hi : i < l.length) : ∃ x : Nat, rd l (i : Int) = x ∧ x < 8 := by
  have h := hm _ (List.getElem_mem hi)
  obtain ⟨x, hx⟩ := Int.eq_ofNat_of_zero_le h.1
  exact ⟨x, by rw [rd_getElem l i hi, hx], by omega⟩
theorem spec18Set_ev (l : List Int) (s : Nat) (hl : l.length ≤ 17592186044416) (hm : ∀ x ∈ l, 0 ≤ x ∧ x < 8) (hs : s < 256) : Ev (fun k => spec_l18Set.f k l (s : Int)) ((renSetN l s : Nat) : Int) := by
  have h := down (P := fun i => ∀ acc : Nat, acc < 256 → Ev (fun k => spec_l18Set.l0 k l (s : Int) (acc : Int) (i : Int)) ((orFold l acc ((List.range' i (l.length - i)).filter (fun e => s.testBit e)) : Nat) : Int)) l.length
    (by
      intro acc ha
      apply Ev.step
      · intro k
        simp only [spec_l18Set.l0]
        rw [if_neg (by omega)]
      · rw [Nat.sub_self]
        exact Ev.now _)
    (by
      intro i hi ih acc ha
      obtain ⟨x, hx, hx8⟩ := rd_range hm hi
      apply Ev.step
      · intro k
        simp only [spec_l18Set.l0, l2Has_eq (lt256_63 hs) (show i < 2 ^ 63 by omega), Option.bind_some]
        rw [if_pos (by omega), w_succ hi hl]
      · rw [range'_cons hi, List.filter_cons]
        by_cases hb : s.testBit i = true
        · refine Ev.ifp hb (Ev.ifp (by omega) (Ev.ifp (u64_nonneg _) ?_))
          rw [if_pos hb, hx, u64_of (by omega) (by omega), shl_one (by omega), or_nat (lt256_63 ha) (lt256_63 (pow_lt_256 hx8))]
          have := ih _ (or_lt ha hx8)
          have e : orFold l acc (i :: (List.range' (i + 1) (l.length - (i + 1))).filter (fun e => s.testBit e)) = orFold l (acc ||| 2 ^ x) ((List.range' (i + 1) (l.length - (i + 1))).filter (fun e => s.testBit e)) := by
            simp only [orFold, List.foldl_cons, hx, Int.toNat_natCast]
          rw [e]; exact this
        · refine Ev.ifn hb ?_
          rw [if_neg hb]
          exact ih acc ha)
  have h0 := h 0 (by omega)
  rw [Nat.sub_zero, ← List.range_eq_range'] at h0
  exact h0
theorem implRenSet_ev (l : List Int) (s : Nat) (h8 : l.length ≤ 8) (hm : ∀ x ∈ l, 0 ≤ x ∧ x < 8) (hs : s < 2 ^ l.length) : Ev (fun k => impl_renameSet.f k l (s : Int)) ((renSetN l s : Nat) : Int) := by
  have hs256 : s < 256 := Nat.lt_of_lt_of_le hs (pow_le_256 h8)
  unfold impl_renameSet.f
  refine Ev.bind (implElements_ev _) ?_
  have he : elsB (s : Int) = ((List.range l.length).filter (fun e => s.testBit e)).map (fun e : Nat => (e : Int)) := by
    rw [elsB_nat hs256, els]
    have h1 : (List.range 8).filter (fun e => s.testBit e) = (List.range 8).filter (fun e => decide (e < l.length) && s.testBit e) :=
      List.filter_congr (fun e _ => by
        by_cases hq : e < l.length
        · simp [hq]
        · have : s.testBit e = false := Nat.testBit_lt_two_pow (Nat.lt_of_lt_of_le hs (Nat.pow_le_pow_right (by decide) (by omega)))
          simp [this])
    rw [h1, filter_range_swap, Nat.min_eq_right h8]
  rw [he]
  unfold renSetN
  have hes : ∀ e ∈ (List.range l.length).filter (fun e => s.testBit e), e < l.length := by
    intro e hmem
    simp at hmem
    exact hmem.1
  have hlen : ((List.range l.length).filter (fun e => s.testBit e)).length ≤ 8 := Nat.le_trans (List.length_filter_le _ _) (by simpa using h8)
  generalize (List.range l.length).filter (fun e => s.testBit e) = es at hes hlen
  have h := down (P := fun i => ∀ acc : Nat, acc < 256 → Ev (fun k => impl_renameSet.l0 k l (acc : Int) (es.map (fun e : Nat => (e : Int))) ((es.map (fun e : Nat => (e : Int))).length : Int) (i : Int)) ((orFold l acc (es.drop i) : Nat) : Int)) es.length
    (by
      intro acc ha
      apply Ev.step
      · intro k
        simp only [impl_renameSet.l0]
        rw [if_neg (by rw [List.length_map]; omega)]
      · rw [drop_end]; exact Ev.now _)
    (by
      intro i hi ih acc ha
      have hi' : i < (es.map (fun e : Nat => (e : Int))).length := by rw [List.length_map]; exact hi
      have hr : rd (es.map (fun e : Nat => (e : Int))) (i : Int) = (es[i] : Int) := by rw [rd_getElem _ _ hi', List.getElem_map]
      have hei := hes _ (List.getElem_mem hi)
      obtain ⟨x, hx, hx8⟩ := rd_range hm hei
      apply Ev.step
      · intro k
        simp only [impl_renameSet.l0]
        rw [if_pos (by omega), if_pos (by omega), if_pos (by omega), hr, if_pos (by omega), if_pos (by omega), hx, if_pos (by omega), w_succ hi (by omega), shl_one (by omega), or_nat (lt256_63 ha) (lt256_63 (pow_lt_256 hx8))]
      · have e : orFold l acc (es.drop i) = orFold l (acc ||| 2 ^ x) (es.drop (i + 1)) := by
          rw [drop_cons es i hi]
          simp only [orFold, List.foldl_cons, hx, Int.toNat_natCast]
        rw [e]
        exact ih _ (or_lt ha hx8))
  exact h 0 (by omega)
theorem isRenB_facts {l : List Int} (h : isRenB (l.length : Int) l = true) : l.length ≤ 8 ∧ ∀ x ∈ l, 0 ≤ x ∧ x < 8 := by
  simp only [isRenB, Bool.and_eq_true, decide_eq_true_eq] at h
  refine ⟨by omega, fun x hx => ?_⟩
  have := renG_mem h.2 x hx
  omega

end Go.Proofs.Ytinoamehdhgpgaa.Q

namespace Go.Proofs.Ytinoamehdhgpgaa.Q
open Go Go.RowKit Go.Proofs.Ytinoamehdhgpgaa.A Go.Proofs.YtinoamehdhgpgaaW.PrintWords Go.Proofs.YtinoamehdhgpgaaW.PrintLast Go.Proofs.YtinoamehdhgpgaaW.PrintMore Go.Proofs.Ytinoamehdhgpgaa.Z
set_option linter.unusedVariables false
set_option linter.unusedSimpArgs false

/-- A number put into a list in order, once. -/
def insO (x : Int) : List Int → List Int
  | [] => [x]
  | y :: ys => if y < x then y :: insO x ys else (if y = x then y :: ys else x :: y :: ys)
def sortO (acc X : List Int) : List Int := X.foldl (fun a x => insO x a) acc
theorem insO_len (x : Int) (l : List Int) : (insO x l).length ≤ l.length + 1 := by
  induction l with
  | nil => exact Nat.le_refl _
  | cons y l ih =>
    simp only [insO]
    by_cases h : y < x
    · rw [if_pos h, List.length_cons, List.length_cons]; omega
    · rw [if_neg h]
      by_cases h2 : y = x
      · rw [if_pos h2]; omega
      · rw [if_neg h2]; simp only [List.length_cons]; omega
theorem insO_mem (x a : Int) (l : List Int) : a ∈ insO x l ↔ a = x ∨ a ∈ l := by
  induction l with
  | nil => simp [insO]
  | cons y l ih =>
    simp only [insO]
    by_cases h : y < x
    · rw [if_pos h, List.mem_cons, ih, List.mem_cons]
      constructor
      · rintro (h' | h' | h')
        · exact .inr (.inl h')
        · exact .inl h'
        · exact .inr (.inr h')
      · rintro (h' | h' | h')
        · exact .inr (.inl h')
        · exact .inl h'
        · exact .inr (.inr h')
    · rw [if_neg h]
      by_cases h2 : y = x
      · rw [if_pos h2]
        subst h2
        constructor
        · exact .inr
        · rintro (rfl | h')
          · exact List.mem_cons_self ..
          · exact h'
      · rw [if_neg h2, List.mem_cons]
theorem insO_pair (x : Int) (l : List Int) (hl : l.Pairwise (· < ·)) : (insO x l).Pairwise (· < ·) := by
  induction l with
  | nil => simp [insO]
  | cons y l ih =>
    rw [List.pairwise_cons] at hl
    simp only [insO]
    by_cases h : y < x
    · rw [if_pos h, List.pairwise_cons]
      refine ⟨fun a ha => ?_, ih hl.2⟩
      rcases (insO_mem x a l).1 ha with rfl | ha
      · exact h
      · exact hl.1 a ha
    · rw [if_neg h]
      by_cases h2 : y = x
      · rw [if_pos h2, List.pairwise_cons]; exact hl
      · rw [if_neg h2, List.pairwise_cons, List.pairwise_cons]
        refine ⟨fun a ha => ?_, hl⟩
        rcases List.mem_cons.1 ha with rfl | ha
        · omega
        · have := hl.1 a ha; omega
theorem sortO_mem (X : List Int) (a : Int) : ∀ acc : List Int, a ∈ sortO acc X ↔ a ∈ X ∨ a ∈ acc := by
  induction X with
  | nil => intro acc; simp [sortO]
  | cons x X ih =>
    intro acc
    have := ih (insO x acc)
    unfold sortO at this ⊢
    rw [List.foldl_cons, this, insO_mem, List.mem_cons]
    constructor
    · rintro (h | h | h)
      · exact .inl (.inr h)
      · exact .inl (.inl h)
      · exact .inr h
    · rintro ((h | h) | h)
      · exact .inr (.inl h)
      · exact .inl h
      · exact .inr (.inr h)
theorem sortO_pair (X : List Int) : ∀ acc : List Int, acc.Pairwise (· < ·) → (sortO acc X).Pairwise (· < ·) := by
  induction X with
  | nil => intro acc h; exact h
  | cons x X ih => intro acc h; exact ih _ (insO_pair x acc h)
/-- Two lists in order with the same members are one. -/
theorem pair_unique : ∀ {X Y : List Int}, X.Pairwise (· < ·) → Y.Pairwise (· < ·) → (∀ a, a ∈ X ↔ a ∈ Y) → X = Y := by
  intro X
  induction X with
  | nil =>
    intro Y _ _ h
    cases Y with
    | nil => rfl
    | cons y Y => exact absurd ((h y).2 (List.mem_cons_self ..)) (by simp)
  | cons x X ih =>
    intro Y hX hY h
    cases Y with
    | nil => exact absurd ((h x).1 (List.mem_cons_self ..)) (by simp)
    | cons y Y =>
      rw [List.pairwise_cons] at hX hY
      have hxy : x = y := by
        rcases List.mem_cons.1 ((h x).1 (List.mem_cons_self ..)) with e | hx
        · exact e
        · rcases List.mem_cons.1 ((h y).2 (List.mem_cons_self ..)) with e | hy
          · exact e.symm
          · have h1 := hX.1 y hy
            have h2 := hY.1 x hx
            omega
      subst hxy
      rw [ih hX.2 hY.2 (fun a => ?_)]
      constructor
      · intro ha
        rcases List.mem_cons.1 ((h a).1 (List.mem_cons_of_mem _ ha)) with e | h'
        · have := hX.1 a ha; omega
        · exact h'
      · intro ha
        rcases List.mem_cons.1 ((h a).2 (List.mem_cons_of_mem _ ha)) with e | h'
        · have := hY.1 a ha; omega
        · exact h'
theorem specSort_ev (X : List Int) (hx : X.length ≤ 8796093022208) : Ev (fun k => spec_SortSets.f k X) (sortO [] X) := by
  have hd := down (P := fun i => ∀ acc : List Int, acc.length ≤ i → Ev (fun k => spec_SortSets.l0 k X acc (i : Int)) (sortO acc (X.drop i))) X.length
    (by
      intro acc _
      apply Ev.step
      · intro k
        rw [spec_SortSets.l0, if_neg (by omega)]
      · rw [drop_end]; exact Ev.now _)
    (by
      intro i hi ih acc ha
      have ihs := fun y (hy : y = insO X[i] acc) => ih y (by subst hy; have := insO_len X[i] acc; omega)
      rw [drop_cons X i hi]
      have h1 := down (P := fun j => Ev (fun k => spec_SortSets.l1 k X acc (i : Int) (j : Int)) (sortO (acc.take j ++ insO X[i] (acc.drop j)) (X.drop (i + 1)))) acc.length
        (by
          rw [List.take_length, drop_end]
          have hr := ih (acc ++ [X[i]]) (by rw [List.length_append, List.length_singleton]; omega)
          apply Ev.step
          · intro k
            rw [spec_SortSets.l1, if_neg (by omega), w_succ hi (by omega)]
          · simp only [Option.bind_some, Int.toNat_natCast, List.drop_length, List.take_length, List.nil_append, List.append_nil, List.length_nil, List.length_append, List.length_singleton]
            refine Ev.ifp (by omega) (Ev.ifp (by omega) (Ev.ifp (by omega) (Ev.ifp (by omega) (Ev.ifp (by omega) (Ev.ifp (by omega) (Ev.ifp (by omega) ?_))))))
            rw [rd_getElem X i hi]
            exact hr)
        (by
          intro j hj ihj
          apply Ev.step
          · intro k
            rw [spec_SortSets.l1, if_pos (by omega), if_pos (by omega), if_pos (by omega), if_pos (by omega), rd_getElem acc j hj, rd_getElem X i hi, w_succ hi (by omega), w_succ hj (by omega)]
          · rw [drop_cons acc j hj]
            simp only [insO]
            by_cases hlt : acc[j] < X[i]
            · rw [if_pos hlt]
              refine Ev.ifp hlt ?_
              rw [take_snoc acc j hj, List.append_assoc, List.singleton_append] at ihj
              exact ihj
            · rw [if_neg hlt]
              refine Ev.ifn hlt ?_
              by_cases heq : acc[j] = X[i]
              · rw [if_pos heq]
                refine Ev.ifp heq ?_
                rw [← drop_cons acc j hj, List.take_append_drop]
                exact ih acc (by omega)
              · rw [if_neg heq]
                refine Ev.ifn heq ?_
                have hr := ih (acc.take j ++ X[i] :: acc[j] :: acc.drop (j + 1)) (by
                  rw [List.length_append, List.length_cons, List.length_cons, List.length_take, List.length_drop]; omega)
                simp only [Option.bind_some, Int.toNat_natCast, List.nil_append, List.length_nil]
                refine Ev.ifp (by omega) (Ev.ifp (by rw [List.length_drop]; omega) (Ev.ifp (by rw [List.length_take]; omega) (Ev.ifp (by rw [List.length_append, List.length_singleton, List.length_take, List.length_drop]; omega) ?_)))
                rw [drop_cons acc j hj, List.append_assoc, List.singleton_append]
                exact hr)
      apply Ev.step
      · intro k
        rw [spec_SortSets.l0, if_pos (by omega)]
      · have h0 := h1
        rw [List.take_zero, List.drop_zero, List.nil_append] at h0
        show Ev _ (sortO acc (X[i] :: X.drop (i + 1)))
        exact h0)
  exact hd [] (Nat.zero_le _)

end Go.Proofs.Ytinoamehdhgpgaa.Q

namespace Go.Proofs.Ytinoamehdhgpgaa.Q
open Go Go.RowKit Go.Proofs.YtinoamehdhgpgaaW.PrintWords Go.Proofs.YtinoamehdhgpgaaW.PrintLast Go.Proofs.YtinoamehdhgpgaaW.PrintMore Go.Proofs.Ytinoamehdhgpgaa.Z
set_option linter.unusedVariables false
set_option linter.unusedSimpArgs false

theorem rk_ge {L : List Nat} {b : Nat} (hb : b ∈ L) (s : Nat) : pc (b &&& s) ≤ rkN L s := maxN_mem _ 0 _ (List.mem_map.2 ⟨b, hb, rfl⟩)
theorem rk_attain {L : List Nat} (hne : L ≠ []) (s : Nat) : ∃ b ∈ L, pc (b &&& s) = rkN L s := by
  rcases maxN_cases (L.map (fun b => pc (b &&& s))) 0 with h | h
  · obtain ⟨b, hb⟩ := List.exists_mem_of_ne_nil L hne
    have := rk_ge hb s
    refine ⟨b, hb, ?_⟩
    unfold rkN at this ⊢
    omega
  · obtain ⟨b, hb, e⟩ := List.mem_map.1 h
    exact ⟨b, hb, e⟩
theorem Mat.both_step {m : Nat} {L : List Nat} (h : Mat m L) {S T c : Nat} (hST : ∀ i, S.testBit i = true → T.testBit i = true) (hc : c ∈ L) (hcT : pc (c &&& T) = rkN L T) : ∀ (d b : Nat), b ∈ L → pc (b &&& S) = rkN L S → pc (dif b c) = d → ∃ b ∈ L, pc (b &&& S) = rkN L S ∧ pc (b &&& T) = rkN L T := by
  intro d
  induction d with
  | zero =>
    intro b hb hS hd
    refine ⟨b, hb, hS, Nat.le_antisymm (rk_ge hb T) ?_⟩
    rw [← hcT]
    have hcard := h.card hb hc
    refine pc_mono fun i hi hbi => ?_
    rw [Nat.testBit_and, Bool.and_eq_true] at hbi ⊢
    refine ⟨?_, hbi.2⟩
    cases hb' : b.testBit i
    · have h1 : pc b < pc c := by
        have e1 := pc_dif_and c (2 ^ i)
        have hle : pc b ≤ pc (dif c (2 ^ i)) := pc_mono fun j hj hbj => by
          rw [del_bit]
          have : c.testBit j = true := by
            cases hcj : c.testBit j
            · have : 0 < pc (dif b c) := pc_pos hj (by rw [dif_bit, hbj, hcj]; rfl)
              omega
            · rfl
          rw [this]
          have hne : ¬ i = j := by rintro rfl; rw [hb'] at hbj; cases hbj
          simp [hne]
        have := pc_del hi hbi.1
        omega
      omega
    · rfl
  | succ d ih =>
    intro b hb hS hd
    by_cases hT : pc (b &&& T) = rkN L T
    · exact ⟨b, hb, hS, hT⟩
    · have hlt : pc (b &&& T) < pc (c &&& T) := by
        have := rk_ge hb T
        omega
      have hcard := h.card hb hc
      have e1 := pc_dif_and b T
      have e2 := pc_dif_and c T
      obtain ⟨e, he, hbe, hce⟩ := exists_new (a := dif c T) (b := dif b T) (by omega)
      rw [dif_bit, Bool.and_eq_true, Bool.not_eq_true'] at hbe
      have hce' : c.testBit e = false := by
        rw [dif_bit, hbe.2] at hce
        simpa using hce
      obtain ⟨f, hf, h1, h2, hm⟩ := h.exch b hb c hc e he hbe.1 hce'
      refine ih (swp b e f) hm ?_ ?_
      · refine Nat.le_antisymm (rk_ge hm S) ?_
        rw [← hS]
        refine pc_mono fun i _ hi => ?_
        rw [Nat.testBit_and, Bool.and_eq_true] at hi ⊢
        refine ⟨?_, hi.2⟩
        have hie : ¬ e = i := by rintro rfl; have := hST _ hi.2; rw [hbe.2] at this; cases this
        rw [swp_bit, hi.1]
        simp [hie]
      · have e3 : dif (swp b e f) c = dif (dif b c) (2 ^ e) := by
          apply Nat.eq_of_testBit_eq
          intro i
          rw [dif_bit, swp_bit, del_bit, dif_bit]
          by_cases hi : f = i
          · subst hi; rw [h1, h2]; simp
          · simp [hi]
            cases b.testBit i <;> cases c.testBit i <;> simp
        rw [e3]
        have := pc_del (a := dif b c) he (by rw [dif_bit, hbe.1, hce']; rfl)
        omega
theorem Mat.both {m : Nat} {L : List Nat} (h : Mat m L) {S T : Nat} (hST : ∀ i, S.testBit i = true → T.testBit i = true) : ∃ b ∈ L, pc (b &&& S) = rkN L S ∧ pc (b &&& T) = rkN L T := by
  obtain ⟨c, hc, hcT⟩ := rk_attain h.some T
  obtain ⟨b, hb, hbS⟩ := rk_attain h.some S
  exact Mat.both_step h hST hc hcT _ b hb hbS rfl
end Go.Proofs.Ytinoamehdhgpgaa.Q

namespace Go.Proofs.Ytinoamehdhgpgaa.Q
open Go Go.RowKit Go.Proofs.Ytinoamehdhgpgaa.A Go.Proofs.YtinoamehdhgpgaaW.PrintWords Go.Proofs.YtinoamehdhgpgaaW.PrintLast Go.Proofs.YtinoamehdhgpgaaW.PrintMore Go.Proofs.Ytinoamehdhgpgaa.Z
set_option linter.unusedVariables false
set_option linter.unusedSimpArgs false

theorem sortC_sortO (X : List Int) : sortC X = sortO [] X :=
  pair_unique (sortC_spec X).1 (sortO_pair X [] List.Pairwise.nil) (fun a => by rw [(sortC_spec X).2 a, sortO_mem]; simp)

end Go.Proofs.Ytinoamehdhgpgaa.Q

namespace Go.Proofs.Ytinoamehdhgpgaa.Q
open Go Go.RowKit Go.Proofs.Ytinoamehdhgpgaa.A Go.Proofs.YtinoamehdhgpgaaW.PrintWords Go.Proofs.YtinoamehdhgpgaaW.PrintLast Go.Proofs.YtinoamehdhgpgaaW.PrintMore Go.Proofs.Ytinoamehdhgpgaa.Z
set_option linter.unusedVariables false
set_option linter.unusedSimpArgs false

theorem sortO_len (X : List Int) : ∀ acc : List Int, (sortO acc X).length ≤ acc.length + X.length := by
  induction X with
  | nil => intro acc; exact Nat.le_refl _
  | cons x X ih =>
    intro acc
    have h1 := ih (insO x acc)
    have h2 := insO_len x acc
    rw [List.length_cons]
    show (sortO (insO x acc) X).length ≤ _
    omega
theorem isRenB_len {n : Int} {w : List Int} (h : isRenB n w = true) : (w.length : Int) = n := by
  simp only [isRenB, Bool.and_eq_true, decide_eq_true_eq] at h
  exact h.1.1
def renMatB (n : Int) (l w : List Int) : Int × List Int × Bool := if (matB n l && isRenB n w) = true then (n, sortO [] (ints ((l.map Int.toNat).map (renSetN w))), true) else (0, [], false)
theorem renMatB_len (n : Int) (l w : List Int) : (renMatB n l w).2.1.length ≤ l.length := by
  unfold renMatB
  by_cases h : (matB n l && isRenB n w) = true
  · rw [if_pos h]
    have := sortO_len (ints ((l.map Int.toNat).map (renSetN w))) []
    rw [ints_len, List.length_map, List.length_map, List.length_nil, Nat.zero_add] at this
    exact this
  · rw [if_neg h]; exact Nat.zero_le _
theorem specRenSets_ev (w : List Int) (L : List Nat) (hw : w.length ≤ 17592186044416) (hl : L.length ≤ 8796093022208) (hm : ∀ x ∈ w, 0 ≤ x ∧ x < 8) (hL : ∀ b ∈ L, b < 256) : Ev (fun k => spec_l18Sets.f k w (ints L)) (sortO [] (ints (L.map (renSetN w)))) := by
  have hd := down (P := fun i => Ev (fun k => spec_l18Sets.l0 k w (ints L) (ints ((L.take i).map (renSetN w))) (i : Int)) (sortO [] (ints (L.map (renSetN w))))) L.length
    (by
      apply Ev.step
      · intro k
        rw [spec_l18Sets.l0, if_neg (by rw [ints_len]; omega)]
      · rw [List.take_length]
        exact Ev.bind (specSort_ev _ (by rw [ints_len, List.length_map]; exact hl)) (Ev.now _))
    (by
      intro i hi ih
      have hb := hL _ (List.getElem_mem hi)
      apply Ev.step
      · intro k
        rw [spec_l18Sets.l0, if_pos (by rw [ints_len]; omega), if_pos (by omega), ints_rd L i hi, w_succ hi (by omega)]
      · refine Ev.bind (spec18Set_ev w _ hw hm hb) (Ev.ifp ?_ ?_)
        · rw [ints_len, List.length_map, List.length_take]; omega
        · rw [take_snoc L i hi, List.map_append] at ih
          rw [show ints ((L.take i).map (renSetN w)) ++ [((renSetN w L[i] : Nat) : Int)] = ints ((L.take i).map (renSetN w) ++ [L[i]].map (renSetN w)) from by simp [ints]]
          exact ih)
  exact hd
theorem implRenSets_ev (n : Int) (w : List Int) (L : List Nat) (hl : L.length ≤ 8796093022208) (h8 : w.length ≤ 8) (hm : ∀ x ∈ w, 0 ≤ x ∧ x < 8) (hL : ∀ b ∈ L, b < 2 ^ w.length) : Ev (fun k => impl_renamed.f k n (ints L) w) (n, sortO [] (ints (L.map (renSetN w)))) := by
  have hd := down (P := fun i => Ev (fun k => impl_renamed.l0 k w (ints L) ((ints L).length : Int) (i : Int) n (ints ((L.take i).map (renSetN w)))) (n, sortO [] (ints (L.map (renSetN w))))) L.length
    (by
      apply Ev.step
      · intro k
        rw [impl_renamed.l0, if_neg (by rw [ints_len]; omega)]
      · rw [List.take_length]
        refine Ev.cbind (a := sortO [] (ints (L.map (renSetN w)))) ?_ (Ev.now _)
        unfold impl_SortSets.f
        rw [if_pos (by rw [ints_len, List.length_map]; omega), sortC_sortO])
    (by
      intro i hi ih
      have hb := hL _ (List.getElem_mem hi)
      apply Ev.step
      · intro k
        rw [impl_renamed.l0, if_pos (by rw [ints_len]; omega), if_pos (by omega), if_pos (by rw [ints_len]; omega), ints_rd L i hi, w_succ hi (by omega)]
      · refine Ev.bind (implRenSet_ev w _ h8 hm hb) (Ev.ifp ?_ ?_)
        · rw [ints_len, List.length_map, List.length_take]; omega
        · rw [take_snoc L i hi, List.map_append] at ih
          rw [show ints ((L.take i).map (renSetN w)) ++ [((renSetN w L[i] : Nat) : Int)] = ints ((L.take i).map (renSetN w) ++ [L[i]].map (renSetN w)) from by simp [ints]]
          exact ih)
  exact hd
theorem specRenMat_ev (n : Int) (l w : List Int) (hl : l.length ≤ 8796093022208) (hw : w.length ≤ 17592186044416) : Ev (fun k => spec_RenameMatroid.f k n l w) (renMatB n l w) := by
  unfold spec_RenameMatroid.f renMatB
  refine Ev.bind (specMat_ev n l (by omega)) ?_
  by_cases h : matB n l = true
  · rw [h, Bool.true_and]
    refine Ev.ifp rfl (Ev.bind (specRen_ev n w hw) ?_)
    by_cases h2 : isRenB n w = true
    · rw [if_pos h2]
      obtain ⟨m, L, rfl, hm, rfl, _, h256, _⟩ := matB_nat h
      rw [ints_len] at hl
      have hwm : (w.length : Int) = (m : Int) := isRenB_len h2
      rw [← hwm] at h2
      obtain ⟨h8, hmem⟩ := isRenB_facts h2
      rw [show (ints L).map Int.toNat = L from toNat_map L]
      rw [← hwm]
      exact Ev.ifp h2 (Ev.bind (specRenSets_ev w L hw hl hmem h256) (Ev.now _))
    · rw [if_neg h2]; exact Ev.ifn h2 (Ev.now _)
  · rw [Bool.eq_false_iff.2 h, Bool.false_and]
    exact Ev.ifn (by decide) (Ev.now _)
theorem implRenMat_ev (n : Int) (l w : List Int) (hl : l.length ≤ 8796093022208) (hw : w.length ≤ 17592186044416) : Ev (fun k => impl_RenameMatroid.f k n l w) (renMatB n l w) := by
  unfold impl_RenameMatroid.f renMatB
  refine Ev.bind (implMat_ev n l (by omega)) ?_
  by_cases h : matB n l = true
  · rw [h, Bool.true_and]
    refine Ev.ifp rfl (Ev.bind (implRen_ev n w hw) ?_)
    by_cases h2 : isRenB n w = true
    · rw [if_pos h2]
      obtain ⟨m, L, rfl, hm, rfl, hlt, h256, _⟩ := matB_nat h
      rw [ints_len] at hl
      have hwm : (w.length : Int) = (m : Int) := isRenB_len h2
      rw [← hwm] at h2
      obtain ⟨h8, hmem⟩ := isRenB_facts h2
      have e : w.length = m := by omega
      rw [show (ints L).map Int.toNat = L from toNat_map L]
      rw [← hwm]
      exact Ev.ifp h2 (Ev.bind (implRenSets_ev _ w L hl h8 hmem (by rw [e]; exact hlt)) (Ev.now _))
    · rw [if_neg h2]; exact Ev.ifn h2 (Ev.now _)
  · rw [Bool.eq_false_iff.2 h, Bool.false_and]
    exact Ev.ifn (by decide) (Ev.now _)

end Go.Proofs.Ytinoamehdhgpgaa.Q

namespace Go.Proofs.Ytinoamehdhgpgaa.Pure
open Go Go.RowKit Go.Proofs.Ytinoamehdhgpgaa.A Go.Proofs.YtinoamehdhgpgaaW.PrintWords Go.Proofs.YtinoamehdhgpgaaW.PrintLast Go.Proofs.YtinoamehdhgpgaaW.PrintMore Go.Proofs.Ytinoamehdhgpgaa.Z Go.Proofs.Ytinoamehdhgpgaa.Q
set_option linter.unusedVariables false
set_option linter.unusedSimpArgs false

theorem FnExactRenameMatroid : laws_FnExactRenameMatroid.Pure := by
  intro n l w hn hm hw hm1 hw1
  unfold laws_FnExactRenameMatroid.f
  refine Ev.rounds ?_
  by_cases h0 : (w.length : Int) > 1048576
  · exact Ev.ifp h0 (Ev.now _)
  refine Ev.ifn h0 ?_
  have hl' : w.length ≤ 17592186044416 := by omega
  refine Ev.cbind (szMat_eq n l 1048576 (by omega) (by omega) hm) ?_
  by_cases h1 : (l.length : Int) > 1048576
  · rw [if_pos h1]
    exact Ev.ifp (by decide) (Ev.now _)
  rw [if_neg h1]
  refine Ev.ifn (by omega) ?_
  have hl : l.length ≤ 17592186044416 := by omega
  have hg : (renMatB n l w).2.1.length ≤ 17592186044416 := Nat.le_trans (renMatB_len n l w) (by omega)
  refine Ev.bind (toMat_ev n l hl) (Ev.bind (toInt_ev w hl') (Ev.bind (specRenMat_ev n l w (by omega) hl') (Ev.bind (toMat_ev n l hl) (Ev.bind (toInt_ev w hl') (Ev.bind (implRenMat_ev n l w (by omega) hl') (Ev.bind (eqMat_ev _ _ hg) (Ev.ifp rfl ?_)))))))
  apply Ev.step
  · intro k
    rw [laws_FnExactRenameMatroid.j0]
  refine Ev.ifn (by simp) (Ev.bind (toMat_ev n l hl) (Ev.bind (eqMat_ev n l hl) (Ev.ifp rfl (Ev.bind (toInt_ev w hl') (Ev.bind (eqInt_self w hl') (Ev.ifp rfl (Ev.bind (markMat_ev n l hl) (Ev.bind (mark_ev w _ (by omega) (by omega) hl') (Ev.ifn (by simp only []; omega) (Ev.bind (eqMat_ev _ _ hg) (Ev.ifp rfl ?_)))))))))))
  apply Ev.step
  · intro k
    rw [laws_FnExactRenameMatroid.j1]
  refine Ev.ifn (by simp) ?_
  refine Ev.bind (markMat_ev _ _ hg) (Ev.bind (heldMat_ev _ _ hg) ?_)
  refine Ev.ifn (by omega) (Ev.ifp rfl ?_)
  refine Ev.bind (toMat_ev n l hl) (Ev.bind (toInt_ev w hl') (Ev.bind (implRenMat_ev n l w (by omega) hl') (Ev.bind (eqMat_ev _ _ hg) (Ev.ifp rfl ?_))))
  apply Ev.step
  · intro k
    rw [laws_FnExactRenameMatroid.j2]
  refine Ev.ifn (by simp) (Ev.bind (heldMat_ev _ _ hg) ?_)
  exact Ev.ifn (by omega) (Ev.ifp rfl (Ev.now _))

end Go.Proofs.Ytinoamehdhgpgaa.Pure
