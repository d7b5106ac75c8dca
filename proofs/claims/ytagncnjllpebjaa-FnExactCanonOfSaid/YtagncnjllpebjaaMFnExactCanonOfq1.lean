/- The pure side of the law FnExactCanonOf: what the Lean functions of the print compute, and that the law holds of them. Conditions: those in each lemma. -/
import Derived.Test.YtagncnjllpebjaaMFnExactCanonOf1
import Derived.Test.YtagncnjllpebjaaMFnExactCanonOf2
import Derived.Test.YtagncnjllpebjaaMFnExactCanonOf3
import Derived.Test.YtagncnjllpebjaaMFnExactCanonOf4
import Derived.Test.YtagncnjllpebjaaMFnExactCanonOf5
import Derived.Test.YtagncnjllpebjaaMFnExactCanonOf6
import Derived.Test.YtagncnjllpebjaaMFnExactCanonOf7
import Derived.Test.YtagncnjllpebjaaMFnExactCanonOfq0
namespace Go.Proofs.Ytagncnjllpebjaa.A
open Go.RowKit
def laws_FnExactCanonOf.Pure : Prop := ∀ (a0_0 : Int) (l0_1 : List Int), (Lit.int .i64 a0_0).wf = true → l0_1.length ≤ maxLen → (∀ x ∈ l0_1, (Lit.int .i64 x).wf = true) → ∃ k, laws_FnExactCanonOf.f k a0_0 l0_1 = some true
end Go.Proofs.Ytagncnjllpebjaa.A
namespace Go.Proofs.Ytagncnjllpebjaa.Q
open Go Go.RowKit Go.Proofs.Ytagncnjllpebjaa.A Go.Proofs.YtagncnjllpebjaaW.PrintWords Go.Proofs.YtagncnjllpebjaaW.PrintLast Go.Proofs.YtagncnjllpebjaaW.PrintMore Go.Proofs.Ytagncnjllpebjaa.Z
set_option linter.unusedVariables false
set_option linter.unusedSimpArgs false
theorem toInt_l0 (l : List Int) (hl : l.length ≤ 17592186044416) : ∀ (rest pre : List Int), l = pre ++ rest → Ev (fun k => laws_toIntS.l0 k l (pre ++ List.replicate rest.length 0) (pre.length : Int)) l := by
  intro rest
  induction rest with
  | nil =>
    intro pre h
    apply Ev.step
    · intro k
      simp only [laws_toIntS.l0]
      rw [if_neg (by rw [h]; simp)]
    · subst h; simpa using Ev.now _
  | cons x rest ih =>
    intro pre h
    have hlen : (pre.length : Int) < (l.length : Int) := by rw [h]; simp; omega
    apply Ev.step
    · intro k
      simp only [laws_toIntS.l0]
      rw [if_pos hlen, if_pos (by omega), if_pos (by simp; omega)]
    · have := ih (pre ++ [x]) (by rw [h]; simp)
      have e : wrap64 ((pre.length : Int) + 1) = ((pre ++ [x]).length : Int) := by
        rw [wrap64_of (by omega) (by omega)]; simp
      rw [e]
      have e2 : (pre ++ List.replicate (x :: rest).length 0).set (pre.length : Int).toNat (rd l (pre.length : Int)) = (pre ++ [x]) ++ List.replicate rest.length 0 := by
        have : rd l (pre.length : Int) = x := by rw [h]; exact rd_mid _ _ _
        rw [this]
        simp [List.replicate_succ]
      rw [e2]
      exact this
theorem toInt_ev (l : List Int) (hl : l.length ≤ 17592186044416) : Ev (fun k => laws_toIntS.f k l) l := by
  unfold laws_toIntS.f
  refine Ev.ifp (by omega) (Ev.ifp (by simp; omega) ?_)
  simpa using toInt_l0 l hl l [] rfl
theorem eqInt_l0 (l : List Int) (hl : l.length ≤ 17592186044416) (l' : List Int) (hll : l'.length = l.length) : ∀ (rest rest' pre : List Int), l = pre ++ rest → l' = pre ++ rest' → Ev (fun k => laws_eqIntS.l0 k l l' (pre.length : Int)) (decide (l = l')) := by
  intro rest
  induction rest with
  | nil =>
    intro rest' pre h h'
    have : rest' = [] := by
      apply List.eq_nil_of_length_eq_zero
      have h1 := congrArg List.length h
      have h2 := congrArg List.length h'
      rw [List.length_append] at h1 h2
      simp only [List.length_nil] at h1
      omega
    subst this
    apply Ev.step
    · intro k
      simp only [laws_eqIntS.l0]
      rw [if_neg (by rw [h]; simp)]
    · have : l = l' := by rw [h, h']
      simpa [this] using Ev.now _
  | cons x rest ih =>
    intro rest' pre h h'
    have hlen : (pre.length : Int) < (l.length : Int) := by rw [h]; simp; omega
    cases rest' with
    | nil => exact absurd hll (by rw [h, h']; simp)
    | cons y rest' =>
    have e1 : rd l (pre.length : Int) = x := by rw [h]; exact rd_mid _ _ _
    have e2 : rd l' (pre.length : Int) = y := by rw [h']; exact rd_mid _ _ _
    by_cases hxy : x = y
    · subst hxy
      apply Ev.step
      · intro k
        simp only [laws_eqIntS.l0]
        rw [if_pos hlen, if_pos (by omega), if_pos (by omega), if_pos (by rw [e1, e2])]
      · have := ih rest' (pre ++ [x]) (by rw [h]; simp) (by rw [h']; simp)
        have e : wrap64 ((pre.length : Int) + 1) = ((pre ++ [x]).length : Int) := by
          rw [wrap64_of (by omega) (by omega)]; simp
        rw [e]
        exact this
    · apply Ev.step
      · intro k
        simp only [laws_eqIntS.l0]
        rw [if_pos hlen, if_pos (by omega), if_pos (by omega), if_neg (by rw [e1, e2]; exact hxy)]
      · have : l ≠ l' := by rw [h, h']; simp [hxy]
        simpa [this] using Ev.now _
theorem eqInt_ev (l l' : List Int) (hl : l.length ≤ 17592186044416) : Ev (fun k => laws_eqIntS.f k l l') (decide (l = l')) := by
  unfold laws_eqIntS.f
  by_cases h : (l.length : Int) = (l'.length : Int)
  · refine Ev.ifp h ?_
    exact eqInt_l0 l hl l' (by omega) l l' [] rfl rfl
  · refine Ev.ifn h ?_
    have : l ≠ l' := by rintro rfl; exact h rfl
    simpa [this] using Ev.now _
theorem eqInt_self (l : List Int) (hl : l.length ≤ 17592186044416) : Ev (fun k => laws_eqIntS.f k l l) true := by simpa using eqInt_ev l l hl
end Go.Proofs.Ytagncnjllpebjaa.Q
namespace Go.Proofs.Ytagncnjllpebjaa.Q
open Go Go.RowKit Go.Proofs.Ytagncnjllpebjaa.A Go.Proofs.YtagncnjllpebjaaW.PrintWords Go.Proofs.YtagncnjllpebjaaW.PrintLast Go.Proofs.YtagncnjllpebjaaW.PrintMore Go.Proofs.Ytagncnjllpebjaa.Z
set_option linter.unusedVariables false
set_option linter.unusedSimpArgs false
theorem szMat_eq (n : Int) (l : List Int) (left : Int) (h0 : 0 ≤ left) (h1 : left ≤ 1048576) (hl : l.length ≤ maxLen) : laws_szMatroid.f n l left = some (if (l.length : Int) > left then -1 else left - (l.length : Int)) := by
  unfold maxLen at hl
  unfold laws_szMatroid.f laws_szIntS.f
  rw [wrap64_of (by omega) (by omega)]
  by_cases h : (l.length : Int) > left
  · rw [if_pos h, if_pos (by omega), Option.bind_some, if_pos (by decide)]
  · rw [if_neg h, if_neg (by omega), Option.bind_some, if_neg (by omega)]
theorem toMat_ev (n : Int) (l : List Int) (hl : l.length ≤ 17592186044416) : Ev (fun k => laws_toMatroid.f k n l) (n, l) := by
  unfold laws_toMatroid.f
  exact Ev.bind (toInt_ev l hl) (Ev.now _)
theorem eqMat_ev (n : Int) (l : List Int) (hl : l.length ≤ 17592186044416) : Ev (fun k => laws_eqMatroid.f k n l n l) true := by
  unfold laws_eqMatroid.f
  refine Ev.ifp rfl (Ev.bind (eqInt_self l hl) (Ev.ifp rfl (Ev.now _)))
end Go.Proofs.Ytagncnjllpebjaa.Q
namespace Go.Proofs.Ytagncnjllpebjaa.Q
open Go Go.RowKit Go.Proofs.Ytagncnjllpebjaa.A Go.Proofs.YtagncnjllpebjaaW.PrintWords Go.Proofs.YtagncnjllpebjaaW.PrintLast Go.Proofs.YtagncnjllpebjaaW.PrintMore Go.Proofs.Ytagncnjllpebjaa.Z
set_option linter.unusedVariables false
set_option linter.unusedSimpArgs false
/-- n numbers that go up by one from a. -/
def marks (a : Int) (n : Nat) : List Int := (List.range n).map (fun i : Nat => a + (i : Int))
theorem marks_len (a : Int) (n : Nat) : (marks a n).length = n := by simp [marks]
theorem marks_succ (a : Int) (n : Nat) : marks a (n + 1) = marks a n ++ [a + (n : Int)] := by simp [marks, List.range_succ]
theorem marks_get (a : Int) (n i : Nat) (h : i < n) : rd (marks a n) (i : Int) = a + (i : Int) := by
  rw [rd_getElem _ i (by rw [marks_len]; exact h)]
  simp [marks]
theorem mark_ev (l : List Int) (a : Int) (h0 : 0 ≤ a) (h1 : a ≤ 1000000000000000) (hl : l.length ≤ 17592186044416) : Ev (fun k => laws_markIntS.f k l a) (a + (l.length : Int), marks a l.length) := by
  have h := down (P := fun i => Ev (fun k => laws_markIntS.l0 k (marks a i ++ l.drop i) (a + (i : Int)) (i : Int)) (a + (l.length : Int), marks a l.length)) l.length
    (by
      apply Ev.step
      · intro k
        simp only [laws_markIntS.l0]
        rw [if_neg (by rw [List.length_append, marks_len, List.length_drop]; omega)]
      · rw [drop_end, List.append_nil]
        exact Ev.now _)
    (by
      intro i hi ih
      apply Ev.step
      · intro k
        simp only [laws_markIntS.l0]
        rw [if_pos (by rw [List.length_append, marks_len, List.length_drop]; omega), if_pos (by omega), w_succ hi hl, wrap64_of (by omega) (by omega)]
      · have e : (marks a i ++ l.drop i).set (i : Int).toNat (a + (i : Int)) = marks a (i + 1) ++ l.drop (i + 1) := by
          rw [drop_cons l i hi, marks_succ, Int.toNat_natCast, List.set_append_right _ _ (by rw [marks_len]; omega), marks_len, Nat.sub_self, List.set_cons_zero, List.append_assoc]
          rfl
        rw [e, show a + (i : Int) + 1 = a + ((i + 1 : Nat) : Int) from by omega]
        exact ih)
  have e : marks a 0 ++ l.drop 0 = l := by simp [marks]
  rw [e, show a + ((0 : Nat) : Int) = a from by omega] at h
  exact h
theorem held_ev (n : Nat) (a : Int) (h0 : 0 ≤ a) (h1 : a ≤ 1000000000000000) (hl : n ≤ 17592186044416) : Ev (fun k => laws_heldIntS.f k (marks a n) a) (a + (n : Int)) := by
  have h := down (P := fun i => Ev (fun k => laws_heldIntS.l0 k (marks a n) (a + (i : Int)) (i : Int)) (a + (n : Int))) n
    (by
      apply Ev.step
      · intro k
        simp only [laws_heldIntS.l0]
        rw [if_neg (by rw [marks_len]; omega)]
      · exact Ev.now _)
    (by
      intro i hi ih
      apply Ev.step
      · intro k
        simp only [laws_heldIntS.l0]
        rw [if_pos (by rw [marks_len]; omega), if_pos (by omega), if_pos (marks_get a n i hi), w_succ hi hl, wrap64_of (by omega) (by omega)]
      · rw [show a + (i : Int) + 1 = a + ((i + 1 : Nat) : Int) from by omega]
        exact ih)
  rw [show a + ((0 : Nat) : Int) = a from by omega] at h
  exact h
end Go.Proofs.Ytagncnjllpebjaa.Q
namespace Go.Proofs.Ytagncnjllpebjaa.Q
open Go Go.RowKit Go.Proofs.Ytagncnjllpebjaa.A Go.Proofs.YtagncnjllpebjaaW.PrintWords Go.Proofs.YtagncnjllpebjaaW.PrintLast Go.Proofs.YtagncnjllpebjaaW.PrintMore Go.Proofs.Ytagncnjllpebjaa.Z
set_option linter.unusedVariables false
set_option linter.unusedSimpArgs false
theorem markMat_ev (n : Int) (l : List Int) (hl : l.length ≤ 17592186044416) : Ev (fun k => laws_markMatroid.f k n l 1) (1 + (l.length : Int), marks 1 l.length) := by
  unfold laws_markMatroid.f
  exact Ev.bind (mark_ev l 1 (by omega) (by omega) hl) (Ev.now _)
theorem heldMat_ev (n : Int) (c : Nat) (hl : c ≤ 17592186044416) : Ev (fun k => laws_heldMatroid.f k n (marks 1 c) 1) (1 + (c : Int)) := by
  unfold laws_heldMatroid.f
  exact Ev.bind (held_ev c 1 (by omega) (by omega) hl) (Ev.ifn (by omega) (Ev.now _))
end Go.Proofs.Ytagncnjllpebjaa.Q
namespace Go.Proofs.Ytagncnjllpebjaa.Q
open Go Go.RowKit Go.Proofs.Ytagncnjllpebjaa.A Go.Proofs.YtagncnjllpebjaaW.PrintWords Go.Proofs.YtagncnjllpebjaaW.PrintLast Go.Proofs.YtagncnjllpebjaaW.PrintMore Go.Proofs.Ytagncnjllpebjaa.Z
set_option linter.unusedVariables false
set_option linter.unusedSimpArgs false
theorem l1In_eq (a b c : Int) : spec_l1In.f a b c = some (decide (b ≤ a) && decide (a ≤ c)) := by
  unfold spec_l1In.f
  by_cases h : a ≥ b
  · rw [if_pos h]; simp [h]
  · rw [if_neg h]; simp only [ge_iff_le] at h; simp [h]
theorem isSize_eq (a : Int) : impl_isSize.f a = some (decide (0 ≤ a) && decide (a ≤ 8)) := by
  unfold impl_isSize.f
  by_cases h : a ≥ 0
  · rw [if_pos h]; simp [h]
  · rw [if_neg h]; simp only [ge_iff_le] at h; simp [h]
theorem specIsSet_eq (n s : Int) : spec_IsSet.f n s = some (isSetB n s) := by
  unfold spec_IsSet.f
  rw [l1In_eq, Option.bind_some]
  unfold isSetB
  by_cases h : (decide (0 ≤ n) && decide (n ≤ 8)) = true
  · rw [if_pos h, if_pos (u64_nonneg _), l1In_eq, Option.bind_some, h, Bool.true_and]
    simp only [Bool.and_eq_true, decide_eq_true_eq] at h
    obtain ⟨m, rfl⟩ := Int.eq_ofNat_of_zero_le h.1
    have h8 : m ≤ 8 := by omega
    rw [u64_of (by omega) (by omega), shl_one (by omega)]
    have hp := pow_le_256 h8
    rw [Int.toNat_natCast]
    have e : (2 : Int) ^ m = ((2 ^ m : Nat) : Int) := by simp
    rw [e]
    generalize 2 ^ m = q at hp
    rw [wrap64_of (by omega) (by omega)]
    congr 2
    rw [Bool.eq_iff_iff]
    simp only [decide_eq_true_eq]
    omega
  · rw [if_neg h, Bool.eq_false_iff.2 h, Bool.false_and]
theorem implIsSet_eq (n s : Int) : impl_IsSet.f n s = some (isSetB n s) := by
  unfold impl_IsSet.f
  rw [isSize_eq, Option.bind_some]
  unfold isSetB
  by_cases h : (decide (0 ≤ n) && decide (n ≤ 8)) = true
  · rw [if_pos h, h, Bool.true_and]
    simp only [Bool.and_eq_true, decide_eq_true_eq] at h
    by_cases hs : s ≥ 0
    · rw [if_pos hs, if_pos h.1]
      obtain ⟨m, rfl⟩ := Int.eq_ofNat_of_zero_le h.1
      rw [shl_one (by omega), Int.toNat_natCast]
      have e : ((2 ^ m : Nat) : Int) = 2 ^ m := by simp
      rw [e]
      have : decide (0 ≤ s) = true := by simpa using hs
      rw [this, Bool.true_and]
    · rw [if_neg hs]
      have : decide (0 ≤ s) = false := by simpa using hs
      rw [this, Bool.false_and]
  · rw [if_neg h, Bool.eq_false_iff.2 h, Bool.false_and]
theorem isAny_eq (s : Int) : impl_isAny.f s = some (isAnyB s) := by
  unfold impl_isAny.f isAnyB
  by_cases h : s ≥ 0
  · rw [if_pos h]; simp [h]
  · rw [if_neg h]; simp only [ge_iff_le] at h; simp [h]
theorem isAnyB_lt {s : Int} (h : isAnyB s = true) : ∃ t : Nat, s = t ∧ t < 256 := by
  simp only [isAnyB, Bool.and_eq_true, decide_eq_true_eq] at h
  obtain ⟨t, rfl⟩ := Int.eq_ofNat_of_zero_le h.1
  exact ⟨t, rfl, by omega⟩
theorem implHas_eq (s e : Int) : impl_HasElement.f s e = some (hasB s e) := by
  unfold impl_HasElement.f hasB
  rw [isAny_eq, Option.bind_some]
  by_cases h : isAnyB s = true
  · rw [if_pos h, h, Bool.true_and]
    obtain ⟨t, rfl, ht⟩ := isAnyB_lt h
    by_cases h0 : e ≥ 0
    · rw [if_pos h0]
      obtain ⟨m, rfl⟩ := Int.eq_ofNat_of_zero_le h0
      by_cases h8 : (m : Int) < 8
      · rw [if_pos h8, if_pos h0, bit_nat (lt256_63 ht)]
        simp [h8]
      · rw [if_neg h8]; simp [h8]
    · rw [if_neg h0]; simp only [ge_iff_le] at h0; simp [h0]
  · rw [if_neg h, Bool.eq_false_iff.2 h]; simp
theorem l2Has_eq {s e : Nat} (hs : s < 2 ^ 63) (he : e < 2 ^ 63) : spec_l2Has.f (s : Int) (e : Int) = some (s.testBit e) := by
  unfold spec_l2Has.f
  rw [if_pos (u64_nonneg _), u64_of (by omega) (by omega), bit_nat hs]
end Go.Proofs.Ytagncnjllpebjaa.Q
namespace Go.Proofs.Ytagncnjllpebjaa.Q
open Go Go.RowKit Go.Proofs.Ytagncnjllpebjaa.A Go.Proofs.YtagncnjllpebjaaW.PrintWords Go.Proofs.YtagncnjllpebjaaW.PrintLast Go.Proofs.YtagncnjllpebjaaW.PrintMore Go.Proofs.Ytagncnjllpebjaa.Z
set_option linter.unusedVariables false
set_option linter.unusedSimpArgs false
def famG (n : Int) : Option Int → List Int → Bool
  | _, [] => decide (0 ≤ n) && decide (n ≤ 8)
  | p, x :: xs => isSetB n x && ((match p with | none => true | some q => decide (q < x)) && famG n (some x) xs)
/-- A family: sets of n elements, strictly ascending. -/
def famB (n : Int) (l : List Int) : Bool := famG n none l
def prevO (l : List Int) (i : Nat) : Option Int := if i = 0 then none else some (rd l ((i - 1 : Nat) : Int))
theorem prevO_succ (l : List Int) (i : Nat) (hi : i < l.length) : prevO l (i + 1) = some l[i] := by
  unfold prevO
  rw [if_neg (by omega), Nat.add_sub_cancel, rd_getElem l i hi]
theorem specFam_ev (n : Int) (l : List Int) (hl : l.length ≤ 17592186044416) : Ev (fun k => spec_IsFamily.f k n l) (famB n l) := by
  have h := down (P := fun i => Ev (fun k => spec_IsFamily.l0 k n l (i : Int)) (famG n (prevO l i) (l.drop i))) l.length
    (by
      apply Ev.step
      · intro k
        simp only [spec_IsFamily.l0, l1In_eq, Option.bind_some]
        rw [if_neg (by omega)]
      · rw [drop_end]; exact Ev.now _)
    (by
      intro i hi ih
      apply Ev.step
      · intro k
        simp only [spec_IsFamily.l0, specIsSet_eq, Option.bind_some]
        rw [if_pos (by omega), if_pos (by omega), rd_getElem l i hi, w_succ hi hl]
      · rw [drop_cons l i hi]
        rw [prevO_succ l i hi] at ih
        simp only [famG]
        by_cases hx : isSetB n l[i] = true
        · refine Ev.ifp hx ?_
          rw [hx, Bool.true_and]
          by_cases h0 : (i : Int) > 0
          · refine Ev.ifp h0 ?_
            rw [wrap64_of (by omega) (by omega), show (i : Int) - 1 = ((i - 1 : Nat) : Int) from by omega]
            refine Ev.ifp (by omega) (Ev.ifp (by omega) ?_)
            unfold prevO
            rw [if_neg (by omega)]
            by_cases hq : rd l ((i - 1 : Nat) : Int) ≥ l[i]
            · refine Ev.ifp hq ?_
              simp only []
              rw [show decide (rd l ((i - 1 : Nat) : Int) < l[i]) = false from by simpa using hq, Bool.false_and]
              exact Ev.now _
            · refine Ev.ifn hq ?_
              simp only []
              rw [show decide (rd l ((i - 1 : Nat) : Int) < l[i]) = true from by simpa using hq, Bool.true_and]
              exact ih
          · refine Ev.ifn h0 ?_
            unfold prevO
            rw [if_pos (by omega)]
            simp only [Bool.true_and]
            exact ih
        · refine Ev.ifn hx ?_
          rw [Bool.eq_false_iff.2 hx, Bool.false_and]; exact Ev.now _)
  exact h
theorem implFam_ev (n : Int) (l : List Int) (hl : l.length ≤ 17592186044416) : Ev (fun k => impl_IsFamily.f k n l) (famB n l) := by
  have h := down (P := fun i => Ev (fun k => impl_IsFamily.l0 k n l l (l.length : Int) (i : Int)) (famG n (prevO l i) (l.drop i))) l.length
    (by
      apply Ev.step
      · intro k
        simp only [impl_IsFamily.l0, isSize_eq, Option.bind_some]
        rw [if_neg (by omega)]
      · rw [drop_end]; exact Ev.now _)
    (by
      intro i hi ih
      apply Ev.step
      · intro k
        simp only [impl_IsFamily.l0, implIsSet_eq, Option.bind_some]
        rw [if_pos (by omega), if_pos (by omega), if_pos (by omega), rd_getElem l i hi, w_succ hi hl]
      · rw [drop_cons l i hi]
        rw [prevO_succ l i hi] at ih
        simp only [famG]
        by_cases hx : isSetB n l[i] = true
        · refine Ev.ifp hx ?_
          rw [hx, Bool.true_and]
          by_cases h0 : (i : Int) > 0
          · refine Ev.ifp h0 ?_
            rw [wrap64_of (by omega) (by omega), show (i : Int) - 1 = ((i - 1 : Nat) : Int) from by omega]
            refine Ev.ifp (by omega) (Ev.ifp (by omega) ?_)
            unfold prevO
            rw [if_neg (by omega)]
            by_cases hq : l[i] ≤ rd l ((i - 1 : Nat) : Int)
            · refine Ev.ifp hq ?_
              simp only []
              rw [show decide (rd l ((i - 1 : Nat) : Int) < l[i]) = false from by simpa using hq, Bool.false_and]
              exact Ev.now _
            · refine Ev.ifn hq ?_
              simp only []
              rw [show decide (rd l ((i - 1 : Nat) : Int) < l[i]) = true from by simpa using hq, Bool.true_and]
              exact ih
          · refine Ev.ifn h0 ?_
            unfold prevO
            rw [if_pos (by omega)]
            simp only [Bool.true_and]
            exact ih
        · refine Ev.ifn hx ?_
          rw [Bool.eq_false_iff.2 hx, Bool.false_and]; exact Ev.now _)
  exact h
theorem famG_facts (n : Int) : ∀ (l : List Int) (p : Option Int), famG n p l = true → (0 ≤ n ∧ n ≤ 8) ∧ (∀ x ∈ l, isSetB n x = true) ∧ l.Pairwise (· < ·) ∧ (∀ q, p = some q → ∀ x ∈ l, q < x) := by
  intro l
  induction l with
  | nil =>
    intro p h
    simp only [famG, Bool.and_eq_true, decide_eq_true_eq] at h
    exact ⟨h, fun x hx => by simp at hx, List.Pairwise.nil, fun q _ x hx => by simp at hx⟩
  | cons y l ih =>
    intro p h
    simp only [famG, Bool.and_eq_true] at h
    obtain ⟨h1, h2, h3⟩ := h
    obtain ⟨i1, i2, i3, i4⟩ := ih _ h3
    refine ⟨i1, fun x hx => ?_, List.pairwise_cons.2 ⟨fun x hx => i4 y rfl x hx, i3⟩, fun q hq x hx => ?_⟩
    · rcases List.mem_cons.1 hx with rfl | hx
      · exact h1
      · exact i2 x hx
    · subst hq
      simp only [decide_eq_true_eq] at h2
      rcases List.mem_cons.1 hx with rfl | hx
      · exact h2
      · exact Int.lt_trans h2 (i4 y rfl x hx)
/-- A family as numbers: its size, its sets. -/
theorem famB_nat {n : Int} {l : List Int} (h : famB n l = true) : ∃ (m : Nat) (L : List Nat), n = m ∧ m ≤ 8 ∧ l = L.map (fun x : Nat => (x : Int)) ∧ (∀ x ∈ L, x < 2 ^ m) ∧ L.Pairwise (· < ·) := by
  obtain ⟨h1, h2, h3, _⟩ := famG_facts n l none h
  obtain ⟨m, rfl⟩ := Int.eq_ofNat_of_zero_le h1.1
  have hnn : ∀ x ∈ l, 0 ≤ x := fun x hx => by
    obtain ⟨_, t, _, rfl, _⟩ := isSetB_lt (h2 x hx)
    omega
  have hl : l = (l.map Int.toNat).map (fun x : Nat => (x : Int)) := by
    rw [List.map_map]
    conv => lhs; rw [← List.map_id l]
    apply List.map_congr_left
    intro x hx
    have := hnn x hx
    simp only [id, Function.comp]
    omega
  refine ⟨m, l.map Int.toNat, rfl, by omega, hl, fun x hx => ?_, ?_⟩
  · obtain ⟨y, hy, rfl⟩ := List.mem_map.1 hx
    obtain ⟨m', t, hm, rfl, _, ht, _⟩ := isSetB_lt (h2 y hy)
    have : m = m' := by omega
    subst this
    rw [Int.toNat_natCast]; exact ht
  · rw [List.pairwise_map]
    exact h3.imp_of_mem (fun {a b} ha hb hab => by
      have := hnn a ha
      have := hnn b hb
      omega)
end Go.Proofs.Ytagncnjllpebjaa.Q
namespace Go.Proofs.Ytagncnjllpebjaa.Q
open Go Go.RowKit Go.Proofs.Ytagncnjllpebjaa.A Go.Proofs.YtagncnjllpebjaaW.PrintWords Go.Proofs.YtagncnjllpebjaaW.PrintLast Go.Proofs.YtagncnjllpebjaaW.PrintMore Go.Proofs.Ytagncnjllpebjaa.Z
set_option linter.unusedVariables false
set_option linter.unusedSimpArgs false
/-- The elements of a set, as whole numbers; none where it is no set. -/
def elsB (s : Int) : List Int := ((List.range 8).filter (fun e : Nat => hasB s (e : Int))).map (fun e : Nat => (e : Int))
theorem range'_cons {i n : Nat} (h : i < n) : List.range' i (n - i) = i :: List.range' (i + 1) (n - (i + 1)) := by
  rw [show n - i = (n - (i + 1)) + 1 from by omega, List.range'_succ]
theorem filter_cons_map {s : Int} {i : Nat} (l : List Nat) : ((i :: l).filter (fun e : Nat => hasB s (e : Int))).map (fun e : Nat => (e : Int)) = (if hasB s (i : Int) = true then [(i : Int)] else []) ++ (l.filter (fun e : Nat => hasB s (e : Int))).map (fun e : Nat => (e : Int)) := by
  rw [List.filter_cons]
  by_cases h : hasB s (i : Int) = true
  · rw [if_pos h, if_pos h]; rfl
  · rw [if_neg h, if_neg h]; rfl
theorem implElements_ev (s : Int) : Ev (fun k => impl_ElementsOf.f k s) (elsB s) := by
  have h := down (P := fun i => ∀ acc : List Int, acc.length ≤ i → Ev (fun k => impl_ElementsOf.l0 k s acc (i : Int)) (acc ++ ((List.range' i (8 - i)).filter (fun e : Nat => hasB s (e : Int))).map (fun e : Nat => (e : Int)))) 8
    (by
      intro acc ha
      apply Ev.step
      · intro k
        simp only [impl_ElementsOf.l0, implHas_eq, Option.bind_some]
        rw [if_neg (by omega)]
      · simpa using Ev.now _)
    (by
      intro i hi ih acc ha
      apply Ev.step
      · intro k
        simp only [impl_ElementsOf.l0, implHas_eq, Option.bind_some]
        rw [if_pos (by omega), w_succ hi (by omega)]
      · rw [range'_cons hi, filter_cons_map]
        by_cases hx : hasB s (i : Int) = true
        · refine Ev.ifp hx (Ev.ifp (by omega) ?_)
          rw [if_pos hx, ← List.append_assoc]
          exact ih (acc ++ [(i : Int)]) (by simp; omega)
        · refine Ev.ifn hx ?_
          rw [if_neg hx]
          exact ih acc (by omega))
  have h0 := h [] (Nat.le_refl 0)
  rw [show ((0 : Nat) : Int) = 0 from rfl] at h0
  have e : elsB s = [] ++ ((List.range' 0 (8 - 0)).filter (fun e : Nat => hasB s (e : Int))).map (fun e : Nat => (e : Int)) := by
    unfold elsB
    rw [List.nil_append, List.range_eq_range']
  rw [e]
  unfold impl_ElementsOf.f
  exact h0
theorem elsB_nat {s : Nat} (h : s < 256) : elsB (s : Int) = (els s).map (fun e : Nat => (e : Int)) := by
  have e : (List.range 8).filter (fun e : Nat => hasB (s : Int) (e : Int)) = (List.range 8).filter (fun e : Nat => s.testBit e) :=
    List.filter_congr (fun e he => by
      rw [List.mem_range] at he
      rw [hasB_nat]
      simp [h, he])
  unfold elsB els
  rw [e]
end Go.Proofs.Ytagncnjllpebjaa.Q
namespace Go.Proofs.Ytagncnjllpebjaa.Q
open Go Go.RowKit Go.Proofs.Ytagncnjllpebjaa.A Go.Proofs.YtagncnjllpebjaaW.PrintWords Go.Proofs.YtagncnjllpebjaaW.PrintLast Go.Proofs.YtagncnjllpebjaaW.PrintMore Go.Proofs.Ytagncnjllpebjaa.Z
set_option linter.unusedVariables false
set_option linter.unusedSimpArgs false
theorem contains_cons (x : Int) (l : List Int) (a : Int) : (x :: l).contains a = (decide (x = a) || l.contains a) := by
  rw [Bool.eq_iff_iff]
  simp only [List.contains_iff_mem, List.mem_cons, Bool.or_eq_true, decide_eq_true_eq]
  constructor
  · rintro (h | h)
    · exact .inl h.symm
    · exact .inr h
  · rintro (h | h)
    · exact .inl h.symm
    · exact .inr h
theorem specHasSet_ev (l : List Int) (a : Int) (hl : l.length ≤ 17592186044416) : Ev (fun k => spec_HasSet.f k l a) (l.contains a) := by
  have h := down (P := fun i => Ev (fun k => spec_HasSet.l0 k l a (i : Int)) ((l.drop i).contains a)) l.length
    (by
      apply Ev.step
      · intro k
        simp only [spec_HasSet.l0]
        rw [if_neg (by omega)]
      · rw [drop_end]; exact Ev.now _)
    (by
      intro i hi ih
      apply Ev.step
      · intro k
        simp only [spec_HasSet.l0]
        rw [if_pos (by omega), if_pos (by omega), rd_getElem l i hi, w_succ hi hl]
      · rw [drop_cons l i hi, contains_cons]
        by_cases hx : l[i] = a
        · refine Ev.ifp hx ?_
          rw [show decide (l[i] = a) = true from by simpa using hx, Bool.true_or]; exact Ev.now _
        · refine Ev.ifn hx ?_
          rw [show decide (l[i] = a) = false from by simpa using hx, Bool.false_or]; exact ih)
  exact h
end Go.Proofs.Ytagncnjllpebjaa.Q
namespace Go.Proofs.Ytagncnjllpebjaa.Q
open Go Go.RowKit Go.Proofs.Ytagncnjllpebjaa.A Go.Proofs.YtagncnjllpebjaaW.PrintWords Go.Proofs.YtagncnjllpebjaaW.PrintLast Go.Proofs.YtagncnjllpebjaaW.PrintMore Go.Proofs.Ytagncnjllpebjaa.Z
set_option linter.unusedVariables false
set_option linter.unusedSimpArgs false
theorem index_l0 (l : List Int) (a : Int) (hl : l.length ≤ 17592186044416) : ∃ r : Int, Ev (fun k => slices_Index_int_int.f k l a) r ∧ (decide (r ≥ 0) = l.contains a) := by
  have h := down (P := fun i => ∃ r : Int, Ev (fun k => slices_Index_int_int.l0 k l a (l.length : Int) (i : Int)) r ∧ (decide (r ≥ 0) = (l.drop i).contains a)) l.length
    (by
      refine ⟨-1, ?_, by rw [drop_end]; rfl⟩
      apply Ev.step
      · intro k
        simp only [slices_Index_int_int.l0]
        rw [if_neg (by omega)]
      · exact Ev.now _)
    (by
      intro i hi ih
      rw [drop_cons l i hi, contains_cons]
      by_cases hx : l[i] = a
      · refine ⟨(i : Int), ?_, ?_⟩
        · apply Ev.step
          · intro k
            simp only [slices_Index_int_int.l0]
            rw [if_pos (by omega), if_pos (by omega), if_pos (by omega), rd_getElem l i hi, if_pos hx.symm]
          · exact Ev.now _
        · rw [show decide (l[i] = a) = true from by simpa using hx, Bool.true_or]
          simp
      · obtain ⟨r, hr, hd⟩ := ih
        refine ⟨r, ?_, ?_⟩
        · apply Ev.step
          · intro k
            simp only [slices_Index_int_int.l0]
            rw [if_pos (by omega), if_pos (by omega), if_pos (by omega), rd_getElem l i hi, if_neg (fun hc => hx hc.symm), w_succ hi hl]
          · exact hr
        · rw [show decide (l[i] = a) = false from by simpa using hx, Bool.false_or]; exact hd)
  exact h
theorem contains_ev (l : List Int) (a : Int) (hl : l.length ≤ 17592186044416) : Ev (fun k => slices_Contains_int_int.f k l a) (l.contains a) := by
  obtain ⟨r, hr, hd⟩ := index_l0 l a hl
  unfold slices_Contains_int_int.f
  refine Ev.bind hr ?_
  rw [hd]; exact Ev.now _
end Go.Proofs.Ytagncnjllpebjaa.Q
namespace Go.Proofs.Ytagncnjllpebjaa.Q
open Go Go.RowKit Go.Proofs.YtagncnjllpebjaaW.PrintWords Go.Proofs.YtagncnjllpebjaaW.PrintLast Go.Proofs.YtagncnjllpebjaaW.PrintMore Go.Proofs.Ytagncnjllpebjaa.Z
set_option linter.unusedVariables false
set_option linter.unusedSimpArgs false
/-- Can e be exchanged for an element of b? -/
def hasEx (l : List Int) (a b e : Nat) : Bool := (els (dif b a)).any (fun f => l.contains ((dif a (2 ^ e) ||| 2 ^ f : Nat) : Int))
def failE (l : List Int) (a b : Nat) : List Nat → Option Nat
  | [] => none
  | e :: es => if hasEx l a b e = true then failE l a b es else some e
def failB (l : List Int) (a : Nat) : List Nat → Option (Nat × Nat)
  | [] => none
  | b :: bs => match failE l a b (els (dif a b)) with
    | none => failB l a bs
    | some e => some (b, e)
def failA (l : List Int) (L : List Nat) : List Nat → Option (Nat × Nat × Nat)
  | [] => none
  | a :: la => match failB l a L with
    | none => failA l L la
    | some (b, e) => some (a, b, e)
def told : Option (Nat × Nat × Nat) → Int × Int × Int × Bool
  | none => (0, 0, 0, false)
  | some (a, b, e) => ((a : Int), (b : Int), (e : Int), true)
/-- What FirstFailure hands back. -/
def failT (n : Int) (l : List Int) : Int × Int × Int × Bool := if famB n l = true then told (failA l (l.map Int.toNat) (l.map Int.toNat)) else (0, 0, 0, false)
theorem els_dif {a b n : Nat} (ha : a < 2 ^ n) (hn : n ≤ 8) : els (dif a b) = (List.range n).filter (fun e => a.testBit e && !b.testBit e) := by
  have h1 : (List.range 8).filter (fun e => (dif a b).testBit e) = (List.range 8).filter (fun e => decide (e < n) && (a.testBit e && !b.testBit e)) :=
    List.filter_congr (fun e _ => by
      rw [dif_bit]
      by_cases h : e < n
      · simp [h]
      · have : a.testBit e = false := Nat.testBit_lt_two_pow (Nat.lt_of_lt_of_le ha (Nat.pow_le_pow_right (by decide) (by omega)))
        simp [this])
  unfold els
  rw [h1]
  have h2 : ∀ (p : Nat → Bool) (a b : Nat), (List.range a).filter (fun e => decide (e < b) && p e) = (List.range (min a b)).filter p := by
    intro p a b
    induction a with
    | zero => simp
    | succ a ih =>
      rw [List.range_succ, List.filter_append, ih]
      by_cases h : a < b
      · rw [show min (a + 1) b = min a b + 1 from by omega, List.range_succ, List.filter_append]
        have e : min a b = a := by omega
        rw [e]
        congr 1
        simp [List.filter_cons, h]
      · rw [show min (a + 1) b = min a b from by omega]
        simp [List.filter_cons, h]
  rw [h2, Nat.min_eq_right hn]
end Go.Proofs.Ytagncnjllpebjaa.Q
namespace Go.Proofs.Ytagncnjllpebjaa.Q
open Go Go.RowKit Go.Proofs.Ytagncnjllpebjaa.A Go.Proofs.YtagncnjllpebjaaW.PrintWords Go.Proofs.YtagncnjllpebjaaW.PrintLast Go.Proofs.YtagncnjllpebjaaW.PrintMore Go.Proofs.Ytagncnjllpebjaa.Z
set_option linter.unusedVariables false
set_option linter.unusedSimpArgs false
theorem specEx_ev (n : Nat) (hn : n ≤ 8) (l : List Int) (hl : l.length ≤ 17592186044416) (a b e : Nat) (ha : a < 256) (hb : b < 2 ^ n) (he : e < 8) (hae : a.testBit e = true) :
    Ev (fun k => spec_l4Exchange.f k (n : Int) l (a : Int) (b : Int) (e : Int)) (hasEx l a b e) := by
  have hb256 : b < 256 := Nat.lt_of_lt_of_le hb (pow_le_256 hn)
  have h := down (P := fun f => Ev (fun k => spec_l4Exchange.l0 k (a : Int) (b : Int) (e : Int) (f : Int) (n : Int) l) (((List.range' f (n - f)).filter (fun f => b.testBit f && !a.testBit f)).any (fun f => l.contains ((dif a (2 ^ e) ||| 2 ^ f : Nat) : Int)))) n
    (by
      apply Ev.step
      · intro k
        simp only [spec_l4Exchange.l0]
        rw [if_neg (by omega)]
      · rw [Nat.sub_self]; exact Ev.now _)
    (by
      intro f hf ih
      have hih : Ev (fun k => spec_l4Exchange.l0 k (a : Int) (b : Int) (e : Int) (wrap64 ((f : Int) + 1)) (n : Int) l) (((List.range' (f + 1) (n - (f + 1))).filter (fun f => b.testBit f && !a.testBit f)).any (fun f => l.contains ((dif a (2 ^ e) ||| 2 ^ f : Nat) : Int))) := by
        rw [w_succ hf (by omega)]; exact ih
      apply Ev.step
      · intro k
        simp only [spec_l4Exchange.l0, l2Has_eq (lt256_63 hb256) (show f < 2 ^ 63 by omega), l2Has_eq (lt256_63 ha) (show f < 2 ^ 63 by omega), Option.bind_some]
        rw [if_pos (by omega)]
      · rw [range'_cons hf, List.filter_cons]
        by_cases hbf : b.testBit f = true
        · refine Ev.ifp hbf ?_
          by_cases haf : a.testBit f = true
          · refine Ev.ifp haf ?_
            rw [if_neg (by rw [haf]; simp)]
            exact hih
          · refine Ev.ifn haf (Ev.ifp (u64_nonneg _) (Ev.ifp (u64_nonneg _) ?_))
            have haf' := Bool.eq_false_iff.2 haf
            rw [if_pos (by rw [hbf, haf']; rfl), List.any_cons]
            obtain ⟨x1, x2, x3⟩ := exch_arith ha he (show f < 8 by omega) hae haf'
            have hp : 2 ^ f < 256 := Nat.pow_lt_pow_right (a := 2) (m := f) (n := 8) (by decide) (by omega)
            have ex : wrap64 (wrap64 ((a : Int) - shl .i64 1 (IntKind.u64.wrap (e : Int))) + shl .i64 1 (IntKind.u64.wrap (f : Int))) = ((dif a (2 ^ e) ||| 2 ^ f : Nat) : Int) := by
              rw [u64_of (by omega) (by omega), u64_of (by omega) (by omega), shl_one (by omega), shl_one (by omega), ← x1]
              generalize 2 ^ e = p at *
              generalize 2 ^ f = q at *
              rw [wrap64_of (n := (a : Int) - (p : Int)) (by omega) (by omega), wrap64_of (by omega) (by omega)]
              omega
            rw [ex]
            refine Ev.bind (specHasSet_ev l _ hl) ?_
            by_cases hc : l.contains ((dif a (2 ^ e) ||| 2 ^ f : Nat) : Int) = true
            · refine Ev.ifp hc ?_
              rw [hc, Bool.true_or]; exact Ev.now _
            · refine Ev.ifn hc ?_
              rw [Bool.eq_false_iff.2 hc, Bool.false_or]; exact hih
        · refine Ev.ifn hbf ?_
          rw [if_neg (by rw [Bool.eq_false_iff.2 hbf]; simp)]
          exact hih)
  rw [Nat.sub_zero, ← List.range_eq_range', ← els_dif hb hn] at h
  exact h
theorem specFail_l2 (n : Nat) (hn : n ≤ 8) (l : List Int) (hl : l.length ≤ 17592186044416) (i j : Nat) (hi : i < l.length) (hj : j < l.length) (a b : Nat) (hai : rd l (i : Int) = a) (hbj : rd l (j : Int) = b) (ha : a < 2 ^ n) (hb : b < 2 ^ n) (K : Int × Int × Int × Bool)
    (hK : Ev (fun k => spec_FirstFailure.l1 k (i : Int) (wrap64 ((j : Int) + 1)) (n : Int) l) K) :
    Ev (fun k => spec_FirstFailure.l2 k (i : Int) (j : Int) 0 (n : Int) l) (match failE l a b (els (dif a b)) with | none => K | some e => ((a : Int), (b : Int), (e : Int), true)) := by
  have ha256 : a < 256 := Nat.lt_of_lt_of_le ha (pow_le_256 hn)
  have hb256 : b < 256 := Nat.lt_of_lt_of_le hb (pow_le_256 hn)
  have h := down (P := fun e => Ev (fun k => spec_FirstFailure.l2 k (i : Int) (j : Int) (e : Int) (n : Int) l) (match failE l a b ((List.range' e (n - e)).filter (fun e => a.testBit e && !b.testBit e)) with | none => K | some e => ((a : Int), (b : Int), (e : Int), true))) n
    (by
      apply Ev.step
      · intro k
        simp only [spec_FirstFailure.l2]
        rw [if_neg (by omega)]
      · rw [Nat.sub_self]; exact hK)
    (by
      intro e he ih
      have hih : Ev (fun k => spec_FirstFailure.l2 k (i : Int) (j : Int) (wrap64 ((e : Int) + 1)) (n : Int) l) (match failE l a b ((List.range' (e + 1) (n - (e + 1))).filter (fun e => a.testBit e && !b.testBit e)) with | none => K | some e => ((a : Int), (b : Int), (e : Int), true)) := by
        rw [w_succ he (by omega)]; exact ih
      apply Ev.step
      · intro k
        simp only [spec_FirstFailure.l2]
        rw [if_pos (by omega), if_pos (by omega), if_pos (by omega), if_pos (by omega), if_pos (by omega), hai, hbj, l2Has_eq (lt256_63 ha256) (show e < 2 ^ 63 by omega), l2Has_eq (lt256_63 hb256) (show e < 2 ^ 63 by omega), Option.bind_some, Option.bind_some]
      · rw [range'_cons he, List.filter_cons]
        by_cases hae : a.testBit e = true
        · refine Ev.ifp hae ?_
          by_cases hbe : b.testBit e = true
          · refine Ev.ifp hbe ?_
            rw [if_neg (by rw [hbe]; simp)]
            exact hih
          · refine Ev.ifn hbe (Ev.bind (specEx_ev n hn l hl a b e ha256 hb (by omega) hae) ?_)
            rw [if_pos (by rw [hae, Bool.eq_false_iff.2 hbe]; rfl)]
            simp only [failE]
            by_cases hx : hasEx l a b e = true
            · refine Ev.ifp hx ?_
              rw [if_pos hx]; exact hih
            · refine Ev.ifn hx ?_
              rw [if_neg hx]; exact Ev.now _
        · refine Ev.ifn hae ?_
          rw [if_neg (by rw [Bool.eq_false_iff.2 hae]; simp)]
          exact hih)
  rw [Nat.sub_zero, ← List.range_eq_range', ← els_dif ha hn] at h
  exact h
theorem specFail_ev (n : Int) (l : List Int) (hl : l.length ≤ 17592186044416) : Ev (fun k => spec_FirstFailure.f k n l) (failT n l) := by
  unfold spec_FirstFailure.f failT
  refine Ev.bind (specFam_ev n l hl) ?_
  by_cases hf : famB n l = true
  · refine Ev.ifp hf ?_
    rw [if_pos hf]
    obtain ⟨m, L, rfl, hm, rfl, hL, _⟩ := famB_nat hf
    rw [toNat_map]
    have hlen : (L.map (fun x : Nat => (x : Int))).length = L.length := List.length_map _
    rw [hlen] at hl
    have hrd : ∀ i, (h : i < L.length) → rd (L.map (fun x : Nat => (x : Int))) (i : Int) = (L[i] : Int) := fun i h => by
      rw [rd_getElem _ i (by rw [hlen]; exact h), List.getElem_map]
    have hl' : (L.map (fun x : Nat => (x : Int))).length ≤ 17592186044416 := by rw [hlen]; exact hl
    generalize L.map (fun x : Nat => (x : Int)) = l at hlen hrd hl'
    have h := down (P := fun i => Ev (fun k => spec_FirstFailure.l0 k (i : Int) (m : Int) l) (told (failA l L (L.drop i)))) L.length
      (by
        apply Ev.step
        · intro k
          simp only [spec_FirstFailure.l0]
          rw [if_neg (by omega)]
        · rw [drop_end]; exact Ev.now _)
      (by
        intro i hi ih
        have hia := hL _ (List.getElem_mem hi)
        have hih : Ev (fun k => spec_FirstFailure.l0 k (wrap64 ((i : Int) + 1)) (m : Int) l) (told (failA l L (L.drop (i + 1)))) := by
          rw [w_succ hi hl]; exact ih
        apply Ev.step
        · intro k
          simp only [spec_FirstFailure.l0]
          rw [if_pos (by omega)]
        · have h1 := down (P := fun j => Ev (fun k => spec_FirstFailure.l1 k (i : Int) (j : Int) (m : Int) l) (match failB l L[i] (L.drop j) with | none => told (failA l L (L.drop (i + 1))) | some (b, e) => ((L[i] : Int), (b : Int), (e : Int), true))) L.length
            (by
              apply Ev.step
              · intro k
                simp only [spec_FirstFailure.l1]
                rw [if_neg (by omega)]
              · rw [drop_end]; exact hih)
            (by
              intro j hj ihj
              have hjb := hL _ (List.getElem_mem hj)
              apply Ev.step
              · intro k
                simp only [spec_FirstFailure.l1]
                rw [if_pos (by omega)]
              · have h2 := specFail_l2 m hm l hl' i j (by omega) (by omega) L[i] L[j] (hrd i hi) (hrd j hj) hia hjb _ (by rw [w_succ hj hl]; exact ihj)
                rw [drop_cons L j hj]
                simp only [failB]
                generalize failE l L[i] L[j] (els (dif L[i] L[j])) = q at h2
                cases q with
                | none => exact h2
                | some e => exact h2)
          rw [drop_cons L i hi]
          simp only [failA]
          rw [List.drop_zero] at h1
          generalize failB l L[i] L = q at h1
          cases q with
          | none => exact h1
          | some x => exact h1)
    exact h
  · refine Ev.ifn hf ?_
    rw [if_neg hf]
    exact Ev.now _
end Go.Proofs.Ytagncnjllpebjaa.Q
namespace Go.Proofs.Ytagncnjllpebjaa.Q
open Go Go.RowKit Go.Proofs.Ytagncnjllpebjaa.A Go.Proofs.YtagncnjllpebjaaW.PrintWords Go.Proofs.YtagncnjllpebjaaW.PrintLast Go.Proofs.YtagncnjllpebjaaW.PrintMore Go.Proofs.Ytagncnjllpebjaa.Z
set_option linter.unusedVariables false
set_option linter.unusedSimpArgs false
/-- A matroid: a family, not empty, without a failure of the exchange. -/
def matB (n : Int) (l : List Int) : Bool := famB n l && (decide ((l.length : Int) > 0) && !(failT n l).2.2.2)
theorem specMat_ev (n : Int) (l : List Int) (hl : l.length ≤ 17592186044416) : Ev (fun k => spec_IsMatroid.f k n l) (matB n l) := by
  unfold spec_IsMatroid.f matB
  refine Ev.bind (specFail_ev n l hl) (Ev.bind (specFam_ev n l hl) ?_)
  by_cases hf : famB n l = true
  · refine Ev.ifp hf ?_
    rw [hf, Bool.true_and]
    by_cases h0 : (l.length : Int) > 0
    · refine Ev.ifp h0 ?_
      rw [show decide ((l.length : Int) > 0) = true from by simpa using h0, Bool.true_and]
      exact Ev.now _
    · refine Ev.ifn h0 ?_
      rw [show decide ((l.length : Int) > 0) = false from by simpa using h0, Bool.false_and]
      exact Ev.now _
  · refine Ev.ifn hf ?_
    rw [Bool.eq_false_iff.2 hf, Bool.false_and]
    exact Ev.now _
end Go.Proofs.Ytagncnjllpebjaa.Q
namespace Go.Proofs.Ytagncnjllpebjaa.Q
open Go Go.RowKit Go.Proofs.YtagncnjllpebjaaW.PrintWords Go.Proofs.YtagncnjllpebjaaW.PrintLast Go.Proofs.YtagncnjllpebjaaW.PrintMore Go.Proofs.Ytagncnjllpebjaa.Z
set_option linter.unusedVariables false
set_option linter.unusedSimpArgs false
/-- What a matroid is, as numbers. -/
theorem matB_nat {n : Int} {l : List Int} (h : matB n l = true) : ∃ (m : Nat) (L : List Nat), n = m ∧ m ≤ 8 ∧ l = ints L ∧ (∀ x ∈ L, x < 2 ^ m) ∧ (∀ x ∈ L, x < 256) ∧ L.Pairwise (· < ·) ∧ L ≠ [] := by
  simp only [matB, Bool.and_eq_true, decide_eq_true_eq] at h
  obtain ⟨m, L, rfl, hm, rfl, hL, hp⟩ := famB_nat h.1
  refine ⟨m, L, rfl, hm, rfl, hL, fun x hx => Nat.lt_of_lt_of_le (hL x hx) (pow_le_256 hm), hp, ?_⟩
  rintro rfl
  simp at h
theorem ints_len (L : List Nat) : (ints L).length = L.length := List.length_map _
theorem ints_rd (L : List Nat) (i : Nat) (h : i < L.length) : rd (ints L) (i : Int) = (L[i] : Int) := by
  rw [rd_getElem _ i (by rw [ints_len]; exact h)]
  simp [ints]
end Go.Proofs.Ytagncnjllpebjaa.Q
namespace Go.Proofs.Ytagncnjllpebjaa.Q
open Go Go.RowKit Go.Proofs.Ytagncnjllpebjaa.A Go.Proofs.YtagncnjllpebjaaW.PrintWords Go.Proofs.YtagncnjllpebjaaW.PrintLast Go.Proofs.YtagncnjllpebjaaW.PrintMore Go.Proofs.Ytagncnjllpebjaa.Z
set_option linter.unusedVariables false
set_option linter.unusedSimpArgs false
theorem filter_range_swap (p : Nat → Bool) (a b : Nat) : (List.range a).filter (fun e => decide (e < b) && p e) = (List.range (min a b)).filter p := by
  induction a with
  | zero => simp
  | succ a ih =>
    rw [List.range_succ, List.filter_append, ih]
    by_cases h : a < b
    · rw [show min (a + 1) b = min a b + 1 from by omega, List.range_succ, List.filter_append]
      have e : min a b = a := by omega
      rw [e]
      congr 1
      simp [List.filter_cons, h]
    · rw [show min (a + 1) b = min a b from by omega]
      simp [List.filter_cons, h]
end Go.Proofs.Ytagncnjllpebjaa.Q
namespace Go.Proofs.Ytagncnjllpebjaa.Q
open Go Go.RowKit Go.Proofs.YtagncnjllpebjaaW.PrintWords Go.Proofs.YtagncnjllpebjaaW.PrintLast Go.Proofs.YtagncnjllpebjaaW.PrintMore Go.Proofs.Ytagncnjllpebjaa.Z
set_option linter.unusedVariables false
set_option linter.unusedSimpArgs false
theorem or_lt {a x : Nat} (ha : a < 256) (hx : x < 8) : a ||| 2 ^ x < 256 := by
  have h1 : a < 2 ^ 8 := ha
  have h2 : 2 ^ x < 2 ^ 8 := Nat.pow_lt_pow_right (by decide) hx
  exact Nat.or_lt_two_pow h1 h2
theorem pow_lt_256 {x : Nat} (hx : x < 8) : 2 ^ x < 256 := Nat.pow_lt_pow_right (a := 2) (m := x) (n := 8) (by decide) hx
end Go.Proofs.Ytagncnjllpebjaa.Q
namespace Go.Proofs.Ytagncnjllpebjaa.Q
open Go Go.RowKit Go.Proofs.Ytagncnjllpebjaa.A Go.Proofs.YtagncnjllpebjaaW.PrintWords Go.Proofs.YtagncnjllpebjaaW.PrintLast Go.Proofs.YtagncnjllpebjaaW.PrintMore Go.Proofs.Ytagncnjllpebjaa.Z
set_option linter.unusedVariables false
set_option linter.unusedSimpArgs false
/-- The places of some elements, gathered. -/
def orFold (l : List Int) (acc : Nat) (es : List Nat) : Nat := es.foldl (fun (a : Nat) (e : Nat) => a ||| 2 ^ (rd l (e : Int)).toNat) acc
def renSetN (l : List Int) (s : Nat) : Nat := orFold l 0 ((List.range l.length).filter (fun e => s.testBit e))
theorem rd_range {l : List Int} (hm : ∀ x ∈ l, 0 ≤ x ∧ x < 8) {i : Nat} (hi : i < l.length) : ∃ x : Nat, rd l (i : Int) = x ∧ x < 8 := by
  have h := hm _ (List.getElem_mem hi)
  obtain ⟨x, hx⟩ := Int.eq_ofNat_of_zero_le h.1
  exact ⟨x, by rw [rd_getElem l i hi, hx], by omega⟩
theorem spec18Set_ev (l : List Int) (s : Nat) (hl : l.length ≤ 17592186044416) (hm : ∀ x ∈ l, 0 ≤ x ∧ x < 8) (hs : s < 256) : Ev (fun k => spec_l18Set.f k l (s : Int)) ((renSetN l s : Nat) : Int) := by
  have h := down (P := fun i => ∀ acc : Nat, acc < 256 → Ev (fun k => spec_l18Set.l0 k l (s : Int) (acc : Int) (i : Int)) ((orFold l acc ((List.range' i (l.length - i)).filter (fun e => s.testBit e)) : Nat) : Int)) l.length
    (by
      intro acc ha
      apply Ev.step
      · intro k
        simp only [spec_l18Set.l0]
        rw [if_neg (by omega)]
      · rw [Nat.sub_self]
        exact Ev.now _)
    (by
      intro i hi ih acc ha
      obtain ⟨x, hx, hx8⟩ := rd_range hm hi
      apply Ev.step
      · intro k
        simp only [spec_l18Set.l0, l2Has_eq (lt256_63 hs) (show i < 2 ^ 63 by omega), Option.bind_some]
        rw [if_pos (by omega), w_succ hi hl]
      · rw [range'_cons hi, List.filter_cons]
        by_cases hb : s.testBit i = true
        · refine Ev.ifp hb (Ev.ifp (by omega) (Ev.ifp (u64_nonneg _) ?_))
          rw [if_pos hb, hx, u64_of (by omega) (by omega), shl_one (by omega), or_nat (lt256_63 ha) (lt256_63 (pow_lt_256 hx8))]
          have := ih _ (or_lt ha hx8)
          have e : orFold l acc (i :: (List.range' (i + 1) (l.length - (i + 1))).filter (fun e => s.testBit e)) = orFold l (acc ||| 2 ^ x) ((List.range' (i + 1) (l.length - (i + 1))).filter (fun e => s.testBit e)) := by
            simp only [orFold, List.foldl_cons, hx, Int.toNat_natCast]
          rw [e]; exact this
        · refine Ev.ifn hb ?_
          rw [if_neg hb]
          exact ih acc ha)
  have h0 := h 0 (by omega)
  rw [Nat.sub_zero, ← List.range_eq_range'] at h0
  exact h0
theorem implRenSet_ev (l : List Int) (s : Nat) (h8 : l.length ≤ 8) (hm : ∀ x ∈ l, 0 ≤ x ∧ x < 8) (hs : s < 2 ^ l.length) : Ev (fun k => impl_renameSet.f k l (s : Int)) ((renSetN l s : Nat) : Int) := by
  have hs256 : s < 256 := Nat.lt_of_lt_of_le hs (pow_le_256 h8)
  unfold impl_renameSet.f
  refine Ev.bind (implElements_ev _) ?_
  have he : elsB (s : Int) = ((List.range l.length).filter (fun e => s.testBit e)).map (fun e : Nat => (e : Int)) := by
    rw [elsB_nat hs256, els]
    have h1 : (List.range 8).filter (fun e => s.testBit e) = (List.range 8).filter (fun e => decide (e < l.length) && s.testBit e) :=
      List.filter_congr (fun e _ => by
        by_cases hq : e < l.length
        · simp [hq]
        · have : s.testBit e = false := Nat.testBit_lt_two_pow (Nat.lt_of_lt_of_le hs (Nat.pow_le_pow_right (by decide) (by omega)))
          simp [this])
    rw [h1, filter_range_swap, Nat.min_eq_right h8]
  rw [he]
  unfold renSetN
  have hes : ∀ e ∈ (List.range l.length).filter (fun e => s.testBit e), e < l.length := by
    intro e hmem
    simp at hmem
    exact hmem.1
  have hlen : ((List.range l.length).filter (fun e => s.testBit e)).length ≤ 8 := Nat.le_trans (List.length_filter_le _ _) (by simpa using h8)
  generalize (List.range l.length).filter (fun e => s.testBit e) = es at hes hlen
  have h := down (P := fun i => ∀ acc : Nat, acc < 256 → Ev (fun k => impl_renameSet.l0 k l (acc : Int) (es.map (fun e : Nat => (e : Int))) ((es.map (fun e : Nat => (e : Int))).length : Int) (i : Int)) ((orFold l acc (es.drop i) : Nat) : Int)) es.length
    (by
      intro acc ha
      apply Ev.step
      · intro k
        simp only [impl_renameSet.l0]
        rw [if_neg (by rw [List.length_map]; omega)]
      · rw [drop_end]; exact Ev.now _)
    (by
      intro i hi ih acc ha
      have hi' : i < (es.map (fun e : Nat => (e : Int))).length := by rw [List.length_map]; exact hi
      have hr : rd (es.map (fun e : Nat => (e : Int))) (i : Int) = (es[i] : Int) := by rw [rd_getElem _ _ hi', List.getElem_map]
      have hei := hes _ (List.getElem_mem hi)
      obtain ⟨x, hx, hx8⟩ := rd_range hm hei
      apply Ev.step
      · intro k
        simp only [impl_renameSet.l0]
        rw [if_pos (by omega), if_pos (by omega), if_pos (by omega), hr, if_pos (by omega), if_pos (by omega), hx, if_pos (by omega), w_succ hi (by omega), shl_one (by omega), or_nat (lt256_63 ha) (lt256_63 (pow_lt_256 hx8))]
      · have e : orFold l acc (es.drop i) = orFold l (acc ||| 2 ^ x) (es.drop (i + 1)) := by
          rw [drop_cons es i hi]
          simp only [orFold, List.foldl_cons, hx, Int.toNat_natCast]
        rw [e]
        exact ih _ (or_lt ha hx8))
  exact h 0 (by omega)
end Go.Proofs.Ytagncnjllpebjaa.Q
namespace Go.Proofs.Ytagncnjllpebjaa.Q
open Go Go.RowKit Go.Proofs.Ytagncnjllpebjaa.A Go.Proofs.YtagncnjllpebjaaW.PrintWords Go.Proofs.YtagncnjllpebjaaW.PrintLast Go.Proofs.YtagncnjllpebjaaW.PrintMore Go.Proofs.Ytagncnjllpebjaa.Z
set_option linter.unusedVariables false
set_option linter.unusedSimpArgs false
/-- A number put into a list in order, once. -/
def insO (x : Int) : List Int → List Int
  | [] => [x]
  | y :: ys => if y < x then y :: insO x ys else (if y = x then y :: ys else x :: y :: ys)
def sortO (acc X : List Int) : List Int := X.foldl (fun a x => insO x a) acc
theorem insO_len (x : Int) (l : List Int) : (insO x l).length ≤ l.length + 1 := by
  induction l with
  | nil => exact Nat.le_refl _
  | cons y l ih =>
    simp only [insO]
    by_cases h : y < x
    · rw [if_pos h, List.length_cons, List.length_cons]; omega
    · rw [if_neg h]
      by_cases h2 : y = x
      · rw [if_pos h2]; omega
      · rw [if_neg h2]; simp only [List.length_cons]; omega
theorem insO_mem (x a : Int) (l : List Int) : a ∈ insO x l ↔ a = x ∨ a ∈ l := by
  induction l with
  | nil => simp [insO]
  | cons y l ih =>
    simp only [insO]
    by_cases h : y < x
    · rw [if_pos h, List.mem_cons, ih, List.mem_cons]
      constructor
      · rintro (h' | h' | h')
        · exact .inr (.inl h')
        · exact .inl h'
        · exact .inr (.inr h')
      · rintro (h' | h' | h')
        · exact .inr (.inl h')
        · exact .inl h'
        · exact .inr (.inr h')
    · rw [if_neg h]
      by_cases h2 : y = x
      · rw [if_pos h2]
        subst h2
        constructor
        · exact .inr
        · rintro (rfl | h')
          · exact List.mem_cons_self ..
          · exact h'
      · rw [if_neg h2, List.mem_cons]
theorem insO_pair (x : Int) (l : List Int) (hl : l.Pairwise (· < ·)) : (insO x l).Pairwise (· < ·) := by
  induction l with
  | nil => simp [insO]
  | cons y l ih =>
    rw [List.pairwise_cons] at hl
    simp only [insO]
    by_cases h : y < x
    · rw [if_pos h, List.pairwise_cons]
      refine ⟨fun a ha => ?_, ih hl.2⟩
      rcases (insO_mem x a l).1 ha with rfl | ha
      · exact h
      · exact hl.1 a ha
    · rw [if_neg h]
      by_cases h2 : y = x
      · rw [if_pos h2, List.pairwise_cons]; exact hl
      · rw [if_neg h2, List.pairwise_cons, List.pairwise_cons]
        refine ⟨fun a ha => ?_, hl⟩
        rcases List.mem_cons.1 ha with rfl | ha
        · omega
        · have := hl.1 a ha; omega
theorem sortO_mem (X : List Int) (a : Int) : ∀ acc : List Int, a ∈ sortO acc X ↔ a ∈ X ∨ a ∈ acc := by
  induction X with
  | nil => intro acc; simp [sortO]
  | cons x X ih =>
    intro acc
    have := ih (insO x acc)
    unfold sortO at this ⊢
    rw [List.foldl_cons, this, insO_mem, List.mem_cons]
    constructor
    · rintro (h | h | h)
      · exact .inl (.inr h)
      · exact .inl (.inl h)
      · exact .inr h
    · rintro ((h | h) | h)
      · exact .inr (.inl h)
      · exact .inl h
      · exact .inr (.inr h)
theorem sortO_pair (X : List Int) : ∀ acc : List Int, acc.Pairwise (· < ·) → (sortO acc X).Pairwise (· < ·) := by
  induction X with
  | nil => intro acc h; exact h
  | cons x X ih => intro acc h; exact ih _ (insO_pair x acc h)
/-- Two lists in order with the same members are one. -/
theorem pair_unique : ∀ {X Y : List Int}, X.Pairwise (· < ·) → Y.Pairwise (· < ·) → (∀ a, a ∈ X ↔ a ∈ Y) → X = Y := by
  intro X
  induction X with
  | nil =>
    intro Y _ _ h
    cases Y with
    | nil => rfl
    | cons y Y => exact absurd ((h y).2 (List.mem_cons_self ..)) (by simp)
  | cons x X ih =>
    intro Y hX hY h
    cases Y with
    | nil => exact absurd ((h x).1 (List.mem_cons_self ..)) (by simp)
    | cons y Y =>
      rw [List.pairwise_cons] at hX hY
      have hxy : x = y := by
        rcases List.mem_cons.1 ((h x).1 (List.mem_cons_self ..)) with e | hx
        · exact e
        · rcases List.mem_cons.1 ((h y).2 (List.mem_cons_self ..)) with e | hy
          · exact e.symm
          · have h1 := hX.1 y hy
            have h2 := hY.1 x hx
            omega
      subst hxy
      rw [ih hX.2 hY.2 (fun a => ?_)]
      constructor
      · intro ha
        rcases List.mem_cons.1 ((h a).1 (List.mem_cons_of_mem _ ha)) with e | h'
        · have := hX.1 a ha; omega
        · exact h'
      · intro ha
        rcases List.mem_cons.1 ((h a).2 (List.mem_cons_of_mem _ ha)) with e | h'
        · have := hY.1 a ha; omega
        · exact h'
theorem specSort_ev (X : List Int) (hx : X.length ≤ 8796093022208) : Ev (fun k => spec_SortSets.f k X) (sortO [] X) := by
  have hd := down (P := fun i => ∀ acc : List Int, acc.length ≤ i → Ev (fun k => spec_SortSets.l0 k X acc (i : Int)) (sortO acc (X.drop i))) X.length
    (by
      intro acc _
      apply Ev.step
      · intro k
        rw [spec_SortSets.l0, if_neg (by omega)]
      · rw [drop_end]; exact Ev.now _)
    (by
      intro i hi ih acc ha
      have ihs := fun y (hy : y = insO X[i] acc) => ih y (by subst hy; have := insO_len X[i] acc; omega)
      rw [drop_cons X i hi]
      have h1 := down (P := fun j => Ev (fun k => spec_SortSets.l1 k X acc (i : Int) (j : Int)) (sortO (acc.take j ++ insO X[i] (acc.drop j)) (X.drop (i + 1)))) acc.length
        (by
          rw [List.take_length, drop_end]
          have hr := ih (acc ++ [X[i]]) (by rw [List.length_append, List.length_singleton]; omega)
          apply Ev.step
          · intro k
            rw [spec_SortSets.l1, if_neg (by omega), w_succ hi (by omega)]
          · simp only [Option.bind_some, Int.toNat_natCast, List.drop_length, List.take_length, List.nil_append, List.append_nil, List.length_nil, List.length_append, List.length_singleton]
            refine Ev.ifp (by omega) (Ev.ifp (by omega) (Ev.ifp (by omega) (Ev.ifp (by omega) (Ev.ifp (by omega) (Ev.ifp (by omega) (Ev.ifp (by omega) ?_))))))
            rw [rd_getElem X i hi]
            exact hr)
        (by
          intro j hj ihj
          apply Ev.step
          · intro k
            rw [spec_SortSets.l1, if_pos (by omega), if_pos (by omega), if_pos (by omega), if_pos (by omega), rd_getElem acc j hj, rd_getElem X i hi, w_succ hi (by omega), w_succ hj (by omega)]
          · rw [drop_cons acc j hj]
            simp only [insO]
            by_cases hlt : acc[j] < X[i]
            · rw [if_pos hlt]
              refine Ev.ifp hlt ?_
              rw [take_snoc acc j hj, List.append_assoc, List.singleton_append] at ihj
              exact ihj
            · rw [if_neg hlt]
              refine Ev.ifn hlt ?_
              by_cases heq : acc[j] = X[i]
              · rw [if_pos heq]
                refine Ev.ifp heq ?_
                rw [← drop_cons acc j hj, List.take_append_drop]
                exact ih acc (by omega)
              · rw [if_neg heq]
                refine Ev.ifn heq ?_
                have hr := ih (acc.take j ++ X[i] :: acc[j] :: acc.drop (j + 1)) (by
                  rw [List.length_append, List.length_cons, List.length_cons, List.length_take, List.length_drop]; omega)
                simp only [Option.bind_some, Int.toNat_natCast, List.nil_append, List.length_nil]
                refine Ev.ifp (by omega) (Ev.ifp (by rw [List.length_drop]; omega) (Ev.ifp (by rw [List.length_take]; omega) (Ev.ifp (by rw [List.length_append, List.length_singleton, List.length_take, List.length_drop]; omega) ?_)))
                rw [drop_cons acc j hj, List.append_assoc, List.singleton_append]
                exact hr)
      apply Ev.step
      · intro k
        rw [spec_SortSets.l0, if_pos (by omega)]
      · have h0 := h1
        rw [List.take_zero, List.drop_zero, List.nil_append] at h0
        show Ev _ (sortO acc (X[i] :: X.drop (i + 1)))
        exact h0)
  exact hd [] (Nat.zero_le _)
end Go.Proofs.Ytagncnjllpebjaa.Q
namespace Go.Proofs.Ytagncnjllpebjaa.Q
open Go Go.RowKit Go.Proofs.YtagncnjllpebjaaW.PrintWords Go.Proofs.YtagncnjllpebjaaW.PrintLast Go.Proofs.YtagncnjllpebjaaW.PrintMore Go.Proofs.Ytagncnjllpebjaa.Z
set_option linter.unusedVariables false
set_option linter.unusedSimpArgs false
theorem ints_pair {L : List Nat} (h : L.Pairwise (· < ·)) : (ints L).Pairwise (· < ·) := by
  unfold ints
  rw [List.pairwise_map]
  exact h.imp (fun hab => by omega)
end Go.Proofs.Ytagncnjllpebjaa.Q
namespace Go.Proofs.Ytagncnjllpebjaa.Q
open Go Go.RowKit Go.Proofs.Ytagncnjllpebjaa.A Go.Proofs.YtagncnjllpebjaaW.PrintWords Go.Proofs.YtagncnjllpebjaaW.PrintLast Go.Proofs.YtagncnjllpebjaaW.PrintMore Go.Proofs.Ytagncnjllpebjaa.Z
set_option linter.unusedVariables false
set_option linter.unusedSimpArgs false
theorem sortO_intsB {X : List Int} {D : List Nat} (hD : D.Pairwise (· < ·)) (h : ∀ a, a ∈ X ↔ a ∈ ints D) : sortO [] X = ints D :=
  pair_unique (sortO_pair X [] List.Pairwise.nil) (ints_pair hD) (fun a => by rw [sortO_mem, h]; simp)
theorem sortC_sortO (X : List Int) : sortC X = sortO [] X :=
  pair_unique (sortC_spec X).1 (sortO_pair X [] List.Pairwise.nil) (fun a => by rw [(sortC_spec X).2 a, sortO_mem]; simp)
end Go.Proofs.Ytagncnjllpebjaa.Q
namespace Go.Proofs.Ytagncnjllpebjaa.Q
open Go Go.RowKit Go.Proofs.Ytagncnjllpebjaa.A Go.Proofs.YtagncnjllpebjaaW.PrintWords Go.Proofs.YtagncnjllpebjaaW.PrintLast Go.Proofs.YtagncnjllpebjaaW.PrintMore Go.Proofs.Ytagncnjllpebjaa.Z
set_option linter.unusedVariables false
set_option linter.unusedSimpArgs false
theorem sortO_len (X : List Int) : ∀ acc : List Int, (sortO acc X).length ≤ acc.length + X.length := by
  induction X with
  | nil => intro acc; exact Nat.le_refl _
  | cons x X ih =>
    intro acc
    have h1 := ih (insO x acc)
    have h2 := insO_len x acc
    rw [List.length_cons]
    show (sortO (insO x acc) X).length ≤ _
    omega
theorem specRenSets_ev (w : List Int) (L : List Nat) (hw : w.length ≤ 17592186044416) (hl : L.length ≤ 8796093022208) (hm : ∀ x ∈ w, 0 ≤ x ∧ x < 8) (hL : ∀ b ∈ L, b < 256) : Ev (fun k => spec_l18Sets.f k w (ints L)) (sortO [] (ints (L.map (renSetN w)))) := by
  have hd := down (P := fun i => Ev (fun k => spec_l18Sets.l0 k w (ints L) (ints ((L.take i).map (renSetN w))) (i : Int)) (sortO [] (ints (L.map (renSetN w))))) L.length
    (by
      apply Ev.step
      · intro k
        rw [spec_l18Sets.l0, if_neg (by rw [ints_len]; omega)]
      · rw [List.take_length]
        exact Ev.bind (specSort_ev _ (by rw [ints_len, List.length_map]; exact hl)) (Ev.now _))
    (by
      intro i hi ih
      have hb := hL _ (List.getElem_mem hi)
      apply Ev.step
      · intro k
        rw [spec_l18Sets.l0, if_pos (by rw [ints_len]; omega), if_pos (by omega), ints_rd L i hi, w_succ hi (by omega)]
      · refine Ev.bind (spec18Set_ev w _ hw hm hb) (Ev.ifp ?_ ?_)
        · rw [ints_len, List.length_map, List.length_take]; omega
        · rw [take_snoc L i hi, List.map_append] at ih
          rw [show ints ((L.take i).map (renSetN w)) ++ [((renSetN w L[i] : Nat) : Int)] = ints ((L.take i).map (renSetN w) ++ [L[i]].map (renSetN w)) from by simp [ints]]
          exact ih)
  exact hd
theorem implRenSets_ev (n : Int) (w : List Int) (L : List Nat) (hl : L.length ≤ 8796093022208) (h8 : w.length ≤ 8) (hm : ∀ x ∈ w, 0 ≤ x ∧ x < 8) (hL : ∀ b ∈ L, b < 2 ^ w.length) : Ev (fun k => impl_renamed.f k n (ints L) w) (n, sortO [] (ints (L.map (renSetN w)))) := by
  have hd := down (P := fun i => Ev (fun k => impl_renamed.l0 k w (ints L) ((ints L).length : Int) (i : Int) n (ints ((L.take i).map (renSetN w)))) (n, sortO [] (ints (L.map (renSetN w))))) L.length
    (by
      apply Ev.step
      · intro k
        rw [impl_renamed.l0, if_neg (by rw [ints_len]; omega)]
      · rw [List.take_length]
        refine Ev.cbind (a := sortO [] (ints (L.map (renSetN w)))) ?_ (Ev.now _)
        unfold impl_SortSets.f
        rw [if_pos (by rw [ints_len, List.length_map]; omega), sortC_sortO])
    (by
      intro i hi ih
      have hb := hL _ (List.getElem_mem hi)
      apply Ev.step
      · intro k
        rw [impl_renamed.l0, if_pos (by rw [ints_len]; omega), if_pos (by omega), if_pos (by rw [ints_len]; omega), ints_rd L i hi, w_succ hi (by omega)]
      · refine Ev.bind (implRenSet_ev w _ h8 hm hb) (Ev.ifp ?_ ?_)
        · rw [ints_len, List.length_map, List.length_take]; omega
        · rw [take_snoc L i hi, List.map_append] at ih
          rw [show ints ((L.take i).map (renSetN w)) ++ [((renSetN w L[i] : Nat) : Int)] = ints ((L.take i).map (renSetN w) ++ [L[i]].map (renSetN w)) from by simp [ints]]
          exact ih)
  exact hd
end Go.Proofs.Ytagncnjllpebjaa.Q
namespace Go.Proofs.Ytagncnjllpebjaa.Q
open Go Go.RowKit Go.Proofs.Ytagncnjllpebjaa.A Go.Proofs.YtagncnjllpebjaaW.PrintWords Go.Proofs.YtagncnjllpebjaaW.PrintLast Go.Proofs.YtagncnjllpebjaaW.PrintMore Go.Proofs.Ytagncnjllpebjaa.Z
set_option linter.unusedVariables false
set_option linter.unusedSimpArgs false
/-- Is the first row the lesser one, element by element? -/
def lexB : List Int → List Int → Bool
  | x :: xs, y :: ys => if x = y then lexB xs ys else decide (x < y)
  | _, _ => false
theorem lexB_self : ∀ X : List Int, lexB X X = false
  | [] => rfl
  | x :: xs => by
    unfold lexB
    rw [if_pos rfl]; exact lexB_self xs
def befB (X Y : List Int) : Bool := if X.length = Y.length then lexB X Y else decide (X.length < Y.length)
theorem specBefore_ev (X Y : List Int) (hx : X.length ≤ 17592186044416) : Ev (fun k => spec_l17Before.f k X Y) (befB X Y) := by
  unfold spec_l17Before.f befB
  by_cases h : X.length = Y.length
  rotate_left
  · rw [if_neg h]
    refine Ev.ifn (by omega) ?_
    rw [show decide ((X.length : Int) < (Y.length : Int)) = decide (X.length < Y.length) from by rw [Bool.eq_iff_iff, decide_eq_true_eq, decide_eq_true_eq]; omega]
    exact Ev.now _
  rw [if_pos h]
  refine Ev.ifp (by omega) ?_
  have hd := down (P := fun i => Ev (fun k => spec_l17Before.l0 k X Y (i : Int)) (lexB (X.drop i) (Y.drop i))) X.length
    (by
      apply Ev.step
      · intro k
        rw [spec_l17Before.l0, if_neg (by omega)]
      · rw [List.drop_length]
        exact Ev.now _)
    (by
      intro i hi ih
      have hi2 : i < Y.length := by omega
      apply Ev.step
      · intro k
        rw [spec_l17Before.l0, if_pos (by omega), if_pos (by omega), if_pos (by omega), rd_getElem X i hi, rd_getElem Y i hi2, w_succ hi hx]
      · rw [drop_cons X i hi, drop_cons Y i hi2]
        simp only [lexB]
        by_cases he : X[i] = Y[i]
        · rw [if_pos he]
          exact Ev.ifp he ih
        · rw [if_neg he]
          exact Ev.ifn he (Ev.now _))
  exact hd
theorem cmpInt_eq (a b : Int) : cmp_Compare_int.f a b = some (if a < b then -1 else if a > b then 1 else 0) := by
  have h : ∀ x : Int, cmp_isNaN_int.f x = some false := fun x => by unfold cmp_isNaN_int.f; simp
  unfold cmp_Compare_int.f
  rw [h, h, Option.bind_some, Option.bind_some, if_neg (by decide), if_neg (by decide)]
  by_cases h1 : a < b
  · rw [if_pos h1, if_pos h1]
  · rw [if_neg h1, if_neg h1]
    by_cases h2 : a > b
    · rw [if_pos h2, if_pos h2]
    · rw [if_neg h2, if_neg h2]
/-- Rows of one length: Compare is negative where the first is the lesser. -/
theorem implCompare_ev (X Y : List Int) (h : X.length = Y.length) (hx : X.length ≤ 17592186044416) : ∃ c : Int, (c < 0 ↔ lexB X Y = true) ∧ Ev (fun k => slices_Compare_int_int.f k X Y) c := by
  have hd := down (P := fun i => ∃ c : Int, (c < 0 ↔ lexB (X.drop i) (Y.drop i) = true) ∧ Ev (fun k => slices_Compare_int_int.l0 k X Y X (X.length : Int) (i : Int)) c) X.length
    (by
      refine ⟨0, by rw [List.drop_length]; simp [lexB], ?_⟩
      apply Ev.step
      · intro k
        rw [slices_Compare_int_int.l0, if_neg (by omega), if_neg (by omega)]
      · exact Ev.now _)
    (by
      intro i hi ih
      obtain ⟨c, hc, ih⟩ := ih
      have hi2 : i < Y.length := by omega
      by_cases he : X[i] = Y[i]
      · refine ⟨c, by rw [hc, drop_cons X i hi, drop_cons Y i hi2]; simp only [lexB]; rw [if_pos he], ?_⟩
        have e0 : cmp_Compare_int.f X[i] Y[i] = some 0 := by rw [cmpInt_eq, if_neg (by omega), if_neg (by omega)]
        apply Ev.step
        · intro k
          rw [slices_Compare_int_int.l0, if_pos (by omega), if_pos (by omega), if_pos (by omega), if_neg (by omega), if_pos (by omega), rd_getElem X i hi, rd_getElem Y i hi2, e0, Option.bind_some, if_pos rfl, w_succ hi hx]
        · exact ih
      · refine ⟨if X[i] < Y[i] then -1 else 1, ?_, ?_⟩
        · rw [drop_cons X i hi, drop_cons Y i hi2]
          simp only [lexB]
          rw [if_neg he]
          by_cases hl : X[i] < Y[i]
          · rw [if_pos hl, decide_eq_true hl]; simp
          · rw [if_neg hl, decide_eq_false hl]; simp
        · have e1 : cmp_Compare_int.f X[i] Y[i] = some (if X[i] < Y[i] then -1 else 1) := by
            rw [cmpInt_eq]
            by_cases hl : X[i] < Y[i]
            · rw [if_pos hl, if_pos hl]
            · rw [if_neg hl, if_neg hl, if_pos (by omega)]
          apply Ev.step
          · intro k
            rw [slices_Compare_int_int.l0, if_pos (by omega), if_pos (by omega), if_pos (by omega), if_neg (by omega), if_pos (by omega), rd_getElem X i hi, rd_getElem Y i hi2, e1, Option.bind_some]
          · exact Ev.ifn (by split <;> decide) (Ev.now _))
  exact hd
end Go.Proofs.Ytagncnjllpebjaa.Q
namespace Go.Proofs.Ytagncnjllpebjaa.Q
open Go Go.RowKit Go.Proofs.YtagncnjllpebjaaW.PrintWords Go.Proofs.YtagncnjllpebjaaW.PrintLast Go.Proofs.YtagncnjllpebjaaW.PrintMore Go.Proofs.Ytagncnjllpebjaa.Z
set_option linter.unusedVariables false
set_option linter.unusedSimpArgs false
theorem orFold_bit (l : List Int) (j : Nat) : ∀ (es : List Nat) (acc : Nat), (orFold l acc es).testBit j = true ↔ acc.testBit j = true ∨ ∃ e ∈ es, (rd l (e : Int)).toNat = j := by
  intro es
  induction es with
  | nil => intro acc; simp [orFold]
  | cons e es ih =>
    intro acc
    have h := ih (acc ||| 2 ^ (rd l (e : Int)).toNat)
    unfold orFold at h ⊢
    rw [List.foldl_cons, h, Nat.testBit_or, Bool.or_eq_true, Nat.testBit_two_pow, decide_eq_true_eq]
    constructor
    · rintro ((h1 | h1) | ⟨x, h1, h2⟩)
      · exact .inl h1
      · exact .inr ⟨e, List.mem_cons_self .., h1⟩
      · exact .inr ⟨x, List.mem_cons_of_mem _ h1, h2⟩
    · rintro (h1 | ⟨x, h1, h2⟩)
      · exact .inl (.inl h1)
      · rcases List.mem_cons.1 h1 with rfl | h1
        · exact .inl (.inr h2)
        · exact .inr ⟨x, h1, h2⟩
theorem renSetN_bit (l : List Int) (s j : Nat) : (renSetN l s).testBit j = true ↔ ∃ e, e < l.length ∧ s.testBit e = true ∧ (rd l (e : Int)).toNat = j := by
  unfold renSetN
  rw [orFold_bit, Nat.zero_testBit]
  constructor
  · rintro (h | ⟨e, h1, h2⟩)
    · cases h
    · rw [List.mem_filter, List.mem_range] at h1
      exact ⟨e, h1.1, h1.2, h2⟩
  · rintro ⟨e, h1, h2, h3⟩
    exact .inr ⟨e, List.mem_filter.2 ⟨List.mem_range.2 h1, h2⟩, h3⟩
theorem rd_ints {p : List Nat} {e : Nat} (h : e < p.length) : rd (ints p) (e : Int) = (p[e] : Int) := by
  unfold ints
  rw [rd_getElem _ e (by rw [List.length_map]; exact h), List.getElem_map]
theorem renSetN_inj {p : List Nat} (hp : p.Nodup) {s t : Nat} (hs : s < 2 ^ p.length) (ht : t < 2 ^ p.length) (h : renSetN (ints p) s = renSetN (ints p) t) : s = t := by
  have hl : (ints p).length = p.length := by unfold ints; rw [List.length_map]
  have key : ∀ {a b : Nat}, renSetN (ints p) a = renSetN (ints p) b → a < 2 ^ p.length → ∀ i, a.testBit i = true → b.testBit i = true := by
    intro a b hab ha i hi
    have hi2 : i < p.length := by
      refine Classical.byContradiction fun hc => ?_
      rw [Nat.testBit_lt_two_pow (Nat.lt_of_lt_of_le ha (Nat.pow_le_pow_right (by decide) (by omega)))] at hi
      cases hi
    have h1 : (renSetN (ints p) a).testBit p[i] = true := (renSetN_bit _ _ _).2 ⟨i, by omega, hi, by rw [rd_ints hi2]; rfl⟩
    rw [hab] at h1
    obtain ⟨e, h2, h3, h4⟩ := (renSetN_bit _ _ _).1 h1
    rw [hl] at h2
    rw [rd_ints h2, Int.toNat_natCast] at h4
    have hpw := List.pairwise_iff_getElem.1 hp
    have : e = i := by
      rcases Nat.lt_trichotomy e i with hlt | he | hlt
      · exact absurd h4 (hpw e i h2 hi2 hlt)
      · exact he
      · exact absurd h4.symm (hpw i e hi2 h2 hlt)
    rw [← this]; exact h3
  apply Nat.eq_of_testBit_eq
  intro i
  rw [Bool.eq_iff_iff]
  exact ⟨key h hs i, key h.symm ht i⟩
theorem sortO_nodup_len {L : List Nat} (h : L.Nodup) : (sortO [] (ints L)).length = L.length := by
  have hp := sortO_pair (ints L) [] List.Pairwise.nil
  have h1 : (sortO [] (ints L)).Nodup := hp.imp (fun hlt he => by omega)
  have h2 : (ints L).Nodup := by
    unfold ints
    rw [List.nodup_iff_pairwise_ne, List.pairwise_map]
    exact h.imp (fun hne he => hne (by omega))
  have hmem : ∀ a, a ∈ sortO [] (ints L) ↔ a ∈ ints L := fun a => by rw [sortO_mem]; simp
  have h3 := ((List.perm_ext_iff_of_nodup h1 h2).2 hmem).length_eq
  rw [h3, ints_len]
theorem canT_len {m : Nat} {L p : List Nat} (hL : ∀ b ∈ L, b < 2 ^ m) (hn : L.Nodup) (hp : p.Nodup) (hm : p.length = m) : (sortO [] (ints (L.map (renSetN (ints p))))).length = L.length := by
  rw [sortO_nodup_len, List.length_map]
  rw [List.Nodup, List.pairwise_map]
  refine List.Pairwise.imp_of_mem (fun {a b} ha hb hne he => ?_) hn
  exact hne (renSetN_inj hp (by rw [hm]; exact hL a ha) (by rw [hm]; exact hL b hb) he)
end Go.Proofs.Ytagncnjllpebjaa.Q
namespace Go.Proofs.Ytagncnjllpebjaa.Q
open Go Go.RowKit Go.Proofs.YtagncnjllpebjaaW.PrintWords Go.Proofs.YtagncnjllpebjaaW.PrintLast Go.Proofs.YtagncnjllpebjaaW.PrintMore Go.Proofs.Ytagncnjllpebjaa.Z
set_option linter.unusedVariables false
set_option linter.unusedSimpArgs false
theorem ints_mem {L : List Nat} {x : Nat} : (ints L).contains (x : Int) = true ↔ x ∈ L := by
  rw [List.contains_iff_mem]
  unfold ints
  rw [List.mem_map]
  constructor
  · rintro ⟨y, hy, he⟩
    have : y = x := by omega
    subst this; exact hy
  · intro h; exact ⟨x, h, rfl⟩
end Go.Proofs.Ytagncnjllpebjaa.Q
namespace Go.Proofs.Ytagncnjllpebjaa.Q
open Go Go.RowKit Go.Proofs.Ytagncnjllpebjaa.A Go.Proofs.YtagncnjllpebjaaW.PrintWords Go.Proofs.YtagncnjllpebjaaW.PrintLast Go.Proofs.YtagncnjllpebjaaW.PrintMore Go.Proofs.Ytagncnjllpebjaa.Z
set_option linter.unusedVariables false
set_option linter.unusedSimpArgs false
theorem pow_wrap {e : Nat} (he : e < 8) : IntKind.i64.wrap (2 ^ e) = ((2 ^ e : Nat) : Int) := by
  have h2 : (2 ^ e : Nat) < 9223372036854775808 := by
    have := Nat.pow_lt_pow_right (a := 2) (by decide) (show e < 63 by omega)
    simpa using this
  have h3 : (2 : Int) ^ e = ((2 ^ e : Nat) : Int) := by simp
  rw [h3]
  exact i64_wrap_nat h2
theorem implC_ev (l : List Int) (hl : l.length ≤ 17592186044416) (a e f : Nat) (ha : a < 256) (he : e < 8) (hf : f < 8) : Ev (fun k => impl_FirstFailure.c k l (a : Int) (e : Int) (f : Int)) (l.contains ((dif a (2 ^ e) ||| 2 ^ f : Nat) : Int)) := by
  unfold impl_FirstFailure.c impl_HasSet.f
  refine Ev.ifp (by omega) (Ev.ifp (by omega) ?_)
  have hp : ∀ x < 8, 2 ^ x < 2 ^ 63 := fun x hx => Nat.pow_lt_pow_right (by decide) (by omega)
  rw [Int.toNat_natCast, Int.toNat_natCast, pow_wrap he, pow_wrap hf, andNot_nat (lt256_63 ha) (hp e he), or_nat (lt256_63 (dif_lt ha)) (hp f hf)]
  exact Ev.bind (contains_ev l _ hl) (Ev.now _)
theorem els_lt {s e : Nat} (h : e ∈ els s) : e < 8 := (mem_els.1 h).1
theorem any_map (p : Int → Bool) (L : List Nat) : (L.map (fun x : Nat => (x : Int))).any p = L.any (fun x => p (x : Int)) := by
  rw [List.any_map]; rfl
theorem implFail_l2 (l : List Int) (hl : l.length ≤ 17592186044416) (a b : Nat) (ha : a < 256) (hb : b < 256) : ∀ es : List Nat, (∀ e ∈ es, e < 8) → Ev (fun k => impl_FirstFailure.l2 k l (a : Int) (b : Int) (es.map (fun x : Nat => (x : Int)))) ((failE l a b es).map (fun x : Nat => (x : Int))) := by
  intro es
  induction es with
  | nil => intro _; exact Ev.now _
  | cons e es ih =>
    intro hm
    have he := hm e (List.mem_cons_self ..)
    simp only [List.map_cons, impl_FirstFailure.l2]
    rw [andNot_nat (lt256_63 hb) (lt256_63 ha)]
    refine Ev.bind (implElements_ev _) ?_
    rw [elsB_nat (dif_lt hb)]
    refine Ev.bind (a := hasEx l a b e) ?_ ?_
    · have h := Ev_anyO (g := fun k f => impl_FirstFailure.c k l (a : Int) (e : Int) f) (p := fun f => l.contains ((dif a (2 ^ e) ||| 2 ^ f.toNat : Nat) : Int)) (l := (els (dif b a)).map (fun x : Nat => (x : Int)))
        (fun x hx => by
          obtain ⟨f, hf, rfl⟩ := List.mem_map.1 hx
          have := implC_ev l hl a e f ha he (els_lt hf)
          rw [Int.toNat_natCast]
          exact this)
      rw [any_map] at h
      simp only [Int.toNat_natCast] at h
      exact h
    · simp only [failE]
      by_cases hx : hasEx l a b e = true
      · refine Ev.ifp hx ?_
        rw [if_pos hx]
        exact ih (fun e' he' => hm e' (List.mem_cons_of_mem _ he'))
      · refine Ev.ifn hx ?_
        rw [if_neg hx]
        exact Ev.now _
theorem implFail_l1 (l : List Int) (hl : l.length ≤ 17592186044416) (a : Nat) (ha : a < 256) : ∀ bs : List Nat, (∀ b ∈ bs, b < 256) → Ev (fun k => impl_FirstFailure.l1 k l (a : Int) (bs.map (fun x : Nat => (x : Int)))) ((failB l a bs).map (fun x : Nat × Nat => ((x.1 : Int), (x.2 : Int)))) := by
  intro bs
  induction bs with
  | nil => intro _; exact Ev.now _
  | cons b bs ih =>
    intro hm
    have hb := hm b (List.mem_cons_self ..)
    simp only [List.map_cons, impl_FirstFailure.l1]
    rw [andNot_nat (lt256_63 ha) (lt256_63 hb)]
    refine Ev.bind (implElements_ev _) ?_
    rw [elsB_nat (dif_lt ha)]
    refine Ev.bind (implFail_l2 l hl a b ha hb _ (fun e he => els_lt he)) ?_
    simp only [failB]
    cases failE l a b (els (dif a b)) with
    | none => exact ih (fun b' hb' => hm b' (List.mem_cons_of_mem _ hb'))
    | some e => exact Ev.now _
theorem implFail_l0 (l : List Int) (L : List Nat) (hlL : l = L.map (fun x : Nat => (x : Int))) (hl : l.length ≤ 17592186044416) (hL : ∀ b ∈ L, b < 256) : ∀ la : List Nat, (∀ a ∈ la, a < 256) → Ev (fun k => impl_FirstFailure.l0 k l (la.map (fun x : Nat => (x : Int)))) ((failA l L la).map (fun x : Nat × Nat × Nat => ((x.1 : Int), (x.2.1 : Int), (x.2.2 : Int)))) := by
  intro la
  induction la with
  | nil => intro _; exact Ev.now _
  | cons a la ih =>
    intro hm
    have ha := hm a (List.mem_cons_self ..)
    simp only [List.map_cons, impl_FirstFailure.l0]
    refine Ev.bind (a := (failB l a L).map (fun x : Nat × Nat => ((x.1 : Int), (x.2 : Int)))) (by
      have := implFail_l1 l hl a ha L hL
      rw [← hlL] at this
      exact this) ?_
    simp only [failA]
    cases failB l a L with
    | none => exact ih (fun a' ha' => hm a' (List.mem_cons_of_mem _ ha'))
    | some x => exact Ev.now _
theorem implFail_ev (n : Int) (l : List Int) (hl : l.length ≤ 17592186044416) : Ev (fun k => impl_FirstFailure.f k n l) (failT n l) := by
  unfold impl_FirstFailure.f failT
  refine Ev.bind (implFam_ev n l hl) ?_
  by_cases hf : famB n l = true
  · refine Ev.ifp hf ?_
    rw [if_pos hf]
    obtain ⟨m, L, rfl, hm, hlL, hL, _⟩ := famB_nat hf
    have hmap : l.map Int.toNat = L := by rw [hlL, toNat_map]
    have h256 : ∀ b ∈ L, b < 256 := fun b hb => Nat.lt_of_lt_of_le (hL b hb) (pow_le_256 hm)
    have h := implFail_l0 l L hlL hl h256 L h256
    rw [← hlL] at h
    refine Ev.bind h ?_
    rw [hmap]
    cases failA l L L with
    | none => exact Ev.now _
    | some x => exact Ev.now _
  · refine Ev.ifn hf ?_
    rw [if_neg hf]
    exact Ev.now _
end Go.Proofs.Ytagncnjllpebjaa.Q
namespace Go.Proofs.Ytagncnjllpebjaa.Q
open Go Go.RowKit Go.Proofs.Ytagncnjllpebjaa.A Go.Proofs.YtagncnjllpebjaaW.PrintWords Go.Proofs.YtagncnjllpebjaaW.PrintLast Go.Proofs.YtagncnjllpebjaaW.PrintMore Go.Proofs.Ytagncnjllpebjaa.Z
set_option linter.unusedVariables false
set_option linter.unusedSimpArgs false
theorem implMat_ev (n : Int) (l : List Int) (hl : l.length ≤ 17592186044416) : Ev (fun k => impl_IsMatroid.f k n l) (matB n l) := by
  unfold impl_IsMatroid.f matB
  refine Ev.bind (implFail_ev n l hl) (Ev.bind (implFam_ev n l hl) ?_)
  by_cases hf : famB n l = true
  · refine Ev.ifp hf ?_
    rw [hf, Bool.true_and]
    by_cases h0 : (l.length : Int) > 0
    · refine Ev.ifp h0 ?_
      rw [show decide ((l.length : Int) > 0) = true from by simpa using h0, Bool.true_and]
      exact Ev.now _
    · refine Ev.ifn h0 ?_
      rw [show decide ((l.length : Int) > 0) = false from by simpa using h0, Bool.false_and]
      exact Ev.now _
  · refine Ev.ifn hf ?_
    rw [Bool.eq_false_iff.2 hf, Bool.false_and]
    exact Ev.now _
end Go.Proofs.Ytagncnjllpebjaa.Q
namespace Go.Proofs.Ytagncnjllpebjaa.Q
open Go Go.RowKit Go.Proofs.Ytagncnjllpebjaa.A Go.Proofs.YtagncnjllpebjaaW.PrintWords Go.Proofs.YtagncnjllpebjaaW.PrintLast Go.Proofs.YtagncnjllpebjaaW.PrintMore Go.Proofs.Ytagncnjllpebjaa.Z
set_option linter.unusedVariables false
set_option linter.unusedSimpArgs false
def canT (L p : List Nat) : List Int := sortO [] (ints (L.map (renSetN (ints p))))
def canF {σ : Type} (F : List Nat → σ → σ) (m : Nat) : Nat → List Nat → σ → σ
  | 0, p, st => F p st
  | d + 1, p, st => (List.range m).foldl (fun st e => if e ∈ p then st else canF F m d (p ++ [e]) st) st
def canI (L p : List Nat) (bs : List Int) : List Int := if lexB (canT L p) bs = true then canT L p else bs
def canS (L p : List Nat) (bs : List Int) : List Int := if bs.length = 0 then canT L p else if befB (canT L p) bs = true then canT L p else bs
structure Part (m : Nat) (p : List Nat) (d : Nat) : Prop where
  nodup : p.Nodup
  lt : ∀ e ∈ p, e < m
  len : p.length + d = m
theorem Part.next {m d : Nat} {p : List Nat} (h : Part m p (d + 1)) {e : Nat} (he : e < m) (hn : ¬ e ∈ p) : Part m (p ++ [e]) d := by
  refine ⟨?_, ?_, ?_⟩
  · rw [List.nodup_append]
    refine ⟨h.nodup, by simp, ?_⟩
    intro a ha b hb
    rw [List.mem_singleton] at hb
    subst hb
    rintro rfl
    exact hn ha
  · intro x hx
    rcases List.mem_append.1 hx with hx | hx
    · exact h.lt x hx
    · rw [List.mem_singleton.1 hx]; exact he
  · have := h.len
    rw [List.length_append, List.length_singleton]; omega
theorem canT_length {m : Nat} {L : List Nat} (hL : ∀ b ∈ L, b < 2 ^ m) (hn : L.Nodup) {p : List Nat} (h : Part m p 0) : (canT L p).length = L.length := canT_len hL hn h.nodup (by have := h.len; omega)
/-- From a state of the rows' length on, both texts do the same, and the length stays. -/
theorem canF_same {m : Nat} {L : List Nat} (hL : ∀ b ∈ L, b < 2 ^ m) (hn : L.Nodup) (h0 : L ≠ []) : ∀ (d : Nat) (p : List Nat) (st : List Int), Part m p d → st.length = L.length → canF (canS L) m d p st = canF (canI L) m d p st ∧ (canF (canI L) m d p st).length = L.length := by
  have hl0 : L.length ≠ 0 := fun h => h0 (List.length_eq_zero_iff.1 h)
  intro d
  induction d with
  | zero =>
    intro p st hp hst
    have hT := canT_length hL hn hp
    simp only [canF]
    have e1 : befB (canT L p) st = lexB (canT L p) st := by unfold befB; rw [if_pos (by rw [hT, hst])]
    unfold canS canI
    rw [if_neg (by omega), e1]
    refine ⟨rfl, ?_⟩
    split
    · exact hT
    · exact hst
  | succ d ih =>
    intro p st hp hst
    simp only [canF]
    have hgo : ∀ (es : List Nat) (st : List Int), (∀ e ∈ es, e < m) → st.length = L.length →
        es.foldl (fun st e => if e ∈ p then st else canF (canS L) m d (p ++ [e]) st) st = es.foldl (fun st e => if e ∈ p then st else canF (canI L) m d (p ++ [e]) st) st ∧ (es.foldl (fun st e => if e ∈ p then st else canF (canI L) m d (p ++ [e]) st) st).length = L.length := by
      intro es
      induction es with
      | nil => intro st _ hst; exact ⟨rfl, hst⟩
      | cons e es ihe =>
        intro st hes hst
        rw [List.foldl_cons, List.foldl_cons]
        by_cases hc : e ∈ p
        · rw [if_pos hc, if_pos hc]
          exact ihe st (fun x hx => hes x (List.mem_cons_of_mem _ hx)) hst
        · rw [if_neg hc, if_neg hc]
          obtain ⟨h1, h2⟩ := ih (p ++ [e]) st (hp.next (hes e (List.mem_cons_self ..)) hc) hst
          rw [h1]
          exact ihe _ (fun x hx => hes x (List.mem_cons_of_mem _ hx)) h2
    exact hgo (List.range m) st (fun e he => List.mem_range.1 he) hst
theorem implCan_ev {m : Nat} {L : List Nat} (hm : m ≤ 8) (hL : ∀ b ∈ L, b < 2 ^ m) (hn : L.Nodup) (h0 : L ≠ []) (hl : L.length ≤ 8796093022208) : ∀ (d : Nat) (p : List Nat) (bs : List Int) (D : Nat), Part m p d → bs.length = L.length → d < D → Ev (fun k => renO k (impl_CanonOf.g k (m : Int) (ints L)) (m : Int) D (ints p) ((m : Int), bs)) (((m : Int), canF (canI L) m d p bs), true) := by
  have h8 : ∀ {d : Nat} {p : List Nat}, Part m p d → ∀ x ∈ ints p, 0 ≤ x ∧ x < 8 := by
    intro d p hp x hx
    obtain ⟨y, hy, rfl⟩ := List.mem_map.1 hx
    have := hp.lt y hy
    omega
  intro d
  induction d with
  | zero =>
    intro p bs D hp hbs hD
    obtain ⟨D, rfl⟩ : ∃ D', D = D' + 1 := ⟨D - 1, by omega⟩
    have hlen := hp.len
    have hT := canT_length hL hn hp
    simp only [renO, canF]
    refine Ev.ifp (by rw [ints_len]; omega) ?_
    unfold impl_CanonOf.g canI
    refine Ev.bind (implRenSets_ev (m : Int) (ints p) L hl (by rw [ints_len]; omega) (h8 hp) (by rw [ints_len, show p.length = m by omega]; exact hL)) ?_
    obtain ⟨c, hc, hev⟩ := implCompare_ev (canT L p) bs (by rw [hT, hbs]) (by rw [hT]; omega)
    refine Ev.bind hev ?_
    by_cases hx : lexB (canT L p) bs = true
    · rw [if_pos hx]
      exact Ev.ifp (hc.2 hx) (Ev.now _)
    · rw [if_neg hx]
      exact Ev.ifn (fun h => hx (hc.1 h)) (Ev.now _)
  | succ d ih =>
    intro p bs D hp hbs hD
    obtain ⟨D, rfl⟩ : ∃ D', D = D' + 1 := ⟨D - 1, by omega⟩
    have hlen := hp.len
    simp only [renO, canF]
    refine Ev.ifn (by rw [ints_len]; omega) (Ev.ifp (by rw [ints_len]; omega) ?_)
    rw [Int.toNat_natCast]
    have hd := down (P := fun i => ∀ bs : List Int, bs.length = L.length → Ev (fun k => renE k (renO k (impl_CanonOf.g k (m : Int) (ints L)) (m : Int) D) (ints p) (m - i) (i : Int) ((m : Int), bs)) (((m : Int), (List.range' i (m - i)).foldl (fun st e => if e ∈ p then st else canF (canI L) m d (p ++ [e]) st) bs), true)) m
      (by
        intro bs _
        rw [Nat.sub_self]
        simp only [renE, List.range'_zero, List.foldl_nil]
        exact Ev.now _)
      (by
        intro i hi ih2 bs hbs
        rw [range'_cons' hi, List.foldl_cons, show m - i = (m - (i + 1)) + 1 by omega]
        simp only [renE]
        refine Ev.bind (contains_ev (ints p) (i : Int) (by rw [ints_len]; omega)) ?_
        have ec : (ints p).contains (i : Int) = decide (i ∈ p) := by rw [Bool.eq_iff_iff, ints_mem, decide_eq_true_eq]
        rw [ec, show (i : Int) + 1 = ((i + 1 : Nat) : Int) from rfl]
        by_cases hc : i ∈ p
        · rw [if_pos hc]
          exact Ev.ifp (decide_eq_true hc) (ih2 bs hbs)
        · rw [if_neg hc]
          refine Ev.ifn (by rw [decide_eq_false hc]; decide) ?_
          rw [show ints p ++ [(i : Int)] = ints (p ++ [i]) from by simp [ints]]
          have hp2 := hp.next hi hc
          refine Ev.bind (ih (p ++ [i]) bs D hp2 hbs (by omega)) (Ev.ifp rfl ?_)
          exact ih2 _ (canF_same hL hn h0 d (p ++ [i]) bs hp2 hbs).2)
    have h1 := hd bs hbs
    rw [Nat.sub_zero, ← List.range_eq_range'] at h1
    exact h1
theorem specCan_ev {m : Nat} {L : List Nat} (hm : m ≤ 8) (hL : ∀ b ∈ L, b < 2 ^ m) (hl : L.length ≤ 8796093022208) : ∀ (d : Nat) (p : List Nat) (st : List Int), Part m p d → Ev (fun k => spec_l18Canon.f k (m : Int) (ints L) (ints p) st) (canF (canS L) m d p st) := by
  have h256 := pow_le_256 hm
  intro d
  induction d with
  | zero =>
    intro p st hp
    have hlen := hp.len
    have h8 : ∀ x ∈ ints p, 0 ≤ x ∧ x < 8 := by
      intro x hx
      obtain ⟨y, hy, rfl⟩ := List.mem_map.1 hx
      have := hp.lt y hy
      omega
    have hT : (canT L p).length ≤ L.length := by
      have := sortO_len (ints (L.map (renSetN (ints p)))) []
      rw [ints_len, List.length_map] at this
      unfold canT
      simpa using this
    apply Ev.step
    · intro k
      rw [spec_l18Canon.f]
    · refine Ev.ifp (by rw [ints_len]; omega) (Ev.bind (specRenSets_ev (ints p) L (by rw [ints_len]; omega) hl h8 (fun b hb => by have := hL b hb; omega)) ?_)
      simp only [canF]
      unfold canS
      by_cases h1 : st.length = 0
      · rw [if_pos h1]
        exact Ev.ifp (by omega) (Ev.now _)
      · rw [if_neg h1]
        refine Ev.ifn (by omega) (Ev.bind (specBefore_ev (canT L p) st (by omega)) ?_)
        by_cases h2 : befB (canT L p) st = true
        · rw [show (if befB (canT L p) st = true then canT L p else st) = canT L p from if_pos h2]
          exact Ev.ifp h2 (Ev.now _)
        · rw [show (if befB (canT L p) st = true then canT L p else st) = st from if_neg h2]
          exact Ev.ifn h2 (Ev.now _)
  | succ d ih =>
    intro p st hp
    have hlen := hp.len
    simp only [canF]
    apply Ev.step
    · intro k
      rw [spec_l18Canon.f]
    · refine Ev.ifn (by rw [ints_len]; omega) ?_
      have hd := down (P := fun i => ∀ st : List Int, Ev (fun k => spec_l18Canon.l0 k (ints p) st (i : Int) (m : Int) (ints L)) ((List.range' i (m - i)).foldl (fun st e => if e ∈ p then st else canF (canS L) m d (p ++ [e]) st) st)) m
        (by
          intro st
          rw [Nat.sub_self, List.range'_zero, List.foldl_nil]
          apply Ev.step
          · intro k
            rw [spec_l18Canon.l0, if_neg (by omega)]
          · exact Ev.now _)
        (by
          intro i hi ih2 st
          rw [range'_cons' hi, List.foldl_cons]
          apply Ev.step
          · intro k
            rw [spec_l18Canon.l0, if_pos (by omega), w_succ hi (by omega)]
          · refine Ev.bind (specHasSet_ev (ints p) (i : Int) (by rw [ints_len]; omega)) ?_
            have ec : (ints p).contains (i : Int) = decide (i ∈ p) := by rw [Bool.eq_iff_iff, ints_mem, decide_eq_true_eq]
            rw [ec]
            by_cases hc : i ∈ p
            · rw [if_pos hc]
              exact Ev.ifp (decide_eq_true hc) (ih2 st)
            · rw [if_neg hc]
              refine Ev.ifn (by rw [decide_eq_false hc]; decide) (Ev.cbind rfl (Ev.ifp (by rw [ints_len]; simp; omega) (Ev.cbind rfl (Ev.cbind rfl (Ev.ifp (by rw [List.nil_append, ints_len]; simp; omega) ?_)))))
              rw [List.nil_append, show ints p ++ [(i : Int)] = ints (p ++ [i]) from by simp [ints]]
              exact Ev.bind (ih (p ++ [i]) st (hp.next hi hc)) (ih2 _))
      have h1 := hd st
      rw [Nat.sub_zero, ← List.range_eq_range'] at h1
      exact h1
theorem foldl_skip {σ : Type} {p : List Nat} {F : σ → Nat → σ} {j : Nat} (hp : ∀ e, e < j → e ∈ p) : ∀ (es : List Nat) (st : σ), (∀ e ∈ es, e < j) → es.foldl (fun st e => if e ∈ p then st else F st e) st = st := by
  intro es
  induction es with
  | nil => intro st _; rfl
  | cons e es ih =>
    intro st h
    rw [List.foldl_cons, if_pos (hp e (h e (List.mem_cons_self ..)))]
    exact ih st (fun x hx => h x (List.mem_cons_of_mem _ hx))
theorem foldl_sameC {m d : Nat} {L : List Nat} (hL : ∀ b ∈ L, b < 2 ^ m) (hn : L.Nodup) (h0 : L ≠ []) {p : List Nat} (hp : Part m p (d + 1)) : ∀ (es : List Nat) (st : List Int), (∀ e ∈ es, e < m) → st.length = L.length →
    es.foldl (fun st e => if e ∈ p then st else canF (canS L) m d (p ++ [e]) st) st = es.foldl (fun st e => if e ∈ p then st else canF (canI L) m d (p ++ [e]) st) st := by
  intro es
  induction es with
  | nil => intro st _ _; rfl
  | cons e es ihe =>
    intro st hes hst
    rw [List.foldl_cons, List.foldl_cons]
    by_cases hc : e ∈ p
    · rw [if_pos hc, if_pos hc]
      exact ihe st (fun x hx => hes x (List.mem_cons_of_mem _ hx)) hst
    · rw [if_neg hc, if_neg hc]
      obtain ⟨h1, h2⟩ := canF_same hL hn h0 d (p ++ [e]) st (hp.next (hes e (List.mem_cons_self ..)) hc) hst
      rw [h1]
      exact ihe _ (fun x hx => hes x (List.mem_cons_of_mem _ hx)) h2
theorem part_range {m j d : Nat} (h : j + d = m) : Part m (List.range j) d := ⟨List.nodup_range, fun e he => by have := List.mem_range.1 he; omega, by rw [List.length_range]; exact h⟩
theorem can_start {m : Nat} {L : List Nat} (hL : ∀ b ∈ L, b < 2 ^ m) (hn : L.Nodup) (h0 : L ≠ []) (hid : canT L (List.range m) = ints L) : ∀ (d j : Nat), j + d = m → canF (canS L) m d (List.range j) [] = canF (canI L) m d (List.range j) (ints L) ∧ (canF (canI L) m d (List.range j) (ints L)).length = L.length := by
  intro d
  induction d with
  | zero =>
    intro j hj
    obtain rfl : j = m := by omega
    simp only [canF]
    unfold canS canI
    rw [hid, lexB_self]
    exact ⟨rfl, by simp [ints_len]⟩
  | succ d ih =>
    intro j hj
    have hp := part_range hj
    obtain ⟨h1, h2⟩ := ih (j + 1) (by omega)
    refine ⟨?_, (canF_same hL hn h0 (d + 1) (List.range j) (ints L) hp (ints_len L)).2⟩
    simp only [canF]
    have e : List.range m = List.range j ++ (j :: List.range' (j + 1) (m - (j + 1))) := by
      rw [← range'_cons' (show j < m by omega), List.range_eq_range', List.range_eq_range', show List.range' j (m - j) = List.range' (0 + j) (m - j) from by rw [Nat.zero_add]]
      rw [List.range'_append_1]
      congr 1; omega
    have hj1 : ¬ j ∈ List.range j := by rw [List.mem_range]; omega
    rw [e, List.foldl_append, List.foldl_append, List.foldl_cons, List.foldl_cons, foldl_skip (j := j) (fun e he => List.mem_range.2 he) (List.range j) _ (fun e he => List.mem_range.1 he), foldl_skip (j := j) (fun e he => List.mem_range.2 he) (List.range j) _ (fun e he => List.mem_range.1 he), if_neg hj1, if_neg hj1, ← List.range_succ, h1]
    exact foldl_sameC hL hn h0 hp _ _ (fun e he => by have := List.mem_range'_1.1 he; omega) h2
theorem ren_id {m s : Nat} (hs : s < 2 ^ m) : renSetN (ints (List.range m)) s = s := by
  apply Nat.eq_of_testBit_eq
  intro j
  rw [Bool.eq_iff_iff, renSetN_bit]
  constructor
  · rintro ⟨e, h1, h2, h3⟩
    rw [ints_len, List.length_range] at h1
    rw [rd_ints (by rw [List.length_range]; exact h1), List.getElem_range, Int.toNat_natCast] at h3
    rw [← h3]; exact h2
  · intro h
    have hj : j < m := by
      refine Classical.byContradiction fun hc => ?_
      rw [Nat.testBit_lt_two_pow (Nat.lt_of_lt_of_le hs (Nat.pow_le_pow_right (by decide) (by omega)))] at h
      cases h
    exact ⟨j, by rw [ints_len, List.length_range]; exact hj, h, by rw [rd_ints (by rw [List.length_range]; exact hj), List.getElem_range, Int.toNat_natCast]⟩
theorem canT_id {m : Nat} {L : List Nat} (hL : ∀ b ∈ L, b < 2 ^ m) (hp : L.Pairwise (· < ·)) : canT L (List.range m) = ints L := by
  unfold canT
  have e : L.map (renSetN (ints (List.range m))) = L := by
    have : ∀ l : List Nat, (∀ b ∈ l, b < 2 ^ m) → l.map (renSetN (ints (List.range m))) = l := by
      intro l
      induction l with
      | nil => intro _; rfl
      | cons b l ih =>
        intro h
        rw [List.map_cons, ren_id (h b (List.mem_cons_self ..)), ih (fun x hx => h x (List.mem_cons_of_mem _ hx))]
    exact this L hL
  rw [e]
  exact sortO_intsB hp (fun a => Iff.rfl)
def canonB (n : Int) (l : List Int) : Int × List Int × Bool := if matB n l = true ∧ n ≤ 6 then (n, canF (canI (l.map Int.toNat)) n.toNat n.toNat [] l, true) else (0, [], false)
theorem canon_facts {n : Int} {l : List Int} (h : matB n l = true) : ∃ (m : Nat) (L : List Nat), n = m ∧ l = ints L ∧ m ≤ 8 ∧ (∀ b ∈ L, b < 2 ^ m) ∧ L.Nodup ∧ L ≠ [] ∧ L.length ≤ 256 ∧ canF (canS L) m m [] [] = canF (canI L) m m [] (ints L) ∧ (canF (canI L) m m [] (ints L)).length = L.length := by
  obtain ⟨m, L, rfl, hm, rfl, hL, _, hp, hne⟩ := matB_nat h
  have hn : L.Nodup := hp.imp (fun hlt he => by omega)
  have hlen : L.length ≤ 256 := by
    have h1 := List.Nodup.length_le_of_subset hn (l₂ := List.range (2 ^ m)) (fun b hb => List.mem_range.2 (hL b hb))
    rw [List.length_range] at h1
    exact Nat.le_trans h1 (pow_le_256 hm)
  obtain ⟨h1, h2⟩ := can_start hL hn hne (canT_id hL hp) m 0 (by omega)
  exact ⟨m, L, rfl, rfl, hm, hL, hn, hne, hlen, h1, h2⟩
theorem canonB_len (n : Int) (l : List Int) : (canonB n l).2.1.length ≤ l.length := by
  unfold canonB
  by_cases h : matB n l = true ∧ n ≤ 6
  · rw [if_pos h]
    obtain ⟨m, L, rfl, rfl, _, _, _, _, _, _, h2⟩ := canon_facts h.1
    rw [show (ints L).map Int.toNat = L from toNat_map L, Int.toNat_natCast]
    simp only [h2, ints_len]; exact Nat.le_refl _
  · rw [if_neg h]; exact Nat.zero_le _
theorem specCanon_ev (n : Int) (l : List Int) (hl : l.length ≤ 17592186044416) : Ev (fun k => spec_CanonOf.f k n l) (canonB n l) := by
  unfold spec_CanonOf.f canonB
  refine Ev.bind (specMat_ev n l hl) ?_
  by_cases h : matB n l = true
  rotate_left
  · rw [if_neg (fun h2 => h h2.1)]
    exact Ev.ifn h (Ev.now _)
  refine Ev.ifp h ?_
  by_cases h6 : n > 6
  · rw [if_neg (fun h2 => by omega)]
    exact Ev.ifp h6 (Ev.now _)
  rw [if_pos ⟨h, by omega⟩]
  obtain ⟨m, L, rfl, rfl, hm, hL, hn, hne, hlen, h1, h2⟩ := canon_facts h
  rw [show (ints L).map Int.toNat = L from toNat_map L, Int.toNat_natCast]
  refine Ev.ifn h6 (Ev.cbind rfl (Ev.bind (specCan_ev hm hL (by omega) m [] [] ⟨List.nodup_nil, fun _ h => absurd h List.not_mem_nil, by simp⟩) ?_))
  rw [h1]
  refine Ev.ifp (by rw [h2]; simp; omega) ?_
  rw [List.nil_append]
  exact Ev.now _
theorem implCanon_ev (n : Int) (l : List Int) (hl : l.length ≤ 17592186044416) : Ev (fun k => impl_CanonOf.f k n l) (canonB n l) := by
  unfold impl_CanonOf.f canonB
  refine Ev.bind (implMat_ev n l hl) ?_
  by_cases h : matB n l = true
  rotate_left
  · rw [if_neg (fun h2 => h h2.1)]
    exact Ev.ifn h (Ev.now _)
  refine Ev.ifp h ?_
  by_cases h6 : n > 6
  · rw [if_neg (fun h2 => by omega)]
    exact Ev.ifp h6 (Ev.now _)
  rw [if_pos ⟨h, by omega⟩]
  obtain ⟨m, L, rfl, rfl, hm, hL, hn, hne, hlen, h1, h2⟩ := canon_facts h
  rw [show (ints L).map Int.toNat = L from toNat_map L, Int.toNat_natCast]
  have hc : impl_copyMatroid.f (m : Int) (ints L) = some ((m : Int), ints L) := by
    unfold impl_copyMatroid.f
    rw [Option.bind_some, if_pos (by rw [ints_len]; simp; omega), List.nil_append]
  refine Ev.ifn h6 (Ev.ifp (by omega) (Ev.cbind hc (Ev.bind (implCan_ev hm hL hn hne (by omega) m [] (ints L) 16 ⟨List.nodup_nil, fun _ h => absurd h List.not_mem_nil, by simp⟩ (ints_len L) (by omega)) (Ev.now _))))
end Go.Proofs.Ytagncnjllpebjaa.Q
namespace Go.Proofs.Ytagncnjllpebjaa.Pure
open Go Go.RowKit Go.Proofs.Ytagncnjllpebjaa.A Go.Proofs.YtagncnjllpebjaaW.PrintWords Go.Proofs.YtagncnjllpebjaaW.PrintLast Go.Proofs.YtagncnjllpebjaaW.PrintMore Go.Proofs.Ytagncnjllpebjaa.Z Go.Proofs.Ytagncnjllpebjaa.Q
set_option linter.unusedVariables false
set_option linter.unusedSimpArgs false
theorem FnExactCanonOf : laws_FnExactCanonOf.Pure := by
  intro n l hn hm hw
  unfold laws_FnExactCanonOf.f
  refine Ev.rounds ?_
  refine Ev.cbind (szMat_eq n l 1048576 (by omega) (by omega) hm) ?_
  by_cases h1 : (l.length : Int) > 1048576
  · rw [if_pos h1]
    exact Ev.ifp (by decide) (Ev.now _)
  rw [if_neg h1]
  refine Ev.ifn (by omega) ?_
  have hl : l.length ≤ 17592186044416 := by omega
  have hg : (canonB n l).2.1.length ≤ 17592186044416 := Nat.le_trans (canonB_len n l) (by omega)
  refine Ev.bind (toMat_ev n l hl) (Ev.bind (specCanon_ev n l (by omega)) (Ev.bind (toMat_ev n l hl) (Ev.bind (implCanon_ev n l (by omega)) (Ev.bind (eqMat_ev _ _ hg) (Ev.ifp rfl ?_)))))
  apply Ev.step
  · intro k
    rw [laws_FnExactCanonOf.j0]
  refine Ev.ifn (by simp) (Ev.bind (toMat_ev n l hl) (Ev.bind (eqMat_ev n l hl) (Ev.ifp rfl (Ev.bind (markMat_ev n l hl) (Ev.ifn (by simp only []; omega) (Ev.bind (eqMat_ev _ _ hg) (Ev.ifp rfl ?_)))))))
  apply Ev.step
  · intro k
    rw [laws_FnExactCanonOf.j1]
  refine Ev.ifn (by simp) ?_
  refine Ev.bind (markMat_ev _ _ hg) (Ev.bind (heldMat_ev _ _ hg) ?_)
  refine Ev.ifn (by omega) (Ev.ifp rfl ?_)
  refine Ev.bind (toMat_ev n l hl) (Ev.bind (implCanon_ev n l (by omega)) (Ev.bind (eqMat_ev _ _ hg) (Ev.ifp rfl ?_)))
  apply Ev.step
  · intro k
    rw [laws_FnExactCanonOf.j2]
  refine Ev.ifn (by simp) (Ev.bind (heldMat_ev _ _ hg) ?_)
  exact Ev.ifn (by omega) (Ev.ifp rfl (Ev.now _))
end Go.Proofs.Ytagncnjllpebjaa.Pure
