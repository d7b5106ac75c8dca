/- The pure side of the law FnExactBestWeights: what the Lean functions of the print compute, and that the law holds of them. Conditions: those in each lemma. -/
import Derived.Test.YtagncnjllpebjaaMFnExactBestWeights1
import Derived.Test.YtagncnjllpebjaaMFnExactBestWeights2
import Derived.Test.YtagncnjllpebjaaMFnExactBestWeights3
import Derived.Test.YtagncnjllpebjaaMFnExactBestWeights4
import Derived.Test.YtagncnjllpebjaaMFnExactBestWeights5
import Derived.Test.YtagncnjllpebjaaMFnExactBestWeightsq0
namespace Go.Proofs.Ytagncnjllpebjaa.A
open Go.RowKit
def laws_FnExactBestWeights.Pure : Prop := ∀ (a0_0 : Int) (l0_1 : List Int) (a1_0 : Int) (l1_1 : List Int) (l2 : List Int), (Lit.int .i64 a0_0).wf = true → l0_1.length ≤ maxLen → (∀ x ∈ l0_1, (Lit.int .i64 x).wf = true) → (Lit.int .i64 a1_0).wf = true → l1_1.length ≤ maxLen → (∀ x ∈ l1_1, (Lit.int .i64 x).wf = true) → l2.length ≤ maxLen → (∀ x ∈ l2, (Lit.int .i64 x).wf = true) → ∃ k, laws_FnExactBestWeights.f k a0_0 l0_1 a1_0 l1_1 l2 = some true
end Go.Proofs.Ytagncnjllpebjaa.A
namespace Go.Proofs.Ytagncnjllpebjaa.Q
open Go Go.RowKit Go.Proofs.Ytagncnjllpebjaa.A Go.Proofs.YtagncnjllpebjaaW.PrintWords Go.Proofs.YtagncnjllpebjaaW.PrintLast Go.Proofs.YtagncnjllpebjaaW.PrintMore Go.Proofs.Ytagncnjllpebjaa.Z
set_option linter.unusedVariables false
set_option linter.unusedSimpArgs false
theorem toInt_l0 (l : List Int) (hl : l.length ≤ 17592186044416) : ∀ (rest pre : List Int), l = pre ++ rest → Ev (fun k => laws_toIntS.l0 k l (pre ++ List.replicate rest.length 0) (pre.length : Int)) l := by
  intro rest
  induction rest with
  | nil =>
    intro pre h
    apply Ev.step
    · intro k
      simp only [laws_toIntS.l0]
      rw [if_neg (by rw [h]; simp)]
    · subst h; simpa using Ev.now _
  | cons x rest ih =>
    intro pre h
    have hlen : (pre.length : Int) < (l.length : Int) := by rw [h]; simp; omega
    apply Ev.step
    · intro k
      simp only [laws_toIntS.l0]
      rw [if_pos hlen, if_pos (by omega), if_pos (by simp; omega)]
    · have := ih (pre ++ [x]) (by rw [h]; simp)
      have e : wrap64 ((pre.length : Int) + 1) = ((pre ++ [x]).length : Int) := by
        rw [wrap64_of (by omega) (by omega)]; simp
      rw [e]
      have e2 : (pre ++ List.replicate (x :: rest).length 0).set (pre.length : Int).toNat (rd l (pre.length : Int)) = (pre ++ [x]) ++ List.replicate rest.length 0 := by
        have : rd l (pre.length : Int) = x := by rw [h]; exact rd_mid _ _ _
        rw [this]
        simp [List.replicate_succ]
      rw [e2]
      exact this
theorem toInt_ev (l : List Int) (hl : l.length ≤ 17592186044416) : Ev (fun k => laws_toIntS.f k l) l := by
  unfold laws_toIntS.f
  refine Ev.ifp (by omega) (Ev.ifp (by simp; omega) ?_)
  simpa using toInt_l0 l hl l [] rfl
theorem eqInt_l0 (l : List Int) (hl : l.length ≤ 17592186044416) (l' : List Int) (hll : l'.length = l.length) : ∀ (rest rest' pre : List Int), l = pre ++ rest → l' = pre ++ rest' → Ev (fun k => laws_eqIntS.l0 k l l' (pre.length : Int)) (decide (l = l')) := by
  intro rest
  induction rest with
  | nil =>
    intro rest' pre h h'
    have : rest' = [] := by
      apply List.eq_nil_of_length_eq_zero
      have h1 := congrArg List.length h
      have h2 := congrArg List.length h'
      rw [List.length_append] at h1 h2
      simp only [List.length_nil] at h1
      omega
    subst this
    apply Ev.step
    · intro k
      simp only [laws_eqIntS.l0]
      rw [if_neg (by rw [h]; simp)]
    · have : l = l' := by rw [h, h']
      simpa [this] using Ev.now _
  | cons x rest ih =>
    intro rest' pre h h'
    have hlen : (pre.length : Int) < (l.length : Int) := by rw [h]; simp; omega
    cases rest' with
    | nil => exact absurd hll (by rw [h, h']; simp)
    | cons y rest' =>
    have e1 : rd l (pre.length : Int) = x := by rw [h]; exact rd_mid _ _ _
    have e2 : rd l' (pre.length : Int) = y := by rw [h']; exact rd_mid _ _ _
    by_cases hxy : x = y
    · subst hxy
      apply Ev.step
      · intro k
        simp only [laws_eqIntS.l0]
        rw [if_pos hlen, if_pos (by omega), if_pos (by omega), if_pos (by rw [e1, e2])]
      · have := ih rest' (pre ++ [x]) (by rw [h]; simp) (by rw [h']; simp)
        have e : wrap64 ((pre.length : Int) + 1) = ((pre ++ [x]).length : Int) := by
          rw [wrap64_of (by omega) (by omega)]; simp
        rw [e]
        exact this
    · apply Ev.step
      · intro k
        simp only [laws_eqIntS.l0]
        rw [if_pos hlen, if_pos (by omega), if_pos (by omega), if_neg (by rw [e1, e2]; exact hxy)]
      · have : l ≠ l' := by rw [h, h']; simp [hxy]
        simpa [this] using Ev.now _
theorem eqInt_ev (l l' : List Int) (hl : l.length ≤ 17592186044416) : Ev (fun k => laws_eqIntS.f k l l') (decide (l = l')) := by
  unfold laws_eqIntS.f
  by_cases h : (l.length : Int) = (l'.length : Int)
  · refine Ev.ifp h ?_
    exact eqInt_l0 l hl l' (by omega) l l' [] rfl rfl
  · refine Ev.ifn h ?_
    have : l ≠ l' := by rintro rfl; exact h rfl
    simpa [this] using Ev.now _
theorem eqInt_self (l : List Int) (hl : l.length ≤ 17592186044416) : Ev (fun k => laws_eqIntS.f k l l) true := by simpa using eqInt_ev l l hl
end Go.Proofs.Ytagncnjllpebjaa.Q
namespace Go.Proofs.Ytagncnjllpebjaa.Q
open Go Go.RowKit Go.Proofs.Ytagncnjllpebjaa.A Go.Proofs.YtagncnjllpebjaaW.PrintWords Go.Proofs.YtagncnjllpebjaaW.PrintLast Go.Proofs.YtagncnjllpebjaaW.PrintMore Go.Proofs.Ytagncnjllpebjaa.Z
set_option linter.unusedVariables false
set_option linter.unusedSimpArgs false
theorem szMat_eq (n : Int) (l : List Int) (left : Int) (h0 : 0 ≤ left) (h1 : left ≤ 1048576) (hl : l.length ≤ maxLen) : laws_szMatroid.f n l left = some (if (l.length : Int) > left then -1 else left - (l.length : Int)) := by
  unfold maxLen at hl
  unfold laws_szMatroid.f laws_szIntS.f
  rw [wrap64_of (by omega) (by omega)]
  by_cases h : (l.length : Int) > left
  · rw [if_pos h, if_pos (by omega), Option.bind_some, if_pos (by decide)]
  · rw [if_neg h, if_neg (by omega), Option.bind_some, if_neg (by omega)]
theorem toMat_ev (n : Int) (l : List Int) (hl : l.length ≤ 17592186044416) : Ev (fun k => laws_toMatroid.f k n l) (n, l) := by
  unfold laws_toMatroid.f
  exact Ev.bind (toInt_ev l hl) (Ev.now _)
theorem eqMat_ev (n : Int) (l : List Int) (hl : l.length ≤ 17592186044416) : Ev (fun k => laws_eqMatroid.f k n l n l) true := by
  unfold laws_eqMatroid.f
  refine Ev.ifp rfl (Ev.bind (eqInt_self l hl) (Ev.ifp rfl (Ev.now _)))
end Go.Proofs.Ytagncnjllpebjaa.Q
namespace Go.Proofs.Ytagncnjllpebjaa.Q
open Go Go.RowKit Go.Proofs.Ytagncnjllpebjaa.A Go.Proofs.YtagncnjllpebjaaW.PrintWords Go.Proofs.YtagncnjllpebjaaW.PrintLast Go.Proofs.YtagncnjllpebjaaW.PrintMore Go.Proofs.Ytagncnjllpebjaa.Z
set_option linter.unusedVariables false
set_option linter.unusedSimpArgs false
/-- n numbers that go up by one from a. -/
def marks (a : Int) (n : Nat) : List Int := (List.range n).map (fun i : Nat => a + (i : Int))
theorem marks_len (a : Int) (n : Nat) : (marks a n).length = n := by simp [marks]
theorem marks_succ (a : Int) (n : Nat) : marks a (n + 1) = marks a n ++ [a + (n : Int)] := by simp [marks, List.range_succ]
theorem marks_get (a : Int) (n i : Nat) (h : i < n) : rd (marks a n) (i : Int) = a + (i : Int) := by
  rw [rd_getElem _ i (by rw [marks_len]; exact h)]
  simp [marks]
theorem mark_ev (l : List Int) (a : Int) (h0 : 0 ≤ a) (h1 : a ≤ 1000000000000000) (hl : l.length ≤ 17592186044416) : Ev (fun k => laws_markIntS.f k l a) (a + (l.length : Int), marks a l.length) := by
  have h := down (P := fun i => Ev (fun k => laws_markIntS.l0 k (marks a i ++ l.drop i) (a + (i : Int)) (i : Int)) (a + (l.length : Int), marks a l.length)) l.length
    (by
      apply Ev.step
      · intro k
        simp only [laws_markIntS.l0]
        rw [if_neg (by rw [List.length_append, marks_len, List.length_drop]; omega)]
      · rw [drop_end, List.append_nil]
        exact Ev.now _)
    (by
      intro i hi ih
      apply Ev.step
      · intro k
        simp only [laws_markIntS.l0]
        rw [if_pos (by rw [List.length_append, marks_len, List.length_drop]; omega), if_pos (by omega), w_succ hi hl, wrap64_of (by omega) (by omega)]
      · have e : (marks a i ++ l.drop i).set (i : Int).toNat (a + (i : Int)) = marks a (i + 1) ++ l.drop (i + 1) := by
          rw [drop_cons l i hi, marks_succ, Int.toNat_natCast, List.set_append_right _ _ (by rw [marks_len]; omega), marks_len, Nat.sub_self, List.set_cons_zero, List.append_assoc]
          rfl
        rw [e, show a + (i : Int) + 1 = a + ((i + 1 : Nat) : Int) from by omega]
        exact ih)
  have e : marks a 0 ++ l.drop 0 = l := by simp [marks]
  rw [e, show a + ((0 : Nat) : Int) = a from by omega] at h
  exact h
theorem held_ev (n : Nat) (a : Int) (h0 : 0 ≤ a) (h1 : a ≤ 1000000000000000) (hl : n ≤ 17592186044416) : Ev (fun k => laws_heldIntS.f k (marks a n) a) (a + (n : Int)) := by
  have h := down (P := fun i => Ev (fun k => laws_heldIntS.l0 k (marks a n) (a + (i : Int)) (i : Int)) (a + (n : Int))) n
    (by
      apply Ev.step
      · intro k
        simp only [laws_heldIntS.l0]
        rw [if_neg (by rw [marks_len]; omega)]
      · exact Ev.now _)
    (by
      intro i hi ih
      apply Ev.step
      · intro k
        simp only [laws_heldIntS.l0]
        rw [if_pos (by rw [marks_len]; omega), if_pos (by omega), if_pos (marks_get a n i hi), w_succ hi hl, wrap64_of (by omega) (by omega)]
      · rw [show a + (i : Int) + 1 = a + ((i + 1 : Nat) : Int) from by omega]
        exact ih)
  rw [show a + ((0 : Nat) : Int) = a from by omega] at h
  exact h
end Go.Proofs.Ytagncnjllpebjaa.Q
namespace Go.Proofs.Ytagncnjllpebjaa.Q
open Go Go.RowKit Go.Proofs.Ytagncnjllpebjaa.A Go.Proofs.YtagncnjllpebjaaW.PrintWords Go.Proofs.YtagncnjllpebjaaW.PrintLast Go.Proofs.YtagncnjllpebjaaW.PrintMore Go.Proofs.Ytagncnjllpebjaa.Z
set_option linter.unusedVariables false
set_option linter.unusedSimpArgs false
theorem l1In_eq (a b c : Int) : spec_l1In.f a b c = some (decide (b ≤ a) && decide (a ≤ c)) := by
  unfold spec_l1In.f
  by_cases h : a ≥ b
  · rw [if_pos h]; simp [h]
  · rw [if_neg h]; simp only [ge_iff_le] at h; simp [h]
theorem isSize_eq (a : Int) : impl_isSize.f a = some (decide (0 ≤ a) && decide (a ≤ 8)) := by
  unfold impl_isSize.f
  by_cases h : a ≥ 0
  · rw [if_pos h]; simp [h]
  · rw [if_neg h]; simp only [ge_iff_le] at h; simp [h]
theorem specIsSet_eq (n s : Int) : spec_IsSet.f n s = some (isSetB n s) := by
  unfold spec_IsSet.f
  rw [l1In_eq, Option.bind_some]
  unfold isSetB
  by_cases h : (decide (0 ≤ n) && decide (n ≤ 8)) = true
  · rw [if_pos h, if_pos (u64_nonneg _), l1In_eq, Option.bind_some, h, Bool.true_and]
    simp only [Bool.and_eq_true, decide_eq_true_eq] at h
    obtain ⟨m, rfl⟩ := Int.eq_ofNat_of_zero_le h.1
    have h8 : m ≤ 8 := by omega
    rw [u64_of (by omega) (by omega), shl_one (by omega)]
    have hp := pow_le_256 h8
    rw [Int.toNat_natCast]
    have e : (2 : Int) ^ m = ((2 ^ m : Nat) : Int) := by simp
    rw [e]
    generalize 2 ^ m = q at hp
    rw [wrap64_of (by omega) (by omega)]
    congr 2
    rw [Bool.eq_iff_iff]
    simp only [decide_eq_true_eq]
    omega
  · rw [if_neg h, Bool.eq_false_iff.2 h, Bool.false_and]
theorem implIsSet_eq (n s : Int) : impl_IsSet.f n s = some (isSetB n s) := by
  unfold impl_IsSet.f
  rw [isSize_eq, Option.bind_some]
  unfold isSetB
  by_cases h : (decide (0 ≤ n) && decide (n ≤ 8)) = true
  · rw [if_pos h, h, Bool.true_and]
    simp only [Bool.and_eq_true, decide_eq_true_eq] at h
    by_cases hs : s ≥ 0
    · rw [if_pos hs, if_pos h.1]
      obtain ⟨m, rfl⟩ := Int.eq_ofNat_of_zero_le h.1
      rw [shl_one (by omega), Int.toNat_natCast]
      have e : ((2 ^ m : Nat) : Int) = 2 ^ m := by simp
      rw [e]
      have : decide (0 ≤ s) = true := by simpa using hs
      rw [this, Bool.true_and]
    · rw [if_neg hs]
      have : decide (0 ≤ s) = false := by simpa using hs
      rw [this, Bool.false_and]
  · rw [if_neg h, Bool.eq_false_iff.2 h, Bool.false_and]
theorem isSet8 (s : Int) : isSetB 8 s = isAnyB s := by
  unfold isSetB isAnyB
  rw [Bool.eq_iff_iff]
  simp
theorem isAny_eq (s : Int) : impl_isAny.f s = some (isAnyB s) := by
  unfold impl_isAny.f isAnyB
  by_cases h : s ≥ 0
  · rw [if_pos h]; simp [h]
  · rw [if_neg h]; simp only [ge_iff_le] at h; simp [h]
theorem isAnyB_lt {s : Int} (h : isAnyB s = true) : ∃ t : Nat, s = t ∧ t < 256 := by
  simp only [isAnyB, Bool.and_eq_true, decide_eq_true_eq] at h
  obtain ⟨t, rfl⟩ := Int.eq_ofNat_of_zero_le h.1
  exact ⟨t, rfl, by omega⟩
theorem implHas_eq (s e : Int) : impl_HasElement.f s e = some (hasB s e) := by
  unfold impl_HasElement.f hasB
  rw [isAny_eq, Option.bind_some]
  by_cases h : isAnyB s = true
  · rw [if_pos h, h, Bool.true_and]
    obtain ⟨t, rfl, ht⟩ := isAnyB_lt h
    by_cases h0 : e ≥ 0
    · rw [if_pos h0]
      obtain ⟨m, rfl⟩ := Int.eq_ofNat_of_zero_le h0
      by_cases h8 : (m : Int) < 8
      · rw [if_pos h8, if_pos h0, bit_nat (lt256_63 ht)]
        simp [h8]
      · rw [if_neg h8]; simp [h8]
    · rw [if_neg h0]; simp only [ge_iff_le] at h0; simp [h0]
  · rw [if_neg h, Bool.eq_false_iff.2 h]; simp
theorem l2Has_eq {s e : Nat} (hs : s < 2 ^ 63) (he : e < 2 ^ 63) : spec_l2Has.f (s : Int) (e : Int) = some (s.testBit e) := by
  unfold spec_l2Has.f
  rw [if_pos (u64_nonneg _), u64_of (by omega) (by omega), bit_nat hs]
theorem specHas_eq (s e : Int) : spec_HasElement.f s e = some (hasB s e) := by
  unfold spec_HasElement.f hasB
  rw [specIsSet_eq, Option.bind_some, isSet8]
  by_cases h : isAnyB s = true
  · rw [if_pos h, h, Bool.true_and, l1In_eq, Option.bind_some]
    obtain ⟨t, rfl, ht⟩ := isAnyB_lt h
    by_cases h0 : (decide (0 ≤ e) && decide (e ≤ 7)) = true
    · rw [if_pos h0]
      simp only [Bool.and_eq_true, decide_eq_true_eq] at h0
      obtain ⟨m, rfl⟩ := Int.eq_ofNat_of_zero_le h0.1
      rw [l2Has_eq (lt256_63 ht) (by omega), Option.bind_some]
      have : decide ((m : Int) < 8) = true := by simp; omega
      simp [this]
    · rw [if_neg h0]
      have : (decide (0 ≤ e) && decide (e < 8)) = false := by
        rw [Bool.eq_false_iff]
        intro hc
        apply h0
        simp only [Bool.and_eq_true, decide_eq_true_eq] at *
        omega
      rw [this, Bool.false_and]
  · rw [if_neg h, Bool.eq_false_iff.2 h]; simp
end Go.Proofs.Ytagncnjllpebjaa.Q
namespace Go.Proofs.Ytagncnjllpebjaa.Q
open Go Go.RowKit Go.Proofs.Ytagncnjllpebjaa.A Go.Proofs.YtagncnjllpebjaaW.PrintWords Go.Proofs.YtagncnjllpebjaaW.PrintLast Go.Proofs.YtagncnjllpebjaaW.PrintMore Go.Proofs.Ytagncnjllpebjaa.Z
set_option linter.unusedVariables false
set_option linter.unusedSimpArgs false
def famG (n : Int) : Option Int → List Int → Bool
  | _, [] => decide (0 ≤ n) && decide (n ≤ 8)
  | p, x :: xs => isSetB n x && ((match p with | none => true | some q => decide (q < x)) && famG n (some x) xs)
/-- A family: sets of n elements, strictly ascending. -/
def famB (n : Int) (l : List Int) : Bool := famG n none l
def prevO (l : List Int) (i : Nat) : Option Int := if i = 0 then none else some (rd l ((i - 1 : Nat) : Int))
theorem prevO_succ (l : List Int) (i : Nat) (hi : i < l.length) : prevO l (i + 1) = some l[i] := by
  unfold prevO
  rw [if_neg (by omega), Nat.add_sub_cancel, rd_getElem l i hi]
theorem specFam_ev (n : Int) (l : List Int) (hl : l.length ≤ 17592186044416) : Ev (fun k => spec_IsFamily.f k n l) (famB n l) := by
  have h := down (P := fun i => Ev (fun k => spec_IsFamily.l0 k n l (i : Int)) (famG n (prevO l i) (l.drop i))) l.length
    (by
      apply Ev.step
      · intro k
        simp only [spec_IsFamily.l0, l1In_eq, Option.bind_some]
        rw [if_neg (by omega)]
      · rw [drop_end]; exact Ev.now _)
    (by
      intro i hi ih
      apply Ev.step
      · intro k
        simp only [spec_IsFamily.l0, specIsSet_eq, Option.bind_some]
        rw [if_pos (by omega), if_pos (by omega), rd_getElem l i hi, w_succ hi hl]
      · rw [drop_cons l i hi]
        rw [prevO_succ l i hi] at ih
        simp only [famG]
        by_cases hx : isSetB n l[i] = true
        · refine Ev.ifp hx ?_
          rw [hx, Bool.true_and]
          by_cases h0 : (i : Int) > 0
          · refine Ev.ifp h0 ?_
            rw [wrap64_of (by omega) (by omega), show (i : Int) - 1 = ((i - 1 : Nat) : Int) from by omega]
            refine Ev.ifp (by omega) (Ev.ifp (by omega) ?_)
            unfold prevO
            rw [if_neg (by omega)]
            by_cases hq : rd l ((i - 1 : Nat) : Int) ≥ l[i]
            · refine Ev.ifp hq ?_
              simp only []
              rw [show decide (rd l ((i - 1 : Nat) : Int) < l[i]) = false from by simpa using hq, Bool.false_and]
              exact Ev.now _
            · refine Ev.ifn hq ?_
              simp only []
              rw [show decide (rd l ((i - 1 : Nat) : Int) < l[i]) = true from by simpa using hq, Bool.true_and]
              exact ih
          · refine Ev.ifn h0 ?_
            unfold prevO
            rw [if_pos (by omega)]
            simp only [Bool.true_and]
            exact ih
        · refine Ev.ifn hx ?_
          rw [Bool.eq_false_iff.2 hx, Bool.false_and]; exact Ev.now _)
  exact h
theorem implFam_ev (n : Int) (l : List Int) (hl : l.length ≤ 17592186044416) : Ev (fun k => impl_IsFamily.f k n l) (famB n l) := by
  have h := down (P := fun i => Ev (fun k => impl_IsFamily.l0 k n l l (l.length : Int) (i : Int)) (famG n (prevO l i) (l.drop i))) l.length
    (by
      apply Ev.step
      · intro k
        simp only [impl_IsFamily.l0, isSize_eq, Option.bind_some]
        rw [if_neg (by omega)]
      · rw [drop_end]; exact Ev.now _)
    (by
      intro i hi ih
      apply Ev.step
      · intro k
        simp only [impl_IsFamily.l0, implIsSet_eq, Option.bind_some]
        rw [if_pos (by omega), if_pos (by omega), if_pos (by omega), rd_getElem l i hi, w_succ hi hl]
      · rw [drop_cons l i hi]
        rw [prevO_succ l i hi] at ih
        simp only [famG]
        by_cases hx : isSetB n l[i] = true
        · refine Ev.ifp hx ?_
          rw [hx, Bool.true_and]
          by_cases h0 : (i : Int) > 0
          · refine Ev.ifp h0 ?_
            rw [wrap64_of (by omega) (by omega), show (i : Int) - 1 = ((i - 1 : Nat) : Int) from by omega]
            refine Ev.ifp (by omega) (Ev.ifp (by omega) ?_)
            unfold prevO
            rw [if_neg (by omega)]
            by_cases hq : l[i] ≤ rd l ((i - 1 : Nat) : Int)
            · refine Ev.ifp hq ?_
              simp only []
              rw [show decide (rd l ((i - 1 : Nat) : Int) < l[i]) = false from by simpa using hq, Bool.false_and]
              exact Ev.now _
            · refine Ev.ifn hq ?_
              simp only []
              rw [show decide (rd l ((i - 1 : Nat) : Int) < l[i]) = true from by simpa using hq, Bool.true_and]
              exact ih
          · refine Ev.ifn h0 ?_
            unfold prevO
            rw [if_pos (by omega)]
            simp only [Bool.true_and]
            exact ih
        · refine Ev.ifn hx ?_
          rw [Bool.eq_false_iff.2 hx, Bool.false_and]; exact Ev.now _)
  exact h
theorem famG_facts (n : Int) : ∀ (l : List Int) (p : Option Int), famG n p l = true → (0 ≤ n ∧ n ≤ 8) ∧ (∀ x ∈ l, isSetB n x = true) ∧ l.Pairwise (· < ·) ∧ (∀ q, p = some q → ∀ x ∈ l, q < x) := by
  intro l
  induction l with
  | nil =>
    intro p h
    simp only [famG, Bool.and_eq_true, decide_eq_true_eq] at h
    exact ⟨h, fun x hx => by simp at hx, List.Pairwise.nil, fun q _ x hx => by simp at hx⟩
  | cons y l ih =>
    intro p h
    simp only [famG, Bool.and_eq_true] at h
    obtain ⟨h1, h2, h3⟩ := h
    obtain ⟨i1, i2, i3, i4⟩ := ih _ h3
    refine ⟨i1, fun x hx => ?_, List.pairwise_cons.2 ⟨fun x hx => i4 y rfl x hx, i3⟩, fun q hq x hx => ?_⟩
    · rcases List.mem_cons.1 hx with rfl | hx
      · exact h1
      · exact i2 x hx
    · subst hq
      simp only [decide_eq_true_eq] at h2
      rcases List.mem_cons.1 hx with rfl | hx
      · exact h2
      · exact Int.lt_trans h2 (i4 y rfl x hx)
/-- A family as numbers: its size, its sets. -/
theorem famB_nat {n : Int} {l : List Int} (h : famB n l = true) : ∃ (m : Nat) (L : List Nat), n = m ∧ m ≤ 8 ∧ l = L.map (fun x : Nat => (x : Int)) ∧ (∀ x ∈ L, x < 2 ^ m) ∧ L.Pairwise (· < ·) := by
  obtain ⟨h1, h2, h3, _⟩ := famG_facts n l none h
  obtain ⟨m, rfl⟩ := Int.eq_ofNat_of_zero_le h1.1
  have hnn : ∀ x ∈ l, 0 ≤ x := fun x hx => by
    obtain ⟨_, t, _, rfl, _⟩ := isSetB_lt (h2 x hx)
    omega
  have hl : l = (l.map Int.toNat).map (fun x : Nat => (x : Int)) := by
    rw [List.map_map]
    conv => lhs; rw [← List.map_id l]
    apply List.map_congr_left
    intro x hx
    have := hnn x hx
    simp only [id, Function.comp]
    omega
  refine ⟨m, l.map Int.toNat, rfl, by omega, hl, fun x hx => ?_, ?_⟩
  · obtain ⟨y, hy, rfl⟩ := List.mem_map.1 hx
    obtain ⟨m', t, hm, rfl, _, ht, _⟩ := isSetB_lt (h2 y hy)
    have : m = m' := by omega
    subst this
    rw [Int.toNat_natCast]; exact ht
  · rw [List.pairwise_map]
    exact h3.imp_of_mem (fun {a b} ha hb hab => by
      have := hnn a ha
      have := hnn b hb
      omega)
end Go.Proofs.Ytagncnjllpebjaa.Q
namespace Go.Proofs.Ytagncnjllpebjaa.Q
open Go Go.RowKit Go.Proofs.Ytagncnjllpebjaa.A Go.Proofs.YtagncnjllpebjaaW.PrintWords Go.Proofs.YtagncnjllpebjaaW.PrintLast Go.Proofs.YtagncnjllpebjaaW.PrintMore Go.Proofs.Ytagncnjllpebjaa.Z
set_option linter.unusedVariables false
set_option linter.unusedSimpArgs false
/-- The elements of a set, as whole numbers; none where it is no set. -/
def elsB (s : Int) : List Int := ((List.range 8).filter (fun e : Nat => hasB s (e : Int))).map (fun e : Nat => (e : Int))
theorem range'_cons {i n : Nat} (h : i < n) : List.range' i (n - i) = i :: List.range' (i + 1) (n - (i + 1)) := by
  rw [show n - i = (n - (i + 1)) + 1 from by omega, List.range'_succ]
theorem filter_cons_map {s : Int} {i : Nat} (l : List Nat) : ((i :: l).filter (fun e : Nat => hasB s (e : Int))).map (fun e : Nat => (e : Int)) = (if hasB s (i : Int) = true then [(i : Int)] else []) ++ (l.filter (fun e : Nat => hasB s (e : Int))).map (fun e : Nat => (e : Int)) := by
  rw [List.filter_cons]
  by_cases h : hasB s (i : Int) = true
  · rw [if_pos h, if_pos h]; rfl
  · rw [if_neg h, if_neg h]; rfl
theorem implElements_ev (s : Int) : Ev (fun k => impl_ElementsOf.f k s) (elsB s) := by
  have h := down (P := fun i => ∀ acc : List Int, acc.length ≤ i → Ev (fun k => impl_ElementsOf.l0 k s acc (i : Int)) (acc ++ ((List.range' i (8 - i)).filter (fun e : Nat => hasB s (e : Int))).map (fun e : Nat => (e : Int)))) 8
    (by
      intro acc ha
      apply Ev.step
      · intro k
        simp only [impl_ElementsOf.l0, implHas_eq, Option.bind_some]
        rw [if_neg (by omega)]
      · simpa using Ev.now _)
    (by
      intro i hi ih acc ha
      apply Ev.step
      · intro k
        simp only [impl_ElementsOf.l0, implHas_eq, Option.bind_some]
        rw [if_pos (by omega), w_succ hi (by omega)]
      · rw [range'_cons hi, filter_cons_map]
        by_cases hx : hasB s (i : Int) = true
        · refine Ev.ifp hx (Ev.ifp (by omega) ?_)
          rw [if_pos hx, ← List.append_assoc]
          exact ih (acc ++ [(i : Int)]) (by simp; omega)
        · refine Ev.ifn hx ?_
          rw [if_neg hx]
          exact ih acc (by omega))
  have h0 := h [] (Nat.le_refl 0)
  rw [show ((0 : Nat) : Int) = 0 from rfl] at h0
  have e : elsB s = [] ++ ((List.range' 0 (8 - 0)).filter (fun e : Nat => hasB s (e : Int))).map (fun e : Nat => (e : Int)) := by
    unfold elsB
    rw [List.nil_append, List.range_eq_range']
  rw [e]
  unfold impl_ElementsOf.f
  exact h0
theorem elsB_mem {s x : Int} (h : x ∈ elsB s) : ∃ e : Nat, x = e ∧ e < 8 ∧ hasB s (e : Int) = true := by
  simp only [elsB, List.mem_map, List.mem_filter, List.mem_range] at h
  obtain ⟨e, ⟨h1, h2⟩, rfl⟩ := h
  exact ⟨e, rfl, h1, h2⟩
theorem elsB_len (s : Int) : (elsB s).length ≤ 8 := by
  unfold elsB
  rw [List.length_map]
  exact Nat.le_trans (List.length_filter_le _ _) (by simp)
theorem elsB_nat {s : Nat} (h : s < 256) : elsB (s : Int) = (els s).map (fun e : Nat => (e : Int)) := by
  have e : (List.range 8).filter (fun e : Nat => hasB (s : Int) (e : Int)) = (List.range 8).filter (fun e : Nat => s.testBit e) :=
    List.filter_congr (fun e he => by
      rw [List.mem_range] at he
      rw [hasB_nat]
      simp [h, he])
  unfold elsB els
  rw [e]
end Go.Proofs.Ytagncnjllpebjaa.Q
namespace Go.Proofs.Ytagncnjllpebjaa.Q
open Go Go.RowKit Go.Proofs.Ytagncnjllpebjaa.A Go.Proofs.YtagncnjllpebjaaW.PrintWords Go.Proofs.YtagncnjllpebjaaW.PrintLast Go.Proofs.YtagncnjllpebjaaW.PrintMore Go.Proofs.Ytagncnjllpebjaa.Z
set_option linter.unusedVariables false
set_option linter.unusedSimpArgs false
theorem contains_cons (x : Int) (l : List Int) (a : Int) : (x :: l).contains a = (decide (x = a) || l.contains a) := by
  rw [Bool.eq_iff_iff]
  simp only [List.contains_iff_mem, List.mem_cons, Bool.or_eq_true, decide_eq_true_eq]
  constructor
  · rintro (h | h)
    · exact .inl h.symm
    · exact .inr h
  · rintro (h | h)
    · exact .inl h.symm
    · exact .inr h
theorem specHasSet_ev (l : List Int) (a : Int) (hl : l.length ≤ 17592186044416) : Ev (fun k => spec_HasSet.f k l a) (l.contains a) := by
  have h := down (P := fun i => Ev (fun k => spec_HasSet.l0 k l a (i : Int)) ((l.drop i).contains a)) l.length
    (by
      apply Ev.step
      · intro k
        simp only [spec_HasSet.l0]
        rw [if_neg (by omega)]
      · rw [drop_end]; exact Ev.now _)
    (by
      intro i hi ih
      apply Ev.step
      · intro k
        simp only [spec_HasSet.l0]
        rw [if_pos (by omega), if_pos (by omega), rd_getElem l i hi, w_succ hi hl]
      · rw [drop_cons l i hi, contains_cons]
        by_cases hx : l[i] = a
        · refine Ev.ifp hx ?_
          rw [show decide (l[i] = a) = true from by simpa using hx, Bool.true_or]; exact Ev.now _
        · refine Ev.ifn hx ?_
          rw [show decide (l[i] = a) = false from by simpa using hx, Bool.false_or]; exact ih)
  exact h
end Go.Proofs.Ytagncnjllpebjaa.Q
namespace Go.Proofs.Ytagncnjllpebjaa.Q
open Go Go.RowKit Go.Proofs.Ytagncnjllpebjaa.A Go.Proofs.YtagncnjllpebjaaW.PrintWords Go.Proofs.YtagncnjllpebjaaW.PrintLast Go.Proofs.YtagncnjllpebjaaW.PrintMore Go.Proofs.Ytagncnjllpebjaa.Z
set_option linter.unusedVariables false
set_option linter.unusedSimpArgs false
theorem index_l0 (l : List Int) (a : Int) (hl : l.length ≤ 17592186044416) : ∃ r : Int, Ev (fun k => slices_Index_int_int.f k l a) r ∧ (decide (r ≥ 0) = l.contains a) := by
  have h := down (P := fun i => ∃ r : Int, Ev (fun k => slices_Index_int_int.l0 k l a (l.length : Int) (i : Int)) r ∧ (decide (r ≥ 0) = (l.drop i).contains a)) l.length
    (by
      refine ⟨-1, ?_, by rw [drop_end]; rfl⟩
      apply Ev.step
      · intro k
        simp only [slices_Index_int_int.l0]
        rw [if_neg (by omega)]
      · exact Ev.now _)
    (by
      intro i hi ih
      rw [drop_cons l i hi, contains_cons]
      by_cases hx : l[i] = a
      · refine ⟨(i : Int), ?_, ?_⟩
        · apply Ev.step
          · intro k
            simp only [slices_Index_int_int.l0]
            rw [if_pos (by omega), if_pos (by omega), if_pos (by omega), rd_getElem l i hi, if_pos hx.symm]
          · exact Ev.now _
        · rw [show decide (l[i] = a) = true from by simpa using hx, Bool.true_or]
          simp
      · obtain ⟨r, hr, hd⟩ := ih
        refine ⟨r, ?_, ?_⟩
        · apply Ev.step
          · intro k
            simp only [slices_Index_int_int.l0]
            rw [if_pos (by omega), if_pos (by omega), if_pos (by omega), rd_getElem l i hi, if_neg (fun hc => hx hc.symm), w_succ hi hl]
          · exact hr
        · rw [show decide (l[i] = a) = false from by simpa using hx, Bool.false_or]; exact hd)
  exact h
theorem contains_ev (l : List Int) (a : Int) (hl : l.length ≤ 17592186044416) : Ev (fun k => slices_Contains_int_int.f k l a) (l.contains a) := by
  obtain ⟨r, hr, hd⟩ := index_l0 l a hl
  unfold slices_Contains_int_int.f
  refine Ev.bind hr ?_
  rw [hd]; exact Ev.now _
end Go.Proofs.Ytagncnjllpebjaa.Q
namespace Go.Proofs.Ytagncnjllpebjaa.Q
open Go Go.RowKit Go.Proofs.YtagncnjllpebjaaW.PrintWords Go.Proofs.YtagncnjllpebjaaW.PrintLast Go.Proofs.YtagncnjllpebjaaW.PrintMore Go.Proofs.Ytagncnjllpebjaa.Z
set_option linter.unusedVariables false
set_option linter.unusedSimpArgs false
/-- Can e be exchanged for an element of b? -/
def hasEx (l : List Int) (a b e : Nat) : Bool := (els (dif b a)).any (fun f => l.contains ((dif a (2 ^ e) ||| 2 ^ f : Nat) : Int))
def failE (l : List Int) (a b : Nat) : List Nat → Option Nat
  | [] => none
  | e :: es => if hasEx l a b e = true then failE l a b es else some e
def failB (l : List Int) (a : Nat) : List Nat → Option (Nat × Nat)
  | [] => none
  | b :: bs => match failE l a b (els (dif a b)) with
    | none => failB l a bs
    | some e => some (b, e)
def failA (l : List Int) (L : List Nat) : List Nat → Option (Nat × Nat × Nat)
  | [] => none
  | a :: la => match failB l a L with
    | none => failA l L la
    | some (b, e) => some (a, b, e)
def told : Option (Nat × Nat × Nat) → Int × Int × Int × Bool
  | none => (0, 0, 0, false)
  | some (a, b, e) => ((a : Int), (b : Int), (e : Int), true)
/-- What FirstFailure hands back. -/
def failT (n : Int) (l : List Int) : Int × Int × Int × Bool := if famB n l = true then told (failA l (l.map Int.toNat) (l.map Int.toNat)) else (0, 0, 0, false)
theorem els_dif {a b n : Nat} (ha : a < 2 ^ n) (hn : n ≤ 8) : els (dif a b) = (List.range n).filter (fun e => a.testBit e && !b.testBit e) := by
  have h1 : (List.range 8).filter (fun e => (dif a b).testBit e) = (List.range 8).filter (fun e => decide (e < n) && (a.testBit e && !b.testBit e)) :=
    List.filter_congr (fun e _ => by
      rw [dif_bit]
      by_cases h : e < n
      · simp [h]
      · have : a.testBit e = false := Nat.testBit_lt_two_pow (Nat.lt_of_lt_of_le ha (Nat.pow_le_pow_right (by decide) (by omega)))
        simp [this])
  unfold els
  rw [h1]
  have h2 : ∀ (p : Nat → Bool) (a b : Nat), (List.range a).filter (fun e => decide (e < b) && p e) = (List.range (min a b)).filter p := by
    intro p a b
    induction a with
    | zero => simp
    | succ a ih =>
      rw [List.range_succ, List.filter_append, ih]
      by_cases h : a < b
      · rw [show min (a + 1) b = min a b + 1 from by omega, List.range_succ, List.filter_append]
        have e : min a b = a := by omega
        rw [e]
        congr 1
        simp [List.filter_cons, h]
      · rw [show min (a + 1) b = min a b from by omega]
        simp [List.filter_cons, h]
  rw [h2, Nat.min_eq_right hn]
end Go.Proofs.Ytagncnjllpebjaa.Q
namespace Go.Proofs.Ytagncnjllpebjaa.Q
open Go Go.RowKit Go.Proofs.Ytagncnjllpebjaa.A Go.Proofs.YtagncnjllpebjaaW.PrintWords Go.Proofs.YtagncnjllpebjaaW.PrintLast Go.Proofs.YtagncnjllpebjaaW.PrintMore Go.Proofs.Ytagncnjllpebjaa.Z
set_option linter.unusedVariables false
set_option linter.unusedSimpArgs false
theorem pow_wrap {e : Nat} (he : e < 8) : IntKind.i64.wrap (2 ^ e) = ((2 ^ e : Nat) : Int) := by
  have h2 : (2 ^ e : Nat) < 9223372036854775808 := by
    have := Nat.pow_lt_pow_right (a := 2) (by decide) (show e < 63 by omega)
    simpa using this
  have h3 : (2 : Int) ^ e = ((2 ^ e : Nat) : Int) := by simp
  rw [h3]
  exact i64_wrap_nat h2
theorem implC_ev (l : List Int) (hl : l.length ≤ 17592186044416) (a e f : Nat) (ha : a < 256) (he : e < 8) (hf : f < 8) : Ev (fun k => impl_FirstFailure.c k l (a : Int) (e : Int) (f : Int)) (l.contains ((dif a (2 ^ e) ||| 2 ^ f : Nat) : Int)) := by
  unfold impl_FirstFailure.c impl_HasSet.f
  refine Ev.ifp (by omega) (Ev.ifp (by omega) ?_)
  have hp : ∀ x < 8, 2 ^ x < 2 ^ 63 := fun x hx => Nat.pow_lt_pow_right (by decide) (by omega)
  rw [Int.toNat_natCast, Int.toNat_natCast, pow_wrap he, pow_wrap hf, andNot_nat (lt256_63 ha) (hp e he), or_nat (lt256_63 (dif_lt ha)) (hp f hf)]
  exact Ev.bind (contains_ev l _ hl) (Ev.now _)
theorem els_lt {s e : Nat} (h : e ∈ els s) : e < 8 := (mem_els.1 h).1
theorem any_map (p : Int → Bool) (L : List Nat) : (L.map (fun x : Nat => (x : Int))).any p = L.any (fun x => p (x : Int)) := by
  rw [List.any_map]; rfl
theorem implFail_l2 (l : List Int) (hl : l.length ≤ 17592186044416) (a b : Nat) (ha : a < 256) (hb : b < 256) : ∀ es : List Nat, (∀ e ∈ es, e < 8) → Ev (fun k => impl_FirstFailure.l2 k l (a : Int) (b : Int) (es.map (fun x : Nat => (x : Int)))) ((failE l a b es).map (fun x : Nat => (x : Int))) := by
  intro es
  induction es with
  | nil => intro _; exact Ev.now _
  | cons e es ih =>
    intro hm
    have he := hm e (List.mem_cons_self ..)
    simp only [List.map_cons, impl_FirstFailure.l2]
    rw [andNot_nat (lt256_63 hb) (lt256_63 ha)]
    refine Ev.bind (implElements_ev _) ?_
    rw [elsB_nat (dif_lt hb)]
    refine Ev.bind (a := hasEx l a b e) ?_ ?_
    · have h := Ev_anyO (g := fun k f => impl_FirstFailure.c k l (a : Int) (e : Int) f) (p := fun f => l.contains ((dif a (2 ^ e) ||| 2 ^ f.toNat : Nat) : Int)) (l := (els (dif b a)).map (fun x : Nat => (x : Int)))
        (fun x hx => by
          obtain ⟨f, hf, rfl⟩ := List.mem_map.1 hx
          have := implC_ev l hl a e f ha he (els_lt hf)
          rw [Int.toNat_natCast]
          exact this)
      rw [any_map] at h
      simp only [Int.toNat_natCast] at h
      exact h
    · simp only [failE]
      by_cases hx : hasEx l a b e = true
      · refine Ev.ifp hx ?_
        rw [if_pos hx]
        exact ih (fun e' he' => hm e' (List.mem_cons_of_mem _ he'))
      · refine Ev.ifn hx ?_
        rw [if_neg hx]
        exact Ev.now _
theorem implFail_l1 (l : List Int) (hl : l.length ≤ 17592186044416) (a : Nat) (ha : a < 256) : ∀ bs : List Nat, (∀ b ∈ bs, b < 256) → Ev (fun k => impl_FirstFailure.l1 k l (a : Int) (bs.map (fun x : Nat => (x : Int)))) ((failB l a bs).map (fun x : Nat × Nat => ((x.1 : Int), (x.2 : Int)))) := by
  intro bs
  induction bs with
  | nil => intro _; exact Ev.now _
  | cons b bs ih =>
    intro hm
    have hb := hm b (List.mem_cons_self ..)
    simp only [List.map_cons, impl_FirstFailure.l1]
    rw [andNot_nat (lt256_63 ha) (lt256_63 hb)]
    refine Ev.bind (implElements_ev _) ?_
    rw [elsB_nat (dif_lt ha)]
    refine Ev.bind (implFail_l2 l hl a b ha hb _ (fun e he => els_lt he)) ?_
    simp only [failB]
    cases failE l a b (els (dif a b)) with
    | none => exact ih (fun b' hb' => hm b' (List.mem_cons_of_mem _ hb'))
    | some e => exact Ev.now _
theorem implFail_l0 (l : List Int) (L : List Nat) (hlL : l = L.map (fun x : Nat => (x : Int))) (hl : l.length ≤ 17592186044416) (hL : ∀ b ∈ L, b < 256) : ∀ la : List Nat, (∀ a ∈ la, a < 256) → Ev (fun k => impl_FirstFailure.l0 k l (la.map (fun x : Nat => (x : Int)))) ((failA l L la).map (fun x : Nat × Nat × Nat => ((x.1 : Int), (x.2.1 : Int), (x.2.2 : Int)))) := by
  intro la
  induction la with
  | nil => intro _; exact Ev.now _
  | cons a la ih =>
    intro hm
    have ha := hm a (List.mem_cons_self ..)
    simp only [List.map_cons, impl_FirstFailure.l0]
    refine Ev.bind (a := (failB l a L).map (fun x : Nat × Nat => ((x.1 : Int), (x.2 : Int)))) (by
      have := implFail_l1 l hl a ha L hL
      rw [← hlL] at this
      exact this) ?_
    simp only [failA]
    cases failB l a L with
    | none => exact ih (fun a' ha' => hm a' (List.mem_cons_of_mem _ ha'))
    | some x => exact Ev.now _
theorem implFail_ev (n : Int) (l : List Int) (hl : l.length ≤ 17592186044416) : Ev (fun k => impl_FirstFailure.f k n l) (failT n l) := by
  unfold impl_FirstFailure.f failT
  refine Ev.bind (implFam_ev n l hl) ?_
  by_cases hf : famB n l = true
  · refine Ev.ifp hf ?_
    rw [if_pos hf]
    obtain ⟨m, L, rfl, hm, hlL, hL, _⟩ := famB_nat hf
    have hmap : l.map Int.toNat = L := by rw [hlL, toNat_map]
    have h256 : ∀ b ∈ L, b < 256 := fun b hb => Nat.lt_of_lt_of_le (hL b hb) (pow_le_256 hm)
    have h := implFail_l0 l L hlL hl h256 L h256
    rw [← hlL] at h
    refine Ev.bind h ?_
    rw [hmap]
    cases failA l L L with
    | none => exact Ev.now _
    | some x => exact Ev.now _
  · refine Ev.ifn hf ?_
    rw [if_neg hf]
    exact Ev.now _
end Go.Proofs.Ytagncnjllpebjaa.Q
namespace Go.Proofs.Ytagncnjllpebjaa.Q
open Go Go.RowKit Go.Proofs.Ytagncnjllpebjaa.A Go.Proofs.YtagncnjllpebjaaW.PrintWords Go.Proofs.YtagncnjllpebjaaW.PrintLast Go.Proofs.YtagncnjllpebjaaW.PrintMore Go.Proofs.Ytagncnjllpebjaa.Z
set_option linter.unusedVariables false
set_option linter.unusedSimpArgs false
theorem specEx_ev (n : Nat) (hn : n ≤ 8) (l : List Int) (hl : l.length ≤ 17592186044416) (a b e : Nat) (ha : a < 256) (hb : b < 2 ^ n) (he : e < 8) (hae : a.testBit e = true) :
    Ev (fun k => spec_l4Exchange.f k (n : Int) l (a : Int) (b : Int) (e : Int)) (hasEx l a b e) := by
  have hb256 : b < 256 := Nat.lt_of_lt_of_le hb (pow_le_256 hn)
  have h := down (P := fun f => Ev (fun k => spec_l4Exchange.l0 k (a : Int) (b : Int) (e : Int) (f : Int) (n : Int) l) (((List.range' f (n - f)).filter (fun f => b.testBit f && !a.testBit f)).any (fun f => l.contains ((dif a (2 ^ e) ||| 2 ^ f : Nat) : Int)))) n
    (by
      apply Ev.step
      · intro k
        simp only [spec_l4Exchange.l0]
        rw [if_neg (by omega)]
      · rw [Nat.sub_self]; exact Ev.now _)
    (by
      intro f hf ih
      have hih : Ev (fun k => spec_l4Exchange.l0 k (a : Int) (b : Int) (e : Int) (wrap64 ((f : Int) + 1)) (n : Int) l) (((List.range' (f + 1) (n - (f + 1))).filter (fun f => b.testBit f && !a.testBit f)).any (fun f => l.contains ((dif a (2 ^ e) ||| 2 ^ f : Nat) : Int))) := by
        rw [w_succ hf (by omega)]; exact ih
      apply Ev.step
      · intro k
        simp only [spec_l4Exchange.l0, l2Has_eq (lt256_63 hb256) (show f < 2 ^ 63 by omega), l2Has_eq (lt256_63 ha) (show f < 2 ^ 63 by omega), Option.bind_some]
        rw [if_pos (by omega)]
      · rw [range'_cons hf, List.filter_cons]
        by_cases hbf : b.testBit f = true
        · refine Ev.ifp hbf ?_
          by_cases haf : a.testBit f = true
          · refine Ev.ifp haf ?_
            rw [if_neg (by rw [haf]; simp)]
            exact hih
          · refine Ev.ifn haf (Ev.ifp (u64_nonneg _) (Ev.ifp (u64_nonneg _) ?_))
            have haf' := Bool.eq_false_iff.2 haf
            rw [if_pos (by rw [hbf, haf']; rfl), List.any_cons]
            obtain ⟨x1, x2, x3⟩ := exch_arith ha he (show f < 8 by omega) hae haf'
            have hp : 2 ^ f < 256 := Nat.pow_lt_pow_right (a := 2) (m := f) (n := 8) (by decide) (by omega)
            have ex : wrap64 (wrap64 ((a : Int) - shl .i64 1 (IntKind.u64.wrap (e : Int))) + shl .i64 1 (IntKind.u64.wrap (f : Int))) = ((dif a (2 ^ e) ||| 2 ^ f : Nat) : Int) := by
              rw [u64_of (by omega) (by omega), u64_of (by omega) (by omega), shl_one (by omega), shl_one (by omega), ← x1]
              generalize 2 ^ e = p at *
              generalize 2 ^ f = q at *
              rw [wrap64_of (n := (a : Int) - (p : Int)) (by omega) (by omega), wrap64_of (by omega) (by omega)]
              omega
            rw [ex]
            refine Ev.bind (specHasSet_ev l _ hl) ?_
            by_cases hc : l.contains ((dif a (2 ^ e) ||| 2 ^ f : Nat) : Int) = true
            · refine Ev.ifp hc ?_
              rw [hc, Bool.true_or]; exact Ev.now _
            · refine Ev.ifn hc ?_
              rw [Bool.eq_false_iff.2 hc, Bool.false_or]; exact hih
        · refine Ev.ifn hbf ?_
          rw [if_neg (by rw [Bool.eq_false_iff.2 hbf]; simp)]
          exact hih)
  rw [Nat.sub_zero, ← List.range_eq_range', ← els_dif hb hn] at h
  exact h
theorem specFail_l2 (n : Nat) (hn : n ≤ 8) (l : List Int) (hl : l.length ≤ 17592186044416) (i j : Nat) (hi : i < l.length) (hj : j < l.length) (a b : Nat) (hai : rd l (i : Int) = a) (hbj : rd l (j : Int) = b) (ha : a < 2 ^ n) (hb : b < 2 ^ n) (K : Int × Int × Int × Bool)
    (hK : Ev (fun k => spec_FirstFailure.l1 k (i : Int) (wrap64 ((j : Int) + 1)) (n : Int) l) K) :
    Ev (fun k => spec_FirstFailure.l2 k (i : Int) (j : Int) 0 (n : Int) l) (match failE l a b (els (dif a b)) with | none => K | some e => ((a : Int), (b : Int), (e : Int), true)) := by
  have ha256 : a < 256 := Nat.lt_of_lt_of_le ha (pow_le_256 hn)
  have hb256 : b < 256 := Nat.lt_of_lt_of_le hb (pow_le_256 hn)
  have h := down (P := fun e => Ev (fun k => spec_FirstFailure.l2 k (i : Int) (j : Int) (e : Int) (n : Int) l) (match failE l a b ((List.range' e (n - e)).filter (fun e => a.testBit e && !b.testBit e)) with | none => K | some e => ((a : Int), (b : Int), (e : Int), true))) n
    (by
      apply Ev.step
      · intro k
        simp only [spec_FirstFailure.l2]
        rw [if_neg (by omega)]
      · rw [Nat.sub_self]; exact hK)
    (by
      intro e he ih
      have hih : Ev (fun k => spec_FirstFailure.l2 k (i : Int) (j : Int) (wrap64 ((e : Int) + 1)) (n : Int) l) (match failE l a b ((List.range' (e + 1) (n - (e + 1))).filter (fun e => a.testBit e && !b.testBit e)) with | none => K | some e => ((a : Int), (b : Int), (e : Int), true)) := by
        rw [w_succ he (by omega)]; exact ih
      apply Ev.step
      · intro k
        simp only [spec_FirstFailure.l2]
        rw [if_pos (by omega), if_pos (by omega), if_pos (by omega), if_pos (by omega), if_pos (by omega), hai, hbj, l2Has_eq (lt256_63 ha256) (show e < 2 ^ 63 by omega), l2Has_eq (lt256_63 hb256) (show e < 2 ^ 63 by omega), Option.bind_some, Option.bind_some]
      · rw [range'_cons he, List.filter_cons]
        by_cases hae : a.testBit e = true
        · refine Ev.ifp hae ?_
          by_cases hbe : b.testBit e = true
          · refine Ev.ifp hbe ?_
            rw [if_neg (by rw [hbe]; simp)]
            exact hih
          · refine Ev.ifn hbe (Ev.bind (specEx_ev n hn l hl a b e ha256 hb (by omega) hae) ?_)
            rw [if_pos (by rw [hae, Bool.eq_false_iff.2 hbe]; rfl)]
            simp only [failE]
            by_cases hx : hasEx l a b e = true
            · refine Ev.ifp hx ?_
              rw [if_pos hx]; exact hih
            · refine Ev.ifn hx ?_
              rw [if_neg hx]; exact Ev.now _
        · refine Ev.ifn hae ?_
          rw [if_neg (by rw [Bool.eq_false_iff.2 hae]; simp)]
          exact hih)
  rw [Nat.sub_zero, ← List.range_eq_range', ← els_dif ha hn] at h
  exact h
theorem specFail_ev (n : Int) (l : List Int) (hl : l.length ≤ 17592186044416) : Ev (fun k => spec_FirstFailure.f k n l) (failT n l) := by
  unfold spec_FirstFailure.f failT
  refine Ev.bind (specFam_ev n l hl) ?_
  by_cases hf : famB n l = true
  · refine Ev.ifp hf ?_
    rw [if_pos hf]
    obtain ⟨m, L, rfl, hm, rfl, hL, _⟩ := famB_nat hf
    rw [toNat_map]
    have hlen : (L.map (fun x : Nat => (x : Int))).length = L.length := List.length_map _
    rw [hlen] at hl
    have hrd : ∀ i, (h : i < L.length) → rd (L.map (fun x : Nat => (x : Int))) (i : Int) = (L[i] : Int) := fun i h => by
      rw [rd_getElem _ i (by rw [hlen]; exact h), List.getElem_map]
    have hl' : (L.map (fun x : Nat => (x : Int))).length ≤ 17592186044416 := by rw [hlen]; exact hl
    generalize L.map (fun x : Nat => (x : Int)) = l at hlen hrd hl'
    have h := down (P := fun i => Ev (fun k => spec_FirstFailure.l0 k (i : Int) (m : Int) l) (told (failA l L (L.drop i)))) L.length
      (by
        apply Ev.step
        · intro k
          simp only [spec_FirstFailure.l0]
          rw [if_neg (by omega)]
        · rw [drop_end]; exact Ev.now _)
      (by
        intro i hi ih
        have hia := hL _ (List.getElem_mem hi)
        have hih : Ev (fun k => spec_FirstFailure.l0 k (wrap64 ((i : Int) + 1)) (m : Int) l) (told (failA l L (L.drop (i + 1)))) := by
          rw [w_succ hi hl]; exact ih
        apply Ev.step
        · intro k
          simp only [spec_FirstFailure.l0]
          rw [if_pos (by omega)]
        · have h1 := down (P := fun j => Ev (fun k => spec_FirstFailure.l1 k (i : Int) (j : Int) (m : Int) l) (match failB l L[i] (L.drop j) with | none => told (failA l L (L.drop (i + 1))) | some (b, e) => ((L[i] : Int), (b : Int), (e : Int), true))) L.length
            (by
              apply Ev.step
              · intro k
                simp only [spec_FirstFailure.l1]
                rw [if_neg (by omega)]
              · rw [drop_end]; exact hih)
            (by
              intro j hj ihj
              have hjb := hL _ (List.getElem_mem hj)
              apply Ev.step
              · intro k
                simp only [spec_FirstFailure.l1]
                rw [if_pos (by omega)]
              · have h2 := specFail_l2 m hm l hl' i j (by omega) (by omega) L[i] L[j] (hrd i hi) (hrd j hj) hia hjb _ (by rw [w_succ hj hl]; exact ihj)
                rw [drop_cons L j hj]
                simp only [failB]
                generalize failE l L[i] L[j] (els (dif L[i] L[j])) = q at h2
                cases q with
                | none => exact h2
                | some e => exact h2)
          rw [drop_cons L i hi]
          simp only [failA]
          rw [List.drop_zero] at h1
          generalize failB l L[i] L = q at h1
          cases q with
          | none => exact h1
          | some x => exact h1)
    exact h
  · refine Ev.ifn hf ?_
    rw [if_neg hf]
    exact Ev.now _
end Go.Proofs.Ytagncnjllpebjaa.Q
namespace Go.Proofs.Ytagncnjllpebjaa.Q
open Go Go.RowKit Go.Proofs.Ytagncnjllpebjaa.A Go.Proofs.YtagncnjllpebjaaW.PrintWords Go.Proofs.YtagncnjllpebjaaW.PrintLast Go.Proofs.YtagncnjllpebjaaW.PrintMore Go.Proofs.Ytagncnjllpebjaa.Z
set_option linter.unusedVariables false
set_option linter.unusedSimpArgs false
/-- A matroid: a family, not empty, without a failure of the exchange. -/
def matB (n : Int) (l : List Int) : Bool := famB n l && (decide ((l.length : Int) > 0) && !(failT n l).2.2.2)
theorem specMat_ev (n : Int) (l : List Int) (hl : l.length ≤ 17592186044416) : Ev (fun k => spec_IsMatroid.f k n l) (matB n l) := by
  unfold spec_IsMatroid.f matB
  refine Ev.bind (specFail_ev n l hl) (Ev.bind (specFam_ev n l hl) ?_)
  by_cases hf : famB n l = true
  · refine Ev.ifp hf ?_
    rw [hf, Bool.true_and]
    by_cases h0 : (l.length : Int) > 0
    · refine Ev.ifp h0 ?_
      rw [show decide ((l.length : Int) > 0) = true from by simpa using h0, Bool.true_and]
      exact Ev.now _
    · refine Ev.ifn h0 ?_
      rw [show decide ((l.length : Int) > 0) = false from by simpa using h0, Bool.false_and]
      exact Ev.now _
  · refine Ev.ifn hf ?_
    rw [Bool.eq_false_iff.2 hf, Bool.false_and]
    exact Ev.now _
end Go.Proofs.Ytagncnjllpebjaa.Q
namespace Go.Proofs.Ytagncnjllpebjaa.Q
open Go Go.RowKit Go.Proofs.Ytagncnjllpebjaa.A Go.Proofs.YtagncnjllpebjaaW.PrintWords Go.Proofs.YtagncnjllpebjaaW.PrintLast Go.Proofs.YtagncnjllpebjaaW.PrintMore Go.Proofs.Ytagncnjllpebjaa.Z
set_option linter.unusedVariables false
set_option linter.unusedSimpArgs false
theorem implMat_ev (n : Int) (l : List Int) (hl : l.length ≤ 17592186044416) : Ev (fun k => impl_IsMatroid.f k n l) (matB n l) := by
  unfold impl_IsMatroid.f matB
  refine Ev.bind (implFail_ev n l hl) (Ev.bind (implFam_ev n l hl) ?_)
  by_cases hf : famB n l = true
  · refine Ev.ifp hf ?_
    rw [hf, Bool.true_and]
    by_cases h0 : (l.length : Int) > 0
    · refine Ev.ifp h0 ?_
      rw [show decide ((l.length : Int) > 0) = true from by simpa using h0, Bool.true_and]
      exact Ev.now _
    · refine Ev.ifn h0 ?_
      rw [show decide ((l.length : Int) > 0) = false from by simpa using h0, Bool.false_and]
      exact Ev.now _
  · refine Ev.ifn hf ?_
    rw [Bool.eq_false_iff.2 hf, Bool.false_and]
    exact Ev.now _
end Go.Proofs.Ytagncnjllpebjaa.Q
namespace Go.Proofs.Ytagncnjllpebjaa.Q
open Go Go.RowKit Go.Proofs.YtagncnjllpebjaaW.PrintWords Go.Proofs.YtagncnjllpebjaaW.PrintLast Go.Proofs.YtagncnjllpebjaaW.PrintMore Go.Proofs.Ytagncnjllpebjaa.Z
set_option linter.unusedVariables false
set_option linter.unusedSimpArgs false
/-- What a matroid is, as numbers. -/
theorem matB_nat {n : Int} {l : List Int} (h : matB n l = true) : ∃ (m : Nat) (L : List Nat), n = m ∧ m ≤ 8 ∧ l = ints L ∧ (∀ x ∈ L, x < 2 ^ m) ∧ (∀ x ∈ L, x < 256) ∧ L.Pairwise (· < ·) ∧ L ≠ [] := by
  simp only [matB, Bool.and_eq_true, decide_eq_true_eq] at h
  obtain ⟨m, L, rfl, hm, rfl, hL, hp⟩ := famB_nat h.1
  refine ⟨m, L, rfl, hm, rfl, hL, fun x hx => Nat.lt_of_lt_of_le (hL x hx) (pow_le_256 hm), hp, ?_⟩
  rintro rfl
  simp at h
theorem ints_len (L : List Nat) : (ints L).length = L.length := List.length_map _
theorem ints_rd (L : List Nat) (i : Nat) (h : i < L.length) : rd (ints L) (i : Int) = (L[i] : Int) := by
  rw [rd_getElem _ i (by rw [ints_len]; exact h)]
  simp [ints]
end Go.Proofs.Ytagncnjllpebjaa.Q
namespace Go.Proofs.Ytagncnjllpebjaa.Q
open Go Go.RowKit Go.Proofs.Ytagncnjllpebjaa.A Go.Proofs.YtagncnjllpebjaaW.PrintWords Go.Proofs.YtagncnjllpebjaaW.PrintLast Go.Proofs.YtagncnjllpebjaaW.PrintMore Go.Proofs.Ytagncnjllpebjaa.Z
set_option linter.unusedVariables false
set_option linter.unusedSimpArgs false
theorem specCount_l0 : ∀ (d x : Nat), x ≤ d → x < 256 → ∀ acc : Int, 0 ≤ acc → acc + (d : Int) ≤ 1000 → Ev (fun k => spec_CountOf.l0 k (x : Int) acc) (acc + (pc x : Int)) := by
  intro d
  induction d with
  | zero =>
    intro x hx _ acc h0 h1
    obtain rfl : x = 0 := by omega
    apply Ev.step
    · intro k
      simp only [spec_CountOf.l0]
      rw [if_neg (by decide)]
    · rw [pc_zero, show acc + ((0 : Nat) : Int) = acc from by omega]
      exact Ev.now _
  | succ d ih =>
    intro x hx h256 acc h0 h1
    by_cases hz : x = 0
    · subst hz
      exact ih 0 (by omega) h256 acc h0 (by omega)
    · have hb : Go.bits .and .i64 (x : Int) 1 = ((x % 2 : Nat) : Int) := by
        have := and_nat (a := x) (b := 1) (lt256_63 h256) (by decide)
        rw [Nat.and_one_is_mod] at this
        exact this
      apply Ev.step
      · intro k
        simp only [spec_CountOf.l0]
        rw [if_pos (by omega), hb, wrap64_of (by omega) (by omega), show (x : Int) / 2 = ((x / 2 : Nat) : Int) from by omega]
      · have hp := pc_step x h256
        have hl := pc_le (x / 2)
        have := ih (x / 2) (by omega) (by omega) (acc + ((x % 2 : Nat) : Int)) (by omega) (by omega)
        rw [show acc + ((x % 2 : Nat) : Int) + (pc (x / 2) : Int) = acc + (pc x : Int) from by omega] at this
        exact this
theorem specCount_ev (s : Nat) (h : s < 256) : Ev (fun k => spec_CountOf.f k (s : Int)) (pc s : Int) := by
  unfold spec_CountOf.f
  refine Ev.cbind (specIsSet_eq _ _) (Ev.ifp ?_ ?_)
  · rw [isSet8, isAnyB_nat]; simpa using h
  · have := specCount_l0 s s (Nat.le_refl _) h 0 (by omega) (by omega)
    rw [Int.zero_add] at this
    exact this
end Go.Proofs.Ytagncnjllpebjaa.Q
namespace Go.Proofs.Ytagncnjllpebjaa.Q
open Go Go.RowKit Go.Proofs.Ytagncnjllpebjaa.A Go.Proofs.YtagncnjllpebjaaW.PrintWords Go.Proofs.YtagncnjllpebjaaW.PrintLast Go.Proofs.YtagncnjllpebjaaW.PrintMore Go.Proofs.Ytagncnjllpebjaa.Z
set_option linter.unusedVariables false
set_option linter.unusedSimpArgs false
theorem l1Max_eq (a b : Int) : spec_l1Max.f a b = some (max a b) := by
  unfold spec_l1Max.f
  by_cases h : a > b
  · rw [if_pos h]; congr 1; omega
  · rw [if_neg h]; congr 1; omega
theorem specRank_ev (n : Int) (L : List Nat) (s : Nat) (hl : L.length ≤ 17592186044416) (hL : ∀ b ∈ L, b < 256) (hs : s < 256) : Ev (fun k => spec_l5Rank.f k n (ints L) (s : Int)) (rkN L s : Int) := by
  have h := down (P := fun i => ∀ acc : Nat, Ev (fun k => spec_l5Rank.l0 k (s : Int) (acc : Int) (i : Int) n (ints L)) ((maxN acc ((L.drop i).map (fun b => pc (b &&& s))) : Nat) : Int)) L.length
    (by
      intro acc
      apply Ev.step
      · intro k
        simp only [spec_l5Rank.l0]
        rw [if_neg (by rw [ints_len]; omega)]
      · rw [drop_end]; exact Ev.now _)
    (by
      intro i hi ih acc
      have hb := hL _ (List.getElem_mem hi)
      apply Ev.step
      · intro k
        simp only [spec_l5Rank.l0, l1Max_eq, Option.bind_some]
        rw [if_pos (by rw [ints_len]; omega), if_pos (by omega), ints_rd L i hi, w_succ hi hl, and_nat (lt256_63 hb) (lt256_63 hs)]
      · refine Ev.bind (specCount_ev _ (and_lt hb)) ?_
        rw [drop_cons L i hi, List.map_cons, maxN_cons]
        have := ih (max acc (pc (L[i] &&& s)))
        rw [show ((max acc (pc (L[i] &&& s)) : Nat) : Int) = max (acc : Int) (pc (L[i] &&& s) : Int) from by omega] at this
        exact this)
  exact h 0
theorem specFree_ev (n : Int) (L : List Nat) (s : Nat) (hl : L.length ≤ 17592186044416) (hL : ∀ b ∈ L, b < 256) (hne : L ≠ []) (hs : s < 256) : Ev (fun k => spec_l20Free.f k n (ints L) (s : Int)) (indN L s) := by
  unfold spec_l20Free.f
  refine Ev.bind (specRank_ev n L s hl hL hs) (Ev.bind (specCount_ev s hs) ?_)
  have : ((rkN L s : Int) == (pc s : Int)) = indN L s := by
    rw [Bool.eq_iff_iff, ← rk_eq_iff hs hne]
    simp only [beq_iff_eq]
    omega
  rw [this]
  exact Ev.now _
end Go.Proofs.Ytagncnjllpebjaa.Q
namespace Go.Proofs.Ytagncnjllpebjaa.Q
open Go Go.RowKit Go.Proofs.Ytagncnjllpebjaa.A Go.Proofs.YtagncnjllpebjaaW.PrintWords Go.Proofs.YtagncnjllpebjaaW.PrintLast Go.Proofs.YtagncnjllpebjaaW.PrintMore Go.Proofs.Ytagncnjllpebjaa.Z
set_option linter.unusedVariables false
set_option linter.unusedSimpArgs false
theorem subset_eq (t s : Int) : impl_IsSubset.f t s = some (isAnyB t && (isAnyB s && decide (subN t.toNat s.toNat))) := by
  unfold impl_IsSubset.f
  rw [isAny_eq, isAny_eq, Option.bind_some, Option.bind_some]
  by_cases h1 : isAnyB t = true
  · rw [if_pos h1, h1, Bool.true_and]
    by_cases h2 : isAnyB s = true
    · rw [if_pos h2, h2, Bool.true_and]
      obtain ⟨a, rfl, ha⟩ := isAnyB_lt h1
      obtain ⟨b, rfl, hb⟩ := isAnyB_lt h2
      rw [andNot_nat (lt256_63 ha) (lt256_63 hb), Int.toNat_natCast, Int.toNat_natCast]
      have e : (((dif a b : Nat) : Int) == 0) = decide (subN a b) := by
        rw [Bool.eq_iff_iff, beq_iff_eq, decide_eq_true_eq]
        have h := @dif_zero a b
        constructor
        · intro h0; exact h.1 (by omega)
        · intro h0; have := h.2 h0; omega
      rw [e]
    · rw [if_neg h2, Bool.eq_false_iff.2 h2, Bool.false_and]
  · rw [if_neg h1, Bool.eq_false_iff.2 h1, Bool.false_and]
/-- independent at whatever number. -/
def indB (L : List Nat) (s : Int) : Bool := isAnyB s && indN L s.toNat
theorem implInd_ev (n : Int) (L : List Nat) (s : Int) (hl : L.length ≤ 17592186044416) (hL : ∀ b ∈ L, b < 256) : Ev (fun k => impl_independent.f k n (ints L) s) (indB L s) := by
  have h := down (P := fun i => Ev (fun k => impl_independent.l0 k s (ints L) ((ints L).length : Int) (i : Int)) (isAnyB s && (L.drop i).any (fun b => decide (subN s.toNat b)))) L.length
    (by
      apply Ev.step
      · intro k
        simp only [impl_independent.l0]
        rw [if_neg (by rw [ints_len]; omega)]
      · rw [drop_end]
        simp only [List.any_nil, Bool.and_false]
        exact Ev.now _)
    (by
      intro i hi ih
      have hb := hL _ (List.getElem_mem hi)
      apply Ev.step
      · intro k
        simp only [impl_independent.l0, subset_eq, Option.bind_some]
        rw [if_pos (by rw [ints_len]; omega), if_pos (by omega), if_pos (by rw [ints_len]; omega), ints_rd L i hi, w_succ hi hl]
      · rw [drop_cons L i hi, List.any_cons]
        rw [show isAnyB (L[i] : Int) = true from by rw [isAnyB_nat]; simpa using hb, Bool.true_and, Int.toNat_natCast]
        by_cases hx : (isAnyB s && decide (subN s.toNat L[i])) = true
        · refine Ev.ifp hx ?_
          simp only [Bool.and_eq_true] at hx
          rw [hx.1, hx.2]
          exact Ev.now _
        · refine Ev.ifn hx ?_
          have : (isAnyB s && (decide (subN s.toNat L[i]) || (L.drop (i + 1)).any (fun b => decide (subN s.toNat b)))) = (isAnyB s && (L.drop (i + 1)).any (fun b => decide (subN s.toNat b))) := by
            cases h1 : isAnyB s
            · rfl
            · rw [h1] at hx
              simp only [Bool.true_and] at hx ⊢
              rw [Bool.eq_false_iff.2 hx, Bool.false_or]
          rw [this]
          exact ih)
  exact h
theorem indB_nat {L : List Nat} {s : Nat} (hs : s < 256) : indB L (s : Int) = indN L s := by
  unfold indB
  rw [isAnyB_nat, show decide (s < 256) = true from by simpa using hs, Bool.true_and, Int.toNat_natCast]
/-- What lies in a set of n elements is one. -/
theorem indB_set {L : List Nat} {s : Int} {m : Nat} (hL : ∀ b ∈ L, b < 2 ^ m) (h : indB L s = true) : ∃ t : Nat, s = t ∧ t < 2 ^ m ∧ t < 256 ∧ indN L t = true := by
  unfold indB at h
  simp only [Bool.and_eq_true] at h
  obtain ⟨t, rfl, ht⟩ := isAnyB_lt h.1
  rw [Int.toNat_natCast] at h
  obtain ⟨b, hb, hsub⟩ := indN_iff.1 h.2
  exact ⟨t, rfl, Nat.lt_of_le_of_lt (subN_le hsub) (hL b hb), ht, h.2⟩
end Go.Proofs.Ytagncnjllpebjaa.Q
namespace Go.Proofs.Ytagncnjllpebjaa.Q
open Go Go.RowKit Go.Proofs.Ytagncnjllpebjaa.A Go.Proofs.YtagncnjllpebjaaW.PrintWords Go.Proofs.YtagncnjllpebjaaW.PrintLast Go.Proofs.YtagncnjllpebjaaW.PrintMore Go.Proofs.Ytagncnjllpebjaa.Z
set_option linter.unusedVariables false
set_option linter.unusedSimpArgs false
/-- Two matroids of the same size. -/
def togB (n : Int) (l : List Int) (n' : Int) (l' : List Int) : Bool := matB n l && (matB n' l' && decide (n = n'))
theorem tog_ev (n : Int) (l : List Int) (n' : Int) (l' : List Int) (hl : l.length ≤ 17592186044416) (hl' : l'.length ≤ 17592186044416) : Ev (fun k => impl_together.f k n l n' l') (togB n l n' l') := by
  unfold impl_together.f togB
  refine Ev.bind (implMat_ev n l hl) ?_
  by_cases h1 : matB n l = true
  · refine Ev.ifp h1 ?_
    rw [h1, Bool.true_and]
    refine Ev.bind (implMat_ev n' l' hl') ?_
    by_cases h2 : matB n' l' = true
    · refine Ev.ifp h2 ?_
      rw [h2, Bool.true_and]
      have : (n == n') = decide (n = n') := by rw [Bool.eq_iff_iff]; simp
      rw [this]
      exact Ev.now _
    · refine Ev.ifn h2 ?_
      rw [Bool.eq_false_iff.2 h2, Bool.false_and]
      exact Ev.now _
  · refine Ev.ifn h1 ?_
    rw [Bool.eq_false_iff.2 h1, Bool.false_and]
    exact Ev.now _
def commonB (n : Int) (l : List Int) (n' : Int) (l' : List Int) (s : Int) : Bool := togB n l n' l' && (indB (l.map Int.toNat) s && indB (l'.map Int.toNat) s)
theorem specCommon_ev (n : Int) (l : List Int) (n' : Int) (l' : List Int) (s : Int) (hl : l.length ≤ 17592186044416) (hl' : l'.length ≤ 17592186044416) : Ev (fun k => spec_IsCommon.f k n l n' l' s) (commonB n l n' l' s) := by
  unfold spec_IsCommon.f commonB togB
  refine Ev.bind (specMat_ev n l hl) ?_
  by_cases h1 : matB n l = true
  · refine Ev.ifp h1 (Ev.bind (specMat_ev n' l' hl') ?_)
    rw [h1, Bool.true_and]
    by_cases h2 : matB n' l' = true
    · refine Ev.ifp h2 ?_
      rw [h2, Bool.true_and]
      by_cases hn : n = n'
      · refine Ev.ifp hn ?_
        subst hn
        rw [show decide (n = n) = true from by simp, Bool.true_and]
        obtain ⟨m, L, rfl, hm, rfl, hL, hL256, _, hne⟩ := matB_nat h1
        obtain ⟨m', L', hmm, hm', rfl, hL', hL256', _, hne'⟩ := matB_nat h2
        rw [ints_len] at hl hl'
        rw [show (ints L).map Int.toNat = L from toNat_map L, show (ints L').map Int.toNat = L' from toNat_map L']
        refine Ev.cbind (specIsSet_eq _ _) ?_
        by_cases hs : isSetB (m : Int) s = true
        · refine Ev.ifp hs ?_
          obtain ⟨_, t, _, rfl, _, _, ht⟩ := isSetB_lt hs
          rw [indB_nat ht, indB_nat ht]
          refine Ev.bind (specFree_ev _ L t hl hL256 hne ht) ?_
          by_cases hi : indN L t = true
          · refine Ev.ifp hi ?_
            rw [hi, Bool.true_and]
            exact Ev.bind (specFree_ev _ L' t hl' hL256' hne' ht) (Ev.now _)
          · refine Ev.ifn hi ?_
            rw [Bool.eq_false_iff.2 hi, Bool.false_and]
            exact Ev.now _
        · refine Ev.ifn hs ?_
          have : indB L s = false := by
            rw [Bool.eq_false_iff]
            intro hi
            obtain ⟨t, rfl, ht, _⟩ := indB_set hL hi
            apply hs
            rw [isSetB_nat]
            simp [hm, ht]
          rw [this, Bool.false_and]
          exact Ev.now _
      · refine Ev.ifn hn ?_
        rw [show decide (n = n') = false from by simpa using hn, Bool.false_and]
        exact Ev.now _
    · refine Ev.ifn h2 ?_
      rw [Bool.eq_false_iff.2 h2, Bool.false_and, Bool.false_and]
      exact Ev.now _
  · refine Ev.ifn h1 ?_
    rw [Bool.eq_false_iff.2 h1, Bool.false_and, Bool.false_and]
    exact Ev.now _
end Go.Proofs.Ytagncnjllpebjaa.Q
namespace Go.Proofs.Ytagncnjllpebjaa.Q
open Go Go.RowKit Go.Proofs.Ytagncnjllpebjaa.A Go.Proofs.YtagncnjllpebjaaW.PrintWords Go.Proofs.YtagncnjllpebjaaW.PrintLast Go.Proofs.YtagncnjllpebjaaW.PrintMore Go.Proofs.Ytagncnjllpebjaa.Z
set_option linter.unusedVariables false
set_option linter.unusedSimpArgs false
set_option maxRecDepth 100000 in
theorem ones64 : ∀ s < 256, bits_OnesCount64.f ((s : Nat) : Int) = some ((pc s : Nat) : Int) := by decide +kernel
theorem implCount_eq (s : Nat) (h : s < 256) : impl_CountOf.f (s : Int) = some (pc s : Int) := by
  unfold impl_CountOf.f
  rw [isAny_eq, Option.bind_some, if_pos (by rw [isAnyB_nat]; simpa using h), u64_of (by omega) (by omega)]
  unfold bits_OnesCount.f
  rw [ones64 s h]
  rfl
end Go.Proofs.Ytagncnjllpebjaa.Q
namespace Go.Proofs.Ytagncnjllpebjaa.Q
open Go Go.RowKit Go.Proofs.Ytagncnjllpebjaa.A Go.Proofs.YtagncnjllpebjaaW.PrintWords Go.Proofs.YtagncnjllpebjaaW.PrintLast Go.Proofs.YtagncnjllpebjaaW.PrintMore Go.Proofs.Ytagncnjllpebjaa.Z
set_option linter.unusedVariables false
set_option linter.unusedSimpArgs false
def fullN (m : Nat) : Nat := 2 ^ m - 1
theorem full_bit (m i : Nat) : (fullN m).testBit i = decide (i < m) := Nat.testBit_two_pow_sub_one m i
theorem specFull_eq {m : Nat} (hm : m ≤ 8) : spec_FullSet.f (m : Int) = some ((fullN m : Nat) : Int) := by
  unfold spec_FullSet.f fullN
  have hp := pow_le_256 hm
  have h0 := Nat.two_pow_pos m
  rw [l1In_eq, Option.bind_some, if_pos (by simp; omega), if_pos (u64_nonneg _), u64_of (by omega) (by omega), shl_one (by omega)]
  generalize 2 ^ m = q at *
  rw [wrap64_of (by omega) (by omega)]
  congr 1
  omega
theorem implFull_eq {m : Nat} (hm : m ≤ 8) : impl_FullSet.f (m : Int) = some ((fullN m : Nat) : Int) := by
  unfold impl_FullSet.f fullN
  have hp := pow_le_256 hm
  have h0 := Nat.two_pow_pos m
  rw [isSize_eq, Option.bind_some, if_pos (by simp; omega), if_pos (by omega), shl_one (by omega)]
  generalize 2 ^ m = q at *
  rw [wrap64_of (by omega) (by omega)]
  congr 1
  omega
end Go.Proofs.Ytagncnjllpebjaa.Q
namespace Go.Proofs.Ytagncnjllpebjaa.Q
open Go Go.RowKit Go.Proofs.YtagncnjllpebjaaW.PrintWords Go.Proofs.YtagncnjllpebjaaW.PrintLast Go.Proofs.YtagncnjllpebjaaW.PrintMore Go.Proofs.Ytagncnjllpebjaa.Z
set_option linter.unusedVariables false
set_option linter.unusedSimpArgs false
theorem togB_nat {n n' : Int} {l l' : List Int} (h : togB n l n' l' = true) : ∃ (m : Nat) (L L' : List Nat), n = m ∧ n' = m ∧ m ≤ 8 ∧ l = ints L ∧ l' = ints L' ∧ (∀ x ∈ L, x < 2 ^ m) ∧ (∀ x ∈ L', x < 2 ^ m) ∧ (∀ x ∈ L, x < 256) ∧ (∀ x ∈ L', x < 256) ∧ L ≠ [] ∧ L' ≠ [] := by
  simp only [togB, Bool.and_eq_true, decide_eq_true_eq] at h
  obtain ⟨h1, h2, h3⟩ := h
  obtain ⟨m, L, rfl, hm, rfl, hL, hL256, _, hne⟩ := matB_nat h1
  obtain ⟨m', L', rfl, hm', rfl, hL', hL256', _, hne'⟩ := matB_nat h2
  have : m = m' := by omega
  subst this
  exact ⟨m, L, L', rfl, rfl, hm, rfl, rfl, hL, hL', hL256, hL256', hne, hne'⟩
theorem commonB_zero (n : Int) (l : List Int) (n' : Int) (l' : List Int) : commonB n l n' l' 0 = togB n l n' l' := by
  unfold commonB
  by_cases h : togB n l n' l' = true
  · rw [h, Bool.true_and]
    obtain ⟨m, L, L', rfl, rfl, hm, rfl, rfl, hL, hL', hL256, hL256', hne, hne'⟩ := togB_nat h
    rw [show (ints L).map Int.toNat = L from toNat_map L, show (ints L').map Int.toNat = L' from toNat_map L']
    have hz : ∀ M : List Nat, M ≠ [] → indB M 0 = true := fun M hM => by
      have := @indB_nat M 0 (by omega)
      rw [show ((0 : Nat) : Int) = 0 from rfl] at this
      rw [this, indN_iff]
      obtain ⟨b, hb⟩ := List.exists_mem_of_ne_nil M hM
      exact ⟨b, hb, subN_zero b⟩
    rw [hz L hne, hz L' hne']
    rfl
  · rw [Bool.eq_false_iff.2 h, Bool.false_and]
end Go.Proofs.Ytagncnjllpebjaa.Q
namespace Go.Proofs.Ytagncnjllpebjaa.Q
open Go Go.RowKit Go.Proofs.Ytagncnjllpebjaa.A Go.Proofs.YtagncnjllpebjaaW.PrintWords Go.Proofs.YtagncnjllpebjaaW.PrintLast Go.Proofs.YtagncnjllpebjaaW.PrintMore Go.Proofs.Ytagncnjllpebjaa.Z
set_option linter.unusedVariables false
set_option linter.unusedSimpArgs false
def comN (L L' : List Nat) (s : Nat) : Bool := indN L s && indN L' s
def csN (m : Nat) (L L' : List Nat) : List Nat := (List.range (2 ^ m)).filter (comN L L')
theorem csN_lt {m : Nat} {L L' : List Nat} {t : Nat} (h : t ∈ csN m L L') : t < 2 ^ m := List.mem_range.1 (List.mem_filter.1 h).1
theorem csN_len {m : Nat} (hm : m ≤ 8) (L L' : List Nat) : (csN m L L').length ≤ 256 := by
  have h1 : (csN m L L').length ≤ (List.range (2 ^ m)).length := List.length_filter_le _ _
  rw [List.length_range] at h1
  have := pow_le_256 hm
  omega
theorem implSets_ev {m : Nat} (hm : m ≤ 8) (L L' : List Nat) (hl : L.length ≤ 17592186044416) (hl' : L'.length ≤ 17592186044416) (hL : ∀ b ∈ L, b < 256) (hL' : ∀ b ∈ L', b < 256) : Ev (fun k => impl_commonSets.f k (m : Int) (ints L) (m : Int) (ints L')) (ints (csN m L L')) := by
  have h2m := pow_le_256 hm
  have hp := Nat.two_pow_pos m
  unfold impl_commonSets.f
  refine Ev.cbind (implFull_eq hm) (Ev.ifp (by unfold fullN; omega) ?_)
  have e : fromTo 0 ((fullN m : Nat) : Int) = ints (List.range (2 ^ m)) := by
    unfold fromTo ints fullN
    rw [List.range_eq_range', show (((2 ^ m - 1 : Nat) : Int) + 1).toNat - (0 : Int).toNat = 2 ^ m from by omega]
    rfl
  unfold setsO
  rw [e]
  have hf : (ints (List.range (2 ^ m))).filter (fun x : Int => comN L L' x.toNat) = ints (csN m L L') := by
    unfold ints csN
    rw [List.filter_map]
    congr 1
  rw [← hf]
  refine Ev_filterO (p := fun x : Int => comN L L' x.toNat) ?_
  intro x hx
  unfold ints at hx
  obtain ⟨t, ht, rfl⟩ := List.mem_map.1 hx
  have ht2 := List.mem_range.1 ht
  have h256 : t < 256 := by omega
  have h1 := implInd_ev (m : Int) L (t : Int) hl hL
  have h2 := implInd_ev (m : Int) L' (t : Int) hl' hL'
  rw [indB_nat h256] at h1 h2
  unfold impl_commonSets.c
  refine Ev.bind h1 ?_
  show Ev _ (comN L L' (t : Int).toNat)
  rw [Int.toNat_natCast]
  unfold comN
  by_cases h : indN L t = true
  · rw [h, Bool.true_and]; exact Ev.ifp rfl h2
  · rw [Bool.eq_false_iff.2 h, Bool.false_and]; exact Ev.ifn (by decide) (Ev.now _)
end Go.Proofs.Ytagncnjllpebjaa.Q
namespace Go.Proofs.Ytagncnjllpebjaa.Q
open Go Go.RowKit Go.Proofs.Ytagncnjllpebjaa.A Go.Proofs.YtagncnjllpebjaaW.PrintWords Go.Proofs.YtagncnjllpebjaaW.PrintLast Go.Proofs.YtagncnjllpebjaaW.PrintMore Go.Proofs.Ytagncnjllpebjaa.Z
set_option linter.unusedVariables false
set_option linter.unusedSimpArgs false
def areW (n : Int) (w : List Int) : Bool := w.all (fun x => decide (-1000 ≤ x) && decide (x ≤ 1000)) && (decide (0 ≤ n) && decide (n ≤ 8)) && decide ((w.length : Int) = n)
theorem specAreWeights_l0 (n : Int) (l : List Int) (hl : l.length ≤ 17592186044416) : ∀ (rest pre : List Int), l = pre ++ rest → Ev (fun k => spec_AreWeights.l0 k n l (pre.length : Int)) (rest.all (fun x => decide (-1000 ≤ x) && decide (x ≤ 1000)) && (decide (0 ≤ n) && decide (n ≤ 8)) && decide ((l.length : Int) = n)) := by
  intro rest
  induction rest with
  | nil =>
    intro pre h
    apply Ev.step
    · intro k
      simp only [spec_AreWeights.l0, l1In_eq]
      rw [if_neg (by rw [h]; simp)]
    · simp only [Option.bind_some]
      by_cases hn : (decide (0 ≤ n) && decide (n ≤ 8)) = true
      · refine Ev.ifp hn ?_
        simp only [List.all_nil, hn, Bool.true_and]
        exact Ev.now _
      · refine Ev.ifn hn ?_
        simp only [List.all_nil, Bool.eq_false_iff.2 hn, Bool.false_and, Bool.true_and]
        exact Ev.now _
  | cons x rest ih =>
    intro pre h
    have hlen : (pre.length : Int) < (l.length : Int) := by rw [h]; simp; omega
    have e1 : rd l (pre.length : Int) = x := by rw [h]; exact rd_mid _ _ _
    apply Ev.step
    · intro k
      simp only [spec_AreWeights.l0, l1In_eq]
      rw [if_pos hlen, if_pos (by omega), e1]
    · simp only [Option.bind_some]
      by_cases hx : (decide (-1000 ≤ x) && decide (x ≤ 1000)) = true
      · refine Ev.ifp hx ?_
        have e : wrap64 ((pre.length : Int) + 1) = ((pre ++ [x]).length : Int) := by
          rw [wrap64_of (by omega) (by omega)]; simp
        rw [e]
        simpa only [List.all_cons, hx, Bool.true_and] using ih (pre ++ [x]) (by rw [h]; simp)
      · refine Ev.ifn hx ?_
        simp only [List.all_cons, Bool.eq_false_iff.2 hx, Bool.false_and]
        exact Ev.now _
theorem specAreWeights_ev (n : Int) (l : List Int) (hl : l.length ≤ 17592186044416) : Ev (fun k => spec_AreWeights.f k n l) (areW n l) :=
  specAreWeights_l0 n l hl l [] rfl
theorem implAreWeights_l0 (n : Int) (l : List Int) (hl : l.length ≤ 17592186044416) : ∀ (rest pre : List Int), l = pre ++ rest → Ev (fun k => impl_AreWeights.l0 k n l l (l.length : Int) (pre.length : Int)) (rest.all (fun x => decide (-1000 ≤ x) && decide (x ≤ 1000)) && (decide (0 ≤ n) && decide (n ≤ 8)) && decide ((l.length : Int) = n)) := by
  intro rest
  induction rest with
  | nil =>
    intro pre h
    apply Ev.step
    · intro k
      simp only [impl_AreWeights.l0, isSize_eq]
      rw [if_neg (by rw [h]; simp)]
    · simp only [Option.bind_some]
      by_cases hn : (decide (0 ≤ n) && decide (n ≤ 8)) = true
      · refine Ev.ifp hn ?_
        simp only [List.all_nil, hn, Bool.true_and]
        exact Ev.now _
      · refine Ev.ifn hn ?_
        simp only [List.all_nil, Bool.eq_false_iff.2 hn, Bool.false_and, Bool.true_and]
        exact Ev.now _
  | cons x rest ih =>
    intro pre h
    have hlen : (pre.length : Int) < (l.length : Int) := by rw [h]; simp; omega
    have e1 : rd l (pre.length : Int) = x := by rw [h]; exact rd_mid _ _ _
    apply Ev.step
    · intro k
      simp only [impl_AreWeights.l0, isSize_eq]
      rw [if_pos hlen, if_pos (by omega), if_pos hlen, e1]
    · by_cases h1 : x < -1000
      · refine Ev.ifp h1 ?_
        have : (decide (-1000 ≤ x)) = false := by simp; omega
        simp only [List.all_cons, this, Bool.false_and]
        exact Ev.now _
      · refine Ev.ifn h1 ?_
        by_cases h2 : x > 1000
        · refine Ev.ifp h2 ?_
          have : (decide (x ≤ 1000)) = false := by simp; omega
          simp only [List.all_cons, this, Bool.false_and, Bool.and_false]
          exact Ev.now _
        · refine Ev.ifn h2 ?_
          have hx : (decide (-1000 ≤ x) && decide (x ≤ 1000)) = true := by simp; omega
          have e : wrap64 ((pre.length : Int) + 1) = ((pre ++ [x]).length : Int) := by
            rw [wrap64_of (by omega) (by omega)]; simp
          rw [e]
          simpa only [List.all_cons, hx, Bool.true_and] using ih (pre ++ [x]) (by rw [h]; simp)
theorem implAreWeights_ev (n : Int) (l : List Int) (hl : l.length ≤ 17592186044416) : Ev (fun k => impl_AreWeights.f k n l) (areW n l) :=
  implAreWeights_l0 n l hl l [] rfl
end Go.Proofs.Ytagncnjllpebjaa.Q
namespace Go.Proofs.Ytagncnjllpebjaa.Q
open Go Go.RowKit Go.Proofs.Ytagncnjllpebjaa.A Go.Proofs.YtagncnjllpebjaaW.PrintWords Go.Proofs.YtagncnjllpebjaaW.PrintLast Go.Proofs.YtagncnjllpebjaaW.PrintMore Go.Proofs.Ytagncnjllpebjaa.Z
set_option linter.unusedVariables false
set_option linter.unusedSimpArgs false
/-- The sum of the weights at some places, beginning with acc. -/
def wfold (w : List Int) (acc : Int) (es : List Nat) : Int := es.foldl (fun (a : Int) (e : Nat) => wrap64 (a + rd w (e : Int))) acc
def weightB (w : List Int) (s : Int) : Int := wfold w 0 ((List.range 8).filter (fun e : Nat => decide (e < w.length) && hasB s (e : Int)))
theorem filter_range_swap (p : Nat → Bool) (a b : Nat) : (List.range a).filter (fun e => decide (e < b) && p e) = (List.range (min a b)).filter p := by
  induction a with
  | zero => simp
  | succ a ih =>
    rw [List.range_succ, List.filter_append, ih]
    by_cases h : a < b
    · rw [show min (a + 1) b = min a b + 1 from by omega, List.range_succ, List.filter_append]
      have e : min a b = a := by omega
      rw [e]
      congr 1
      simp [List.filter_cons, h]
    · rw [show min (a + 1) b = min a b from by omega]
      simp [List.filter_cons, h]
theorem specWeight_ev (w : List Int) (s : Int) (hl : w.length ≤ 17592186044416) : Ev (fun k => spec_WeightOf.f k w s) (weightB w s) := by
  have h := down (P := fun i => ∀ acc : Int, Ev (fun k => spec_WeightOf.l0 k w s acc (i : Int)) (wfold w acc ((List.range' i (w.length - i)).filter (fun e : Nat => hasB s (e : Int))))) w.length
    (by
      intro acc
      apply Ev.step
      · intro k
        simp only [spec_WeightOf.l0, specHas_eq, Option.bind_some]
        rw [if_neg (by omega)]
      · simpa [wfold] using Ev.now _)
    (by
      intro i hi ih acc
      apply Ev.step
      · intro k
        simp only [spec_WeightOf.l0, specHas_eq, Option.bind_some]
        rw [if_pos (by omega), w_succ hi hl]
      · rw [range'_cons hi, List.filter_cons]
        by_cases hx : hasB s (i : Int) = true
        · refine Ev.ifp hx (Ev.ifp (by omega) ?_)
          rw [if_pos hx]
          exact ih (wrap64 (acc + rd w (i : Int)))
        · refine Ev.ifn hx ?_
          rw [if_neg hx]
          exact ih acc)
  have h0 := h 0
  have e : (List.range' 0 (w.length - 0)).filter (fun e : Nat => hasB s (e : Int)) = (List.range 8).filter (fun e : Nat => decide (e < w.length) && hasB s (e : Int)) := by
    rw [Nat.sub_zero, ← List.range_eq_range', filter_range_swap, Nat.min_comm, ← filter_range_swap]
    apply List.filter_congr
    intro e _
    cases hq : hasB s (e : Int) with
    | false => simp
    | true =>
      have : e < 8 := by
        unfold hasB at hq
        simp only [Bool.and_eq_true, decide_eq_true_eq] at hq
        omega
      simp [this]
  rw [e] at h0
  exact h0
theorem implWeight_ev (w : List Int) (s : Int) (hl : w.length ≤ 17592186044416) : Ev (fun k => impl_WeightOf.f k w s) (weightB w s) := by
  unfold impl_WeightOf.f
  refine Ev.bind (implElements_ev s) ?_
  have hmem := @elsB_mem s
  have hlen := elsB_len s
  have key : weightB w s = (elsB s).foldl (fun a x => if x < (w.length : Int) then wrap64 (a + rd w x) else a) 0 := by
    unfold weightB wfold elsB
    rw [List.foldl_map]
    generalize (0 : Int) = acc
    generalize List.range 8 = l
    induction l generalizing acc with
    | nil => rfl
    | cons e l ih =>
      simp only [List.filter_cons]
      by_cases h1 : hasB s (e : Int) = true
      · by_cases h2 : e < w.length
        · rw [if_pos (by simp [h1, h2]), if_pos h1]
          simp only [List.foldl_cons]
          rw [if_pos (by omega)]
          exact ih _
        · rw [if_neg (by rw [show decide (e < w.length) = false from by simpa using h2]; simp), if_pos h1]
          simp only [List.foldl_cons]
          rw [if_neg (by omega)]
          exact ih _
      · rw [if_neg (by simp [h1]), if_neg h1]
        exact ih _
  rw [key]
  generalize elsB s = es at hmem hlen
  have h := down (P := fun i => ∀ acc : Int, Ev (fun k => impl_WeightOf.l0 k w acc es (es.length : Int) (i : Int)) ((es.drop i).foldl (fun a x => if x < (w.length : Int) then wrap64 (a + rd w x) else a) acc)) es.length
    (by
      intro acc
      apply Ev.step
      · intro k
        simp only [impl_WeightOf.l0]
        rw [if_neg (by omega)]
      · rw [drop_end]; exact Ev.now _)
    (by
      intro i hi ih acc
      obtain ⟨e, he, h8, _⟩ := hmem (List.getElem_mem hi)
      apply Ev.step
      · intro k
        simp only [impl_WeightOf.l0]
        rw [if_pos (by omega), if_pos (by omega), if_pos (by omega), rd_getElem es i hi, w_succ hi (by omega)]
      · rw [drop_cons es i hi, List.foldl_cons]
        by_cases hx : es[i] < (w.length : Int)
        · refine Ev.ifp hx (Ev.ifp (by omega) ?_)
          rw [if_pos hx]
          exact ih _
        · refine Ev.ifn hx ?_
          rw [if_neg hx]
          exact ih _)
  exact h 0
end Go.Proofs.Ytagncnjllpebjaa.Q
namespace Go.Proofs.Ytagncnjllpebjaa.Q
open Go Go.RowKit Go.Proofs.Ytagncnjllpebjaa.A Go.Proofs.YtagncnjllpebjaaW.PrintWords Go.Proofs.YtagncnjllpebjaaW.PrintLast Go.Proofs.YtagncnjllpebjaaW.PrintMore Go.Proofs.Ytagncnjllpebjaa.Z
set_option linter.unusedVariables false
set_option linter.unusedSimpArgs false
def bcStep (w : List Int) (c b : Int) (t : Nat) : Int := if (pc t : Int) = c then (if b < 0 then (t : Int) else (if weightB w (t : Int) > weightB w b then (t : Int) else b)) else b
def bcN (w : List Int) (c b : Int) (ts : List Nat) : Int := ts.foldl (bcStep w c) b
theorem bcN_cons (w : List Int) (c b : Int) (t : Nat) (ts : List Nat) : bcN w c b (t :: ts) = bcN w c (bcStep w c b t) ts := rfl
def fin2 (b : Int) : Int × Bool := if b < 0 then (0, false) else (b, true)
def bcB (n : Int) (l : List Int) (n' : Int) (l' w : List Int) (c : Int) : Int × Bool := if togB n l n' l' = true then (if areW n w = true then fin2 (bcN w c (-1) (csN n.toNat (l.map Int.toNat) (l'.map Int.toNat))) else (0, false)) else (0, false)
theorem specBc_ev (n : Int) (l : List Int) (n' : Int) (l' w : List Int) (c : Int) (hl : l.length ≤ 17592186044416) (hl' : l'.length ≤ 17592186044416) (hw : w.length ≤ 17592186044416) : Ev (fun k => spec_BestCommon.f k n l n' l' w c) (bcB n l n' l' w c) := by
  have hfin : ∀ x : Bool, x = true → Ev (fun k => spec_BestCommon.j0 k w c x n l n' l') (0, false) := by
    intro x hx
    apply Ev.step
    · intro k
      rw [spec_BestCommon.j0]
    · exact Ev.ifp hx (Ev.now _)
  unfold spec_BestCommon.f bcB
  have hc := specCommon_ev n l n' l' 0 hl hl'
  rw [commonB_zero] at hc
  refine Ev.bind hc ?_
  by_cases h : togB n l n' l' = true
  rotate_left
  · rw [if_neg h]; exact Ev.ifn h (hfin _ rfl)
  rw [if_pos h]
  refine Ev.ifp h (Ev.bind (specAreWeights_ev n w hw) ?_)
  by_cases h2 : areW n w = true
  rotate_left
  · rw [if_neg h2]; exact hfin _ (by rw [Bool.eq_false_iff.2 h2]; rfl)
  rw [if_pos h2, h2, Bool.not_true]
  obtain ⟨m, L, L', rfl, rfl, hm, rfl, rfl, hL, hL', hL256, hL256', hne, hne'⟩ := togB_nat h
  rw [show (ints L).map Int.toNat = L from toNat_map L, show (ints L').map Int.toNat = L' from toNat_map L', Int.toNat_natCast]
  rw [ints_len] at hl hl'
  have h2m := pow_le_256 hm
  have hp := Nat.two_pow_pos m
  have hd := down (P := fun t => ∀ b : Int, Ev (fun k => spec_BestCommon.l0 k w c b (t : Int) (m : Int) (ints L) (m : Int) (ints L')) (fin2 (bcN w c b ((List.range' t (2 ^ m - t)).filter (comN L L'))))) (2 ^ m)
    (by
      intro b
      apply Ev.step
      · intro k
        simp only [spec_BestCommon.l0, specFull_eq hm, Option.bind_some]
        rw [if_neg (by unfold fullN; omega)]
      · rw [Nat.sub_self]
        show Ev _ (fin2 b)
        unfold fin2
        by_cases hb : b < 0
        · refine Ev.ifp hb ?_
          rw [if_pos hb]; exact Ev.now _
        · refine Ev.ifn hb ?_
          rw [if_neg hb]; exact Ev.now _)
    (by
      intro t ht ih b
      have h256 : t < 256 := by omega
      apply Ev.step
      · intro k
        simp only [spec_BestCommon.l0, specFull_eq hm, Option.bind_some]
        rw [if_pos (by unfold fullN; omega), w_succ ht (by omega)]
      · rw [range'_cons' ht, List.filter_cons]
        refine Ev.bind (specCount_ev t h256) ?_
        have hf1 := specFree_ev (m : Int) L t hl hL256 hne h256
        have hf2 := specFree_ev (m : Int) L' t hl' hL256' hne' h256
        by_cases hq : (pc t : Int) = c
        · refine Ev.ifp hq (Ev.bind hf1 ?_)
          unfold comN
          by_cases h1 : indN L t = true
          · refine Ev.ifp h1 (Ev.bind hf2 ?_)
            rw [h1, Bool.true_and]
            by_cases h2 : indN L' t = true
            · rw [if_pos h2, bcN_cons]
              refine Ev.ifp h2 ?_
              unfold bcStep
              rw [if_pos hq]
              by_cases hb : b < 0
              · rw [if_pos hb]; exact Ev.ifp hb (ih _)
              · rw [if_neg hb]
                refine Ev.ifn hb (Ev.bind (specWeight_ev w (t : Int) hw) (Ev.bind (specWeight_ev w b hw) ?_))
                by_cases hg : weightB w (t : Int) > weightB w b
                · rw [if_pos hg]; exact Ev.ifp hg (ih _)
                · rw [if_neg hg]; exact Ev.ifn hg (ih _)
            · rw [if_neg h2]
              exact Ev.ifn h2 (ih b)
          · rw [Bool.eq_false_iff.2 h1, Bool.false_and, if_neg (by decide)]
            exact Ev.ifn (by decide) (ih b)
        · refine Ev.ifn hq ?_
          by_cases h1 : comN L L' t = true
          · rw [if_pos h1, bcN_cons]
            have := ih b
            rw [show bcStep w c b t = b from by unfold bcStep; rw [if_neg hq]]
            exact this
          · rw [if_neg h1]; exact ih b)
  have h0 := hd (-1)
  rw [Nat.sub_zero, ← List.range_eq_range'] at h0
  apply Ev.step
  · intro k
    rw [spec_BestCommon.j0]
  · exact Ev.ifn (by decide) h0
theorem implBc_ev (n : Int) (l : List Int) (n' : Int) (l' w : List Int) (c : Int) (hl : l.length ≤ 17592186044416) (hl' : l'.length ≤ 17592186044416) (hw : w.length ≤ 17592186044416) : Ev (fun k => impl_BestCommon.f k n l n' l' w c) (bcB n l n' l' w c) := by
  have hfin : ∀ x : Bool, x = true → Ev (fun k => impl_BestCommon.j0 k w c x n l n' l') (0, false) := by
    intro x hx
    apply Ev.step
    · intro k
      rw [impl_BestCommon.j0]
    · exact Ev.ifp hx (Ev.now _)
  unfold impl_BestCommon.f bcB
  refine Ev.bind (tog_ev n l n' l' hl hl') ?_
  by_cases h : togB n l n' l' = true
  rotate_left
  · rw [if_neg h]; exact Ev.ifn h (hfin _ rfl)
  rw [if_pos h]
  refine Ev.ifp h (Ev.bind (implAreWeights_ev n w hw) ?_)
  by_cases h2 : areW n w = true
  rotate_left
  · rw [if_neg h2]; exact hfin _ (by rw [Bool.eq_false_iff.2 h2]; rfl)
  rw [if_pos h2, h2, Bool.not_true]
  obtain ⟨m, L, L', rfl, rfl, hm, rfl, rfl, hL, hL', hL256, hL256', hne, hne'⟩ := togB_nat h
  rw [show (ints L).map Int.toNat = L from toNat_map L, show (ints L').map Int.toNat = L' from toNat_map L', Int.toNat_natCast]
  rw [ints_len] at hl hl'
  have h2m := pow_le_256 hm
  have hcl := csN_len hm L L'
  have hsets := implSets_ev hm L L' hl hl' hL256 hL256'
  have hmem : ∀ t ∈ csN m L L', t < 256 := fun t ht => Nat.lt_of_lt_of_le (csN_lt ht) h2m
  generalize csN m L L' = C at hmem hcl hsets ⊢
  have hd := down (P := fun i => ∀ b : Int, Ev (fun k => impl_BestCommon.l0 k w c b (ints C) ((ints C).length : Int) (i : Int)) (fin2 (bcN w c b (C.drop i)))) C.length
    (by
      intro b
      apply Ev.step
      · intro k
        simp only [impl_BestCommon.l0]
        rw [if_neg (by rw [ints_len]; omega)]
      · rw [drop_end]
        show Ev _ (fin2 b)
        unfold fin2
        by_cases hb : b < 0
        · refine Ev.ifp hb ?_
          rw [if_pos hb]; exact Ev.now _
        · refine Ev.ifn hb ?_
          rw [if_neg hb]; exact Ev.now _)
    (by
      intro i hi ih b
      have ht := hmem _ (List.getElem_mem hi)
      apply Ev.step
      · intro k
        simp only [impl_BestCommon.l0]
        rw [if_pos (by rw [ints_len]; omega), if_pos (by omega), if_pos (by rw [ints_len]; omega), ints_rd C i hi, w_succ hi (by omega), implCount_eq _ ht, Option.bind_some]
      · rw [drop_cons C i hi, bcN_cons]
        unfold bcStep
        by_cases hq : (pc C[i] : Int) = c
        · rw [if_pos hq]
          refine Ev.ifp hq ?_
          by_cases hb : b < 0
          · rw [if_pos hb]; exact Ev.ifp hb (ih _)
          · rw [if_neg hb]
            refine Ev.ifn hb (Ev.bind (implWeight_ev w (C[i] : Int) hw) (Ev.bind (implWeight_ev w b hw) ?_))
            by_cases hg : weightB w (C[i] : Int) > weightB w b
            · rw [if_pos hg]; exact Ev.ifp hg (ih _)
            · rw [if_neg hg]; exact Ev.ifn hg (ih _)
        · rw [if_neg hq]; exact Ev.ifn hq (ih _))
  apply Ev.step
  · intro k
    rw [impl_BestCommon.j0]
  · exact Ev.ifn (by decide) (Ev.bind hsets (hd (-1)))
end Go.Proofs.Ytagncnjllpebjaa.Q
namespace Go.Proofs.Ytagncnjllpebjaa.Q
open Go Go.RowKit Go.Proofs.Ytagncnjllpebjaa.A Go.Proofs.YtagncnjllpebjaaW.PrintWords Go.Proofs.YtagncnjllpebjaaW.PrintLast Go.Proofs.YtagncnjllpebjaaW.PrintMore Go.Proofs.Ytagncnjllpebjaa.Z
set_option linter.unusedVariables false
set_option linter.unusedSimpArgs false
theorem pc_full_all : ∀ m < 9, pc (fullN m) = m := by decide +kernel
theorem pc_le_size {m t : Nat} (hm : m ≤ 8) (ht : t < 2 ^ m) : pc t ≤ m := by
  rw [← pc_full_all m (by omega)]
  apply pc_mono
  intro i _ hi
  rw [full_bit]
  rcases Nat.lt_or_ge i m with h | h
  · exact decide_eq_true h
  · have := Nat.testBit_lt_two_pow (Nat.lt_of_lt_of_le ht (Nat.pow_le_pow_right (by omega) h))
    rw [hi] at this; cases this
theorem bcN_none {w : List Int} {c : Int} {ts : List Nat} (h : ∀ t ∈ ts, (pc t : Int) ≠ c) : ∀ b : Int, bcN w c b ts = b := by
  induction ts with
  | nil => intro b; rfl
  | cons t ts ih =>
    intro b
    rw [bcN_cons, show bcStep w c b t = b from by unfold bcStep; rw [if_neg (h t (List.mem_cons_self ..))]]
    exact ih (fun x hx => h x (List.mem_cons_of_mem _ hx)) b
theorem bcB_over {n : Int} {l : List Int} {n' : Int} {l' w : List Int} {c : Int} (h : n < c) : (bcB n l n' l' w c).2 = false := by
  unfold bcB
  by_cases h1 : togB n l n' l' = true
  · rw [if_pos h1]
    by_cases h2 : areW n w = true
    · rw [if_pos h2]
      obtain ⟨m, L, L', rfl, rfl, hm, rfl, rfl, hL, hL', hL256, hL256', hne, hne'⟩ := togB_nat h1
      rw [show (ints L).map Int.toNat = L from toNat_map L, show (ints L').map Int.toNat = L' from toNat_map L', Int.toNat_natCast]
      rw [bcN_none (fun t ht => by have := pc_le_size hm (csN_lt ht); omega)]
      rfl
    · rw [if_neg h2]
  · rw [if_neg h1]
/-- The weights from size c on, j more sizes at most. -/
def bwN (n : Int) (l : List Int) (n' : Int) (l' w : List Int) : Nat → Nat → List Int
  | 0, _ => []
  | j + 1, c => if (bcB n l n' l' w (c : Int)).2 = true then weightB w (bcB n l n' l' w (c : Int)).1 :: bwN n l n' l' w j (c + 1) else []
theorem bwN_len (n : Int) (l : List Int) (n' : Int) (l' w : List Int) : ∀ j c : Nat, (bwN n l n' l' w j c).length ≤ j := by
  intro j
  induction j with
  | zero => intro c; exact Nat.le_refl _
  | succ j ih =>
    intro c
    simp only [bwN]
    by_cases h : (bcB n l n' l' w (c : Int)).2 = true
    · rw [if_pos h, List.length_cons]
      have := ih (c + 1)
      omega
    · rw [if_neg h]; exact Nat.zero_le _
theorem bcB_size {n : Int} {l : List Int} {n' : Int} {l' w : List Int} {c : Int} (h : (bcB n l n' l' w c).2 = true) : 0 ≤ n ∧ n ≤ 8 := by
  unfold bcB at h
  by_cases h1 : togB n l n' l' = true
  · obtain ⟨m, L, L', rfl, rfl, hm, rfl, rfl, hL, hL', hL256, hL256', hne, hne'⟩ := togB_nat h1
    omega
  · rw [if_neg h1] at h; cases h
def bwB (n : Int) (l : List Int) (n' : Int) (l' w : List Int) : List Int := bwN n l n' l' w 9 0
theorem bwB_len (n : Int) (l : List Int) (n' : Int) (l' w : List Int) : (bwB n l n' l' w).length ≤ 9 := bwN_len n l n' l' w 9 0
theorem bwN_stop {n : Int} {l : List Int} {n' : Int} {l' w : List Int} {c : Nat} (h : (bcB n l n' l' w (c : Int)).2 = false) (j : Nat) : bwN n l n' l' w j c = [] := by
  cases j with
  | zero => rfl
  | succ j =>
    simp only [bwN]
    rw [h, if_neg (by decide)]
theorem specBw_ev (n : Int) (l : List Int) (n' : Int) (l' w : List Int) (hl : l.length ≤ 17592186044416) (hl' : l'.length ≤ 17592186044416) (hw : w.length ≤ 17592186044416) : Ev (fun k => spec_BestWeights.f k n l n' l' w) (bwB n l n' l' w) := by
  have hd := down (P := fun c => ∀ acc : List Int, acc.length ≤ c → Ev (fun k => spec_BestWeights.l0 k w acc (c : Int) n l n' l') (acc ++ bwN n l n' l' w (9 - c) c)) 9
    (by
      intro acc _
      apply Ev.step
      · intro k
        rw [spec_BestWeights.l0]
      · by_cases hc : ((9 : Nat) : Int) ≤ n
        · refine Ev.ifp hc (Ev.bind (specBc_ev n l n' l' w _ hl hl' hw) ?_)
          have : ¬ (bcB n l n' l' w ((9 : Nat) : Int)).2 = true := fun h => by have := bcB_size h; omega
          rw [bwN_stop (Bool.eq_false_iff.2 this), List.append_nil]
          exact Ev.ifn this (Ev.now _)
        · rw [Nat.sub_self, show bwN n l n' l' w 0 9 = [] from rfl, List.append_nil]
          exact Ev.ifn hc (Ev.now _))
    (by
      intro c hc ih acc ha
      apply Ev.step
      · intro k
        rw [spec_BestWeights.l0, w_succ hc (by omega)]
      · by_cases h1 : ((c : Nat) : Int) ≤ n
        · refine Ev.ifp h1 (Ev.bind (specBc_ev n l n' l' w _ hl hl' hw) ?_)
          obtain ⟨j, hj⟩ : ∃ j, 9 - c = j + 1 := ⟨9 - c - 1, by omega⟩
          by_cases h2 : (bcB n l n' l' w (c : Int)).2 = true
          · refine Ev.ifp h2 (Ev.bind (specWeight_ev w _ hw) (Ev.ifp (by omega) ?_))
            have := ih (acc ++ [weightB w (bcB n l n' l' w (c : Int)).1]) (by rw [List.length_append, List.length_singleton]; omega)
            rw [List.append_assoc, List.singleton_append, show 9 - (c + 1) = j from by omega] at this
            rw [hj]
            simp only [bwN]
            rw [if_pos h2]
            exact this
          · rw [bwN_stop (Bool.eq_false_iff.2 h2), List.append_nil]
            exact Ev.ifn h2 (Ev.now _)
        · rw [bwN_stop (bcB_over (by omega)), List.append_nil]
          exact Ev.ifn h1 (Ev.now _))
  unfold spec_BestWeights.f
  have h0 := hd [] (by simp)
  rw [List.nil_append] at h0
  exact h0
theorem implBw_ev (n : Int) (l : List Int) (n' : Int) (l' w : List Int) (hl : l.length ≤ 17592186044416) (hl' : l'.length ≤ 17592186044416) (hw : w.length ≤ 17592186044416) : Ev (fun k => impl_BestWeights.f k n l n' l' w) (bwB n l n' l' w) := by
  have hd := down (P := fun c => ∀ acc : List Int, acc.length ≤ c → Ev (fun k => impl_BestWeights.l0 k w acc (c : Int) n l n' l') (acc ++ bwN n l n' l' w (9 - c) c)) 9
    (by
      intro acc _
      apply Ev.step
      · intro k
        rw [impl_BestWeights.l0]
      · refine Ev.bind (implBc_ev n l n' l' w _ hl hl' hw) ?_
        have : ¬ (bcB n l n' l' w ((9 : Nat) : Int)).2 = true := fun h => by
          have hs := bcB_size h
          have ho := bcB_over (l := l) (n' := n') (l' := l') (w := w) (show n < ((9 : Nat) : Int) by omega)
          rw [h] at ho; cases ho
        rw [bwN_stop (Bool.eq_false_iff.2 this), List.append_nil]
        exact Ev.ifn this (Ev.now _))
    (by
      intro c hc ih acc ha
      apply Ev.step
      · intro k
        rw [impl_BestWeights.l0, w_succ hc (by omega)]
      · refine Ev.bind (implBc_ev n l n' l' w _ hl hl' hw) ?_
        obtain ⟨j, hj⟩ : ∃ j, 9 - c = j + 1 := ⟨9 - c - 1, by omega⟩
        by_cases h2 : (bcB n l n' l' w (c : Int)).2 = true
        · refine Ev.ifp h2 (Ev.bind (implWeight_ev w _ hw) (Ev.ifp (by omega) ?_))
          have := ih (acc ++ [weightB w (bcB n l n' l' w (c : Int)).1]) (by rw [List.length_append, List.length_singleton]; omega)
          rw [List.append_assoc, List.singleton_append, show 9 - (c + 1) = j from by omega] at this
          rw [hj]
          simp only [bwN]
          rw [if_pos h2]
          exact this
        · rw [bwN_stop (Bool.eq_false_iff.2 h2), List.append_nil]
          exact Ev.ifn h2 (Ev.now _))
  unfold impl_BestWeights.f
  have h0 := hd [] (by simp)
  rw [List.nil_append] at h0
  exact h0
end Go.Proofs.Ytagncnjllpebjaa.Q
namespace Go.Proofs.Ytagncnjllpebjaa.Pure
open Go Go.RowKit Go.Proofs.Ytagncnjllpebjaa.A Go.Proofs.YtagncnjllpebjaaW.PrintWords Go.Proofs.YtagncnjllpebjaaW.PrintLast Go.Proofs.YtagncnjllpebjaaW.PrintMore Go.Proofs.Ytagncnjllpebjaa.Z Go.Proofs.Ytagncnjllpebjaa.Q
set_option linter.unusedVariables false
set_option linter.unusedSimpArgs false
theorem FnExactBestWeights : laws_FnExactBestWeights.Pure := by
  intro n l n' l' w hn hm hw hn' hm' hw' hm1 hw1
  unfold laws_FnExactBestWeights.f
  refine Ev.rounds ?_
  by_cases h0 : (w.length : Int) > 1048576
  · exact Ev.ifp h0 (Ev.now _)
  refine Ev.ifn h0 (Ev.cbind (szMat_eq n l 1048576 (by omega) (by omega) hm) ?_)
  by_cases h1 : (l.length : Int) > 1048576
  · rw [if_pos h1]
    exact Ev.ifp (by decide) (Ev.now _)
  rw [if_neg h1]
  refine Ev.ifn (by omega) (Ev.cbind (szMat_eq n' l' _ (by omega) (by omega) hm') ?_)
  by_cases h2 : (l'.length : Int) > 1048576 - (l.length : Int)
  · rw [if_pos h2]
    exact Ev.ifp (by decide) (Ev.now _)
  rw [if_neg h2]
  refine Ev.ifn (by omega) ?_
  have hl : l.length ≤ 17592186044416 := by omega
  have hl' : l'.length ≤ 17592186044416 := by omega
  have hlw : w.length ≤ 17592186044416 := by omega
  have hg : (bwB n l n' l' w).length ≤ 17592186044416 := Nat.le_trans (bwB_len n l n' l' w) (by decide)
  refine Ev.bind (toMat_ev n l hl) (Ev.bind (toMat_ev n' l' hl') (Ev.bind (toInt_ev w hlw) (Ev.bind (specBw_ev n l n' l' w hl hl' hlw) (Ev.bind (toMat_ev n l hl) (Ev.bind (toMat_ev n' l' hl') (Ev.bind (toInt_ev w hlw) (Ev.bind (implBw_ev n l n' l' w hl hl' hlw) (Ev.bind (eqInt_self _ hg) (Ev.ifp rfl ?_)))))))))
  refine Ev.bind (toMat_ev n l hl) (Ev.bind (eqMat_ev n l hl) (Ev.ifp rfl ?_))
  refine Ev.bind (toMat_ev n' l' hl') (Ev.bind (eqMat_ev n' l' hl') (Ev.ifp rfl ?_))
  refine Ev.bind (toInt_ev w hlw) (Ev.bind (eqInt_self w hlw) (Ev.ifp rfl ?_))
  have hmk : Ev (fun k => laws_markMatroid.f k n l 1) (1 + (l.length : Int), marks 1 l.length) := by
    unfold laws_markMatroid.f
    exact Ev.bind (mark_ev l 1 (by omega) (by omega) hl) (Ev.now _)
  have hmk2 : Ev (fun k => laws_markMatroid.f k n' l' (1 + (l.length : Int))) (1 + (l.length : Int) + (l'.length : Int), marks (1 + (l.length : Int)) l'.length) := by
    unfold laws_markMatroid.f
    exact Ev.bind (mark_ev l' (1 + (l.length : Int)) (by omega) (by omega) hl') (Ev.now _)
  refine Ev.bind hmk (Ev.bind hmk2 (Ev.bind (mark_ev w (1 + (l.length : Int) + (l'.length : Int)) (by omega) (by omega) hlw) (Ev.ifn (by simp only []; omega) (Ev.bind (eqInt_self _ hg) ?_))))
  apply Ev.step
  · intro k
    rw [laws_FnExactBestWeights.j0]
  refine Ev.ifn (by decide) ?_
  refine Ev.bind (mark_ev _ 1 (by omega) (by omega) hg) (Ev.bind (held_ev _ 1 (by omega) (by omega) hg) ?_)
  refine Ev.ifn (by omega) (Ev.ifp rfl ?_)
  refine Ev.bind (toMat_ev n l hl) (Ev.bind (toMat_ev n' l' hl') (Ev.bind (toInt_ev w hlw) (Ev.bind (implBw_ev n l n' l' w hl hl' hlw) (Ev.bind (eqInt_self _ hg) (Ev.ifp rfl ?_)))))
  refine Ev.bind (held_ev _ 1 (by omega) (by omega) hg) ?_
  exact Ev.ifn (by omega) (Ev.ifp rfl (Ev.now _))
end Go.Proofs.Ytagncnjllpebjaa.Pure
