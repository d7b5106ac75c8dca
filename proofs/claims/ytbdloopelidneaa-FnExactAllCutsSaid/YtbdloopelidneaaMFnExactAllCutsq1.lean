/- The pure side of the law FnExactAllCuts: what the Lean functions of the print compute, and that the law holds of them. Conditions: those in each lemma. -/
import Derived.Test.YtbdloopelidneaaMFnExactAllCuts1
import Derived.Test.YtbdloopelidneaaMFnExactAllCuts2
import Derived.Test.YtbdloopelidneaaMFnExactAllCuts3
import Derived.Test.YtbdloopelidneaaMFnExactAllCuts4
import Derived.Test.YtbdloopelidneaaMFnExactAllCuts5
import Derived.Test.YtbdloopelidneaaMFnExactAllCuts6
import Derived.Test.YtbdloopelidneaaMFnExactAllCuts7
import Derived.Test.YtbdloopelidneaaMFnExactAllCutsq0
namespace Go.Proofs.Ytbdloopelidneaa.A
open Go.RowKit
def laws_FnExactAllCuts.Pure : Prop := ∀ (a0_0 : Int) (l0_1 : List Int), (Lit.int .i64 a0_0).wf = true → l0_1.length ≤ maxLen → (∀ x ∈ l0_1, (Lit.int .i64 x).wf = true) → ∃ k, laws_FnExactAllCuts.f k a0_0 l0_1 = some true
end Go.Proofs.Ytbdloopelidneaa.A
namespace Go.Proofs.Ytbdloopelidneaa.Q
open Go Go.RowKit Go.Proofs.Ytbdloopelidneaa.A Go.Proofs.YtbdloopelidneaaW.PrintWords Go.Proofs.YtbdloopelidneaaW.PrintLast Go.Proofs.YtbdloopelidneaaW.PrintMore Go.Proofs.Ytbdloopelidneaa.Z
set_option linter.unusedVariables false
set_option linter.unusedSimpArgs false
theorem toInt_l0 (l : List Int) (hl : l.length ≤ 17592186044416) : ∀ (rest pre : List Int), l = pre ++ rest → Ev (fun k => laws_toIntS.l0 k l (pre ++ List.replicate rest.length 0) (pre.length : Int)) l := by
  intro rest
  induction rest with
  | nil =>
    intro pre h
    apply Ev.step
    · intro k
      simp only [laws_toIntS.l0]
      rw [if_neg (by rw [h]; simp)]
    · subst h; simpa using Ev.now _
  | cons x rest ih =>
    intro pre h
    have hlen : (pre.length : Int) < (l.length : Int) := by rw [h]; simp; omega
    apply Ev.step
    · intro k
      simp only [laws_toIntS.l0]
      rw [if_pos hlen, if_pos (by omega), if_pos (by simp; omega)]
    · have := ih (pre ++ [x]) (by rw [h]; simp)
      have e : wrap64 ((pre.length : Int) + 1) = ((pre ++ [x]).length : Int) := by
        rw [wrap64_of (by omega) (by omega)]; simp
      rw [e]
      have e2 : (pre ++ List.replicate (x :: rest).length 0).set (pre.length : Int).toNat (rd l (pre.length : Int)) = (pre ++ [x]) ++ List.replicate rest.length 0 := by
        have : rd l (pre.length : Int) = x := by rw [h]; exact rd_mid _ _ _
        rw [this]
        simp [List.replicate_succ]
      rw [e2]
      exact this
theorem toInt_ev (l : List Int) (hl : l.length ≤ 17592186044416) : Ev (fun k => laws_toIntS.f k l) l := by
  unfold laws_toIntS.f
  refine Ev.ifp (by omega) (Ev.ifp (by simp; omega) ?_)
  simpa using toInt_l0 l hl l [] rfl
theorem eqInt_l0 (l : List Int) (hl : l.length ≤ 17592186044416) (l' : List Int) (hll : l'.length = l.length) : ∀ (rest rest' pre : List Int), l = pre ++ rest → l' = pre ++ rest' → Ev (fun k => laws_eqIntS.l0 k l l' (pre.length : Int)) (decide (l = l')) := by
  intro rest
  induction rest with
  | nil =>
    intro rest' pre h h'
    have : rest' = [] := by
      apply List.eq_nil_of_length_eq_zero
      have h1 := congrArg List.length h
      have h2 := congrArg List.length h'
      rw [List.length_append] at h1 h2
      simp only [List.length_nil] at h1
      omega
    subst this
    apply Ev.step
    · intro k
      simp only [laws_eqIntS.l0]
      rw [if_neg (by rw [h]; simp)]
    · have : l = l' := by rw [h, h']
      simpa [this] using Ev.now _
  | cons x rest ih =>
    intro rest' pre h h'
    have hlen : (pre.length : Int) < (l.length : Int) := by rw [h]; simp; omega
    cases rest' with
    | nil => exact absurd hll (by rw [h, h']; simp)
    | cons y rest' =>
    have e1 : rd l (pre.length : Int) = x := by rw [h]; exact rd_mid _ _ _
    have e2 : rd l' (pre.length : Int) = y := by rw [h']; exact rd_mid _ _ _
    by_cases hxy : x = y
    · subst hxy
      apply Ev.step
      · intro k
        simp only [laws_eqIntS.l0]
        rw [if_pos hlen, if_pos (by omega), if_pos (by omega), if_pos (by rw [e1, e2])]
      · have := ih rest' (pre ++ [x]) (by rw [h]; simp) (by rw [h']; simp)
        have e : wrap64 ((pre.length : Int) + 1) = ((pre ++ [x]).length : Int) := by
          rw [wrap64_of (by omega) (by omega)]; simp
        rw [e]
        exact this
    · apply Ev.step
      · intro k
        simp only [laws_eqIntS.l0]
        rw [if_pos hlen, if_pos (by omega), if_pos (by omega), if_neg (by rw [e1, e2]; exact hxy)]
      · have : l ≠ l' := by rw [h, h']; simp [hxy]
        simpa [this] using Ev.now _
theorem eqInt_ev (l l' : List Int) (hl : l.length ≤ 17592186044416) : Ev (fun k => laws_eqIntS.f k l l') (decide (l = l')) := by
  unfold laws_eqIntS.f
  by_cases h : (l.length : Int) = (l'.length : Int)
  · refine Ev.ifp h ?_
    exact eqInt_l0 l hl l' (by omega) l l' [] rfl rfl
  · refine Ev.ifn h ?_
    have : l ≠ l' := by rintro rfl; exact h rfl
    simpa [this] using Ev.now _
theorem eqInt_self (l : List Int) (hl : l.length ≤ 17592186044416) : Ev (fun k => laws_eqIntS.f k l l) true := by simpa using eqInt_ev l l hl
end Go.Proofs.Ytbdloopelidneaa.Q
namespace Go.Proofs.Ytbdloopelidneaa.Q
open Go Go.RowKit Go.Proofs.Ytbdloopelidneaa.A Go.Proofs.YtbdloopelidneaaW.PrintWords Go.Proofs.YtbdloopelidneaaW.PrintLast Go.Proofs.YtbdloopelidneaaW.PrintMore Go.Proofs.Ytbdloopelidneaa.Z
set_option linter.unusedVariables false
set_option linter.unusedSimpArgs false
theorem szMat_eq (n : Int) (l : List Int) (left : Int) (h0 : 0 ≤ left) (h1 : left ≤ 1048576) (hl : l.length ≤ maxLen) : laws_szMatroid.f n l left = some (if (l.length : Int) > left then -1 else left - (l.length : Int)) := by
  unfold maxLen at hl
  unfold laws_szMatroid.f laws_szIntS.f
  rw [wrap64_of (by omega) (by omega)]
  by_cases h : (l.length : Int) > left
  · rw [if_pos h, if_pos (by omega), Option.bind_some, if_pos (by decide)]
  · rw [if_neg h, if_neg (by omega), Option.bind_some, if_neg (by omega)]
theorem toMat_ev (n : Int) (l : List Int) (hl : l.length ≤ 17592186044416) : Ev (fun k => laws_toMatroid.f k n l) (n, l) := by
  unfold laws_toMatroid.f
  exact Ev.bind (toInt_ev l hl) (Ev.now _)
theorem eqMat_ev (n : Int) (l : List Int) (hl : l.length ≤ 17592186044416) : Ev (fun k => laws_eqMatroid.f k n l n l) true := by
  unfold laws_eqMatroid.f
  refine Ev.ifp rfl (Ev.bind (eqInt_self l hl) (Ev.ifp rfl (Ev.now _)))
end Go.Proofs.Ytbdloopelidneaa.Q
namespace Go.Proofs.Ytbdloopelidneaa.Q
open Go Go.RowKit Go.Proofs.Ytbdloopelidneaa.A Go.Proofs.YtbdloopelidneaaW.PrintWords Go.Proofs.YtbdloopelidneaaW.PrintLast Go.Proofs.YtbdloopelidneaaW.PrintMore Go.Proofs.Ytbdloopelidneaa.Z
set_option linter.unusedVariables false
set_option linter.unusedSimpArgs false
/-- n numbers that go up by one from a. -/
def marks (a : Int) (n : Nat) : List Int := (List.range n).map (fun i : Nat => a + (i : Int))
theorem marks_len (a : Int) (n : Nat) : (marks a n).length = n := by simp [marks]
theorem marks_succ (a : Int) (n : Nat) : marks a (n + 1) = marks a n ++ [a + (n : Int)] := by simp [marks, List.range_succ]
theorem marks_get (a : Int) (n i : Nat) (h : i < n) : rd (marks a n) (i : Int) = a + (i : Int) := by
  rw [rd_getElem _ i (by rw [marks_len]; exact h)]
  simp [marks]
theorem mark_ev (l : List Int) (a : Int) (h0 : 0 ≤ a) (h1 : a ≤ 1000000000000000) (hl : l.length ≤ 17592186044416) : Ev (fun k => laws_markIntS.f k l a) (a + (l.length : Int), marks a l.length) := by
  have h := down (P := fun i => Ev (fun k => laws_markIntS.l0 k (marks a i ++ l.drop i) (a + (i : Int)) (i : Int)) (a + (l.length : Int), marks a l.length)) l.length
    (by
      apply Ev.step
      · intro k
        simp only [laws_markIntS.l0]
        rw [if_neg (by rw [List.length_append, marks_len, List.length_drop]; omega)]
      · rw [drop_end, List.append_nil]
        exact Ev.now _)
    (by
      intro i hi ih
      apply Ev.step
      · intro k
        simp only [laws_markIntS.l0]
        rw [if_pos (by rw [List.length_append, marks_len, List.length_drop]; omega), if_pos (by omega), w_succ hi hl, wrap64_of (by omega) (by omega)]
      · have e : (marks a i ++ l.drop i).set (i : Int).toNat (a + (i : Int)) = marks a (i + 1) ++ l.drop (i + 1) := by
          rw [drop_cons l i hi, marks_succ, Int.toNat_natCast, List.set_append_right _ _ (by rw [marks_len]; omega), marks_len, Nat.sub_self, List.set_cons_zero, List.append_assoc]
          rfl
        rw [e, show a + (i : Int) + 1 = a + ((i + 1 : Nat) : Int) from by omega]
        exact ih)
  have e : marks a 0 ++ l.drop 0 = l := by simp [marks]
  rw [e, show a + ((0 : Nat) : Int) = a from by omega] at h
  exact h
theorem held_ev (n : Nat) (a : Int) (h0 : 0 ≤ a) (h1 : a ≤ 1000000000000000) (hl : n ≤ 17592186044416) : Ev (fun k => laws_heldIntS.f k (marks a n) a) (a + (n : Int)) := by
  have h := down (P := fun i => Ev (fun k => laws_heldIntS.l0 k (marks a n) (a + (i : Int)) (i : Int)) (a + (n : Int))) n
    (by
      apply Ev.step
      · intro k
        simp only [laws_heldIntS.l0]
        rw [if_neg (by rw [marks_len]; omega)]
      · exact Ev.now _)
    (by
      intro i hi ih
      apply Ev.step
      · intro k
        simp only [laws_heldIntS.l0]
        rw [if_pos (by rw [marks_len]; omega), if_pos (by omega), if_pos (marks_get a n i hi), w_succ hi hl, wrap64_of (by omega) (by omega)]
      · rw [show a + (i : Int) + 1 = a + ((i + 1 : Nat) : Int) from by omega]
        exact ih)
  rw [show a + ((0 : Nat) : Int) = a from by omega] at h
  exact h
end Go.Proofs.Ytbdloopelidneaa.Q
namespace Go.Proofs.Ytbdloopelidneaa.Q
open Go Go.RowKit Go.Proofs.Ytbdloopelidneaa.A Go.Proofs.YtbdloopelidneaaW.PrintWords Go.Proofs.YtbdloopelidneaaW.PrintLast Go.Proofs.YtbdloopelidneaaW.PrintMore Go.Proofs.Ytbdloopelidneaa.Z
set_option linter.unusedVariables false
set_option linter.unusedSimpArgs false
theorem markMat_ev (n : Int) (l : List Int) (hl : l.length ≤ 17592186044416) : Ev (fun k => laws_markMatroid.f k n l 1) (1 + (l.length : Int), marks 1 l.length) := by
  unfold laws_markMatroid.f
  exact Ev.bind (mark_ev l 1 (by omega) (by omega) hl) (Ev.now _)
end Go.Proofs.Ytbdloopelidneaa.Q
namespace Go.Proofs.Ytbdloopelidneaa.Q
open Go Go.RowKit Go.Proofs.Ytbdloopelidneaa.A Go.Proofs.YtbdloopelidneaaW.PrintWords Go.Proofs.YtbdloopelidneaaW.PrintLast Go.Proofs.YtbdloopelidneaaW.PrintMore Go.Proofs.Ytbdloopelidneaa.Z
set_option linter.unusedVariables false
set_option linter.unusedSimpArgs false
theorem l1In_eq (a b c : Int) : spec_l1In.f a b c = some (decide (b ≤ a) && decide (a ≤ c)) := by
  unfold spec_l1In.f
  by_cases h : a ≥ b
  · rw [if_pos h]; simp [h]
  · rw [if_neg h]; simp only [ge_iff_le] at h; simp [h]
theorem isSize_eq (a : Int) : impl_isSize.f a = some (decide (0 ≤ a) && decide (a ≤ 8)) := by
  unfold impl_isSize.f
  by_cases h : a ≥ 0
  · rw [if_pos h]; simp [h]
  · rw [if_neg h]; simp only [ge_iff_le] at h; simp [h]
theorem specIsSet_eq (n s : Int) : spec_IsSet.f n s = some (isSetB n s) := by
  unfold spec_IsSet.f
  rw [l1In_eq, Option.bind_some]
  unfold isSetB
  by_cases h : (decide (0 ≤ n) && decide (n ≤ 8)) = true
  · rw [if_pos h, if_pos (u64_nonneg _), l1In_eq, Option.bind_some, h, Bool.true_and]
    simp only [Bool.and_eq_true, decide_eq_true_eq] at h
    obtain ⟨m, rfl⟩ := Int.eq_ofNat_of_zero_le h.1
    have h8 : m ≤ 8 := by omega
    rw [u64_of (by omega) (by omega), shl_one (by omega)]
    have hp := pow_le_256 h8
    rw [Int.toNat_natCast]
    have e : (2 : Int) ^ m = ((2 ^ m : Nat) : Int) := by simp
    rw [e]
    generalize 2 ^ m = q at hp
    rw [wrap64_of (by omega) (by omega)]
    congr 2
    rw [Bool.eq_iff_iff]
    simp only [decide_eq_true_eq]
    omega
  · rw [if_neg h, Bool.eq_false_iff.2 h, Bool.false_and]
theorem implIsSet_eq (n s : Int) : impl_IsSet.f n s = some (isSetB n s) := by
  unfold impl_IsSet.f
  rw [isSize_eq, Option.bind_some]
  unfold isSetB
  by_cases h : (decide (0 ≤ n) && decide (n ≤ 8)) = true
  · rw [if_pos h, h, Bool.true_and]
    simp only [Bool.and_eq_true, decide_eq_true_eq] at h
    by_cases hs : s ≥ 0
    · rw [if_pos hs, if_pos h.1]
      obtain ⟨m, rfl⟩ := Int.eq_ofNat_of_zero_le h.1
      rw [shl_one (by omega), Int.toNat_natCast]
      have e : ((2 ^ m : Nat) : Int) = 2 ^ m := by simp
      rw [e]
      have : decide (0 ≤ s) = true := by simpa using hs
      rw [this, Bool.true_and]
    · rw [if_neg hs]
      have : decide (0 ≤ s) = false := by simpa using hs
      rw [this, Bool.false_and]
  · rw [if_neg h, Bool.eq_false_iff.2 h, Bool.false_and]
theorem isSet8 (s : Int) : isSetB 8 s = isAnyB s := by
  unfold isSetB isAnyB
  rw [Bool.eq_iff_iff]
  simp
theorem isAny_eq (s : Int) : impl_isAny.f s = some (isAnyB s) := by
  unfold impl_isAny.f isAnyB
  by_cases h : s ≥ 0
  · rw [if_pos h]; simp [h]
  · rw [if_neg h]; simp only [ge_iff_le] at h; simp [h]
theorem isAnyB_lt {s : Int} (h : isAnyB s = true) : ∃ t : Nat, s = t ∧ t < 256 := by
  simp only [isAnyB, Bool.and_eq_true, decide_eq_true_eq] at h
  obtain ⟨t, rfl⟩ := Int.eq_ofNat_of_zero_le h.1
  exact ⟨t, rfl, by omega⟩
theorem implHas_eq (s e : Int) : impl_HasElement.f s e = some (hasB s e) := by
  unfold impl_HasElement.f hasB
  rw [isAny_eq, Option.bind_some]
  by_cases h : isAnyB s = true
  · rw [if_pos h, h, Bool.true_and]
    obtain ⟨t, rfl, ht⟩ := isAnyB_lt h
    by_cases h0 : e ≥ 0
    · rw [if_pos h0]
      obtain ⟨m, rfl⟩ := Int.eq_ofNat_of_zero_le h0
      by_cases h8 : (m : Int) < 8
      · rw [if_pos h8, if_pos h0, bit_nat (lt256_63 ht)]
        simp [h8]
      · rw [if_neg h8]; simp [h8]
    · rw [if_neg h0]; simp only [ge_iff_le] at h0; simp [h0]
  · rw [if_neg h, Bool.eq_false_iff.2 h]; simp
theorem l2Has_eq {s e : Nat} (hs : s < 2 ^ 63) (he : e < 2 ^ 63) : spec_l2Has.f (s : Int) (e : Int) = some (s.testBit e) := by
  unfold spec_l2Has.f
  rw [if_pos (u64_nonneg _), u64_of (by omega) (by omega), bit_nat hs]
end Go.Proofs.Ytbdloopelidneaa.Q
namespace Go.Proofs.Ytbdloopelidneaa.Q
open Go Go.RowKit Go.Proofs.Ytbdloopelidneaa.A Go.Proofs.YtbdloopelidneaaW.PrintWords Go.Proofs.YtbdloopelidneaaW.PrintLast Go.Proofs.YtbdloopelidneaaW.PrintMore Go.Proofs.Ytbdloopelidneaa.Z
set_option linter.unusedVariables false
set_option linter.unusedSimpArgs false
def famG (n : Int) : Option Int → List Int → Bool
  | _, [] => decide (0 ≤ n) && decide (n ≤ 8)
  | p, x :: xs => isSetB n x && ((match p with | none => true | some q => decide (q < x)) && famG n (some x) xs)
/-- A family: sets of n elements, strictly ascending. -/
def famB (n : Int) (l : List Int) : Bool := famG n none l
def prevO (l : List Int) (i : Nat) : Option Int := if i = 0 then none else some (rd l ((i - 1 : Nat) : Int))
theorem prevO_succ (l : List Int) (i : Nat) (hi : i < l.length) : prevO l (i + 1) = some l[i] := by
  unfold prevO
  rw [if_neg (by omega), Nat.add_sub_cancel, rd_getElem l i hi]
theorem specFam_ev (n : Int) (l : List Int) (hl : l.length ≤ 17592186044416) : Ev (fun k => spec_IsFamily.f k n l) (famB n l) := by
  have h := down (P := fun i => Ev (fun k => spec_IsFamily.l0 k n l (i : Int)) (famG n (prevO l i) (l.drop i))) l.length
    (by
      apply Ev.step
      · intro k
        simp only [spec_IsFamily.l0, l1In_eq, Option.bind_some]
        rw [if_neg (by omega)]
      · rw [drop_end]; exact Ev.now _)
    (by
      intro i hi ih
      apply Ev.step
      · intro k
        simp only [spec_IsFamily.l0, specIsSet_eq, Option.bind_some]
        rw [if_pos (by omega), if_pos (by omega), rd_getElem l i hi, w_succ hi hl]
      · rw [drop_cons l i hi]
        rw [prevO_succ l i hi] at ih
        simp only [famG]
        by_cases hx : isSetB n l[i] = true
        · refine Ev.ifp hx ?_
          rw [hx, Bool.true_and]
          by_cases h0 : (i : Int) > 0
          · refine Ev.ifp h0 ?_
            rw [wrap64_of (by omega) (by omega), show (i : Int) - 1 = ((i - 1 : Nat) : Int) from by omega]
            refine Ev.ifp (by omega) (Ev.ifp (by omega) ?_)
            unfold prevO
            rw [if_neg (by omega)]
            by_cases hq : rd l ((i - 1 : Nat) : Int) ≥ l[i]
            · refine Ev.ifp hq ?_
              simp only []
              rw [show decide (rd l ((i - 1 : Nat) : Int) < l[i]) = false from by simpa using hq, Bool.false_and]
              exact Ev.now _
            · refine Ev.ifn hq ?_
              simp only []
              rw [show decide (rd l ((i - 1 : Nat) : Int) < l[i]) = true from by simpa using hq, Bool.true_and]
              exact ih
          · refine Ev.ifn h0 ?_
            unfold prevO
            rw [if_pos (by omega)]
            simp only [Bool.true_and]
            exact ih
        · refine Ev.ifn hx ?_
          rw [Bool.eq_false_iff.2 hx, Bool.false_and]; exact Ev.now _)
  exact h
theorem implFam_ev (n : Int) (l : List Int) (hl : l.length ≤ 17592186044416) : Ev (fun k => impl_IsFamily.f k n l) (famB n l) := by
  have h := down (P := fun i => Ev (fun k => impl_IsFamily.l0 k n l l (l.length : Int) (i : Int)) (famG n (prevO l i) (l.drop i))) l.length
    (by
      apply Ev.step
      · intro k
        simp only [impl_IsFamily.l0, isSize_eq, Option.bind_some]
        rw [if_neg (by omega)]
      · rw [drop_end]; exact Ev.now _)
    (by
      intro i hi ih
      apply Ev.step
      · intro k
        simp only [impl_IsFamily.l0, implIsSet_eq, Option.bind_some]
        rw [if_pos (by omega), if_pos (by omega), if_pos (by omega), rd_getElem l i hi, w_succ hi hl]
      · rw [drop_cons l i hi]
        rw [prevO_succ l i hi] at ih
        simp only [famG]
        by_cases hx : isSetB n l[i] = true
        · refine Ev.ifp hx ?_
          rw [hx, Bool.true_and]
          by_cases h0 : (i : Int) > 0
          · refine Ev.ifp h0 ?_
            rw [wrap64_of (by omega) (by omega), show (i : Int) - 1 = ((i - 1 : Nat) : Int) from by omega]
            refine Ev.ifp (by omega) (Ev.ifp (by omega) ?_)
            unfold prevO
            rw [if_neg (by omega)]
            by_cases hq : l[i] ≤ rd l ((i - 1 : Nat) : Int)
            · refine Ev.ifp hq ?_
              simp only []
              rw [show decide (rd l ((i - 1 : Nat) : Int) < l[i]) = false from by simpa using hq, Bool.false_and]
              exact Ev.now _
            · refine Ev.ifn hq ?_
              simp only []
              rw [show decide (rd l ((i - 1 : Nat) : Int) < l[i]) = true from by simpa using hq, Bool.true_and]
              exact ih
          · refine Ev.ifn h0 ?_
            unfold prevO
            rw [if_pos (by omega)]
            simp only [Bool.true_and]
            exact ih
        · refine Ev.ifn hx ?_
          rw [Bool.eq_false_iff.2 hx, Bool.false_and]; exact Ev.now _)
  exact h
theorem famG_facts (n : Int) : ∀ (l : List Int) (p : Option Int), famG n p l = true → (0 ≤ n ∧ n ≤ 8) ∧ (∀ x ∈ l, isSetB n x = true) ∧ l.Pairwise (· < ·) ∧ (∀ q, p = some q → ∀ x ∈ l, q < x) := by
  intro l
  induction l with
  | nil =>
    intro p h
    simp only [famG, Bool.and_eq_true, decide_eq_true_eq] at h
    exact ⟨h, fun x hx => by simp at hx, List.Pairwise.nil, fun q _ x hx => by simp at hx⟩
  | cons y l ih =>
    intro p h
    simp only [famG, Bool.and_eq_true] at h
    obtain ⟨h1, h2, h3⟩ := h
    obtain ⟨i1, i2, i3, i4⟩ := ih _ h3
    refine ⟨i1, fun x hx => ?_, List.pairwise_cons.2 ⟨fun x hx => i4 y rfl x hx, i3⟩, fun q hq x hx => ?_⟩
    · rcases List.mem_cons.1 hx with rfl | hx
      · exact h1
      · exact i2 x hx
    · subst hq
      simp only [decide_eq_true_eq] at h2
      rcases List.mem_cons.1 hx with rfl | hx
      · exact h2
      · exact Int.lt_trans h2 (i4 y rfl x hx)
/-- A family as numbers: its size, its sets. -/
theorem famB_nat {n : Int} {l : List Int} (h : famB n l = true) : ∃ (m : Nat) (L : List Nat), n = m ∧ m ≤ 8 ∧ l = L.map (fun x : Nat => (x : Int)) ∧ (∀ x ∈ L, x < 2 ^ m) ∧ L.Pairwise (· < ·) := by
  obtain ⟨h1, h2, h3, _⟩ := famG_facts n l none h
  obtain ⟨m, rfl⟩ := Int.eq_ofNat_of_zero_le h1.1
  have hnn : ∀ x ∈ l, 0 ≤ x := fun x hx => by
    obtain ⟨_, t, _, rfl, _⟩ := isSetB_lt (h2 x hx)
    omega
  have hl : l = (l.map Int.toNat).map (fun x : Nat => (x : Int)) := by
    rw [List.map_map]
    conv => lhs; rw [← List.map_id l]
    apply List.map_congr_left
    intro x hx
    have := hnn x hx
    simp only [id, Function.comp]
    omega
  refine ⟨m, l.map Int.toNat, rfl, by omega, hl, fun x hx => ?_, ?_⟩
  · obtain ⟨y, hy, rfl⟩ := List.mem_map.1 hx
    obtain ⟨m', t, hm, rfl, _, ht, _⟩ := isSetB_lt (h2 y hy)
    have : m = m' := by omega
    subst this
    rw [Int.toNat_natCast]; exact ht
  · rw [List.pairwise_map]
    exact h3.imp_of_mem (fun {a b} ha hb hab => by
      have := hnn a ha
      have := hnn b hb
      omega)
end Go.Proofs.Ytbdloopelidneaa.Q
namespace Go.Proofs.Ytbdloopelidneaa.Q
open Go Go.RowKit Go.Proofs.Ytbdloopelidneaa.A Go.Proofs.YtbdloopelidneaaW.PrintWords Go.Proofs.YtbdloopelidneaaW.PrintLast Go.Proofs.YtbdloopelidneaaW.PrintMore Go.Proofs.Ytbdloopelidneaa.Z
set_option linter.unusedVariables false
set_option linter.unusedSimpArgs false
/-- The elements of a set, as whole numbers; none where it is no set. -/
def elsB (s : Int) : List Int := ((List.range 8).filter (fun e : Nat => hasB s (e : Int))).map (fun e : Nat => (e : Int))
theorem range'_cons {i n : Nat} (h : i < n) : List.range' i (n - i) = i :: List.range' (i + 1) (n - (i + 1)) := by
  rw [show n - i = (n - (i + 1)) + 1 from by omega, List.range'_succ]
theorem filter_cons_map {s : Int} {i : Nat} (l : List Nat) : ((i :: l).filter (fun e : Nat => hasB s (e : Int))).map (fun e : Nat => (e : Int)) = (if hasB s (i : Int) = true then [(i : Int)] else []) ++ (l.filter (fun e : Nat => hasB s (e : Int))).map (fun e : Nat => (e : Int)) := by
  rw [List.filter_cons]
  by_cases h : hasB s (i : Int) = true
  · rw [if_pos h, if_pos h]; rfl
  · rw [if_neg h, if_neg h]; rfl
theorem implElements_ev (s : Int) : Ev (fun k => impl_ElementsOf.f k s) (elsB s) := by
  have h := down (P := fun i => ∀ acc : List Int, acc.length ≤ i → Ev (fun k => impl_ElementsOf.l0 k s acc (i : Int)) (acc ++ ((List.range' i (8 - i)).filter (fun e : Nat => hasB s (e : Int))).map (fun e : Nat => (e : Int)))) 8
    (by
      intro acc ha
      apply Ev.step
      · intro k
        simp only [impl_ElementsOf.l0, implHas_eq, Option.bind_some]
        rw [if_neg (by omega)]
      · simpa using Ev.now _)
    (by
      intro i hi ih acc ha
      apply Ev.step
      · intro k
        simp only [impl_ElementsOf.l0, implHas_eq, Option.bind_some]
        rw [if_pos (by omega), w_succ hi (by omega)]
      · rw [range'_cons hi, filter_cons_map]
        by_cases hx : hasB s (i : Int) = true
        · refine Ev.ifp hx (Ev.ifp (by omega) ?_)
          rw [if_pos hx, ← List.append_assoc]
          exact ih (acc ++ [(i : Int)]) (by simp; omega)
        · refine Ev.ifn hx ?_
          rw [if_neg hx]
          exact ih acc (by omega))
  have h0 := h [] (Nat.le_refl 0)
  rw [show ((0 : Nat) : Int) = 0 from rfl] at h0
  have e : elsB s = [] ++ ((List.range' 0 (8 - 0)).filter (fun e : Nat => hasB s (e : Int))).map (fun e : Nat => (e : Int)) := by
    unfold elsB
    rw [List.nil_append, List.range_eq_range']
  rw [e]
  unfold impl_ElementsOf.f
  exact h0
theorem elsB_nat {s : Nat} (h : s < 256) : elsB (s : Int) = (els s).map (fun e : Nat => (e : Int)) := by
  have e : (List.range 8).filter (fun e : Nat => hasB (s : Int) (e : Int)) = (List.range 8).filter (fun e : Nat => s.testBit e) :=
    List.filter_congr (fun e he => by
      rw [List.mem_range] at he
      rw [hasB_nat]
      simp [h, he])
  unfold elsB els
  rw [e]
end Go.Proofs.Ytbdloopelidneaa.Q
namespace Go.Proofs.Ytbdloopelidneaa.Q
open Go Go.RowKit Go.Proofs.Ytbdloopelidneaa.A Go.Proofs.YtbdloopelidneaaW.PrintWords Go.Proofs.YtbdloopelidneaaW.PrintLast Go.Proofs.YtbdloopelidneaaW.PrintMore Go.Proofs.Ytbdloopelidneaa.Z
set_option linter.unusedVariables false
set_option linter.unusedSimpArgs false
theorem contains_cons (x : Int) (l : List Int) (a : Int) : (x :: l).contains a = (decide (x = a) || l.contains a) := by
  rw [Bool.eq_iff_iff]
  simp only [List.contains_iff_mem, List.mem_cons, Bool.or_eq_true, decide_eq_true_eq]
  constructor
  · rintro (h | h)
    · exact .inl h.symm
    · exact .inr h
  · rintro (h | h)
    · exact .inl h.symm
    · exact .inr h
theorem specHasSet_ev (l : List Int) (a : Int) (hl : l.length ≤ 17592186044416) : Ev (fun k => spec_HasSet.f k l a) (l.contains a) := by
  have h := down (P := fun i => Ev (fun k => spec_HasSet.l0 k l a (i : Int)) ((l.drop i).contains a)) l.length
    (by
      apply Ev.step
      · intro k
        simp only [spec_HasSet.l0]
        rw [if_neg (by omega)]
      · rw [drop_end]; exact Ev.now _)
    (by
      intro i hi ih
      apply Ev.step
      · intro k
        simp only [spec_HasSet.l0]
        rw [if_pos (by omega), if_pos (by omega), rd_getElem l i hi, w_succ hi hl]
      · rw [drop_cons l i hi, contains_cons]
        by_cases hx : l[i] = a
        · refine Ev.ifp hx ?_
          rw [show decide (l[i] = a) = true from by simpa using hx, Bool.true_or]; exact Ev.now _
        · refine Ev.ifn hx ?_
          rw [show decide (l[i] = a) = false from by simpa using hx, Bool.false_or]; exact ih)
  exact h
end Go.Proofs.Ytbdloopelidneaa.Q
namespace Go.Proofs.Ytbdloopelidneaa.Q
open Go Go.RowKit Go.Proofs.Ytbdloopelidneaa.A Go.Proofs.YtbdloopelidneaaW.PrintWords Go.Proofs.YtbdloopelidneaaW.PrintLast Go.Proofs.YtbdloopelidneaaW.PrintMore Go.Proofs.Ytbdloopelidneaa.Z
set_option linter.unusedVariables false
set_option linter.unusedSimpArgs false
theorem index_l0 (l : List Int) (a : Int) (hl : l.length ≤ 17592186044416) : ∃ r : Int, Ev (fun k => slices_Index_int_int.f k l a) r ∧ (decide (r ≥ 0) = l.contains a) := by
  have h := down (P := fun i => ∃ r : Int, Ev (fun k => slices_Index_int_int.l0 k l a (l.length : Int) (i : Int)) r ∧ (decide (r ≥ 0) = (l.drop i).contains a)) l.length
    (by
      refine ⟨-1, ?_, by rw [drop_end]; rfl⟩
      apply Ev.step
      · intro k
        simp only [slices_Index_int_int.l0]
        rw [if_neg (by omega)]
      · exact Ev.now _)
    (by
      intro i hi ih
      rw [drop_cons l i hi, contains_cons]
      by_cases hx : l[i] = a
      · refine ⟨(i : Int), ?_, ?_⟩
        · apply Ev.step
          · intro k
            simp only [slices_Index_int_int.l0]
            rw [if_pos (by omega), if_pos (by omega), if_pos (by omega), rd_getElem l i hi, if_pos hx.symm]
          · exact Ev.now _
        · rw [show decide (l[i] = a) = true from by simpa using hx, Bool.true_or]
          simp
      · obtain ⟨r, hr, hd⟩ := ih
        refine ⟨r, ?_, ?_⟩
        · apply Ev.step
          · intro k
            simp only [slices_Index_int_int.l0]
            rw [if_pos (by omega), if_pos (by omega), if_pos (by omega), rd_getElem l i hi, if_neg (fun hc => hx hc.symm), w_succ hi hl]
          · exact hr
        · rw [show decide (l[i] = a) = false from by simpa using hx, Bool.false_or]; exact hd)
  exact h
theorem contains_ev (l : List Int) (a : Int) (hl : l.length ≤ 17592186044416) : Ev (fun k => slices_Contains_int_int.f k l a) (l.contains a) := by
  obtain ⟨r, hr, hd⟩ := index_l0 l a hl
  unfold slices_Contains_int_int.f
  refine Ev.bind hr ?_
  rw [hd]; exact Ev.now _
end Go.Proofs.Ytbdloopelidneaa.Q
namespace Go.Proofs.Ytbdloopelidneaa.Q
open Go Go.RowKit Go.Proofs.YtbdloopelidneaaW.PrintWords Go.Proofs.YtbdloopelidneaaW.PrintLast Go.Proofs.YtbdloopelidneaaW.PrintMore Go.Proofs.Ytbdloopelidneaa.Z
set_option linter.unusedVariables false
set_option linter.unusedSimpArgs false
/-- Can e be exchanged for an element of b? -/
def hasEx (l : List Int) (a b e : Nat) : Bool := (els (dif b a)).any (fun f => l.contains ((dif a (2 ^ e) ||| 2 ^ f : Nat) : Int))
def failE (l : List Int) (a b : Nat) : List Nat → Option Nat
  | [] => none
  | e :: es => if hasEx l a b e = true then failE l a b es else some e
def failB (l : List Int) (a : Nat) : List Nat → Option (Nat × Nat)
  | [] => none
  | b :: bs => match failE l a b (els (dif a b)) with
    | none => failB l a bs
    | some e => some (b, e)
def failA (l : List Int) (L : List Nat) : List Nat → Option (Nat × Nat × Nat)
  | [] => none
  | a :: la => match failB l a L with
    | none => failA l L la
    | some (b, e) => some (a, b, e)
def told : Option (Nat × Nat × Nat) → Int × Int × Int × Bool
  | none => (0, 0, 0, false)
  | some (a, b, e) => ((a : Int), (b : Int), (e : Int), true)
/-- What FirstFailure hands back. -/
def failT (n : Int) (l : List Int) : Int × Int × Int × Bool := if famB n l = true then told (failA l (l.map Int.toNat) (l.map Int.toNat)) else (0, 0, 0, false)
theorem els_dif {a b n : Nat} (ha : a < 2 ^ n) (hn : n ≤ 8) : els (dif a b) = (List.range n).filter (fun e => a.testBit e && !b.testBit e) := by
  have h1 : (List.range 8).filter (fun e => (dif a b).testBit e) = (List.range 8).filter (fun e => decide (e < n) && (a.testBit e && !b.testBit e)) :=
    List.filter_congr (fun e _ => by
      rw [dif_bit]
      by_cases h : e < n
      · simp [h]
      · have : a.testBit e = false := Nat.testBit_lt_two_pow (Nat.lt_of_lt_of_le ha (Nat.pow_le_pow_right (by decide) (by omega)))
        simp [this])
  unfold els
  rw [h1]
  have h2 : ∀ (p : Nat → Bool) (a b : Nat), (List.range a).filter (fun e => decide (e < b) && p e) = (List.range (min a b)).filter p := by
    intro p a b
    induction a with
    | zero => simp
    | succ a ih =>
      rw [List.range_succ, List.filter_append, ih]
      by_cases h : a < b
      · rw [show min (a + 1) b = min a b + 1 from by omega, List.range_succ, List.filter_append]
        have e : min a b = a := by omega
        rw [e]
        congr 1
        simp [List.filter_cons, h]
      · rw [show min (a + 1) b = min a b from by omega]
        simp [List.filter_cons, h]
  rw [h2, Nat.min_eq_right hn]
end Go.Proofs.Ytbdloopelidneaa.Q
namespace Go.Proofs.Ytbdloopelidneaa.Q
open Go Go.RowKit Go.Proofs.Ytbdloopelidneaa.A Go.Proofs.YtbdloopelidneaaW.PrintWords Go.Proofs.YtbdloopelidneaaW.PrintLast Go.Proofs.YtbdloopelidneaaW.PrintMore Go.Proofs.Ytbdloopelidneaa.Z
set_option linter.unusedVariables false
set_option linter.unusedSimpArgs false
theorem specEx_ev (n : Nat) (hn : n ≤ 8) (l : List Int) (hl : l.length ≤ 17592186044416) (a b e : Nat) (ha : a < 256) (hb : b < 2 ^ n) (he : e < 8) (hae : a.testBit e = true) :
    Ev (fun k => spec_l4Exchange.f k (n : Int) l (a : Int) (b : Int) (e : Int)) (hasEx l a b e) := by
  have hb256 : b < 256 := Nat.lt_of_lt_of_le hb (pow_le_256 hn)
  have h := down (P := fun f => Ev (fun k => spec_l4Exchange.l0 k (a : Int) (b : Int) (e : Int) (f : Int) (n : Int) l) (((List.range' f (n - f)).filter (fun f => b.testBit f && !a.testBit f)).any (fun f => l.contains ((dif a (2 ^ e) ||| 2 ^ f : Nat) : Int)))) n
    (by
      apply Ev.step
      · intro k
        simp only [spec_l4Exchange.l0]
        rw [if_neg (by omega)]
      · rw [Nat.sub_self]; exact Ev.now _)
    (by
      intro f hf ih
      have hih : Ev (fun k => spec_l4Exchange.l0 k (a : Int) (b : Int) (e : Int) (wrap64 ((f : Int) + 1)) (n : Int) l) (((List.range' (f + 1) (n - (f + 1))).filter (fun f => b.testBit f && !a.testBit f)).any (fun f => l.contains ((dif a (2 ^ e) ||| 2 ^ f : Nat) : Int))) := by
        rw [w_succ hf (by omega)]; exact ih
      apply Ev.step
      · intro k
        simp only [spec_l4Exchange.l0, l2Has_eq (lt256_63 hb256) (show f < 2 ^ 63 by omega), l2Has_eq (lt256_63 ha) (show f < 2 ^ 63 by omega), Option.bind_some]
        rw [if_pos (by omega)]
      · rw [range'_cons hf, List.filter_cons]
        by_cases hbf : b.testBit f = true
        · refine Ev.ifp hbf ?_
          by_cases haf : a.testBit f = true
          · refine Ev.ifp haf ?_
            rw [if_neg (by rw [haf]; simp)]
            exact hih
          · refine Ev.ifn haf (Ev.ifp (u64_nonneg _) (Ev.ifp (u64_nonneg _) ?_))
            have haf' := Bool.eq_false_iff.2 haf
            rw [if_pos (by rw [hbf, haf']; rfl), List.any_cons]
            obtain ⟨x1, x2, x3⟩ := exch_arith ha he (show f < 8 by omega) hae haf'
            have hp : 2 ^ f < 256 := Nat.pow_lt_pow_right (a := 2) (m := f) (n := 8) (by decide) (by omega)
            have ex : wrap64 (wrap64 ((a : Int) - shl .i64 1 (IntKind.u64.wrap (e : Int))) + shl .i64 1 (IntKind.u64.wrap (f : Int))) = ((dif a (2 ^ e) ||| 2 ^ f : Nat) : Int) := by
              rw [u64_of (by omega) (by omega), u64_of (by omega) (by omega), shl_one (by omega), shl_one (by omega), ← x1]
              generalize 2 ^ e = p at *
              generalize 2 ^ f = q at *
              rw [wrap64_of (n := (a : Int) - (p : Int)) (by omega) (by omega), wrap64_of (by omega) (by omega)]
              omega
            rw [ex]
            refine Ev.bind (specHasSet_ev l _ hl) ?_
            by_cases hc : l.contains ((dif a (2 ^ e) ||| 2 ^ f : Nat) : Int) = true
            · refine Ev.ifp hc ?_
              rw [hc, Bool.true_or]; exact Ev.now _
            · refine Ev.ifn hc ?_
              rw [Bool.eq_false_iff.2 hc, Bool.false_or]; exact hih
        · refine Ev.ifn hbf ?_
          rw [if_neg (by rw [Bool.eq_false_iff.2 hbf]; simp)]
          exact hih)
  rw [Nat.sub_zero, ← List.range_eq_range', ← els_dif hb hn] at h
  exact h
theorem specFail_l2 (n : Nat) (hn : n ≤ 8) (l : List Int) (hl : l.length ≤ 17592186044416) (i j : Nat) (hi : i < l.length) (hj : j < l.length) (a b : Nat) (hai : rd l (i : Int) = a) (hbj : rd l (j : Int) = b) (ha : a < 2 ^ n) (hb : b < 2 ^ n) (K : Int × Int × Int × Bool)
    (hK : Ev (fun k => spec_FirstFailure.l1 k (i : Int) (wrap64 ((j : Int) + 1)) (n : Int) l) K) :
    Ev (fun k => spec_FirstFailure.l2 k (i : Int) (j : Int) 0 (n : Int) l) (match failE l a b (els (dif a b)) with | none => K | some e => ((a : Int), (b : Int), (e : Int), true)) := by
  have ha256 : a < 256 := Nat.lt_of_lt_of_le ha (pow_le_256 hn)
  have hb256 : b < 256 := Nat.lt_of_lt_of_le hb (pow_le_256 hn)
  have h := down (P := fun e => Ev (fun k => spec_FirstFailure.l2 k (i : Int) (j : Int) (e : Int) (n : Int) l) (match failE l a b ((List.range' e (n - e)).filter (fun e => a.testBit e && !b.testBit e)) with | none => K | some e => ((a : Int), (b : Int), (e : Int), true))) n
    (by
      apply Ev.step
      · intro k
        simp only [spec_FirstFailure.l2]
        rw [if_neg (by omega)]
      · rw [Nat.sub_self]; exact hK)
    (by
      intro e he ih
      have hih : Ev (fun k => spec_FirstFailure.l2 k (i : Int) (j : Int) (wrap64 ((e : Int) + 1)) (n : Int) l) (match failE l a b ((List.range' (e + 1) (n - (e + 1))).filter (fun e => a.testBit e && !b.testBit e)) with | none => K | some e => ((a : Int), (b : Int), (e : Int), true)) := by
        rw [w_succ he (by omega)]; exact ih
      apply Ev.step
      · intro k
        simp only [spec_FirstFailure.l2]
        rw [if_pos (by omega), if_pos (by omega), if_pos (by omega), if_pos (by omega), if_pos (by omega), hai, hbj, l2Has_eq (lt256_63 ha256) (show e < 2 ^ 63 by omega), l2Has_eq (lt256_63 hb256) (show e < 2 ^ 63 by omega), Option.bind_some, Option.bind_some]
      · rw [range'_cons he, List.filter_cons]
        by_cases hae : a.testBit e = true
        · refine Ev.ifp hae ?_
          by_cases hbe : b.testBit e = true
          · refine Ev.ifp hbe ?_
            rw [if_neg (by rw [hbe]; simp)]
            exact hih
          · refine Ev.ifn hbe (Ev.bind (specEx_ev n hn l hl a b e ha256 hb (by omega) hae) ?_)
            rw [if_pos (by rw [hae, Bool.eq_false_iff.2 hbe]; rfl)]
            simp only [failE]
            by_cases hx : hasEx l a b e = true
            · refine Ev.ifp hx ?_
              rw [if_pos hx]; exact hih
            · refine Ev.ifn hx ?_
              rw [if_neg hx]; exact Ev.now _
        · refine Ev.ifn hae ?_
          rw [if_neg (by rw [Bool.eq_false_iff.2 hae]; simp)]
          exact hih)
  rw [Nat.sub_zero, ← List.range_eq_range', ← els_dif ha hn] at h
  exact h
theorem specFail_ev (n : Int) (l : List Int) (hl : l.length ≤ 17592186044416) : Ev (fun k => spec_FirstFailure.f k n l) (failT n l) := by
  unfold spec_FirstFailure.f failT
  refine Ev.bind (specFam_ev n l hl) ?_
  by_cases hf : famB n l = true
  · refine Ev.ifp hf ?_
    rw [if_pos hf]
    obtain ⟨m, L, rfl, hm, rfl, hL, _⟩ := famB_nat hf
    rw [toNat_map]
    have hlen : (L.map (fun x : Nat => (x : Int))).length = L.length := List.length_map _
    rw [hlen] at hl
    have hrd : ∀ i, (h : i < L.length) → rd (L.map (fun x : Nat => (x : Int))) (i : Int) = (L[i] : Int) := fun i h => by
      rw [rd_getElem _ i (by rw [hlen]; exact h), List.getElem_map]
    have hl' : (L.map (fun x : Nat => (x : Int))).length ≤ 17592186044416 := by rw [hlen]; exact hl
    generalize L.map (fun x : Nat => (x : Int)) = l at hlen hrd hl'
    have h := down (P := fun i => Ev (fun k => spec_FirstFailure.l0 k (i : Int) (m : Int) l) (told (failA l L (L.drop i)))) L.length
      (by
        apply Ev.step
        · intro k
          simp only [spec_FirstFailure.l0]
          rw [if_neg (by omega)]
        · rw [drop_end]; exact Ev.now _)
      (by
        intro i hi ih
        have hia := hL _ (List.getElem_mem hi)
        have hih : Ev (fun k => spec_FirstFailure.l0 k (wrap64 ((i : Int) + 1)) (m : Int) l) (told (failA l L (L.drop (i + 1)))) := by
          rw [w_succ hi hl]; exact ih
        apply Ev.step
        · intro k
          simp only [spec_FirstFailure.l0]
          rw [if_pos (by omega)]
        · have h1 := down (P := fun j => Ev (fun k => spec_FirstFailure.l1 k (i : Int) (j : Int) (m : Int) l) (match failB l L[i] (L.drop j) with | none => told (failA l L (L.drop (i + 1))) | some (b, e) => ((L[i] : Int), (b : Int), (e : Int), true))) L.length
            (by
              apply Ev.step
              · intro k
                simp only [spec_FirstFailure.l1]
                rw [if_neg (by omega)]
              · rw [drop_end]; exact hih)
            (by
              intro j hj ihj
              have hjb := hL _ (List.getElem_mem hj)
              apply Ev.step
              · intro k
                simp only [spec_FirstFailure.l1]
                rw [if_pos (by omega)]
              · have h2 := specFail_l2 m hm l hl' i j (by omega) (by omega) L[i] L[j] (hrd i hi) (hrd j hj) hia hjb _ (by rw [w_succ hj hl]; exact ihj)
                rw [drop_cons L j hj]
                simp only [failB]
                generalize failE l L[i] L[j] (els (dif L[i] L[j])) = q at h2
                cases q with
                | none => exact h2
                | some e => exact h2)
          rw [drop_cons L i hi]
          simp only [failA]
          rw [List.drop_zero] at h1
          generalize failB l L[i] L = q at h1
          cases q with
          | none => exact h1
          | some x => exact h1)
    exact h
  · refine Ev.ifn hf ?_
    rw [if_neg hf]
    exact Ev.now _
end Go.Proofs.Ytbdloopelidneaa.Q
namespace Go.Proofs.Ytbdloopelidneaa.Q
open Go Go.RowKit Go.Proofs.Ytbdloopelidneaa.A Go.Proofs.YtbdloopelidneaaW.PrintWords Go.Proofs.YtbdloopelidneaaW.PrintLast Go.Proofs.YtbdloopelidneaaW.PrintMore Go.Proofs.Ytbdloopelidneaa.Z
set_option linter.unusedVariables false
set_option linter.unusedSimpArgs false
/-- A matroid: a family, not empty, without a failure of the exchange. -/
def matB (n : Int) (l : List Int) : Bool := famB n l && (decide ((l.length : Int) > 0) && !(failT n l).2.2.2)
theorem specMat_ev (n : Int) (l : List Int) (hl : l.length ≤ 17592186044416) : Ev (fun k => spec_IsMatroid.f k n l) (matB n l) := by
  unfold spec_IsMatroid.f matB
  refine Ev.bind (specFail_ev n l hl) (Ev.bind (specFam_ev n l hl) ?_)
  by_cases hf : famB n l = true
  · refine Ev.ifp hf ?_
    rw [hf, Bool.true_and]
    by_cases h0 : (l.length : Int) > 0
    · refine Ev.ifp h0 ?_
      rw [show decide ((l.length : Int) > 0) = true from by simpa using h0, Bool.true_and]
      exact Ev.now _
    · refine Ev.ifn h0 ?_
      rw [show decide ((l.length : Int) > 0) = false from by simpa using h0, Bool.false_and]
      exact Ev.now _
  · refine Ev.ifn hf ?_
    rw [Bool.eq_false_iff.2 hf, Bool.false_and]
    exact Ev.now _
end Go.Proofs.Ytbdloopelidneaa.Q
namespace Go.Proofs.Ytbdloopelidneaa.Q
open Go Go.RowKit Go.Proofs.YtbdloopelidneaaW.PrintWords Go.Proofs.YtbdloopelidneaaW.PrintLast Go.Proofs.YtbdloopelidneaaW.PrintMore Go.Proofs.Ytbdloopelidneaa.Z
set_option linter.unusedVariables false
set_option linter.unusedSimpArgs false
/-- What a matroid is, as numbers. -/
theorem matB_nat {n : Int} {l : List Int} (h : matB n l = true) : ∃ (m : Nat) (L : List Nat), n = m ∧ m ≤ 8 ∧ l = ints L ∧ (∀ x ∈ L, x < 2 ^ m) ∧ (∀ x ∈ L, x < 256) ∧ L.Pairwise (· < ·) ∧ L ≠ [] := by
  simp only [matB, Bool.and_eq_true, decide_eq_true_eq] at h
  obtain ⟨m, L, rfl, hm, rfl, hL, hp⟩ := famB_nat h.1
  refine ⟨m, L, rfl, hm, rfl, hL, fun x hx => Nat.lt_of_lt_of_le (hL x hx) (pow_le_256 hm), hp, ?_⟩
  rintro rfl
  simp at h
theorem ints_len (L : List Nat) : (ints L).length = L.length := List.length_map _
theorem ints_rd (L : List Nat) (i : Nat) (h : i < L.length) : rd (ints L) (i : Int) = (L[i] : Int) := by
  rw [rd_getElem _ i (by rw [ints_len]; exact h)]
  simp [ints]
end Go.Proofs.Ytbdloopelidneaa.Q
namespace Go.Proofs.Ytbdloopelidneaa.Q
open Go Go.RowKit Go.Proofs.Ytbdloopelidneaa.A Go.Proofs.YtbdloopelidneaaW.PrintWords Go.Proofs.YtbdloopelidneaaW.PrintLast Go.Proofs.YtbdloopelidneaaW.PrintMore Go.Proofs.Ytbdloopelidneaa.Z
set_option linter.unusedVariables false
set_option linter.unusedSimpArgs false
theorem specCount_l0 : ∀ (d x : Nat), x ≤ d → x < 256 → ∀ acc : Int, 0 ≤ acc → acc + (d : Int) ≤ 1000 → Ev (fun k => spec_CountOf.l0 k (x : Int) acc) (acc + (pc x : Int)) := by
  intro d
  induction d with
  | zero =>
    intro x hx _ acc h0 h1
    obtain rfl : x = 0 := by omega
    apply Ev.step
    · intro k
      simp only [spec_CountOf.l0]
      rw [if_neg (by decide)]
    · rw [pc_zero, show acc + ((0 : Nat) : Int) = acc from by omega]
      exact Ev.now _
  | succ d ih =>
    intro x hx h256 acc h0 h1
    by_cases hz : x = 0
    · subst hz
      exact ih 0 (by omega) h256 acc h0 (by omega)
    · have hb : Go.bits .and .i64 (x : Int) 1 = ((x % 2 : Nat) : Int) := by
        have := and_nat (a := x) (b := 1) (lt256_63 h256) (by decide)
        rw [Nat.and_one_is_mod] at this
        exact this
      apply Ev.step
      · intro k
        simp only [spec_CountOf.l0]
        rw [if_pos (by omega), hb, wrap64_of (by omega) (by omega), show (x : Int) / 2 = ((x / 2 : Nat) : Int) from by omega]
      · have hp := pc_step x h256
        have hl := pc_le (x / 2)
        have := ih (x / 2) (by omega) (by omega) (acc + ((x % 2 : Nat) : Int)) (by omega) (by omega)
        rw [show acc + ((x % 2 : Nat) : Int) + (pc (x / 2) : Int) = acc + (pc x : Int) from by omega] at this
        exact this
theorem specCount_ev (s : Nat) (h : s < 256) : Ev (fun k => spec_CountOf.f k (s : Int)) (pc s : Int) := by
  unfold spec_CountOf.f
  refine Ev.cbind (specIsSet_eq _ _) (Ev.ifp ?_ ?_)
  · rw [isSet8, isAnyB_nat]; simpa using h
  · have := specCount_l0 s s (Nat.le_refl _) h 0 (by omega) (by omega)
    rw [Int.zero_add] at this
    exact this
end Go.Proofs.Ytbdloopelidneaa.Q
namespace Go.Proofs.Ytbdloopelidneaa.Q
open Go Go.RowKit Go.Proofs.Ytbdloopelidneaa.A Go.Proofs.YtbdloopelidneaaW.PrintWords Go.Proofs.YtbdloopelidneaaW.PrintLast Go.Proofs.YtbdloopelidneaaW.PrintMore Go.Proofs.Ytbdloopelidneaa.Z
set_option linter.unusedVariables false
set_option linter.unusedSimpArgs false
theorem l1Max_eq (a b : Int) : spec_l1Max.f a b = some (max a b) := by
  unfold spec_l1Max.f
  by_cases h : a > b
  · rw [if_pos h]; congr 1; omega
  · rw [if_neg h]; congr 1; omega
theorem specRank_ev (n : Int) (L : List Nat) (s : Nat) (hl : L.length ≤ 17592186044416) (hL : ∀ b ∈ L, b < 256) (hs : s < 256) : Ev (fun k => spec_l5Rank.f k n (ints L) (s : Int)) (rkN L s : Int) := by
  have h := down (P := fun i => ∀ acc : Nat, Ev (fun k => spec_l5Rank.l0 k (s : Int) (acc : Int) (i : Int) n (ints L)) ((maxN acc ((L.drop i).map (fun b => pc (b &&& s))) : Nat) : Int)) L.length
    (by
      intro acc
      apply Ev.step
      · intro k
        simp only [spec_l5Rank.l0]
        rw [if_neg (by rw [ints_len]; omega)]
      · rw [drop_end]; exact Ev.now _)
    (by
      intro i hi ih acc
      have hb := hL _ (List.getElem_mem hi)
      apply Ev.step
      · intro k
        simp only [spec_l5Rank.l0, l1Max_eq, Option.bind_some]
        rw [if_pos (by rw [ints_len]; omega), if_pos (by omega), ints_rd L i hi, w_succ hi hl, and_nat (lt256_63 hb) (lt256_63 hs)]
      · refine Ev.bind (specCount_ev _ (and_lt hb)) ?_
        rw [drop_cons L i hi, List.map_cons, maxN_cons]
        have := ih (max acc (pc (L[i] &&& s)))
        rw [show ((max acc (pc (L[i] &&& s)) : Nat) : Int) = max (acc : Int) (pc (L[i] &&& s) : Int) from by omega] at this
        exact this)
  exact h 0
end Go.Proofs.Ytbdloopelidneaa.Q
namespace Go.Proofs.Ytbdloopelidneaa.Q
open Go Go.RowKit Go.Proofs.Ytbdloopelidneaa.A Go.Proofs.YtbdloopelidneaaW.PrintWords Go.Proofs.YtbdloopelidneaaW.PrintLast Go.Proofs.YtbdloopelidneaaW.PrintMore Go.Proofs.Ytbdloopelidneaa.Z
set_option linter.unusedVariables false
set_option linter.unusedSimpArgs false
set_option maxRecDepth 100000 in
theorem ones64 : ∀ s < 256, bits_OnesCount64.f ((s : Nat) : Int) = some ((pc s : Nat) : Int) := by decide +kernel
theorem implCount_eq (s : Nat) (h : s < 256) : impl_CountOf.f (s : Int) = some (pc s : Int) := by
  unfold impl_CountOf.f
  rw [isAny_eq, Option.bind_some, if_pos (by rw [isAnyB_nat]; simpa using h), u64_of (by omega) (by omega)]
  unfold bits_OnesCount.f
  rw [ones64 s h]
  rfl
end Go.Proofs.Ytbdloopelidneaa.Q
namespace Go.Proofs.Ytbdloopelidneaa.Q
open Go Go.RowKit Go.Proofs.Ytbdloopelidneaa.A Go.Proofs.YtbdloopelidneaaW.PrintWords Go.Proofs.YtbdloopelidneaaW.PrintLast Go.Proofs.YtbdloopelidneaaW.PrintMore Go.Proofs.Ytbdloopelidneaa.Z
set_option linter.unusedVariables false
set_option linter.unusedSimpArgs false
theorem mx_nat (a b : Nat) : mx (a : Int) (b : Int) = ((max a b : Nat) : Int) := by
  unfold mx
  split <;> omega
theorem implRank_ev (n : Int) (L : List Nat) (s : Nat) (hl : L.length ≤ 17592186044416) (hL : ∀ b ∈ L, b < 256) (hs : s < 256) : Ev (fun k => impl_rankIn.f k n (ints L) (s : Int)) (rkN L s : Int) := by
  have h := down (P := fun i => ∀ acc : Nat, Ev (fun k => impl_rankIn.l0 k (s : Int) (acc : Int) (ints L) ((ints L).length : Int) (i : Int)) ((maxN acc ((L.drop i).map (fun b => pc (b &&& s))) : Nat) : Int)) L.length
    (by
      intro acc
      apply Ev.step
      · intro k
        simp only [impl_rankIn.l0]
        rw [if_neg (by rw [ints_len]; omega)]
      · rw [drop_end]; exact Ev.now _)
    (by
      intro i hi ih acc
      have hb := hL _ (List.getElem_mem hi)
      apply Ev.step
      · intro k
        simp only [impl_rankIn.l0]
        rw [if_pos (by rw [ints_len]; omega), if_pos (by omega), if_pos (by rw [ints_len]; omega), ints_rd L i hi, w_succ hi hl, and_nat (lt256_63 hs) (lt256_63 hb), Nat.and_comm, implCount_eq _ (and_lt hb), Option.bind_some, mx_nat]
      · rw [drop_cons L i hi, List.map_cons, maxN_cons]
        exact ih _)
  exact h 0
end Go.Proofs.Ytbdloopelidneaa.Q
namespace Go.Proofs.Ytbdloopelidneaa.Q
open Go Go.RowKit Go.Proofs.Ytbdloopelidneaa.A Go.Proofs.YtbdloopelidneaaW.PrintWords Go.Proofs.YtbdloopelidneaaW.PrintLast Go.Proofs.YtbdloopelidneaaW.PrintMore Go.Proofs.Ytbdloopelidneaa.Z
set_option linter.unusedVariables false
set_option linter.unusedSimpArgs false
def fullN (m : Nat) : Nat := 2 ^ m - 1
theorem full_bit (m i : Nat) : (fullN m).testBit i = decide (i < m) := Nat.testBit_two_pow_sub_one m i
theorem specFull_eq {m : Nat} (hm : m ≤ 8) : spec_FullSet.f (m : Int) = some ((fullN m : Nat) : Int) := by
  unfold spec_FullSet.f fullN
  have hp := pow_le_256 hm
  have h0 := Nat.two_pow_pos m
  rw [l1In_eq, Option.bind_some, if_pos (by simp; omega), if_pos (u64_nonneg _), u64_of (by omega) (by omega), shl_one (by omega)]
  generalize 2 ^ m = q at *
  rw [wrap64_of (by omega) (by omega)]
  congr 1
  omega
theorem implFull_eq {m : Nat} (hm : m ≤ 8) : impl_FullSet.f (m : Int) = some ((fullN m : Nat) : Int) := by
  unfold impl_FullSet.f fullN
  have hp := pow_le_256 hm
  have h0 := Nat.two_pow_pos m
  rw [isSize_eq, Option.bind_some, if_pos (by simp; omega), if_pos (by omega), shl_one (by omega)]
  generalize 2 ^ m = q at *
  rw [wrap64_of (by omega) (by omega)]
  congr 1
  omega
end Go.Proofs.Ytbdloopelidneaa.Q
namespace Go.Proofs.Ytbdloopelidneaa.Q
open Go Go.RowKit Go.Proofs.Ytbdloopelidneaa.A Go.Proofs.YtbdloopelidneaaW.PrintWords Go.Proofs.YtbdloopelidneaaW.PrintLast Go.Proofs.YtbdloopelidneaaW.PrintMore Go.Proofs.Ytbdloopelidneaa.Z
set_option linter.unusedVariables false
set_option linter.unusedSimpArgs false
def clN (L : List Nat) (t acc : Nat) : List Nat → Nat
  | [] => acc
  | i :: is => if rkN L (t ||| 2 ^ i) = rkN L t then clN L t (acc ||| 2 ^ i) is else clN L t acc is
theorem clN_bit (L : List Nat) (t j : Nat) (is : List Nat) : ∀ acc : Nat, (clN L t acc is).testBit j = (acc.testBit j || (decide (j ∈ is) && decide (rkN L (t ||| 2 ^ j) = rkN L t))) := by
  induction is with
  | nil => intro acc; simp [clN]
  | cons i is ih =>
    intro acc
    simp only [clN]
    by_cases h : rkN L (t ||| 2 ^ i) = rkN L t
    · rw [if_pos h, ih, add_bit]
      by_cases hij : i = j
      · subst hij
        simp [h]
      · rw [show decide (i = j) = false from decide_eq_false hij, Bool.or_false]
        have : (j ∈ i :: is) ↔ j ∈ is := by
          rw [List.mem_cons]
          exact ⟨fun h' => h'.resolve_left (fun e => hij e.symm), .inr⟩
        rw [show decide (j ∈ i :: is) = decide (j ∈ is) from by rw [decide_eq_decide]; exact this]
    · rw [if_neg h, ih]
      by_cases hij : i = j
      · subst hij
        simp [h]
      · have : (j ∈ i :: is) ↔ j ∈ is := by
          rw [List.mem_cons]
          exact ⟨fun h' => h'.resolve_left (fun e => hij e.symm), .inr⟩
        rw [show decide (j ∈ i :: is) = decide (j ∈ is) from by rw [decide_eq_decide]; exact this]
theorem clN_lt (L : List Nat) (t : Nat) (is : List Nat) : ∀ acc : Nat, acc < 256 → (∀ i ∈ is, i < 8) → clN L t acc is < 256 := by
  induction is with
  | nil => intro acc h _; exact h
  | cons i is ih =>
    intro acc h h8
    simp only [clN]
    have hi := h8 i (List.mem_cons_self ..)
    have hr := fun j hj => h8 j (List.mem_cons_of_mem _ hj)
    by_cases hc : rkN L (t ||| 2 ^ i) = rkN L t
    · rw [if_pos hc]
      exact ih _ (Nat.or_lt_two_pow (n := 8) h (Nat.pow_lt_pow_right (by omega) hi)) hr
    · rw [if_neg hc]; exact ih _ h hr
/-- The closure of a set. -/
def closN (m : Nat) (L : List Nat) (t : Nat) : Nat := clN L t 0 (List.range m)
theorem closN_lt {m : Nat} (hm : m ≤ 8) (L : List Nat) (t : Nat) : closN m L t < 256 := clN_lt L t _ 0 (by omega) (fun i hi => by have := List.mem_range.1 hi; omega)
theorem closN_spec {m : Nat} (hm : m ≤ 8) (L : List Nat) {t : Nat} (ht : t < 2 ^ m) : clN L t t (List.range m) = closN m L t := by
  have ht256 := Nat.lt_of_lt_of_le ht (pow_le_256 hm)
  have h8 : ∀ i ∈ List.range m, i < 8 := fun i hi => by have := List.mem_range.1 hi; omega
  apply set_ext (clN_lt L t _ t ht256 h8) (closN_lt hm L t)
  intro j _
  unfold closN
  rw [clN_bit, clN_bit, Nat.zero_testBit, Bool.false_or]
  cases hj : t.testBit j
  · rw [Bool.false_or]
  · have hjm : j < m := by
      rcases Nat.lt_or_ge j m with h' | h'
      · exact h'
      · have := Nat.testBit_lt_two_pow (Nat.lt_of_lt_of_le ht (Nat.pow_le_pow_right (by omega) h'))
        rw [hj] at this; cases this
    have e : t ||| 2 ^ j = t := by
      apply Nat.eq_of_testBit_eq
      intro i
      rw [add_bit]
      by_cases hi : j = i
      · subst hi; rw [hj]; rfl
      · simp [hi]
    rw [e]
    simp [hjm]
theorem specClos_ev {m : Nat} (hm : m ≤ 8) (L : List Nat) (t : Nat) (hl : L.length ≤ 17592186044416) (hL : ∀ b ∈ L, b < 256) (ht : t < 2 ^ m) : Ev (fun k => spec_l5Closure.f k (m : Int) (ints L) (t : Int)) ((closN m L t : Nat) : Int) := by
  have ht256 := Nat.lt_of_lt_of_le ht (pow_le_256 hm)
  unfold spec_l5Closure.f
  refine Ev.bind (specRank_ev _ L t hl hL ht256) ?_
  have hd := down (P := fun i => ∀ acc : Nat, acc < 256 → Ev (fun k => spec_l5Closure.l0 k (t : Int) (acc : Int) (rkN L t : Int) (i : Int) (m : Int) (ints L)) ((clN L t acc (List.range' i (m - i)) : Nat) : Int)) m
    (by
      intro acc _
      apply Ev.step
      · intro k
        simp only [spec_l5Closure.l0]
        rw [if_neg (by omega)]
      · rw [Nat.sub_self]; exact Ev.now _)
    (by
      intro i hi ih acc ha
      have hp : 2 ^ i < 256 := Nat.pow_lt_pow_right (by omega) (show i < 8 by omega)
      have ho : t ||| 2 ^ i < 256 := Nat.or_lt_two_pow (n := 8) ht256 hp
      have ho2 : acc ||| 2 ^ i < 256 := Nat.or_lt_two_pow (n := 8) ha hp
      apply Ev.step
      · intro k
        simp only [spec_l5Closure.l0]
        rw [if_pos (by omega), u64_of (n := (i : Int)) (by omega) (by omega), if_pos (by omega), shl_one (by omega), or_nat (lt256_63 ht256) (lt256_63 hp), or_nat (lt256_63 ha) (lt256_63 hp), w_succ hi (by omega)]
      · rw [range'_cons' hi]
        simp only [clN]
        refine Ev.bind (specRank_ev _ L _ hl hL ho) ?_
        by_cases h : rkN L (t ||| 2 ^ i) = rkN L t
        · rw [if_pos h]; exact Ev.ifp (by omega) (ih _ ho2)
        · rw [if_neg h]; exact Ev.ifn (by omega) (ih _ ha))
  have h0 := hd t ht256
  rw [Nat.sub_zero, ← List.range_eq_range', closN_spec hm L ht] at h0
  exact h0
theorem implClos_ev {m : Nat} (hm : m ≤ 8) (L : List Nat) (t : Nat) (hl : L.length ≤ 17592186044416) (hL : ∀ b ∈ L, b < 256) (ht256 : t < 256) : Ev (fun k => impl_closure.f k (m : Int) (ints L) (t : Int)) ((closN m L t : Nat) : Int) := by
  unfold impl_closure.f
  refine Ev.bind (implRank_ev _ L t hl hL ht256) ?_
  have hd := down (P := fun i => ∀ acc : Nat, acc < 256 → Ev (fun k => impl_closure.l0 k (t : Int) (rkN L t : Int) (acc : Int) (i : Int) (m : Int) (ints L)) ((clN L t acc (List.range' i (m - i)) : Nat) : Int)) m
    (by
      intro acc _
      apply Ev.step
      · intro k
        simp only [impl_closure.l0]
        rw [if_neg (by omega)]
      · rw [Nat.sub_self]; exact Ev.now _)
    (by
      intro i hi ih acc ha
      have hp : 2 ^ i < 256 := Nat.pow_lt_pow_right (by omega) (show i < 8 by omega)
      have ho : t ||| 2 ^ i < 256 := Nat.or_lt_two_pow (n := 8) ht256 hp
      have ho2 : acc ||| 2 ^ i < 256 := Nat.or_lt_two_pow (n := 8) ha hp
      apply Ev.step
      · intro k
        simp only [impl_closure.l0]
        rw [if_pos (by omega), if_pos (by omega), shl_one (by omega), or_nat (lt256_63 ht256) (lt256_63 hp), or_nat (lt256_63 ha) (lt256_63 hp), w_succ hi (by omega)]
      · rw [range'_cons' hi]
        simp only [clN]
        refine Ev.bind (implRank_ev _ L _ hl hL ho) ?_
        by_cases h : rkN L (t ||| 2 ^ i) = rkN L t
        · rw [if_pos h]; exact Ev.ifp (by omega) (ih _ ho2)
        · rw [if_neg h]; exact Ev.ifn (by omega) (ih _ ha))
  have h0 := hd 0 (by omega)
  rw [Nat.sub_zero, ← List.range_eq_range'] at h0
  exact h0
end Go.Proofs.Ytbdloopelidneaa.Q
namespace Go.Proofs.Ytbdloopelidneaa.Q
open Go Go.RowKit Go.Proofs.Ytbdloopelidneaa.A Go.Proofs.YtbdloopelidneaaW.PrintWords Go.Proofs.YtbdloopelidneaaW.PrintLast Go.Proofs.YtbdloopelidneaaW.PrintMore Go.Proofs.Ytbdloopelidneaa.Z
set_option linter.unusedVariables false
set_option linter.unusedSimpArgs false
def isFlat (m : Nat) (L : List Nat) (t : Nat) : Bool := decide (closN m L t = t)
def flN (m : Nat) (L : List Nat) : List Nat := (List.range (2 ^ m)).filter (isFlat m L)
theorem flN_lt {m : Nat} {L : List Nat} {t : Nat} (h : t ∈ flN m L) : t < 2 ^ m := List.mem_range.1 (List.mem_filter.1 h).1
theorem flN_len {m : Nat} (hm : m ≤ 8) (L : List Nat) : (flN m L).length ≤ 256 := by
  have h1 : (flN m L).length ≤ (List.range (2 ^ m)).length := List.length_filter_le _ _
  rw [List.length_range] at h1
  have := pow_le_256 hm
  omega
theorem specFlats7_ev {m : Nat} (hm : m ≤ 8) (L : List Nat) (hl : L.length ≤ 17592186044416) (hL : ∀ b ∈ L, b < 256) : Ev (fun k => spec_l7Flats.f k (m : Int) (ints L)) (ints (flN m L)) := by
  have hp2 := Nat.two_pow_pos m
  have h2m := pow_le_256 hm
  have hd := down (P := fun i => ∀ acc : List Nat, acc.length ≤ i → Ev (fun k => spec_l7Flats.l0 k (ints acc) (i : Int) (m : Int) (ints L)) (ints (acc ++ (List.range' i (2 ^ m - i)).filter (isFlat m L)))) (2 ^ m)
    (by
      intro acc _
      apply Ev.step
      · intro k
        simp only [spec_l7Flats.l0, specFull_eq hm, Option.bind_some]
        rw [if_neg (by unfold fullN; omega)]
      · rw [Nat.sub_self, List.range'_zero, List.filter_nil, List.append_nil]; exact Ev.now _)
    (by
      intro i hi ih acc ha
      apply Ev.step
      · intro k
        simp only [spec_l7Flats.l0, specFull_eq hm, Option.bind_some]
        rw [if_pos (by unfold fullN; omega), w_succ hi (by omega)]
      · rw [range'_cons' hi, List.filter_cons]
        refine Ev.bind (specClos_ev hm L i hl hL hi) ?_
        by_cases h : closN m L i = i
        · rw [if_pos (show isFlat m L i = true from decide_eq_true h)]
          refine Ev.ifp (by omega) (Ev.ifp (by rw [ints_len]; omega) ?_)
          have := ih (acc ++ [i]) (by rw [List.length_append, List.length_singleton]; omega)
          rw [List.append_assoc, List.singleton_append] at this
          rw [show ints acc ++ [(i : Int)] = ints (acc ++ [i]) from by simp [ints]]
          exact this
        · rw [if_neg (show ¬ isFlat m L i = true from by unfold isFlat; simpa using h)]
          exact Ev.ifn (by omega) (ih acc (by omega)))
  have h0 := hd [] (by simp)
  rw [Nat.sub_zero, ← List.range_eq_range', List.nil_append] at h0
  exact h0
theorem implFlats_ev {m : Nat} (hm : m ≤ 8) (L : List Nat) (hl : L.length ≤ 17592186044416) (hL : ∀ b ∈ L, b < 256) : Ev (fun k => impl_flatsIn.f k (m : Int) (ints L)) (ints (flN m L)) := by
  have h2m := pow_le_256 hm
  have hp := Nat.two_pow_pos m
  unfold impl_flatsIn.f
  refine Ev.cbind (implFull_eq hm) (Ev.ifp (by unfold fullN; omega) ?_)
  have e : fromTo 0 ((fullN m : Nat) : Int) = ints (List.range (2 ^ m)) := by
    unfold fromTo ints fullN
    rw [List.range_eq_range', show (((2 ^ m - 1 : Nat) : Int) + 1).toNat - (0 : Int).toNat = 2 ^ m from by omega]
    rfl
  unfold setsO
  rw [e]
  have hf : (ints (List.range (2 ^ m))).filter (fun x : Int => isFlat m L x.toNat) = ints (flN m L) := by
    unfold ints flN
    rw [List.filter_map]
    congr 1
  rw [← hf]
  refine Ev_filterO (p := fun x : Int => isFlat m L x.toNat) ?_
  intro x hx
  unfold ints at hx
  obtain ⟨t, ht, rfl⟩ := List.mem_map.1 hx
  have ht2 := List.mem_range.1 ht
  unfold impl_flatsIn.c
  refine Ev.bind (implClos_ev hm L t hl hL (by omega)) ?_
  have : (((closN m L t : Nat) : Int) == (t : Int)) = isFlat m L (t : Int).toNat := by
    rw [Int.toNat_natCast]
    unfold isFlat
    rw [Bool.eq_iff_iff, beq_iff_eq, decide_eq_true_eq]
    omega
  rw [this]
  exact Ev.now _
end Go.Proofs.Ytbdloopelidneaa.Q
namespace Go.Proofs.Ytbdloopelidneaa.Q
open Go Go.RowKit Go.Proofs.Ytbdloopelidneaa.A Go.Proofs.YtbdloopelidneaaW.PrintWords Go.Proofs.YtbdloopelidneaaW.PrintLast Go.Proofs.YtbdloopelidneaaW.PrintMore Go.Proofs.Ytbdloopelidneaa.Z
set_option linter.unusedVariables false
set_option linter.unusedSimpArgs false
theorem subset_eq (t s : Int) : impl_IsSubset.f t s = some (isAnyB t && (isAnyB s && decide (subN t.toNat s.toNat))) := by
  unfold impl_IsSubset.f
  rw [isAny_eq, isAny_eq, Option.bind_some, Option.bind_some]
  by_cases h1 : isAnyB t = true
  · rw [if_pos h1, h1, Bool.true_and]
    by_cases h2 : isAnyB s = true
    · rw [if_pos h2, h2, Bool.true_and]
      obtain ⟨a, rfl, ha⟩ := isAnyB_lt h1
      obtain ⟨b, rfl, hb⟩ := isAnyB_lt h2
      rw [andNot_nat (lt256_63 ha) (lt256_63 hb), Int.toNat_natCast, Int.toNat_natCast]
      have e : (((dif a b : Nat) : Int) == 0) = decide (subN a b) := by
        rw [Bool.eq_iff_iff, beq_iff_eq, decide_eq_true_eq]
        have h := @dif_zero a b
        constructor
        · intro h0; exact h.1 (by omega)
        · intro h0; have := h.2 h0; omega
      rw [e]
    · rw [if_neg h2, Bool.eq_false_iff.2 h2, Bool.false_and]
  · rw [if_neg h1, Bool.eq_false_iff.2 h1, Bool.false_and]
end Go.Proofs.Ytbdloopelidneaa.Q
namespace Go.Proofs.Ytbdloopelidneaa.Q
open Go Go.RowKit Go.Proofs.YtbdloopelidneaaW.PrintWords Go.Proofs.YtbdloopelidneaaW.PrintLast Go.Proofs.YtbdloopelidneaaW.PrintMore Go.Proofs.Ytbdloopelidneaa.Z
set_option linter.unusedVariables false
set_option linter.unusedSimpArgs false
theorem failE_none {l : List Int} {a b : Nat} : ∀ {es : List Nat}, failE l a b es = none → ∀ e ∈ es, hasEx l a b e = true := by
  intro es
  induction es with
  | nil => intro _ e he; simp at he
  | cons x es ih =>
    intro h e he
    simp only [failE] at h
    by_cases hx : hasEx l a b x = true
    · rw [if_pos hx] at h
      rcases List.mem_cons.1 he with rfl | he
      · exact hx
      · exact ih h e he
    · rw [if_neg hx] at h; cases h
theorem failB_none {l : List Int} {a : Nat} : ∀ {bs : List Nat}, failB l a bs = none → ∀ b ∈ bs, failE l a b (els (dif a b)) = none := by
  intro bs
  induction bs with
  | nil => intro _ e he; simp at he
  | cons x bs ih =>
    intro h b hb
    simp only [failB] at h
    cases hx : failE l a x (els (dif a x)) with
    | none =>
      rw [hx] at h
      rcases List.mem_cons.1 hb with rfl | hb
      · exact hx
      · exact ih h b hb
    | some e => rw [hx] at h; cases h
theorem failA_none {l : List Int} {L : List Nat} : ∀ {la : List Nat}, failA l L la = none → ∀ a ∈ la, failB l a L = none := by
  intro la
  induction la with
  | nil => intro _ e he; simp at he
  | cons x la ih =>
    intro h b hb
    simp only [failA] at h
    cases hx : failB l x L with
    | none =>
      rw [hx] at h
      rcases List.mem_cons.1 hb with rfl | hb
      · exact hx
      · exact ih h b hb
    | some e => rw [hx] at h; cases h
theorem ints_mem {L : List Nat} {x : Nat} : (ints L).contains (x : Int) = true ↔ x ∈ L := by
  rw [List.contains_iff_mem]
  unfold ints
  rw [List.mem_map]
  constructor
  · rintro ⟨y, hy, he⟩
    have : y = x := by omega
    subst this; exact hy
  · intro h; exact ⟨x, h, rfl⟩
/-- What IsMatroid tells is a matroid. -/
theorem matB_mat {n : Int} {l : List Int} (h : matB n l = true) : ∃ (m : Nat) (L : List Nat), n = m ∧ l = ints L ∧ Mat m L ∧ L.Pairwise (· < ·) := by
  have h0 := h
  obtain ⟨m, L, rfl, hm, rfl, hL, hL256, hp, hne⟩ := matB_nat h
  refine ⟨m, L, rfl, rfl, ⟨hm, hL, hne, ?_⟩, hp⟩
  simp only [matB, Bool.and_eq_true] at h0
  obtain ⟨hf, _, hff⟩ := h0
  unfold failT at hff
  rw [if_pos hf, show (ints L).map Int.toNat = L from toNat_map L] at hff
  cases hA : failA (ints L) L L with
  | some x => rw [hA] at hff; simp [told] at hff
  | none =>
    intro a ha b hb e he hae hbe
    have h1 := failE_none (failB_none (failA_none hA a ha) b hb) e (mem_els.2 ⟨he, by rw [dif_bit, hae, hbe]; rfl⟩)
    unfold hasEx at h1
    obtain ⟨f, hf', hc⟩ := List.any_eq_true.1 h1
    obtain ⟨hf8, hfb⟩ := mem_els.1 hf'
    rw [dif_bit] at hfb
    simp only [Bool.and_eq_true, Bool.not_eq_true'] at hfb
    exact ⟨f, hf8, hfb.1, hfb.2, ints_mem.1 hc⟩
/-- And every matroid, listed in order, is told. -/
theorem mat_matB {m : Nat} {L : List Nat} (h : Mat m L) (hp : L.Pairwise (· < ·)) : matB (m : Int) (ints L) = true := by
  have hfam : ∀ (L : List Nat) (p : Option Int), (∀ b ∈ L, b < 2 ^ m) → L.Pairwise (· < ·) → (∀ q, p = some q → ∀ b ∈ L, q < (b : Int)) → famG (m : Int) p (ints L) = true := by
    intro L
    induction L with
    | nil =>
      intro p _ _ _
      have := h.size
      simp only [ints, List.map_nil, famG, Bool.and_eq_true, decide_eq_true_eq]
      omega
    | cons x L ih =>
      intro p hs hp hq
      have hx := hs x (List.mem_cons_self ..)
      rw [List.pairwise_cons] at hp
      simp only [ints, List.map_cons, famG, Bool.and_eq_true]
      refine ⟨?_, ?_, ih (some (x : Int)) (fun b hb => hs b (List.mem_cons_of_mem _ hb)) hp.2 (fun q hq b hb => ?_)⟩
      · rw [isSetB_nat]
        simp [h.size, hx]
      · cases p with
        | none => rfl
        | some q => simpa using hq q rfl x (List.mem_cons_self ..)
      · have := hp.1 b hb
        injection hq with hq
        omega
  have h1 : famB (m : Int) (ints L) = true := hfam L none h.sets hp (fun q hq => by cases hq)
  simp only [matB, Bool.and_eq_true]
  refine ⟨h1, ?_, ?_⟩
  · have : 0 < L.length := List.length_pos_iff.2 h.some
    rw [ints_len]
    exact decide_eq_true (by omega)
  · unfold failT
    rw [if_pos h1, show (ints L).map Int.toNat = L from toNat_map L]
    have hE : ∀ a ∈ L, ∀ b ∈ L, ∀ es : List Nat, (∀ e ∈ es, e ∈ els (dif a b)) → failE (ints L) a b es = none := by
      intro a ha b hb es
      induction es with
      | nil => intro _; rfl
      | cons e es ih =>
        intro hes
        simp only [failE]
        have he := mem_els.1 (hes e (List.mem_cons_self ..))
        rw [dif_bit] at he
        simp only [Bool.and_eq_true, Bool.not_eq_true'] at he
        obtain ⟨f, hf, h1, h2, h3⟩ := h.exch a ha b hb e he.1 he.2.1 he.2.2
        have : hasEx (ints L) a b e = true := by
          unfold hasEx
          rw [List.any_eq_true]
          exact ⟨f, mem_els.2 ⟨hf, by rw [dif_bit, h1, h2]; rfl⟩, ints_mem.2 h3⟩
        rw [if_pos this]
        exact ih (fun e' he' => hes e' (List.mem_cons_of_mem _ he'))
    have hB : ∀ a ∈ L, ∀ bs : List Nat, (∀ b ∈ bs, b ∈ L) → failB (ints L) a bs = none := by
      intro a ha bs
      induction bs with
      | nil => intro _; rfl
      | cons b bs ih =>
        intro hbs
        simp only [failB]
        rw [hE a ha b (hbs b (List.mem_cons_self ..)) _ (fun e he => he)]
        exact ih (fun b' hb' => hbs b' (List.mem_cons_of_mem _ hb'))
    have hA : ∀ la : List Nat, (∀ a ∈ la, a ∈ L) → failA (ints L) L la = none := by
      intro la
      induction la with
      | nil => intro _; rfl
      | cons a la ih =>
        intro hla
        simp only [failA]
        rw [hB a (hla a (List.mem_cons_self ..)) L (fun b hb => hb)]
        exact ih (fun a' ha' => hla a' (List.mem_cons_of_mem _ ha'))
    rw [hA L (fun a ha => ha)]
    rfl
end Go.Proofs.Ytbdloopelidneaa.Q
namespace Go.Proofs.Ytbdloopelidneaa.Q
open Go Go.RowKit Go.Proofs.Ytbdloopelidneaa.A Go.Proofs.YtbdloopelidneaaW.PrintWords Go.Proofs.YtbdloopelidneaaW.PrintLast Go.Proofs.YtbdloopelidneaaW.PrintMore Go.Proofs.Ytbdloopelidneaa.Z
set_option linter.unusedVariables false
set_option linter.unusedSimpArgs false
theorem pow_wrap {e : Nat} (he : e < 8) : IntKind.i64.wrap (2 ^ e) = ((2 ^ e : Nat) : Int) := by
  have h2 : (2 ^ e : Nat) < 9223372036854775808 := by
    have := Nat.pow_lt_pow_right (a := 2) (by decide) (show e < 63 by omega)
    simpa using this
  have h3 : (2 : Int) ^ e = ((2 ^ e : Nat) : Int) := by simp
  rw [h3]
  exact i64_wrap_nat h2
theorem implC_ev (l : List Int) (hl : l.length ≤ 17592186044416) (a e f : Nat) (ha : a < 256) (he : e < 8) (hf : f < 8) : Ev (fun k => impl_FirstFailure.c k l (a : Int) (e : Int) (f : Int)) (l.contains ((dif a (2 ^ e) ||| 2 ^ f : Nat) : Int)) := by
  unfold impl_FirstFailure.c impl_HasSet.f
  refine Ev.ifp (by omega) (Ev.ifp (by omega) ?_)
  have hp : ∀ x < 8, 2 ^ x < 2 ^ 63 := fun x hx => Nat.pow_lt_pow_right (by decide) (by omega)
  rw [Int.toNat_natCast, Int.toNat_natCast, pow_wrap he, pow_wrap hf, andNot_nat (lt256_63 ha) (hp e he), or_nat (lt256_63 (dif_lt ha)) (hp f hf)]
  exact Ev.bind (contains_ev l _ hl) (Ev.now _)
theorem els_lt {s e : Nat} (h : e ∈ els s) : e < 8 := (mem_els.1 h).1
theorem any_map (p : Int → Bool) (L : List Nat) : (L.map (fun x : Nat => (x : Int))).any p = L.any (fun x => p (x : Int)) := by
  rw [List.any_map]; rfl
theorem implFail_l2 (l : List Int) (hl : l.length ≤ 17592186044416) (a b : Nat) (ha : a < 256) (hb : b < 256) : ∀ es : List Nat, (∀ e ∈ es, e < 8) → Ev (fun k => impl_FirstFailure.l2 k l (a : Int) (b : Int) (es.map (fun x : Nat => (x : Int)))) ((failE l a b es).map (fun x : Nat => (x : Int))) := by
  intro es
  induction es with
  | nil => intro _; exact Ev.now _
  | cons e es ih =>
    intro hm
    have he := hm e (List.mem_cons_self ..)
    simp only [List.map_cons, impl_FirstFailure.l2]
    rw [andNot_nat (lt256_63 hb) (lt256_63 ha)]
    refine Ev.bind (implElements_ev _) ?_
    rw [elsB_nat (dif_lt hb)]
    refine Ev.bind (a := hasEx l a b e) ?_ ?_
    · have h := Ev_anyO (g := fun k f => impl_FirstFailure.c k l (a : Int) (e : Int) f) (p := fun f => l.contains ((dif a (2 ^ e) ||| 2 ^ f.toNat : Nat) : Int)) (l := (els (dif b a)).map (fun x : Nat => (x : Int)))
        (fun x hx => by
          obtain ⟨f, hf, rfl⟩ := List.mem_map.1 hx
          have := implC_ev l hl a e f ha he (els_lt hf)
          rw [Int.toNat_natCast]
          exact this)
      rw [any_map] at h
      simp only [Int.toNat_natCast] at h
      exact h
    · simp only [failE]
      by_cases hx : hasEx l a b e = true
      · refine Ev.ifp hx ?_
        rw [if_pos hx]
        exact ih (fun e' he' => hm e' (List.mem_cons_of_mem _ he'))
      · refine Ev.ifn hx ?_
        rw [if_neg hx]
        exact Ev.now _
theorem implFail_l1 (l : List Int) (hl : l.length ≤ 17592186044416) (a : Nat) (ha : a < 256) : ∀ bs : List Nat, (∀ b ∈ bs, b < 256) → Ev (fun k => impl_FirstFailure.l1 k l (a : Int) (bs.map (fun x : Nat => (x : Int)))) ((failB l a bs).map (fun x : Nat × Nat => ((x.1 : Int), (x.2 : Int)))) := by
  intro bs
  induction bs with
  | nil => intro _; exact Ev.now _
  | cons b bs ih =>
    intro hm
    have hb := hm b (List.mem_cons_self ..)
    simp only [List.map_cons, impl_FirstFailure.l1]
    rw [andNot_nat (lt256_63 ha) (lt256_63 hb)]
    refine Ev.bind (implElements_ev _) ?_
    rw [elsB_nat (dif_lt ha)]
    refine Ev.bind (implFail_l2 l hl a b ha hb _ (fun e he => els_lt he)) ?_
    simp only [failB]
    cases failE l a b (els (dif a b)) with
    | none => exact ih (fun b' hb' => hm b' (List.mem_cons_of_mem _ hb'))
    | some e => exact Ev.now _
theorem implFail_l0 (l : List Int) (L : List Nat) (hlL : l = L.map (fun x : Nat => (x : Int))) (hl : l.length ≤ 17592186044416) (hL : ∀ b ∈ L, b < 256) : ∀ la : List Nat, (∀ a ∈ la, a < 256) → Ev (fun k => impl_FirstFailure.l0 k l (la.map (fun x : Nat => (x : Int)))) ((failA l L la).map (fun x : Nat × Nat × Nat => ((x.1 : Int), (x.2.1 : Int), (x.2.2 : Int)))) := by
  intro la
  induction la with
  | nil => intro _; exact Ev.now _
  | cons a la ih =>
    intro hm
    have ha := hm a (List.mem_cons_self ..)
    simp only [List.map_cons, impl_FirstFailure.l0]
    refine Ev.bind (a := (failB l a L).map (fun x : Nat × Nat => ((x.1 : Int), (x.2 : Int)))) (by
      have := implFail_l1 l hl a ha L hL
      rw [← hlL] at this
      exact this) ?_
    simp only [failA]
    cases failB l a L with
    | none => exact ih (fun a' ha' => hm a' (List.mem_cons_of_mem _ ha'))
    | some x => exact Ev.now _
theorem implFail_ev (n : Int) (l : List Int) (hl : l.length ≤ 17592186044416) : Ev (fun k => impl_FirstFailure.f k n l) (failT n l) := by
  unfold impl_FirstFailure.f failT
  refine Ev.bind (implFam_ev n l hl) ?_
  by_cases hf : famB n l = true
  · refine Ev.ifp hf ?_
    rw [if_pos hf]
    obtain ⟨m, L, rfl, hm, hlL, hL, _⟩ := famB_nat hf
    have hmap : l.map Int.toNat = L := by rw [hlL, toNat_map]
    have h256 : ∀ b ∈ L, b < 256 := fun b hb => Nat.lt_of_lt_of_le (hL b hb) (pow_le_256 hm)
    have h := implFail_l0 l L hlL hl h256 L h256
    rw [← hlL] at h
    refine Ev.bind h ?_
    rw [hmap]
    cases failA l L L with
    | none => exact Ev.now _
    | some x => exact Ev.now _
  · refine Ev.ifn hf ?_
    rw [if_neg hf]
    exact Ev.now _
end Go.Proofs.Ytbdloopelidneaa.Q
namespace Go.Proofs.Ytbdloopelidneaa.Q
open Go Go.RowKit Go.Proofs.Ytbdloopelidneaa.A Go.Proofs.YtbdloopelidneaaW.PrintWords Go.Proofs.YtbdloopelidneaaW.PrintLast Go.Proofs.YtbdloopelidneaaW.PrintMore Go.Proofs.Ytbdloopelidneaa.Z
set_option linter.unusedVariables false
set_option linter.unusedSimpArgs false
theorem implMat_ev (n : Int) (l : List Int) (hl : l.length ≤ 17592186044416) : Ev (fun k => impl_IsMatroid.f k n l) (matB n l) := by
  unfold impl_IsMatroid.f matB
  refine Ev.bind (implFail_ev n l hl) (Ev.bind (implFam_ev n l hl) ?_)
  by_cases hf : famB n l = true
  · refine Ev.ifp hf ?_
    rw [hf, Bool.true_and]
    by_cases h0 : (l.length : Int) > 0
    · refine Ev.ifp h0 ?_
      rw [show decide ((l.length : Int) > 0) = true from by simpa using h0, Bool.true_and]
      exact Ev.now _
    · refine Ev.ifn h0 ?_
      rw [show decide ((l.length : Int) > 0) = false from by simpa using h0, Bool.false_and]
      exact Ev.now _
  · refine Ev.ifn hf ?_
    rw [Bool.eq_false_iff.2 hf, Bool.false_and]
    exact Ev.now _
end Go.Proofs.Ytbdloopelidneaa.Q
namespace Go.Proofs.Ytbdloopelidneaa.Q
open Go Go.RowKit Go.Proofs.Ytbdloopelidneaa.A Go.Proofs.YtbdloopelidneaaW.PrintWords Go.Proofs.YtbdloopelidneaaW.PrintLast Go.Proofs.YtbdloopelidneaaW.PrintMore Go.Proofs.Ytbdloopelidneaa.Z
set_option linter.unusedVariables false
set_option linter.unusedSimpArgs false
theorem contains_ints (Y : List Nat) (x : Nat) : (ints Y).contains (x : Int) = decide (x ∈ Y) := by
  rw [Bool.eq_iff_iff, decide_eq_true_eq]
  exact ints_mem
theorem implHasSet_ev (l : List Int) (a : Int) (hl : l.length ≤ 17592186044416) : Ev (fun k => impl_HasSet.f k l a) (l.contains a) := by
  unfold impl_HasSet.f
  exact Ev.bind (contains_ev l a hl) (Ev.now _)
def upB (F Y : List Nat) (a : Nat) : Bool := F.all (fun f => !decide (subN a f) || decide (f ∈ Y))
def mdB (L Y : List Nat) (a b : Nat) : Bool := !decide (rkN L a + rkN L b = rkN L (a &&& b) + rkN L (a ||| b)) || decide (a &&& b ∈ Y)
def cutN (L F Y : List Nat) : Bool := Y.all (fun a => upB F Y a && Y.all (fun b => mdB L Y a b))
/-- What the reference looks at: each pair once. -/
def cutS (L F Y : List Nat) (i : Nat) : List Nat → Bool
  | [] => true
  | a :: ys => upB F Y a && ((Y.take i).all (fun b => mdB L Y a b) && cutS L F Y (i + 1) ys)
theorem mdB_swap (L Y : List Nat) (a b : Nat) : mdB L Y a b = mdB L Y b a := by
  unfold mdB
  rw [Nat.and_comm b a, Nat.or_comm b a, Nat.add_comm (rkN L b)]
theorem cutS_iff (L F Y : List Nat) : ∀ (ys : List Nat) (i : Nat), Y.drop i = ys → (cutS L F Y i ys = true ↔ ∀ j, i ≤ j → ∀ h : j < Y.length, upB F Y Y[j] = true ∧ ∀ b ∈ Y.take j, mdB L Y Y[j] b = true) := by
  intro ys
  induction ys with
  | nil =>
    intro i hd
    have : Y.length ≤ i := List.drop_eq_nil_iff.1 hd
    simp only [cutS, true_iff]
    intro j hj h
    omega
  | cons a ys ih =>
    intro i hd
    have hi : i < Y.length := by
      rcases Nat.lt_or_ge i Y.length with h' | h'
      · exact h'
      · rw [List.drop_eq_nil_of_le h'] at hd; cases hd
    rw [drop_cons Y i hi] at hd
    injection hd with h1 h2
    simp only [cutS, Bool.and_eq_true, List.all_eq_true]
    rw [ih (i + 1) h2]
    constructor
    · rintro ⟨k1, k2, k3⟩ j hj h
      rcases Nat.eq_or_lt_of_le hj with rfl | hj
      · rw [h1]; exact ⟨k1, k2⟩
      · exact k3 j hj h
    · intro k
      refine ⟨?_, ?_, fun j hj h => k j (by omega) h⟩
      · have := (k i (Nat.le_refl _) hi).1
        rwa [h1] at this
      · have := (k i (Nat.le_refl _) hi).2
        rwa [h1] at this
theorem cutS_cutN (L F Y : List Nat) : cutS L F Y 0 Y = cutN L F Y := by
  rw [Bool.eq_iff_iff, cutS_iff L F Y Y 0 rfl]
  unfold cutN
  simp only [List.all_eq_true, Bool.and_eq_true]
  constructor
  · intro k a ha
    obtain ⟨i, hi, rfl⟩ := List.getElem_of_mem ha
    refine ⟨(k i (Nat.zero_le _) hi).1, fun b hb => ?_⟩
    obtain ⟨j, hj, rfl⟩ := List.getElem_of_mem hb
    rcases Nat.lt_trichotomy i j with h | h | h
    · rw [mdB_swap]
      exact (k j (Nat.zero_le _) hj).2 _ (List.mem_take_iff_getElem.2 ⟨i, by omega, rfl⟩)
    · subst h
      unfold mdB
      rw [Nat.and_self, show decide (Y[i] ∈ Y) = true from decide_eq_true ha, Bool.or_true]
    · exact (k i (Nat.zero_le _) hi).2 _ (List.mem_take_iff_getElem.2 ⟨j, by omega, rfl⟩)
  · intro k j _ h
    have := k Y[j] (List.getElem_mem h)
    exact ⟨this.1, fun b hb => this.2 b (List.mem_of_mem_take hb)⟩
theorem modular_ev (n : Int) (L : List Nat) (a b : Nat) (hl : L.length ≤ 17592186044416) (hL : ∀ x ∈ L, x < 256) (ha : a < 256) (hb : b < 256) : Ev (fun k => spec_l17Modular.f k n (ints L) (a : Int) (b : Int)) (decide (rkN L a + rkN L b = rkN L (a &&& b) + rkN L (a ||| b))) := by
  unfold spec_l17Modular.f
  rw [and_nat (lt256_63 ha) (lt256_63 hb), or_nat (lt256_63 ha) (lt256_63 hb)]
  have ho : a ||| b < 256 := Nat.or_lt_two_pow (n := 8) ha hb
  refine Ev.bind (specRank_ev n L a hl hL ha) (Ev.bind (specRank_ev n L b hl hL hb) (Ev.bind (specRank_ev n L _ hl hL (and_lt ha)) (Ev.bind (specRank_ev n L _ hl hL ho) ?_)))
  have h1 := Nat.le_trans (rkN_le L a) (pc_le a)
  have h2 := Nat.le_trans (rkN_le L b) (pc_le b)
  have h3 := Nat.le_trans (rkN_le L (a &&& b)) (pc_le (a &&& b))
  have h4 := Nat.le_trans (rkN_le L (a ||| b)) (pc_le (a ||| b))
  rw [wrap64_of (by omega) (by omega), wrap64_of (by omega) (by omega)]
  have : (((rkN L a : Int) + (rkN L b : Int)) == ((rkN L (a &&& b) : Int) + (rkN L (a ||| b) : Int))) = decide (rkN L a + rkN L b = rkN L (a &&& b) + rkN L (a ||| b)) := by
    rw [Bool.eq_iff_iff, beq_iff_eq, decide_eq_true_eq]
    omega
  rw [this]
  exact Ev.now _
theorem specCut_ev (n : Int) (L F Y : List Nat) (hl : L.length ≤ 17592186044416) (hL : ∀ x ∈ L, x < 256) (hF : ∀ x ∈ F, x < 256) (hY : ∀ x ∈ Y, x < 256) (hfl : F.length ≤ 17592186044416) (hyl : Y.length ≤ 17592186044416) : Ev (fun k => spec_l17Cut.f k n (ints L) (ints F) (ints Y)) (cutN L F Y) := by
  rw [← cutS_cutN]
  have hyl' : (ints Y).length ≤ 17592186044416 := by rw [ints_len]; exact hyl
  have hd := down (P := fun i => Ev (fun k => spec_l17Cut.l0 k (ints F) (ints Y) (i : Int) n (ints L)) (cutS L F Y i (Y.drop i))) Y.length
    (by
      apply Ev.step
      · intro k
        simp only [spec_l17Cut.l0]
        rw [if_neg (by rw [ints_len]; omega)]
      · rw [drop_end]; exact Ev.now _)
    (by
      intro i hi ih
      have ha := hY _ (List.getElem_mem hi)
      rw [drop_cons Y i hi]
      simp only [cutS]
      have h2 := down (P := fun j => Ev (fun k => spec_l17Cut.l2 k (ints F) (ints Y) (i : Int) (j : Int) n (ints L)) (((Y.take i).drop j).all (fun b => mdB L Y Y[i] b) && cutS L F Y (i + 1) (Y.drop (i + 1)))) i
        (by
          apply Ev.step
          · intro k
            simp only [spec_l17Cut.l2]
            rw [if_neg (by omega), w_succ hi hyl]
          · rw [List.drop_eq_nil_of_le (by rw [List.length_take]; omega), List.all_nil, Bool.true_and]
            exact ih)
        (by
          intro j hj ihj
          have hjy : j < Y.length := by omega
          have hb := hY _ (List.getElem_mem hjy)
          apply Ev.step
          · intro k
            simp only [spec_l17Cut.l2]
            rw [if_pos (by omega), if_pos (by omega), if_pos (by rw [ints_len]; omega), if_pos (by omega), if_pos (by rw [ints_len]; omega), ints_rd Y i hi, ints_rd Y j hjy, w_succ hjy hyl, and_nat (lt256_63 ha) (lt256_63 hb)]
          · rw [drop_cons (Y.take i) j (by rw [List.length_take]; omega), List.all_cons, List.getElem_take]
            refine Ev.bind (modular_ev n L _ _ hl hL ha hb) ?_
            unfold mdB
            by_cases hm : rkN L Y[i] + rkN L Y[j] = rkN L (Y[i] &&& Y[j]) + rkN L (Y[i] ||| Y[j])
            · refine Ev.ifp (decide_eq_true hm) (Ev.bind (specHasSet_ev _ _ hyl') ?_)
              rw [contains_ints, show decide (rkN L Y[i] + rkN L Y[j] = rkN L (Y[i] &&& Y[j]) + rkN L (Y[i] ||| Y[j])) = true from decide_eq_true hm, Bool.not_true, Bool.false_or]
              by_cases hc : (Y[i] &&& Y[j]) ∈ Y
              · rw [show decide ((Y[i] &&& Y[j]) ∈ Y) = true from decide_eq_true hc, Bool.true_and]
                exact Ev.ifp rfl ihj
              · rw [show decide ((Y[i] &&& Y[j]) ∈ Y) = false from decide_eq_false hc, Bool.false_and, Bool.false_and]
                exact Ev.ifn (by decide) (Ev.now _)
            · rw [show decide (rkN L Y[i] + rkN L Y[j] = rkN L (Y[i] &&& Y[j]) + rkN L (Y[i] ||| Y[j])) = false from decide_eq_false hm, Bool.not_false, Bool.true_or, Bool.true_and]
              exact Ev.ifn (by decide) ihj)
      rw [List.drop_zero] at h2
      have h1 := down (P := fun j => Ev (fun k => spec_l17Cut.l1 k (ints F) (ints Y) (i : Int) (j : Int) n (ints L)) ((F.drop j).all (fun f => !decide (subN Y[i] f) || decide (f ∈ Y)) && ((Y.take i).all (fun b => mdB L Y Y[i] b) && cutS L F Y (i + 1) (Y.drop (i + 1))))) F.length
        (by
          apply Ev.step
          · intro k
            simp only [spec_l17Cut.l1]
            rw [if_neg (by rw [ints_len]; omega)]
          · rw [drop_end, List.all_nil, Bool.true_and]
            exact h2)
        (by
          intro j hj ihj
          have hf := hF _ (List.getElem_mem hj)
          apply Ev.step
          · intro k
            simp only [spec_l17Cut.l1]
            rw [if_pos (by rw [ints_len]; omega), if_pos (by omega), if_pos (by omega), if_pos (by rw [ints_len]; omega), ints_rd Y i hi, ints_rd F j hj, w_succ hj hfl, and_nat (lt256_63 hf) (lt256_63 ha)]
          · rw [drop_cons F j hj, List.all_cons]
            have hs : (((F[j] &&& Y[i] : Nat) : Int) = (Y[i] : Int)) ↔ subN Y[i] F[j] := by
              unfold subN
              rw [Nat.and_comm]
              omega
            by_cases hm : subN Y[i] F[j]
            · refine Ev.ifp (hs.2 hm) (Ev.bind (specHasSet_ev _ _ hyl') ?_)
              rw [contains_ints, show decide (subN Y[i] F[j]) = true from decide_eq_true hm, Bool.not_true, Bool.false_or]
              by_cases hc : F[j] ∈ Y
              · rw [show decide (F[j] ∈ Y) = true from decide_eq_true hc, Bool.true_and]
                exact Ev.ifp rfl ihj
              · rw [show decide (F[j] ∈ Y) = false from decide_eq_false hc, Bool.false_and, Bool.false_and]
                exact Ev.ifn (by decide) (Ev.now _)
            · rw [show decide (subN Y[i] F[j]) = false from decide_eq_false hm, Bool.not_false, Bool.true_or, Bool.true_and]
              exact Ev.ifn (fun h => hm (hs.1 h)) ihj)
      rw [List.drop_zero] at h1
      apply Ev.step
      · intro k
        simp only [spec_l17Cut.l0]
        rw [if_pos (by rw [ints_len]; omega)]
      · exact h1)
  exact hd
def flB (n : Int) (l : List Int) : List Int := if matB n l = true then ints (flN n.toNat (l.map Int.toNat)) else []
def cutB (n : Int) (l x : List Int) : Bool := cutN (l.map Int.toNat) (flN n.toNat (l.map Int.toNat)) (x.map Int.toNat)
def modB (n : Int) (l x : List Int) : Bool := x.all (fun y => (flB n l).contains y) && (matB n l && (famB n x && cutB n l x))
theorem specFlats_ev (n : Int) (l : List Int) (hl : l.length ≤ 17592186044416) : Ev (fun k => spec_Flats.f k n l) (flB n l) := by
  unfold spec_Flats.f flB
  refine Ev.bind (specMat_ev n l hl) ?_
  by_cases h : matB n l = true
  · refine Ev.ifp h ?_
    rw [if_pos h]
    obtain ⟨m, L, rfl, hm, rfl, hL, hL256, _, hne⟩ := matB_nat h
    rw [show (ints L).map Int.toNat = L from toNat_map L, Int.toNat_natCast]
    rw [ints_len] at hl
    exact Ev.bind (specFlats7_ev hm L hl hL256) (Ev.now _)
  · refine Ev.ifn h ?_
    rw [if_neg h]
    exact Ev.now _
theorem implMod_l0 (n : Int) (L F Y : List Nat) (hl : L.length ≤ 17592186044416) (hL : ∀ x ∈ L, x < 256) (hF : ∀ x ∈ F, x < 256) (hY : ∀ x ∈ Y, x < 256) (hfl : F.length ≤ 17592186044416) (hyl : Y.length ≤ 17592186044416) : Ev (fun k => impl_IsModularCut.l0 k (ints Y) (ints F) (ints Y) ((ints Y).length : Int) 0 n (ints L)) (Y.all (fun a => decide (a ∈ F) && (upB F Y a && Y.all (fun b => mdB L Y a b)))) := by
  have hyl' : (ints Y).length ≤ 17592186044416 := by rw [ints_len]; exact hyl
  have hfl' : (ints F).length ≤ 17592186044416 := by rw [ints_len]; exact hfl
  have hd := down (P := fun i => Ev (fun k => impl_IsModularCut.l0 k (ints Y) (ints F) (ints Y) ((ints Y).length : Int) (i : Int) n (ints L)) ((Y.drop i).all (fun a => decide (a ∈ F) && (upB F Y a && Y.all (fun b => mdB L Y a b))))) Y.length
    (by
      apply Ev.step
      · intro k
        simp only [impl_IsModularCut.l0]
        rw [if_neg (by rw [ints_len]; omega)]
      · rw [drop_end]; exact Ev.now _)
    (by
      intro i hi ih
      have ha := hY _ (List.getElem_mem hi)
      rw [drop_cons Y i hi, List.all_cons]
      have h2 := down (P := fun j => Ev (fun k => impl_IsModularCut.l2 k (ints Y) (ints F) (Y[i] : Int) (ints Y) ((ints Y).length : Int) (i : Int) (ints Y) ((ints Y).length : Int) (j : Int) n (ints L)) ((Y.drop j).all (fun b => mdB L Y Y[i] b) && (Y.drop (i + 1)).all (fun a => decide (a ∈ F) && (upB F Y a && Y.all (fun b => mdB L Y a b))))) Y.length
        (by
          apply Ev.step
          · intro k
            simp only [impl_IsModularCut.l2]
            rw [if_neg (by rw [ints_len]; omega), w_succ hi hyl]
          · rw [drop_end, List.all_nil, Bool.true_and]
            exact ih)
        (by
          intro j hj ihj
          have hb := hY _ (List.getElem_mem hj)
          have ho : Y[i] ||| Y[j] < 256 := Nat.or_lt_two_pow (n := 8) ha hb
          have h1 := Nat.le_trans (rkN_le L Y[i]) (pc_le Y[i])
          have h2 := Nat.le_trans (rkN_le L Y[j]) (pc_le Y[j])
          have h3 := Nat.le_trans (rkN_le L (Y[i] &&& Y[j])) (pc_le (Y[i] &&& Y[j]))
          have h4 := Nat.le_trans (rkN_le L (Y[i] ||| Y[j])) (pc_le (Y[i] ||| Y[j]))
          apply Ev.step
          · intro k
            simp only [impl_IsModularCut.l2]
            rw [if_pos (by rw [ints_len]; omega), if_pos (by omega), if_pos (by rw [ints_len]; omega), ints_rd Y j hj, w_succ hj hyl, and_nat (lt256_63 ha) (lt256_63 hb), or_nat (lt256_63 ha) (lt256_63 hb)]
          · rw [drop_cons Y j hj, List.all_cons]
            refine Ev.bind (implRank_ev n L _ hl hL ha) (Ev.bind (implRank_ev n L _ hl hL hb) (Ev.bind (implRank_ev n L _ hl hL (and_lt ha)) (Ev.bind (implRank_ev n L _ hl hL ho) ?_)))
            rw [wrap64_of (n := (rkN L Y[i] : Int) + (rkN L Y[j] : Int)) (by omega) (by omega), wrap64_of (n := (rkN L (Y[i] &&& Y[j]) : Int) + (rkN L (Y[i] ||| Y[j]) : Int)) (by omega) (by omega)]
            have hs : mdB L Y Y[i] Y[j] = (!decide (rkN L Y[i] + rkN L Y[j] = rkN L (Y[i] &&& Y[j]) + rkN L (Y[i] ||| Y[j])) || decide (Y[i] &&& Y[j] ∈ Y)) := rfl
            by_cases hm : rkN L Y[i] + rkN L Y[j] = rkN L (Y[i] &&& Y[j]) + rkN L (Y[i] ||| Y[j])
            · refine Ev.ifp (by omega) (Ev.bind (implHasSet_ev _ _ hyl') ?_)
              rw [contains_ints, hs, show decide (rkN L Y[i] + rkN L Y[j] = rkN L (Y[i] &&& Y[j]) + rkN L (Y[i] ||| Y[j])) = true from decide_eq_true hm, Bool.not_true, Bool.false_or]
              by_cases hc : (Y[i] &&& Y[j]) ∈ Y
              · rw [show decide ((Y[i] &&& Y[j]) ∈ Y) = true from decide_eq_true hc, Bool.true_and]
                exact Ev.ifp rfl ihj
              · rw [show decide ((Y[i] &&& Y[j]) ∈ Y) = false from decide_eq_false hc, Bool.false_and, Bool.false_and]
                exact Ev.ifn (by decide) (Ev.now _)
            · rw [hs, show decide (rkN L Y[i] + rkN L Y[j] = rkN L (Y[i] &&& Y[j]) + rkN L (Y[i] ||| Y[j])) = false from decide_eq_false hm, Bool.not_false, Bool.true_or, Bool.true_and]
              exact Ev.ifn (by omega) ihj)
      rw [List.drop_zero] at h2
      have h1 := down (P := fun j => Ev (fun k => impl_IsModularCut.l1 k (ints Y) (ints F) (Y[i] : Int) (ints Y) ((ints Y).length : Int) (i : Int) (ints F) ((ints F).length : Int) (j : Int) n (ints L)) ((F.drop j).all (fun f => !decide (subN Y[i] f) || decide (f ∈ Y)) && (Y.all (fun b => mdB L Y Y[i] b) && (Y.drop (i + 1)).all (fun a => decide (a ∈ F) && (upB F Y a && Y.all (fun b => mdB L Y a b)))))) F.length
        (by
          apply Ev.step
          · intro k
            simp only [impl_IsModularCut.l1]
            rw [if_neg (by rw [ints_len]; omega)]
          · rw [drop_end, List.all_nil, Bool.true_and]
            exact h2)
        (by
          intro j hj ihj
          have hf := hF _ (List.getElem_mem hj)
          apply Ev.step
          · intro k
            simp only [impl_IsModularCut.l1, subset_eq, Option.bind_some]
            rw [if_pos (by rw [ints_len]; omega), if_pos (by omega), if_pos (by rw [ints_len]; omega), ints_rd F j hj, w_succ hj hfl, isAnyB_nat, isAnyB_nat, show decide (Y[i] < 256) = true from decide_eq_true ha, show decide (F[j] < 256) = true from decide_eq_true hf, Bool.true_and, Bool.true_and, Int.toNat_natCast, Int.toNat_natCast]
          · rw [drop_cons F j hj, List.all_cons]
            by_cases hm : subN Y[i] F[j]
            · refine Ev.ifp (decide_eq_true hm) (Ev.bind (implHasSet_ev _ _ hyl') ?_)
              rw [contains_ints, show decide (subN Y[i] F[j]) = true from decide_eq_true hm, Bool.not_true, Bool.false_or]
              by_cases hc : F[j] ∈ Y
              · rw [show decide (F[j] ∈ Y) = true from decide_eq_true hc, Bool.true_and]
                exact Ev.ifp rfl ihj
              · rw [show decide (F[j] ∈ Y) = false from decide_eq_false hc, Bool.false_and, Bool.false_and]
                exact Ev.ifn (by decide) (Ev.now _)
            · rw [show decide (subN Y[i] F[j]) = false from decide_eq_false hm, Bool.not_false, Bool.true_or, Bool.true_and]
              exact Ev.ifn (by simp) ihj)
      rw [List.drop_zero] at h1
      apply Ev.step
      · intro k
        simp only [impl_IsModularCut.l0]
        rw [if_pos (by rw [ints_len]; omega), if_pos (by omega), if_pos (by rw [ints_len]; omega), ints_rd Y i hi]
      · refine Ev.bind (implHasSet_ev _ _ hfl') ?_
        rw [contains_ints]
        by_cases hc : Y[i] ∈ F
        · rw [show decide (Y[i] ∈ F) = true from decide_eq_true hc, Bool.true_and]
          refine Ev.ifp rfl ?_
          rw [Bool.and_assoc]
          exact h1
        · rw [show decide (Y[i] ∈ F) = false from decide_eq_false hc, Bool.false_and, Bool.false_and]
          exact Ev.ifn (by decide) (Ev.now _))
  exact hd
theorem implMod_ev (n : Int) (l x : List Int) (hl : l.length ≤ 17592186044416) (hx : x.length ≤ 17592186044416) : Ev (fun k => impl_IsModularCut.f k n l x) (modB n l x) := by
  have hfin : ∀ r : Bool, r = false → ∀ y : Bool, y = true → Ev (fun k => impl_IsModularCut.j0 k x y n l) r := by
    rintro r rfl y hy
    apply Ev.step
    · intro k
      rw [impl_IsModularCut.j0]
    · exact Ev.ifp hy (Ev.now _)
  unfold impl_IsModularCut.f modB
  refine Ev.bind (implMat_ev n l hl) ?_
  by_cases h : matB n l = true
  · refine Ev.ifp h (Ev.bind (implFam_ev n x hx) ?_)
    by_cases hf : famB n x = true
    · rw [h, hf, Bool.true_and, Bool.true_and, Bool.not_true]
      apply Ev.step
      · intro k
        rw [impl_IsModularCut.j0]
      · refine Ev.ifn (by decide) ?_
        unfold flB cutB
        rw [if_pos h]
        obtain ⟨m, L, rfl, hm, rfl, hL, hL256, _, hne⟩ := matB_nat h
        obtain ⟨m', Y, hmm, hm', rfl, hY, _⟩ := famB_nat hf
        rw [show (ints L).map Int.toNat = L from toNat_map L, show (Y.map (fun x : Nat => (x : Int))).map Int.toNat = Y from toNat_map Y, Int.toNat_natCast]
        rw [ints_len] at hl
        have hx' : Y.length ≤ 17592186044416 := by rwa [List.length_map] at hx
        have hfl := flN_len hm L
        have h256 := pow_le_256 hm
        have hmm2 : m' = m := by omega
        subst hmm2
        refine Ev.bind (implFlats_ev hm L hl hL256) ?_
        have hr := implMod_l0 (m' : Int) L (flN m' L) Y hl hL256 (fun t ht => Nat.lt_of_lt_of_le (flN_lt ht) h256) (fun t ht => Nat.lt_of_lt_of_le (hY t ht) h256) (by omega) hx'
        have e : ((Y.map (fun x : Nat => (x : Int))).all (fun y => (ints (flN m' L)).contains y) && cutN L (flN m' L) Y) = Y.all (fun a => decide (a ∈ flN m' L) && (upB (flN m' L) Y a && Y.all (fun b => mdB L Y a b))) := by
          rw [List.all_map, Bool.eq_iff_iff]
          unfold cutN
          simp only [Bool.and_eq_true, List.all_eq_true, Function.comp_apply, contains_ints]
          constructor
          · rintro ⟨k1, k2⟩ a ha
            exact ⟨k1 a ha, k2 a ha⟩
          · intro k
            exact ⟨fun a ha => (k a ha).1, fun a ha => (k a ha).2⟩
        rw [e]
        exact hr
    · rw [Bool.eq_false_iff.2 hf]
      refine hfin _ ?_ _ rfl
      rw [Bool.false_and, Bool.and_false, Bool.and_false]
  · refine Ev.ifn h (hfin _ ?_ _ rfl)
    rw [Bool.eq_false_iff.2 h, Bool.false_and, Bool.and_false]
end Go.Proofs.Ytbdloopelidneaa.Q
namespace Go.Proofs.Ytbdloopelidneaa.Q
open Go Go.RowKit Go.Proofs.Ytbdloopelidneaa.A Go.Proofs.YtbdloopelidneaaW.PrintWords Go.Proofs.YtbdloopelidneaaW.PrintLast Go.Proofs.YtbdloopelidneaaW.PrintMore Go.Proofs.Ytbdloopelidneaa.Z
set_option linter.unusedVariables false
set_option linter.unusedSimpArgs false
/-- Is the first row the lesser one, element by element? -/
def lexB : List Int → List Int → Bool
  | x :: xs, y :: ys => if x = y then lexB xs ys else decide (x < y)
  | _, _ => false
def befB (X Y : List Int) : Bool := if X.length = Y.length then lexB X Y else decide (X.length < Y.length)
theorem specBefore_ev (X Y : List Int) (hx : X.length ≤ 17592186044416) : Ev (fun k => spec_l17Before.f k X Y) (befB X Y) := by
  unfold spec_l17Before.f befB
  by_cases h : X.length = Y.length
  rotate_left
  · rw [if_neg h]
    refine Ev.ifn (by omega) ?_
    rw [show decide ((X.length : Int) < (Y.length : Int)) = decide (X.length < Y.length) from by rw [Bool.eq_iff_iff, decide_eq_true_eq, decide_eq_true_eq]; omega]
    exact Ev.now _
  rw [if_pos h]
  refine Ev.ifp (by omega) ?_
  have hd := down (P := fun i => Ev (fun k => spec_l17Before.l0 k X Y (i : Int)) (lexB (X.drop i) (Y.drop i))) X.length
    (by
      apply Ev.step
      · intro k
        rw [spec_l17Before.l0, if_neg (by omega)]
      · rw [List.drop_length]
        exact Ev.now _)
    (by
      intro i hi ih
      have hi2 : i < Y.length := by omega
      apply Ev.step
      · intro k
        rw [spec_l17Before.l0, if_pos (by omega), if_pos (by omega), if_pos (by omega), rd_getElem X i hi, rd_getElem Y i hi2, w_succ hi hx]
      · rw [drop_cons X i hi, drop_cons Y i hi2]
        simp only [lexB]
        by_cases he : X[i] = Y[i]
        · rw [if_pos he]
          exact Ev.ifp he ih
        · rw [if_neg he]
          exact Ev.ifn he (Ev.now _))
  exact hd
end Go.Proofs.Ytbdloopelidneaa.Q
namespace Go.Proofs.Ytbdloopelidneaa.Q
open Go Go.RowKit Go.Proofs.YtbdloopelidneaaW.PrintWords Go.Proofs.YtbdloopelidneaaW.PrintLast Go.Proofs.YtbdloopelidneaaW.PrintMore Go.Proofs.Ytbdloopelidneaa.Z
set_option linter.unusedVariables false
set_option linter.unusedSimpArgs false
theorem rk_ge {L : List Nat} {b : Nat} (hb : b ∈ L) (s : Nat) : pc (b &&& s) ≤ rkN L s := maxN_mem _ 0 _ (List.mem_map.2 ⟨b, hb, rfl⟩)
theorem rk_attain {L : List Nat} (hne : L ≠ []) (s : Nat) : ∃ b ∈ L, pc (b &&& s) = rkN L s := by
  rcases maxN_cases (L.map (fun b => pc (b &&& s))) 0 with h | h
  · obtain ⟨b, hb⟩ := List.exists_mem_of_ne_nil L hne
    have := rk_ge hb s
    refine ⟨b, hb, ?_⟩
    unfold rkN at this ⊢
    omega
  · obtain ⟨b, hb, e⟩ := List.mem_map.1 h
    exact ⟨b, hb, e⟩
theorem rk_mono {L : List Nat} (hne : L ≠ []) {X Y : Nat} (h : ∀ i, X.testBit i = true → Y.testBit i = true) : rkN L X ≤ rkN L Y := by
  obtain ⟨b, hb, e⟩ := rk_attain hne X
  rw [← e]
  refine Nat.le_trans (pc_mono fun i _ hi => ?_) (rk_ge hb Y)
  rw [Nat.testBit_and, Bool.and_eq_true] at hi ⊢
  exact ⟨hi.1, h i hi.2⟩
theorem Mat.both_step {m : Nat} {L : List Nat} (h : Mat m L) {S T c : Nat} (hST : ∀ i, S.testBit i = true → T.testBit i = true) (hc : c ∈ L) (hcT : pc (c &&& T) = rkN L T) : ∀ (d b : Nat), b ∈ L → pc (b &&& S) = rkN L S → pc (dif b c) = d → ∃ b ∈ L, pc (b &&& S) = rkN L S ∧ pc (b &&& T) = rkN L T := by
  intro d
  induction d with
  | zero =>
    intro b hb hS hd
    refine ⟨b, hb, hS, Nat.le_antisymm (rk_ge hb T) ?_⟩
    rw [← hcT]
    have hcard := h.card hb hc
    refine pc_mono fun i hi hbi => ?_
    rw [Nat.testBit_and, Bool.and_eq_true] at hbi ⊢
    refine ⟨?_, hbi.2⟩
    cases hb' : b.testBit i
    · have h1 : pc b < pc c := by
        have e1 := pc_dif_and c (2 ^ i)
        have hle : pc b ≤ pc (dif c (2 ^ i)) := pc_mono fun j hj hbj => by
          rw [del_bit]
          have : c.testBit j = true := by
            cases hcj : c.testBit j
            · have : 0 < pc (dif b c) := pc_pos hj (by rw [dif_bit, hbj, hcj]; rfl)
              omega
            · rfl
          rw [this]
          have hne : ¬ i = j := by rintro rfl; rw [hb'] at hbj; cases hbj
          simp [hne]
        have := pc_del hi hbi.1
        omega
      omega
    · rfl
  | succ d ih =>
    intro b hb hS hd
    by_cases hT : pc (b &&& T) = rkN L T
    · exact ⟨b, hb, hS, hT⟩
    · have hlt : pc (b &&& T) < pc (c &&& T) := by
        have := rk_ge hb T
        omega
      have hcard := h.card hb hc
      have e1 := pc_dif_and b T
      have e2 := pc_dif_and c T
      obtain ⟨e, he, hbe, hce⟩ := exists_new (a := dif c T) (b := dif b T) (by omega)
      rw [dif_bit, Bool.and_eq_true, Bool.not_eq_true'] at hbe
      have hce' : c.testBit e = false := by
        rw [dif_bit, hbe.2] at hce
        simpa using hce
      obtain ⟨f, hf, h1, h2, hm⟩ := h.exch b hb c hc e he hbe.1 hce'
      refine ih (swp b e f) hm ?_ ?_
      · refine Nat.le_antisymm (rk_ge hm S) ?_
        rw [← hS]
        refine pc_mono fun i _ hi => ?_
        rw [Nat.testBit_and, Bool.and_eq_true] at hi ⊢
        refine ⟨?_, hi.2⟩
        have hie : ¬ e = i := by rintro rfl; have := hST _ hi.2; rw [hbe.2] at this; cases this
        rw [swp_bit, hi.1]
        simp [hie]
      · have e3 : dif (swp b e f) c = dif (dif b c) (2 ^ e) := by
          apply Nat.eq_of_testBit_eq
          intro i
          rw [dif_bit, swp_bit, del_bit, dif_bit]
          by_cases hi : f = i
          · subst hi; rw [h1, h2]; simp
          · simp [hi]
            cases b.testBit i <;> cases c.testBit i <;> simp
        rw [e3]
        have := pc_del (a := dif b c) he (by rw [dif_bit, hbe.1, hce']; rfl)
        omega
theorem Mat.both {m : Nat} {L : List Nat} (h : Mat m L) {S T : Nat} (hST : ∀ i, S.testBit i = true → T.testBit i = true) : ∃ b ∈ L, pc (b &&& S) = rkN L S ∧ pc (b &&& T) = rkN L T := by
  obtain ⟨c, hc, hcT⟩ := rk_attain h.some T
  obtain ⟨b, hb, hbS⟩ := rk_attain h.some S
  exact Mat.both_step h hST hc hcT _ b hb hbS rfl
theorem Mat.rk_sub {m : Nat} {L : List Nat} (h : Mat m L) (X Y : Nat) : rkN L (X ||| Y) + rkN L (X &&& Y) ≤ rkN L X + rkN L Y := by
  obtain ⟨b, hb, h1, h2⟩ := Mat.both h (S := X &&& Y) (T := X ||| Y) (fun i hi => by rw [Nat.testBit_and, Bool.and_eq_true] at hi; rw [Nat.testBit_or, hi.1]; rfl)
  have e := pc_or_and (b &&& X) (b &&& Y)
  have e1 : (b &&& X) ||| (b &&& Y) = b &&& (X ||| Y) := by
    apply Nat.eq_of_testBit_eq
    intro i
    simp only [Nat.testBit_or, Nat.testBit_and]
    cases b.testBit i <;> cases X.testBit i <;> cases Y.testBit i <;> rfl
  have e2 : (b &&& X) &&& (b &&& Y) = b &&& (X &&& Y) := by
    apply Nat.eq_of_testBit_eq
    intro i
    simp only [Nat.testBit_and]
    cases b.testBit i <;> cases X.testBit i <;> cases Y.testBit i <;> rfl
  rw [e1, e2, h1, h2] at e
  have k1 := rk_ge hb X
  have k2 := rk_ge hb Y
  omega
/-- A rank, without its bases. -/
structure RkF (r : Nat → Nat) : Prop where
  zero : r 0 = 0
  one : ∀ i, r (2 ^ i) ≤ 1
  mono : ∀ X Y : Nat, (∀ i, X.testBit i = true → Y.testBit i = true) → r X ≤ r Y
  sub : ∀ X Y : Nat, r (X ||| Y) + r (X &&& Y) ≤ r X + r Y
theorem bit_out {m A i : Nat} (h : A < 2 ^ m) (hi : m ≤ i) : A.testBit i = false := Nat.testBit_lt_two_pow (Nat.lt_of_lt_of_le h (Nat.pow_le_pow_right (by omega) hi))
end Go.Proofs.Ytbdloopelidneaa.Q
namespace Go.Proofs.Ytbdloopelidneaa.Q
open Go Go.RowKit Go.Proofs.YtbdloopelidneaaW.PrintWords Go.Proofs.YtbdloopelidneaaW.PrintLast Go.Proofs.YtbdloopelidneaaW.PrintMore Go.Proofs.Ytbdloopelidneaa.Z
set_option linter.unusedVariables false
set_option linter.unusedSimpArgs false
theorem or_ltP {m a b : Nat} (ha : a < 2 ^ m) (hb : b < 2 ^ m) : a ||| b < 2 ^ m := Nat.or_lt_two_pow ha hb
theorem bit_lt {m s i : Nat} (hs : s < 2 ^ m) (h : s.testBit i = true) : i < m := by
  refine Classical.byContradiction fun hc => ?_
  rw [bit_out hs (by omega)] at h; cases h
theorem pow_lt_of {m i : Nat} (h : i < m) : 2 ^ i < 2 ^ m := Nat.pow_lt_pow_right (by omega) h
/-- Sets of m elements, closed downward, and a smaller one can be filled up from a greater one. -/
structure Ind (m : Nat) (I : Nat → Prop) : Prop where
  size : m ≤ 8
  sets : ∀ s, I s → s < 2 ^ m
  zero : I 0
  down : ∀ s t, I t → subN s t → I s
  aug : ∀ a b, I a → I b → pc a < pc b → ∃ e, e < 8 ∧ b.testBit e = true ∧ a.testBit e = false ∧ I (a ||| 2 ^ e)
def orL (a : Nat) : List Nat → Nat
  | [] => a
  | e :: es => orL a es ||| 2 ^ e
theorem orL_bit (a i : Nat) : ∀ es : List Nat, (orL a es).testBit i = (a.testBit i || decide (i ∈ es)) := by
  intro es
  induction es with
  | nil => simp [orL]
  | cons e es ih =>
    simp only [orL]
    rw [add_bit, ih]
    by_cases h : e = i
    · subst h; simp
    · have : ¬ i = e := fun x => h x.symm
      simp [h, this]
theorem Mat.aug {m : Nat} {L : List Nat} (h : Mat m L) {a b : Nat} (ha : indN L a = true) (hb : indN L b = true) (hlt : pc a < pc b) : ∃ e, e < 8 ∧ b.testBit e = true ∧ a.testBit e = false ∧ indN L (a ||| 2 ^ e) = true := by
  refine Classical.byContradiction fun hc => ?_
  have hlt256 : ∀ s, indN L s = true → s < 256 := fun s hs => by
    obtain ⟨x, hx, hsub⟩ := indN_iff.1 hs
    exact Nat.lt_of_le_of_lt (subN_le hsub) (h.lt x hx)
  have ra := (rk_eq_iff (hlt256 a ha) h.some).2 ha
  have rb := (rk_eq_iff (hlt256 b hb) h.some).2 hb
  have h1 : ∀ e, e < 8 → b.testBit e = true → rkN L (a ||| 2 ^ e) ≤ rkN L a := by
    intro e he hbe
    cases hae : a.testBit e
    · have hn : ¬ indN L (a ||| 2 ^ e) = true := fun x => hc ⟨e, he, hbe, hae, x⟩
      have hl : a ||| 2 ^ e < 256 := Nat.or_lt_two_pow (n := 8) (hlt256 a ha) (pow_lt_of he)
      have hne := mt (rk_eq_iff hl h.some).1 hn
      have hle := rkN_le L (a ||| 2 ^ e)
      rw [pc_add he hae] at hle hne
      omega
    · refine rk_mono h.some fun i hi => ?_
      rw [add_bit, Bool.or_eq_true] at hi
      rcases hi with hi | hi
      · exact hi
      · rw [← of_decide_eq_true hi]; exact hae
  have h2 : ∀ es : List Nat, (∀ e ∈ es, e < 8 ∧ b.testBit e = true) → rkN L (orL a es) ≤ rkN L a := by
    intro es
    induction es with
    | nil => intro _; exact Nat.le_refl _
    | cons e es ih =>
      intro hes
      have ih' := ih (fun x hx => hes x (List.mem_cons_of_mem _ hx))
      have he := hes e (List.mem_cons_self ..)
      have hs := Mat.rk_sub h (orL a es) (a ||| 2 ^ e)
      have k1 : rkN L a ≤ rkN L (orL a es &&& (a ||| 2 ^ e)) := rk_mono h.some fun i hi => by
        rw [Nat.testBit_and, orL_bit, add_bit, hi]; rfl
      have k2 : rkN L (orL a es ||| 2 ^ e) ≤ rkN L (orL a es ||| (a ||| 2 ^ e)) := rk_mono h.some fun i hi => by
        rw [Nat.testBit_or, Bool.or_eq_true] at hi ⊢
        rcases hi with hi | hi
        · exact .inl hi
        · right; rw [Nat.testBit_or, hi, Bool.or_true]
      have k3 := h1 e he.1 he.2
      simp only [orL]
      omega
  have h3 := h2 (els b) (fun e he => mem_els.1 he)
  have h4 : rkN L b ≤ rkN L (orL a (els b)) := rk_mono h.some fun i hi => by
    rw [orL_bit, Bool.or_eq_true]
    right
    refine decide_eq_true (mem_els.2 ⟨?_, hi⟩)
    refine Classical.byContradiction fun hc => ?_
    rw [bit_ge (hlt256 b hb) hc] at hi; cases hi
  omega
theorem Mat.ind {m : Nat} {L : List Nat} (h : Mat m L) : Ind m (fun s => indN L s = true) := by
  refine ⟨h.size, ?_, ?_, ?_, ?_⟩
  · intro s hs
    obtain ⟨x, hx, hsub⟩ := indN_iff.1 hs
    exact Nat.lt_of_le_of_lt (subN_le hsub) (h.sets x hx)
  · obtain ⟨x, hx⟩ := List.exists_mem_of_ne_nil L h.some
    exact indN_iff.2 ⟨x, hx, subN_zero x⟩
  · intro s t ht hst
    obtain ⟨x, hx, hsub⟩ := indN_iff.1 ht
    exact indN_iff.2 ⟨x, hx, subN_trans hst hsub⟩
  · intro a b ha hb hlt
    exact Mat.aug h ha hb hlt
variable {m : Nat} {I : Nat → Prop}
theorem Ind.lt (h : Ind m I) {s : Nat} (hs : I s) : s < 256 := Nat.lt_of_lt_of_le (h.sets s hs) (pow_le_256 h.size)
/-- The greatest size of an independent set. -/
theorem Ind.max (h : Ind m I) : ∃ r, (∃ b, I b ∧ pc b = r) ∧ ∀ s, I s → pc s ≤ r := by
  have key : ∀ d b, I b → 8 - pc b ≤ d → ∃ r, (∃ b, I b ∧ pc b = r) ∧ ∀ s, I s → pc s ≤ r := by
    intro d
    induction d with
    | zero =>
      intro b hb hd
      refine ⟨pc b, ⟨b, hb, rfl⟩, fun s _ => ?_⟩
      have := pc_le s
      have := pc_le b
      omega
    | succ d ih =>
      intro b hb hd
      by_cases hx : ∃ s, I s ∧ pc b < pc s
      · obtain ⟨s, hs, hlt⟩ := hx
        exact ih s hs (by omega)
      · refine ⟨pc b, ⟨b, hb, rfl⟩, fun s hs => ?_⟩
        have : ¬ pc b < pc s := fun hl => hx ⟨s, hs, hl⟩
        omega
  exact key 8 0 h.zero (by omega)
theorem Ind.mat (h : Ind m I) {L : List Nat} {r : Nat} (hL : ∀ b, b ∈ L ↔ I b ∧ pc b = r) (hne : ∃ b, I b ∧ pc b = r) : Mat m L := by
  refine ⟨h.size, fun b hb => h.sets b ((hL b).1 hb).1, ?_, ?_⟩
  · obtain ⟨b, hb⟩ := hne
    intro e
    have := (hL b).2 hb
    rw [e] at this; simp at this
  · intro a ha b hb e he hae hbe
    obtain ⟨ia, pa⟩ := (hL a).1 ha
    obtain ⟨ib, pb⟩ := (hL b).1 hb
    have hd := pc_del he hae
    obtain ⟨f, hf, h1, h2, h3⟩ := h.aug (dif a (2 ^ e)) b (h.down _ a ia (subN_bit.2 fun i hi => by
      rw [dif_bit, Bool.and_eq_true] at hi; exact hi.1)) ib (by omega)
    have hfe : ¬ e = f := by rintro rfl; rw [hbe] at h1; cases h1
    have haf : a.testBit f = false := by
      rw [del_bit] at h2
      simpa [hfe] using h2
    refine ⟨f, hf, h1, haf, (hL _).2 ⟨h3, ?_⟩⟩
    rw [pc_swp he hf hae haf]; exact pa
/-- The independent sets are those within its bases. -/
theorem Ind.indN_iff (h : Ind m I) {L : List Nat} {r : Nat} (hL : ∀ b, b ∈ L ↔ I b ∧ pc b = r) (hne : ∃ b, I b ∧ pc b = r) (hmax : ∀ s, I s → pc s ≤ r) (s : Nat) : indN L s = true ↔ I s := by
  constructor
  · intro hs
    obtain ⟨x, hx, hsub⟩ := Z.indN_iff.1 hs
    exact h.down s x ((hL x).1 hx).1 hsub
  · obtain ⟨b, ib, pb⟩ := hne
    have key : ∀ d s, I s → r - pc s ≤ d → ∃ x, x ∈ L ∧ subN s x := by
      intro d
      induction d with
      | zero =>
        intro s hs hd
        have := hmax s hs
        exact ⟨s, (hL s).2 ⟨hs, by omega⟩, subN_refl s⟩
      | succ d ih =>
        intro s hs hd
        by_cases he : pc s = r
        · exact ⟨s, (hL s).2 ⟨hs, he⟩, subN_refl s⟩
        · have := hmax s hs
          obtain ⟨e, he8, h1, h2, h3⟩ := h.aug s b hs ib (by omega)
          obtain ⟨x, hx, hsub⟩ := ih _ h3 (by rw [pc_add he8 h2]; omega)
          refine ⟨x, hx, subN_trans (subN_bit.2 fun i hi => ?_) hsub⟩
          rw [add_bit, hi, Bool.true_or]
    intro hs
    obtain ⟨x, hx, hsub⟩ := key _ s hs (Nat.le_refl _)
    exact Z.indN_iff.2 ⟨x, hx, hsub⟩
/-- At most one element, and of S. -/
def One (S s : Nat) : Prop := s = 0 ∨ ∃ e, e < 8 ∧ S.testBit e = true ∧ s = 2 ^ e
theorem Ind.one {S : Nat} (hm : m ≤ 8) (hS : S < 2 ^ m) : Ind m (One S) := by
  refine ⟨hm, ?_, .inl rfl, ?_, ?_⟩
  · rintro s (rfl | ⟨e, he, h1, rfl⟩)
    · exact Nat.two_pow_pos _
    · exact pow_lt_of (bit_lt hS h1)
  · rintro s t (rfl | ⟨e, he, h1, rfl⟩) hst
    · left
      have := subN_le hst
      omega
    · cases hb : s.testBit e
      · left
        apply Nat.eq_of_testBit_eq
        intro i
        rw [Nat.zero_testBit]
        cases hi : s.testBit i
        · rfl
        · have := subN_bit.1 hst i hi
          rw [Nat.testBit_two_pow] at this
          rw [of_decide_eq_true this, hi] at hb; cases hb
      · right
        refine ⟨e, he, h1, ?_⟩
        apply Nat.eq_of_testBit_eq
        intro i
        rw [Nat.testBit_two_pow]
        by_cases hi : e = i
        · subst hi; rw [hb]; simp
        · rw [decide_eq_false hi]
          cases hs : s.testBit i
          · rfl
          · have := subN_bit.1 hst i hs
            rw [Nat.testBit_two_pow] at this
            exact absurd (of_decide_eq_true this) hi
  · rintro a b (rfl | ⟨e, he, h1, rfl⟩) hb hlt
    · rcases hb with rfl | ⟨f, hf, h2, rfl⟩
      · omega
      · exact ⟨f, hf, by rw [Nat.testBit_two_pow]; simp, Nat.zero_testBit _, by rw [Nat.zero_or]; exact .inr ⟨f, hf, h2, rfl⟩⟩
    · rw [pc_pow he] at hlt
      rcases hb with rfl | ⟨f, hf, h2, rfl⟩
      · rw [pc_zero] at hlt; omega
      · rw [pc_pow hf] at hlt; omega
end Go.Proofs.Ytbdloopelidneaa.Q
namespace Go.Proofs.Ytbdloopelidneaa.Q
open Go Go.RowKit Go.Proofs.YtbdloopelidneaaW.PrintWords Go.Proofs.YtbdloopelidneaaW.PrintLast Go.Proofs.YtbdloopelidneaaW.PrintMore Go.Proofs.Ytbdloopelidneaa.Z
set_option linter.unusedVariables false
set_option linter.unusedSimpArgs false
theorem sub_card {a b : Nat} (ha : a < 256) (hb : b < 256) (h : subN a b) (hc : pc b ≤ pc a) : a = b := by
  apply set_ext ha hb
  intro i hi
  cases hbi : b.testBit i
  · cases hai : a.testBit i
    · rfl
    · rw [subN_bit.1 h i hai] at hbi; cases hbi
  · cases hai : a.testBit i
    · have h1 : pc a ≤ pc (dif b (2 ^ i)) := pc_mono fun j _ hj => by
        rw [del_bit, subN_bit.1 h j hj]
        have : ¬ i = j := by rintro rfl; rw [hai] at hj; cases hj
        simp [this]
      have := pc_del hi hbi
      omega
    · rfl
end Go.Proofs.Ytbdloopelidneaa.Q
namespace Go.Proofs.Ytbdloopelidneaa.Q
open Go Go.RowKit Go.Proofs.YtbdloopelidneaaW.PrintWords Go.Proofs.YtbdloopelidneaaW.PrintLast Go.Proofs.YtbdloopelidneaaW.PrintMore Go.Proofs.Ytbdloopelidneaa.Z
set_option linter.unusedVariables false
set_option linter.unusedSimpArgs false
theorem RkF.add {r : Nat → Nat} (h : RkF r) (a e : Nat) : r (a ||| 2 ^ e) ≤ r a + 1 := by
  have h1 := h.sub a (2 ^ e)
  have h2 := h.one e
  omega
theorem RkF.no_raise {r : Nat → Nat} (h : RkF r) {a : Nat} : ∀ (es : List Nat), (∀ e ∈ es, r (a ||| 2 ^ e) = r a) → r (orL a es) = r a := by
  intro es
  induction es with
  | nil => intro _; rfl
  | cons e es ih =>
    intro he
    have h1 := ih (fun x hx => he x (List.mem_cons_of_mem _ hx))
    have h2 := he e (List.mem_cons_self ..)
    have h3 := h.sub (orL a es) (a ||| 2 ^ e)
    have e1 : orL a es ||| (a ||| 2 ^ e) = orL a (e :: es) := by
      apply Nat.eq_of_testBit_eq
      intro i
      simp only [orL]
      rw [Nat.testBit_or, add_bit, add_bit, orL_bit]
      cases a.testBit i <;> cases decide (i ∈ es) <;> cases decide (e = i) <;> rfl
    have h4 := h.mono a (orL a es &&& (a ||| 2 ^ e)) (fun i hi => by rw [Nat.testBit_and, orL_bit, add_bit, hi]; rfl)
    have h5 := h.mono a (orL a (e :: es)) (fun i hi => by rw [orL_bit, hi]; rfl)
    rw [e1] at h3
    omega
theorem del_add {s e : Nat} (h : s.testBit e = true) : dif s (2 ^ e) ||| 2 ^ e = s := by
  apply Nat.eq_of_testBit_eq
  intro i
  rw [add_bit, del_bit]
  by_cases hi : e = i
  · subst hi; rw [h]; simp
  · simp [hi]
theorem RkF.le_pc {r : Nat → Nat} (h : RkF r) : ∀ (d s : Nat), s < 256 → pc s = d → r s ≤ d := by
  intro d
  induction d with
  | zero =>
    intro s hs hp
    rw [(pc_zero_iff hs).1 hp, h.zero]; exact Nat.le_refl _
  | succ d ih =>
    intro s hs hp
    obtain ⟨e, he, hb⟩ := exists_of_pc (a := s) (by omega)
    have h1 := pc_del he hb
    have h2 := ih (dif s (2 ^ e)) (dif_lt hs) (by omega)
    have h3 := h.add (dif s (2 ^ e)) e
    rw [del_add hb] at h3
    omega
theorem RkF.down {r : Nat → Nat} (h : RkF r) {s : Nat} : ∀ (d t : Nat), t < 256 → subN s t → pc (dif t s) = d → r t = pc t → r s = pc s := by
  intro d
  induction d with
  | zero =>
    intro t ht hst hd hr
    have hle : pc t ≤ pc s := by
      have h1 := pc_dif_and t s
      have h2 : pc (t &&& s) ≤ pc s := pc_mono fun i _ hi => by rw [Nat.testBit_and, Bool.and_eq_true] at hi; exact hi.2
      omega
    have hs : s < 256 := Nat.lt_of_le_of_lt (by rw [← hst]; exact Nat.and_le_right) ht
    rw [sub_card hs ht hst hle]; exact hr
  | succ d ih =>
    intro t ht hst hd hr
    obtain ⟨e, he, hb⟩ := exists_of_pc (a := dif t s) (by omega)
    rw [dif_bit, Bool.and_eq_true, Bool.not_eq_true'] at hb
    have h1 := pc_del he hb.1
    have h2 := h.add (dif t (2 ^ e)) e
    rw [del_add hb.1] at h2
    have hlt : dif t (2 ^ e) < 256 := dif_lt ht
    have h3 := h.le_pc _ _ hlt rfl
    have e1 : dif (dif t (2 ^ e)) s = dif (dif t s) (2 ^ e) := by
      apply Nat.eq_of_testBit_eq
      intro i
      rw [dif_bit, del_bit, del_bit, dif_bit]
      cases t.testBit i <;> cases s.testBit i <;> cases decide (e = i) <;> rfl
    have h4 := pc_del (a := dif t s) he (by rw [dif_bit, hb.1, hb.2]; rfl)
    refine ih (dif t (2 ^ e)) hlt (subN_bit.2 fun i hi => ?_) (by rw [e1]; omega) (by omega)
    rw [del_bit, subN_bit.1 hst i hi, Bool.true_and]
    have : ¬ e = i := by rintro rfl; rw [hb.2] at hi; cases hi
    simp [this]
theorem RkF.ind {r : Nat → Nat} (h : RkF r) {m : Nat} (hm : m ≤ 8) : Ind m (fun s => s < 2 ^ m ∧ r s = pc s) := by
  have h256 := pow_le_256 hm
  refine ⟨hm, fun s hs => hs.1, ⟨Nat.two_pow_pos _, by rw [h.zero, pc_zero]⟩, ?_, ?_⟩
  · rintro s t ⟨ht, hr⟩ hst
    exact ⟨Nat.lt_of_le_of_lt (by rw [← hst]; exact Nat.and_le_right) ht, h.down _ t (by omega) hst rfl hr⟩
  · rintro a b ⟨ha, ra⟩ ⟨hb, rb⟩ hlt
    refine Classical.byContradiction fun hc => ?_
    have hall : ∀ e ∈ (List.range 8).filter (fun e => b.testBit e && !a.testBit e), r (a ||| 2 ^ e) = r a := by
      intro e he
      rw [List.mem_filter, List.mem_range, Bool.and_eq_true, Bool.not_eq_true'] at he
      obtain ⟨he8, hbe, hae⟩ := he
      have hem : e < m := bit_lt hb hbe
      have h1 := h.add a e
      have h2 := h.mono a (a ||| 2 ^ e) (fun i hi => by rw [add_bit, hi]; rfl)
      have h3 := pc_add he8 hae
      refine Classical.byContradiction fun hne => hc ⟨e, he8, hbe, hae, or_ltP ha (pow_lt_of hem), by omega⟩
    have h1 := h.no_raise _ hall
    have h2 := h.mono b (orL a ((List.range 8).filter (fun e => b.testBit e && !a.testBit e))) (fun i hi => by
      rw [orL_bit]
      cases hai : a.testBit i
      · rw [Bool.false_or, decide_eq_true_eq, List.mem_filter, List.mem_range]
        exact ⟨by have := bit_lt hb hi; omega, by rw [hi, hai]; rfl⟩
      · rfl)
    omega
theorem RkF.attain {r : Nat → Nat} (h : RkF r) : ∀ (d s : Nat), s < 256 → pc s = d → ∃ t, subN t s ∧ r t = pc t ∧ pc t = r s := by
  intro d
  induction d with
  | zero =>
    intro s hs hp
    rw [(pc_zero_iff hs).1 hp]
    exact ⟨0, subN_refl 0, by rw [h.zero, pc_zero], by rw [h.zero, pc_zero]⟩
  | succ d ih =>
    intro s hs hp
    obtain ⟨e, he, hb⟩ := exists_of_pc (a := s) (by omega)
    have h1 := pc_del he hb
    have hlt : dif s (2 ^ e) < 256 := dif_lt hs
    obtain ⟨t, ht, hr, hp2⟩ := ih (dif s (2 ^ e)) hlt (by omega)
    have h3 := h.add (dif s (2 ^ e)) e
    rw [del_add hb] at h3
    have hbit := subN_bit.1 ht
    have h4 := h.mono (dif s (2 ^ e)) s (fun i hi => by rw [del_bit, Bool.and_eq_true] at hi; exact hi.1)
    by_cases hc : r s = r (dif s (2 ^ e))
    · exact ⟨t, subN_bit.2 (fun i hi => by have := hbit i hi; rw [del_bit, Bool.and_eq_true] at this; exact this.1), hr, by omega⟩
    · have hte : t.testBit e = false := by
        rw [Bool.eq_false_iff]
        intro hx
        have := hbit e hx
        rw [del_bit] at this
        simp at this
      have hsub := h.sub (dif s (2 ^ e)) (t ||| 2 ^ e)
      have e1 : dif s (2 ^ e) ||| (t ||| 2 ^ e) = s := by
        apply Nat.eq_of_testBit_eq
        intro i
        rw [Nat.testBit_or, add_bit, del_bit]
        by_cases hi : e = i
        · subst hi; rw [hb]; simp
        · have := hbit i
          rw [del_bit] at this
          cases hsi : s.testBit i <;> cases hti : t.testBit i <;> simp_all
      rw [e1] at hsub
      have h5 := h.mono t (dif s (2 ^ e) &&& (t ||| 2 ^ e)) (fun i hi => by rw [Nat.testBit_and, hbit i hi, add_bit, hi]; rfl)
      have h6 := pc_add he hte
      have h7 := h.add t e
      refine ⟨t ||| 2 ^ e, subN_bit.2 (fun i hi => ?_), by omega, by omega⟩
      rw [add_bit, Bool.or_eq_true] at hi
      rcases hi with hi | hi
      · have := hbit i hi; rw [del_bit, Bool.and_eq_true] at this; exact this.1
      · rw [← of_decide_eq_true hi]; exact hb
/-- The bases of a rank: a matroid, of that rank. -/
theorem RkF.base {r : Nat → Nat} (h : RkF r) {m : Nat} (hm : m ≤ 8) {L : List Nat} (hL : ∀ b, b ∈ L ↔ (b < 2 ^ m ∧ r b = pc b) ∧ pc b = r (fullN m)) : Mat m L ∧ ∀ s, s < 2 ^ m → rkN L s = r s := by
  have h256 := pow_le_256 hm
  have hI := h.ind hm
  have hfl : fullN m < 2 ^ m := by unfold fullN; have := Nat.two_pow_pos m; omega
  obtain ⟨t0, hs0, hr0, hp0⟩ := h.attain _ (fullN m) (by omega) rfl
  have hne : ∃ b, (b < 2 ^ m ∧ r b = pc b) ∧ pc b = r (fullN m) := ⟨t0, ⟨Nat.lt_of_le_of_lt (by rw [← hs0]; exact Nat.and_le_right) hfl, hr0⟩, hp0⟩
  have hmx : ∀ s, s < 2 ^ m → r s ≤ r (fullN m) := fun s hs => h.mono _ _ (fun i hi => by rw [full_bit]; exact decide_eq_true (bit_lt hs hi))
  have hM : Mat m L := hI.mat hL hne
  have hiff := hI.indN_iff hL hne (fun s hs => by have := hmx s hs.1; omega)
  refine ⟨hM, fun s hs => Nat.le_antisymm ?_ ?_⟩
  · obtain ⟨b, hb, he⟩ := rk_attain hM.some s
    have hi : indN L (b &&& s) = true := indN_iff.2 ⟨b, hb, subN_bit.2 fun i hi => by rw [Nat.testBit_and, Bool.and_eq_true] at hi; exact hi.1⟩
    have := ((hiff _).1 hi).2
    have h2 := h.mono (b &&& s) s (fun i hi => by rw [Nat.testBit_and, Bool.and_eq_true] at hi; exact hi.2)
    omega
  · obtain ⟨t, hts, hr, hp⟩ := h.attain _ s (by omega) rfl
    have ht : t < 2 ^ m := Nat.lt_of_le_of_lt (by rw [← hts]; exact Nat.and_le_right) hs
    obtain ⟨b, hb, htb⟩ := indN_iff.1 ((hiff t).2 ⟨ht, hr⟩)
    have h1 := rk_ge hb s
    have h2 : pc t ≤ pc (b &&& s) := pc_mono fun i _ hi => by rw [Nat.testBit_and, subN_bit.1 htb i hi, subN_bit.1 hts i hi]; rfl
    omega
end Go.Proofs.Ytbdloopelidneaa.Q
namespace Go.Proofs.Ytbdloopelidneaa.Q
open Go Go.RowKit Go.Proofs.YtbdloopelidneaaW.PrintWords Go.Proofs.YtbdloopelidneaaW.PrintLast Go.Proofs.YtbdloopelidneaaW.PrintMore Go.Proofs.Ytbdloopelidneaa.Z
set_option linter.unusedVariables false
set_option linter.unusedSimpArgs false
theorem flN_pair (m : Nat) (L : List Nat) : (flN m L).Pairwise (· < ·) := List.Pairwise.filter _ List.pairwise_lt_range
end Go.Proofs.Ytbdloopelidneaa.Q
namespace Go.Proofs.Ytbdloopelidneaa.Q
open Go Go.RowKit Go.Proofs.YtbdloopelidneaaW.PrintWords Go.Proofs.YtbdloopelidneaaW.PrintLast Go.Proofs.YtbdloopelidneaaW.PrintMore Go.Proofs.Ytbdloopelidneaa.Z
set_option linter.unusedVariables false
set_option linter.unusedSimpArgs false
theorem famB_of {m : Nat} (hm : m ≤ 8) {Y : List Nat} (hs : ∀ y ∈ Y, y < 2 ^ m) (hp : Y.Pairwise (· < ·)) : famB (m : Int) (ints Y) = true := by
  have hfam : ∀ (L : List Nat) (p : Option Int), (∀ b ∈ L, b < 2 ^ m) → L.Pairwise (· < ·) → (∀ q, p = some q → ∀ b ∈ L, q < (b : Int)) → famG (m : Int) p (ints L) = true := by
    intro L
    induction L with
    | nil =>
      intro p _ _ _
      simp only [ints, List.map_nil, famG, Bool.and_eq_true, decide_eq_true_eq]
      omega
    | cons x L ih =>
      intro p hs hp hq
      have hx := hs x (List.mem_cons_self ..)
      rw [List.pairwise_cons] at hp
      simp only [ints, List.map_cons, famG, Bool.and_eq_true]
      refine ⟨?_, ?_, ih (some (x : Int)) (fun b hb => hs b (List.mem_cons_of_mem _ hb)) hp.2 (fun q hq b hb => ?_)⟩
      · rw [isSetB_nat]
        simp [hm, hx]
      · cases p with
        | none => rfl
        | some q => simpa using hq q rfl x (List.mem_cons_self ..)
      · have := hp.1 b hb
        injection hq with hq
        omega
  exact hfam Y none hs hp (fun q hq => by cases hq)
theorem flB_nat {m : Nat} {L : List Nat} (h : matB (m : Int) (ints L) = true) : flB (m : Int) (ints L) = ints (flN m L) := by
  unfold flB
  rw [if_pos h, Int.toNat_natCast, show (ints L).map Int.toNat = L from toNat_map L]
end Go.Proofs.Ytbdloopelidneaa.Q
namespace Go.Proofs.Ytbdloopelidneaa.Q
open Go Go.RowKit Go.Proofs.Ytbdloopelidneaa.A Go.Proofs.YtbdloopelidneaaW.PrintWords Go.Proofs.YtbdloopelidneaaW.PrintLast Go.Proofs.YtbdloopelidneaaW.PrintMore Go.Proofs.Ytbdloopelidneaa.Z
set_option linter.unusedVariables false
set_option linter.unusedSimpArgs false
/-- The flats of the places that a number's bits tell. -/
def cutAt (b : Nat) : Nat → List Nat → List Nat
  | _, [] => []
  | i, x :: xs => if b.testBit i = true then x :: cutAt b (i + 1) xs else cutAt b (i + 1) xs
theorem cutAt_sub (b : Nat) : ∀ (F : List Nat) (i : Nat), (cutAt b i F).Sublist F := by
  intro F
  induction F with
  | nil => intro i; exact List.Sublist.slnil
  | cons x F ih =>
    intro i
    simp only [cutAt]
    split
    · exact (ih _).cons_cons x
    · exact (ih _).cons x
theorem lexB_lexS : ∀ X Y : List Int, lexB X Y = lexS X Y := by
  intro X
  induction X with
  | nil => intro Y; cases Y <;> rfl
  | cons x X ih =>
    intro Y
    cases Y with
    | nil => rfl
    | cons y Y => simp only [lexB, lexS, ih]
theorem befB_befS (X Y : List Int) : befB X Y = befS X Y := by unfold befB befS; rw [lexB_lexS]
theorem implC_eq {b : Nat} (hb : b < 2 ^ 63) : ∀ (F : List Nat) (i : Nat), impl_AllCuts.c (b : Int) (i : Int) (ints F) = ints (cutAt b i F) := by
  intro F
  induction F with
  | nil => intro i; rfl
  | cons x F ih =>
    intro i
    have h := @bit_natP b i hb
    have e : ((i : Int) + 1) = ((i + 1 : Nat) : Int) := by omega
    show impl_AllCuts.c (b : Int) (i : Int) ((x : Int) :: ints F) = _
    simp only [impl_AllCuts.c, cutAt]
    rw [e, ih]
    by_cases hc : b.testBit i = true
    · rw [if_pos (h.2 hc), if_pos hc]; rfl
    · rw [if_neg (fun h' => hc (h.1 h')), if_neg hc]
theorem specC_eq {b : Nat} (hb : b < 2 ^ 63) : ∀ (F : List Nat) (i : Nat), i + F.length ≤ 1000 → spec_AllCuts.c (b : Int) (i : Int) (ints F) = some (ints (cutAt b i F)) := by
  intro F
  induction F with
  | nil => intro i _; rfl
  | cons x F ih =>
    intro i hi
    rw [List.length_cons] at hi
    have e : ((i : Int) + 1) = ((i + 1 : Nat) : Int) := by omega
    show spec_AllCuts.c (b : Int) (i : Int) ((x : Int) :: ints F) = _
    simp only [spec_AllCuts.c, cutAt]
    rw [l2Has_eq hb (by omega), Option.bind_some, e, ih (i + 1) (by omega), Option.bind_some]
    by_cases hc : b.testBit i = true
    · rw [if_pos hc, if_pos hc]; rfl
    · rw [if_neg hc, if_neg hc]
/-- The modular cuts among those that the numbers from b on tell. -/
def cutsN (L F : List Nat) (d b : Nat) : List (List Int) := (((List.range' b d).map (fun b => cutAt b 0 F)).filter (cutN L F)).map ints
theorem cutsN_succ (L F : List Nat) (d b : Nat) : cutsN L F (d + 1) b = (if cutN L F (cutAt b 0 F) = true then [ints (cutAt b 0 F)] else []) ++ cutsN L F d (b + 1) := by
  unfold cutsN
  rw [List.range'_succ, List.map_cons, List.filter_cons]
  split <;> rfl
def insS (C : List Int) : List (List Int) → List (List Int)
  | [] => [C]
  | o :: os => if befS o C = true then o :: insS C os else C :: o :: os
def posS (C : List Int) : List (List Int) → Nat
  | [] => 0
  | o :: os => if befS o C = true then posS C os + 1 else 0
theorem insS_pos (C : List Int) : ∀ os : List (List Int), (os.take (posS C os) ++ [C]) ++ os.drop (posS C os) = insS C os := by
  intro os
  induction os with
  | nil => rfl
  | cons o os ih =>
    simp only [posS, insS]
    split
    · rw [List.take_succ_cons, List.drop_succ_cons, List.cons_append, List.cons_append, ih]
    · rfl
theorem insS_perm (C : List Int) : ∀ os : List (List Int), (insS C os).Perm (C :: os) := by
  intro os
  induction os with
  | nil => exact List.Perm.refl _
  | cons o os ih =>
    simp only [insS]
    split
    · exact (ih.cons o).trans (List.Perm.swap C o os)
    · exact List.Perm.refl _
theorem befS_asymm {X Y : List Int} (h : befS X Y = true) : befS Y X = false := by
  cases h2 : befS Y X
  · rfl
  · have := befS_trans h h2
    rw [befS_self] at this; cases this
theorem insS_sorted (C : List Int) : ∀ os : List (List Int), os.Pairwise (fun a b => befS b a = false) → (insS C os).Pairwise (fun a b => befS b a = false) := by
  intro os
  induction os with
  | nil => intro _; exact List.pairwise_singleton _ _
  | cons o os ih =>
    intro h
    rw [List.pairwise_cons] at h
    simp only [insS]
    by_cases hc : befS o C = true
    · rw [if_pos hc, List.pairwise_cons]
      refine ⟨fun b hb => ?_, ih h.2⟩
      rcases List.mem_cons.1 ((insS_perm C os).mem_iff.1 hb) with rfl | hb
      · exact befS_asymm hc
      · exact h.1 b hb
    · have hc : befS o C = false := Bool.eq_false_iff.2 hc
      rw [if_neg (by rw [hc]; decide), List.pairwise_cons]
      refine ⟨fun b hb => ?_, List.pairwise_cons.2 h⟩
      rcases List.mem_cons.1 hb with rfl | hb
      · exact hc
      · exact befS_ntrans (h.1 b hb) hc
theorem insAll (K : List (List Int)) : ∀ out : List (List Int), out.Pairwise (fun a b => befS b a = false) → (K.foldl (fun o C => insS C o) out).Pairwise (fun a b => befS b a = false) ∧ (K.foldl (fun o C => insS C o) out).Perm (K ++ out) := by
  induction K with
  | nil => intro out h; exact ⟨h, List.Perm.refl _⟩
  | cons C K ih =>
    intro out h
    obtain ⟨h1, h2⟩ := ih (insS C out) (insS_sorted C out h)
    refine ⟨h1, h2.trans ?_⟩
    exact ((insS_perm C out).append_left K).trans List.perm_middle
theorem insAll_sortS (K : List (List Int)) : K.foldl (fun o C => insS C o) [] = sortS K := by
  obtain ⟨h1, h2⟩ := insAll K [] List.Pairwise.nil
  rw [List.append_nil] at h2
  exact sortS_unique h2 h1
theorem specP_ev (C : List Int) : ∀ os : List (List Int), (∀ o ∈ os, o.length ≤ 1000) → Ev (fun k => spec_AllCuts.p k C os) (posS C os) := by
  intro os
  induction os with
  | nil => intro _; exact Ev.now _
  | cons o os ih =>
    intro h
    have h1 := specBefore_ev o C (by have := h o (List.mem_cons_self ..); omega)
    rw [befB_befS] at h1
    refine Ev.bind h1 ?_
    simp only [posS]
    by_cases hc : befS o C = true
    · rw [if_pos hc]
      exact Ev.ifp hc (Ev.bind (ih (fun x hx => h x (List.mem_cons_of_mem _ hx))) (Ev.now _))
    · rw [if_neg hc]
      exact Ev.ifn hc (Ev.now _)
theorem cutAt_len {b i : Nat} {F : List Nat} (h : F.length ≤ 10) : (ints (cutAt b i F)).length ≤ 10 := by
  rw [ints_len]; exact Nat.le_trans (cutAt_sub b F i).length_le h
theorem specL_ev (n : Int) {L F : List Nat} (hl : L.length ≤ 17592186044416) (hL : ∀ x ∈ L, x < 256) (hF : ∀ x ∈ F, x < 256) (hF10 : F.length ≤ 10) : ∀ (d b : Nat) (out : List (List Int)), b + d ≤ 2048 → (∀ o ∈ out, o.length ≤ 10) → Ev (fun k => spec_AllCuts.l k n (ints L) (ints F) d (b : Int) out) ((cutsN L F d b).foldl (fun o C => insS C o) out) := by
  intro d
  induction d with
  | zero => intro b out _ _; exact Ev.now _
  | succ d ih =>
    intro b out hb ho
    have hC := cutAt_len (b := b) (i := 0) hF10
    have e : ((b : Int) + 1) = ((b + 1 : Nat) : Int) := by omega
    have hY : ∀ x ∈ cutAt b 0 F, x < 256 := fun x hx => hF x ((cutAt_sub b F 0).subset hx)
    have hc0 := specC_eq (b := b) (by omega) F 0 (by omega)
    show Ev (fun k => (spec_AllCuts.c (b : Int) 0 (ints F)).bind fun C => (spec_l17Cut.f k n (ints L) (ints F) C).bind fun t => if t = true then (spec_AllCuts.p k C out).bind fun q => spec_AllCuts.l k n (ints L) (ints F) d ((b : Int) + 1) ((out.take q ++ [C]) ++ out.drop q) else spec_AllCuts.l k n (ints L) (ints F) d ((b : Int) + 1) out) _
    refine Ev.cbind hc0 (Ev.bind (specCut_ev n L F (cutAt b 0 F) hl hL hF hY (by omega) (by rw [ints_len] at hC; omega)) ?_)
    rw [cutsN_succ, e]
    by_cases hc : cutN L F (cutAt b 0 F) = true
    · rw [if_pos hc]
      refine Ev.ifp hc (Ev.bind (specP_ev _ out (fun o h => by have := ho o h; omega)) ?_)
      rw [insS_pos]
      refine ih (b + 1) _ (by omega) (fun o h => ?_)
      rcases List.mem_cons.1 ((insS_perm _ out).mem_iff.1 h) with rfl | h
      · exact hC
      · exact ho o h
    · rw [if_neg hc]
      exact Ev.ifn hc (ih (b + 1) out (by omega) ho)
theorem implL_ev {m : Nat} {L F : List Nat} (hlen : L.length ≤ 17592186044416) (hM : Mat m L) (hp : L.Pairwise (· < ·)) (hFl : F = flN m L) (hF10 : F.length ≤ 10) : ∀ (d b : Nat) (out : List (List Int)), b + d ≤ 2048 → Ev (fun k => impl_AllCuts.l k (m : Int) (ints L) (ints F) d (b : Int) out) (out ++ cutsN L F d b) := by
  intro d
  induction d with
  | zero => intro b out _; rw [show cutsN L F 0 b = [] from rfl, List.append_nil]; exact Ev.now _
  | succ d ih =>
    intro b out hb
    have hmat := mat_matB hM hp
    have hC := cutAt_len (b := b) (i := 0) hF10
    have e : ((b : Int) + 1) = ((b + 1 : Nat) : Int) := by omega
    have hsub := cutAt_sub b F 0
    have hfl : ∀ y ∈ cutAt b 0 F, y ∈ flN m L := fun y hy => by rw [← hFl]; exact hsub.subset hy
    have hc0 := implC_eq (b := b) (by omega) F 0
    have hc0' : impl_AllCuts.c (b : Int) 0 (ints F) = ints (cutAt b 0 F) := hc0
    have hmod : modB (m : Int) (ints L) (ints (cutAt b 0 F)) = cutN L F (cutAt b 0 F) := by
      unfold modB
      have h1 : (ints (cutAt b 0 F)).all (fun y => (flB (m : Int) (ints L)).contains y) = true := List.all_eq_true.2 fun y hy => by
        obtain ⟨x, hx, rfl⟩ := List.mem_map.1 hy
        rw [flB_nat hmat]; exact ints_mem.2 (hfl x hx)
      have h2 : famB (m : Int) (ints (cutAt b 0 F)) = true := famB_of hM.size (fun y hy => flN_lt (hfl y hy)) (List.Pairwise.sublist hsub (by rw [hFl]; exact flN_pair m L))
      rw [h1, hmat, h2, Bool.true_and, Bool.true_and, Bool.true_and]
      unfold cutB
      rw [show (ints L).map Int.toNat = L from toNat_map L, Int.toNat_natCast, show (ints (cutAt b 0 F)).map Int.toNat = cutAt b 0 F from toNat_map _, hFl]
    show Ev (fun k => (impl_IsModularCut.f k (m : Int) (ints L) (impl_AllCuts.c (b : Int) 0 (ints F))).bind fun t => if t = true then impl_AllCuts.l k (m : Int) (ints L) (ints F) d ((b : Int) + 1) (out ++ [impl_AllCuts.c (b : Int) 0 (ints F)]) else impl_AllCuts.l k (m : Int) (ints L) (ints F) d ((b : Int) + 1) out) _
    rw [hc0', e, cutsN_succ]
    refine Ev.bind (implMod_ev (m : Int) (ints L) (ints (cutAt b 0 F)) (by rw [ints_len]; exact hlen) (by omega)) ?_
    rw [hmod]
    by_cases hc : cutN L F (cutAt b 0 F) = true
    · rw [if_pos hc, ← List.append_assoc]
      exact Ev.ifp hc (ih (b + 1) _ (by omega))
    · rw [if_neg hc, List.nil_append]
      exact Ev.ifn hc (ih (b + 1) _ (by omega))
def acB (n : Int) (l : List Int) : List (List Int) := if matB n l = true then (if 10 < (flN n.toNat (l.map Int.toNat)).length then [] else sortS (cutsN (l.map Int.toNat) (flN n.toNat (l.map Int.toNat)) (2 ^ (flN n.toNat (l.map Int.toNat)).length) 0)) else []
theorem cutsN_mem {L F : List Nat} {d b : Nat} {c : List Int} (h : c ∈ cutsN L F d b) : ∃ x, c = ints (cutAt x 0 F) := by
  unfold cutsN at h
  obtain ⟨y, hy, rfl⟩ := List.mem_map.1 h
  obtain ⟨hy, _⟩ := List.mem_filter.1 hy
  obtain ⟨x, _, rfl⟩ := List.mem_map.1 hy
  exact ⟨x, rfl⟩
theorem pow10 {n : Nat} (h : n ≤ 10) : 2 ^ n ≤ 1024 := Nat.le_trans (Nat.pow_le_pow_right (by decide) h) (by decide)
theorem acB_small (n : Int) (l : List Int) : (acB n l).length ≤ 1024 ∧ ∀ c ∈ acB n l, c.length ≤ 10 := by
  unfold acB
  by_cases h : matB n l = true
  rotate_left
  · rw [if_neg h]; exact ⟨Nat.zero_le _, fun c hc => by cases hc⟩
  rw [if_pos h]
  by_cases h10 : 10 < (flN n.toNat (l.map Int.toNat)).length
  · rw [if_pos h10]; exact ⟨Nat.zero_le _, fun c hc => by cases hc⟩
  rw [if_neg h10]
  have hperm : ∀ K : List (List Int), (sortS K).Perm K := fun K => List.mergeSort_perm _ _
  refine ⟨?_, fun c hc => ?_⟩
  · rw [(hperm _).length_eq]
    unfold cutsN
    rw [List.length_map]
    refine Nat.le_trans (List.length_filter_le _ _) ?_
    rw [List.length_map, List.length_range']
    exact pow10 (by omega)
  · obtain ⟨x, rfl⟩ := cutsN_mem ((hperm _).mem_iff.1 hc)
    exact cutAt_len (by omega)
theorem implFlatsF_ev (n : Int) (l : List Int) (hl : l.length ≤ 17592186044416) : Ev (fun k => impl_Flats.f k n l) (flB n l) := by
  unfold impl_Flats.f
  refine Ev.bind (implMat_ev n l hl) ?_
  by_cases h : matB n l = true
  · obtain ⟨m, L, rfl, rfl, hM, hp⟩ := matB_mat h
    rw [flB_nat h]
    exact Ev.ifp h (Ev.bind (implFlats_ev hM.size L (by rw [ints_len] at hl; exact hl) hM.lt) (Ev.now _))
  · unfold flB
    rw [if_neg h]
    exact Ev.ifn h (Ev.now _)
theorem cutAt_zero : ∀ (F : List Nat) (i : Nat), cutAt 0 i F = [] := by
  intro F
  induction F with
  | nil => intro i; rfl
  | cons x F ih => intro i; simp only [cutAt, Nat.zero_testBit]; exact ih _
theorem implAll_ev (n : Int) (l : List Int) (hl : l.length ≤ 17592186044416) : Ev (fun k => impl_AllCuts.f k n l) (acB n l) := by
  unfold impl_AllCuts.f acB
  refine Ev.bind (implFlatsF_ev n l hl) (Ev.bind (implMat_ev n l hl) ?_)
  by_cases h : matB n l = true
  rotate_left
  · rw [if_neg h]; exact Ev.ifn h (Ev.now _)
  obtain ⟨m, L, rfl, rfl, hM, hp⟩ := matB_mat h
  rw [if_pos h, flB_nat h, ints_len, Int.toNat_natCast, show (ints L).map Int.toNat = L from toNat_map L]
  refine Ev.ifp h ?_
  by_cases h10 : 10 < (flN m L).length
  · rw [if_pos h10]; exact Ev.ifp (by omega) (Ev.now _)
  rw [if_neg h10]
  have hpw := pow10 (n := (flN m L).length) (by omega)
  refine Ev.ifn (by omega) (Ev.bind (implL_ev (by rw [ints_len] at hl; exact hl) hM hp rfl (by omega) (2 ^ (flN m L).length) 0 [] (by omega)) ?_)
  rw [List.nil_append]
  refine Ev.ifn (fun hnil => ?_) (Ev.now _)
  obtain ⟨d, hd⟩ : ∃ d, 2 ^ (flN m L).length = d + 1 := ⟨2 ^ (flN m L).length - 1, by have := Nat.two_pow_pos (flN m L).length; omega⟩
  rw [hd, cutsN_succ, cutAt_zero, if_pos (show cutN L (flN m L) [] = true from rfl)] at hnil
  simp at hnil
theorem specAll_ev (n : Int) (l : List Int) (hl : l.length ≤ 17592186044416) : Ev (fun k => spec_AllCuts.f k n l) (acB n l) := by
  unfold spec_AllCuts.f acB
  refine Ev.bind (specFlats_ev n l hl) (Ev.bind (specMat_ev n l hl) ?_)
  by_cases h : matB n l = true
  rotate_left
  · rw [if_neg h]; exact Ev.ifn h (Ev.now _)
  obtain ⟨m, L, rfl, rfl, hM, hp⟩ := matB_mat h
  rw [if_pos h, flB_nat h, ints_len, Int.toNat_natCast, show (ints L).map Int.toNat = L from toNat_map L]
  refine Ev.ifp h ?_
  by_cases h10 : 10 < (flN m L).length
  · rw [if_pos h10]; exact Ev.ifp (by omega) (Ev.now _)
  rw [if_neg h10, ← insAll_sortS]
  have hpw := pow10 (n := (flN m L).length) (by omega)
  have h256 := pow_le_256 hM.size
  exact Ev.ifn (by omega) (specL_ev (m : Int) (by rw [ints_len] at hl; exact hl) hM.lt (fun x hx => by have := flN_lt hx; omega) (by omega) (2 ^ (flN m L).length) 0 [] (by omega) (fun o ho => by cases ho))
end Go.Proofs.Ytbdloopelidneaa.Q
namespace Go.Proofs.Ytbdloopelidneaa.Pure
open Go Go.RowKit Go.Proofs.Ytbdloopelidneaa.A Go.Proofs.YtbdloopelidneaaW.PrintWords Go.Proofs.YtbdloopelidneaaW.PrintLast Go.Proofs.YtbdloopelidneaaW.PrintMore Go.Proofs.Ytbdloopelidneaa.Z Go.Proofs.Ytbdloopelidneaa.Q
set_option linter.unusedVariables false
set_option linter.unusedSimpArgs false
def marksL : Int → List (List Int) → List (List Int)
  | _, [] => []
  | a, x :: xs => marks a x.length :: marksL (a + (x.length : Int)) xs
def totL : List (List Int) → Int
  | [] => 0
  | x :: xs => (x.length : Int) + totL xs
theorem marksL_len : ∀ (ls : List (List Int)) (a : Int), (marksL a ls).length = ls.length := by
  intro ls
  induction ls with
  | nil => intro a; rfl
  | cons x xs ih => intro a; simp only [marksL, List.length_cons, ih]
theorem totL_le : ∀ ls : List (List Int), (∀ c ∈ ls, c.length ≤ 10) → 0 ≤ totL ls ∧ totL ls ≤ 10 * (ls.length : Int) := by
  intro ls
  induction ls with
  | nil => intro _; simp [totL]
  | cons x xs ih =>
    intro h
    have h1 := ih (fun c hc => h c (List.mem_cons_of_mem _ hc))
    have h2 := h x (by simp)
    simp only [totL, List.length_cons]
    omega
theorem rdL_get (xs : List (List Int)) (i : Nat) (h : i < xs.length) : rd_L1 xs (i : Int) = xs[i] := by
  unfold rd_L1
  rw [Int.toNat_natCast, List.getD_eq_getElem?_getD, List.getElem?_eq_getElem h]; rfl
theorem markSS_ev : ∀ (ls : List (List Int)) (a : Int), 0 ≤ a → a + 10 * (ls.length : Int) ≤ 1000000000000000 → (∀ c ∈ ls, c.length ≤ 10) → Ev (fun k => laws_markIntSS.l k ls a) (a + totL ls, marksL a ls) := by
  intro ls
  induction ls with
  | nil => intro a _ _ _; simp only [laws_markIntSS.l, totL, marksL, Int.add_zero]; exact Ev.now _
  | cons x xs ih =>
    intro a h0 h1 h
    have hx := h x (by simp)
    simp only [List.length_cons] at h1
    simp only [laws_markIntSS.l, totL, marksL]
    refine Ev.bind (mark_ev x a h0 (by omega) (by omega)) (Ev.bind (ih (a + (x.length : Int)) (by omega) (by omega) (fun c hc => h c (List.mem_cons_of_mem _ hc))) ?_)
    rw [Int.add_assoc]
    exact Ev.now _
theorem heldSS_ev (ls : List (List Int)) (h : ∀ c ∈ ls, c.length ≤ 10) (hl : ls.length ≤ 1024) : Ev (fun k => laws_heldIntSS.f k (marksL 1 ls) 1) (1 + totL ls) := by
  have key : ∀ (xs : List (List Int)) (pre : List (List Int)) (a : Int), (∀ c ∈ xs, c.length ≤ 10) → pre.length + xs.length ≤ 1024 → 0 ≤ a → a + 10 * (xs.length : Int) ≤ 1000000000000000 → Ev (fun k => laws_heldIntSS.l0 k (pre ++ marksL a xs) a (pre.length : Int)) (a + totL xs) := by
    intro xs
    induction xs with
    | nil =>
      intro pre a _ _ _ _
      apply Ev.step
      · intro k
        simp only [laws_heldIntSS.l0]
        rw [if_neg (by simp [marksL])]
      · simp only [totL, Int.add_zero]; exact Ev.now _
    | cons x xs ih =>
      intro pre a hx hp h0 h1
      have hx1 := hx x (by simp)
      simp only [List.length_cons] at hp h1
      apply Ev.step
      · intro k
        simp only [laws_heldIntSS.l0]
        rw [if_pos (by rw [List.length_append, marksL_len, List.length_cons]; omega), if_pos (by omega), rdL_get _ _ (by rw [List.length_append, marksL_len, List.length_cons]; omega)]
      · rw [show (pre ++ marksL a (x :: xs))[pre.length]'(by rw [List.length_append, marksL_len, List.length_cons]; omega) = marks a x.length by simp [marksL]]
        refine Ev.bind (held_ev x.length a h0 (by omega) (by omega)) (Ev.ifn (by omega) ?_)
        have h2 := ih (pre ++ [marks a x.length]) (a + (x.length : Int)) (fun c hc => hx c (List.mem_cons_of_mem _ hc)) (by rw [List.length_append, List.length_singleton]; omega) (by omega) (by omega)
        rw [List.append_assoc, List.length_append, List.length_singleton, List.singleton_append] at h2
        rw [wrap64_of (by omega) (by omega)]
        simp only [marksL, totL]
        rw [← Int.add_assoc]
        exact h2
  have h2 := key ls [] 1 h (by simpa using hl) (by omega) (by omega)
  exact h2
theorem eqSS_self (ls : List (List Int)) (h : ∀ c ∈ ls, c.length ≤ 10) (hl : ls.length ≤ 1024) : Ev (fun k => laws_eqIntSS.f k ls ls) true := by
  unfold laws_eqIntSS.f
  refine Ev.ifp rfl ?_
  exact down (P := fun i => Ev (fun k => laws_eqIntSS.l0 k ls ls (i : Int)) true) ls.length
    (by
      apply Ev.step
      · intro k
        simp only [laws_eqIntSS.l0]
        rw [if_neg (by omega)]
      · exact Ev.now _)
    (by
      intro i hi ih
      apply Ev.step
      · intro k
        simp only [laws_eqIntSS.l0]
        rw [if_pos (by omega), if_pos (by omega), if_pos (by omega), rdL_get ls i hi, wrap64_of (by omega) (by omega)]
      · have := h ls[i] (List.getElem_mem hi)
        exact Ev.bind (eqInt_self _ (by omega)) (Ev.ifp rfl ih))
theorem markIntSS_ev (ls : List (List Int)) (h : ∀ c ∈ ls, c.length ≤ 10) (hl : ls.length ≤ 1024) : Ev (fun k => laws_markIntSS.f k ls 1) (1 + totL ls, marksL 1 ls) := by
  unfold laws_markIntSS.f
  exact Ev.ifp (by omega) (markSS_ev ls 1 (by omega) (by omega) h)
theorem FnExactAllCuts : laws_FnExactAllCuts.Pure := by
  intro n l hn hm hw
  unfold laws_FnExactAllCuts.f
  refine Ev.rounds ?_
  refine Ev.cbind (szMat_eq n l 1048576 (by omega) (by omega) hm) ?_
  by_cases h1 : (l.length : Int) > 1048576
  · rw [if_pos h1]
    exact Ev.ifp (by decide) (Ev.now _)
  rw [if_neg h1]
  refine Ev.ifn (by omega) ?_
  have hl : l.length ≤ 17592186044416 := by omega
  obtain ⟨hs1, hs2⟩ := acB_small n l
  have ht := totL_le _ hs2
  refine Ev.bind (toMat_ev n l hl) (Ev.bind (specAll_ev n l hl) (Ev.bind (toMat_ev n l hl) (Ev.bind (implAll_ev n l hl) (Ev.bind (eqSS_self _ hs2 hs1) (Ev.ifp rfl (Ev.bind (toMat_ev n l hl) (Ev.bind (eqMat_ev n l hl) (Ev.ifp rfl (Ev.bind (markMat_ev n l hl) (Ev.ifn (by simp only []; omega) (Ev.bind (eqSS_self _ hs2 hs1) ?_)))))))))))
  apply Ev.step
  · intro k
    rw [laws_FnExactAllCuts.j0]
  refine Ev.ifn (by simp) (Ev.bind (markIntSS_ev _ hs2 hs1) (Ev.bind (heldSS_ev _ hs2 hs1) (Ev.ifn (by omega) (Ev.ifp rfl (Ev.bind (toMat_ev n l hl) (Ev.bind (implAll_ev n l hl) (Ev.bind (eqSS_self _ hs2 hs1) (Ev.ifp rfl (Ev.bind (heldSS_ev _ hs2 hs1) ?_)))))))))
  exact Ev.ifn (by omega) (Ev.ifp rfl (Ev.now _))
end Go.Proofs.Ytbdloopelidneaa.Pure
