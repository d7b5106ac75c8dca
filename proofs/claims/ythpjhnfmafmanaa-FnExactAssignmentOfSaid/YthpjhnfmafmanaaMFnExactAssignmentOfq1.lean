/- The pure side of the law FnExactAssignmentOf: what the Lean functions of the print compute, and that the law holds of them. Conditions: those in each lemma. -/
import Derived.Test.YthpjhnfmafmanaaMFnExactAssignmentOf1
import Derived.Test.YthpjhnfmafmanaaMFnExactAssignmentOf2
import Derived.Test.YthpjhnfmafmanaaMFnExactAssignmentOfq0
namespace Go.Proofs.Ythpjhnfmafmanaa.Q
open Go Go.RowKit Go.Proofs.Ythpjhnfmafmanaa.A Go.Proofs.YthpjhnfmafmanaaW.PrintWords Go.Proofs.YthpjhnfmafmanaaW.PrintLast Go.Proofs.YthpjhnfmafmanaaW.PrintMore Go.Proofs.Ythpjhnfmafmanaa.Z
set_option linter.unusedVariables false
set_option linter.unusedSimpArgs false

theorem toInt_l0 (l : List Int) (hl : l.length ≤ 17592186044416) : ∀ (rest pre : List Int), l = pre ++ rest → Ev (fun k => laws_toIntS.l0 k l (pre ++ List.replicate rest.length 0) (pre.length : Int)) l := by
  intro rest
  induction rest with
  | nil =>
    intro pre h
    apply Ev.step
    · intro k
      simp only [laws_toIntS.l0]
      rw [if_neg (by rw [h]; simp)]
    · subst h; simpa using Ev.now _
  | cons x rest ih =>
    intro pre h
    have hlen : (pre.length : Int) < (l.length : Int) := by rw [h]; simp; omega
    apply Ev.step
    · intro k
      simp only [laws_toIntS.l0]
      rw [if_pos hlen, if_pos (by omega), if_pos (by simp; omega)]
    · have := ih (pre ++ [x]) (by rw [h]; simp)
      have e : wrap64 ((pre.length : Int) + 1) = ((pre ++ [x]).length : Int) := by
        rw [wrap64_of (by omega) (by omega)]; simp
      rw [e]
      have e2 : (pre ++ List.replicate (x :: rest).length 0).set (pre.length : Int).toNat (rd l (pre.length : Int)) = (pre ++ [x]) ++ List.replicate rest.length 0 := by
        have : rd l (pre.length : Int) = x := by rw [h]; exact rd_mid _ _ _
        rw [this]
        simp [List.replicate_succ]
      rw [e2]
      exact this
theorem toInt_ev (l : List Int) (hl : l.length ≤ 17592186044416) : Ev (fun k => laws_toIntS.f k l) l := by
  unfold laws_toIntS.f
  refine Ev.ifp (by omega) (Ev.ifp (by simp; omega) ?_)
  simpa using toInt_l0 l hl l [] rfl
theorem eqInt_l0 (l : List Int) (hl : l.length ≤ 17592186044416) (l' : List Int) (hll : l'.length = l.length) : ∀ (rest rest' pre : List Int), l = pre ++ rest → l' = pre ++ rest' → Ev (fun k => laws_eqIntS.l0 k l l' (pre.length : Int)) (decide (l = l')) := by
  intro rest
  induction rest with
  | nil =>
    intro rest' pre h h'
    have : rest' = [] := by
      apply List.eq_nil_of_length_eq_zero
      have h1 := congrArg List.length h
      have h2 := congrArg List.length h'
      rw [List.length_append] at h1 h2
      simp only [List.length_nil] at h1
      omega
    subst this
    apply Ev.step
    · intro k
      simp only [laws_eqIntS.l0]
      rw [if_neg (by rw [h]; simp)]
    · have : l = l' := by rw [h, h']
      simpa [this] using Ev.now _
  | cons x rest ih =>
    intro rest' pre h h'
    have hlen : (pre.length : Int) < (l.length : Int) := by rw [h]; simp; omega
    cases rest' with
    | nil => exact absurd hll (by rw [h, h']; simp)
    | cons y rest' =>
    have e1 : rd l (pre.length : Int) = x := by rw [h]; exact rd_mid _ _ _
    have e2 : rd l' (pre.length : Int) = y := by rw [h']; exact rd_mid _ _ _
    by_cases hxy : x = y
    · subst hxy
      apply Ev.step
      · intro k
        simp only [laws_eqIntS.l0]
        rw [if_pos hlen, if_pos (by omega), if_pos (by omega), if_pos (by rw [e1, e2])]
      · have := ih rest' (pre ++ [x]) (by rw [h]; simp) (by rw [h']; simp)
        have e : wrap64 ((pre.length : Int) + 1) = ((pre ++ [x]).length : Int) := by
          rw [wrap64_of (by omega) (by omega)]; simp
        rw [e]
        exact this
    · apply Ev.step
      · intro k
        simp only [laws_eqIntS.l0]
        rw [if_pos hlen, if_pos (by omega), if_pos (by omega), if_neg (by rw [e1, e2]; exact hxy)]
      · have : l ≠ l' := by rw [h, h']; simp [hxy]
        simpa [this] using Ev.now _
theorem eqInt_ev (l l' : List Int) (hl : l.length ≤ 17592186044416) : Ev (fun k => laws_eqIntS.f k l l') (decide (l = l')) := by
  unfold laws_eqIntS.f
  by_cases h : (l.length : Int) = (l'.length : Int)
  · refine Ev.ifp h ?_
    exact eqInt_l0 l hl l' (by omega) l l' [] rfl rfl
  · refine Ev.ifn h ?_
    have : l ≠ l' := by rintro rfl; exact h rfl
    simpa [this] using Ev.now _
theorem eqInt_self (l : List Int) (hl : l.length ≤ 17592186044416) : Ev (fun k => laws_eqIntS.f k l l) true := by simpa using eqInt_ev l l hl

end Go.Proofs.Ythpjhnfmafmanaa.Q

namespace Go.Proofs.Ythpjhnfmafmanaa.Q
open Go Go.RowKit Go.Proofs.Ythpjhnfmafmanaa.A Go.Proofs.YthpjhnfmafmanaaW.PrintWords Go.Proofs.YthpjhnfmafmanaaW.PrintLast Go.Proofs.YthpjhnfmafmanaaW.PrintMore Go.Proofs.Ythpjhnfmafmanaa.Z
set_option linter.unusedVariables false
set_option linter.unusedSimpArgs false

/-- n numbers that go up by one from a. -/
def marks (a : Int) (n : Nat) : List Int := (List.range n).map (fun i : Nat => a + (i : Int))
theorem marks_len (a : Int) (n : Nat) : (marks a n).length = n := by simp [marks]
theorem marks_succ (a : Int) (n : Nat) : marks a (n + 1) = marks a n ++ [a + (n : Int)] := by simp [marks, List.range_succ]
theorem marks_get (a : Int) (n i : Nat) (h : i < n) : rd (marks a n) (i : Int) = a + (i : Int) := by
  rw [rd_getElem _ i (by rw [marks_len]; exact h)]
  simp [marks]
theorem mark_ev (l : List Int) (a : Int) (h0 : 0 ≤ a) (h1 : a ≤ 1000000000000000) (hl : l.length ≤ 17592186044416) : Ev (fun k => laws_markIntS.f k l a) (a + (l.length : Int), marks a l.length) := by
  have h := down (P := fun i => Ev (fun k => laws_markIntS.l0 k (marks a i ++ l.drop i) (a + (i : Int)) (i : Int)) (a + (l.length : Int), marks a l.length)) l.length
    (by
      apply Ev.step
      · intro k
        simp only [laws_markIntS.l0]
        rw [if_neg (by rw [List.length_append, marks_len, List.length_drop]; omega)]
      · rw [drop_end, List.append_nil]
        exact Ev.now _)
    (by
      intro i hi ih
      apply Ev.step
      · intro k
        simp only [laws_markIntS.l0]
        rw [if_pos (by rw [List.length_append, marks_len, List.length_drop]; omega), if_pos (by omega), w_succ hi hl, wrap64_of (by omega) (by omega)]
      · have e : (marks a i ++ l.drop i).set (i : Int).toNat (a + (i : Int)) = marks a (i + 1) ++ l.drop (i + 1) := by
          rw [drop_cons l i hi, marks_succ, Int.toNat_natCast, List.set_append_right _ _ (by rw [marks_len]; omega), marks_len, Nat.sub_self, List.set_cons_zero, List.append_assoc]
          rfl
        rw [e, show a + (i : Int) + 1 = a + ((i + 1 : Nat) : Int) from by omega]
        exact ih)
  have e : marks a 0 ++ l.drop 0 = l := by simp [marks]
  rw [e, show a + ((0 : Nat) : Int) = a from by omega] at h
  exact h
theorem held_ev (n : Nat) (a : Int) (h0 : 0 ≤ a) (h1 : a ≤ 1000000000000000) (hl : n ≤ 17592186044416) : Ev (fun k => laws_heldIntS.f k (marks a n) a) (a + (n : Int)) := by
  have h := down (P := fun i => Ev (fun k => laws_heldIntS.l0 k (marks a n) (a + (i : Int)) (i : Int)) (a + (n : Int))) n
    (by
      apply Ev.step
      · intro k
        simp only [laws_heldIntS.l0]
        rw [if_neg (by rw [marks_len]; omega)]
      · exact Ev.now _)
    (by
      intro i hi ih
      apply Ev.step
      · intro k
        simp only [laws_heldIntS.l0]
        rw [if_pos (by rw [marks_len]; omega), if_pos (by omega), if_pos (marks_get a n i hi), w_succ hi hl, wrap64_of (by omega) (by omega)]
      · rw [show a + (i : Int) + 1 = a + ((i + 1 : Nat) : Int) from by omega]
        exact ih)
  rw [show a + ((0 : Nat) : Int) = a from by omega] at h
  exact h

end Go.Proofs.Ythpjhnfmafmanaa.Q

namespace Go.Proofs.Ythpjhnfmafmanaa.Q
open Go Go.RowKit Go.Proofs.Ythpjhnfmafmanaa.A Go.Proofs.YthpjhnfmafmanaaW.PrintWords Go.Proofs.YthpjhnfmafmanaaW.PrintLast Go.Proofs.YthpjhnfmafmanaaW.PrintMore Go.Proofs.Ythpjhnfmafmanaa.Z
set_option linter.unusedVariables false
set_option linter.unusedSimpArgs false

theorem l1In_eq (a b c : Int) : spec_l1In.f a b c = some (decide (b ≤ a) && decide (a ≤ c)) := by
  unfold spec_l1In.f
  by_cases h : a ≥ b
  · rw [if_pos h]; simp [h]
  · rw [if_neg h]; simp only [ge_iff_le] at h; simp [h]
theorem isSize_eq (a : Int) : impl_isSize.f a = some (decide (0 ≤ a) && decide (a ≤ 8)) := by
  unfold impl_isSize.f
  by_cases h : a ≥ 0
  · rw [if_pos h]; simp [h]
  · rw [if_neg h]; simp only [ge_iff_le] at h; simp [h]
theorem specIsSet_eq (n s : Int) : spec_IsSet.f n s = some (isSetB n s) := by
  unfold spec_IsSet.f
  rw [l1In_eq, Option.bind_some]
  unfold isSetB
  by_cases h : (decide (0 ≤ n) && decide (n ≤ 8)) = true
  · rw [if_pos h, if_pos (u64_nonneg _), l1In_eq, Option.bind_some, h, Bool.true_and]
    simp only [Bool.and_eq_true, decide_eq_true_eq] at h
    obtain ⟨m, rfl⟩ := Int.eq_ofNat_of_zero_le h.1
    have h8 : m ≤ 8 := by omega
    rw [u64_of (by omega) (by omega), shl_one (by omega)]
    have hp := pow_le_256 h8
    rw [Int.toNat_natCast]
    have e : (2 : Int) ^ m = ((2 ^ m : Nat) : Int) := by simp
    rw [e]
    generalize 2 ^ m = q at hp
    rw [wrap64_of (by omega) (by omega)]
    congr 2
    rw [Bool.eq_iff_iff]
    simp only [decide_eq_true_eq]
    omega
  · rw [if_neg h, Bool.eq_false_iff.2 h, Bool.false_and]
theorem implIsSet_eq (n s : Int) : impl_IsSet.f n s = some (isSetB n s) := by
  unfold impl_IsSet.f
  rw [isSize_eq, Option.bind_some]
  unfold isSetB
  by_cases h : (decide (0 ≤ n) && decide (n ≤ 8)) = true
  · rw [if_pos h, h, Bool.true_and]
    simp only [Bool.and_eq_true, decide_eq_true_eq] at h
    by_cases hs : s ≥ 0
    · rw [if_pos hs, if_pos h.1]
      obtain ⟨m, rfl⟩ := Int.eq_ofNat_of_zero_le h.1
      rw [shl_one (by omega), Int.toNat_natCast]
      have e : ((2 ^ m : Nat) : Int) = 2 ^ m := by simp
      rw [e]
      have : decide (0 ≤ s) = true := by simpa using hs
      rw [this, Bool.true_and]
    · rw [if_neg hs]
      have : decide (0 ≤ s) = false := by simpa using hs
      rw [this, Bool.false_and]
  · rw [if_neg h, Bool.eq_false_iff.2 h, Bool.false_and]
theorem isSet8 (s : Int) : isSetB 8 s = isAnyB s := by
  unfold isSetB isAnyB
  rw [Bool.eq_iff_iff]
  simp
theorem isAny_eq (s : Int) : impl_isAny.f s = some (isAnyB s) := by
  unfold impl_isAny.f isAnyB
  by_cases h : s ≥ 0
  · rw [if_pos h]; simp [h]
  · rw [if_neg h]; simp only [ge_iff_le] at h; simp [h]
theorem isAnyB_lt {s : Int} (h : isAnyB s = true) : ∃ t : Nat, s = t ∧ t < 256 := by
  simp only [isAnyB, Bool.and_eq_true, decide_eq_true_eq] at h
  obtain ⟨t, rfl⟩ := Int.eq_ofNat_of_zero_le h.1
  exact ⟨t, rfl, by omega⟩
theorem implHas_eq (s e : Int) : impl_HasElement.f s e = some (hasB s e) := by
  unfold impl_HasElement.f hasB
  rw [isAny_eq, Option.bind_some]
  by_cases h : isAnyB s = true
  · rw [if_pos h, h, Bool.true_and]
    obtain ⟨t, rfl, ht⟩ := isAnyB_lt h
    by_cases h0 : e ≥ 0
    · rw [if_pos h0]
      obtain ⟨m, rfl⟩ := Int.eq_ofNat_of_zero_le h0
      by_cases h8 : (m : Int) < 8
      · rw [if_pos h8, if_pos h0, bit_nat (lt256_63 ht)]
        simp [h8]
      · rw [if_neg h8]; simp [h8]
    · rw [if_neg h0]; simp only [ge_iff_le] at h0; simp [h0]
  · rw [if_neg h, Bool.eq_false_iff.2 h]; simp
theorem l2Has_eq {s e : Nat} (hs : s < 2 ^ 63) (he : e < 2 ^ 63) : spec_l2Has.f (s : Int) (e : Int) = some (s.testBit e) := by
  unfold spec_l2Has.f
  rw [if_pos (u64_nonneg _), u64_of (by omega) (by omega), bit_nat hs]
theorem specHas_eq (s e : Int) : spec_HasElement.f s e = some (hasB s e) := by
  unfold spec_HasElement.f hasB
  rw [specIsSet_eq, Option.bind_some, isSet8]
  by_cases h : isAnyB s = true
  · rw [if_pos h, h, Bool.true_and, l1In_eq, Option.bind_some]
    obtain ⟨t, rfl, ht⟩ := isAnyB_lt h
    by_cases h0 : (decide (0 ≤ e) && decide (e ≤ 7)) = true
    · rw [if_pos h0]
      simp only [Bool.and_eq_true, decide_eq_true_eq] at h0
      obtain ⟨m, rfl⟩ := Int.eq_ofNat_of_zero_le h0.1
      rw [l2Has_eq (lt256_63 ht) (by omega), Option.bind_some]
      have : decide ((m : Int) < 8) = true := by simp; omega
      simp [this]
    · rw [if_neg h0]
      have : (decide (0 ≤ e) && decide (e < 8)) = false := by
        rw [Bool.eq_false_iff]
        intro hc
        apply h0
        simp only [Bool.and_eq_true, decide_eq_true_eq] at *
        omega
      rw [this, Bool.false_and]
  · rw [if_neg h, Bool.eq_false_iff.2 h]; simp

end Go.Proofs.Ythpjhnfmafmanaa.Q

namespace Go.Proofs.Ythpjhnfmafmanaa.Q
open Go Go.RowKit Go.Proofs.Ythpjhnfmafmanaa.A Go.Proofs.YthpjhnfmafmanaaW.PrintWords Go.Proofs.YthpjhnfmafmanaaW.PrintLast Go.Proofs.YthpjhnfmafmanaaW.PrintMore Go.Proofs.Ythpjhnfmafmanaa.Z
set_option linter.unusedVariables false
set_option linter.unusedSimpArgs false

/-- All sets of a list are sets of n elements. -/
def setsB (n : Int) (l : List Int) : Bool := l.all (isSetB n)
def areListsB (n : Int) (l : List Int) : Bool := (decide (0 ≤ n) && decide (n ≤ 8)) && (decide (l.length ≤ 6) && setsB n l)
theorem specSets_ev (n : Int) (l : List Int) (hl : l.length ≤ 17592186044416) : Ev (fun k => spec_l3Sets.f k n l) (setsB n l) := by
  have h := down (P := fun i => Ev (fun k => spec_l3Sets.l0 k n l (i : Int)) (setsB n (l.drop i))) l.length
    (by
      apply Ev.step
      · intro k
        simp only [spec_l3Sets.l0, specIsSet_eq, Option.bind_some]
        rw [if_neg (by omega)]
      · rw [drop_end]; exact Ev.now _)
    (by
      intro i hi ih
      apply Ev.step
      · intro k
        simp only [spec_l3Sets.l0, specIsSet_eq, Option.bind_some]
        rw [if_pos (by omega), if_pos (by omega), rd_getElem l i hi, w_succ hi hl]
      · rw [drop_cons l i hi]
        simp only [setsB, List.all_cons]
        by_cases hx : isSetB n l[i] = true
        · refine Ev.ifp hx ?_
          rw [hx, Bool.true_and]; exact ih
        · refine Ev.ifn hx ?_
          rw [Bool.eq_false_iff.2 hx, Bool.false_and]; exact Ev.now _)
  exact h
theorem specAreLists_ev (n : Int) (l : List Int) (hl : l.length ≤ 17592186044416) : Ev (fun k => spec_AreLists.f k n l) (areListsB n l) := by
  unfold spec_AreLists.f areListsB
  refine Ev.cbind (l1In_eq _ _ _) ?_
  by_cases h : (decide (0 ≤ n) && decide (n ≤ 8)) = true
  · refine Ev.ifp h ?_
    rw [h, Bool.true_and]
    by_cases h6 : (l.length : Int) ≤ 6
    · refine Ev.ifp h6 ?_
      rw [show decide (l.length ≤ 6) = true from by simp; omega, Bool.true_and]
      exact Ev.bind (specSets_ev n l hl) (Ev.now _)
    · refine Ev.ifn h6 ?_
      rw [show decide (l.length ≤ 6) = false from by simp; omega, Bool.false_and]
      exact Ev.now _
  · refine Ev.ifn h ?_
    rw [Bool.eq_false_iff.2 h, Bool.false_and]
    exact Ev.now _
theorem implSets_ev (n : Int) (l : List Int) (hl : l.length ≤ 17592186044416) : Ev (fun k => impl_areSetsOf.f k n l) (setsB n l && (decide (0 ≤ n) && decide (n ≤ 8))) := by
  have h := down (P := fun i => Ev (fun k => impl_areSetsOf.l0 k n l (l.length : Int) (i : Int)) (setsB n (l.drop i) && (decide (0 ≤ n) && decide (n ≤ 8)))) l.length
    (by
      apply Ev.step
      · intro k
        simp only [impl_areSetsOf.l0, implIsSet_eq, isSize_eq, Option.bind_some]
        rw [if_neg (by omega)]
      · rw [drop_end]; exact Ev.now _)
    (by
      intro i hi ih
      apply Ev.step
      · intro k
        simp only [impl_areSetsOf.l0, implIsSet_eq, isSize_eq, Option.bind_some]
        rw [if_pos (by omega), if_pos (by omega), if_pos (by omega), rd_getElem l i hi, w_succ hi hl]
      · rw [drop_cons l i hi]
        simp only [setsB, List.all_cons]
        by_cases hx : isSetB n l[i] = true
        · refine Ev.ifp hx ?_
          rw [hx, Bool.true_and]; exact ih
        · refine Ev.ifn hx ?_
          rw [Bool.eq_false_iff.2 hx, Bool.false_and, Bool.false_and]; exact Ev.now _)
  exact h
theorem implAreLists_ev (n : Int) (l : List Int) (hl : l.length ≤ 17592186044416) : Ev (fun k => impl_AreLists.f k n l) (areListsB n l) := by
  unfold impl_AreLists.f areListsB
  refine Ev.bind (implSets_ev n l hl) ?_
  by_cases h : (setsB n l && (decide (0 ≤ n) && decide (n ≤ 8))) = true
  · refine Ev.ifp h ?_
    simp only [Bool.and_eq_true] at h
    rw [h.1, show (decide (0 ≤ n) && decide (n ≤ 8)) = true from by simpa using h.2, Bool.true_and, Bool.and_true]
    have : decide ((l.length : Int) ≤ 6) = decide (l.length ≤ 6) := by
      rw [Bool.eq_iff_iff]; simp only [decide_eq_true_eq]; omega
    rw [this]
    exact Ev.now _
  · refine Ev.ifn h ?_
    have : ((decide (0 ≤ n) && decide (n ≤ 8)) && (decide (l.length ≤ 6) && setsB n l)) = false := by
      rw [Bool.eq_false_iff]
      intro hc
      apply h
      simp only [Bool.and_eq_true] at *
      exact ⟨hc.2.2, hc.1⟩
    rw [this]
    exact Ev.now _

end Go.Proofs.Ythpjhnfmafmanaa.Q

namespace Go.Proofs.Ythpjhnfmafmanaa.Q
open Go Go.RowKit Go.Proofs.Ythpjhnfmafmanaa.A Go.Proofs.YthpjhnfmafmanaaW.PrintWords Go.Proofs.YthpjhnfmafmanaaW.PrintLast Go.Proofs.YthpjhnfmafmanaaW.PrintMore Go.Proofs.Ythpjhnfmafmanaa.Z
set_option linter.unusedVariables false
set_option linter.unusedSimpArgs false

/-- The elements of a set, as whole numbers; none where it is no set. -/
def elsB (s : Int) : List Int := ((List.range 8).filter (fun e : Nat => hasB s (e : Int))).map (fun e : Nat => (e : Int))
theorem range'_cons {i n : Nat} (h : i < n) : List.range' i (n - i) = i :: List.range' (i + 1) (n - (i + 1)) := by
  rw [show n - i = (n - (i + 1)) + 1 from by omega, List.range'_succ]
theorem filter_cons_map {s : Int} {i : Nat} (l : List Nat) : ((i :: l).filter (fun e : Nat => hasB s (e : Int))).map (fun e : Nat => (e : Int)) = (if hasB s (i : Int) = true then [(i : Int)] else []) ++ (l.filter (fun e : Nat => hasB s (e : Int))).map (fun e : Nat => (e : Int)) := by
  rw [List.filter_cons]
  by_cases h : hasB s (i : Int) = true
  · rw [if_pos h, if_pos h]; rfl
  · rw [if_neg h, if_neg h]; rfl
theorem implElements_ev (s : Int) : Ev (fun k => impl_ElementsOf.f k s) (elsB s) := by
  have h := down (P := fun i => ∀ acc : List Int, acc.length ≤ i → Ev (fun k => impl_ElementsOf.l0 k s acc (i : Int)) (acc ++ ((List.range' i (8 - i)).filter (fun e : Nat => hasB s (e : Int))).map (fun e : Nat => (e : Int)))) 8
    (by
      intro acc ha
      apply Ev.step
      · intro k
        simp only [impl_ElementsOf.l0, implHas_eq, Option.bind_some]
        rw [if_neg (by omega)]
      · simpa using Ev.now _)
    (by
      intro i hi ih acc ha
      apply Ev.step
      · intro k
        simp only [impl_ElementsOf.l0, implHas_eq, Option.bind_some]
        rw [if_pos (by omega), w_succ hi (by omega)]
      · rw [range'_cons hi, filter_cons_map]
        by_cases hx : hasB s (i : Int) = true
        · refine Ev.ifp hx (Ev.ifp (by omega) ?_)
          rw [if_pos hx, ← List.append_assoc]
          exact ih (acc ++ [(i : Int)]) (by simp; omega)
        · refine Ev.ifn hx ?_
          rw [if_neg hx]
          exact ih acc (by omega))
  have h0 := h [] (Nat.le_refl 0)
  rw [show ((0 : Nat) : Int) = 0 from rfl] at h0
  have e : elsB s = [] ++ ((List.range' 0 (8 - 0)).filter (fun e : Nat => hasB s (e : Int))).map (fun e : Nat => (e : Int)) := by
    unfold elsB
    rw [List.nil_append, List.range_eq_range']
  rw [e]
  unfold impl_ElementsOf.f
  exact h0
theorem elsB_mem {s x : Int} (h : x ∈ elsB s) : ∃ e : Nat, x = e ∧ e < 8 ∧ hasB s (e : Int) = true := by
  simp only [elsB, List.mem_map, List.mem_filter, List.mem_range] at h
  obtain ⟨e, ⟨h1, h2⟩, rfl⟩ := h
  exact ⟨e, rfl, h1, h2⟩
theorem elsB_len (s : Int) : (elsB s).length ≤ 8 := by
  unfold elsB
  rw [List.length_map]
  exact Nat.le_trans (List.length_filter_le _ _) (by simp)
theorem elsB_nat {s : Nat} (h : s < 256) : elsB (s : Int) = (els s).map (fun e : Nat => (e : Int)) := by
  have e : (List.range 8).filter (fun e : Nat => hasB (s : Int) (e : Int)) = (List.range 8).filter (fun e : Nat => s.testBit e) :=
    List.filter_congr (fun e he => by
      rw [List.mem_range] at he
      rw [hasB_nat]
      simp [h, he])
  unfold elsB els
  rw [e]

end Go.Proofs.Ythpjhnfmafmanaa.Q

namespace Go.Proofs.Ythpjhnfmafmanaa.Q
open Go Go.RowKit Go.Proofs.Ythpjhnfmafmanaa.A Go.Proofs.YthpjhnfmafmanaaW.PrintWords Go.Proofs.YthpjhnfmafmanaaW.PrintLast Go.Proofs.YthpjhnfmafmanaaW.PrintMore Go.Proofs.Ythpjhnfmafmanaa.Z
set_option linter.unusedVariables false
set_option linter.unusedSimpArgs false

theorem contains_cons (x : Int) (l : List Int) (a : Int) : (x :: l).contains a = (decide (x = a) || l.contains a) := by
  rw [Bool.eq_iff_iff]
  simp only [List.contains_iff_mem, List.mem_cons, Bool.or_eq_true, decide_eq_true_eq]
  constructor
  · rintro (h | h)
    · exact .inl h.symm
    · exact .inr h
  · rintro (h | h)
    · exact .inl h.symm
    · exact .inr h
theorem specHasSet_ev (l : List Int) (a : Int) (hl : l.length ≤ 17592186044416) : Ev (fun k => spec_HasSet.f k l a) (l.contains a) := by
  have h := down (P := fun i => Ev (fun k => spec_HasSet.l0 k l a (i : Int)) ((l.drop i).contains a)) l.length
    (by
      apply Ev.step
      · intro k
        simp only [spec_HasSet.l0]
        rw [if_neg (by omega)]
      · rw [drop_end]; exact Ev.now _)
    (by
      intro i hi ih
      apply Ev.step
      · intro k
        simp only [spec_HasSet.l0]
        rw [if_pos (by omega), if_pos (by omega), rd_getElem l i hi, w_succ hi hl]
      · rw [drop_cons l i hi, contains_cons]
        by_cases hx : l[i] = a
        · refine Ev.ifp hx ?_
          rw [show decide (l[i] = a) = true from by simpa using hx, Bool.true_or]; exact Ev.now _
        · refine Ev.ifn hx ?_
          rw [show decide (l[i] = a) = false from by simpa using hx, Bool.false_or]; exact ih)
  exact h

end Go.Proofs.Ythpjhnfmafmanaa.Q

namespace Go.Proofs.Ythpjhnfmafmanaa.Q
open Go Go.RowKit Go.Proofs.Ythpjhnfmafmanaa.A Go.Proofs.YthpjhnfmafmanaaW.PrintWords Go.Proofs.YthpjhnfmafmanaaW.PrintLast Go.Proofs.YthpjhnfmafmanaaW.PrintMore Go.Proofs.Ythpjhnfmafmanaa.Z
set_option linter.unusedVariables false
set_option linter.unusedSimpArgs false

theorem index_l0 (l : List Int) (a : Int) (hl : l.length ≤ 17592186044416) : ∃ r : Int, Ev (fun k => slices_Index_int_int.f k l a) r ∧ (decide (r ≥ 0) = l.contains a) := by
  have h := down (P := fun i => ∃ r : Int, Ev (fun k => slices_Index_int_int.l0 k l a (l.length : Int) (i : Int)) r ∧ (decide (r ≥ 0) = (l.drop i).contains a)) l.length
    (by
      refine ⟨-1, ?_, by rw [drop_end]; rfl⟩
      apply Ev.step
      · intro k
        simp only [slices_Index_int_int.l0]
        rw [if_neg (by omega)]
      · exact Ev.now _)
    (by
      intro i hi ih
      rw [drop_cons l i hi, contains_cons]
      by_cases hx : l[i] = a
      · refine ⟨(i : Int), ?_, ?_⟩
        · apply Ev.step
          · intro k
            simp only [slices_Index_int_int.l0]
            rw [if_pos (by omega), if_pos (by omega), if_pos (by omega), rd_getElem l i hi, if_pos hx.symm]
          · exact Ev.now _
        · rw [show decide (l[i] = a) = true from by simpa using hx, Bool.true_or]
          simp
      · obtain ⟨r, hr, hd⟩ := ih
        refine ⟨r, ?_, ?_⟩
        · apply Ev.step
          · intro k
            simp only [slices_Index_int_int.l0]
            rw [if_pos (by omega), if_pos (by omega), if_pos (by omega), rd_getElem l i hi, if_neg (fun hc => hx hc.symm), w_succ hi hl]
          · exact hr
        · rw [show decide (l[i] = a) = false from by simpa using hx, Bool.false_or]; exact hd)
  exact h
theorem contains_ev (l : List Int) (a : Int) (hl : l.length ≤ 17592186044416) : Ev (fun k => slices_Contains_int_int.f k l a) (l.contains a) := by
  obtain ⟨r, hr, hd⟩ := index_l0 l a hl
  unfold slices_Contains_int_int.f
  refine Ev.bind hr ?_
  rw [hd]; exact Ev.now _

end Go.Proofs.Ythpjhnfmafmanaa.Q

namespace Go.Proofs.Ythpjhnfmafmanaa.Q
open Go Go.RowKit Go.Proofs.Ythpjhnfmafmanaa.A Go.Proofs.YthpjhnfmafmanaaW.PrintWords Go.Proofs.YthpjhnfmafmanaaW.PrintLast Go.Proofs.YthpjhnfmafmanaaW.PrintMore Go.Proofs.Ythpjhnfmafmanaa.Z
set_option linter.unusedVariables false
set_option linter.unusedSimpArgs false

/-- May list k stand for the next element? -/
def asgT (sets list : List Int) (used : List Int) (k : Nat) : Bool := !(used.contains (k : Int)) && (rd sets (k : Int)).toNat.testBit (rd list (used.length : Int)).toNat
def asgL (rec : List Int → List Int × Bool) (sets list : List Int) (used : List Int) : List Nat → List Int × Bool
  | [] => ([], false)
  | k :: ks => if asgT sets list used k = true then (if (rec (used ++ [(k : Int)])).2 = true then ((rec (used ++ [(k : Int)])).1, true) else asgL rec sets list used ks) else asgL rec sets list used ks
def asg (sets list : List Int) : Nat → List Int → List Int × Bool
  | 0, used => (used, true)
  | d + 1, used => asgL (asg sets list d) sets list used (List.range sets.length)
theorem asgL_no (rec : List Int → List Int × Bool) (sets list used : List Int) (ks : List Nat) (h : (asgL rec sets list used ks).2 = false) : (asgL rec sets list used ks).1 = [] := by
  induction ks with
  | nil => rfl
  | cons k ks ih =>
    simp only [asgL] at h ⊢
    by_cases h1 : asgT sets list used k = true
    · rw [if_pos h1] at h ⊢
      by_cases h2 : (rec (used ++ [(k : Int)])).2 = true
      · rw [if_pos h2] at h; cases h
      · rw [if_neg h2] at h ⊢; exact ih h
    · rw [if_neg h1] at h ⊢; exact ih h
theorem asg_no (sets list : List Int) (d : Nat) (used : List Int) (h : (asg sets list d used).2 = false) : (asg sets list d used).1 = [] := by
  cases d with
  | zero => cases h
  | succ d => exact asgL_no _ _ _ _ _ h
theorem asgL_len (rec : List Int → List Int × Bool) (sets list used : List Int) (m : Nat) (hr : ∀ k : Nat, (rec (used ++ [(k : Int)])).1.length ≤ m) (ks : List Nat) : (asgL rec sets list used ks).1.length ≤ m := by
  induction ks with
  | nil => simp [asgL]
  | cons k ks ih =>
    simp only [asgL]
    by_cases h1 : asgT sets list used k = true
    · rw [if_pos h1]
      by_cases h2 : (rec (used ++ [(k : Int)])).2 = true
      · rw [if_pos h2]; exact hr k
      · rw [if_neg h2]; exact ih
    · rw [if_neg h1]; exact ih
theorem asg_len (sets list : List Int) (d : Nat) : ∀ used : List Int, (asg sets list d used).1.length ≤ used.length + d := by
  induction d with
  | zero => intro used; simp [asg]
  | succ d ih =>
    intro used
    refine asgL_len _ _ _ _ _ (fun k => ?_) _
    have := ih (used ++ [(k : Int)])
    simp at this
    omega
theorem range_get {sets : List Int} (hm : ∀ x ∈ sets, ∃ t : Nat, x = t ∧ t < 256) {i : Nat} (hi : i < sets.length) : ∃ t : Nat, rd sets (i : Int) = t ∧ t < 256 := by
  rw [rd_getElem sets i hi]
  exact hm _ (List.getElem_mem hi)
theorem el_get {list : List Int} (hm : ∀ x ∈ list, ∃ e : Nat, x = e ∧ e < 8) {i : Nat} (hi : i < list.length) : ∃ e : Nat, rd list (i : Int) = e ∧ e < 8 := by
  rw [rd_getElem list i hi]
  exact hm _ (List.getElem_mem hi)
theorem specAssign_ev (sets list : List Int) (hs : sets.length ≤ 6) (hsm : ∀ x ∈ sets, ∃ t : Nat, x = t ∧ t < 256) (hll : list.length ≤ 8) (hlm : ∀ x ∈ list, ∃ e : Nat, x = e ∧ e < 8) :
    ∀ (d : Nat) (used : List Int), used.length + d = list.length → Ev (fun k => spec_l15Assign.f k sets list used) (asg sets list d used) := by
  intro d
  induction d with
  | zero =>
    intro used hu
    apply Ev.step
    · intro k
      simp only [spec_l15Assign.f]
      rw [if_pos (by omega)]
    · exact Ev.now _
  | succ d ihd =>
    intro used hu
    apply Ev.step
    · intro k
      simp only [spec_l15Assign.f]
      rw [if_neg (by omega)]
    · have h := down (P := fun i => Ev (fun k => spec_l15Assign.l0 k sets list used (i : Int)) (asgL (asg sets list d) sets list used (List.range' i (sets.length - i)))) sets.length
        (by
          apply Ev.step
          · intro k
            simp only [spec_l15Assign.l0]
            rw [if_neg (by omega)]
          · rw [Nat.sub_self]; exact Ev.now _)
        (by
          intro i hi ih
          rw [range'_cons hi]
          obtain ⟨t, ht, ht256⟩ := range_get hsm hi
          obtain ⟨e, he, he8⟩ := el_get hlm (show used.length < list.length by omega)
          have hT : asgT sets list used i = (!(used.contains (i : Int)) && t.testBit e) := by
            unfold asgT; rw [ht, he, Int.toNat_natCast, Int.toNat_natCast]
          have hih : Ev (fun k => spec_l15Assign.l0 k sets list used (wrap64 ((i : Int) + 1))) (asgL (asg sets list d) sets list used (List.range' (i + 1) (sets.length - (i + 1)))) := by
            rw [w_succ hi (by omega)]; exact ih
          apply Ev.step
          · intro k
            simp only [spec_l15Assign.l0]
            rw [if_pos (by omega)]
          · refine Ev.bind (specHasSet_ev used _ (by omega)) ?_
            by_cases hc : used.contains (i : Int) = true
            · refine Ev.ifp hc ?_
              simp only [asgL]
              rw [hT, hc, if_neg (by simp)]
              apply Ev.step
              · intro k
                rw [spec_l15Assign.j1]
              · exact Ev.ifp rfl hih
            · refine Ev.ifn hc (Ev.ifp (by omega) (Ev.ifp (by omega) (Ev.ifp (by omega) ?_)))
              refine Ev.cbind (a := t.testBit e) (by rw [ht, he]; exact l2Has_eq (lt256_63 ht256) (by omega)) ?_
              simp only [asgL]
              rw [hT, Bool.eq_false_iff.2 hc]
              cases hb : t.testBit e with
              | false =>
                rw [if_neg (by simp)]
                apply Ev.step
                · intro k
                  rw [spec_l15Assign.j1]
                · exact Ev.ifp rfl hih
              | true =>
                rw [if_pos (by simp)]
                apply Ev.step
                · intro k
                  rw [spec_l15Assign.j1]
                · refine Ev.ifn (by simp) (Ev.cbind rfl (Ev.ifp (by simp; omega) (Ev.cbind rfl (Ev.ifp (by simp; omega) ?_))))
                  refine Ev.bind (ihd (used ++ [(i : Int)]) (by simp; omega)) ?_
                  by_cases h2 : (asg sets list d (used ++ [(i : Int)])).2 = true
                  · rw [if_pos h2]; exact Ev.ifp h2 (Ev.now _)
                  · rw [if_neg h2]; exact Ev.ifn h2 hih)
      rw [Nat.sub_zero, ← List.range_eq_range'] at h
      exact h
theorem implAssign_ev (sets list : List Int) (hs : sets.length ≤ 6) (hsm : ∀ x ∈ sets, ∃ t : Nat, x = t ∧ t < 256) (hll : list.length ≤ 8) (hlm : ∀ x ∈ list, ∃ e : Nat, x = e ∧ e < 8) :
    ∀ (d : Nat) (used : List Int), used.length + d = list.length → Ev (fun k => impl_assign.f k sets list used) (asg sets list d used) := by
  intro d
  induction d with
  | zero =>
    intro used hu
    apply Ev.step
    · intro k
      simp only [impl_assign.f]
      rw [if_pos (by omega)]
    · exact Ev.now _
  | succ d ihd =>
    intro used hu
    apply Ev.step
    · intro k
      simp only [impl_assign.f]
      rw [if_neg (by omega)]
    · have h := down (P := fun i => Ev (fun k => impl_assign.l0 k sets list used sets (sets.length : Int) (i : Int)) (asgL (asg sets list d) sets list used (List.range' i (sets.length - i)))) sets.length
        (by
          apply Ev.step
          · intro k
            simp only [impl_assign.l0]
            rw [if_neg (by omega)]
          · rw [Nat.sub_self]; exact Ev.now _)
        (by
          intro i hi ih
          rw [range'_cons hi]
          obtain ⟨t, ht, ht256⟩ := range_get hsm hi
          obtain ⟨e, he, he8⟩ := el_get hlm (show used.length < list.length by omega)
          have hT : asgT sets list used i = (!(used.contains (i : Int)) && t.testBit e) := by
            unfold asgT; rw [ht, he, Int.toNat_natCast, Int.toNat_natCast]
          have hih : Ev (fun k => impl_assign.l0 k sets list used sets (sets.length : Int) (wrap64 ((i : Int) + 1))) (asgL (asg sets list d) sets list used (List.range' (i + 1) (sets.length - (i + 1)))) := by
            rw [w_succ hi (by omega)]; exact ih
          apply Ev.step
          · intro k
            simp only [impl_assign.l0]
            rw [if_pos (by omega), if_pos (by omega), if_pos (by omega)]
          · refine Ev.bind (contains_ev used _ (by omega)) ?_
            by_cases hc : used.contains (i : Int) = true
            · refine Ev.ifp hc ?_
              simp only [asgL]
              rw [hT, hc, if_neg (by simp)]
              apply Ev.step
              · intro k
                rw [impl_assign.j1]
              · exact Ev.ifp rfl hih
            · refine Ev.ifn hc (Ev.ifp (by omega) (Ev.ifp (by omega) ?_))
              refine Ev.cbind (a := t.testBit e) (by rw [ht, he, implHas_eq, hasB_nat]; simp [ht256, he8]) ?_
              simp only [asgL]
              rw [hT, Bool.eq_false_iff.2 hc]
              cases hb : t.testBit e with
              | false =>
                rw [if_neg (by simp)]
                apply Ev.step
                · intro k
                  rw [impl_assign.j1]
                · exact Ev.ifp rfl hih
              | true =>
                rw [if_pos (by simp)]
                apply Ev.step
                · intro k
                  rw [impl_assign.j1]
                · refine Ev.ifn (by simp) (Ev.cbind rfl (Ev.ifp (by simp; omega) (Ev.cbind rfl (Ev.ifp (by simp; omega) ?_))))
                  refine Ev.bind (ihd (used ++ [(i : Int)]) (by simp; omega)) ?_
                  by_cases h2 : (asg sets list d (used ++ [(i : Int)])).2 = true
                  · rw [if_pos h2]; exact Ev.ifp h2 (Ev.now _)
                  · rw [if_neg h2]; exact Ev.ifn h2 hih)
      rw [Nat.sub_zero, ← List.range_eq_range'] at h
      exact h
theorem elsB_facts (s : Int) : ∀ x ∈ elsB s, ∃ e : Nat, x = e ∧ e < 8 := fun x hx => by
  obtain ⟨e, h1, h2, _⟩ := elsB_mem hx
  exact ⟨e, h1, h2⟩

end Go.Proofs.Ythpjhnfmafmanaa.Q

namespace Go.Proofs.Ythpjhnfmafmanaa.Q
open Go Go.RowKit Go.Proofs.Ythpjhnfmafmanaa.A Go.Proofs.YthpjhnfmafmanaaW.PrintWords Go.Proofs.YthpjhnfmafmanaaW.PrintLast Go.Proofs.YthpjhnfmafmanaaW.PrintMore Go.Proofs.Ythpjhnfmafmanaa.Z
set_option linter.unusedVariables false
set_option linter.unusedSimpArgs false

theorem specElements_ev (s : Int) : Ev (fun k => spec_ElementsOf.f k s) (elsB s) := by
  have h := down (P := fun i => ∀ acc : List Int, acc.length ≤ i → Ev (fun k => spec_ElementsOf.l0 k s acc (i : Int)) (acc ++ ((List.range' i (8 - i)).filter (fun e : Nat => hasB s (e : Int))).map (fun e : Nat => (e : Int)))) 8
    (by
      intro acc ha
      apply Ev.step
      · intro k
        simp only [spec_ElementsOf.l0, specHas_eq, Option.bind_some]
        rw [if_neg (by omega)]
      · simpa using Ev.now _)
    (by
      intro i hi ih acc ha
      apply Ev.step
      · intro k
        simp only [spec_ElementsOf.l0, specHas_eq, Option.bind_some]
        rw [if_pos (by omega), w_succ hi (by omega)]
      · rw [range'_cons hi, filter_cons_map]
        by_cases hx : hasB s (i : Int) = true
        · refine Ev.ifp hx (Ev.ifp (by omega) ?_)
          rw [if_pos hx, ← List.append_assoc]
          exact ih (acc ++ [(i : Int)]) (by simp; omega)
        · refine Ev.ifn hx ?_
          rw [if_neg hx]
          exact ih acc (by omega))
  have h0 := h [] (Nat.le_refl 0)
  rw [show ((0 : Nat) : Int) = 0 from rfl] at h0
  have e : elsB s = [] ++ ((List.range' 0 (8 - 0)).filter (fun e : Nat => hasB s (e : Int))).map (fun e : Nat => (e : Int)) := by
    unfold elsB
    rw [List.nil_append, List.range_eq_range']
  rw [e]
  unfold spec_ElementsOf.f
  exact h0

end Go.Proofs.Ythpjhnfmafmanaa.Q

namespace Go.Proofs.Ythpjhnfmafmanaa.Q
open Go Go.RowKit Go.Proofs.Ythpjhnfmafmanaa.A Go.Proofs.YthpjhnfmafmanaaW.PrintWords Go.Proofs.YthpjhnfmafmanaaW.PrintLast Go.Proofs.YthpjhnfmafmanaaW.PrintMore Go.Proofs.Ythpjhnfmafmanaa.Z
set_option linter.unusedVariables false
set_option linter.unusedSimpArgs false

def assignB (n : Int) (l : List Int) (s : Int) : List Int × Bool := if areListsB n l = true then (if isSetB n s = true then asg l (elsB s) (elsB s).length [] else ([], false)) else ([], false)
theorem areListsB_facts {n : Int} {l : List Int} (h : areListsB n l = true) : l.length ≤ 6 ∧ ∀ x ∈ l, ∃ t : Nat, x = t ∧ t < 256 := by
  simp only [areListsB, Bool.and_eq_true, decide_eq_true_eq] at h
  refine ⟨h.2.1, fun x hx => ?_⟩
  have := List.all_eq_true.1 h.2.2 x hx
  obtain ⟨_, t, _, rfl, _, _, ht⟩ := isSetB_lt this
  exact ⟨t, rfl, ht⟩
theorem specAssignment_ev (n : Int) (l : List Int) (s : Int) (hl : l.length ≤ 17592186044416) : Ev (fun k => spec_AssignmentOf.f k n l s) (assignB n l s) := by
  unfold spec_AssignmentOf.f assignB
  refine Ev.bind (specAreLists_ev n l hl) ?_
  by_cases h : areListsB n l = true
  · refine Ev.ifp h (Ev.cbind (specIsSet_eq _ _) ?_)
    rw [if_pos h]
    obtain ⟨h6, hm⟩ := areListsB_facts h
    by_cases hs : isSetB n s = true
    · rw [if_pos hs, hs]
      apply Ev.step
      · intro k
        rw [spec_AssignmentOf.j0]
      · refine Ev.ifn (by decide) (Ev.bind (specElements_ev s) ?_)
        refine Ev.bind (specAssign_ev l (elsB s) h6 hm (elsB_len s) (elsB_facts s) (elsB s).length [] (by simp)) ?_
        have hlen := asg_len l (elsB s) (elsB s).length []
        have h8 := elsB_len s
        have hno := asg_no l (elsB s) (elsB s).length []
        generalize asg l (elsB s) (elsB s).length [] = r at hlen hno
        obtain ⟨r1, r2⟩ := r
        cases r2 with
        | true =>
          refine Ev.ifp rfl (Ev.cbind rfl (Ev.ifp ?_ ?_))
          · simp only [List.length_nil] at hlen ⊢; omega
          · exact Ev.now _
        | false =>
          refine Ev.ifn (by simp) ?_
          have : r1 = [] := hno rfl
          subst this
          exact Ev.now _
    · rw [if_neg hs, Bool.eq_false_iff.2 hs]
      apply Ev.step
      · intro k
        rw [spec_AssignmentOf.j0]
      · exact Ev.ifp rfl (Ev.now _)
  · refine Ev.ifn h ?_
    rw [if_neg h]
    apply Ev.step
    · intro k
      rw [spec_AssignmentOf.j0]
    · exact Ev.ifp rfl (Ev.now _)
theorem implAssignment_ev (n : Int) (l : List Int) (s : Int) (hl : l.length ≤ 17592186044416) : Ev (fun k => impl_AssignmentOf.f k n l s) (assignB n l s) := by
  unfold impl_AssignmentOf.f assignB
  refine Ev.bind (implAreLists_ev n l hl) ?_
  by_cases h : areListsB n l = true
  · refine Ev.ifp h (Ev.cbind (implIsSet_eq _ _) ?_)
    rw [if_pos h]
    obtain ⟨h6, hm⟩ := areListsB_facts h
    by_cases hs : isSetB n s = true
    · rw [if_pos hs, hs]
      apply Ev.step
      · intro k
        rw [impl_AssignmentOf.j0]
      · refine Ev.ifn (by decide) (Ev.bind (implElements_ev s) ?_)
        exact Ev.bind (implAssign_ev l (elsB s) h6 hm (elsB_len s) (elsB_facts s) (elsB s).length [] (by simp)) (Ev.now _)
    · rw [if_neg hs, Bool.eq_false_iff.2 hs]
      apply Ev.step
      · intro k
        rw [impl_AssignmentOf.j0]
      · exact Ev.ifp rfl (Ev.now _)
  · refine Ev.ifn h ?_
    rw [if_neg h]
    apply Ev.step
    · intro k
      rw [impl_AssignmentOf.j0]
    · exact Ev.ifp rfl (Ev.now _)
theorem assignB_len (n : Int) (l : List Int) (s : Int) : (assignB n l s).1.length ≤ 8 := by
  unfold assignB
  by_cases h : areListsB n l = true
  · rw [if_pos h]
    by_cases hs : isSetB n s = true
    · rw [if_pos hs]
      have hlen := asg_len l (elsB s) (elsB s).length []
      have h8 := elsB_len s
      simp only [List.length_nil] at hlen
      omega
    · rw [if_neg hs]; simp
  · rw [if_neg h]; simp

end Go.Proofs.Ythpjhnfmafmanaa.Q

namespace Go.Proofs.Ythpjhnfmafmanaa.Pure
open Go Go.RowKit Go.Proofs.Ythpjhnfmafmanaa.A Go.Proofs.YthpjhnfmafmanaaW.PrintWords Go.Proofs.YthpjhnfmafmanaaW.PrintLast Go.Proofs.YthpjhnfmafmanaaW.PrintMore Go.Proofs.Ythpjhnfmafmanaa.Z Go.Proofs.Ythpjhnfmafmanaa.Q
set_option linter.unusedVariables false
set_option linter.unusedSimpArgs false

theorem FnExactAssignmentOf : laws_FnExactAssignmentOf.Pure := by
  intro n l s hn hm hl hw hs
  have hl' : l.length ≤ 17592186044416 := by omega
  unfold laws_FnExactAssignmentOf.f
  refine Ev.rounds ?_
  by_cases hb : (l.length : Int) > 1048576
  · exact Ev.ifp hb (Ev.now _)
  refine Ev.ifn hb ?_
  have h8 := assignB_len n l s
  have hS := specAssignment_ev n l s hl'
  have hI := implAssignment_ev n l s hl'
  generalize assignB n l s = r at h8 hS hI
  obtain ⟨r1, r2⟩ := r
  simp only at h8
  have hr : r1.length ≤ 17592186044416 := by omega
  refine Ev.bind (toInt_ev l hl') (Ev.bind hS (Ev.bind (toInt_ev l hl') (Ev.bind hI (Ev.bind (eqInt_self r1 hr) (Ev.ifp rfl ?_)))))
  apply Ev.step
  · intro k
    rw [laws_FnExactAssignmentOf.j0]
  refine Ev.ifn (by simp) (Ev.bind (toInt_ev l hl') (Ev.bind (eqInt_self l hl') (Ev.ifp rfl ?_)))
  refine Ev.bind (mark_ev l 1 (by omega) (by omega) hl') (Ev.ifn (by simp only []; omega) (Ev.bind (eqInt_self r1 hr) (Ev.ifp rfl ?_)))
  apply Ev.step
  · intro k
    rw [laws_FnExactAssignmentOf.j1]
  refine Ev.ifn (by simp) (Ev.bind (mark_ev r1 1 (by omega) (by omega) hr) (Ev.bind (held_ev _ 1 (by omega) (by omega) hr) ?_))
  refine Ev.ifn (by omega) (Ev.ifp rfl (Ev.bind (toInt_ev l hl') (Ev.bind hI (Ev.bind (eqInt_self r1 hr) (Ev.ifp rfl ?_)))))
  apply Ev.step
  · intro k
    rw [laws_FnExactAssignmentOf.j2]
  refine Ev.ifn (by simp) (Ev.bind (held_ev _ 1 (by omega) (by omega) hr) ?_)
  exact Ev.ifn (by omega) (Ev.ifp rfl (Ev.now _))

end Go.Proofs.Ythpjhnfmafmanaa.Pure
