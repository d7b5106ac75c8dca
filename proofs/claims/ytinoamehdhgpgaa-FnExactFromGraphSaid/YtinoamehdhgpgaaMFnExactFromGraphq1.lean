/- The pure side of the law FnExactFromGraph: what the Lean functions of the print compute, and that the law holds of them. Conditions: those in each lemma. -/
import Derived.Test.YtinoamehdhgpgaaMFnExactFromGraph1
import Derived.Test.YtinoamehdhgpgaaMFnExactFromGraph2
import Derived.Test.YtinoamehdhgpgaaMFnExactFromGraph3
import Derived.Test.YtinoamehdhgpgaaMFnExactFromGraph4
import Derived.Test.YtinoamehdhgpgaaMFnExactFromGraph5
import Derived.Test.YtinoamehdhgpgaaMFnExactFromGraphq0
namespace Go.Proofs.Ytinoamehdhgpgaa.A
open Go.RowKit
def laws_FnExactFromGraph.Pure : Prop := ∀ (a0_0 : Int) (l0_1 : List Int) (l0_2 : List Int), (Lit.int .i64 a0_0).wf = true → l0_1.length ≤ maxLen → (∀ x ∈ l0_1, (Lit.int .i64 x).wf = true) → l0_2.length ≤ maxLen → (∀ x ∈ l0_2, (Lit.int .i64 x).wf = true) → ∃ k, laws_FnExactFromGraph.f k a0_0 l0_1 l0_2 = some true
end Go.Proofs.Ytinoamehdhgpgaa.A

namespace Go.Proofs.Ytinoamehdhgpgaa.Q
open Go Go.RowKit Go.Proofs.Ytinoamehdhgpgaa.A Go.Proofs.YtinoamehdhgpgaaW.PrintWords Go.Proofs.YtinoamehdhgpgaaW.PrintLast Go.Proofs.YtinoamehdhgpgaaW.PrintMore Go.Proofs.Ytinoamehdhgpgaa.Z
set_option linter.unusedVariables false
set_option linter.unusedSimpArgs false

theorem toInt_l0 (l : List Int) (hl : l.length ≤ 17592186044416) : ∀ (rest pre : List Int), l = pre ++ rest → Ev (fun k => laws_toIntS.l0 k l (pre ++ List.replicate rest.length 0) (pre.length : Int)) l := by
  intro rest
  induction rest with
  | nil =>
    intro pre h
    apply Ev.step
    · intro k
      simp only [laws_toIntS.l0]
      rw [if_neg (by rw [h]; simp)]
    · subst h; simpa using Ev.now _
  | cons x rest ih =>
    intro pre h
    have hlen : (pre.length : Int) < (l.length : Int) := by rw [h]; simp; omega
    apply Ev.step
    · intro k
      simp only [laws_toIntS.l0]
      rw [if_pos hlen, if_pos (by omega), if_pos (by simp; omega)]
    · have := ih (pre ++ [x]) (by rw [h]; simp)
      have e : wrap64 ((pre.length : Int) + 1) = ((pre ++ [x]).length : Int) := by
        rw [wrap64_of (by omega) (by omega)]; simp
      rw [e]
      have e2 : (pre ++ List.replicate (x :: rest).length 0).set (pre.length : Int).toNat (rd l (pre.length : Int)) = (pre ++ [x]) ++ List.replicate rest.length 0 := by
        have : rd l (pre.length : Int) = x := by rw [h]; exact rd_mid _ _ _
        rw [this]
        simp [List.replicate_succ]
      rw [e2]
      exact this
theorem toInt_ev (l : List Int) (hl : l.length ≤ 17592186044416) : Ev (fun k => laws_toIntS.f k l) l := by
  unfold laws_toIntS.f
  refine Ev.ifp (by omega) (Ev.ifp (by simp; omega) ?_)
  simpa using toInt_l0 l hl l [] rfl
theorem eqInt_l0 (l : List Int) (hl : l.length ≤ 17592186044416) (l' : List Int) (hll : l'.length = l.length) : ∀ (rest rest' pre : List Int), l = pre ++ rest → l' = pre ++ rest' → Ev (fun k => laws_eqIntS.l0 k l l' (pre.length : Int)) (decide (l = l')) := by
  intro rest
  induction rest with
  | nil =>
    intro rest' pre h h'
    have : rest' = [] := by
      apply List.eq_nil_of_length_eq_zero
      have h1 := congrArg List.length h
      have h2 := congrArg List.length h'
      rw [List.length_append] at h1 h2
      simp only [List.length_nil] at h1
      omega
    subst this
    apply Ev.step
    · intro k
      simp only [laws_eqIntS.l0]
      rw [if_neg (by rw [h]; simp)]
    · have : l = l' := by rw [h, h']
      simpa [this] using Ev.now _
  | cons x rest ih =>
    intro rest' pre h h'
    have hlen : (pre.length : Int) < (l.length : Int) := by rw [h]; simp; omega
    cases rest' with
    | nil => exact absurd hll (by rw [h, h']; simp)
    | cons y rest' =>
    have e1 : rd l (pre.length : Int) = x := by rw [h]; exact rd_mid _ _ _
    have e2 : rd l' (pre.length : Int) = y := by rw [h']; exact rd_mid _ _ _
    by_cases hxy : x = y
    · subst hxy
      apply Ev.step
      · intro k
        simp only [laws_eqIntS.l0]
        rw [if_pos hlen, if_pos (by omega), if_pos (by omega), if_pos (by rw [e1, e2])]
      · have := ih rest' (pre ++ [x]) (by rw [h]; simp) (by rw [h']; simp)
        have e : wrap64 ((pre.length : Int) + 1) = ((pre ++ [x]).length : Int) := by
          rw [wrap64_of (by omega) (by omega)]; simp
        rw [e]
        exact this
    · apply Ev.step
      · intro k
        simp only [laws_eqIntS.l0]
        rw [if_pos hlen, if_pos (by omega), if_pos (by omega), if_neg (by rw [e1, e2]; exact hxy)]
      · have : l ≠ l' := by rw [h, h']; simp [hxy]
        simpa [this] using Ev.now _
theorem eqInt_ev (l l' : List Int) (hl : l.length ≤ 17592186044416) : Ev (fun k => laws_eqIntS.f k l l') (decide (l = l')) := by
  unfold laws_eqIntS.f
  by_cases h : (l.length : Int) = (l'.length : Int)
  · refine Ev.ifp h ?_
    exact eqInt_l0 l hl l' (by omega) l l' [] rfl rfl
  · refine Ev.ifn h ?_
    have : l ≠ l' := by rintro rfl; exact h rfl
    simpa [this] using Ev.now _
theorem eqInt_self (l : List Int) (hl : l.length ≤ 17592186044416) : Ev (fun k => laws_eqIntS.f k l l) true := by simpa using eqInt_ev l l hl

end Go.Proofs.Ytinoamehdhgpgaa.Q

namespace Go.Proofs.Ytinoamehdhgpgaa.Q
open Go Go.RowKit Go.Proofs.Ytinoamehdhgpgaa.A Go.Proofs.YtinoamehdhgpgaaW.PrintWords Go.Proofs.YtinoamehdhgpgaaW.PrintLast Go.Proofs.YtinoamehdhgpgaaW.PrintMore Go.Proofs.Ytinoamehdhgpgaa.Z
set_option linter.unusedVariables false
set_option linter.unusedSimpArgs false

theorem eqMat_ev (n : Int) (l : List Int) (hl : l.length ≤ 17592186044416) : Ev (fun k => laws_eqMatroid.f k n l n l) true := by
  unfold laws_eqMatroid.f
  refine Ev.ifp rfl (Ev.bind (eqInt_self l hl) (Ev.ifp rfl (Ev.now _)))

end Go.Proofs.Ytinoamehdhgpgaa.Q

namespace Go.Proofs.Ytinoamehdhgpgaa.Q
open Go Go.RowKit Go.Proofs.Ytinoamehdhgpgaa.A Go.Proofs.YtinoamehdhgpgaaW.PrintWords Go.Proofs.YtinoamehdhgpgaaW.PrintLast Go.Proofs.YtinoamehdhgpgaaW.PrintMore Go.Proofs.Ytinoamehdhgpgaa.Z
set_option linter.unusedVariables false
set_option linter.unusedSimpArgs false

/-- n numbers that go up by one from a. -/
def marks (a : Int) (n : Nat) : List Int := (List.range n).map (fun i : Nat => a + (i : Int))
theorem marks_len (a : Int) (n : Nat) : (marks a n).length = n := by simp [marks]
theorem marks_succ (a : Int) (n : Nat) : marks a (n + 1) = marks a n ++ [a + (n : Int)] := by simp [marks, List.range_succ]
theorem marks_get (a : Int) (n i : Nat) (h : i < n) : rd (marks a n) (i : Int) = a + (i : Int) := by
  rw [rd_getElem _ i (by rw [marks_len]; exact h)]
  simp [marks]
theorem mark_ev (l : List Int) (a : Int) (h0 : 0 ≤ a) (h1 : a ≤ 1000000000000000) (hl : l.length ≤ 17592186044416) : Ev (fun k => laws_markIntS.f k l a) (a + (l.length : Int), marks a l.length) := by
  have h := down (P := fun i => Ev (fun k => laws_markIntS.l0 k (marks a i ++ l.drop i) (a + (i : Int)) (i : Int)) (a + (l.length : Int), marks a l.length)) l.length
    (by
      apply Ev.step
      · intro k
        simp only [laws_markIntS.l0]
        rw [if_neg (by rw [List.length_append, marks_len, List.length_drop]; omega)]
      · rw [drop_end, List.append_nil]
        exact Ev.now _)
    (by
      intro i hi ih
      apply Ev.step
      · intro k
        simp only [laws_markIntS.l0]
        rw [if_pos (by rw [List.length_append, marks_len, List.length_drop]; omega), if_pos (by omega), w_succ hi hl, wrap64_of (by omega) (by omega)]
      · have e : (marks a i ++ l.drop i).set (i : Int).toNat (a + (i : Int)) = marks a (i + 1) ++ l.drop (i + 1) := by
          rw [drop_cons l i hi, marks_succ, Int.toNat_natCast, List.set_append_right _ _ (by rw [marks_len]; omega), marks_len, Nat.sub_self, List.set_cons_zero, List.append_assoc]
          rfl
        rw [e, show a + (i : Int) + 1 = a + ((i + 1 : Nat) : Int) from by omega]
        exact ih)
  have e : marks a 0 ++ l.drop 0 = l := by simp [marks]
  rw [e, show a + ((0 : Nat) : Int) = a from by omega] at h
  exact h
theorem held_ev (n : Nat) (a : Int) (h0 : 0 ≤ a) (h1 : a ≤ 1000000000000000) (hl : n ≤ 17592186044416) : Ev (fun k => laws_heldIntS.f k (marks a n) a) (a + (n : Int)) := by
  have h := down (P := fun i => Ev (fun k => laws_heldIntS.l0 k (marks a n) (a + (i : Int)) (i : Int)) (a + (n : Int))) n
    (by
      apply Ev.step
      · intro k
        simp only [laws_heldIntS.l0]
        rw [if_neg (by rw [marks_len]; omega)]
      · exact Ev.now _)
    (by
      intro i hi ih
      apply Ev.step
      · intro k
        simp only [laws_heldIntS.l0]
        rw [if_pos (by rw [marks_len]; omega), if_pos (by omega), if_pos (marks_get a n i hi), w_succ hi hl, wrap64_of (by omega) (by omega)]
      · rw [show a + (i : Int) + 1 = a + ((i + 1 : Nat) : Int) from by omega]
        exact ih)
  rw [show a + ((0 : Nat) : Int) = a from by omega] at h
  exact h

end Go.Proofs.Ytinoamehdhgpgaa.Q

namespace Go.Proofs.Ytinoamehdhgpgaa.Q
open Go Go.RowKit Go.Proofs.Ytinoamehdhgpgaa.A Go.Proofs.YtinoamehdhgpgaaW.PrintWords Go.Proofs.YtinoamehdhgpgaaW.PrintLast Go.Proofs.YtinoamehdhgpgaaW.PrintMore Go.Proofs.Ytinoamehdhgpgaa.Z
set_option linter.unusedVariables false
set_option linter.unusedSimpArgs false

theorem markMat_ev (n : Int) (l : List Int) (hl : l.length ≤ 17592186044416) : Ev (fun k => laws_markMatroid.f k n l 1) (1 + (l.length : Int), marks 1 l.length) := by
  unfold laws_markMatroid.f
  exact Ev.bind (mark_ev l 1 (by omega) (by omega) hl) (Ev.now _)
theorem heldMat_ev (n : Int) (c : Nat) (hl : c ≤ 17592186044416) : Ev (fun k => laws_heldMatroid.f k n (marks 1 c) 1) (1 + (c : Int)) := by
  unfold laws_heldMatroid.f
  exact Ev.bind (held_ev c 1 (by omega) (by omega) hl) (Ev.ifn (by omega) (Ev.now _))

end Go.Proofs.Ytinoamehdhgpgaa.Q

namespace Go.Proofs.Ytinoamehdhgpgaa.Q
open Go Go.RowKit Go.Proofs.Ytinoamehdhgpgaa.A Go.Proofs.YtinoamehdhgpgaaW.PrintWords Go.Proofs.YtinoamehdhgpgaaW.PrintLast Go.Proofs.YtinoamehdhgpgaaW.PrintMore Go.Proofs.Ytinoamehdhgpgaa.Z
set_option linter.unusedVariables false
set_option linter.unusedSimpArgs false

theorem l1In_eq (a b c : Int) : spec_l1In.f a b c = some (decide (b ≤ a) && decide (a ≤ c)) := by
  unfold spec_l1In.f
  by_cases h : a ≥ b
  · rw [if_pos h]; simp [h]
  · rw [if_neg h]; simp only [ge_iff_le] at h; simp [h]
theorem isSize_eq (a : Int) : impl_isSize.f a = some (decide (0 ≤ a) && decide (a ≤ 8)) := by
  unfold impl_isSize.f
  by_cases h : a ≥ 0
  · rw [if_pos h]; simp [h]
  · rw [if_neg h]; simp only [ge_iff_le] at h; simp [h]
theorem specIsSet_eq (n s : Int) : spec_IsSet.f n s = some (isSetB n s) := by
  unfold spec_IsSet.f
  rw [l1In_eq, Option.bind_some]
  unfold isSetB
  by_cases h : (decide (0 ≤ n) && decide (n ≤ 8)) = true
  · rw [if_pos h, if_pos (u64_nonneg _), l1In_eq, Option.bind_some, h, Bool.true_and]
    simp only [Bool.and_eq_true, decide_eq_true_eq] at h
    obtain ⟨m, rfl⟩ := Int.eq_ofNat_of_zero_le h.1
    have h8 : m ≤ 8 := by omega
    rw [u64_of (by omega) (by omega), shl_one (by omega)]
    have hp := pow_le_256 h8
    rw [Int.toNat_natCast]
    have e : (2 : Int) ^ m = ((2 ^ m : Nat) : Int) := by simp
    rw [e]
    generalize 2 ^ m = q at hp
    rw [wrap64_of (by omega) (by omega)]
    congr 2
    rw [Bool.eq_iff_iff]
    simp only [decide_eq_true_eq]
    omega
  · rw [if_neg h, Bool.eq_false_iff.2 h, Bool.false_and]
theorem implIsSet_eq (n s : Int) : impl_IsSet.f n s = some (isSetB n s) := by
  unfold impl_IsSet.f
  rw [isSize_eq, Option.bind_some]
  unfold isSetB
  by_cases h : (decide (0 ≤ n) && decide (n ≤ 8)) = true
  · rw [if_pos h, h, Bool.true_and]
    simp only [Bool.and_eq_true, decide_eq_true_eq] at h
    by_cases hs : s ≥ 0
    · rw [if_pos hs, if_pos h.1]
      obtain ⟨m, rfl⟩ := Int.eq_ofNat_of_zero_le h.1
      rw [shl_one (by omega), Int.toNat_natCast]
      have e : ((2 ^ m : Nat) : Int) = 2 ^ m := by simp
      rw [e]
      have : decide (0 ≤ s) = true := by simpa using hs
      rw [this, Bool.true_and]
    · rw [if_neg hs]
      have : decide (0 ≤ s) = false := by simpa using hs
      rw [this, Bool.false_and]
  · rw [if_neg h, Bool.eq_false_iff.2 h, Bool.false_and]
theorem isSet8 (s : Int) : isSetB 8 s = isAnyB s := by
  unfold isSetB isAnyB
  rw [Bool.eq_iff_iff]
  simp
theorem isAny_eq (s : Int) : impl_isAny.f s = some (isAnyB s) := by
  unfold impl_isAny.f isAnyB
  by_cases h : s ≥ 0
  · rw [if_pos h]; simp [h]
  · rw [if_neg h]; simp only [ge_iff_le] at h; simp [h]
theorem isAnyB_lt {s : Int} (h : isAnyB s = true) : ∃ t : Nat, s = t ∧ t < 256 := by
  simp only [isAnyB, Bool.and_eq_true, decide_eq_true_eq] at h
  obtain ⟨t, rfl⟩ := Int.eq_ofNat_of_zero_le h.1
  exact ⟨t, rfl, by omega⟩
theorem implHas_eq (s e : Int) : impl_HasElement.f s e = some (hasB s e) := by
  unfold impl_HasElement.f hasB
  rw [isAny_eq, Option.bind_some]
  by_cases h : isAnyB s = true
  · rw [if_pos h, h, Bool.true_and]
    obtain ⟨t, rfl, ht⟩ := isAnyB_lt h
    by_cases h0 : e ≥ 0
    · rw [if_pos h0]
      obtain ⟨m, rfl⟩ := Int.eq_ofNat_of_zero_le h0
      by_cases h8 : (m : Int) < 8
      · rw [if_pos h8, if_pos h0, bit_nat (lt256_63 ht)]
        simp [h8]
      · rw [if_neg h8]; simp [h8]
    · rw [if_neg h0]; simp only [ge_iff_le] at h0; simp [h0]
  · rw [if_neg h, Bool.eq_false_iff.2 h]; simp
theorem l2Has_eq {s e : Nat} (hs : s < 2 ^ 63) (he : e < 2 ^ 63) : spec_l2Has.f (s : Int) (e : Int) = some (s.testBit e) := by
  unfold spec_l2Has.f
  rw [if_pos (u64_nonneg _), u64_of (by omega) (by omega), bit_nat hs]
end Go.Proofs.Ytinoamehdhgpgaa.Q

namespace Go.Proofs.Ytinoamehdhgpgaa.Q
open Go Go.RowKit Go.Proofs.Ytinoamehdhgpgaa.A Go.Proofs.YtinoamehdhgpgaaW.PrintWords Go.Proofs.YtinoamehdhgpgaaW.PrintLast Go.Proofs.YtinoamehdhgpgaaW.PrintMore Go.Proofs.Ytinoamehdhgpgaa.Z
set_option linter.unusedVariables false
set_option linter.unusedSimpArgs false

def famG (n : Int) : Option Int → List Int → Bool
  | _, [] => decide (0 ≤ n) && decide (n ≤ 8)
  | p, x :: xs => isSetB n x && ((match p with | none => true | some q => decide (q < x)) && famG n (some x) xs)
/-- A family: sets of n elements, strictly ascending. -/
def famB (n : Int) (l : List Int) : Bool := famG n none l
def prevO (l : List Int) (i : Nat) : Option Int := if i = 0 then none else some (rd l ((i - 1 : Nat) : Int))
theorem prevO_succ (l : List Int) (i : Nat) (hi : i < l.length) : prevO l (i + 1) = some l[i] := by
  unfold prevO
  rw [if_neg (by omega), Nat.add_sub_cancel, rd_getElem l i hi]
theorem implFam_ev (n : Int) (l : List Int) (hl : l.length ≤ 17592186044416) : Ev (fun k => impl_IsFamily.f k n l) (famB n l) := by
  have h := down (P := fun i => Ev (fun k => impl_IsFamily.l0 k n l l (l.length : Int) (i : Int)) (famG n (prevO l i) (l.drop i))) l.length
    (by
      apply Ev.step
      · intro k
        simp only [impl_IsFamily.l0, isSize_eq, Option.bind_some]
        rw [if_neg (by omega)]
      · rw [drop_end]; exact Ev.now _)
    (by
      intro i hi ih
      apply Ev.step
      · intro k
        simp only [impl_IsFamily.l0, implIsSet_eq, Option.bind_some]
        rw [if_pos (by omega), if_pos (by omega), if_pos (by omega), rd_getElem l i hi, w_succ hi hl]
      · rw [drop_cons l i hi]
        rw [prevO_succ l i hi] at ih
        simp only [famG]
        by_cases hx : isSetB n l[i] = true
        · refine Ev.ifp hx ?_
          rw [hx, Bool.true_and]
          by_cases h0 : (i : Int) > 0
          · refine Ev.ifp h0 ?_
            rw [wrap64_of (by omega) (by omega), show (i : Int) - 1 = ((i - 1 : Nat) : Int) from by omega]
            refine Ev.ifp (by omega) (Ev.ifp (by omega) ?_)
            unfold prevO
            rw [if_neg (by omega)]
            by_cases hq : l[i] ≤ rd l ((i - 1 : Nat) : Int)
            · refine Ev.ifp hq ?_
              simp only []
              rw [show decide (rd l ((i - 1 : Nat) : Int) < l[i]) = false from by simpa using hq, Bool.false_and]
              exact Ev.now _
            · refine Ev.ifn hq ?_
              simp only []
              rw [show decide (rd l ((i - 1 : Nat) : Int) < l[i]) = true from by simpa using hq, Bool.true_and]
              exact ih
          · refine Ev.ifn h0 ?_
            unfold prevO
            rw [if_pos (by omega)]
            simp only [Bool.true_and]
            exact ih
        · refine Ev.ifn hx ?_
          rw [Bool.eq_false_iff.2 hx, Bool.false_and]; exact Ev.now _)
  exact h
theorem famG_facts (n : Int) : ∀ (l : List Int) (p : Option Int), famG n p l = true → (0 ≤ n ∧ n ≤ 8) ∧ (∀ x ∈ l, isSetB n x = true) ∧ l.Pairwise (· < ·) ∧ (∀ q, p = some q → ∀ x ∈ l, q < x) := by
  intro l
  induction l with
  | nil =>
    intro p h
    simp only [famG, Bool.and_eq_true, decide_eq_true_eq] at h
    exact ⟨h, fun x hx => by simp at hx, List.Pairwise.nil, fun q _ x hx => by simp at hx⟩
  | cons y l ih =>
    intro p h
    simp only [famG, Bool.and_eq_true] at h
    obtain ⟨h1, h2, h3⟩ := h
    obtain ⟨i1, i2, i3, i4⟩ := ih _ h3
    refine ⟨i1, fun x hx => ?_, List.pairwise_cons.2 ⟨fun x hx => i4 y rfl x hx, i3⟩, fun q hq x hx => ?_⟩
    · rcases List.mem_cons.1 hx with rfl | hx
      · exact h1
      · exact i2 x hx
    · subst hq
      simp only [decide_eq_true_eq] at h2
      rcases List.mem_cons.1 hx with rfl | hx
      · exact h2
      · exact Int.lt_trans h2 (i4 y rfl x hx)
/-- A family as numbers: its size, its sets. -/
theorem famB_nat {n : Int} {l : List Int} (h : famB n l = true) : ∃ (m : Nat) (L : List Nat), n = m ∧ m ≤ 8 ∧ l = L.map (fun x : Nat => (x : Int)) ∧ (∀ x ∈ L, x < 2 ^ m) ∧ L.Pairwise (· < ·) := by
  obtain ⟨h1, h2, h3, _⟩ := famG_facts n l none h
  obtain ⟨m, rfl⟩ := Int.eq_ofNat_of_zero_le h1.1
  have hnn : ∀ x ∈ l, 0 ≤ x := fun x hx => by
    obtain ⟨_, t, _, rfl, _⟩ := isSetB_lt (h2 x hx)
    omega
  have hl : l = (l.map Int.toNat).map (fun x : Nat => (x : Int)) := by
    rw [List.map_map]
    conv => lhs; rw [← List.map_id l]
    apply List.map_congr_left
    intro x hx
    have := hnn x hx
    simp only [id, Function.comp]
    omega
  refine ⟨m, l.map Int.toNat, rfl, by omega, hl, fun x hx => ?_, ?_⟩
  · obtain ⟨y, hy, rfl⟩ := List.mem_map.1 hx
    obtain ⟨m', t, hm, rfl, _, ht, _⟩ := isSetB_lt (h2 y hy)
    have : m = m' := by omega
    subst this
    rw [Int.toNat_natCast]; exact ht
  · rw [List.pairwise_map]
    exact h3.imp_of_mem (fun {a b} ha hb hab => by
      have := hnn a ha
      have := hnn b hb
      omega)

end Go.Proofs.Ytinoamehdhgpgaa.Q

namespace Go.Proofs.Ytinoamehdhgpgaa.Q
open Go Go.RowKit Go.Proofs.Ytinoamehdhgpgaa.A Go.Proofs.YtinoamehdhgpgaaW.PrintWords Go.Proofs.YtinoamehdhgpgaaW.PrintLast Go.Proofs.YtinoamehdhgpgaaW.PrintMore Go.Proofs.Ytinoamehdhgpgaa.Z
set_option linter.unusedVariables false
set_option linter.unusedSimpArgs false

/-- The elements of a set, as whole numbers; none where it is no set. -/
def elsB (s : Int) : List Int := ((List.range 8).filter (fun e : Nat => hasB s (e : Int))).map (fun e : Nat => (e : Int))
theorem range'_cons {i n : Nat} (h : i < n) : List.range' i (n - i) = i :: List.range' (i + 1) (n - (i + 1)) := by
  rw [show n - i = (n - (i + 1)) + 1 from by omega, List.range'_succ]
theorem filter_cons_map {s : Int} {i : Nat} (l : List Nat) : ((i :: l).filter (fun e : Nat => hasB s (e : Int))).map (fun e : Nat => (e : Int)) = (if hasB s (i : Int) = true then [(i : Int)] else []) ++ (l.filter (fun e : Nat => hasB s (e : Int))).map (fun e : Nat => (e : Int)) := by
  rw [List.filter_cons]
  by_cases h : hasB s (i : Int) = true
  · rw [if_pos h, if_pos h]; rfl
  · rw [if_neg h, if_neg h]; rfl
theorem implElements_ev (s : Int) : Ev (fun k => impl_ElementsOf.f k s) (elsB s) := by
  have h := down (P := fun i => ∀ acc : List Int, acc.length ≤ i → Ev (fun k => impl_ElementsOf.l0 k s acc (i : Int)) (acc ++ ((List.range' i (8 - i)).filter (fun e : Nat => hasB s (e : Int))).map (fun e : Nat => (e : Int)))) 8
    (by
      intro acc ha
      apply Ev.step
      · intro k
        simp only [impl_ElementsOf.l0, implHas_eq, Option.bind_some]
        rw [if_neg (by omega)]
      · simpa using Ev.now _)
    (by
      intro i hi ih acc ha
      apply Ev.step
      · intro k
        simp only [impl_ElementsOf.l0, implHas_eq, Option.bind_some]
        rw [if_pos (by omega), w_succ hi (by omega)]
      · rw [range'_cons hi, filter_cons_map]
        by_cases hx : hasB s (i : Int) = true
        · refine Ev.ifp hx (Ev.ifp (by omega) ?_)
          rw [if_pos hx, ← List.append_assoc]
          exact ih (acc ++ [(i : Int)]) (by simp; omega)
        · refine Ev.ifn hx ?_
          rw [if_neg hx]
          exact ih acc (by omega))
  have h0 := h [] (Nat.le_refl 0)
  rw [show ((0 : Nat) : Int) = 0 from rfl] at h0
  have e : elsB s = [] ++ ((List.range' 0 (8 - 0)).filter (fun e : Nat => hasB s (e : Int))).map (fun e : Nat => (e : Int)) := by
    unfold elsB
    rw [List.nil_append, List.range_eq_range']
  rw [e]
  unfold impl_ElementsOf.f
  exact h0
theorem elsB_len (s : Int) : (elsB s).length ≤ 8 := by
  unfold elsB
  rw [List.length_map]
  exact Nat.le_trans (List.length_filter_le _ _) (by simp)
theorem elsB_nat {s : Nat} (h : s < 256) : elsB (s : Int) = (els s).map (fun e : Nat => (e : Int)) := by
  have e : (List.range 8).filter (fun e : Nat => hasB (s : Int) (e : Int)) = (List.range 8).filter (fun e : Nat => s.testBit e) :=
    List.filter_congr (fun e he => by
      rw [List.mem_range] at he
      rw [hasB_nat]
      simp [h, he])
  unfold elsB els
  rw [e]

end Go.Proofs.Ytinoamehdhgpgaa.Q

namespace Go.Proofs.Ytinoamehdhgpgaa.Q
open Go Go.RowKit Go.Proofs.Ytinoamehdhgpgaa.A Go.Proofs.YtinoamehdhgpgaaW.PrintWords Go.Proofs.YtinoamehdhgpgaaW.PrintLast Go.Proofs.YtinoamehdhgpgaaW.PrintMore Go.Proofs.Ytinoamehdhgpgaa.Z
set_option linter.unusedVariables false
set_option linter.unusedSimpArgs false

theorem contains_cons (x : Int) (l : List Int) (a : Int) : (x :: l).contains a = (decide (x = a) || l.contains a) := by
  rw [Bool.eq_iff_iff]
  simp only [List.contains_iff_mem, List.mem_cons, Bool.or_eq_true, decide_eq_true_eq]
  constructor
  · rintro (h | h)
    · exact .inl h.symm
    · exact .inr h
  · rintro (h | h)
    · exact .inl h.symm
    · exact .inr h
end Go.Proofs.Ytinoamehdhgpgaa.Q

namespace Go.Proofs.Ytinoamehdhgpgaa.Q
open Go Go.RowKit Go.Proofs.Ytinoamehdhgpgaa.A Go.Proofs.YtinoamehdhgpgaaW.PrintWords Go.Proofs.YtinoamehdhgpgaaW.PrintLast Go.Proofs.YtinoamehdhgpgaaW.PrintMore Go.Proofs.Ytinoamehdhgpgaa.Z
set_option linter.unusedVariables false
set_option linter.unusedSimpArgs false

theorem index_l0 (l : List Int) (a : Int) (hl : l.length ≤ 17592186044416) : ∃ r : Int, Ev (fun k => slices_Index_int_int.f k l a) r ∧ (decide (r ≥ 0) = l.contains a) := by
  have h := down (P := fun i => ∃ r : Int, Ev (fun k => slices_Index_int_int.l0 k l a (l.length : Int) (i : Int)) r ∧ (decide (r ≥ 0) = (l.drop i).contains a)) l.length
    (by
      refine ⟨-1, ?_, by rw [drop_end]; rfl⟩
      apply Ev.step
      · intro k
        simp only [slices_Index_int_int.l0]
        rw [if_neg (by omega)]
      · exact Ev.now _)
    (by
      intro i hi ih
      rw [drop_cons l i hi, contains_cons]
      by_cases hx : l[i] = a
      · refine ⟨(i : Int), ?_, ?_⟩
        · apply Ev.step
          · intro k
            simp only [slices_Index_int_int.l0]
            rw [if_pos (by omega), if_pos (by omega), if_pos (by omega), rd_getElem l i hi, if_pos hx.symm]
          · exact Ev.now _
        · rw [show decide (l[i] = a) = true from by simpa using hx, Bool.true_or]
          simp
      · obtain ⟨r, hr, hd⟩ := ih
        refine ⟨r, ?_, ?_⟩
        · apply Ev.step
          · intro k
            simp only [slices_Index_int_int.l0]
            rw [if_pos (by omega), if_pos (by omega), if_pos (by omega), rd_getElem l i hi, if_neg (fun hc => hx hc.symm), w_succ hi hl]
          · exact hr
        · rw [show decide (l[i] = a) = false from by simpa using hx, Bool.false_or]; exact hd)
  exact h
theorem contains_ev (l : List Int) (a : Int) (hl : l.length ≤ 17592186044416) : Ev (fun k => slices_Contains_int_int.f k l a) (l.contains a) := by
  obtain ⟨r, hr, hd⟩ := index_l0 l a hl
  unfold slices_Contains_int_int.f
  refine Ev.bind hr ?_
  rw [hd]; exact Ev.now _

end Go.Proofs.Ytinoamehdhgpgaa.Q

namespace Go.Proofs.Ytinoamehdhgpgaa.Q
open Go Go.RowKit Go.Proofs.YtinoamehdhgpgaaW.PrintWords Go.Proofs.YtinoamehdhgpgaaW.PrintLast Go.Proofs.YtinoamehdhgpgaaW.PrintMore Go.Proofs.Ytinoamehdhgpgaa.Z
set_option linter.unusedVariables false
set_option linter.unusedSimpArgs false

/-- Can e be exchanged for an element of b? -/
def hasEx (l : List Int) (a b e : Nat) : Bool := (els (dif b a)).any (fun f => l.contains ((dif a (2 ^ e) ||| 2 ^ f : Nat) : Int))
def failE (l : List Int) (a b : Nat) : List Nat → Option Nat
  | [] => none
  | e :: es => if hasEx l a b e = true then failE l a b es else some e
def failB (l : List Int) (a : Nat) : List Nat → Option (Nat × Nat)
  | [] => none
  | b :: bs => match failE l a b (els (dif a b)) with
    | none => failB l a bs
    | some e => some (b, e)
def failA (l : List Int) (L : List Nat) : List Nat → Option (Nat × Nat × Nat)
  | [] => none
  | a :: la => match failB l a L with
    | none => failA l L la
    | some (b, e) => some (a, b, e)
def told : Option (Nat × Nat × Nat) → Int × Int × Int × Bool
  | none => (0, 0, 0, false)
  | some (a, b, e) => ((a : Int), (b : Int), (e : Int), true)
/-- What FirstFailure hands back. -/
def failT (n : Int) (l : List Int) : Int × Int × Int × Bool := if famB n l = true then told (failA l (l.map Int.toNat) (l.map Int.toNat)) else (0, 0, 0, false)
end Go.Proofs.Ytinoamehdhgpgaa.Q

namespace Go.Proofs.Ytinoamehdhgpgaa.Q
open Go Go.RowKit Go.Proofs.Ytinoamehdhgpgaa.A Go.Proofs.YtinoamehdhgpgaaW.PrintWords Go.Proofs.YtinoamehdhgpgaaW.PrintLast Go.Proofs.YtinoamehdhgpgaaW.PrintMore Go.Proofs.Ytinoamehdhgpgaa.Z
set_option linter.unusedVariables false
set_option linter.unusedSimpArgs false

/-- A matroid: a family, not empty, without a failure of the exchange. -/
def matB (n : Int) (l : List Int) : Bool := famB n l && (decide ((l.length : Int) > 0) && !(failT n l).2.2.2)
end Go.Proofs.Ytinoamehdhgpgaa.Q

namespace Go.Proofs.Ytinoamehdhgpgaa.Q
open Go Go.RowKit Go.Proofs.YtinoamehdhgpgaaW.PrintWords Go.Proofs.YtinoamehdhgpgaaW.PrintLast Go.Proofs.YtinoamehdhgpgaaW.PrintMore Go.Proofs.Ytinoamehdhgpgaa.Z
set_option linter.unusedVariables false
set_option linter.unusedSimpArgs false

theorem ints_len (L : List Nat) : (ints L).length = L.length := List.length_map _
theorem ints_rd (L : List Nat) (i : Nat) (h : i < L.length) : rd (ints L) (i : Int) = (L[i] : Int) := by
  rw [rd_getElem _ i (by rw [ints_len]; exact h)]
  simp [ints]

end Go.Proofs.Ytinoamehdhgpgaa.Q

namespace Go.Proofs.Ytinoamehdhgpgaa.Q
open Go Go.RowKit Go.Proofs.Ytinoamehdhgpgaa.A Go.Proofs.YtinoamehdhgpgaaW.PrintWords Go.Proofs.YtinoamehdhgpgaaW.PrintLast Go.Proofs.YtinoamehdhgpgaaW.PrintMore Go.Proofs.Ytinoamehdhgpgaa.Z
set_option linter.unusedVariables false
set_option linter.unusedSimpArgs false

theorem specCount_l0 : ∀ (d x : Nat), x ≤ d → x < 256 → ∀ acc : Int, 0 ≤ acc → acc + (d : Int) ≤ 1000 → Ev (fun k => spec_CountOf.l0 k (x : Int) acc) (acc + (pc x : Int)) := by
  intro d
  induction d with
  | zero =>
    intro x hx _ acc h0 h1
    obtain rfl : x = 0 := by omega
    apply Ev.step
    · intro k
      simp only [spec_CountOf.l0]
      rw [if_neg (by decide)]
    · rw [pc_zero, show acc + ((0 : Nat) : Int) = acc from by omega]
      exact Ev.now _
  | succ d ih =>
    intro x hx h256 acc h0 h1
    by_cases hz : x = 0
    · subst hz
      exact ih 0 (by omega) h256 acc h0 (by omega)
    · have hb : Go.bits .and .i64 (x : Int) 1 = ((x % 2 : Nat) : Int) := by
        have := and_nat (a := x) (b := 1) (lt256_63 h256) (by decide)
        rw [Nat.and_one_is_mod] at this
        exact this
      apply Ev.step
      · intro k
        simp only [spec_CountOf.l0]
        rw [if_pos (by omega), hb, wrap64_of (by omega) (by omega), show (x : Int) / 2 = ((x / 2 : Nat) : Int) from by omega]
      · have hp := pc_step x h256
        have hl := pc_le (x / 2)
        have := ih (x / 2) (by omega) (by omega) (acc + ((x % 2 : Nat) : Int)) (by omega) (by omega)
        rw [show acc + ((x % 2 : Nat) : Int) + (pc (x / 2) : Int) = acc + (pc x : Int) from by omega] at this
        exact this
theorem specCount_ev (s : Nat) (h : s < 256) : Ev (fun k => spec_CountOf.f k (s : Int)) (pc s : Int) := by
  unfold spec_CountOf.f
  refine Ev.cbind (specIsSet_eq _ _) (Ev.ifp ?_ ?_)
  · rw [isSet8, isAnyB_nat]; simpa using h
  · have := specCount_l0 s s (Nat.le_refl _) h 0 (by omega) (by omega)
    rw [Int.zero_add] at this
    exact this
end Go.Proofs.Ytinoamehdhgpgaa.Q

namespace Go.Proofs.Ytinoamehdhgpgaa.Q
open Go Go.RowKit Go.Proofs.Ytinoamehdhgpgaa.A Go.Proofs.YtinoamehdhgpgaaW.PrintWords Go.Proofs.YtinoamehdhgpgaaW.PrintLast Go.Proofs.YtinoamehdhgpgaaW.PrintMore Go.Proofs.Ytinoamehdhgpgaa.Z
set_option linter.unusedVariables false
set_option linter.unusedSimpArgs false

set_option maxRecDepth 100000 in
theorem ones64 : ∀ s < 256, bits_OnesCount64.f ((s : Nat) : Int) = some ((pc s : Nat) : Int) := by decide +kernel
theorem implCount_eq (s : Nat) (h : s < 256) : impl_CountOf.f (s : Int) = some (pc s : Int) := by
  unfold impl_CountOf.f
  rw [isAny_eq, Option.bind_some, if_pos (by rw [isAnyB_nat]; simpa using h), u64_of (by omega) (by omega)]
  unfold bits_OnesCount.f
  rw [ones64 s h]
  rfl
end Go.Proofs.Ytinoamehdhgpgaa.Q

namespace Go.Proofs.Ytinoamehdhgpgaa.Q
open Go Go.RowKit Go.Proofs.Ytinoamehdhgpgaa.A Go.Proofs.YtinoamehdhgpgaaW.PrintWords Go.Proofs.YtinoamehdhgpgaaW.PrintLast Go.Proofs.YtinoamehdhgpgaaW.PrintMore Go.Proofs.Ytinoamehdhgpgaa.Z
set_option linter.unusedVariables false
set_option linter.unusedSimpArgs false

def fullN (m : Nat) : Nat := 2 ^ m - 1
theorem full_sub_all : ∀ m < 9, ∀ u < 256, (!decide (u < 2 ^ m) || (decide (fullN m - u = dif (fullN m) u) && decide (fullN m < 2 ^ m))) = true := by decide +kernel
theorem full_sub {m u : Nat} (hm : m ≤ 8) (hu : u < 2 ^ m) : fullN m - u = dif (fullN m) u ∧ fullN m < 2 ^ m ∧ fullN m < 256 := by
  have h256 := Nat.lt_of_lt_of_le hu (pow_le_256 hm)
  have h := full_sub_all m (by omega) u h256
  rw [show decide (u < 2 ^ m) = true from by simpa using hu] at h
  simp only [Bool.not_true, Bool.false_or, Bool.and_eq_true, decide_eq_true_eq] at h
  exact ⟨h.1, h.2, Nat.lt_of_lt_of_le h.2 (pow_le_256 hm)⟩
theorem full_lt {m : Nat} (hm : m ≤ 8) : fullN m < 2 ^ m ∧ fullN m < 256 := (full_sub hm (Nat.two_pow_pos m)).2
theorem full_bit (m i : Nat) : (fullN m).testBit i = decide (i < m) := Nat.testBit_two_pow_sub_one m i
theorem specFull_eq {m : Nat} (hm : m ≤ 8) : spec_FullSet.f (m : Int) = some ((fullN m : Nat) : Int) := by
  unfold spec_FullSet.f fullN
  have hp := pow_le_256 hm
  have h0 := Nat.two_pow_pos m
  rw [l1In_eq, Option.bind_some, if_pos (by simp; omega), if_pos (u64_nonneg _), u64_of (by omega) (by omega), shl_one (by omega)]
  generalize 2 ^ m = q at *
  rw [wrap64_of (by omega) (by omega)]
  congr 1
  omega
theorem implFull_eq {m : Nat} (hm : m ≤ 8) : impl_FullSet.f (m : Int) = some ((fullN m : Nat) : Int) := by
  unfold impl_FullSet.f fullN
  have hp := pow_le_256 hm
  have h0 := Nat.two_pow_pos m
  rw [isSize_eq, Option.bind_some, if_pos (by simp; omega), if_pos (by omega), shl_one (by omega)]
  generalize 2 ^ m = q at *
  rw [wrap64_of (by omega) (by omega)]
  congr 1
  omega

end Go.Proofs.Ytinoamehdhgpgaa.Q

namespace Go.Proofs.Ytinoamehdhgpgaa.Q
open Go Go.RowKit Go.Proofs.YtinoamehdhgpgaaW.PrintWords Go.Proofs.YtinoamehdhgpgaaW.PrintLast Go.Proofs.YtinoamehdhgpgaaW.PrintMore Go.Proofs.Ytinoamehdhgpgaa.Z
set_option linter.unusedVariables false
set_option linter.unusedSimpArgs false

theorem rk_ge {L : List Nat} {b : Nat} (hb : b ∈ L) (s : Nat) : pc (b &&& s) ≤ rkN L s := maxN_mem _ 0 _ (List.mem_map.2 ⟨b, hb, rfl⟩)
theorem rk_attain {L : List Nat} (hne : L ≠ []) (s : Nat) : ∃ b ∈ L, pc (b &&& s) = rkN L s := by
  rcases maxN_cases (L.map (fun b => pc (b &&& s))) 0 with h | h
  · obtain ⟨b, hb⟩ := List.exists_mem_of_ne_nil L hne
    have := rk_ge hb s
    refine ⟨b, hb, ?_⟩
    unfold rkN at this ⊢
    omega
  · obtain ⟨b, hb, e⟩ := List.mem_map.1 h
    exact ⟨b, hb, e⟩
theorem rk_mono {L : List Nat} (hne : L ≠ []) {X Y : Nat} (h : ∀ i, X.testBit i = true → Y.testBit i = true) : rkN L X ≤ rkN L Y := by
  obtain ⟨b, hb, e⟩ := rk_attain hne X
  rw [← e]
  refine Nat.le_trans (pc_mono fun i _ hi => ?_) (rk_ge hb Y)
  rw [Nat.testBit_and, Bool.and_eq_true] at hi ⊢
  exact ⟨hi.1, h i hi.2⟩
theorem Mat.both_step {m : Nat} {L : List Nat} (h : Mat m L) {S T c : Nat} (hST : ∀ i, S.testBit i = true → T.testBit i = true) (hc : c ∈ L) (hcT : pc (c &&& T) = rkN L T) : ∀ (d b : Nat), b ∈ L → pc (b &&& S) = rkN L S → pc (dif b c) = d → ∃ b ∈ L, pc (b &&& S) = rkN L S ∧ pc (b &&& T) = rkN L T := by
  intro d
  induction d with
  | zero =>
    intro b hb hS hd
    refine ⟨b, hb, hS, Nat.le_antisymm (rk_ge hb T) ?_⟩
    rw [← hcT]
    have hcard := h.card hb hc
    refine pc_mono fun i hi hbi => ?_
    rw [Nat.testBit_and, Bool.and_eq_true] at hbi ⊢
    refine ⟨?_, hbi.2⟩
    cases hb' : b.testBit i
    · have h1 : pc b < pc c := by
        have e1 := pc_dif_and c (2 ^ i)
        have hle : pc b ≤ pc (dif c (2 ^ i)) := pc_mono fun j hj hbj => by
          rw [del_bit]
          have : c.testBit j = true := by
            cases hcj : c.testBit j
            · have : 0 < pc (dif b c) := pc_pos hj (by rw [dif_bit, hbj, hcj]; rfl)
              omega
            · rfl
          rw [this]
          have hne : ¬ i = j := by rintro rfl; rw [hb'] at hbj; cases hbj
          simp [hne]
        have := pc_del hi hbi.1
        omega
      omega
    · rfl
  | succ d ih =>
    intro b hb hS hd
    by_cases hT : pc (b &&& T) = rkN L T
    · exact ⟨b, hb, hS, hT⟩
    · have hlt : pc (b &&& T) < pc (c &&& T) := by
        have := rk_ge hb T
        omega
      have hcard := h.card hb hc
      have e1 := pc_dif_and b T
      have e2 := pc_dif_and c T
      obtain ⟨e, he, hbe, hce⟩ := exists_new (a := dif c T) (b := dif b T) (by omega)
      rw [dif_bit, Bool.and_eq_true, Bool.not_eq_true'] at hbe
      have hce' : c.testBit e = false := by
        rw [dif_bit, hbe.2] at hce
        simpa using hce
      obtain ⟨f, hf, h1, h2, hm⟩ := h.exch b hb c hc e he hbe.1 hce'
      refine ih (swp b e f) hm ?_ ?_
      · refine Nat.le_antisymm (rk_ge hm S) ?_
        rw [← hS]
        refine pc_mono fun i _ hi => ?_
        rw [Nat.testBit_and, Bool.and_eq_true] at hi ⊢
        refine ⟨?_, hi.2⟩
        have hie : ¬ e = i := by rintro rfl; have := hST _ hi.2; rw [hbe.2] at this; cases this
        rw [swp_bit, hi.1]
        simp [hie]
      · have e3 : dif (swp b e f) c = dif (dif b c) (2 ^ e) := by
          apply Nat.eq_of_testBit_eq
          intro i
          rw [dif_bit, swp_bit, del_bit, dif_bit]
          by_cases hi : f = i
          · subst hi; rw [h1, h2]; simp
          · simp [hi]
            cases b.testBit i <;> cases c.testBit i <;> simp
        rw [e3]
        have := pc_del (a := dif b c) he (by rw [dif_bit, hbe.1, hce']; rfl)
        omega
theorem Mat.both {m : Nat} {L : List Nat} (h : Mat m L) {S T : Nat} (hST : ∀ i, S.testBit i = true → T.testBit i = true) : ∃ b ∈ L, pc (b &&& S) = rkN L S ∧ pc (b &&& T) = rkN L T := by
  obtain ⟨c, hc, hcT⟩ := rk_attain h.some T
  obtain ⟨b, hb, hbS⟩ := rk_attain h.some S
  exact Mat.both_step h hST hc hcT _ b hb hbS rfl
theorem Mat.rk_sub {m : Nat} {L : List Nat} (h : Mat m L) (X Y : Nat) : rkN L (X ||| Y) + rkN L (X &&& Y) ≤ rkN L X + rkN L Y := by
  obtain ⟨b, hb, h1, h2⟩ := Mat.both h (S := X &&& Y) (T := X ||| Y) (fun i hi => by rw [Nat.testBit_and, Bool.and_eq_true] at hi; rw [Nat.testBit_or, hi.1]; rfl)
  have e := pc_or_and (b &&& X) (b &&& Y)
  have e1 : (b &&& X) ||| (b &&& Y) = b &&& (X ||| Y) := by
    apply Nat.eq_of_testBit_eq
    intro i
    simp only [Nat.testBit_or, Nat.testBit_and]
    cases b.testBit i <;> cases X.testBit i <;> cases Y.testBit i <;> rfl
  have e2 : (b &&& X) &&& (b &&& Y) = b &&& (X &&& Y) := by
    apply Nat.eq_of_testBit_eq
    intro i
    simp only [Nat.testBit_and]
    cases b.testBit i <;> cases X.testBit i <;> cases Y.testBit i <;> rfl
  rw [e1, e2, h1, h2] at e
  have k1 := rk_ge hb X
  have k2 := rk_ge hb Y
  omega
theorem bit_out {m A i : Nat} (h : A < 2 ^ m) (hi : m ≤ i) : A.testBit i = false := Nat.testBit_lt_two_pow (Nat.lt_of_lt_of_le h (Nat.pow_le_pow_right (by omega) hi))
end Go.Proofs.Ytinoamehdhgpgaa.Q

namespace Go.Proofs.Ytinoamehdhgpgaa.Q
open Go Go.RowKit Go.Proofs.YtinoamehdhgpgaaW.PrintWords Go.Proofs.YtinoamehdhgpgaaW.PrintLast Go.Proofs.YtinoamehdhgpgaaW.PrintMore Go.Proofs.Ytinoamehdhgpgaa.Z
set_option linter.unusedVariables false
set_option linter.unusedSimpArgs false

theorem or_ltP {m a b : Nat} (ha : a < 2 ^ m) (hb : b < 2 ^ m) : a ||| b < 2 ^ m := Nat.or_lt_two_pow ha hb
theorem bit_lt {m s i : Nat} (hs : s < 2 ^ m) (h : s.testBit i = true) : i < m := by
  refine Classical.byContradiction fun hc => ?_
  rw [bit_out hs (by omega)] at h; cases h
theorem pow_lt_of {m i : Nat} (h : i < m) : 2 ^ i < 2 ^ m := Nat.pow_lt_pow_right (by omega) h
/-- Sets of m elements, closed downward, and a smaller one can be filled up from a greater one. -/
structure Ind (m : Nat) (I : Nat → Prop) : Prop where
  size : m ≤ 8
  sets : ∀ s, I s → s < 2 ^ m
  zero : I 0
  down : ∀ s t, I t → subN s t → I s
  aug : ∀ a b, I a → I b → pc a < pc b → ∃ e, e < 8 ∧ b.testBit e = true ∧ a.testBit e = false ∧ I (a ||| 2 ^ e)
def orL (a : Nat) : List Nat → Nat
  | [] => a
  | e :: es => orL a es ||| 2 ^ e
theorem orL_bit (a i : Nat) : ∀ es : List Nat, (orL a es).testBit i = (a.testBit i || decide (i ∈ es)) := by
  intro es
  induction es with
  | nil => simp [orL]
  | cons e es ih =>
    simp only [orL]
    rw [add_bit, ih]
    by_cases h : e = i
    · subst h; simp
    · have : ¬ i = e := fun x => h x.symm
      simp [h, this]
theorem Mat.aug {m : Nat} {L : List Nat} (h : Mat m L) {a b : Nat} (ha : indN L a = true) (hb : indN L b = true) (hlt : pc a < pc b) : ∃ e, e < 8 ∧ b.testBit e = true ∧ a.testBit e = false ∧ indN L (a ||| 2 ^ e) = true := by
  refine Classical.byContradiction fun hc => ?_
  have hlt256 : ∀ s, indN L s = true → s < 256 := fun s hs => by
    obtain ⟨x, hx, hsub⟩ := indN_iff.1 hs
    exact Nat.lt_of_le_of_lt (subN_le hsub) (h.lt x hx)
  have ra := (rk_eq_iff (hlt256 a ha) h.some).2 ha
  have rb := (rk_eq_iff (hlt256 b hb) h.some).2 hb
  have h1 : ∀ e, e < 8 → b.testBit e = true → rkN L (a ||| 2 ^ e) ≤ rkN L a := by
    intro e he hbe
    cases hae : a.testBit e
    · have hn : ¬ indN L (a ||| 2 ^ e) = true := fun x => hc ⟨e, he, hbe, hae, x⟩
      have hl : a ||| 2 ^ e < 256 := Nat.or_lt_two_pow (n := 8) (hlt256 a ha) (pow_lt_of he)
      have hne := mt (rk_eq_iff hl h.some).1 hn
      have hle := rkN_le L (a ||| 2 ^ e)
      rw [pc_add he hae] at hle hne
      omega
    · refine rk_mono h.some fun i hi => ?_
      rw [add_bit, Bool.or_eq_true] at hi
      rcases hi with hi | hi
      · exact hi
      · rw [← of_decide_eq_true hi]; exact hae
  have h2 : ∀ es : List Nat, (∀ e ∈ es, e < 8 ∧ b.testBit e = true) → rkN L (orL a es) ≤ rkN L a := by
    intro es
    induction es with
    | nil => intro _; exact Nat.le_refl _
    | cons e es ih =>
      intro hes
      have ih' := ih (fun x hx => hes x (List.mem_cons_of_mem _ hx))
      have he := hes e (List.mem_cons_self ..)
      have hs := Mat.rk_sub h (orL a es) (a ||| 2 ^ e)
      have k1 : rkN L a ≤ rkN L (orL a es &&& (a ||| 2 ^ e)) := rk_mono h.some fun i hi => by
        rw [Nat.testBit_and, orL_bit, add_bit, hi]; rfl
      have k2 : rkN L (orL a es ||| 2 ^ e) ≤ rkN L (orL a es ||| (a ||| 2 ^ e)) := rk_mono h.some fun i hi => by
        rw [Nat.testBit_or, Bool.or_eq_true] at hi ⊢
        rcases hi with hi | hi
        · exact .inl hi
        · right; rw [Nat.testBit_or, hi, Bool.or_true]
      have k3 := h1 e he.1 he.2
      simp only [orL]
      omega
  have h3 := h2 (els b) (fun e he => mem_els.1 he)
  have h4 : rkN L b ≤ rkN L (orL a (els b)) := rk_mono h.some fun i hi => by
    rw [orL_bit, Bool.or_eq_true]
    right
    refine decide_eq_true (mem_els.2 ⟨?_, hi⟩)
    refine Classical.byContradiction fun hc => ?_
    rw [bit_ge (hlt256 b hb) hc] at hi; cases hi
  omega
variable {m : Nat} {I : Nat → Prop}
theorem Ind.lt (h : Ind m I) {s : Nat} (hs : I s) : s < 256 := Nat.lt_of_lt_of_le (h.sets s hs) (pow_le_256 h.size)
/-- The greatest size of an independent set. -/
theorem Ind.max (h : Ind m I) : ∃ r, (∃ b, I b ∧ pc b = r) ∧ ∀ s, I s → pc s ≤ r := by
  have key : ∀ d b, I b → 8 - pc b ≤ d → ∃ r, (∃ b, I b ∧ pc b = r) ∧ ∀ s, I s → pc s ≤ r := by
    intro d
    induction d with
    | zero =>
      intro b hb hd
      refine ⟨pc b, ⟨b, hb, rfl⟩, fun s _ => ?_⟩
      have := pc_le s
      have := pc_le b
      omega
    | succ d ih =>
      intro b hb hd
      by_cases hx : ∃ s, I s ∧ pc b < pc s
      · obtain ⟨s, hs, hlt⟩ := hx
        exact ih s hs (by omega)
      · refine ⟨pc b, ⟨b, hb, rfl⟩, fun s hs => ?_⟩
        have : ¬ pc b < pc s := fun hl => hx ⟨s, hs, hl⟩
        omega
  exact key 8 0 h.zero (by omega)
theorem Ind.mat (h : Ind m I) {L : List Nat} {r : Nat} (hL : ∀ b, b ∈ L ↔ I b ∧ pc b = r) (hne : ∃ b, I b ∧ pc b = r) : Mat m L := by
  refine ⟨h.size, fun b hb => h.sets b ((hL b).1 hb).1, ?_, ?_⟩
  · obtain ⟨b, hb⟩ := hne
    intro e
    have := (hL b).2 hb
    rw [e] at this; simp at this
  · intro a ha b hb e he hae hbe
    obtain ⟨ia, pa⟩ := (hL a).1 ha
    obtain ⟨ib, pb⟩ := (hL b).1 hb
    have hd := pc_del he hae
    obtain ⟨f, hf, h1, h2, h3⟩ := h.aug (dif a (2 ^ e)) b (h.down _ a ia (subN_bit.2 fun i hi => by
      rw [dif_bit, Bool.and_eq_true] at hi; exact hi.1)) ib (by omega)
    have hfe : ¬ e = f := by rintro rfl; rw [hbe] at h1; cases h1
    have haf : a.testBit f = false := by
      rw [del_bit] at h2
      simpa [hfe] using h2
    refine ⟨f, hf, h1, haf, (hL _).2 ⟨h3, ?_⟩⟩
    rw [pc_swp he hf hae haf]; exact pa
/-- The independent sets are those within its bases. -/
theorem Ind.indN_iff (h : Ind m I) {L : List Nat} {r : Nat} (hL : ∀ b, b ∈ L ↔ I b ∧ pc b = r) (hne : ∃ b, I b ∧ pc b = r) (hmax : ∀ s, I s → pc s ≤ r) (s : Nat) : indN L s = true ↔ I s := by
  constructor
  · intro hs
    obtain ⟨x, hx, hsub⟩ := Z.indN_iff.1 hs
    exact h.down s x ((hL x).1 hx).1 hsub
  · obtain ⟨b, ib, pb⟩ := hne
    have key : ∀ d s, I s → r - pc s ≤ d → ∃ x, x ∈ L ∧ subN s x := by
      intro d
      induction d with
      | zero =>
        intro s hs hd
        have := hmax s hs
        exact ⟨s, (hL s).2 ⟨hs, by omega⟩, subN_refl s⟩
      | succ d ih =>
        intro s hs hd
        by_cases he : pc s = r
        · exact ⟨s, (hL s).2 ⟨hs, he⟩, subN_refl s⟩
        · have := hmax s hs
          obtain ⟨e, he8, h1, h2, h3⟩ := h.aug s b hs ib (by omega)
          obtain ⟨x, hx, hsub⟩ := ih _ h3 (by rw [pc_add he8 h2]; omega)
          refine ⟨x, hx, subN_trans (subN_bit.2 fun i hi => ?_) hsub⟩
          rw [add_bit, hi, Bool.true_or]
    intro hs
    obtain ⟨x, hx, hsub⟩ := key _ s hs (Nat.le_refl _)
    exact Z.indN_iff.2 ⟨x, hx, hsub⟩
/-- At most one element, and of S. -/
def One (S s : Nat) : Prop := s = 0 ∨ ∃ e, e < 8 ∧ S.testBit e = true ∧ s = 2 ^ e
theorem Ind.one {S : Nat} (hm : m ≤ 8) (hS : S < 2 ^ m) : Ind m (One S) := by
  refine ⟨hm, ?_, .inl rfl, ?_, ?_⟩
  · rintro s (rfl | ⟨e, he, h1, rfl⟩)
    · exact Nat.two_pow_pos _
    · exact pow_lt_of (bit_lt hS h1)
  · rintro s t (rfl | ⟨e, he, h1, rfl⟩) hst
    · left
      have := subN_le hst
      omega
    · cases hb : s.testBit e
      · left
        apply Nat.eq_of_testBit_eq
        intro i
        rw [Nat.zero_testBit]
        cases hi : s.testBit i
        · rfl
        · have := subN_bit.1 hst i hi
          rw [Nat.testBit_two_pow] at this
          rw [of_decide_eq_true this, hi] at hb; cases hb
      · right
        refine ⟨e, he, h1, ?_⟩
        apply Nat.eq_of_testBit_eq
        intro i
        rw [Nat.testBit_two_pow]
        by_cases hi : e = i
        · subst hi; rw [hb]; simp
        · rw [decide_eq_false hi]
          cases hs : s.testBit i
          · rfl
          · have := subN_bit.1 hst i hs
            rw [Nat.testBit_two_pow] at this
            exact absurd (of_decide_eq_true this) hi
  · rintro a b (rfl | ⟨e, he, h1, rfl⟩) hb hlt
    · rcases hb with rfl | ⟨f, hf, h2, rfl⟩
      · omega
      · exact ⟨f, hf, by rw [Nat.testBit_two_pow]; simp, Nat.zero_testBit _, by rw [Nat.zero_or]; exact .inr ⟨f, hf, h2, rfl⟩⟩
    · rw [pc_pow he] at hlt
      rcases hb with rfl | ⟨f, hf, h2, rfl⟩
      · rw [pc_zero] at hlt; omega
      · rw [pc_pow hf] at hlt; omega
end Go.Proofs.Ytinoamehdhgpgaa.Q

namespace Go.Proofs.Ytinoamehdhgpgaa.Q
open Go Go.RowKit Go.Proofs.YtinoamehdhgpgaaW.PrintWords Go.Proofs.YtinoamehdhgpgaaW.PrintLast Go.Proofs.YtinoamehdhgpgaaW.PrintMore Go.Proofs.Ytinoamehdhgpgaa.Z
set_option linter.unusedVariables false
set_option linter.unusedSimpArgs false

def relab (l : Nat → Nat) (A B : Nat) (v : Nat) : Nat := if l v = B then A else l v
def join1 (l : Nat → Nat) (a b : Nat) : Nat → Nat := if l a = l b then l else relab l (l a) (l b)
def isRep (l : Nat → Nat) (v : Nat) : Bool := (List.range v).all (fun u => decide (l u ≠ l v))
theorem isRep_iff {l : Nat → Nat} {v : Nat} : isRep l v = true ↔ ∀ u, u < v → l u ≠ l v := by
  unfold isRep
  rw [List.all_eq_true]
  constructor
  · intro h u hu; exact of_decide_eq_true (h u (List.mem_range.2 hu))
  · intro h u hu; exact decide_eq_true (h u (List.mem_range.1 hu))
def cls (V : Nat) (l : Nat → Nat) : Nat := ((List.range V).filter (isRep l)).length
theorem filter_le {p q : Nat → Bool} {l : List Nat} (h : ∀ x ∈ l, p x = true → q x = true) : (l.filter p).length ≤ (l.filter q).length := by
  induction l with
  | nil => exact Nat.le_refl _
  | cons x l ih =>
    have ih' := ih (fun y hy => h y (List.mem_cons_of_mem _ hy))
    have hx := h x (List.mem_cons_self ..)
    rw [List.filter_cons, List.filter_cons]
    by_cases hp : p x = true
    · rw [if_pos hp, if_pos (hx hp), List.length_cons, List.length_cons]; omega
    · rw [if_neg hp]
      by_cases hq : q x = true
      · rw [if_pos hq, List.length_cons]; omega
      · rw [if_neg hq]; exact ih'
theorem cls_le {V : Nat} {l l' : Nat → Nat} (h : ∀ u v, u < V → v < V → l u = l v → l' u = l' v) : cls V l' ≤ cls V l := by
  unfold cls
  refine filter_le fun v hv hr => isRep_iff.2 fun u hu he => ?_
  have hv' := List.mem_range.1 hv
  exact isRep_iff.1 hr u hu (h u v (by omega) hv' he)
theorem first_of (l : Nat → Nat) (A : Nat) : ∀ n a, a ≤ n → l a = A → ∃ f, f ≤ a ∧ l f = A ∧ ∀ u, u < f → l u ≠ A := by
  intro n
  induction n with
  | zero =>
    intro a ha h
    exact ⟨a, Nat.le_refl _, h, fun u hu => by omega⟩
  | succ n ih =>
    intro a ha h
    by_cases hx : ∃ u, u < a ∧ l u = A
    · obtain ⟨u, hu, hl⟩ := hx
      obtain ⟨f, h1, h2, h3⟩ := ih u (by omega) hl
      exact ⟨f, by omega, h2, h3⟩
    · exact ⟨a, Nat.le_refl _, h, fun u hu he => hx ⟨u, hu, he⟩⟩
theorem filter_minus {p q : Nat → Bool} {M : Nat} : ∀ {l : List Nat}, l.Nodup → M ∈ l → p M = true → (∀ x ∈ l, q x = (p x && !decide (x = M))) → (l.filter q).length + 1 = (l.filter p).length := by
  intro l
  induction l with
  | nil => intro _ h; simp at h
  | cons x l ih =>
    intro hnd hM hp hq
    rw [List.nodup_cons] at hnd
    rw [List.filter_cons, List.filter_cons]
    by_cases hx : x = M
    · subst hx
      rw [if_pos hp, if_neg (by rw [hq x (List.mem_cons_self ..)]; simp), List.length_cons]
      congr 2
      apply List.filter_congr
      intro y hy
      rw [hq y (List.mem_cons_of_mem _ hy)]
      have : ¬ y = x := by rintro rfl; exact hnd.1 hy
      simp [this]
    · have hM' : M ∈ l := by
        rcases List.mem_cons.1 hM with h | h
        · exact absurd h.symm hx
        · exact h
      have ih' := ih hnd.2 hM' hp (fun y hy => hq y (List.mem_cons_of_mem _ hy))
      have hqx : q x = p x := by rw [hq x (List.mem_cons_self ..)]; simp [hx]
      rw [hqx]
      by_cases hpx : p x = true
      · rw [if_pos hpx, if_pos hpx, List.length_cons, List.length_cons]; omega
      · rw [if_neg hpx, if_neg hpx]; exact ih'
theorem cls_merge {V : Nat} {l : Nat → Nat} {a b : Nat} (ha : a < V) (hb : b < V) (hne : l a ≠ l b) : cls V (relab l (l a) (l b)) + 1 = cls V l := by
  obtain ⟨fA, a1, a2, a3⟩ := first_of l (l a) a a (Nat.le_refl _) rfl
  obtain ⟨fB, b1, b2, b3⟩ := first_of l (l b) b b (Nat.le_refl _) rfl
  have hf : fA ≠ fB := by rintro rfl; exact hne (a2.symm.trans b2)
  have hrep : isRep l (Nat.max fA fB) = true := by
    rw [isRep_iff]
    rcases Nat.lt_or_ge fA fB with h | h
    · rw [show Nat.max fA fB = fB from Nat.max_eq_right (by omega), b2]; exact b3
    · rw [show Nat.max fA fB = fA from Nat.max_eq_left h, a2]; exact a3
  have hmx : Nat.max fA fB = fA ∨ Nat.max fA fB = fB := by
    rcases Nat.lt_or_ge fA fB with h | h
    · exact .inr (Nat.max_eq_right (by omega))
    · exact .inl (Nat.max_eq_left h)
  have hge1 : fA ≤ Nat.max fA fB := Nat.le_max_left _ _
  have hge2 : fB ≤ Nat.max fA fB := Nat.le_max_right _ _
  have hrel : ∀ u v, relab l (l a) (l b) u = relab l (l a) (l b) v ↔ (l u = l v ∨ ((l u = l a ∨ l u = l b) ∧ (l v = l a ∨ l v = l b))) := by
    intro u v
    unfold relab
    by_cases hu : l u = l b <;> by_cases hv : l v = l b
    · rw [if_pos hu, if_pos hv]; simp [hu, hv]
    · rw [if_pos hu, if_neg hv]
      constructor
      · intro h; exact .inr ⟨.inr hu, .inl h.symm⟩
      · rintro (h | ⟨_, h | h⟩)
        · exact absurd (h.symm.trans hu) hv
        · exact h.symm
        · exact absurd h hv
    · rw [if_neg hu, if_pos hv]
      constructor
      · intro h; exact .inr ⟨.inl h, .inr hv⟩
      · rintro (h | ⟨h | h, _⟩)
        · exact absurd (h.trans hv) hu
        · exact h
        · exact absurd h hu
    · rw [if_neg hu, if_neg hv]
      constructor
      · intro h; exact .inl h
      · rintro (h | ⟨h1 | h1, h2 | h2⟩)
        · exact h
        · rw [h1, h2]
        · exact absurd h2 hv
        · exact absurd h1 hu
        · exact absurd h1 hu
  unfold cls
  refine filter_minus List.nodup_range (List.mem_range.2 (by rcases hmx with h | h <;> rw [h] <;> omega)) hrep fun v hv => ?_
  rw [Bool.eq_iff_iff, isRep_iff, Bool.and_eq_true, isRep_iff, Bool.not_eq_true', decide_eq_false_iff_not]
  constructor
  · intro h
    refine ⟨fun u hu he => h u hu ((hrel u v).2 (.inl he)), ?_⟩
    rintro rfl
    rcases Nat.lt_or_ge fA fB with hlt | hge
    · rw [show Nat.max fA fB = fB from Nat.max_eq_right (by omega)] at h
      exact h fA hlt ((hrel fA fB).2 (.inr ⟨.inl a2, .inr b2⟩))
    · rw [show Nat.max fA fB = fA from Nat.max_eq_left hge] at h
      exact h fB (by omega) ((hrel fB fA).2 (.inr ⟨.inr b2, .inl a2⟩))
  · rintro ⟨h, hM⟩ u hu he
    rcases (hrel u v).1 he with h' | ⟨h1, h2⟩
    · exact h u hu h'
    · have huA : fA ≤ u ∨ fB ≤ u := by
        rcases h1 with h1 | h1
        · left
          refine Classical.byContradiction fun hc => a3 u (by omega) h1
        · right
          refine Classical.byContradiction fun hc => b3 u (by omega) h1
      have hvv : v = fA ∨ v = fB := by
        rcases h2 with h2 | h2
        · left
          rcases Nat.lt_trichotomy v fA with hlt | he' | hgt
          · exact absurd h2 (a3 v hlt)
          · exact he'
          · exact absurd (a2.trans h2.symm) (h fA hgt)
        · right
          rcases Nat.lt_trichotomy v fB with hlt | he' | hgt
          · exact absurd h2 (b3 v hlt)
          · exact he'
          · exact absurd (b2.trans h2.symm) (h fB hgt)
      have hu2 : ∀ x, (l x = l a ∨ l x = l b) → fA ≤ x ∨ fB ≤ x := fun x hx => by
        rcases hx with hx | hx
        · left; exact Classical.byContradiction fun hc => a3 x (by omega) hx
        · right; exact Classical.byContradiction fun hc => b3 x (by omega) hx
      rcases hvv with rfl | rfl
      · have : v < fB := by rcases hmx with h3 | h3 <;> omega
        rcases huA with h3 | h3 <;> omega
      · have : v < fA := by rcases hmx with h3 | h3 <;> omega
        rcases huA with h3 | h3 <;> omega
/-- Labels behind some edges, one after the other. -/
def lab (eu ev : Nat → Nat) (l : Nat → Nat) (es : List Nat) : Nat → Nat := es.foldl (fun l e => join1 l (eu e) (ev e)) l
variable {V : Nat} {eu ev : Nat → Nat}
theorem join1_same (l : Nat → Nat) (a b u v : Nat) (h : l u = l v) : join1 l a b u = join1 l a b v := by
  unfold join1
  by_cases hc : l a = l b
  · rw [if_pos hc]; exact h
  · rw [if_neg hc]; unfold relab; rw [h]
theorem join1_joins (l : Nat → Nat) (a b : Nat) : join1 l a b a = join1 l a b b := by
  unfold join1
  by_cases hc : l a = l b
  · rw [if_pos hc]; exact hc
  · rw [if_neg hc]; unfold relab; rw [if_neg hc, if_pos rfl]
theorem join1_univ {l : Nat → Nat} {a b : Nat} {k : Nat → Nat} (h : ∀ u v, l u = l v → k u = k v) (hk : k a = k b) (u v : Nat) (hj : join1 l a b u = join1 l a b v) : k u = k v := by
  unfold join1 at hj
  by_cases hc : l a = l b
  · rw [if_pos hc] at hj; exact h u v hj
  · rw [if_neg hc] at hj
    unfold relab at hj
    by_cases hu : l u = l b
    · rw [if_pos hu] at hj
      by_cases hv : l v = l b
      · exact h u v (hu.trans hv.symm)
      · rw [if_neg hv] at hj
        rw [h u b hu, ← hk, h a v hj]
    · rw [if_neg hu] at hj
      by_cases hv : l v = l b
      · rw [if_pos hv] at hj
        rw [h u a hj, hk, h v b hv]
      · rw [if_neg hv] at hj; exact h u v hj
theorem lab_same (es : List Nat) : ∀ (l : Nat → Nat) (u v : Nat), l u = l v → lab eu ev l es u = lab eu ev l es v := by
  induction es with
  | nil => intro l u v h; exact h
  | cons e es ih => intro l u v h; exact ih _ u v (join1_same l _ _ u v h)
theorem lab_joins (es : List Nat) : ∀ (l : Nat → Nat) (e : Nat), e ∈ es → lab eu ev l es (eu e) = lab eu ev l es (ev e) := by
  induction es with
  | nil => intro l e h; simp at h
  | cons x es ih =>
    intro l e h
    rcases List.mem_cons.1 h with rfl | h
    · exact lab_same es _ _ _ (join1_joins l _ _)
    · exact ih _ e h
theorem lab_univ {k : Nat → Nat} (es : List Nat) : ∀ (l : Nat → Nat), (∀ u v, l u = l v → k u = k v) → (∀ e ∈ es, k (eu e) = k (ev e)) → ∀ u v, lab eu ev l es u = lab eu ev l es v → k u = k v := by
  induction es with
  | nil => intro l h _ u v he; exact h u v he
  | cons x es ih =>
    intro l h hk u v he
    exact ih _ (join1_univ h (hk x (List.mem_cons_self ..))) (fun e he' => hk e (List.mem_cons_of_mem _ he')) u v he
/-- Labels behind the edges of a set. -/
def labS (eu ev : Nat → Nat) (s : Nat) : Nat → Nat := lab eu ev (fun v => v) (els s)
theorem labS_joins {s e : Nat} (he : e < 8) (h : s.testBit e = true) : labS eu ev s (eu e) = labS eu ev s (ev e) := lab_joins _ _ e (mem_els.2 ⟨he, h⟩)
theorem labS_univ {k : Nat → Nat} {s : Nat} (hk : ∀ e, e < 8 → s.testBit e = true → k (eu e) = k (ev e)) {u v : Nat} (h : labS eu ev s u = labS eu ev s v) : k u = k v :=
  lab_univ _ _ (fun u v h => by rw [show u = v from h]) (fun e he => hk e (mem_els.1 he).1 (mem_els.1 he).2) u v h
/-- How many pieces. -/
def pcsN (V : Nat) (eu ev : Nat → Nat) (s : Nat) : Nat := cls V (labS eu ev s)
theorem cls_id (V : Nat) : cls V (fun v => v) = V := by
  unfold cls
  rw [List.filter_eq_self.2, List.length_range]
  intro v _
  rw [isRep_iff]
  intro u hu he
  omega
theorem pcs_zero : pcsN V eu ev 0 = V := by
  unfold pcsN labS
  rw [show els 0 = [] from by decide]
  exact cls_id V
theorem pcs_mono {s t : Nat} (h : subN s t) : pcsN V eu ev t ≤ pcsN V eu ev s :=
  cls_le fun u v _ _ he => labS_univ (fun e he8 hb => labS_joins he8 (subN_bit.1 h e hb)) he
theorem pcs_add {s e : Nat} (he : e < 8) (hu : eu e < V) (hv : ev e < V) : pcsN V eu ev (s ||| 2 ^ e) = cls V (join1 (labS eu ev s) (eu e) (ev e)) := by
  refine Nat.le_antisymm (cls_le fun u v _ _ h => ?_) (cls_le fun u v _ _ h => ?_)
  · exact join1_univ (l := labS eu ev s) (fun u v h => labS_univ (fun x hx hb => labS_joins hx (by rw [add_bit, hb]; rfl)) h) (labS_joins he (by rw [add_bit]; simp)) u v h
  · refine labS_univ (fun x hx hb => ?_) h
    rw [add_bit, Bool.or_eq_true] at hb
    rcases hb with hb | hb
    · exact join1_same _ _ _ _ _ (labS_joins hx hb)
    · rw [← of_decide_eq_true hb]; exact join1_joins _ _ _
theorem pcs_add_same {s e : Nat} (he : e < 8) (hu : eu e < V) (hv : ev e < V) (h : labS eu ev s (eu e) = labS eu ev s (ev e)) : pcsN V eu ev (s ||| 2 ^ e) = pcsN V eu ev s := by
  rw [pcs_add he hu hv]; unfold join1; rw [if_pos h]; rfl
theorem pcs_add_new {s e : Nat} (he : e < 8) (hu : eu e < V) (hv : ev e < V) (h : labS eu ev s (eu e) ≠ labS eu ev s (ev e)) : pcsN V eu ev (s ||| 2 ^ e) + 1 = pcsN V eu ev s := by
  rw [pcs_add he hu hv]; unfold join1; rw [if_neg h]; exact cls_merge hu hv h
theorem pcs_add_ge {s e : Nat} (he : e < 8) (hu : eu e < V) (hv : ev e < V) : pcsN V eu ev s ≤ pcsN V eu ev (s ||| 2 ^ e) + 1 := by
  by_cases h : labS eu ev s (eu e) = labS eu ev s (ev e)
  · rw [pcs_add_same he hu hv h]; omega
  · have := pcs_add_new he hu hv h; omega
/-- A graph's ends. -/
structure Ends (V m : Nat) (eu ev : Nat → Nat) : Prop where
  size : m ≤ 8
  u : ∀ e, e < m → eu e < V
  v : ∀ e, e < m → ev e < V
variable {m : Nat}
theorem del_add {s e : Nat} (h : s.testBit e = true) : dif s (2 ^ e) ||| 2 ^ e = s := by
  apply Nat.eq_of_testBit_eq
  intro i
  rw [add_bit, del_bit]
  by_cases hi : e = i
  · subst hi; rw [h]; simp
  · simp [hi]
theorem pcs_ge (hg : Ends V m eu ev) : ∀ (n s : Nat), s < 2 ^ m → pc s = n → V ≤ pcsN V eu ev s + pc s := by
  intro n
  induction n with
  | zero =>
    intro s hs hn
    have := (pc_zero_iff (Nat.lt_of_lt_of_le hs (pow_le_256 hg.size))).1 hn
    subst this
    rw [pcs_zero]; omega
  | succ n ih =>
    intro s hs hn
    obtain ⟨e, he, hb⟩ := exists_of_pc (a := s) (by omega)
    have hem := bit_lt hs hb
    have hd := pc_del he hb
    have hl : dif s (2 ^ e) < 2 ^ m := Nat.lt_of_le_of_lt (subN_le (subN_bit.2 fun i hi => by rw [del_bit, Bool.and_eq_true] at hi; exact hi.1)) hs
    have h1 := ih (dif s (2 ^ e)) hl (by omega)
    have h2 := pcs_add_ge (V := V) (s := dif s (2 ^ e)) he (hg.u e hem) (hg.v e hem)
    rw [del_add hb] at h2
    omega
/-- Edges that join, each of them. -/
def Forest (V m : Nat) (eu ev : Nat → Nat) (s : Nat) : Prop := s < 2 ^ m ∧ pcsN V eu ev s + pc s = V
theorem forest_del (hg : Ends V m eu ev) {t e : Nat} (he : e < 8) (hb : t.testBit e = true) (h : Forest V m eu ev t) : Forest V m eu ev (dif t (2 ^ e)) := by
  have hem := bit_lt h.1 hb
  have hl : dif t (2 ^ e) < 2 ^ m := Nat.lt_of_le_of_lt (subN_le (subN_bit.2 fun i hi => by rw [del_bit, Bool.and_eq_true] at hi; exact hi.1)) h.1
  refine ⟨hl, ?_⟩
  have h1 := pcs_ge hg _ _ hl rfl
  have h2 := pcs_add_ge (V := V) (s := dif t (2 ^ e)) he (hg.u e hem) (hg.v e hem)
  rw [del_add hb] at h2
  have hd := pc_del he hb
  have := h.2
  omega
theorem Ind.forest (hg : Ends V m eu ev) : Ind m (Forest V m eu ev) := by
  refine ⟨hg.size, fun s h => h.1, ⟨Nat.two_pow_pos _, by rw [pcs_zero, pc_zero]; omega⟩, ?_, ?_⟩
  · have key : ∀ n s t, Forest V m eu ev t → subN s t → pc (dif t s) = n → Forest V m eu ev s := by
      intro n
      induction n with
      | zero =>
        intro s t ht hst hn
        have h0 := (pc_zero_iff (Nat.lt_of_lt_of_le (Nat.lt_of_le_of_lt (subN_le (subN_bit.2 fun i hi => by rw [dif_bit, Bool.and_eq_true] at hi; exact hi.1)) ht.1) (pow_le_256 hg.size))).1 hn
        have : s = t := by
          apply Nat.eq_of_testBit_eq
          intro i
          have h1 := congrArg (fun z => Nat.testBit z i) h0
          have h2 := subN_bit.1 hst i
          simp only [dif_bit, Nat.zero_testBit] at h1
          cases hs : s.testBit i
          · rw [hs] at h1; simpa using h1.symm
          · exact (h2 hs).symm
        rw [this]; exact ht
      | succ n ih =>
        intro s t ht hst hn
        obtain ⟨e, he, hb⟩ := exists_of_pc (a := dif t s) (by omega)
        have hd := pc_del he hb
        rw [dif_bit, Bool.and_eq_true, Bool.not_eq_true'] at hb
        refine ih s (dif t (2 ^ e)) (forest_del hg he hb.1 ht) (subN_bit.2 fun i hi => ?_) ?_
        · rw [del_bit, subN_bit.1 hst i hi]
          have : ¬ e = i := by rintro rfl; rw [hb.2] at hi; cases hi
          simp [this]
        · have : dif (dif t (2 ^ e)) s = dif (dif t s) (2 ^ e) := by
            apply Nat.eq_of_testBit_eq
            intro i
            simp only [dif_bit]
            cases t.testBit i <;> cases s.testBit i <;> cases (2 ^ e).testBit i <;> rfl
          rw [this]; omega
    intro s t ht hst
    exact key _ s t ht hst rfl
  · intro a b ha hb hlt
    refine Classical.byContradiction fun hc => ?_
    have hall : ∀ e, e < 8 → b.testBit e = true → labS eu ev a (eu e) = labS eu ev a (ev e) := by
      intro e he hbe
      cases hae : a.testBit e
      · refine Classical.byContradiction fun hn => hc ⟨e, he, hbe, hae, ?_, ?_⟩
        · exact or_ltP ha.1 (pow_lt_of (bit_lt hb.1 hbe))
        · have hem := bit_lt hb.1 hbe
          have := pcs_add_new (V := V) he (hg.u e hem) (hg.v e hem) hn
          rw [pc_add he hae]
          have := ha.2
          omega
      · exact labS_joins he hae
    have : pcsN V eu ev a ≤ pcsN V eu ev b := cls_le fun u v _ _ h => labS_univ hall h
    have := ha.2
    have := hb.2
    omega
/-- The greatest forests have as many edges as pieces are lost. -/
theorem forest_max (hg : Ends V m eu ev) {r : Nat} (hex : ∃ b, Forest V m eu ev b ∧ pc b = r) (hmax : ∀ s, Forest V m eu ev s → pc s ≤ r) : pcsN V eu ev (fullN m) + r = V := by
  obtain ⟨b, hb, hr⟩ := hex
  have hfull : ∀ s, s < 2 ^ m → subN s (fullN m) := fun s hs => subN_bit.2 fun i hi => by
    rw [full_bit]; exact decide_eq_true (bit_lt hs hi)
  have h1 := pcs_mono (V := V) (eu := eu) (ev := ev) (hfull b hb.1)
  have h2 : pcsN V eu ev b ≤ pcsN V eu ev (fullN m) := by
    refine cls_le fun u v _ _ h => labS_univ (fun e he hbe => ?_) h
    rw [full_bit] at hbe
    have hem := of_decide_eq_true hbe
    cases hbb : b.testBit e
    · refine Classical.byContradiction fun hn => ?_
      have := pcs_add_new (V := V) he (hg.u e hem) (hg.v e hem) hn
      have hf : Forest V m eu ev (b ||| 2 ^ e) := ⟨or_ltP hb.1 (pow_lt_of hem), by rw [pc_add he hbb]; have := hb.2; omega⟩
      have := hmax _ hf
      rw [pc_add he hbb] at this
      omega
    · exact labS_joins he hbb
  have := hb.2
  omega

end Go.Proofs.Ytinoamehdhgpgaa.Q

namespace Go.Proofs.Ytinoamehdhgpgaa.Q
open Go Go.RowKit Go.Proofs.Ytinoamehdhgpgaa.A Go.Proofs.YtinoamehdhgpgaaW.PrintWords Go.Proofs.YtinoamehdhgpgaaW.PrintLast Go.Proofs.YtinoamehdhgpgaaW.PrintMore Go.Proofs.Ytinoamehdhgpgaa.Z
set_option linter.unusedVariables false
set_option linter.unusedSimpArgs false

def labV (n : Nat) (f : Nat → Nat) : List Int := (List.range n).map (fun e => (f e : Int))
theorem labV_len (n : Nat) (f : Nat → Nat) : (labV n f).length = n := by simp [labV]
theorem labV_rd (n : Nat) (f : Nat → Nat) (j : Nat) (hj : j < n) : rd (labV n f) (j : Int) = (f j : Int) := by
  rw [rd_getElem _ j (by rw [labV_len]; exact hj)]
  simp [labV]
theorem labV_set (n : Nat) (f : Nat → Nat) (j x : Nat) : (labV n f).set j (x : Int) = labV n (fun e => if e = j then x else f e) := by
  apply List.ext_getElem
  · simp [labV]
  · intro i h1 h2
    rw [List.getElem_set]
    by_cases h : j = i
    · subst h; simp [labV]
    · rw [if_neg h]
      simp [labV, Ne.symm h]
theorem labV_congr {n : Nat} {f g : Nat → Nat} (h : ∀ v, v < n → f v = g v) : labV n f = labV n g := by
  unfold labV
  apply List.map_congr_left
  intro e he
  rw [h e (List.mem_range.1 he)]
theorem labV_succ (n : Nat) (f : Nat → Nat) : labV (n + 1) f = labV n f ++ [(f n : Int)] := by simp [labV, List.range_succ]
theorem els_range {s m : Nat} (hm : m ≤ 8) (hs : s < 2 ^ m) : (List.range m).filter (fun e => s.testBit e) = els s := by
  obtain ⟨d, hd⟩ : ∃ d, 8 = m + d := ⟨8 - m, by omega⟩
  unfold els
  rw [hd, List.range_add, List.filter_append]
  have h2 : ((List.range d).map (fun x => m + x)).filter (fun e => s.testBit e) = [] := by
    rw [List.filter_eq_nil_iff]
    intro x hx
    obtain ⟨y, _, rfl⟩ := List.mem_map.1 hx
    rw [Nat.testBit_lt_two_pow (Nat.lt_of_lt_of_le hs (Nat.pow_le_pow_right (by decide) (by omega)))]
    decide
  rw [h2, List.append_nil]
def gE (F : List Nat) (e : Nat) : Nat := F.getD e 0
theorem gE_rd {F : List Nat} {i : Nat} (h : i < F.length) : rd (ints F) (i : Int) = (gE F i : Int) := by
  rw [ints_rd F i h]
  simp [gE, h]
theorem gE_lt {F : List Nat} {V i : Nat} (hF : ∀ x ∈ F, x < V) (h : i < F.length) : gE F i < V := by
  have := hF _ (List.getElem_mem h)
  simpa [gE, h] using this
theorem relab_lt {V : Nat} {l : Nat → Nat} (hl : ∀ v, v < V → l v < V) {a b : Nat} (ha : a < V) : ∀ v, v < V → relab l (l a) b v < V := by
  intro v hv
  unfold relab
  by_cases h : l v = b
  · rw [if_pos h]; exact hl a ha
  · rw [if_neg h]; exact hl v hv
theorem relab_step (V : Nat) (l : Nat → Nat) (A B j : Nat) : (if l j = B then (labV V (fun v => if v < j then relab l A B v else l v)).set j (A : Int) else labV V (fun v => if v < j then relab l A B v else l v)) = labV V (fun v => if v < j + 1 then relab l A B v else l v) := by
  by_cases h : l j = B
  · rw [if_pos h, labV_set]
    apply labV_congr
    intro v _
    by_cases hv : v = j
    · subst hv; rw [if_pos rfl, if_pos (by omega)]; unfold relab; rw [if_pos h]
    · rw [if_neg hv]
      by_cases hv' : v < j
      · rw [if_pos hv', if_pos (by omega)]
      · rw [if_neg hv', if_neg (by omega)]
  · rw [if_neg h]
    apply labV_congr
    intro v _
    by_cases hv : v = j
    · subst hv; rw [if_neg (by omega), if_pos (by omega)]; unfold relab; rw [if_neg h]
    · by_cases hv' : v < j
      · rw [if_pos hv', if_pos (by omega)]
      · rw [if_neg hv', if_neg (by omega)]
theorem relab_rd {V : Nat} {l : Nat → Nat} {A B j : Nat} (hj : j < V) : rd (labV V (fun v => if v < j then relab l A B v else l v)) (j : Int) = (l j : Int) := by
  rw [labV_rd V _ j hj, if_neg (Nat.lt_irrefl j)]
theorem relab_end (V : Nat) (l : Nat → Nat) (A B : Nat) : labV V (fun v => if v < V then relab l A B v else l v) = labV V (relab l A B) := labV_congr (fun v hv => by rw [if_pos hv])
theorem relab_begin (V : Nat) (l : Nat → Nat) (A B : Nat) : labV V (fun v => if v < 0 then relab l A B v else l v) = labV V l := labV_congr (fun v _ => by rw [if_neg (Nat.not_lt_zero v)])
theorem cls_pos {V : Nat} (l : Nat → Nat) : cls V l ≤ V := by
  unfold cls
  have := List.length_filter_le (isRep l) (List.range V)
  rwa [List.length_range] at this
theorem specPieces_ev {V : Nat} (hV : V ≤ 6) {F T : List Nat} (hm : F.length ≤ 8) (hFT : F.length = T.length) (hF : ∀ x ∈ F, x < V) (hT : ∀ x ∈ T, x < V) {s : Nat} (hs : s < 2 ^ F.length) : Ev (fun k => spec_l14Pieces.f k (V : Int) (ints F) (ints T) (s : Int)) (pcsN V (gE F) (gE T) s : Int) := by
  have hs256 : s < 256 := Nat.lt_of_lt_of_le hs (pow_le_256 hm)
  have h1 := down (P := fun i => ∀ l : Nat → Nat, (∀ v, v < V → l v < V) → Ev (fun k => spec_l14Pieces.l1 k (s : Int) (labV V l) (cls V l : Int) (i : Int) (V : Int) (ints F) (ints T)) (cls V (lab (gE F) (gE T) l ((List.range' i (F.length - i)).filter (fun e => s.testBit e))) : Int)) F.length
    (by
      intro l _
      apply Ev.step
      · intro k
        rw [spec_l14Pieces.l1, if_neg (by rw [ints_len]; omega)]
      · rw [Nat.sub_self]; exact Ev.now _)
    (by
      intro i hi ih l hl
      have ha := gE_lt hF hi
      have hb := gE_lt hT (show i < T.length by omega)
      have hc := cls_pos (V := V) l
      apply Ev.step
      · intro k
        rw [spec_l14Pieces.l1, if_pos (by rw [ints_len]; omega), if_pos (by omega), gE_rd hi, gE_rd (show i < T.length by omega), if_pos (by omega), if_pos (by rw [labV_len]; omega), if_pos (by rw [ints_len]; omega), if_pos (by omega), if_pos (by rw [labV_len]; omega), labV_rd V l _ ha, labV_rd V l _ hb, l2Has_eq (lt256_63 hs256) (by omega), Option.bind_some]
      · rw [range'_cons hi, List.filter_cons]
        have hskip : ∀ x : Bool, x = true → lab (gE F) (gE T) l (if s.testBit i = true then i :: (List.range' (i + 1) (F.length - (i + 1))).filter (fun e => s.testBit e) else (List.range' (i + 1) (F.length - (i + 1))).filter (fun e => s.testBit e)) = lab (gE F) (gE T) l ((List.range' (i + 1) (F.length - (i + 1))).filter (fun e => s.testBit e)) → Ev (fun k => spec_l14Pieces.j2 k (s : Int) (labV V l) (cls V l : Int) (i : Int) (l (gE F i) : Int) (l (gE T i) : Int) x (V : Int) (ints F) (ints T)) (cls V (lab (gE F) (gE T) l (if s.testBit i = true then i :: (List.range' (i + 1) (F.length - (i + 1))).filter (fun e => s.testBit e) else (List.range' (i + 1) (F.length - (i + 1))).filter (fun e => s.testBit e))) : Int) := by
          intro x hx he
          apply Ev.step
          · intro k
            rw [spec_l14Pieces.j2, w_succ hi (by omega)]
          · rw [he]
            exact Ev.ifp hx (ih l hl)
        by_cases hb' : s.testBit i = true
        rotate_left
        · refine Ev.ifn hb' (hskip true rfl ?_)
          rw [if_neg hb']
        refine Ev.ifp hb' ?_
        by_cases he : l (gE F i) = l (gE T i)
        · refine hskip _ (by rw [he]; simp) ?_
          rw [if_pos hb']
          show lab _ _ (join1 l (gE F i) (gE T i)) _ = _
          unfold join1
          rw [if_pos he]
        · have hx : ((l (gE F i) : Int) == (l (gE T i) : Int)) = false := by
            rw [beq_eq_false_iff_ne]; omega
          rw [hx, if_pos hb']
          have hmg := cls_merge ha hb he
          have h2 := down (P := fun j => Ev (fun k => spec_l14Pieces.l2 k (s : Int) (labV V (fun v => if v < j then relab l (l (gE F i)) (l (gE T i)) v else l v)) (cls V l : Int) (i : Int) (l (gE F i) : Int) (l (gE T i) : Int) (j : Int) (V : Int) (ints F) (ints T)) (cls V (lab (gE F) (gE T) l (i :: (List.range' (i + 1) (F.length - (i + 1))).filter (fun e => s.testBit e))) : Int)) V
            (by
              apply Ev.step
              · intro k
                rw [spec_l14Pieces.l2, if_neg (by omega), w_succ hi (by omega), wrap64_of (by omega) (by omega), relab_end]
              · have := ih (relab l (l (gE F i)) (l (gE T i))) (relab_lt hl ha)
                rw [show ((cls V (relab l (l (gE F i)) (l (gE T i))) : Nat) : Int) = (cls V l : Int) - 1 from by omega] at this
                have e : lab (gE F) (gE T) l (i :: (List.range' (i + 1) (F.length - (i + 1))).filter (fun e => s.testBit e)) = lab (gE F) (gE T) (relab l (l (gE F i)) (l (gE T i))) ((List.range' (i + 1) (F.length - (i + 1))).filter (fun e => s.testBit e)) := by
                  show lab _ _ (join1 l (gE F i) (gE T i)) _ = _
                  unfold join1
                  rw [if_neg he]
                rw [e]; exact this)
            (by
              intro j hj ihj
              rw [← relab_step] at ihj
              apply Ev.step
              · intro k
                rw [spec_l14Pieces.l2, if_pos (by omega), if_pos (by omega), if_pos (by rw [labV_len]; omega), relab_rd hj, Int.toNat_natCast, w_succ hj (by omega)]
              · by_cases hq : l j = l (gE T i)
                · rw [if_pos hq] at ihj; exact Ev.ifp (by omega) ihj
                · rw [if_neg hq] at ihj; exact Ev.ifn (by omega) ihj)
          rw [relab_begin] at h2
          apply Ev.step
          · intro k
            rw [spec_l14Pieces.j2]
          · exact Ev.ifn (by decide) h2)
  have h0 := down (P := fun j => Ev (fun k => spec_l14Pieces.l0 k (s : Int) (labV j (fun v => v)) (j : Int) (V : Int) (ints F) (ints T)) (pcsN V (gE F) (gE T) s : Int)) V
    (by
      have := h1 (fun v => v) (fun v hv => hv)
      rw [cls_id, Nat.sub_zero, ← List.range_eq_range', els_range hm hs] at this
      apply Ev.step
      · intro k
        rw [spec_l14Pieces.l0, if_neg (by omega)]
      · exact this)
    (by
      intro j hj ih
      apply Ev.step
      · intro k
        rw [spec_l14Pieces.l0, if_pos (by omega), if_pos (by rw [labV_len]; omega), w_succ hj (by omega)]
      · rw [labV_succ] at ih; exact ih)
  exact h0
theorem implPieces_ev {V : Nat} (hV : V ≤ 6) {F T : List Nat} (hm : F.length ≤ 8) (hFT : F.length = T.length) (hF : ∀ x ∈ F, x < V) (hT : ∀ x ∈ T, x < V) {s : Nat} (hs : s < 2 ^ F.length) : Ev (fun k => impl_pieces.f k (V : Int) (ints F) (ints T) (s : Int)) (pcsN V (gE F) (gE T) s : Int) := by
  have hs256 : s < 256 := Nat.lt_of_lt_of_le hs (pow_le_256 hm)
  have hel : ∀ e ∈ els s, e < F.length := fun e he => by
    rw [← els_range hm hs] at he
    exact List.mem_range.1 (List.mem_filter.1 he).1
  have hlen : (els s).length ≤ 8 := by
    have h := elsB_len (s : Int)
    rw [elsB_nat hs256, List.length_map] at h
    exact h
  have h1 := down (P := fun i => ∀ l : Nat → Nat, (∀ v, v < V → l v < V) → Ev (fun k => impl_pieces.l1 k (labV V l) (cls V l : Int) (ints (els s)) ((ints (els s)).length : Int) (i : Int) (V : Int) (ints F) (ints T)) (cls V (lab (gE F) (gE T) l ((els s).drop i)) : Int)) (els s).length
    (by
      intro l _
      apply Ev.step
      · intro k
        rw [impl_pieces.l1, if_neg (by rw [ints_len]; omega)]
      · rw [drop_end]; exact Ev.now _)
    (by
      intro i hi ih l hl
      have hei := hel _ (List.getElem_mem hi)
      have hri : rd (ints (els s)) (i : Int) = ((els s)[i] : Int) := ints_rd (els s) i hi
      have hdc : (els s).drop i = (els s)[i] :: (els s).drop (i + 1) := drop_cons (els s) i hi
      rw [hdc]
      generalize (els s)[i] = e at hei hri
      have ha := gE_lt hF hei
      have hb := gE_lt hT (show e < T.length by omega)
      have hc := cls_pos (V := V) l
      apply Ev.step
      · intro k
        rw [impl_pieces.l1, if_pos (by rw [ints_len]; omega), if_pos (by omega), if_pos (by rw [ints_len]; omega), hri, if_pos (by omega), if_pos (by rw [ints_len]; omega), gE_rd hei, gE_rd (show e < T.length by omega), if_pos (by omega), if_pos (by rw [labV_len]; omega), if_pos (by rw [ints_len]; omega), if_pos (by omega), if_pos (by rw [labV_len]; omega), labV_rd V l _ ha, labV_rd V l _ hb, w_succ hi (by omega)]
      · by_cases he : l (gE F e) = l (gE T e)
        · refine Ev.ifp (by omega) ?_
          have e1 : lab (gE F) (gE T) l (e :: (els s).drop (i + 1)) = lab (gE F) (gE T) l ((els s).drop (i + 1)) := by
            show lab _ _ (join1 l (gE F e) (gE T e)) _ = _
            unfold join1
            rw [if_pos he]
          rw [e1]; exact ih l hl
        · refine Ev.ifn (by omega) ?_
          have hmg := cls_merge ha hb he
          have e1 : lab (gE F) (gE T) l (e :: (els s).drop (i + 1)) = lab (gE F) (gE T) (relab l (l (gE F e)) (l (gE T e))) ((els s).drop (i + 1)) := by
            show lab _ _ (join1 l (gE F e) (gE T e)) _ = _
            unfold join1
            rw [if_neg he]
          rw [e1, wrap64_of (n := (cls V l : Int) - 1) (by omega) (by omega)]
          have h2 := down (P := fun j => Ev (fun k => impl_pieces.l2 k (labV V (fun v => if v < j then relab l (l (gE F e)) (l (gE T e)) v else l v)) ((cls V l : Int) - 1) (l (gE F e) : Int) (l (gE T e) : Int) (ints (els s)) ((ints (els s)).length : Int) (i : Int) (V : Int) (j : Int) (V : Int) (ints F) (ints T)) (cls V (lab (gE F) (gE T) (relab l (l (gE F e)) (l (gE T e))) ((els s).drop (i + 1))) : Int)) V
            (by
              apply Ev.step
              · intro k
                rw [impl_pieces.l2, if_neg (by omega), w_succ hi (by omega), relab_end]
              · have := ih (relab l (l (gE F e)) (l (gE T e))) (relab_lt hl ha)
                rw [show ((cls V (relab l (l (gE F e)) (l (gE T e))) : Nat) : Int) = (cls V l : Int) - 1 from by omega] at this
                exact this)
            (by
              intro j hj ihj
              rw [← relab_step] at ihj
              apply Ev.step
              · intro k
                rw [impl_pieces.l2, if_pos (by omega), if_pos (by omega), if_pos (by rw [labV_len]; omega), relab_rd hj, Int.toNat_natCast, w_succ hj (by omega)]
              · by_cases hq : l j = l (gE T e)
                · rw [if_pos hq] at ihj; exact Ev.ifp (by omega) ihj
                · rw [if_neg hq] at ihj; exact Ev.ifn (by omega) ihj)
          rw [relab_begin] at h2
          rw [labV_len]
          exact h2)
  have h0 := down (P := fun j => Ev (fun k => impl_pieces.l0 k (s : Int) (labV V (fun v => if v < j then v else 0)) (V : Int) (j : Int) (V : Int) (ints F) (ints T)) (pcsN V (gE F) (gE T) s : Int)) V
    (by
      have := h1 (fun v => v) (fun v hv => hv)
      rw [cls_id, List.drop_zero] at this
      apply Ev.step
      · intro k
        rw [impl_pieces.l0, if_neg (by omega), labV_congr (g := fun v => v) (fun v hv => by rw [if_pos hv])]
      · refine Ev.bind (implElements_ev (s : Int)) ?_
        rw [elsB_nat hs256]
        exact this)
    (by
      intro j hj ih
      apply Ev.step
      · intro k
        rw [impl_pieces.l0, if_pos (by omega), if_pos (by omega), if_pos (by rw [labV_len]; omega), w_succ hj (by omega), Int.toNat_natCast, labV_set, labV_congr (g := fun v => if v < j + 1 then v else 0) (fun v _ => by
          by_cases h : v = j
          · subst h; rw [if_pos rfl, if_pos (by omega)]
          · rw [if_neg h]
            by_cases h' : v < j
            · rw [if_pos h', if_pos (by omega)]
            · rw [if_neg h', if_neg (by omega)])]
      · exact ih)
  unfold impl_pieces.f
  refine Ev.ifp (by omega) (Ev.ifp (by omega) ?_)
  have e0 : List.replicate ((V : Int)).toNat (0 : Int) = labV V (fun v => if v < 0 then v else 0) := by
    rw [Int.toNat_natCast, labV_congr (g := fun _ => 0) (fun v _ => by rw [if_neg (Nat.not_lt_zero v)])]
    unfold labV
    rw [List.map_const', List.length_range]
    rfl
  simp only [Option.bind_some]
  rw [e0, labV_len]
  exact h0

end Go.Proofs.Ytinoamehdhgpgaa.Q

namespace Go.Proofs.Ytinoamehdhgpgaa.Q
open Go Go.RowKit Go.Proofs.Ytinoamehdhgpgaa.A Go.Proofs.YtinoamehdhgpgaaW.PrintWords Go.Proofs.YtinoamehdhgpgaaW.PrintLast Go.Proofs.YtinoamehdhgpgaaW.PrintMore Go.Proofs.Ytinoamehdhgpgaa.Z
set_option linter.unusedVariables false
set_option linter.unusedSimpArgs false

def endB (V : Int) (x : Int) : Bool := decide (0 ≤ x) && decide (x ≤ V - 1)
def grB (V : Int) (F T : List Int) : Bool := (decide (0 ≤ V) && decide (V ≤ 6)) && (decide (F.length ≤ 8) && (decide (F.length = T.length) && (F.all (endB V) && T.all (endB V))))
theorem all_both {V x y : Int} (P Q : Bool) : ((endB V x && P) && (endB V y && Q)) = (endB V x && (endB V y && (P && Q))) := by
  cases endB V x <;> cases endB V y <;> cases P <;> cases Q <;> rfl
theorem specGraph_ev (V : Int) (F T : List Int) (hl : F.length ≤ 17592186044416) : Ev (fun k => spec_IsGraph.f k V F T) (grB V F T) := by
  have hno : ∀ x : Bool, x = true → Ev (fun k => spec_IsGraph.j0 k x V F T) false := by
    intro x hx
    apply Ev.step
    · intro k
      rw [spec_IsGraph.j0]
    · exact Ev.ifp hx (Ev.now _)
  unfold spec_IsGraph.f grB
  simp only [l1In_eq, Option.bind_some]
  by_cases h0 : (decide (0 ≤ V) && decide (V ≤ 6)) = true
  rotate_left
  · rw [Bool.eq_false_iff.2 h0, Bool.false_and]
    exact Ev.ifn (by decide) (hno _ rfl)
  rw [h0, Bool.true_and]
  simp only [Bool.and_eq_true, decide_eq_true_eq] at h0
  refine Ev.ifp rfl ?_
  by_cases h8 : (F.length : Int) > 8
  · rw [decide_eq_false (by omega : ¬ F.length ≤ 8), Bool.false_and]
    exact Ev.ifp h8 (hno _ rfl)
  rw [decide_eq_true (by omega : F.length ≤ 8), Bool.true_and]
  refine Ev.ifn h8 ?_
  by_cases he : F.length = T.length
  rotate_left
  · rw [decide_eq_false he, Bool.false_and]
    exact hno _ (by rw [bne_iff_ne]; omega)
  rw [decide_eq_true he, Bool.true_and]
  have hw : wrap64 (V - 1) = V - 1 := wrap64_of (by omega) (by omega)
  have hd := down (P := fun i => Ev (fun k => spec_IsGraph.l0 k (i : Int) V F T) ((F.drop i).all (endB V) && (T.drop i).all (endB V))) F.length
    (by
      apply Ev.step
      · intro k
        rw [spec_IsGraph.l0, if_neg (by omega)]
      · rw [drop_end, he, drop_end]; exact Ev.now _)
    (by
      intro i hi ih
      have hi' : i < T.length := by omega
      apply Ev.step
      · intro k
        rw [spec_IsGraph.l0, if_pos (by omega), if_pos (by omega), rd_getElem F i hi, if_pos (by omega), rd_getElem T i hi', hw, l1In_eq, l1In_eq, Option.bind_some, Option.bind_some, w_succ hi hl]
      · rw [drop_cons F i hi, drop_cons T i hi', List.all_cons, List.all_cons, all_both]
        by_cases hx : endB V F[i] = true
        · refine Ev.ifp hx ?_
          rw [hx, Bool.true_and]
          by_cases hy : endB V T[i] = true
          · refine Ev.ifp hy ?_
            rw [hy, Bool.true_and]; exact ih
          · refine Ev.ifn hy ?_
            rw [Bool.eq_false_iff.2 hy, Bool.false_and]; exact Ev.now _
        · refine Ev.ifn hx ?_
          rw [Bool.eq_false_iff.2 hx, Bool.false_and]; exact Ev.now _)
  apply Ev.step
  · intro k
    rw [spec_IsGraph.j0]
  · exact Ev.ifn (by rw [bne_iff_ne]; omega) hd
theorem implGraph_ev (V : Int) (F T : List Int) (hl : F.length ≤ 17592186044416) : Ev (fun k => impl_IsGraph.f k V F T) (grB V F T) := by
  have hno : ∀ x : Bool, x = true → Ev (fun k => impl_IsGraph.j0 k x V F T) false := by
    intro x hx
    apply Ev.step
    · intro k
      rw [impl_IsGraph.j0]
    · exact Ev.ifp hx (Ev.now _)
  unfold impl_IsGraph.f grB
  by_cases h0 : V < 0
  · rw [decide_eq_false (by omega : ¬ 0 ≤ V), Bool.false_and, Bool.false_and]
    exact Ev.ifp h0 (hno _ rfl)
  refine Ev.ifn h0 ?_
  rw [decide_eq_true (by omega : 0 ≤ V), Bool.true_and]
  by_cases h6 : V > 6
  · rw [decide_eq_false (by omega : ¬ V ≤ 6), Bool.false_and]
    exact Ev.ifp h6 (hno _ rfl)
  refine Ev.ifn h6 ?_
  rw [decide_eq_true (by omega : V ≤ 6), Bool.true_and]
  by_cases h8 : (F.length : Int) > 8
  · rw [decide_eq_false (by omega : ¬ F.length ≤ 8), Bool.false_and]
    exact Ev.ifp h8 (hno _ rfl)
  rw [decide_eq_true (by omega : F.length ≤ 8), Bool.true_and]
  refine Ev.ifn h8 ?_
  by_cases he : F.length = T.length
  rotate_left
  · rw [decide_eq_false he, Bool.false_and]
    exact hno _ (by rw [bne_iff_ne]; omega)
  rw [decide_eq_true he, Bool.true_and]
  have hd := down (P := fun i => Ev (fun k => impl_IsGraph.l0 k (F.length : Int) (i : Int) V F T) ((F.drop i).all (endB V) && (T.drop i).all (endB V))) F.length
    (by
      apply Ev.step
      · intro k
        rw [impl_IsGraph.l0, if_neg (by omega)]
      · rw [drop_end, he, drop_end]; exact Ev.now _)
    (by
      intro i hi ih
      have hi' : i < T.length := by omega
      apply Ev.step
      · intro k
        rw [impl_IsGraph.l0, if_pos (by omega), if_pos (by omega), if_pos (by omega), rd_getElem F i hi, rd_getElem T i hi', w_succ hi hl]
      · rw [drop_cons F i hi, drop_cons T i hi', List.all_cons, List.all_cons, all_both]
        have hx' : endB V F[i] = true ↔ 0 ≤ F[i] ∧ F[i] ≤ V - 1 := by simp [endB]
        have hy' : endB V T[i] = true ↔ 0 ≤ T[i] ∧ T[i] ≤ V - 1 := by simp [endB]
        by_cases hx : endB V F[i] = true
        · have hx2 := hx'.1 hx
          refine Ev.ifn (by omega) (Ev.ifn (by omega) (Ev.ifp (by omega) ?_))
          rw [hx, Bool.true_and]
          by_cases hy : endB V T[i] = true
          · have hy2 := hy'.1 hy
            refine Ev.ifn (by omega) (Ev.ifn (by omega) ?_)
            rw [hy, Bool.true_and]; exact ih
          · rw [Bool.eq_false_iff.2 hy, Bool.false_and]
            by_cases hz : T[i] < 0
            · exact Ev.ifp hz (Ev.now _)
            · refine Ev.ifn hz (Ev.ifp ?_ (Ev.now _))
              have : ¬ (0 ≤ T[i] ∧ T[i] ≤ V - 1) := fun h => hy (hy'.2 h)
              omega
        · rw [Bool.eq_false_iff.2 hx, Bool.false_and]
          by_cases hz : F[i] < 0
          · exact Ev.ifp hz (Ev.now _)
          · refine Ev.ifn hz (Ev.ifp ?_ (Ev.now _))
            have : ¬ (0 ≤ F[i] ∧ F[i] ≤ V - 1) := fun h => hx (hx'.2 h)
            omega)
  apply Ev.step
  · intro k
    rw [impl_IsGraph.j0]
  · exact Ev.ifn (by rw [bne_iff_ne]; omega) hd
theorem grB_nat {V : Int} {F T : List Int} (h : grB V F T = true) : ∃ (v : Nat) (A B : List Nat), V = v ∧ v ≤ 6 ∧ F = ints A ∧ T = ints B ∧ A.length ≤ 8 ∧ A.length = B.length ∧ (∀ x ∈ A, x < v) ∧ ∀ x ∈ B, x < v := by
  unfold grB at h
  simp only [Bool.and_eq_true, decide_eq_true_eq, List.all_eq_true] at h
  obtain ⟨⟨h1, h2⟩, h3, h4, h5, h6⟩ := h
  have hn : ∀ (L : List Int), (∀ x ∈ L, endB V x = true) → ∃ A : List Nat, L = ints A ∧ ∀ x ∈ A, x < V.toNat := by
    intro L hL
    refine ⟨L.map Int.toNat, ?_, fun x hx => ?_⟩
    · unfold ints
      rw [List.map_map]
      conv => lhs; rw [← List.map_id L]
      apply List.map_congr_left
      intro a ha
      have := hL a ha
      simp only [endB, Bool.and_eq_true, decide_eq_true_eq] at this
      simp only [id, Function.comp]
      omega
    · obtain ⟨a, ha, rfl⟩ := List.mem_map.1 hx
      have := hL a ha
      simp only [endB, Bool.and_eq_true, decide_eq_true_eq] at this
      omega
  obtain ⟨A, rfl, hA⟩ := hn F h5
  obtain ⟨B, rfl, hB⟩ := hn T h6
  rw [ints_len] at h3 h4
  rw [ints_len] at h4
  exact ⟨V.toNat, A, B, by omega, by omega, rfl, rfl, h3, h4, hA, hB⟩

end Go.Proofs.Ytinoamehdhgpgaa.Q

namespace Go.Proofs.Ytinoamehdhgpgaa.Q
open Go Go.RowKit Go.Proofs.YtinoamehdhgpgaaW.PrintWords Go.Proofs.YtinoamehdhgpgaaW.PrintLast Go.Proofs.YtinoamehdhgpgaaW.PrintMore Go.Proofs.Ytinoamehdhgpgaa.Z
set_option linter.unusedVariables false
set_option linter.unusedSimpArgs false

theorem ints_mem {L : List Nat} {x : Nat} : (ints L).contains (x : Int) = true ↔ x ∈ L := by
  rw [List.contains_iff_mem]
  unfold ints
  rw [List.mem_map]
  constructor
  · rintro ⟨y, hy, he⟩
    have : y = x := by omega
    subst this; exact hy
  · intro h; exact ⟨x, h, rfl⟩
/-- And every matroid, listed in order, is told. -/
theorem mat_matB {m : Nat} {L : List Nat} (h : Mat m L) (hp : L.Pairwise (· < ·)) : matB (m : Int) (ints L) = true := by
  have hfam : ∀ (L : List Nat) (p : Option Int), (∀ b ∈ L, b < 2 ^ m) → L.Pairwise (· < ·) → (∀ q, p = some q → ∀ b ∈ L, q < (b : Int)) → famG (m : Int) p (ints L) = true := by
    intro L
    induction L with
    | nil =>
      intro p _ _ _
      have := h.size
      simp only [ints, List.map_nil, famG, Bool.and_eq_true, decide_eq_true_eq]
      omega
    | cons x L ih =>
      intro p hs hp hq
      have hx := hs x (List.mem_cons_self ..)
      rw [List.pairwise_cons] at hp
      simp only [ints, List.map_cons, famG, Bool.and_eq_true]
      refine ⟨?_, ?_, ih (some (x : Int)) (fun b hb => hs b (List.mem_cons_of_mem _ hb)) hp.2 (fun q hq b hb => ?_)⟩
      · rw [isSetB_nat]
        simp [h.size, hx]
      · cases p with
        | none => rfl
        | some q => simpa using hq q rfl x (List.mem_cons_self ..)
      · have := hp.1 b hb
        injection hq with hq
        omega
  have h1 : famB (m : Int) (ints L) = true := hfam L none h.sets hp (fun q hq => by cases hq)
  simp only [matB, Bool.and_eq_true]
  refine ⟨h1, ?_, ?_⟩
  · have : 0 < L.length := List.length_pos_iff.2 h.some
    rw [ints_len]
    exact decide_eq_true (by omega)
  · unfold failT
    rw [if_pos h1, show (ints L).map Int.toNat = L from toNat_map L]
    have hE : ∀ a ∈ L, ∀ b ∈ L, ∀ es : List Nat, (∀ e ∈ es, e ∈ els (dif a b)) → failE (ints L) a b es = none := by
      intro a ha b hb es
      induction es with
      | nil => intro _; rfl
      | cons e es ih =>
        intro hes
        simp only [failE]
        have he := mem_els.1 (hes e (List.mem_cons_self ..))
        rw [dif_bit] at he
        simp only [Bool.and_eq_true, Bool.not_eq_true'] at he
        obtain ⟨f, hf, h1, h2, h3⟩ := h.exch a ha b hb e he.1 he.2.1 he.2.2
        have : hasEx (ints L) a b e = true := by
          unfold hasEx
          rw [List.any_eq_true]
          exact ⟨f, mem_els.2 ⟨hf, by rw [dif_bit, h1, h2]; rfl⟩, ints_mem.2 h3⟩
        rw [if_pos this]
        exact ih (fun e' he' => hes e' (List.mem_cons_of_mem _ he'))
    have hB : ∀ a ∈ L, ∀ bs : List Nat, (∀ b ∈ bs, b ∈ L) → failB (ints L) a bs = none := by
      intro a ha bs
      induction bs with
      | nil => intro _; rfl
      | cons b bs ih =>
        intro hbs
        simp only [failB]
        rw [hE a ha b (hbs b (List.mem_cons_self ..)) _ (fun e he => he)]
        exact ih (fun b' hb' => hbs b' (List.mem_cons_of_mem _ hb'))
    have hA : ∀ la : List Nat, (∀ a ∈ la, a ∈ L) → failA (ints L) L la = none := by
      intro la
      induction la with
      | nil => intro _; rfl
      | cons a la ih =>
        intro hla
        simp only [failA]
        rw [hB a (hla a (List.mem_cons_self ..)) L (fun b hb => hb)]
        exact ih (fun a' ha' => hla a' (List.mem_cons_of_mem _ ha'))
    rw [hA L (fun a ha => ha)]
    rfl

end Go.Proofs.Ytinoamehdhgpgaa.Q

namespace Go.Proofs.Ytinoamehdhgpgaa.Q
open Go Go.RowKit Go.Proofs.Ytinoamehdhgpgaa.A Go.Proofs.YtinoamehdhgpgaaW.PrintWords Go.Proofs.YtinoamehdhgpgaaW.PrintLast Go.Proofs.YtinoamehdhgpgaaW.PrintMore Go.Proofs.Ytinoamehdhgpgaa.Z
set_option linter.unusedVariables false
set_option linter.unusedSimpArgs false

/-- Two lists in order with the same members are one. -/
theorem pair_unique : ∀ {X Y : List Int}, X.Pairwise (· < ·) → Y.Pairwise (· < ·) → (∀ a, a ∈ X ↔ a ∈ Y) → X = Y := by
  intro X
  induction X with
  | nil =>
    intro Y _ _ h
    cases Y with
    | nil => rfl
    | cons y Y => exact absurd ((h y).2 (List.mem_cons_self ..)) (by simp)
  | cons x X ih =>
    intro Y hX hY h
    cases Y with
    | nil => exact absurd ((h x).1 (List.mem_cons_self ..)) (by simp)
    | cons y Y =>
      rw [List.pairwise_cons] at hX hY
      have hxy : x = y := by
        rcases List.mem_cons.1 ((h x).1 (List.mem_cons_self ..)) with e | hx
        · exact e
        · rcases List.mem_cons.1 ((h y).2 (List.mem_cons_self ..)) with e | hy
          · exact e.symm
          · have h1 := hX.1 y hy
            have h2 := hY.1 x hx
            omega
      subst hxy
      rw [ih hX.2 hY.2 (fun a => ?_)]
      constructor
      · intro ha
        rcases List.mem_cons.1 ((h a).1 (List.mem_cons_of_mem _ ha)) with e | h'
        · have := hX.1 a ha; omega
        · exact h'
      · intro ha
        rcases List.mem_cons.1 ((h a).2 (List.mem_cons_of_mem _ ha)) with e | h'
        · have := hY.1 a ha; omega
        · exact h'
end Go.Proofs.Ytinoamehdhgpgaa.Q

namespace Go.Proofs.Ytinoamehdhgpgaa.Q
open Go Go.RowKit Go.Proofs.Ytinoamehdhgpgaa.A Go.Proofs.YtinoamehdhgpgaaW.PrintWords Go.Proofs.YtinoamehdhgpgaaW.PrintLast Go.Proofs.YtinoamehdhgpgaaW.PrintMore Go.Proofs.Ytinoamehdhgpgaa.Z
set_option linter.unusedVariables false
set_option linter.unusedSimpArgs false

theorem pow_wrap {e : Nat} (he : e < 8) : IntKind.i64.wrap (2 ^ e) = ((2 ^ e : Nat) : Int) := by
  have h2 : (2 ^ e : Nat) < 9223372036854775808 := by
    have := Nat.pow_lt_pow_right (a := 2) (by decide) (show e < 63 by omega)
    simpa using this
  have h3 : (2 : Int) ^ e = ((2 ^ e : Nat) : Int) := by simp
  rw [h3]
  exact i64_wrap_nat h2
theorem implC_ev (l : List Int) (hl : l.length ≤ 17592186044416) (a e f : Nat) (ha : a < 256) (he : e < 8) (hf : f < 8) : Ev (fun k => impl_FirstFailure.c k l (a : Int) (e : Int) (f : Int)) (l.contains ((dif a (2 ^ e) ||| 2 ^ f : Nat) : Int)) := by
  unfold impl_FirstFailure.c impl_HasSet.f
  refine Ev.ifp (by omega) (Ev.ifp (by omega) ?_)
  have hp : ∀ x < 8, 2 ^ x < 2 ^ 63 := fun x hx => Nat.pow_lt_pow_right (by decide) (by omega)
  rw [Int.toNat_natCast, Int.toNat_natCast, pow_wrap he, pow_wrap hf, andNot_nat (lt256_63 ha) (hp e he), or_nat (lt256_63 (dif_lt ha)) (hp f hf)]
  exact Ev.bind (contains_ev l _ hl) (Ev.now _)
theorem els_lt {s e : Nat} (h : e ∈ els s) : e < 8 := (mem_els.1 h).1
theorem any_map (p : Int → Bool) (L : List Nat) : (L.map (fun x : Nat => (x : Int))).any p = L.any (fun x => p (x : Int)) := by
  rw [List.any_map]; rfl
theorem implFail_l2 (l : List Int) (hl : l.length ≤ 17592186044416) (a b : Nat) (ha : a < 256) (hb : b < 256) : ∀ es : List Nat, (∀ e ∈ es, e < 8) → Ev (fun k => impl_FirstFailure.l2 k l (a : Int) (b : Int) (es.map (fun x : Nat => (x : Int)))) ((failE l a b es).map (fun x : Nat => (x : Int))) := by
  intro es
  induction es with
  | nil => intro _; exact Ev.now _
  | cons e es ih =>
    intro hm
    have he := hm e (List.mem_cons_self ..)
    simp only [List.map_cons, impl_FirstFailure.l2]
    rw [andNot_nat (lt256_63 hb) (lt256_63 ha)]
    refine Ev.bind (implElements_ev _) ?_
    rw [elsB_nat (dif_lt hb)]
    refine Ev.bind (a := hasEx l a b e) ?_ ?_
    · have h := Ev_anyO (g := fun k f => impl_FirstFailure.c k l (a : Int) (e : Int) f) (p := fun f => l.contains ((dif a (2 ^ e) ||| 2 ^ f.toNat : Nat) : Int)) (l := (els (dif b a)).map (fun x : Nat => (x : Int)))
        (fun x hx => by
          obtain ⟨f, hf, rfl⟩ := List.mem_map.1 hx
          have := implC_ev l hl a e f ha he (els_lt hf)
          rw [Int.toNat_natCast]
          exact this)
      rw [any_map] at h
      simp only [Int.toNat_natCast] at h
      exact h
    · simp only [failE]
      by_cases hx : hasEx l a b e = true
      · refine Ev.ifp hx ?_
        rw [if_pos hx]
        exact ih (fun e' he' => hm e' (List.mem_cons_of_mem _ he'))
      · refine Ev.ifn hx ?_
        rw [if_neg hx]
        exact Ev.now _
theorem implFail_l1 (l : List Int) (hl : l.length ≤ 17592186044416) (a : Nat) (ha : a < 256) : ∀ bs : List Nat, (∀ b ∈ bs, b < 256) → Ev (fun k => impl_FirstFailure.l1 k l (a : Int) (bs.map (fun x : Nat => (x : Int)))) ((failB l a bs).map (fun x : Nat × Nat => ((x.1 : Int), (x.2 : Int)))) := by
  intro bs
  induction bs with
  | nil => intro _; exact Ev.now _
  | cons b bs ih =>
    intro hm
    have hb := hm b (List.mem_cons_self ..)
    simp only [List.map_cons, impl_FirstFailure.l1]
    rw [andNot_nat (lt256_63 ha) (lt256_63 hb)]
    refine Ev.bind (implElements_ev _) ?_
    rw [elsB_nat (dif_lt ha)]
    refine Ev.bind (implFail_l2 l hl a b ha hb _ (fun e he => els_lt he)) ?_
    simp only [failB]
    cases failE l a b (els (dif a b)) with
    | none => exact ih (fun b' hb' => hm b' (List.mem_cons_of_mem _ hb'))
    | some e => exact Ev.now _
theorem implFail_l0 (l : List Int) (L : List Nat) (hlL : l = L.map (fun x : Nat => (x : Int))) (hl : l.length ≤ 17592186044416) (hL : ∀ b ∈ L, b < 256) : ∀ la : List Nat, (∀ a ∈ la, a < 256) → Ev (fun k => impl_FirstFailure.l0 k l (la.map (fun x : Nat => (x : Int)))) ((failA l L la).map (fun x : Nat × Nat × Nat => ((x.1 : Int), (x.2.1 : Int), (x.2.2 : Int)))) := by
  intro la
  induction la with
  | nil => intro _; exact Ev.now _
  | cons a la ih =>
    intro hm
    have ha := hm a (List.mem_cons_self ..)
    simp only [List.map_cons, impl_FirstFailure.l0]
    refine Ev.bind (a := (failB l a L).map (fun x : Nat × Nat => ((x.1 : Int), (x.2 : Int)))) (by
      have := implFail_l1 l hl a ha L hL
      rw [← hlL] at this
      exact this) ?_
    simp only [failA]
    cases failB l a L with
    | none => exact ih (fun a' ha' => hm a' (List.mem_cons_of_mem _ ha'))
    | some x => exact Ev.now _
theorem implFail_ev (n : Int) (l : List Int) (hl : l.length ≤ 17592186044416) : Ev (fun k => impl_FirstFailure.f k n l) (failT n l) := by
  unfold impl_FirstFailure.f failT
  refine Ev.bind (implFam_ev n l hl) ?_
  by_cases hf : famB n l = true
  · refine Ev.ifp hf ?_
    rw [if_pos hf]
    obtain ⟨m, L, rfl, hm, hlL, hL, _⟩ := famB_nat hf
    have hmap : l.map Int.toNat = L := by rw [hlL, toNat_map]
    have h256 : ∀ b ∈ L, b < 256 := fun b hb => Nat.lt_of_lt_of_le (hL b hb) (pow_le_256 hm)
    have h := implFail_l0 l L hlL hl h256 L h256
    rw [← hlL] at h
    refine Ev.bind h ?_
    rw [hmap]
    cases failA l L L with
    | none => exact Ev.now _
    | some x => exact Ev.now _
  · refine Ev.ifn hf ?_
    rw [if_neg hf]
    exact Ev.now _

end Go.Proofs.Ytinoamehdhgpgaa.Q

namespace Go.Proofs.Ytinoamehdhgpgaa.Q
open Go Go.RowKit Go.Proofs.Ytinoamehdhgpgaa.A Go.Proofs.YtinoamehdhgpgaaW.PrintWords Go.Proofs.YtinoamehdhgpgaaW.PrintLast Go.Proofs.YtinoamehdhgpgaaW.PrintMore Go.Proofs.Ytinoamehdhgpgaa.Z
set_option linter.unusedVariables false
set_option linter.unusedSimpArgs false

theorem implMat_ev (n : Int) (l : List Int) (hl : l.length ≤ 17592186044416) : Ev (fun k => impl_IsMatroid.f k n l) (matB n l) := by
  unfold impl_IsMatroid.f matB
  refine Ev.bind (implFail_ev n l hl) (Ev.bind (implFam_ev n l hl) ?_)
  by_cases hf : famB n l = true
  · refine Ev.ifp hf ?_
    rw [hf, Bool.true_and]
    by_cases h0 : (l.length : Int) > 0
    · refine Ev.ifp h0 ?_
      rw [show decide ((l.length : Int) > 0) = true from by simpa using h0, Bool.true_and]
      exact Ev.now _
    · refine Ev.ifn h0 ?_
      rw [show decide ((l.length : Int) > 0) = false from by simpa using h0, Bool.false_and]
      exact Ev.now _
  · refine Ev.ifn hf ?_
    rw [Bool.eq_false_iff.2 hf, Bool.false_and]
    exact Ev.now _

end Go.Proofs.Ytinoamehdhgpgaa.Q

namespace Go.Proofs.Ytinoamehdhgpgaa.Q
open Go Go.RowKit Go.Proofs.Ytinoamehdhgpgaa.A Go.Proofs.YtinoamehdhgpgaaW.PrintWords Go.Proofs.YtinoamehdhgpgaaW.PrintLast Go.Proofs.YtinoamehdhgpgaaW.PrintMore Go.Proofs.Ytinoamehdhgpgaa.Z
set_option linter.unusedVariables false
set_option linter.unusedSimpArgs false

theorem subset_eq (t s : Int) : impl_IsSubset.f t s = some (isAnyB t && (isAnyB s && decide (subN t.toNat s.toNat))) := by
  unfold impl_IsSubset.f
  rw [isAny_eq, isAny_eq, Option.bind_some, Option.bind_some]
  by_cases h1 : isAnyB t = true
  · rw [if_pos h1, h1, Bool.true_and]
    by_cases h2 : isAnyB s = true
    · rw [if_pos h2, h2, Bool.true_and]
      obtain ⟨a, rfl, ha⟩ := isAnyB_lt h1
      obtain ⟨b, rfl, hb⟩ := isAnyB_lt h2
      rw [andNot_nat (lt256_63 ha) (lt256_63 hb), Int.toNat_natCast, Int.toNat_natCast]
      have e : (((dif a b : Nat) : Int) == 0) = decide (subN a b) := by
        rw [Bool.eq_iff_iff, beq_iff_eq, decide_eq_true_eq]
        have h := @dif_zero a b
        constructor
        · intro h0; exact h.1 (by omega)
        · intro h0; have := h.2 h0; omega
      rw [e]
    · rw [if_neg h2, Bool.eq_false_iff.2 h2, Bool.false_and]
  · rw [if_neg h1, Bool.eq_false_iff.2 h1, Bool.false_and]
end Go.Proofs.Ytinoamehdhgpgaa.Q

namespace Go.Proofs.Ytinoamehdhgpgaa.Q
open Go Go.RowKit Go.Proofs.Ytinoamehdhgpgaa.A Go.Proofs.YtinoamehdhgpgaaW.PrintWords Go.Proofs.YtinoamehdhgpgaaW.PrintLast Go.Proofs.YtinoamehdhgpgaaW.PrintMore Go.Proofs.Ytinoamehdhgpgaa.Z
set_option linter.unusedVariables false
set_option linter.unusedSimpArgs false

theorem ints_pair {L : List Nat} (h : L.Pairwise (· < ·)) : (ints L).Pairwise (· < ·) := by
  unfold ints
  rw [List.pairwise_map]
  exact h.imp (fun hab => by omega)
theorem sub_card {a b : Nat} (ha : a < 256) (hb : b < 256) (h : subN a b) (hc : pc b ≤ pc a) : a = b := by
  apply set_ext ha hb
  intro i hi
  cases hbi : b.testBit i
  · cases hai : a.testBit i
    · rfl
    · rw [subN_bit.1 h i hai] at hbi; cases hbi
  · cases hai : a.testBit i
    · have h1 : pc a ≤ pc (dif b (2 ^ i)) := pc_mono fun j _ hj => by
        rw [del_bit, subN_bit.1 h j hj]
        have : ¬ i = j := by rintro rfl; rw [hai] at hj; cases hj
        simp [this]
      have := pc_del hi hbi
      omega
    · rfl
end Go.Proofs.Ytinoamehdhgpgaa.Q

namespace Go.Proofs.Ytinoamehdhgpgaa.Q
open Go Go.RowKit Go.Proofs.YtinoamehdhgpgaaW.PrintWords Go.Proofs.YtinoamehdhgpgaaW.PrintLast Go.Proofs.YtinoamehdhgpgaaW.PrintMore Go.Proofs.Ytinoamehdhgpgaa.Z
set_option linter.unusedVariables false
set_option linter.unusedSimpArgs false

/-- The sets of a list that lie in no other one. -/
def topN (F : List Nat) : List Nat := F.filter (fun s => !F.any (fun t => decide (t ≠ s) && decide (subN s t)))
variable {m : Nat} {I : Nat → Prop} {p : Nat → Bool}
theorem top_ind (hI : Ind m I) (hp : ∀ s, p s = true ↔ I s) {r : Nat} (hex : ∃ b, I b ∧ pc b = r) (hmax : ∀ s, I s → pc s ≤ r) : topN ((List.range (2 ^ m)).filter p) = (List.range (2 ^ m)).filter (fun s => p s && decide (pc s = r)) := by
  unfold topN
  rw [List.filter_filter]
  apply List.filter_congr
  intro s hs
  rw [Bool.eq_iff_iff, Bool.and_eq_true, Bool.and_eq_true, Bool.not_eq_true', decide_eq_true_eq]
  constructor
  · rintro ⟨h1, h2⟩
    have hIs := (hp s).1 h2
    refine ⟨h2, ?_⟩
    refine Classical.byContradiction fun hne => ?_
    obtain ⟨b, hb, hr⟩ := hex
    have := hmax s hIs
    obtain ⟨e, he, k1, k2, k3⟩ := hI.aug s b hIs hb (by omega)
    rw [Bool.eq_false_iff] at h1
    apply h1
    rw [List.any_eq_true]
    refine ⟨s ||| 2 ^ e, List.mem_filter.2 ⟨List.mem_range.2 (hI.sets _ k3), (hp _).2 k3⟩, ?_⟩
    rw [Bool.and_eq_true, decide_eq_true_eq, decide_eq_true_eq]
    refine ⟨fun he' => ?_, subN_bit.2 fun i hi => by rw [add_bit, hi]; rfl⟩
    have := congrArg (fun x => Nat.testBit x e) he'
    simp only [add_bit, k2] at this
    simp at this
  · rintro ⟨h1, h2⟩
    refine ⟨?_, h1⟩
    rw [Bool.eq_false_iff]
    intro hany
    obtain ⟨t, ht, hc⟩ := List.any_eq_true.1 hany
    obtain ⟨ht1, ht2⟩ := List.mem_filter.1 ht
    rw [Bool.and_eq_true, decide_eq_true_eq, decide_eq_true_eq] at hc
    have hIt := (hp t).1 ht2
    have hIs := (hp s).1 h1
    have hle := hmax t hIt
    exact hc.1 (sub_card (hI.lt hIs) (hI.lt hIt) hc.2 (by omega)).symm
theorem base_mem (hI : Ind m I) (hp : ∀ s, p s = true ↔ I s) {r : Nat} (b : Nat) : b ∈ (List.range (2 ^ m)).filter (fun s => p s && decide (pc s = r)) ↔ I b ∧ pc b = r := by
  rw [List.mem_filter, List.mem_range, Bool.and_eq_true, decide_eq_true_eq, hp]
  exact ⟨fun h => h.2, fun h => ⟨hI.sets b h.1, h⟩⟩
theorem base_mat (hI : Ind m I) (hp : ∀ s, p s = true ↔ I s) {r : Nat} (hex : ∃ b, I b ∧ pc b = r) : Mat m ((List.range (2 ^ m)).filter (fun s => p s && decide (pc s = r))) := hI.mat (base_mem hI hp) hex
theorem base_matB (hI : Ind m I) (hp : ∀ s, p s = true ↔ I s) {r : Nat} (hex : ∃ b, I b ∧ pc b = r) : matB (m : Int) (ints ((List.range (2 ^ m)).filter (fun s => p s && decide (pc s = r)))) = true :=
  mat_matB (base_mat hI hp hex) (List.Pairwise.filter _ List.pairwise_lt_range)

end Go.Proofs.Ytinoamehdhgpgaa.Q

namespace Go.Proofs.Ytinoamehdhgpgaa.Q
open Go Go.RowKit Go.Proofs.Ytinoamehdhgpgaa.A Go.Proofs.YtinoamehdhgpgaaW.PrintWords Go.Proofs.YtinoamehdhgpgaaW.PrintLast Go.Proofs.YtinoamehdhgpgaaW.PrintMore Go.Proofs.Ytinoamehdhgpgaa.Z
set_option linter.unusedVariables false
set_option linter.unusedSimpArgs false

theorem areSets_ev (l : List Int) (hl : l.length ≤ 17592186044416) : Ev (fun k => impl_areSets.f k l) (l.all isAnyB) := by
  have h := down (P := fun i => Ev (fun k => impl_areSets.l0 k l (l.length : Int) (i : Int)) ((l.drop i).all isAnyB)) l.length
    (by
      apply Ev.step
      · intro k
        simp only [impl_areSets.l0, isAny_eq, Option.bind_some]
        rw [if_neg (by omega)]
      · rw [drop_end]; exact Ev.now _)
    (by
      intro i hi ih
      apply Ev.step
      · intro k
        simp only [impl_areSets.l0, isAny_eq, Option.bind_some]
        rw [if_pos (by omega), if_pos (by omega), if_pos (by omega), rd_getElem l i hi, w_succ hi hl]
      · rw [drop_cons l i hi, List.all_cons]
        by_cases hx : isAnyB l[i] = true
        · refine Ev.ifp hx ?_
          rw [hx, Bool.true_and]; exact ih
        · refine Ev.ifn hx ?_
          rw [Bool.eq_false_iff.2 hx, Bool.false_and]; exact Ev.now _)
  exact h
theorem sortC_ints {X : List Int} {D : List Nat} (hD : D.Pairwise (· < ·)) (h : ∀ a, a ∈ X ↔ a ∈ ints D) : sortC X = ints D :=
  pair_unique (sortC_spec X).1 (ints_pair hD) (fun a => ((sortC_spec X).2 a).trans (h a))
theorem implSort_eq {F : List Nat} (hp : F.Pairwise (· < ·)) (hl : F.length < 17592186044416) : impl_SortSets.f (ints F) = some (ints F) := by
  unfold impl_SortSets.f
  rw [if_pos (by rw [ints_len]; exact hl), sortC_ints hp (fun a => Iff.rfl)]
end Go.Proofs.Ytinoamehdhgpgaa.Q

namespace Go.Proofs.Ytinoamehdhgpgaa.Q
open Go Go.RowKit Go.Proofs.Ytinoamehdhgpgaa.A Go.Proofs.YtinoamehdhgpgaaW.PrintWords Go.Proofs.YtinoamehdhgpgaaW.PrintLast Go.Proofs.YtinoamehdhgpgaaW.PrintMore Go.Proofs.Ytinoamehdhgpgaa.Z
set_option linter.unusedVariables false
set_option linter.unusedSimpArgs false

theorem implMaximalSets_ev {F : List Nat} (hF : ∀ x ∈ F, x < 256) (hp : F.Pairwise (· < ·)) (hl : F.length ≤ 65536) : Ev (fun k => impl_MaximalSets.f k (ints F)) (ints (topN F)) := by
  unfold impl_MaximalSets.f
  have hset : (ints F).all isAnyB = true := by
    rw [List.all_eq_true]
    intro x hx
    obtain ⟨t, ht, rfl⟩ := List.mem_map.1 hx
    rw [isAnyB_nat]
    exact decide_eq_true (hF t ht)
  refine Ev.bind (areSets_ev (ints F) (by rw [ints_len]; omega)) ?_
  rw [hset]
  refine Ev.ifp rfl ?_
  refine Ev.cbind (implSort_eq hp (by omega)) ?_
  have e : (ints F).filter (fun x : Int => !F.any (fun t => decide (t ≠ x.toNat) && decide (subN x.toNat t))) = ints (topN F) := by
    unfold ints topN
    rw [List.filter_map]
    congr 1
  rw [← e]
  refine Ev_filterO (g := fun _ s => impl_MaximalSets.p (ints F) s) (p := fun x : Int => !F.any (fun t => decide (t ≠ x.toNat) && decide (subN x.toNat t))) ?_
  intro x hx
  obtain ⟨s, hs, rfl⟩ := List.mem_map.1 hx
  unfold impl_MaximalSets.p
  have h := Ev_anyO (g := fun _ t => impl_MaximalSets.c (s : Int) t) (p := fun y : Int => decide (y.toNat ≠ s) && decide (subN s y.toNat)) (l := ints F) (fun y hy => by
    obtain ⟨t, ht, rfl⟩ := List.mem_map.1 hy
    unfold impl_MaximalSets.c
    by_cases he : t = s
    · rw [if_pos (by rw [he])]
      have : (decide ((t : Int).toNat ≠ s) && decide (subN s (t : Int).toNat)) = false := by simp [he]
      rw [this]; exact Ev.now _
    · rw [if_neg (by omega), subset_eq, isAnyB_nat, isAnyB_nat, decide_eq_true (hF t ht), decide_eq_true (hF s hs), Int.toNat_natCast, Int.toNat_natCast]
      have : decide (t ≠ s) = true := decide_eq_true he
      rw [this]
      exact Ev.now _)
  have e2 : (ints F).any (fun y : Int => decide (y.toNat ≠ s) && decide (subN s y.toNat)) = F.any (fun t => decide (t ≠ (s : Int).toNat) && decide (subN (s : Int).toNat t)) := by
    unfold ints
    rw [List.any_map]
    rfl
  rw [e2] at h
  exact Ev.bind h (Ev.now _)

end Go.Proofs.Ytinoamehdhgpgaa.Q

namespace Go.Proofs.Ytinoamehdhgpgaa.Q
open Go Go.RowKit Go.Proofs.Ytinoamehdhgpgaa.A Go.Proofs.YtinoamehdhgpgaaW.PrintWords Go.Proofs.YtinoamehdhgpgaaW.PrintLast Go.Proofs.YtinoamehdhgpgaaW.PrintMore Go.Proofs.Ytinoamehdhgpgaa.Z
set_option linter.unusedVariables false
set_option linter.unusedSimpArgs false

theorem fromTo_full {m : Nat} : fromTo 0 ((fullN m : Nat) : Int) = ints (List.range (2 ^ m)) := by
  have := Nat.two_pow_pos m
  unfold fromTo ints fullN
  rw [List.range_eq_range', show (((2 ^ m - 1 : Nat) : Int) + 1).toNat - (0 : Int).toNat = 2 ^ m from by omega]
  rfl
/-- What the program's setsOf computes. -/
theorem setsOf_ev {m : Nat} (hm : m ≤ 8) {g : Nat → Int → Option Bool} {p : Nat → Bool} (h : ∀ t : Nat, t < 2 ^ m → Ev (fun k => g k (t : Int)) (p t)) : Ev (fun k => setsO (g k) ((fullN m : Nat) : Int)) (ints ((List.range (2 ^ m)).filter p)) := by
  unfold setsO
  rw [fromTo_full]
  have hf : (ints (List.range (2 ^ m))).filter (fun x : Int => p x.toNat) = ints ((List.range (2 ^ m)).filter p) := by
    unfold ints
    rw [List.filter_map]
    congr 1
  rw [← hf]
  refine Ev_filterO (p := fun x : Int => p x.toNat) ?_
  intro x hx
  obtain ⟨t, ht, rfl⟩ := List.mem_map.1 hx
  rw [Int.toNat_natCast]
  exact h t (List.mem_range.1 ht)
theorem full_small {m : Nat} (hm : m ≤ 8) : 0 ≤ ((fullN m : Nat) : Int) ∧ ((fullN m : Nat) : Int) ≤ 1000 := by
  have := (full_lt hm).2
  omega
end Go.Proofs.Ytinoamehdhgpgaa.Q

namespace Go.Proofs.Ytinoamehdhgpgaa.Q
open Go Go.RowKit Go.Proofs.Ytinoamehdhgpgaa.A Go.Proofs.YtinoamehdhgpgaaW.PrintWords Go.Proofs.YtinoamehdhgpgaaW.PrintLast Go.Proofs.YtinoamehdhgpgaaW.PrintMore Go.Proofs.Ytinoamehdhgpgaa.Z
set_option linter.unusedVariables false
set_option linter.unusedSimpArgs false

def gbN (V m : Nat) (eu ev : Nat → Nat) (r : Nat) : List Nat := (List.range (2 ^ m)).filter (fun s => (decide (s < 2 ^ m) && decide (pcsN V eu ev s + pc s = V)) && decide (pc s = r))
def rkG (V m : Nat) (eu ev : Nat → Nat) : Nat := V - pcsN V eu ev (fullN m)
def gmB (V : Int) (F T : List Int) : Int × List Int := if grB V F T = true then ((F.length : Int), ints (gbN V.toNat F.length (gE (F.map Int.toNat)) (gE (T.map Int.toNat)) (rkG V.toNat F.length (gE (F.map Int.toNat)) (gE (T.map Int.toNat))))) else (0, [])
theorem gbN_len {V m : Nat} {eu ev : Nat → Nat} {r : Nat} (hm : m ≤ 8) : (gbN V m eu ev r).length ≤ 256 := by
  have h1 := List.length_filter_le (fun s => (decide (s < 2 ^ m) && decide (pcsN V eu ev s + pc s = V)) && decide (pc s = r)) (List.range (2 ^ m))
  rw [List.length_range] at h1
  exact Nat.le_trans h1 (pow_le_256 hm)
theorem gmB_len (V : Int) (F T : List Int) : (gmB V F T).2.length ≤ 256 := by
  unfold gmB
  by_cases h : grB V F T = true
  · rw [if_pos h, ints_len]
    obtain ⟨v, A, B, rfl, hv, rfl, rfl, hA, _⟩ := grB_nat h
    rw [ints_len]
    exact gbN_len hA
  · rw [if_neg h]; exact Nat.zero_le _
theorem ends_of {V : Nat} {A B : List Nat} (hm : A.length ≤ 8) (hAB : A.length = B.length) (hA : ∀ x ∈ A, x < V) (hB : ∀ x ∈ B, x < V) : Ends V A.length (gE A) (gE B) :=
  ⟨hm, fun e he => gE_lt hA he, fun e he => gE_lt hB (by omega)⟩
theorem rkG_facts {V m : Nat} {eu ev : Nat → Nat} (hg : Ends V m eu ev) : (∃ b, Forest V m eu ev b ∧ pc b = rkG V m eu ev) ∧ (∀ s, Forest V m eu ev s → pc s ≤ rkG V m eu ev) ∧ pcsN V eu ev (fullN m) + rkG V m eu ev = V := by
  obtain ⟨r, hex, hmax⟩ := (Ind.forest hg).max
  have h := forest_max hg hex hmax
  have e : rkG V m eu ev = r := by unfold rkG; omega
  rw [e]
  exact ⟨hex, hmax, h⟩
theorem pcsN_le (V : Nat) (eu ev : Nat → Nat) (s : Nat) : pcsN V eu ev s ≤ V := cls_pos _
theorem specFromGraph_ev (V : Int) (F T : List Int) (hl : F.length ≤ 17592186044416) : Ev (fun k => spec_FromGraph.f k V F T) (gmB V F T) := by
  unfold spec_FromGraph.f gmB
  refine Ev.bind (specGraph_ev V F T hl) ?_
  by_cases h : grB V F T = true
  rotate_left
  · rw [if_neg h]; exact Ev.ifn h (Ev.now _)
  rw [if_pos h]
  refine Ev.ifp h ?_
  obtain ⟨v, A, B, rfl, hv, rfl, rfl, hm, hAB, hA, hB⟩ := grB_nat h
  rw [show (ints A).map Int.toNat = A from toNat_map A, show (ints B).map Int.toNat = B from toNat_map B, Int.toNat_natCast, ints_len]
  have hf := full_lt hm
  have h2m := pow_le_256 hm
  obtain ⟨_, _, hr⟩ := rkG_facts (ends_of hm hAB hA hB)
  refine Ev.cbind (specFull_eq hm) (Ev.bind (specPieces_ev hv hm hAB hA hB hf.1) ?_)
  rw [show wrap64 ((v : Int) - ((pcsN v (gE A) (gE B) (fullN A.length) : Nat) : Int)) = ((rkG v A.length (gE A) (gE B) : Nat) : Int) from by rw [wrap64_of (by omega) (by omega)]; omega]
  generalize rkG v A.length (gE A) (gE B) = r at hr
  have hd := down (P := fun i => ∀ acc : List Nat, acc.length ≤ i → acc ++ (List.range' i (2 ^ A.length - i)).filter (fun s => (decide (s < 2 ^ A.length) && decide (pcsN v (gE A) (gE B) s + pc s = v)) && decide (pc s = r)) = gbN v A.length (gE A) (gE B) r → Ev (fun k => spec_FromGraph.l0 k (r : Int) (i : Int) (v : Int) (ints A) (ints B) (A.length : Int) (ints acc)) ((A.length : Int), ints (gbN v A.length (gE A) (gE B) r))) (2 ^ A.length)
    (by
      intro acc _ he
      rw [Nat.sub_self, List.range'_zero, List.filter_nil, List.append_nil] at he
      apply Ev.step
      · intro k
        simp only [spec_FromGraph.l0, specFull_eq hm, Option.bind_some]
        rw [if_neg (by unfold fullN; omega), he]
      · exact Ev.now _)
    (by
      intro i hi ih acc ha he
      rw [range'_cons' hi, List.filter_cons] at he
      have hpl := pcsN_le v (gE A) (gE B) i
      apply Ev.step
      · intro k
        simp only [spec_FromGraph.l0, specFull_eq hm, Option.bind_some]
        rw [if_pos (by unfold fullN; omega), w_succ hi (by omega)]
      · refine Ev.bind (specCount_ev i (by omega)) ?_
        by_cases hc : pc i = r
        · refine Ev.ifp (by omega) (Ev.bind (specPieces_ev hv hm hAB hA hB hi) ?_)
          rw [wrap64_of (by omega) (by omega)]
          by_cases hp : pcsN v (gE A) (gE B) i + pc i = v
          · rw [if_pos (by rw [decide_eq_true hi, decide_eq_true hp, decide_eq_true hc]; rfl)] at he
            refine Ev.ifp (by omega) (Ev.ifp (by rw [ints_len]; omega) ?_)
            rw [show ints acc ++ [(i : Int)] = ints (acc ++ [i]) from by simp [ints]]
            exact ih (acc ++ [i]) (by rw [List.length_append, List.length_singleton]; omega) (by rw [List.append_assoc, List.singleton_append]; exact he)
          · rw [if_neg (by rw [decide_eq_false hp]; simp)] at he
            exact Ev.ifn (by omega) (ih acc (by omega) he)
        · rw [if_neg (by rw [decide_eq_false hc]; simp)] at he
          exact Ev.ifn (by omega) (ih acc (by omega) he))
  exact hd [] (Nat.zero_le _) (by rw [Nat.sub_zero, ← List.range_eq_range', List.nil_append]; rfl)
theorem implFromGraph_ev (V : Int) (F T : List Int) (hl : F.length ≤ 17592186044416) : Ev (fun k => impl_FromGraph.f k V F T) (gmB V F T) := by
  unfold impl_FromGraph.f gmB
  refine Ev.bind (implGraph_ev V F T hl) ?_
  by_cases h : grB V F T = true
  rotate_left
  · rw [if_neg h]; exact Ev.ifn h (Ev.now _)
  rw [if_pos h]
  refine Ev.ifp h ?_
  obtain ⟨v, A, B, rfl, hv, rfl, rfl, hm, hAB, hA, hB⟩ := grB_nat h
  rw [show (ints A).map Int.toNat = A from toNat_map A, show (ints B).map Int.toNat = B from toNat_map B, Int.toNat_natCast, ints_len]
  have h2m := pow_le_256 hm
  have hg := ends_of hm hAB hA hB
  obtain ⟨hex, hmax, _⟩ := rkG_facts hg
  generalize hr : rkG v A.length (gE A) (gE B) = r at hex hmax
  have hset := setsOf_ev hm (g := fun k s => impl_FromGraph.c k (v : Int) (ints A) (ints B) s) (p := fun s => decide (s < 2 ^ A.length) && decide (pcsN v (gE A) (gE B) s + pc s = v)) (fun t ht => by
    unfold impl_FromGraph.c
    have hpl := pcsN_le v (gE A) (gE B) t
    refine Ev.bind (implPieces_ev hv hm hAB hA hB ht) ?_
    rw [implCount_eq t (by omega)]
    have e : (wrap64 ((v : Int) - ((pcsN v (gE A) (gE B) t : Nat) : Int)) == ((pc t : Nat) : Int)) = (decide (t < 2 ^ A.length) && decide (pcsN v (gE A) (gE B) t + pc t = v)) := by
      rw [wrap64_of (by omega) (by omega), decide_eq_true ht, Bool.true_and, Bool.eq_iff_iff, beq_iff_eq, decide_eq_true_eq]
      omega
    rw [← e]
    exact Ev.now _)
  have hp : ∀ s, (decide (s < 2 ^ A.length) && decide (pcsN v (gE A) (gE B) s + pc s = v)) = true ↔ Forest v A.length (gE A) (gE B) s := fun s => by
    rw [Bool.and_eq_true, decide_eq_true_eq, decide_eq_true_eq]; rfl
  have htop := top_ind (Ind.forest hg) hp hex hmax
  have hmat := base_matB (Ind.forest hg) hp hex
  refine Ev.cbind (implFull_eq hm) (Ev.ifp (full_small hm) (Ev.bind hset ?_))
  unfold impl_fromIndependent.f
  have hF : ((List.range (2 ^ A.length)).filter (fun s => decide (s < 2 ^ A.length) && decide (pcsN v (gE A) (gE B) s + pc s = v))).length ≤ 256 := by
    have h1 := List.length_filter_le (fun s => decide (s < 2 ^ A.length) && decide (pcsN v (gE A) (gE B) s + pc s = v)) (List.range (2 ^ A.length))
    rw [List.length_range] at h1
    omega
  have hmx := implMaximalSets_ev (F := (List.range (2 ^ A.length)).filter (fun s => decide (s < 2 ^ A.length) && decide (pcsN v (gE A) (gE B) s + pc s = v))) (fun x hx => by have := List.mem_range.1 (List.mem_filter.1 hx).1; omega) (List.Pairwise.filter _ List.pairwise_lt_range) (by omega)
  rw [htop] at hmx
  have hb : (ints ((List.range (2 ^ A.length)).filter (fun s => (decide (s < 2 ^ A.length) && decide (pcsN v (gE A) (gE B) s + pc s = v)) && decide (pc s = r)))).length ≤ 17592186044416 := by
    rw [ints_len]
    exact Nat.le_trans (gbN_len (V := v) (eu := gE A) (ev := gE B) (r := r) hm) (by decide)
  exact Ev.bind (Ev.bind hmx (Ev.bind (implMat_ev _ _ hb) (Ev.ifp hmat (Ev.now _)))) (Ev.now _)

end Go.Proofs.Ytinoamehdhgpgaa.Q

namespace Go.Proofs.Ytinoamehdhgpgaa.Pure
open Go Go.RowKit Go.Proofs.Ytinoamehdhgpgaa.A Go.Proofs.YtinoamehdhgpgaaW.PrintWords Go.Proofs.YtinoamehdhgpgaaW.PrintLast Go.Proofs.YtinoamehdhgpgaaW.PrintMore Go.Proofs.Ytinoamehdhgpgaa.Z Go.Proofs.Ytinoamehdhgpgaa.Q
set_option linter.unusedVariables false
set_option linter.unusedSimpArgs false

theorem szGraph_eq (V : Int) (F T : List Int) (left : Int) (h0 : 0 ≤ left) (h1 : left ≤ 1048576) (hF : F.length ≤ maxLen) (hT : T.length ≤ maxLen) : laws_szGraph.f V F T left = some (if (F.length : Int) + (T.length : Int) > left then -1 else left - (F.length : Int) - (T.length : Int)) := by
  unfold maxLen at hF hT
  unfold laws_szGraph.f laws_szIntS.f
  rw [wrap64_of (by omega) (by omega)]
  by_cases h : (F.length : Int) > left
  · rw [if_pos (show left - (F.length : Int) < 0 by omega), Option.bind_some, if_pos (by decide), if_pos (by omega)]
  · rw [if_neg (show ¬ left - (F.length : Int) < 0 by omega), Option.bind_some, if_neg (by omega), wrap64_of (by omega) (by omega)]
    by_cases h2 : (F.length : Int) + (T.length : Int) > left
    · rw [if_pos h2, if_pos (show left - (F.length : Int) - (T.length : Int) < 0 by omega), Option.bind_some, if_pos (by decide)]
    · rw [if_neg h2, if_neg (show ¬ left - (F.length : Int) - (T.length : Int) < 0 by omega), Option.bind_some, if_neg (by omega)]
theorem toGraph_ev (V : Int) (F T : List Int) (hF : F.length ≤ 17592186044416) (hT : T.length ≤ 17592186044416) : Ev (fun k => laws_toGraph.f k V F T) (V, F, T) := by
  unfold laws_toGraph.f
  exact Ev.bind (toInt_ev F hF) (Ev.bind (toInt_ev T hT) (Ev.now _))
theorem eqGraph_ev (V : Int) (F T : List Int) (hF : F.length ≤ 17592186044416) (hT : T.length ≤ 17592186044416) : Ev (fun k => laws_eqGraph.f k V F T V F T) true := by
  unfold laws_eqGraph.f
  exact Ev.ifp rfl (Ev.bind (eqInt_self F hF) (Ev.ifp rfl (Ev.bind (eqInt_self T hT) (Ev.ifp rfl (Ev.now _)))))
theorem markGraph_ev (V : Int) (F T : List Int) (hF : F.length ≤ 1048576) (hT : T.length ≤ 1048576) : Ev (fun k => laws_markGraph.f k V F T 1) (1 + (F.length : Int) + (T.length : Int), marks 1 F.length, marks (1 + (F.length : Int)) T.length) := by
  unfold laws_markGraph.f
  exact Ev.bind (mark_ev F 1 (by omega) (by omega) (by omega)) (Ev.bind (mark_ev T _ (by simp only []; omega) (by simp only []; omega) (by omega)) (Ev.now _))
theorem FnExactFromGraph : laws_FnExactFromGraph.Pure := by
  intro V F T hn hF hwF hT hwT
  unfold laws_FnExactFromGraph.f
  refine Ev.rounds ?_
  refine Ev.cbind (szGraph_eq V F T 1048576 (by omega) (by omega) hF hT) ?_
  by_cases h1 : (F.length : Int) + (T.length : Int) > 1048576
  · rw [if_pos h1]
    exact Ev.ifp (by decide) (Ev.now _)
  rw [if_neg h1]
  refine Ev.ifn (by omega) ?_
  have hl : F.length ≤ 17592186044416 := by omega
  have hl' : T.length ≤ 17592186044416 := by omega
  have hg : (gmB V F T).2.length ≤ 17592186044416 := Nat.le_trans (gmB_len V F T) (by decide)
  refine Ev.bind (toGraph_ev V F T hl hl') (Ev.bind (specFromGraph_ev V F T hl) (Ev.bind (toGraph_ev V F T hl hl') (Ev.bind (implFromGraph_ev V F T hl) (Ev.bind (eqMat_ev _ _ hg) (Ev.ifp rfl ?_)))))
  refine Ev.bind (toGraph_ev V F T hl hl') (Ev.bind (eqGraph_ev V F T hl hl') (Ev.ifp rfl (Ev.bind (markGraph_ev V F T (by omega) (by omega)) (Ev.ifn (by simp only []; omega) (Ev.bind (eqMat_ev _ _ hg) ?_)))))
  apply Ev.step
  · intro k
    rw [laws_FnExactFromGraph.j0]
  refine Ev.ifn (by decide) ?_
  refine Ev.bind (markMat_ev _ _ hg) (Ev.bind (heldMat_ev _ _ hg) ?_)
  refine Ev.ifn (by omega) (Ev.ifp rfl ?_)
  refine Ev.bind (toGraph_ev V F T hl hl') (Ev.bind (implFromGraph_ev V F T hl) (Ev.bind (eqMat_ev _ _ hg) (Ev.ifp rfl ?_)))
  refine Ev.bind (heldMat_ev _ _ hg) ?_
  exact Ev.ifn (by omega) (Ev.ifp rfl (Ev.now _))

end Go.Proofs.Ytinoamehdhgpgaa.Pure
