/- The pure side of the law FnExactThresholdOf: what the Lean functions of the print compute, and that the law holds of them. Conditions: those in each lemma. -/
import Derived.Test.YtinoamehdhgpgaaMFnExactThresholdOf1
import Derived.Test.YtinoamehdhgpgaaMFnExactThresholdOf2
import Derived.Test.YtinoamehdhgpgaaMFnExactThresholdOf3
import Derived.Test.YtinoamehdhgpgaaMFnExactThresholdOf4
import Derived.Test.YtinoamehdhgpgaaMFnExactThresholdOfq0
namespace Go.Proofs.Ytinoamehdhgpgaa.A
open Go.RowKit
def laws_FnExactThresholdOf.Pure : Prop := ∀ (a0_0 : Int) (l0_1 : List Int) (l1 : List Int) (a2 : Int), (Lit.int .i64 a0_0).wf = true → l0_1.length ≤ maxLen → (∀ x ∈ l0_1, (Lit.int .i64 x).wf = true) → l1.length ≤ maxLen → (∀ x ∈ l1, (Lit.int .i64 x).wf = true) → (Lit.int .i64 a2).wf = true → ∃ k, laws_FnExactThresholdOf.f k a0_0 l0_1 l1 a2 = some true
end Go.Proofs.Ytinoamehdhgpgaa.A

namespace Go.Proofs.Ytinoamehdhgpgaa.Q
open Go Go.RowKit Go.Proofs.Ytinoamehdhgpgaa.A Go.Proofs.YtinoamehdhgpgaaW.PrintWords Go.Proofs.YtinoamehdhgpgaaW.PrintLast Go.Proofs.YtinoamehdhgpgaaW.PrintMore Go.Proofs.Ytinoamehdhgpgaa.Z
set_option linter.unusedVariables false
set_option linter.unusedSimpArgs false

theorem toInt_l0 (l : List Int) (hl : l.length ≤ 17592186044416) : ∀ (rest pre : List Int), l = pre ++ rest → Ev (fun k => laws_toIntS.l0 k l (pre ++ List.replicate rest.length 0) (pre.length : Int)) l := by
  intro rest
  induction rest with
  | nil =>
    intro pre h
    apply Ev.step
    · intro k
      simp only [laws_toIntS.l0]
      rw [if_neg (by rw [h]; simp)]
    · subst h; simpa using Ev.now _
  | cons x rest ih =>
    intro pre h
    have hlen : (pre.length : Int) < (l.length : Int) := by rw [h]; simp; omega
    apply Ev.step
    · intro k
      simp only [laws_toIntS.l0]
      rw [if_pos hlen, if_pos (by omega), if_pos (by simp; omega)]
    · have := ih (pre ++ [x]) (by rw [h]; simp)
      have e : wrap64 ((pre.length : Int) + 1) = ((pre ++ [x]).length : Int) := by
        rw [wrap64_of (by omega) (by omega)]; simp
      rw [e]
      have e2 : (pre ++ List.replicate (x :: rest).length 0).set (pre.length : Int).toNat (rd l (pre.length : Int)) = (pre ++ [x]) ++ List.replicate rest.length 0 := by
        have : rd l (pre.length : Int) = x := by rw [h]; exact rd_mid _ _ _
        rw [this]
        simp [List.replicate_succ]
      rw [e2]
      exact this
theorem toInt_ev (l : List Int) (hl : l.length ≤ 17592186044416) : Ev (fun k => laws_toIntS.f k l) l := by
  unfold laws_toIntS.f
  refine Ev.ifp (by omega) (Ev.ifp (by simp; omega) ?_)
  simpa using toInt_l0 l hl l [] rfl
theorem eqInt_l0 (l : List Int) (hl : l.length ≤ 17592186044416) (l' : List Int) (hll : l'.length = l.length) : ∀ (rest rest' pre : List Int), l = pre ++ rest → l' = pre ++ rest' → Ev (fun k => laws_eqIntS.l0 k l l' (pre.length : Int)) (decide (l = l')) := by
  intro rest
  induction rest with
  | nil =>
    intro rest' pre h h'
    have : rest' = [] := by
      apply List.eq_nil_of_length_eq_zero
      have h1 := congrArg List.length h
      have h2 := congrArg List.length h'
      rw [List.length_append] at h1 h2
      simp only [List.length_nil] at h1
      omega
    subst this
    apply Ev.step
    · intro k
      simp only [laws_eqIntS.l0]
      rw [if_neg (by rw [h]; simp)]
    · have : l = l' := by rw [h, h']
      simpa [this] using Ev.now _
  | cons x rest ih =>
    intro rest' pre h h'
    have hlen : (pre.length : Int) < (l.length : Int) := by rw [h]; simp; omega
    cases rest' with
    | nil => exact absurd hll (by rw [h, h']; simp)
    | cons y rest' =>
    have e1 : rd l (pre.length : Int) = x := by rw [h]; exact rd_mid _ _ _
    have e2 : rd l' (pre.length : Int) = y := by rw [h']; exact rd_mid _ _ _
    by_cases hxy : x = y
    · subst hxy
      apply Ev.step
      · intro k
        simp only [laws_eqIntS.l0]
        rw [if_pos hlen, if_pos (by omega), if_pos (by omega), if_pos (by rw [e1, e2])]
      · have := ih rest' (pre ++ [x]) (by rw [h]; simp) (by rw [h']; simp)
        have e : wrap64 ((pre.length : Int) + 1) = ((pre ++ [x]).length : Int) := by
          rw [wrap64_of (by omega) (by omega)]; simp
        rw [e]
        exact this
    · apply Ev.step
      · intro k
        simp only [laws_eqIntS.l0]
        rw [if_pos hlen, if_pos (by omega), if_pos (by omega), if_neg (by rw [e1, e2]; exact hxy)]
      · have : l ≠ l' := by rw [h, h']; simp [hxy]
        simpa [this] using Ev.now _
theorem eqInt_ev (l l' : List Int) (hl : l.length ≤ 17592186044416) : Ev (fun k => laws_eqIntS.f k l l') (decide (l = l')) := by
  unfold laws_eqIntS.f
  by_cases h : (l.length : Int) = (l'.length : Int)
  · refine Ev.ifp h ?_
    exact eqInt_l0 l hl l' (by omega) l l' [] rfl rfl
  · refine Ev.ifn h ?_
    have : l ≠ l' := by rintro rfl; exact h rfl
    simpa [this] using Ev.now _
theorem eqInt_self (l : List Int) (hl : l.length ≤ 17592186044416) : Ev (fun k => laws_eqIntS.f k l l) true := by simpa using eqInt_ev l l hl

end Go.Proofs.Ytinoamehdhgpgaa.Q

namespace Go.Proofs.Ytinoamehdhgpgaa.Q
open Go Go.RowKit Go.Proofs.Ytinoamehdhgpgaa.A Go.Proofs.YtinoamehdhgpgaaW.PrintWords Go.Proofs.YtinoamehdhgpgaaW.PrintLast Go.Proofs.YtinoamehdhgpgaaW.PrintMore Go.Proofs.Ytinoamehdhgpgaa.Z
set_option linter.unusedVariables false
set_option linter.unusedSimpArgs false

theorem szMat_eq (n : Int) (l : List Int) (left : Int) (h0 : 0 ≤ left) (h1 : left ≤ 1048576) (hl : l.length ≤ maxLen) : laws_szMatroid.f n l left = some (if (l.length : Int) > left then -1 else left - (l.length : Int)) := by
  unfold maxLen at hl
  unfold laws_szMatroid.f laws_szIntS.f
  rw [wrap64_of (by omega) (by omega)]
  by_cases h : (l.length : Int) > left
  · rw [if_pos h, if_pos (by omega), Option.bind_some, if_pos (by decide)]
  · rw [if_neg h, if_neg (by omega), Option.bind_some, if_neg (by omega)]
theorem toMat_ev (n : Int) (l : List Int) (hl : l.length ≤ 17592186044416) : Ev (fun k => laws_toMatroid.f k n l) (n, l) := by
  unfold laws_toMatroid.f
  exact Ev.bind (toInt_ev l hl) (Ev.now _)
theorem eqMat_ev (n : Int) (l : List Int) (hl : l.length ≤ 17592186044416) : Ev (fun k => laws_eqMatroid.f k n l n l) true := by
  unfold laws_eqMatroid.f
  refine Ev.ifp rfl (Ev.bind (eqInt_self l hl) (Ev.ifp rfl (Ev.now _)))

end Go.Proofs.Ytinoamehdhgpgaa.Q

namespace Go.Proofs.Ytinoamehdhgpgaa.Q
open Go Go.RowKit Go.Proofs.Ytinoamehdhgpgaa.A Go.Proofs.YtinoamehdhgpgaaW.PrintWords Go.Proofs.YtinoamehdhgpgaaW.PrintLast Go.Proofs.YtinoamehdhgpgaaW.PrintMore Go.Proofs.Ytinoamehdhgpgaa.Z
set_option linter.unusedVariables false
set_option linter.unusedSimpArgs false

theorem l1In_eq (a b c : Int) : spec_l1In.f a b c = some (decide (b ≤ a) && decide (a ≤ c)) := by
  unfold spec_l1In.f
  by_cases h : a ≥ b
  · rw [if_pos h]; simp [h]
  · rw [if_neg h]; simp only [ge_iff_le] at h; simp [h]
theorem isSize_eq (a : Int) : impl_isSize.f a = some (decide (0 ≤ a) && decide (a ≤ 8)) := by
  unfold impl_isSize.f
  by_cases h : a ≥ 0
  · rw [if_pos h]; simp [h]
  · rw [if_neg h]; simp only [ge_iff_le] at h; simp [h]
theorem specIsSet_eq (n s : Int) : spec_IsSet.f n s = some (isSetB n s) := by
  unfold spec_IsSet.f
  rw [l1In_eq, Option.bind_some]
  unfold isSetB
  by_cases h : (decide (0 ≤ n) && decide (n ≤ 8)) = true
  · rw [if_pos h, if_pos (u64_nonneg _), l1In_eq, Option.bind_some, h, Bool.true_and]
    simp only [Bool.and_eq_true, decide_eq_true_eq] at h
    obtain ⟨m, rfl⟩ := Int.eq_ofNat_of_zero_le h.1
    have h8 : m ≤ 8 := by omega
    rw [u64_of (by omega) (by omega), shl_one (by omega)]
    have hp := pow_le_256 h8
    rw [Int.toNat_natCast]
    have e : (2 : Int) ^ m = ((2 ^ m : Nat) : Int) := by simp
    rw [e]
    generalize 2 ^ m = q at hp
    rw [wrap64_of (by omega) (by omega)]
    congr 2
    rw [Bool.eq_iff_iff]
    simp only [decide_eq_true_eq]
    omega
  · rw [if_neg h, Bool.eq_false_iff.2 h, Bool.false_and]
theorem implIsSet_eq (n s : Int) : impl_IsSet.f n s = some (isSetB n s) := by
  unfold impl_IsSet.f
  rw [isSize_eq, Option.bind_some]
  unfold isSetB
  by_cases h : (decide (0 ≤ n) && decide (n ≤ 8)) = true
  · rw [if_pos h, h, Bool.true_and]
    simp only [Bool.and_eq_true, decide_eq_true_eq] at h
    by_cases hs : s ≥ 0
    · rw [if_pos hs, if_pos h.1]
      obtain ⟨m, rfl⟩ := Int.eq_ofNat_of_zero_le h.1
      rw [shl_one (by omega), Int.toNat_natCast]
      have e : ((2 ^ m : Nat) : Int) = 2 ^ m := by simp
      rw [e]
      have : decide (0 ≤ s) = true := by simpa using hs
      rw [this, Bool.true_and]
    · rw [if_neg hs]
      have : decide (0 ≤ s) = false := by simpa using hs
      rw [this, Bool.false_and]
  · rw [if_neg h, Bool.eq_false_iff.2 h, Bool.false_and]
theorem isSet8 (s : Int) : isSetB 8 s = isAnyB s := by
  unfold isSetB isAnyB
  rw [Bool.eq_iff_iff]
  simp
theorem isAny_eq (s : Int) : impl_isAny.f s = some (isAnyB s) := by
  unfold impl_isAny.f isAnyB
  by_cases h : s ≥ 0
  · rw [if_pos h]; simp [h]
  · rw [if_neg h]; simp only [ge_iff_le] at h; simp [h]
theorem isAnyB_lt {s : Int} (h : isAnyB s = true) : ∃ t : Nat, s = t ∧ t < 256 := by
  simp only [isAnyB, Bool.and_eq_true, decide_eq_true_eq] at h
  obtain ⟨t, rfl⟩ := Int.eq_ofNat_of_zero_le h.1
  exact ⟨t, rfl, by omega⟩
theorem implHas_eq (s e : Int) : impl_HasElement.f s e = some (hasB s e) := by
  unfold impl_HasElement.f hasB
  rw [isAny_eq, Option.bind_some]
  by_cases h : isAnyB s = true
  · rw [if_pos h, h, Bool.true_and]
    obtain ⟨t, rfl, ht⟩ := isAnyB_lt h
    by_cases h0 : e ≥ 0
    · rw [if_pos h0]
      obtain ⟨m, rfl⟩ := Int.eq_ofNat_of_zero_le h0
      by_cases h8 : (m : Int) < 8
      · rw [if_pos h8, if_pos h0, bit_nat (lt256_63 ht)]
        simp [h8]
      · rw [if_neg h8]; simp [h8]
    · rw [if_neg h0]; simp only [ge_iff_le] at h0; simp [h0]
  · rw [if_neg h, Bool.eq_false_iff.2 h]; simp
theorem l2Has_eq {s e : Nat} (hs : s < 2 ^ 63) (he : e < 2 ^ 63) : spec_l2Has.f (s : Int) (e : Int) = some (s.testBit e) := by
  unfold spec_l2Has.f
  rw [if_pos (u64_nonneg _), u64_of (by omega) (by omega), bit_nat hs]
theorem specHas_eq (s e : Int) : spec_HasElement.f s e = some (hasB s e) := by
  unfold spec_HasElement.f hasB
  rw [specIsSet_eq, Option.bind_some, isSet8]
  by_cases h : isAnyB s = true
  · rw [if_pos h, h, Bool.true_and, l1In_eq, Option.bind_some]
    obtain ⟨t, rfl, ht⟩ := isAnyB_lt h
    by_cases h0 : (decide (0 ≤ e) && decide (e ≤ 7)) = true
    · rw [if_pos h0]
      simp only [Bool.and_eq_true, decide_eq_true_eq] at h0
      obtain ⟨m, rfl⟩ := Int.eq_ofNat_of_zero_le h0.1
      rw [l2Has_eq (lt256_63 ht) (by omega), Option.bind_some]
      have : decide ((m : Int) < 8) = true := by simp; omega
      simp [this]
    · rw [if_neg h0]
      have : (decide (0 ≤ e) && decide (e < 8)) = false := by
        rw [Bool.eq_false_iff]
        intro hc
        apply h0
        simp only [Bool.and_eq_true, decide_eq_true_eq] at *
        omega
      rw [this, Bool.false_and]
  · rw [if_neg h, Bool.eq_false_iff.2 h]; simp

end Go.Proofs.Ytinoamehdhgpgaa.Q

namespace Go.Proofs.Ytinoamehdhgpgaa.Q
open Go Go.RowKit Go.Proofs.Ytinoamehdhgpgaa.A Go.Proofs.YtinoamehdhgpgaaW.PrintWords Go.Proofs.YtinoamehdhgpgaaW.PrintLast Go.Proofs.YtinoamehdhgpgaaW.PrintMore Go.Proofs.Ytinoamehdhgpgaa.Z
set_option linter.unusedVariables false
set_option linter.unusedSimpArgs false

def famG (n : Int) : Option Int → List Int → Bool
  | _, [] => decide (0 ≤ n) && decide (n ≤ 8)
  | p, x :: xs => isSetB n x && ((match p with | none => true | some q => decide (q < x)) && famG n (some x) xs)
/-- A family: sets of n elements, strictly ascending. -/
def famB (n : Int) (l : List Int) : Bool := famG n none l
def prevO (l : List Int) (i : Nat) : Option Int := if i = 0 then none else some (rd l ((i - 1 : Nat) : Int))
theorem prevO_succ (l : List Int) (i : Nat) (hi : i < l.length) : prevO l (i + 1) = some l[i] := by
  unfold prevO
  rw [if_neg (by omega), Nat.add_sub_cancel, rd_getElem l i hi]
theorem specFam_ev (n : Int) (l : List Int) (hl : l.length ≤ 17592186044416) : Ev (fun k => spec_IsFamily.f k n l) (famB n l) := by
  have h := down (P := fun i => Ev (fun k => spec_IsFamily.l0 k n l (i : Int)) (famG n (prevO l i) (l.drop i))) l.length
    (by
      apply Ev.step
      · intro k
        simp only [spec_IsFamily.l0, l1In_eq, Option.bind_some]
        rw [if_neg (by omega)]
      · rw [drop_end]; exact Ev.now _)
    (by
      intro i hi ih
      apply Ev.step
      · intro k
        simp only [spec_IsFamily.l0, specIsSet_eq, Option.bind_some]
        rw [if_pos (by omega), if_pos (by omega), rd_getElem l i hi, w_succ hi hl]
      · rw [drop_cons l i hi]
        rw [prevO_succ l i hi] at ih
        simp only [famG]
        by_cases hx : isSetB n l[i] = true
        · refine Ev.ifp hx ?_
          rw [hx, Bool.true_and]
          by_cases h0 : (i : Int) > 0
          · refine Ev.ifp h0 ?_
            rw [wrap64_of (by omega) (by omega), show (i : Int) - 1 = ((i - 1 : Nat) : Int) from by omega]
            refine Ev.ifp (by omega) (Ev.ifp (by omega) ?_)
            unfold prevO
            rw [if_neg (by omega)]
            by_cases hq : rd l ((i - 1 : Nat) : Int) ≥ l[i]
            · refine Ev.ifp hq ?_
              simp only []
              rw [show decide (rd l ((i - 1 : Nat) : Int) < l[i]) = false from by simpa using hq, Bool.false_and]
              exact Ev.now _
            · refine Ev.ifn hq ?_
              simp only []
              rw [show decide (rd l ((i - 1 : Nat) : Int) < l[i]) = true from by simpa using hq, Bool.true_and]
              exact ih
          · refine Ev.ifn h0 ?_
            unfold prevO
            rw [if_pos (by omega)]
            simp only [Bool.true_and]
            exact ih
        · refine Ev.ifn hx ?_
          rw [Bool.eq_false_iff.2 hx, Bool.false_and]; exact Ev.now _)
  exact h
theorem implFam_ev (n : Int) (l : List Int) (hl : l.length ≤ 17592186044416) : Ev (fun k => impl_IsFamily.f k n l) (famB n l) := by
  have h := down (P := fun i => Ev (fun k => impl_IsFamily.l0 k n l l (l.length : Int) (i : Int)) (famG n (prevO l i) (l.drop i))) l.length
    (by
      apply Ev.step
      · intro k
        simp only [impl_IsFamily.l0, isSize_eq, Option.bind_some]
        rw [if_neg (by omega)]
      · rw [drop_end]; exact Ev.now _)
    (by
      intro i hi ih
      apply Ev.step
      · intro k
        simp only [impl_IsFamily.l0, implIsSet_eq, Option.bind_some]
        rw [if_pos (by omega), if_pos (by omega), if_pos (by omega), rd_getElem l i hi, w_succ hi hl]
      · rw [drop_cons l i hi]
        rw [prevO_succ l i hi] at ih
        simp only [famG]
        by_cases hx : isSetB n l[i] = true
        · refine Ev.ifp hx ?_
          rw [hx, Bool.true_and]
          by_cases h0 : (i : Int) > 0
          · refine Ev.ifp h0 ?_
            rw [wrap64_of (by omega) (by omega), show (i : Int) - 1 = ((i - 1 : Nat) : Int) from by omega]
            refine Ev.ifp (by omega) (Ev.ifp (by omega) ?_)
            unfold prevO
            rw [if_neg (by omega)]
            by_cases hq : l[i] ≤ rd l ((i - 1 : Nat) : Int)
            · refine Ev.ifp hq ?_
              simp only []
              rw [show decide (rd l ((i - 1 : Nat) : Int) < l[i]) = false from by simpa using hq, Bool.false_and]
              exact Ev.now _
            · refine Ev.ifn hq ?_
              simp only []
              rw [show decide (rd l ((i - 1 : Nat) : Int) < l[i]) = true from by simpa using hq, Bool.true_and]
              exact ih
          · refine Ev.ifn h0 ?_
            unfold prevO
            rw [if_pos (by omega)]
            simp only [Bool.true_and]
            exact ih
        · refine Ev.ifn hx ?_
          rw [Bool.eq_false_iff.2 hx, Bool.false_and]; exact Ev.now _)
  exact h
theorem famG_facts (n : Int) : ∀ (l : List Int) (p : Option Int), famG n p l = true → (0 ≤ n ∧ n ≤ 8) ∧ (∀ x ∈ l, isSetB n x = true) ∧ l.Pairwise (· < ·) ∧ (∀ q, p = some q → ∀ x ∈ l, q < x) := by
  intro l
  induction l with
  | nil =>
    intro p h
    simp only [famG, Bool.and_eq_true, decide_eq_true_eq] at h
    exact ⟨h, fun x hx => by simp at hx, List.Pairwise.nil, fun q _ x hx => by simp at hx⟩
  | cons y l ih =>
    intro p h
    simp only [famG, Bool.and_eq_true] at h
    obtain ⟨h1, h2, h3⟩ := h
    obtain ⟨i1, i2, i3, i4⟩ := ih _ h3
    refine ⟨i1, fun x hx => ?_, List.pairwise_cons.2 ⟨fun x hx => i4 y rfl x hx, i3⟩, fun q hq x hx => ?_⟩
    · rcases List.mem_cons.1 hx with rfl | hx
      · exact h1
      · exact i2 x hx
    · subst hq
      simp only [decide_eq_true_eq] at h2
      rcases List.mem_cons.1 hx with rfl | hx
      · exact h2
      · exact Int.lt_trans h2 (i4 y rfl x hx)
/-- A family as numbers: its size, its sets. -/
theorem famB_nat {n : Int} {l : List Int} (h : famB n l = true) : ∃ (m : Nat) (L : List Nat), n = m ∧ m ≤ 8 ∧ l = L.map (fun x : Nat => (x : Int)) ∧ (∀ x ∈ L, x < 2 ^ m) ∧ L.Pairwise (· < ·) := by
  obtain ⟨h1, h2, h3, _⟩ := famG_facts n l none h
  obtain ⟨m, rfl⟩ := Int.eq_ofNat_of_zero_le h1.1
  have hnn : ∀ x ∈ l, 0 ≤ x := fun x hx => by
    obtain ⟨_, t, _, rfl, _⟩ := isSetB_lt (h2 x hx)
    omega
  have hl : l = (l.map Int.toNat).map (fun x : Nat => (x : Int)) := by
    rw [List.map_map]
    conv => lhs; rw [← List.map_id l]
    apply List.map_congr_left
    intro x hx
    have := hnn x hx
    simp only [id, Function.comp]
    omega
  refine ⟨m, l.map Int.toNat, rfl, by omega, hl, fun x hx => ?_, ?_⟩
  · obtain ⟨y, hy, rfl⟩ := List.mem_map.1 hx
    obtain ⟨m', t, hm, rfl, _, ht, _⟩ := isSetB_lt (h2 y hy)
    have : m = m' := by omega
    subst this
    rw [Int.toNat_natCast]; exact ht
  · rw [List.pairwise_map]
    exact h3.imp_of_mem (fun {a b} ha hb hab => by
      have := hnn a ha
      have := hnn b hb
      omega)

end Go.Proofs.Ytinoamehdhgpgaa.Q

namespace Go.Proofs.Ytinoamehdhgpgaa.Q
open Go Go.RowKit Go.Proofs.Ytinoamehdhgpgaa.A Go.Proofs.YtinoamehdhgpgaaW.PrintWords Go.Proofs.YtinoamehdhgpgaaW.PrintLast Go.Proofs.YtinoamehdhgpgaaW.PrintMore Go.Proofs.Ytinoamehdhgpgaa.Z
set_option linter.unusedVariables false
set_option linter.unusedSimpArgs false

/-- The elements of a set, as whole numbers; none where it is no set. -/
def elsB (s : Int) : List Int := ((List.range 8).filter (fun e : Nat => hasB s (e : Int))).map (fun e : Nat => (e : Int))
theorem range'_cons {i n : Nat} (h : i < n) : List.range' i (n - i) = i :: List.range' (i + 1) (n - (i + 1)) := by
  rw [show n - i = (n - (i + 1)) + 1 from by omega, List.range'_succ]
theorem filter_cons_map {s : Int} {i : Nat} (l : List Nat) : ((i :: l).filter (fun e : Nat => hasB s (e : Int))).map (fun e : Nat => (e : Int)) = (if hasB s (i : Int) = true then [(i : Int)] else []) ++ (l.filter (fun e : Nat => hasB s (e : Int))).map (fun e : Nat => (e : Int)) := by
  rw [List.filter_cons]
  by_cases h : hasB s (i : Int) = true
  · rw [if_pos h, if_pos h]; rfl
  · rw [if_neg h, if_neg h]; rfl
theorem implElements_ev (s : Int) : Ev (fun k => impl_ElementsOf.f k s) (elsB s) := by
  have h := down (P := fun i => ∀ acc : List Int, acc.length ≤ i → Ev (fun k => impl_ElementsOf.l0 k s acc (i : Int)) (acc ++ ((List.range' i (8 - i)).filter (fun e : Nat => hasB s (e : Int))).map (fun e : Nat => (e : Int)))) 8
    (by
      intro acc ha
      apply Ev.step
      · intro k
        simp only [impl_ElementsOf.l0, implHas_eq, Option.bind_some]
        rw [if_neg (by omega)]
      · simpa using Ev.now _)
    (by
      intro i hi ih acc ha
      apply Ev.step
      · intro k
        simp only [impl_ElementsOf.l0, implHas_eq, Option.bind_some]
        rw [if_pos (by omega), w_succ hi (by omega)]
      · rw [range'_cons hi, filter_cons_map]
        by_cases hx : hasB s (i : Int) = true
        · refine Ev.ifp hx (Ev.ifp (by omega) ?_)
          rw [if_pos hx, ← List.append_assoc]
          exact ih (acc ++ [(i : Int)]) (by simp; omega)
        · refine Ev.ifn hx ?_
          rw [if_neg hx]
          exact ih acc (by omega))
  have h0 := h [] (Nat.le_refl 0)
  rw [show ((0 : Nat) : Int) = 0 from rfl] at h0
  have e : elsB s = [] ++ ((List.range' 0 (8 - 0)).filter (fun e : Nat => hasB s (e : Int))).map (fun e : Nat => (e : Int)) := by
    unfold elsB
    rw [List.nil_append, List.range_eq_range']
  rw [e]
  unfold impl_ElementsOf.f
  exact h0
theorem elsB_mem {s x : Int} (h : x ∈ elsB s) : ∃ e : Nat, x = e ∧ e < 8 ∧ hasB s (e : Int) = true := by
  simp only [elsB, List.mem_map, List.mem_filter, List.mem_range] at h
  obtain ⟨e, ⟨h1, h2⟩, rfl⟩ := h
  exact ⟨e, rfl, h1, h2⟩
theorem elsB_len (s : Int) : (elsB s).length ≤ 8 := by
  unfold elsB
  rw [List.length_map]
  exact Nat.le_trans (List.length_filter_le _ _) (by simp)
theorem elsB_nat {s : Nat} (h : s < 256) : elsB (s : Int) = (els s).map (fun e : Nat => (e : Int)) := by
  have e : (List.range 8).filter (fun e : Nat => hasB (s : Int) (e : Int)) = (List.range 8).filter (fun e : Nat => s.testBit e) :=
    List.filter_congr (fun e he => by
      rw [List.mem_range] at he
      rw [hasB_nat]
      simp [h, he])
  unfold elsB els
  rw [e]

end Go.Proofs.Ytinoamehdhgpgaa.Q

namespace Go.Proofs.Ytinoamehdhgpgaa.Q
open Go Go.RowKit Go.Proofs.Ytinoamehdhgpgaa.A Go.Proofs.YtinoamehdhgpgaaW.PrintWords Go.Proofs.YtinoamehdhgpgaaW.PrintLast Go.Proofs.YtinoamehdhgpgaaW.PrintMore Go.Proofs.Ytinoamehdhgpgaa.Z
set_option linter.unusedVariables false
set_option linter.unusedSimpArgs false

theorem contains_cons (x : Int) (l : List Int) (a : Int) : (x :: l).contains a = (decide (x = a) || l.contains a) := by
  rw [Bool.eq_iff_iff]
  simp only [List.contains_iff_mem, List.mem_cons, Bool.or_eq_true, decide_eq_true_eq]
  constructor
  · rintro (h | h)
    · exact .inl h.symm
    · exact .inr h
  · rintro (h | h)
    · exact .inl h.symm
    · exact .inr h
theorem specHasSet_ev (l : List Int) (a : Int) (hl : l.length ≤ 17592186044416) : Ev (fun k => spec_HasSet.f k l a) (l.contains a) := by
  have h := down (P := fun i => Ev (fun k => spec_HasSet.l0 k l a (i : Int)) ((l.drop i).contains a)) l.length
    (by
      apply Ev.step
      · intro k
        simp only [spec_HasSet.l0]
        rw [if_neg (by omega)]
      · rw [drop_end]; exact Ev.now _)
    (by
      intro i hi ih
      apply Ev.step
      · intro k
        simp only [spec_HasSet.l0]
        rw [if_pos (by omega), if_pos (by omega), rd_getElem l i hi, w_succ hi hl]
      · rw [drop_cons l i hi, contains_cons]
        by_cases hx : l[i] = a
        · refine Ev.ifp hx ?_
          rw [show decide (l[i] = a) = true from by simpa using hx, Bool.true_or]; exact Ev.now _
        · refine Ev.ifn hx ?_
          rw [show decide (l[i] = a) = false from by simpa using hx, Bool.false_or]; exact ih)
  exact h

end Go.Proofs.Ytinoamehdhgpgaa.Q

namespace Go.Proofs.Ytinoamehdhgpgaa.Q
open Go Go.RowKit Go.Proofs.Ytinoamehdhgpgaa.A Go.Proofs.YtinoamehdhgpgaaW.PrintWords Go.Proofs.YtinoamehdhgpgaaW.PrintLast Go.Proofs.YtinoamehdhgpgaaW.PrintMore Go.Proofs.Ytinoamehdhgpgaa.Z
set_option linter.unusedVariables false
set_option linter.unusedSimpArgs false

theorem index_l0 (l : List Int) (a : Int) (hl : l.length ≤ 17592186044416) : ∃ r : Int, Ev (fun k => slices_Index_int_int.f k l a) r ∧ (decide (r ≥ 0) = l.contains a) := by
  have h := down (P := fun i => ∃ r : Int, Ev (fun k => slices_Index_int_int.l0 k l a (l.length : Int) (i : Int)) r ∧ (decide (r ≥ 0) = (l.drop i).contains a)) l.length
    (by
      refine ⟨-1, ?_, by rw [drop_end]; rfl⟩
      apply Ev.step
      · intro k
        simp only [slices_Index_int_int.l0]
        rw [if_neg (by omega)]
      · exact Ev.now _)
    (by
      intro i hi ih
      rw [drop_cons l i hi, contains_cons]
      by_cases hx : l[i] = a
      · refine ⟨(i : Int), ?_, ?_⟩
        · apply Ev.step
          · intro k
            simp only [slices_Index_int_int.l0]
            rw [if_pos (by omega), if_pos (by omega), if_pos (by omega), rd_getElem l i hi, if_pos hx.symm]
          · exact Ev.now _
        · rw [show decide (l[i] = a) = true from by simpa using hx, Bool.true_or]
          simp
      · obtain ⟨r, hr, hd⟩ := ih
        refine ⟨r, ?_, ?_⟩
        · apply Ev.step
          · intro k
            simp only [slices_Index_int_int.l0]
            rw [if_pos (by omega), if_pos (by omega), if_pos (by omega), rd_getElem l i hi, if_neg (fun hc => hx hc.symm), w_succ hi hl]
          · exact hr
        · rw [show decide (l[i] = a) = false from by simpa using hx, Bool.false_or]; exact hd)
  exact h
theorem contains_ev (l : List Int) (a : Int) (hl : l.length ≤ 17592186044416) : Ev (fun k => slices_Contains_int_int.f k l a) (l.contains a) := by
  obtain ⟨r, hr, hd⟩ := index_l0 l a hl
  unfold slices_Contains_int_int.f
  refine Ev.bind hr ?_
  rw [hd]; exact Ev.now _

end Go.Proofs.Ytinoamehdhgpgaa.Q

namespace Go.Proofs.Ytinoamehdhgpgaa.Q
open Go Go.RowKit Go.Proofs.YtinoamehdhgpgaaW.PrintWords Go.Proofs.YtinoamehdhgpgaaW.PrintLast Go.Proofs.YtinoamehdhgpgaaW.PrintMore Go.Proofs.Ytinoamehdhgpgaa.Z
set_option linter.unusedVariables false
set_option linter.unusedSimpArgs false

/-- Can e be exchanged for an element of b? -/
def hasEx (l : List Int) (a b e : Nat) : Bool := (els (dif b a)).any (fun f => l.contains ((dif a (2 ^ e) ||| 2 ^ f : Nat) : Int))
def failE (l : List Int) (a b : Nat) : List Nat → Option Nat
  | [] => none
  | e :: es => if hasEx l a b e = true then failE l a b es else some e
def failB (l : List Int) (a : Nat) : List Nat → Option (Nat × Nat)
  | [] => none
  | b :: bs => match failE l a b (els (dif a b)) with
    | none => failB l a bs
    | some e => some (b, e)
def failA (l : List Int) (L : List Nat) : List Nat → Option (Nat × Nat × Nat)
  | [] => none
  | a :: la => match failB l a L with
    | none => failA l L la
    | some (b, e) => some (a, b, e)
def told : Option (Nat × Nat × Nat) → Int × Int × Int × Bool
  | none => (0, 0, 0, false)
  | some (a, b, e) => ((a : Int), (b : Int), (e : Int), true)
/-- What FirstFailure hands back. -/
def failT (n : Int) (l : List Int) : Int × Int × Int × Bool := if famB n l = true then told (failA l (l.map Int.toNat) (l.map Int.toNat)) else (0, 0, 0, false)
theorem els_dif {a b n : Nat} (ha : a < 2 ^ n) (hn : n ≤ 8) : els (dif a b) = (List.range n).filter (fun e => a.testBit e && !b.testBit e) := by
  have h1 : (List.range 8).filter (fun e => (dif a b).testBit e) = (List.range 8).filter (fun e => decide (e < n) && (a.testBit e && !b.testBit e)) :=
    List.filter_congr (fun e _ => by
      rw [dif_bit]
      by_cases h : e < n
      · simp [h]
      · have : a.testBit e = false := Nat.testBit_lt_two_pow (Nat.lt_of_lt_of_le ha (Nat.pow_le_pow_right (by decide) (by omega)))
        simp [this])
  unfold els
  rw [h1]
  have h2 : ∀ (p : Nat → Bool) (a b : Nat), (List.range a).filter (fun e => decide (e < b) && p e) = (List.range (min a b)).filter p := by
    intro p a b
    induction a with
    | zero => simp
    | succ a ih =>
      rw [List.range_succ, List.filter_append, ih]
      by_cases h : a < b
      · rw [show min (a + 1) b = min a b + 1 from by omega, List.range_succ, List.filter_append]
        have e : min a b = a := by omega
        rw [e]
        congr 1
        simp [List.filter_cons, h]
      · rw [show min (a + 1) b = min a b from by omega]
        simp [List.filter_cons, h]
  rw [h2, Nat.min_eq_right hn]

end Go.Proofs.Ytinoamehdhgpgaa.Q

namespace Go.Proofs.Ytinoamehdhgpgaa.Q
open Go Go.RowKit Go.Proofs.Ytinoamehdhgpgaa.A Go.Proofs.YtinoamehdhgpgaaW.PrintWords Go.Proofs.YtinoamehdhgpgaaW.PrintLast Go.Proofs.YtinoamehdhgpgaaW.PrintMore Go.Proofs.Ytinoamehdhgpgaa.Z
set_option linter.unusedVariables false
set_option linter.unusedSimpArgs false

theorem specEx_ev (n : Nat) (hn : n ≤ 8) (l : List Int) (hl : l.length ≤ 17592186044416) (a b e : Nat) (ha : a < 256) (hb : b < 2 ^ n) (he : e < 8) (hae : a.testBit e = true) :
    Ev (fun k => spec_l4Exchange.f k (n : Int) l (a : Int) (b : Int) (e : Int)) (hasEx l a b e) := by
  have hb256 : b < 256 := Nat.lt_of_lt_of_le hb (pow_le_256 hn)
  have h := down (P := fun f => Ev (fun k => spec_l4Exchange.l0 k (a : Int) (b : Int) (e : Int) (f : Int) (n : Int) l) (((List.range' f (n - f)).filter (fun f => b.testBit f && !a.testBit f)).any (fun f => l.contains ((dif a (2 ^ e) ||| 2 ^ f : Nat) : Int)))) n
    (by
      apply Ev.step
      · intro k
        simp only [spec_l4Exchange.l0]
        rw [if_neg (by omega)]
      · rw [Nat.sub_self]; exact Ev.now _)
    (by
      intro f hf ih
      have hih : Ev (fun k => spec_l4Exchange.l0 k (a : Int) (b : Int) (e : Int) (wrap64 ((f : Int) + 1)) (n : Int) l) (((List.range' (f + 1) (n - (f + 1))).filter (fun f => b.testBit f && !a.testBit f)).any (fun f => l.contains ((dif a (2 ^ e) ||| 2 ^ f : Nat) : Int))) := by
        rw [w_succ hf (by omega)]; exact ih
      apply Ev.step
      · intro k
        simp only [spec_l4Exchange.l0, l2Has_eq (lt256_63 hb256) (show f < 2 ^ 63 by omega), l2Has_eq (lt256_63 ha) (show f < 2 ^ 63 by omega), Option.bind_some]
        rw [if_pos (by omega)]
      · rw [range'_cons hf, List.filter_cons]
        by_cases hbf : b.testBit f = true
        · refine Ev.ifp hbf ?_
          by_cases haf : a.testBit f = true
          · refine Ev.ifp haf ?_
            rw [if_neg (by rw [haf]; simp)]
            exact hih
          · refine Ev.ifn haf (Ev.ifp (u64_nonneg _) (Ev.ifp (u64_nonneg _) ?_))
            have haf' := Bool.eq_false_iff.2 haf
            rw [if_pos (by rw [hbf, haf']; rfl), List.any_cons]
            obtain ⟨x1, x2, x3⟩ := exch_arith ha he (show f < 8 by omega) hae haf'
            have hp : 2 ^ f < 256 := Nat.pow_lt_pow_right (a := 2) (m := f) (n := 8) (by decide) (by omega)
            have ex : wrap64 (wrap64 ((a : Int) - shl .i64 1 (IntKind.u64.wrap (e : Int))) + shl .i64 1 (IntKind.u64.wrap (f : Int))) = ((dif a (2 ^ e) ||| 2 ^ f : Nat) : Int) := by
              rw [u64_of (by omega) (by omega), u64_of (by omega) (by omega), shl_one (by omega), shl_one (by omega), ← x1]
              generalize 2 ^ e = p at *
              generalize 2 ^ f = q at *
              rw [wrap64_of (n := (a : Int) - (p : Int)) (by omega) (by omega), wrap64_of (by omega) (by omega)]
              omega
            rw [ex]
            refine Ev.bind (specHasSet_ev l _ hl) ?_
            by_cases hc : l.contains ((dif a (2 ^ e) ||| 2 ^ f : Nat) : Int) = true
            · refine Ev.ifp hc ?_
              rw [hc, Bool.true_or]; exact Ev.now _
            · refine Ev.ifn hc ?_
              rw [Bool.eq_false_iff.2 hc, Bool.false_or]; exact hih
        · refine Ev.ifn hbf ?_
          rw [if_neg (by rw [Bool.eq_false_iff.2 hbf]; simp)]
          exact hih)
  rw [Nat.sub_zero, ← List.range_eq_range', ← els_dif hb hn] at h
  exact h
theorem specFail_l2 (n : Nat) (hn : n ≤ 8) (l : List Int) (hl : l.length ≤ 17592186044416) (i j : Nat) (hi : i < l.length) (hj : j < l.length) (a b : Nat) (hai : rd l (i : Int) = a) (hbj : rd l (j : Int) = b) (ha : a < 2 ^ n) (hb : b < 2 ^ n) (K : Int × Int × Int × Bool)
    (hK : Ev (fun k => spec_FirstFailure.l1 k (i : Int) (wrap64 ((j : Int) + 1)) (n : Int) l) K) :
    Ev (fun k => spec_FirstFailure.l2 k (i : Int) (j : Int) 0 (n : Int) l) (match failE l a b (els (dif a b)) with | none => K | some e => ((a : Int), (b : Int), (e : Int), true)) := by
  have ha256 : a < 256 := Nat.lt_of_lt_of_le ha (pow_le_256 hn)
  have hb256 : b < 256 := Nat.lt_of_lt_of_le hb (pow_le_256 hn)
  have h := down (P := fun e => Ev (fun k => spec_FirstFailure.l2 k (i : Int) (j : Int) (e : Int) (n : Int) l) (match failE l a b ((List.range' e (n - e)).filter (fun e => a.testBit e && !b.testBit e)) with | none => K | some e => ((a : Int), (b : Int), (e : Int), true))) n
    (by
      apply Ev.step
      · intro k
        simp only [spec_FirstFailure.l2]
        rw [if_neg (by omega)]
      · rw [Nat.sub_self]; exact hK)
    (by
      intro e he ih
      have hih : Ev (fun k => spec_FirstFailure.l2 k (i : Int) (j : Int) (wrap64 ((e : Int) + 1)) (n : Int) l) (match failE l a b ((List.range' (e + 1) (n - (e + 1))).filter (fun e => a.testBit e && !b.testBit e)) with | none => K | some e => ((a : Int), (b : Int), (e : Int), true)) := by
        rw [w_succ he (by omega)]; exact ih
      apply Ev.step
      · intro k
        simp only [spec_FirstFailure.l2]
        rw [if_pos (by omega), if_pos (by omega), if_pos (by omega), if_pos (by omega), if_pos (by omega), hai, hbj, l2Has_eq (lt256_63 ha256) (show e < 2 ^ 63 by omega), l2Has_eq (lt256_63 hb256) (show e < 2 ^ 63 by omega), Option.bind_some, Option.bind_some]
      · rw [range'_cons he, List.filter_cons]
        by_cases hae : a.testBit e = true
        · refine Ev.ifp hae ?_
          by_cases hbe : b.testBit e = true
          · refine Ev.ifp hbe ?_
            rw [if_neg (by rw [hbe]; simp)]
            exact hih
          · refine Ev.ifn hbe (Ev.bind (specEx_ev n hn l hl a b e ha256 hb (by omega) hae) ?_)
            rw [if_pos (by rw [hae, Bool.eq_false_iff.2 hbe]; rfl)]
            simp only [failE]
            by_cases hx : hasEx l a b e = true
            · refine Ev.ifp hx ?_
              rw [if_pos hx]; exact hih
            · refine Ev.ifn hx ?_
              rw [if_neg hx]; exact Ev.now _
        · refine Ev.ifn hae ?_
          rw [if_neg (by rw [Bool.eq_false_iff.2 hae]; simp)]
          exact hih)
  rw [Nat.sub_zero, ← List.range_eq_range', ← els_dif ha hn] at h
  exact h
theorem specFail_ev (n : Int) (l : List Int) (hl : l.length ≤ 17592186044416) : Ev (fun k => spec_FirstFailure.f k n l) (failT n l) := by
  unfold spec_FirstFailure.f failT
  refine Ev.bind (specFam_ev n l hl) ?_
  by_cases hf : famB n l = true
  · refine Ev.ifp hf ?_
    rw [if_pos hf]
    obtain ⟨m, L, rfl, hm, rfl, hL, _⟩ := famB_nat hf
    rw [toNat_map]
    have hlen : (L.map (fun x : Nat => (x : Int))).length = L.length := List.length_map _
    rw [hlen] at hl
    have hrd : ∀ i, (h : i < L.length) → rd (L.map (fun x : Nat => (x : Int))) (i : Int) = (L[i] : Int) := fun i h => by
      rw [rd_getElem _ i (by rw [hlen]; exact h), List.getElem_map]
    have hl' : (L.map (fun x : Nat => (x : Int))).length ≤ 17592186044416 := by rw [hlen]; exact hl
    generalize L.map (fun x : Nat => (x : Int)) = l at hlen hrd hl'
    have h := down (P := fun i => Ev (fun k => spec_FirstFailure.l0 k (i : Int) (m : Int) l) (told (failA l L (L.drop i)))) L.length
      (by
        apply Ev.step
        · intro k
          simp only [spec_FirstFailure.l0]
          rw [if_neg (by omega)]
        · rw [drop_end]; exact Ev.now _)
      (by
        intro i hi ih
        have hia := hL _ (List.getElem_mem hi)
        have hih : Ev (fun k => spec_FirstFailure.l0 k (wrap64 ((i : Int) + 1)) (m : Int) l) (told (failA l L (L.drop (i + 1)))) := by
          rw [w_succ hi hl]; exact ih
        apply Ev.step
        · intro k
          simp only [spec_FirstFailure.l0]
          rw [if_pos (by omega)]
        · have h1 := down (P := fun j => Ev (fun k => spec_FirstFailure.l1 k (i : Int) (j : Int) (m : Int) l) (match failB l L[i] (L.drop j) with | none => told (failA l L (L.drop (i + 1))) | some (b, e) => ((L[i] : Int), (b : Int), (e : Int), true))) L.length
            (by
              apply Ev.step
              · intro k
                simp only [spec_FirstFailure.l1]
                rw [if_neg (by omega)]
              · rw [drop_end]; exact hih)
            (by
              intro j hj ihj
              have hjb := hL _ (List.getElem_mem hj)
              apply Ev.step
              · intro k
                simp only [spec_FirstFailure.l1]
                rw [if_pos (by omega)]
              · have h2 := specFail_l2 m hm l hl' i j (by omega) (by omega) L[i] L[j] (hrd i hi) (hrd j hj) hia hjb _ (by rw [w_succ hj hl]; exact ihj)
                rw [drop_cons L j hj]
                simp only [failB]
                generalize failE l L[i] L[j] (els (dif L[i] L[j])) = q at h2
                cases q with
                | none => exact h2
                | some e => exact h2)
          rw [drop_cons L i hi]
          simp only [failA]
          rw [List.drop_zero] at h1
          generalize failB l L[i] L = q at h1
          cases q with
          | none => exact h1
          | some x => exact h1)
    exact h
  · refine Ev.ifn hf ?_
    rw [if_neg hf]
    exact Ev.now _

end Go.Proofs.Ytinoamehdhgpgaa.Q

namespace Go.Proofs.Ytinoamehdhgpgaa.Q
open Go Go.RowKit Go.Proofs.Ytinoamehdhgpgaa.A Go.Proofs.YtinoamehdhgpgaaW.PrintWords Go.Proofs.YtinoamehdhgpgaaW.PrintLast Go.Proofs.YtinoamehdhgpgaaW.PrintMore Go.Proofs.Ytinoamehdhgpgaa.Z
set_option linter.unusedVariables false
set_option linter.unusedSimpArgs false

/-- A matroid: a family, not empty, without a failure of the exchange. -/
def matB (n : Int) (l : List Int) : Bool := famB n l && (decide ((l.length : Int) > 0) && !(failT n l).2.2.2)
theorem specMat_ev (n : Int) (l : List Int) (hl : l.length ≤ 17592186044416) : Ev (fun k => spec_IsMatroid.f k n l) (matB n l) := by
  unfold spec_IsMatroid.f matB
  refine Ev.bind (specFail_ev n l hl) (Ev.bind (specFam_ev n l hl) ?_)
  by_cases hf : famB n l = true
  · refine Ev.ifp hf ?_
    rw [hf, Bool.true_and]
    by_cases h0 : (l.length : Int) > 0
    · refine Ev.ifp h0 ?_
      rw [show decide ((l.length : Int) > 0) = true from by simpa using h0, Bool.true_and]
      exact Ev.now _
    · refine Ev.ifn h0 ?_
      rw [show decide ((l.length : Int) > 0) = false from by simpa using h0, Bool.false_and]
      exact Ev.now _
  · refine Ev.ifn hf ?_
    rw [Bool.eq_false_iff.2 hf, Bool.false_and]
    exact Ev.now _

end Go.Proofs.Ytinoamehdhgpgaa.Q

namespace Go.Proofs.Ytinoamehdhgpgaa.Q
open Go Go.RowKit Go.Proofs.YtinoamehdhgpgaaW.PrintWords Go.Proofs.YtinoamehdhgpgaaW.PrintLast Go.Proofs.YtinoamehdhgpgaaW.PrintMore Go.Proofs.Ytinoamehdhgpgaa.Z
set_option linter.unusedVariables false
set_option linter.unusedSimpArgs false

/-- What a matroid is, as numbers. -/
theorem matB_nat {n : Int} {l : List Int} (h : matB n l = true) : ∃ (m : Nat) (L : List Nat), n = m ∧ m ≤ 8 ∧ l = ints L ∧ (∀ x ∈ L, x < 2 ^ m) ∧ (∀ x ∈ L, x < 256) ∧ L.Pairwise (· < ·) ∧ L ≠ [] := by
  simp only [matB, Bool.and_eq_true, decide_eq_true_eq] at h
  obtain ⟨m, L, rfl, hm, rfl, hL, hp⟩ := famB_nat h.1
  refine ⟨m, L, rfl, hm, rfl, hL, fun x hx => Nat.lt_of_lt_of_le (hL x hx) (pow_le_256 hm), hp, ?_⟩
  rintro rfl
  simp at h
theorem ints_len (L : List Nat) : (ints L).length = L.length := List.length_map _
theorem ints_rd (L : List Nat) (i : Nat) (h : i < L.length) : rd (ints L) (i : Int) = (L[i] : Int) := by
  rw [rd_getElem _ i (by rw [ints_len]; exact h)]
  simp [ints]

end Go.Proofs.Ytinoamehdhgpgaa.Q

namespace Go.Proofs.Ytinoamehdhgpgaa.Q
open Go Go.RowKit Go.Proofs.Ytinoamehdhgpgaa.A Go.Proofs.YtinoamehdhgpgaaW.PrintWords Go.Proofs.YtinoamehdhgpgaaW.PrintLast Go.Proofs.YtinoamehdhgpgaaW.PrintMore Go.Proofs.Ytinoamehdhgpgaa.Z
set_option linter.unusedVariables false
set_option linter.unusedSimpArgs false

theorem pow_wrap {e : Nat} (he : e < 8) : IntKind.i64.wrap (2 ^ e) = ((2 ^ e : Nat) : Int) := by
  have h2 : (2 ^ e : Nat) < 9223372036854775808 := by
    have := Nat.pow_lt_pow_right (a := 2) (by decide) (show e < 63 by omega)
    simpa using this
  have h3 : (2 : Int) ^ e = ((2 ^ e : Nat) : Int) := by simp
  rw [h3]
  exact i64_wrap_nat h2
theorem implC_ev (l : List Int) (hl : l.length ≤ 17592186044416) (a e f : Nat) (ha : a < 256) (he : e < 8) (hf : f < 8) : Ev (fun k => impl_FirstFailure.c k l (a : Int) (e : Int) (f : Int)) (l.contains ((dif a (2 ^ e) ||| 2 ^ f : Nat) : Int)) := by
  unfold impl_FirstFailure.c impl_HasSet.f
  refine Ev.ifp (by omega) (Ev.ifp (by omega) ?_)
  have hp : ∀ x < 8, 2 ^ x < 2 ^ 63 := fun x hx => Nat.pow_lt_pow_right (by decide) (by omega)
  rw [Int.toNat_natCast, Int.toNat_natCast, pow_wrap he, pow_wrap hf, andNot_nat (lt256_63 ha) (hp e he), or_nat (lt256_63 (dif_lt ha)) (hp f hf)]
  exact Ev.bind (contains_ev l _ hl) (Ev.now _)
theorem els_lt {s e : Nat} (h : e ∈ els s) : e < 8 := (mem_els.1 h).1
theorem any_map (p : Int → Bool) (L : List Nat) : (L.map (fun x : Nat => (x : Int))).any p = L.any (fun x => p (x : Int)) := by
  rw [List.any_map]; rfl
theorem implFail_l2 (l : List Int) (hl : l.length ≤ 17592186044416) (a b : Nat) (ha : a < 256) (hb : b < 256) : ∀ es : List Nat, (∀ e ∈ es, e < 8) → Ev (fun k => impl_FirstFailure.l2 k l (a : Int) (b : Int) (es.map (fun x : Nat => (x : Int)))) ((failE l a b es).map (fun x : Nat => (x : Int))) := by
  intro es
  induction es with
  | nil => intro _; exact Ev.now _
  | cons e es ih =>
    intro hm
    have he := hm e (List.mem_cons_self ..)
    simp only [List.map_cons, impl_FirstFailure.l2]
    rw [andNot_nat (lt256_63 hb) (lt256_63 ha)]
    refine Ev.bind (implElements_ev _) ?_
    rw [elsB_nat (dif_lt hb)]
    refine Ev.bind (a := hasEx l a b e) ?_ ?_
    · have h := Ev_anyO (g := fun k f => impl_FirstFailure.c k l (a : Int) (e : Int) f) (p := fun f => l.contains ((dif a (2 ^ e) ||| 2 ^ f.toNat : Nat) : Int)) (l := (els (dif b a)).map (fun x : Nat => (x : Int)))
        (fun x hx => by
          obtain ⟨f, hf, rfl⟩ := List.mem_map.1 hx
          have := implC_ev l hl a e f ha he (els_lt hf)
          rw [Int.toNat_natCast]
          exact this)
      rw [any_map] at h
      simp only [Int.toNat_natCast] at h
      exact h
    · simp only [failE]
      by_cases hx : hasEx l a b e = true
      · refine Ev.ifp hx ?_
        rw [if_pos hx]
        exact ih (fun e' he' => hm e' (List.mem_cons_of_mem _ he'))
      · refine Ev.ifn hx ?_
        rw [if_neg hx]
        exact Ev.now _
theorem implFail_l1 (l : List Int) (hl : l.length ≤ 17592186044416) (a : Nat) (ha : a < 256) : ∀ bs : List Nat, (∀ b ∈ bs, b < 256) → Ev (fun k => impl_FirstFailure.l1 k l (a : Int) (bs.map (fun x : Nat => (x : Int)))) ((failB l a bs).map (fun x : Nat × Nat => ((x.1 : Int), (x.2 : Int)))) := by
  intro bs
  induction bs with
  | nil => intro _; exact Ev.now _
  | cons b bs ih =>
    intro hm
    have hb := hm b (List.mem_cons_self ..)
    simp only [List.map_cons, impl_FirstFailure.l1]
    rw [andNot_nat (lt256_63 ha) (lt256_63 hb)]
    refine Ev.bind (implElements_ev _) ?_
    rw [elsB_nat (dif_lt ha)]
    refine Ev.bind (implFail_l2 l hl a b ha hb _ (fun e he => els_lt he)) ?_
    simp only [failB]
    cases failE l a b (els (dif a b)) with
    | none => exact ih (fun b' hb' => hm b' (List.mem_cons_of_mem _ hb'))
    | some e => exact Ev.now _
theorem implFail_l0 (l : List Int) (L : List Nat) (hlL : l = L.map (fun x : Nat => (x : Int))) (hl : l.length ≤ 17592186044416) (hL : ∀ b ∈ L, b < 256) : ∀ la : List Nat, (∀ a ∈ la, a < 256) → Ev (fun k => impl_FirstFailure.l0 k l (la.map (fun x : Nat => (x : Int)))) ((failA l L la).map (fun x : Nat × Nat × Nat => ((x.1 : Int), (x.2.1 : Int), (x.2.2 : Int)))) := by
  intro la
  induction la with
  | nil => intro _; exact Ev.now _
  | cons a la ih =>
    intro hm
    have ha := hm a (List.mem_cons_self ..)
    simp only [List.map_cons, impl_FirstFailure.l0]
    refine Ev.bind (a := (failB l a L).map (fun x : Nat × Nat => ((x.1 : Int), (x.2 : Int)))) (by
      have := implFail_l1 l hl a ha L hL
      rw [← hlL] at this
      exact this) ?_
    simp only [failA]
    cases failB l a L with
    | none => exact ih (fun a' ha' => hm a' (List.mem_cons_of_mem _ ha'))
    | some x => exact Ev.now _
theorem implFail_ev (n : Int) (l : List Int) (hl : l.length ≤ 17592186044416) : Ev (fun k => impl_FirstFailure.f k n l) (failT n l) := by
  unfold impl_FirstFailure.f failT
  refine Ev.bind (implFam_ev n l hl) ?_
  by_cases hf : famB n l = true
  · refine Ev.ifp hf ?_
    rw [if_pos hf]
    obtain ⟨m, L, rfl, hm, hlL, hL, _⟩ := famB_nat hf
    have hmap : l.map Int.toNat = L := by rw [hlL, toNat_map]
    have h256 : ∀ b ∈ L, b < 256 := fun b hb => Nat.lt_of_lt_of_le (hL b hb) (pow_le_256 hm)
    have h := implFail_l0 l L hlL hl h256 L h256
    rw [← hlL] at h
    refine Ev.bind h ?_
    rw [hmap]
    cases failA l L L with
    | none => exact Ev.now _
    | some x => exact Ev.now _
  · refine Ev.ifn hf ?_
    rw [if_neg hf]
    exact Ev.now _

end Go.Proofs.Ytinoamehdhgpgaa.Q

namespace Go.Proofs.Ytinoamehdhgpgaa.Q
open Go Go.RowKit Go.Proofs.Ytinoamehdhgpgaa.A Go.Proofs.YtinoamehdhgpgaaW.PrintWords Go.Proofs.YtinoamehdhgpgaaW.PrintLast Go.Proofs.YtinoamehdhgpgaaW.PrintMore Go.Proofs.Ytinoamehdhgpgaa.Z
set_option linter.unusedVariables false
set_option linter.unusedSimpArgs false

theorem implMat_ev (n : Int) (l : List Int) (hl : l.length ≤ 17592186044416) : Ev (fun k => impl_IsMatroid.f k n l) (matB n l) := by
  unfold impl_IsMatroid.f matB
  refine Ev.bind (implFail_ev n l hl) (Ev.bind (implFam_ev n l hl) ?_)
  by_cases hf : famB n l = true
  · refine Ev.ifp hf ?_
    rw [hf, Bool.true_and]
    by_cases h0 : (l.length : Int) > 0
    · refine Ev.ifp h0 ?_
      rw [show decide ((l.length : Int) > 0) = true from by simpa using h0, Bool.true_and]
      exact Ev.now _
    · refine Ev.ifn h0 ?_
      rw [show decide ((l.length : Int) > 0) = false from by simpa using h0, Bool.false_and]
      exact Ev.now _
  · refine Ev.ifn hf ?_
    rw [Bool.eq_false_iff.2 hf, Bool.false_and]
    exact Ev.now _

end Go.Proofs.Ytinoamehdhgpgaa.Q

namespace Go.Proofs.Ytinoamehdhgpgaa.Q
open Go Go.RowKit Go.Proofs.Ytinoamehdhgpgaa.A Go.Proofs.YtinoamehdhgpgaaW.PrintWords Go.Proofs.YtinoamehdhgpgaaW.PrintLast Go.Proofs.YtinoamehdhgpgaaW.PrintMore Go.Proofs.Ytinoamehdhgpgaa.Z
set_option linter.unusedVariables false
set_option linter.unusedSimpArgs false

def fullN (m : Nat) : Nat := 2 ^ m - 1
theorem full_sub_all : ∀ m < 9, ∀ u < 256, (!decide (u < 2 ^ m) || (decide (fullN m - u = dif (fullN m) u) && decide (fullN m < 2 ^ m))) = true := by decide +kernel
theorem full_sub {m u : Nat} (hm : m ≤ 8) (hu : u < 2 ^ m) : fullN m - u = dif (fullN m) u ∧ fullN m < 2 ^ m ∧ fullN m < 256 := by
  have h256 := Nat.lt_of_lt_of_le hu (pow_le_256 hm)
  have h := full_sub_all m (by omega) u h256
  rw [show decide (u < 2 ^ m) = true from by simpa using hu] at h
  simp only [Bool.not_true, Bool.false_or, Bool.and_eq_true, decide_eq_true_eq] at h
  exact ⟨h.1, h.2, Nat.lt_of_lt_of_le h.2 (pow_le_256 hm)⟩
theorem full_lt {m : Nat} (hm : m ≤ 8) : fullN m < 2 ^ m ∧ fullN m < 256 := (full_sub hm (Nat.two_pow_pos m)).2
theorem full_bit (m i : Nat) : (fullN m).testBit i = decide (i < m) := Nat.testBit_two_pow_sub_one m i
theorem specFull_eq {m : Nat} (hm : m ≤ 8) : spec_FullSet.f (m : Int) = some ((fullN m : Nat) : Int) := by
  unfold spec_FullSet.f fullN
  have hp := pow_le_256 hm
  have h0 := Nat.two_pow_pos m
  rw [l1In_eq, Option.bind_some, if_pos (by simp; omega), if_pos (u64_nonneg _), u64_of (by omega) (by omega), shl_one (by omega)]
  generalize 2 ^ m = q at *
  rw [wrap64_of (by omega) (by omega)]
  congr 1
  omega
theorem implFull_eq {m : Nat} (hm : m ≤ 8) : impl_FullSet.f (m : Int) = some ((fullN m : Nat) : Int) := by
  unfold impl_FullSet.f fullN
  have hp := pow_le_256 hm
  have h0 := Nat.two_pow_pos m
  rw [isSize_eq, Option.bind_some, if_pos (by simp; omega), if_pos (by omega), shl_one (by omega)]
  generalize 2 ^ m = q at *
  rw [wrap64_of (by omega) (by omega)]
  congr 1
  omega

end Go.Proofs.Ytinoamehdhgpgaa.Q

namespace Go.Proofs.Ytinoamehdhgpgaa.Q
open Go Go.RowKit Go.Proofs.Ytinoamehdhgpgaa.A Go.Proofs.YtinoamehdhgpgaaW.PrintWords Go.Proofs.YtinoamehdhgpgaaW.PrintLast Go.Proofs.YtinoamehdhgpgaaW.PrintMore Go.Proofs.Ytinoamehdhgpgaa.Z
set_option linter.unusedVariables false
set_option linter.unusedSimpArgs false

theorem sub_and_all : ∀ a < 256, ∀ b < 256, decide (a - (a &&& b) = dif a b) = true := by decide +kernel
theorem sub_and {a b : Nat} (ha : a < 256) (hb : b < 256) : wrap64 ((a : Int) - ((a &&& b : Nat) : Int)) = ((dif a b : Nat) : Int) := by
  have h := of_decide_eq_true (sub_and_all a ha b hb)
  have h1 : a &&& b ≤ a := Nat.and_le_left
  rw [wrap64_of (by omega) (by omega), ← h]
  omega
def loopsN (acc : Nat) (L : List Nat) : Nat := L.foldl dif acc
def coloopsN (acc : Nat) (L : List Nat) : Nat := L.foldl (fun a b => a &&& b) acc
theorem loopsN_bit (L : List Nat) (i : Nat) : ∀ acc : Nat, (loopsN acc L).testBit i = (acc.testBit i && L.all (fun b => !b.testBit i)) := by
  induction L with
  | nil => intro acc; simp [loopsN]
  | cons b L ih =>
    intro acc
    have := ih (dif acc b)
    unfold loopsN at this ⊢
    rw [List.foldl_cons, this, dif_bit, List.all_cons, Bool.and_assoc]
theorem coloopsN_bit (L : List Nat) (i : Nat) : ∀ acc : Nat, (coloopsN acc L).testBit i = (acc.testBit i && L.all (fun b => b.testBit i)) := by
  induction L with
  | nil => intro acc; simp [coloopsN]
  | cons b L ih =>
    intro acc
    have := ih (acc &&& b)
    unfold coloopsN at this ⊢
    rw [List.foldl_cons, this, Nat.testBit_and, List.all_cons, Bool.and_assoc]
theorem loopsN_lt (L : List Nat) : ∀ acc : Nat, acc < 256 → loopsN acc L < 256 := by
  induction L with
  | nil => intro acc h; exact h
  | cons b L ih => intro acc h; exact ih _ (dif_lt h)
theorem coloopsN_lt (L : List Nat) : ∀ acc : Nat, acc < 256 → coloopsN acc L < 256 := by
  induction L with
  | nil => intro acc h; exact h
  | cons b L ih => intro acc h; exact ih _ (and_lt h)
def loopsB (n : Int) (l : List Int) : Int := if matB n l = true then ((loopsN (fullN n.toNat) (l.map Int.toNat) : Nat) : Int) else 0
def coloopsB (n : Int) (l : List Int) : Int := if matB n l = true then ((coloopsN (fullN n.toNat) (l.map Int.toNat) : Nat) : Int) else 0
theorem specLoops_ev (n : Int) (l : List Int) (hl : l.length ≤ 17592186044416) : Ev (fun k => spec_LoopsOf.f k n l) (loopsB n l) := by
  unfold spec_LoopsOf.f loopsB
  refine Ev.bind (specMat_ev n l hl) ?_
  by_cases h : matB n l = true
  · refine Ev.ifp h ?_
    rw [if_pos h]
    obtain ⟨m, L, rfl, hm, rfl, hL, hL256, _, _⟩ := matB_nat h
    rw [show (ints L).map Int.toNat = L from toNat_map L, Int.toNat_natCast]
    rw [ints_len] at hl
    refine Ev.cbind (specFull_eq hm) ?_
    have hd := down (P := fun i => ∀ acc : Nat, acc < 256 → Ev (fun k => spec_LoopsOf.l0 k (acc : Int) (i : Int) (m : Int) (ints L)) ((loopsN acc (L.drop i) : Nat) : Int)) L.length
      (by
        intro acc _
        apply Ev.step
        · intro k
          simp only [spec_LoopsOf.l0]
          rw [if_neg (by rw [ints_len]; omega)]
        · rw [drop_end]; exact Ev.now _)
      (by
        intro i hi ih acc ha
        have hb := hL256 _ (List.getElem_mem hi)
        apply Ev.step
        · intro k
          simp only [spec_LoopsOf.l0]
          rw [if_pos (by rw [ints_len]; omega), if_pos (by omega), ints_rd L i hi, w_succ hi hl, and_nat (lt256_63 ha) (lt256_63 hb), sub_and ha hb]
        · rw [drop_cons L i hi]; exact ih _ (dif_lt ha))
    exact hd (fullN m) (full_lt hm).2
  · refine Ev.ifn h ?_
    rw [if_neg h]; exact Ev.now _
theorem implLoops_ev (n : Int) (l : List Int) (hl : l.length ≤ 17592186044416) : Ev (fun k => impl_LoopsOf.f k n l) (loopsB n l) := by
  unfold impl_LoopsOf.f loopsB
  refine Ev.bind (implMat_ev n l hl) ?_
  by_cases h : matB n l = true
  · refine Ev.ifp h ?_
    rw [if_pos h]
    obtain ⟨m, L, rfl, hm, rfl, hL, hL256, _, _⟩ := matB_nat h
    rw [show (ints L).map Int.toNat = L from toNat_map L, Int.toNat_natCast]
    rw [ints_len] at hl
    refine Ev.cbind (implFull_eq hm) ?_
    have hd := down (P := fun i => ∀ acc : Nat, acc < 256 → Ev (fun k => impl_LoopsOf.l0 k (acc : Int) (ints L) ((ints L).length : Int) (i : Int)) ((loopsN acc (L.drop i) : Nat) : Int)) L.length
      (by
        intro acc _
        apply Ev.step
        · intro k
          simp only [impl_LoopsOf.l0]
          rw [if_neg (by rw [ints_len]; omega)]
        · rw [drop_end]; exact Ev.now _)
      (by
        intro i hi ih acc ha
        have hb := hL256 _ (List.getElem_mem hi)
        apply Ev.step
        · intro k
          simp only [impl_LoopsOf.l0]
          rw [if_pos (by rw [ints_len]; omega), if_pos (by omega), if_pos (by rw [ints_len]; omega), ints_rd L i hi, w_succ hi hl, andNot_nat (lt256_63 ha) (lt256_63 hb)]
        · rw [drop_cons L i hi]; exact ih _ (dif_lt ha))
    exact hd (fullN m) (full_lt hm).2
  · refine Ev.ifn h ?_
    rw [if_neg h]; exact Ev.now _

end Go.Proofs.Ytinoamehdhgpgaa.Q

namespace Go.Proofs.Ytinoamehdhgpgaa.Q
open Go Go.RowKit Go.Proofs.Ytinoamehdhgpgaa.A Go.Proofs.YtinoamehdhgpgaaW.PrintWords Go.Proofs.YtinoamehdhgpgaaW.PrintLast Go.Proofs.YtinoamehdhgpgaaW.PrintMore Go.Proofs.Ytinoamehdhgpgaa.Z
set_option linter.unusedVariables false
set_option linter.unusedSimpArgs false

theorem specColoops_ev (n : Int) (l : List Int) (hl : l.length ≤ 17592186044416) : Ev (fun k => spec_ColoopsOf.f k n l) (coloopsB n l) := by
  unfold spec_ColoopsOf.f coloopsB
  refine Ev.bind (specMat_ev n l hl) ?_
  by_cases h : matB n l = true
  · refine Ev.ifp h ?_
    rw [if_pos h]
    obtain ⟨m, L, rfl, hm, rfl, hL, hL256, _, _⟩ := matB_nat h
    rw [show (ints L).map Int.toNat = L from toNat_map L, Int.toNat_natCast]
    rw [ints_len] at hl
    refine Ev.cbind (specFull_eq hm) ?_
    have hd := down (P := fun i => ∀ acc : Nat, acc < 256 → Ev (fun k => spec_ColoopsOf.l0 k (acc : Int) (i : Int) (m : Int) (ints L)) ((coloopsN acc (L.drop i) : Nat) : Int)) L.length
      (by
        intro acc _
        apply Ev.step
        · intro k
          simp only [spec_ColoopsOf.l0]
          rw [if_neg (by rw [ints_len]; omega)]
        · rw [drop_end]; exact Ev.now _)
      (by
        intro i hi ih acc ha
        have hb := hL256 _ (List.getElem_mem hi)
        apply Ev.step
        · intro k
          simp only [spec_ColoopsOf.l0]
          rw [if_pos (by rw [ints_len]; omega), if_pos (by omega), ints_rd L i hi, w_succ hi hl, and_nat (lt256_63 ha) (lt256_63 hb)]
        · rw [drop_cons L i hi]; exact ih _ (and_lt ha))
    exact hd (fullN m) (full_lt hm).2
  · refine Ev.ifn h ?_
    rw [if_neg h]; exact Ev.now _
theorem implColoops_ev (n : Int) (l : List Int) (hl : l.length ≤ 17592186044416) : Ev (fun k => impl_ColoopsOf.f k n l) (coloopsB n l) := by
  unfold impl_ColoopsOf.f coloopsB
  refine Ev.bind (implMat_ev n l hl) ?_
  by_cases h : matB n l = true
  · refine Ev.ifp h ?_
    rw [if_pos h]
    obtain ⟨m, L, rfl, hm, rfl, hL, hL256, _, _⟩ := matB_nat h
    rw [show (ints L).map Int.toNat = L from toNat_map L, Int.toNat_natCast]
    rw [ints_len] at hl
    refine Ev.cbind (implFull_eq hm) ?_
    have hd := down (P := fun i => ∀ acc : Nat, acc < 256 → Ev (fun k => impl_ColoopsOf.l0 k (acc : Int) (ints L) ((ints L).length : Int) (i : Int)) ((coloopsN acc (L.drop i) : Nat) : Int)) L.length
      (by
        intro acc _
        apply Ev.step
        · intro k
          simp only [impl_ColoopsOf.l0]
          rw [if_neg (by rw [ints_len]; omega)]
        · rw [drop_end]; exact Ev.now _)
      (by
        intro i hi ih acc ha
        have hb := hL256 _ (List.getElem_mem hi)
        apply Ev.step
        · intro k
          simp only [impl_ColoopsOf.l0]
          rw [if_pos (by rw [ints_len]; omega), if_pos (by omega), if_pos (by rw [ints_len]; omega), ints_rd L i hi, w_succ hi hl, and_nat (lt256_63 ha) (lt256_63 hb)]
        · rw [drop_cons L i hi]; exact ih _ (and_lt ha))
    exact hd (fullN m) (full_lt hm).2
  · refine Ev.ifn h ?_
    rw [if_neg h]; exact Ev.now _

end Go.Proofs.Ytinoamehdhgpgaa.Q

namespace Go.Proofs.Ytinoamehdhgpgaa.Q
open Go Go.RowKit Go.Proofs.Ytinoamehdhgpgaa.A Go.Proofs.YtinoamehdhgpgaaW.PrintWords Go.Proofs.YtinoamehdhgpgaaW.PrintLast Go.Proofs.YtinoamehdhgpgaaW.PrintMore Go.Proofs.Ytinoamehdhgpgaa.Z
set_option linter.unusedVariables false
set_option linter.unusedSimpArgs false

def areW (n : Int) (w : List Int) : Bool := w.all (fun x => decide (-1000 ≤ x) && decide (x ≤ 1000)) && (decide (0 ≤ n) && decide (n ≤ 8)) && decide ((w.length : Int) = n)
theorem specAreWeights_l0 (n : Int) (l : List Int) (hl : l.length ≤ 17592186044416) : ∀ (rest pre : List Int), l = pre ++ rest → Ev (fun k => spec_AreWeights.l0 k n l (pre.length : Int)) (rest.all (fun x => decide (-1000 ≤ x) && decide (x ≤ 1000)) && (decide (0 ≤ n) && decide (n ≤ 8)) && decide ((l.length : Int) = n)) := by
  intro rest
  induction rest with
  | nil =>
    intro pre h
    apply Ev.step
    · intro k
      simp only [spec_AreWeights.l0, l1In_eq]
      rw [if_neg (by rw [h]; simp)]
    · simp only [Option.bind_some]
      by_cases hn : (decide (0 ≤ n) && decide (n ≤ 8)) = true
      · refine Ev.ifp hn ?_
        simp only [List.all_nil, hn, Bool.true_and]
        exact Ev.now _
      · refine Ev.ifn hn ?_
        simp only [List.all_nil, Bool.eq_false_iff.2 hn, Bool.false_and, Bool.true_and]
        exact Ev.now _
  | cons x rest ih =>
    intro pre h
    have hlen : (pre.length : Int) < (l.length : Int) := by rw [h]; simp; omega
    have e1 : rd l (pre.length : Int) = x := by rw [h]; exact rd_mid _ _ _
    apply Ev.step
    · intro k
      simp only [spec_AreWeights.l0, l1In_eq]
      rw [if_pos hlen, if_pos (by omega), e1]
    · simp only [Option.bind_some]
      by_cases hx : (decide (-1000 ≤ x) && decide (x ≤ 1000)) = true
      · refine Ev.ifp hx ?_
        have e : wrap64 ((pre.length : Int) + 1) = ((pre ++ [x]).length : Int) := by
          rw [wrap64_of (by omega) (by omega)]; simp
        rw [e]
        simpa only [List.all_cons, hx, Bool.true_and] using ih (pre ++ [x]) (by rw [h]; simp)
      · refine Ev.ifn hx ?_
        simp only [List.all_cons, Bool.eq_false_iff.2 hx, Bool.false_and]
        exact Ev.now _
theorem specAreWeights_ev (n : Int) (l : List Int) (hl : l.length ≤ 17592186044416) : Ev (fun k => spec_AreWeights.f k n l) (areW n l) :=
  specAreWeights_l0 n l hl l [] rfl
theorem implAreWeights_l0 (n : Int) (l : List Int) (hl : l.length ≤ 17592186044416) : ∀ (rest pre : List Int), l = pre ++ rest → Ev (fun k => impl_AreWeights.l0 k n l l (l.length : Int) (pre.length : Int)) (rest.all (fun x => decide (-1000 ≤ x) && decide (x ≤ 1000)) && (decide (0 ≤ n) && decide (n ≤ 8)) && decide ((l.length : Int) = n)) := by
  intro rest
  induction rest with
  | nil =>
    intro pre h
    apply Ev.step
    · intro k
      simp only [impl_AreWeights.l0, isSize_eq]
      rw [if_neg (by rw [h]; simp)]
    · simp only [Option.bind_some]
      by_cases hn : (decide (0 ≤ n) && decide (n ≤ 8)) = true
      · refine Ev.ifp hn ?_
        simp only [List.all_nil, hn, Bool.true_and]
        exact Ev.now _
      · refine Ev.ifn hn ?_
        simp only [List.all_nil, Bool.eq_false_iff.2 hn, Bool.false_and, Bool.true_and]
        exact Ev.now _
  | cons x rest ih =>
    intro pre h
    have hlen : (pre.length : Int) < (l.length : Int) := by rw [h]; simp; omega
    have e1 : rd l (pre.length : Int) = x := by rw [h]; exact rd_mid _ _ _
    apply Ev.step
    · intro k
      simp only [impl_AreWeights.l0, isSize_eq]
      rw [if_pos hlen, if_pos (by omega), if_pos hlen, e1]
    · by_cases h1 : x < -1000
      · refine Ev.ifp h1 ?_
        have : (decide (-1000 ≤ x)) = false := by simp; omega
        simp only [List.all_cons, this, Bool.false_and]
        exact Ev.now _
      · refine Ev.ifn h1 ?_
        by_cases h2 : x > 1000
        · refine Ev.ifp h2 ?_
          have : (decide (x ≤ 1000)) = false := by simp; omega
          simp only [List.all_cons, this, Bool.false_and, Bool.and_false]
          exact Ev.now _
        · refine Ev.ifn h2 ?_
          have hx : (decide (-1000 ≤ x) && decide (x ≤ 1000)) = true := by simp; omega
          have e : wrap64 ((pre.length : Int) + 1) = ((pre ++ [x]).length : Int) := by
            rw [wrap64_of (by omega) (by omega)]; simp
          rw [e]
          simpa only [List.all_cons, hx, Bool.true_and] using ih (pre ++ [x]) (by rw [h]; simp)
theorem implAreWeights_ev (n : Int) (l : List Int) (hl : l.length ≤ 17592186044416) : Ev (fun k => impl_AreWeights.f k n l) (areW n l) :=
  implAreWeights_l0 n l hl l [] rfl

end Go.Proofs.Ytinoamehdhgpgaa.Q

namespace Go.Proofs.Ytinoamehdhgpgaa.Q
open Go Go.RowKit Go.Proofs.Ytinoamehdhgpgaa.A Go.Proofs.YtinoamehdhgpgaaW.PrintWords Go.Proofs.YtinoamehdhgpgaaW.PrintLast Go.Proofs.YtinoamehdhgpgaaW.PrintMore Go.Proofs.Ytinoamehdhgpgaa.Z
set_option linter.unusedVariables false
set_option linter.unusedSimpArgs false

/-- The sum of the weights at some places, beginning with acc. -/
def wfold (w : List Int) (acc : Int) (es : List Nat) : Int := es.foldl (fun (a : Int) (e : Nat) => wrap64 (a + rd w (e : Int))) acc
def weightB (w : List Int) (s : Int) : Int := wfold w 0 ((List.range 8).filter (fun e : Nat => decide (e < w.length) && hasB s (e : Int)))
theorem filter_range_swap (p : Nat → Bool) (a b : Nat) : (List.range a).filter (fun e => decide (e < b) && p e) = (List.range (min a b)).filter p := by
  induction a with
  | zero => simp
  | succ a ih =>
    rw [List.range_succ, List.filter_append, ih]
    by_cases h : a < b
    · rw [show min (a + 1) b = min a b + 1 from by omega, List.range_succ, List.filter_append]
      have e : min a b = a := by omega
      rw [e]
      congr 1
      simp [List.filter_cons, h]
    · rw [show min (a + 1) b = min a b from by omega]
      simp [List.filter_cons, h]
theorem specWeight_ev (w : List Int) (s : Int) (hl : w.length ≤ 17592186044416) : Ev (fun k => spec_WeightOf.f k w s) (weightB w s) := by
  have h := down (P := fun i => ∀ acc : Int, Ev (fun k => spec_WeightOf.l0 k w s acc (i : Int)) (wfold w acc ((List.range' i (w.length - i)).filter (fun e : Nat => hasB s (e : Int))))) w.length
    (by
      intro acc
      apply Ev.step
      · intro k
        simp only [spec_WeightOf.l0, specHas_eq, Option.bind_some]
        rw [if_neg (by omega)]
      · simpa [wfold] using Ev.now _)
    (by
      intro i hi ih acc
      apply Ev.step
      · intro k
        simp only [spec_WeightOf.l0, specHas_eq, Option.bind_some]
        rw [if_pos (by omega), w_succ hi hl]
      · rw [range'_cons hi, List.filter_cons]
        by_cases hx : hasB s (i : Int) = true
        · refine Ev.ifp hx (Ev.ifp (by omega) ?_)
          rw [if_pos hx]
          exact ih (wrap64 (acc + rd w (i : Int)))
        · refine Ev.ifn hx ?_
          rw [if_neg hx]
          exact ih acc)
  have h0 := h 0
  have e : (List.range' 0 (w.length - 0)).filter (fun e : Nat => hasB s (e : Int)) = (List.range 8).filter (fun e : Nat => decide (e < w.length) && hasB s (e : Int)) := by
    rw [Nat.sub_zero, ← List.range_eq_range', filter_range_swap, Nat.min_comm, ← filter_range_swap]
    apply List.filter_congr
    intro e _
    cases hq : hasB s (e : Int) with
    | false => simp
    | true =>
      have : e < 8 := by
        unfold hasB at hq
        simp only [Bool.and_eq_true, decide_eq_true_eq] at hq
        omega
      simp [this]
  rw [e] at h0
  exact h0
theorem implWeight_ev (w : List Int) (s : Int) (hl : w.length ≤ 17592186044416) : Ev (fun k => impl_WeightOf.f k w s) (weightB w s) := by
  unfold impl_WeightOf.f
  refine Ev.bind (implElements_ev s) ?_
  have hmem := @elsB_mem s
  have hlen := elsB_len s
  have key : weightB w s = (elsB s).foldl (fun a x => if x < (w.length : Int) then wrap64 (a + rd w x) else a) 0 := by
    unfold weightB wfold elsB
    rw [List.foldl_map]
    generalize (0 : Int) = acc
    generalize List.range 8 = l
    induction l generalizing acc with
    | nil => rfl
    | cons e l ih =>
      simp only [List.filter_cons]
      by_cases h1 : hasB s (e : Int) = true
      · by_cases h2 : e < w.length
        · rw [if_pos (by simp [h1, h2]), if_pos h1]
          simp only [List.foldl_cons]
          rw [if_pos (by omega)]
          exact ih _
        · rw [if_neg (by rw [show decide (e < w.length) = false from by simpa using h2]; simp), if_pos h1]
          simp only [List.foldl_cons]
          rw [if_neg (by omega)]
          exact ih _
      · rw [if_neg (by simp [h1]), if_neg h1]
        exact ih _
  rw [key]
  generalize elsB s = es at hmem hlen
  have h := down (P := fun i => ∀ acc : Int, Ev (fun k => impl_WeightOf.l0 k w acc es (es.length : Int) (i : Int)) ((es.drop i).foldl (fun a x => if x < (w.length : Int) then wrap64 (a + rd w x) else a) acc)) es.length
    (by
      intro acc
      apply Ev.step
      · intro k
        simp only [impl_WeightOf.l0]
        rw [if_neg (by omega)]
      · rw [drop_end]; exact Ev.now _)
    (by
      intro i hi ih acc
      obtain ⟨e, he, h8, _⟩ := hmem (List.getElem_mem hi)
      apply Ev.step
      · intro k
        simp only [impl_WeightOf.l0]
        rw [if_pos (by omega), if_pos (by omega), if_pos (by omega), rd_getElem es i hi, w_succ hi (by omega)]
      · rw [drop_cons es i hi, List.foldl_cons]
        by_cases hx : es[i] < (w.length : Int)
        · refine Ev.ifp hx (Ev.ifp (by omega) ?_)
          rw [if_pos hx]
          exact ih _
        · refine Ev.ifn hx ?_
          rw [if_neg hx]
          exact ih _)
  exact h 0

end Go.Proofs.Ytinoamehdhgpgaa.Q

namespace Go.Proofs.Ytinoamehdhgpgaa.Q
open Go Go.RowKit Go.Proofs.Ytinoamehdhgpgaa.A Go.Proofs.YtinoamehdhgpgaaW.PrintWords Go.Proofs.YtinoamehdhgpgaaW.PrintLast Go.Proofs.YtinoamehdhgpgaaW.PrintMore Go.Proofs.Ytinoamehdhgpgaa.Z
set_option linter.unusedVariables false
set_option linter.unusedSimpArgs false

theorem specCount_l0 : ∀ (d x : Nat), x ≤ d → x < 256 → ∀ acc : Int, 0 ≤ acc → acc + (d : Int) ≤ 1000 → Ev (fun k => spec_CountOf.l0 k (x : Int) acc) (acc + (pc x : Int)) := by
  intro d
  induction d with
  | zero =>
    intro x hx _ acc h0 h1
    obtain rfl : x = 0 := by omega
    apply Ev.step
    · intro k
      simp only [spec_CountOf.l0]
      rw [if_neg (by decide)]
    · rw [pc_zero, show acc + ((0 : Nat) : Int) = acc from by omega]
      exact Ev.now _
  | succ d ih =>
    intro x hx h256 acc h0 h1
    by_cases hz : x = 0
    · subst hz
      exact ih 0 (by omega) h256 acc h0 (by omega)
    · have hb : Go.bits .and .i64 (x : Int) 1 = ((x % 2 : Nat) : Int) := by
        have := and_nat (a := x) (b := 1) (lt256_63 h256) (by decide)
        rw [Nat.and_one_is_mod] at this
        exact this
      apply Ev.step
      · intro k
        simp only [spec_CountOf.l0]
        rw [if_pos (by omega), hb, wrap64_of (by omega) (by omega), show (x : Int) / 2 = ((x / 2 : Nat) : Int) from by omega]
      · have hp := pc_step x h256
        have hl := pc_le (x / 2)
        have := ih (x / 2) (by omega) (by omega) (acc + ((x % 2 : Nat) : Int)) (by omega) (by omega)
        rw [show acc + ((x % 2 : Nat) : Int) + (pc (x / 2) : Int) = acc + (pc x : Int) from by omega] at this
        exact this
theorem specCount_ev (s : Nat) (h : s < 256) : Ev (fun k => spec_CountOf.f k (s : Int)) (pc s : Int) := by
  unfold spec_CountOf.f
  refine Ev.cbind (specIsSet_eq _ _) (Ev.ifp ?_ ?_)
  · rw [isSet8, isAnyB_nat]; simpa using h
  · have := specCount_l0 s s (Nat.le_refl _) h 0 (by omega) (by omega)
    rw [Int.zero_add] at this
    exact this
/-- CountOf at whatever number. -/
def countB (s : Int) : Int := if isAnyB s = true then (pc s.toNat : Int) else 0
theorem specCountB_ev (s : Int) : Ev (fun k => spec_CountOf.f k s) (countB s) := by
  by_cases h : isAnyB s = true
  · obtain ⟨t, rfl, ht⟩ := isAnyB_lt h
    rw [countB, if_pos h, Int.toNat_natCast]
    exact specCount_ev t ht
  · unfold spec_CountOf.f
    rw [countB, if_neg h]
    refine Ev.cbind (specIsSet_eq _ _) (Ev.ifn ?_ (Ev.now _))
    rw [isSet8]; exact h
theorem countB_nat {s : Nat} (h : s < 256) : countB (s : Int) = (pc s : Int) := by
  rw [countB, if_pos (by rw [isAnyB_nat]; simpa using h), Int.toNat_natCast]

end Go.Proofs.Ytinoamehdhgpgaa.Q

namespace Go.Proofs.Ytinoamehdhgpgaa.Q
open Go Go.RowKit Go.Proofs.Ytinoamehdhgpgaa.A Go.Proofs.YtinoamehdhgpgaaW.PrintWords Go.Proofs.YtinoamehdhgpgaaW.PrintLast Go.Proofs.YtinoamehdhgpgaaW.PrintMore Go.Proofs.Ytinoamehdhgpgaa.Z
set_option linter.unusedVariables false
set_option linter.unusedSimpArgs false

theorem l1Max_eq (a b : Int) : spec_l1Max.f a b = some (max a b) := by
  unfold spec_l1Max.f
  by_cases h : a > b
  · rw [if_pos h]; congr 1; omega
  · rw [if_neg h]; congr 1; omega
theorem specRank_ev (n : Int) (L : List Nat) (s : Nat) (hl : L.length ≤ 17592186044416) (hL : ∀ b ∈ L, b < 256) (hs : s < 256) : Ev (fun k => spec_l5Rank.f k n (ints L) (s : Int)) (rkN L s : Int) := by
  have h := down (P := fun i => ∀ acc : Nat, Ev (fun k => spec_l5Rank.l0 k (s : Int) (acc : Int) (i : Int) n (ints L)) ((maxN acc ((L.drop i).map (fun b => pc (b &&& s))) : Nat) : Int)) L.length
    (by
      intro acc
      apply Ev.step
      · intro k
        simp only [spec_l5Rank.l0]
        rw [if_neg (by rw [ints_len]; omega)]
      · rw [drop_end]; exact Ev.now _)
    (by
      intro i hi ih acc
      have hb := hL _ (List.getElem_mem hi)
      apply Ev.step
      · intro k
        simp only [spec_l5Rank.l0, l1Max_eq, Option.bind_some]
        rw [if_pos (by rw [ints_len]; omega), if_pos (by omega), ints_rd L i hi, w_succ hi hl, and_nat (lt256_63 hb) (lt256_63 hs)]
      · refine Ev.bind (specCount_ev _ (and_lt hb)) ?_
        rw [drop_cons L i hi, List.map_cons, maxN_cons]
        have := ih (max acc (pc (L[i] &&& s)))
        rw [show ((max acc (pc (L[i] &&& s)) : Nat) : Int) = max (acc : Int) (pc (L[i] &&& s) : Int) from by omega] at this
        exact this)
  exact h 0
theorem specFree_ev (n : Int) (L : List Nat) (s : Nat) (hl : L.length ≤ 17592186044416) (hL : ∀ b ∈ L, b < 256) (hne : L ≠ []) (hs : s < 256) : Ev (fun k => spec_l20Free.f k n (ints L) (s : Int)) (indN L s) := by
  unfold spec_l20Free.f
  refine Ev.bind (specRank_ev n L s hl hL hs) (Ev.bind (specCount_ev s hs) ?_)
  have : ((rkN L s : Int) == (pc s : Int)) = indN L s := by
    rw [Bool.eq_iff_iff, ← rk_eq_iff hs hne]
    simp only [beq_iff_eq]
    omega
  rw [this]
  exact Ev.now _

end Go.Proofs.Ytinoamehdhgpgaa.Q

namespace Go.Proofs.Ytinoamehdhgpgaa.Q
open Go Go.RowKit Go.Proofs.Ytinoamehdhgpgaa.A Go.Proofs.YtinoamehdhgpgaaW.PrintWords Go.Proofs.YtinoamehdhgpgaaW.PrintLast Go.Proofs.YtinoamehdhgpgaaW.PrintMore Go.Proofs.Ytinoamehdhgpgaa.Z
set_option linter.unusedVariables false
set_option linter.unusedSimpArgs false

theorem rd_bound {w : List Int} (hw : ∀ x ∈ w, -1000 ≤ x ∧ x ≤ 1000) (e : Nat) : -1000 ≤ rd w (e : Int) ∧ rd w (e : Int) ≤ 1000 := by
  by_cases h : e < w.length
  · exact hw _ (rd_mem w (e : Int) (by omega) (by omega))
  · have hz : rd w (e : Int) = 0 := by
      rw [rd_nat, List.getD_eq_getElem?_getD, List.getElem?_eq_none (show w.length ≤ e by omega)]
      rfl
    rw [hz]; omega
theorem isum_bound {α : Type} {f : α → Int} {l : List α} (h : ∀ i ∈ l, -1000 ≤ f i ∧ f i ≤ 1000) : -1000 * (l.length : Int) ≤ (l.map f).sum ∧ (l.map f).sum ≤ 1000 * (l.length : Int) := by
  induction l with
  | nil => simp
  | cons x l ih =>
    have h1 := h x (List.mem_cons_self ..)
    have h2 := ih (fun i hi => h i (List.mem_cons_of_mem _ hi))
    simp only [List.map_cons, List.sum_cons, List.length_cons]
    omega
theorem isum_add {α : Type} (f g : α → Int) (l : List α) : (l.map (fun i => f i + g i)).sum = (l.map f).sum + (l.map g).sum := by
  induction l with
  | nil => rfl
  | cons x l ih => simp only [List.map_cons, List.sum_cons, ih]; omega
theorem isum_one (e : Nat) (c : Int) : ∀ n : Nat, ((List.range n).map (fun i => if i = e then c else 0)).sum = if e < n then c else 0 := by
  intro n
  induction n with
  | zero => rfl
  | succ n ih =>
    rw [List.range_succ, List.map_append, List.sum_append, ih]
    simp only [List.map_cons, List.map_nil, List.sum_cons, List.sum_nil]
    by_cases h1 : e < n
    · rw [if_pos h1, if_neg (by omega), if_pos (by omega)]; omega
    · rw [if_neg h1]
      by_cases h2 : n = e
      · rw [if_pos h2, if_pos (by omega)]; omega
      · rw [if_neg h2, if_neg (by omega)]; omega
theorem wfold_sum {w : List Int} (hw : ∀ x ∈ w, -1000 ≤ x ∧ x ≤ 1000) (p : Nat → Bool) (l : List Nat) : ∀ acc : Int, -1000000 + 1000 * (l.length : Int) ≤ acc → acc ≤ 1000000 - 1000 * (l.length : Int) → wfold w acc (l.filter p) = acc + (l.map (fun e => if p e = true then rd w (e : Int) else 0)).sum := by
  induction l with
  | nil => intro acc _ _; simp [wfold]
  | cons x l ih =>
    intro acc h0 h1
    have hb := rd_bound hw x
    simp only [List.length_cons] at h0 h1
    simp only [List.map_cons, List.sum_cons, List.filter_cons]
    by_cases h : p x = true
    · rw [if_pos h, if_pos h]
      have := ih (wrap64 (acc + rd w (x : Int))) (by rw [wrap64_of (by omega) (by omega)]; omega) (by rw [wrap64_of (by omega) (by omega)]; omega)
      unfold wfold at this ⊢
      rw [List.foldl_cons, this, wrap64_of (by omega) (by omega)]
      omega
    · rw [if_neg h, if_neg h, ih acc (by omega) (by omega)]
      omega
/-- One element's share in a set's weight. -/
def wOf (w : List Int) (s i : Nat) : Int := if (decide (i < w.length) && s.testBit i) = true then rd w (i : Int) else 0
def wS (w : List Int) (s : Nat) : Int := ((List.range 8).map (wOf w s)).sum
theorem wOf_bound {w : List Int} (hw : ∀ x ∈ w, -1000 ≤ x ∧ x ≤ 1000) (s i : Nat) : -1000 ≤ wOf w s i ∧ wOf w s i ≤ 1000 := by
  unfold wOf
  by_cases h : (decide (i < w.length) && s.testBit i) = true
  · rw [if_pos h]; exact rd_bound hw i
  · rw [if_neg h]; omega
theorem wS_bound {w : List Int} (hw : ∀ x ∈ w, -1000 ≤ x ∧ x ≤ 1000) (s : Nat) : -8000 ≤ wS w s ∧ wS w s ≤ 8000 := by
  have := isum_bound (l := List.range 8) (fun i _ => wOf_bound hw s i)
  simp only [List.length_range] at this
  unfold wS
  omega
theorem weightB_sum {w : List Int} (hw : ∀ x ∈ w, -1000 ≤ x ∧ x ≤ 1000) {s : Nat} (hs : s < 256) : weightB w (s : Int) = wS w s := by
  unfold weightB wS
  rw [wfold_sum hw _ _ 0 (by simp only [List.length_range]; omega) (by simp only [List.length_range]; omega), Int.zero_add]
  apply congrArg List.sum
  apply List.map_congr_left
  intro i hi
  have hi8 := List.mem_range.1 hi
  unfold wOf
  rw [hasB_nat, show decide (s < 256) = true from decide_eq_true hs, show decide (i < 8) = true from decide_eq_true hi8, Bool.true_and, Bool.true_and]
theorem wS_del {w : List Int} {s e : Nat} (he : e < 8) (hl : e < w.length) (h : s.testBit e = true) : wS w s = wS w (dif s (2 ^ e)) + rd w (e : Int) := by
  unfold wS
  have hpt : ∀ i, wOf w s i = wOf w (dif s (2 ^ e)) i + (if i = e then rd w (e : Int) else 0) := by
    intro i
    unfold wOf
    rw [del_bit]
    by_cases hi : i = e
    · subst hi
      rw [if_pos rfl, h, show decide (i < w.length) = true from decide_eq_true hl]
      simp
    · rw [if_neg hi, show decide (e = i) = false from decide_eq_false (fun h' => hi h'.symm)]
      simp
  rw [show wOf w s = (fun i => wOf w (dif s (2 ^ e)) i + (if i = e then rd w (e : Int) else 0)) from funext hpt, isum_add, isum_one, if_pos he]
def maxI (s : Int) (l : List Int) : Int := l.foldl max s
theorem maxI_cons (s x : Int) (l : List Int) : maxI s (x :: l) = maxI (max s x) l := rfl
theorem maxI_start {l : List Int} {s s' : Int} (hne : l ≠ []) (h : ∀ x ∈ l, s ≤ x ∧ s' ≤ x) : maxI s l = maxI s' l := by
  cases l with
  | nil => exact absurd rfl hne
  | cons x l =>
    have hx := h x (List.mem_cons_self ..)
    rw [maxI_cons, maxI_cons, show max s x = max s' x from by omega]
def outOf (w : List Int) (e : Nat) : List Nat → List Int
  | [] => []
  | b :: bs => if b.testBit e = true then outOf w e bs else wS w b :: outOf w e bs
def inOf (w : List Int) (e : Nat) : List Nat → List Int
  | [] => []
  | b :: bs => if b.testBit e = true then wS w (dif b (2 ^ e)) :: inOf w e bs else inOf w e bs
theorem outOf_mem {w : List Int} {e : Nat} : ∀ {L : List Nat} {x : Int}, x ∈ outOf w e L → ∃ b, x = wS w b := by
  intro L
  induction L with
  | nil => intro x h; simp [outOf] at h
  | cons b L ih =>
    intro x h
    simp only [outOf] at h
    by_cases hb : b.testBit e = true
    · rw [if_pos hb] at h; exact ih h
    · rw [if_neg hb] at h
      rcases List.mem_cons.1 h with rfl | h
      · exact ⟨b, rfl⟩
      · exact ih h
theorem inOf_mem {w : List Int} {e : Nat} : ∀ {L : List Nat} {x : Int}, x ∈ inOf w e L → ∃ b, x = wS w b := by
  intro L
  induction L with
  | nil => intro x h; simp [inOf] at h
  | cons b L ih =>
    intro x h
    simp only [inOf] at h
    by_cases hb : b.testBit e = true
    · rw [if_pos hb] at h
      rcases List.mem_cons.1 h with rfl | h
      · exact ⟨_, rfl⟩
      · exact ih h
    · rw [if_neg hb] at h; exact ih h
theorem outOf_some {w : List Int} {e b : Nat} : ∀ {L : List Nat}, b ∈ L → b.testBit e = false → outOf w e L ≠ [] := by
  intro L
  induction L with
  | nil => intro h; simp at h
  | cons x L ih =>
    intro h hb
    simp only [outOf]
    by_cases hx : x.testBit e = true
    · rw [if_pos hx]
      rcases List.mem_cons.1 h with rfl | h
      · rw [hb] at hx; cases hx
      · exact ih h hb
    · rw [if_neg hx]; simp
theorem inOf_some {w : List Int} {e b : Nat} : ∀ {L : List Nat}, b ∈ L → b.testBit e = true → inOf w e L ≠ [] := by
  intro L
  induction L with
  | nil => intro h; simp at h
  | cons x L ih =>
    intro h hb
    simp only [inOf]
    by_cases hx : x.testBit e = true
    · rw [if_pos hx]; simp
    · rw [if_neg hx]
      rcases List.mem_cons.1 h with rfl | h
      · exact absurd hb hx
      · exact ih h hb
theorem mx_max (a b : Int) : mx a b = max a b := by
  unfold mx
  split <;> omega
theorem specThr_l0 (n : Int) {L : List Nat} {w : List Int} {e : Nat} (hl : L.length ≤ 17592186044416) (hL : ∀ b ∈ L, b < 256) (hw : ∀ x ∈ w, -1000 ≤ x ∧ x ≤ 1000) (he : e < 8) (hel : e < w.length) (hwl : w.length ≤ 17592186044416) (s t : Int) : Ev (fun k => spec_ThresholdOf.l0 k w (e : Int) s t 0 n (ints L)) (wrap64 (maxI s (outOf w e L) - maxI t (inOf w e L)), true) := by
  have hd := down (P := fun i => ∀ s t : Int, Ev (fun k => spec_ThresholdOf.l0 k w (e : Int) s t (i : Int) n (ints L)) (wrap64 (maxI s (outOf w e (L.drop i)) - maxI t (inOf w e (L.drop i))), true)) L.length
    (by
      intro s t
      apply Ev.step
      · intro k
        simp only [spec_ThresholdOf.l0]
        rw [if_neg (by rw [ints_len]; omega)]
      · rw [drop_end]; exact Ev.now _)
    (by
      intro i hi ih s t
      have hb := hL _ (List.getElem_mem hi)
      apply Ev.step
      · intro k
        simp only [spec_ThresholdOf.l0]
        rw [if_pos (by rw [ints_len]; omega), if_pos (by omega), ints_rd L i hi, w_succ hi hl, l2Has_eq (lt256_63 hb) (by omega), Option.bind_some]
      · rw [drop_cons L i hi]
        simp only [outOf, inOf]
        have hev := specWeight_ev w (L[i] : Int) hwl
        rw [weightB_sum hw hb] at hev
        by_cases h : L[i].testBit e = true
        · rw [if_pos h, if_pos h]
          have h1 := wS_bound hw (dif L[i] (2 ^ e))
          have h2 := rd_bound hw e
          have e1 := wS_del he hel h
          refine Ev.ifp h (Ev.bind hev (Ev.ifp (by omega) (Ev.ifp (by omega) (Ev.cbind (l1Max_eq _ _) ?_))))
          rw [maxI_cons, show wrap64 (wS w L[i] - rd w (e : Int)) = wS w (dif L[i] (2 ^ e)) from by rw [wrap64_of (by omega) (by omega)]; omega]
          exact ih _ _
        · rw [if_neg h, if_neg h]
          refine Ev.ifn h (Ev.bind hev (Ev.cbind (l1Max_eq _ _) ?_))
          rw [maxI_cons]
          exact ih _ _)
  exact hd s t
theorem implThr_l0 {L : List Nat} {w : List Int} {e : Nat} (hl : L.length ≤ 17592186044416) (hL : ∀ b ∈ L, b < 256) (hw : ∀ x ∈ w, -1000 ≤ x ∧ x ≤ 1000) (he : e < 8) (hwl : w.length ≤ 17592186044416) (s t : Int) : Ev (fun k => impl_ThresholdOf.l0 k w (e : Int) s t (ints L) ((ints L).length : Int) 0) (wrap64 (maxI s (outOf w e L) - maxI t (inOf w e L)), true) := by
  have hd := down (P := fun i => ∀ s t : Int, Ev (fun k => impl_ThresholdOf.l0 k w (e : Int) s t (ints L) ((ints L).length : Int) (i : Int)) (wrap64 (maxI s (outOf w e (L.drop i)) - maxI t (inOf w e (L.drop i))), true)) L.length
    (by
      intro s t
      apply Ev.step
      · intro k
        simp only [impl_ThresholdOf.l0]
        rw [if_neg (by rw [ints_len]; omega)]
      · rw [drop_end]; exact Ev.now _)
    (by
      intro i hi ih s t
      have hb := hL _ (List.getElem_mem hi)
      have hh : (decide (L[i] < 256) && decide (e < 8) && L[i].testBit e) = L[i].testBit e := by
        rw [show decide (L[i] < 256) = true from decide_eq_true hb, show decide (e < 8) = true from decide_eq_true he, Bool.true_and, Bool.true_and]
      apply Ev.step
      · intro k
        simp only [impl_ThresholdOf.l0]
        rw [if_pos (by rw [ints_len]; omega), if_pos (by omega), if_pos (by rw [ints_len]; omega), ints_rd L i hi, w_succ hi hl, implHas_eq, hasB_nat, hh, Option.bind_some]
      · rw [drop_cons L i hi]
        simp only [outOf, inOf]
        by_cases h : L[i].testBit e = true
        · rw [if_pos h, if_pos h]
          have hd8 := dif_lt (b := 2 ^ e) hb
          have hev := implWeight_ev w ((dif L[i] (2 ^ e) : Nat) : Int) hwl
          rw [weightB_sum hw hd8] at hev
          have hwo : impl_WithoutElement.f (L[i] : Int) (e : Int) = some ((dif L[i] (2 ^ e) : Nat) : Int) := by
            have h2 : 2 ^ e < 2 ^ 63 := Nat.pow_lt_pow_right (by omega) (by omega)
            unfold impl_WithoutElement.f
            rw [isAny_eq, isAnyB_nat, Option.bind_some, if_pos (by simpa using hb), if_neg (by omega), if_neg (by omega), if_pos (by omega), shl_one (by omega), andNot_nat (lt256_63 hb) h2]
          refine Ev.ifp h (Ev.cbind hwo (Ev.bind hev ?_))
          rw [maxI_cons, mx_max]
          exact ih _ _
        · rw [if_neg h, if_neg h]
          have hev := implWeight_ev w (L[i] : Int) hwl
          rw [weightB_sum hw hb] at hev
          refine Ev.ifn h (Ev.bind hev ?_)
          rw [maxI_cons, mx_max]
          exact ih _ _)
  exact hd s t
def thrB (n : Int) (l w : List Int) (e : Int) : Int × Bool := if matB n l = true then (if areW n w = true then (if 0 ≤ e ∧ e < n then (if (loopsN (fullN n.toNat) (l.map Int.toNat)).testBit e.toNat = true then (0, false) else (if (coloopsN (fullN n.toNat) (l.map Int.toNat)).testBit e.toNat = true then (0, false) else (wrap64 (maxI (-8000) (outOf w e.toNat (l.map Int.toNat)) - maxI (-8000) (inOf w e.toNat (l.map Int.toNat))), true))) else (0, false)) else (0, false)) else (0, false)
theorem areW_bound {n : Int} {w : List Int} (h : areW n w = true) : (∀ x ∈ w, -1000 ≤ x ∧ x ≤ 1000) ∧ (w.length : Int) = n := by
  simp only [areW, Bool.and_eq_true, List.all_eq_true, decide_eq_true_eq] at h
  exact ⟨h.1.1, h.2⟩
theorem specThr_ev (n : Int) (l w : List Int) (e : Int) (he : (Lit.int .i64 e).wf = true) (hl : l.length ≤ 17592186044416) (hwl : w.length ≤ 17592186044416) : Ev (fun k => spec_ThresholdOf.f k n l w e) (thrB n l w e) := by
  have hfin : ∀ x : Bool, x = true → Ev (fun k => spec_ThresholdOf.j0 k w e x n l) (0, false) := by
    intro x hx
    apply Ev.step
    · intro k
      rw [spec_ThresholdOf.j0]
    · exact Ev.ifp hx (Ev.now _)
  unfold spec_ThresholdOf.f thrB
  refine Ev.bind (specMat_ev n l hl) ?_
  by_cases h : matB n l = true
  rotate_left
  · rw [if_neg h]; exact Ev.ifn h (hfin _ rfl)
  rw [if_pos h]
  refine Ev.ifp h (Ev.bind (specAreWeights_ev n w hwl) ?_)
  by_cases h2 : areW n w = true
  rotate_left
  · rw [if_neg h2]; exact Ev.ifn h2 (hfin _ rfl)
  rw [if_pos h2]
  refine Ev.ifp h2 (Ev.cbind (l1In_eq _ _ _) ?_)
  have hlo := specLoops_ev n l hl
  have hco := specColoops_ev n l hl
  unfold loopsB at hlo
  unfold coloopsB at hco
  rw [if_pos h] at hlo hco
  obtain ⟨m, L, rfl, hm, rfl, hL, hL256, _, hne⟩ := matB_nat h
  rw [show (ints L).map Int.toNat = L from toNat_map L, Int.toNat_natCast] at hlo hco ⊢
  rw [ints_len] at hl
  obtain ⟨hwb, hwn⟩ := areW_bound h2
  rw [wrap64_of (n := (m : Int) - 1) (by omega) (by omega)]
  by_cases h3 : 0 ≤ e ∧ e < (m : Int)
  rotate_left
  · rw [if_neg h3]
    refine Ev.ifn ?_ (hfin _ rfl)
    simp only [Bool.and_eq_true, decide_eq_true_eq]
    omega
  rw [if_pos h3]
  refine Ev.ifp (by simp only [Bool.and_eq_true, decide_eq_true_eq]; omega) (Ev.bind hlo ?_)
  obtain ⟨f, rfl⟩ : ∃ f : Nat, e = f := ⟨e.toNat, by omega⟩
  have hf8 : f < 8 := by omega
  have hfl : f < w.length := by omega
  have hz := loopsN_lt L (fullN m) (full_lt hm).2
  have hc := coloopsN_lt L (fullN m) (full_lt hm).2
  refine Ev.cbind (l2Has_eq (lt256_63 hz) (by omega)) ?_
  rw [Int.toNat_natCast]
  by_cases h4 : (loopsN (fullN m) L).testBit f = true
  · rw [if_pos h4]; exact Ev.ifp h4 (hfin _ rfl)
  rw [if_neg h4]
  refine Ev.ifn h4 (Ev.bind hco (Ev.cbind (l2Has_eq (lt256_63 hc) (by omega)) ?_))
  by_cases h5 : (coloopsN (fullN m) L).testBit f = true
  · rw [if_pos h5]; exact hfin _ h5
  rw [if_neg h5]
  apply Ev.step
  · intro k
    rw [spec_ThresholdOf.j0]
  exact Ev.ifn h5 (specThr_l0 _ hl hL256 hwb hf8 hfl hwl _ _)
theorem implThr_ev (n : Int) (l w : List Int) (e : Int) (he : (Lit.int .i64 e).wf = true) (hl : l.length ≤ 17592186044416) (hwl : w.length ≤ 17592186044416) : Ev (fun k => impl_ThresholdOf.f k n l w e) (thrB n l w e) := by
  have hfin : ∀ x : Bool, x = true → Ev (fun k => impl_ThresholdOf.j0 k w e x n l) (0, false) := by
    intro x hx
    apply Ev.step
    · intro k
      rw [impl_ThresholdOf.j0]
    · exact Ev.ifp hx (Ev.now _)
  unfold impl_ThresholdOf.f thrB
  refine Ev.bind (implMat_ev n l hl) ?_
  by_cases h : matB n l = true
  rotate_left
  · rw [if_neg h]; exact Ev.ifn h (hfin _ rfl)
  rw [if_pos h]
  refine Ev.ifp h (Ev.bind (implAreWeights_ev n w hwl) ?_)
  by_cases h2 : areW n w = true
  rotate_left
  · rw [if_neg h2]; exact Ev.ifn h2 (hfin _ rfl)
  rw [if_pos h2]
  refine Ev.ifp h2 ?_
  have hlo := implLoops_ev n l hl
  have hco := implColoops_ev n l hl
  unfold loopsB at hlo
  unfold coloopsB at hco
  rw [if_pos h] at hlo hco
  obtain ⟨m, L, rfl, hm, rfl, hL, hL256, _, hne⟩ := matB_nat h
  rw [show (ints L).map Int.toNat = L from toNat_map L, Int.toNat_natCast] at hlo hco ⊢
  rw [ints_len] at hl
  obtain ⟨hwb, hwn⟩ := areW_bound h2
  by_cases h0 : e < 0
  · rw [if_neg (by omega)]
    exact Ev.ifp h0 (hfin _ rfl)
  refine Ev.ifn h0 ?_
  by_cases h1 : e ≥ (m : Int)
  · rw [if_neg (by omega)]
    exact Ev.ifp h1 (hfin _ rfl)
  refine Ev.ifn h1 (Ev.bind hlo (Ev.bind hco (Ev.cbind (implHas_eq _ _) ?_)))
  rw [if_pos (by omega)]
  obtain ⟨f, rfl⟩ : ∃ f : Nat, e = f := ⟨e.toNat, by omega⟩
  have hf8 : f < 8 := by omega
  have hz := loopsN_lt L (fullN m) (full_lt hm).2
  have hc := coloopsN_lt L (fullN m) (full_lt hm).2
  have hor : loopsN (fullN m) L ||| coloopsN (fullN m) L < 256 := Nat.or_lt_two_pow (n := 8) hz hc
  rw [or_nat (lt256_63 hz) (lt256_63 hc), hasB_nat, show decide (loopsN (fullN m) L ||| coloopsN (fullN m) L < 256) = true from decide_eq_true hor, show decide (f < 8) = true from decide_eq_true hf8, Bool.true_and, Bool.true_and, Nat.testBit_or, Int.toNat_natCast]
  by_cases h4 : (loopsN (fullN m) L).testBit f = true
  · rw [if_pos h4, h4]; exact hfin _ rfl
  rw [if_neg h4]
  by_cases h5 : (coloopsN (fullN m) L).testBit f = true
  · rw [if_pos h5, h5, Bool.or_true]; exact hfin _ rfl
  rw [if_neg h5, Bool.eq_false_iff.2 h4, Bool.eq_false_iff.2 h5]
  have hfm : decide (f < m) = true := decide_eq_true (by omega)
  rw [loopsN_bit, full_bit, hfm, Bool.true_and] at h4
  rw [coloopsN_bit, full_bit, hfm, Bool.true_and] at h5
  obtain ⟨b1, hb1, hb1'⟩ : ∃ b ∈ L, b.testBit f = true := by
    refine Classical.byContradiction fun hc => h4 ?_
    rw [List.all_eq_true]
    intro b hb
    cases hx : b.testBit f
    · rfl
    · exact absurd ⟨b, hb, hx⟩ hc
  obtain ⟨b2, hb2, hb2'⟩ : ∃ b ∈ L, b.testBit f = false := by
    refine Classical.byContradiction fun hc => h5 ?_
    rw [List.all_eq_true]
    intro b hb
    cases hx : b.testBit f
    · exact absurd ⟨b, hb, hx⟩ hc
    · rfl
  rw [maxI_start (s' := -9000) (outOf_some hb2 hb2') (fun x hx => by obtain ⟨b, rfl⟩ := outOf_mem hx; have := wS_bound hwb b; omega)]
  rw [maxI_start (s := -8000) (s' := -9000) (inOf_some hb1 hb1') (fun x hx => by obtain ⟨b, rfl⟩ := inOf_mem hx; have := wS_bound hwb b; omega)]
  apply Ev.step
  · intro k
    rw [impl_ThresholdOf.j0]
  exact Ev.ifn (by simp) (implThr_l0 hl hL256 hwb hf8 hwl _ _)

end Go.Proofs.Ytinoamehdhgpgaa.Q

namespace Go.Proofs.Ytinoamehdhgpgaa.Pure
open Go Go.RowKit Go.Proofs.Ytinoamehdhgpgaa.A Go.Proofs.YtinoamehdhgpgaaW.PrintWords Go.Proofs.YtinoamehdhgpgaaW.PrintLast Go.Proofs.YtinoamehdhgpgaaW.PrintMore Go.Proofs.Ytinoamehdhgpgaa.Z Go.Proofs.Ytinoamehdhgpgaa.Q
set_option linter.unusedVariables false
set_option linter.unusedSimpArgs false

theorem FnExactThresholdOf : laws_FnExactThresholdOf.Pure := by
  intro n l w b hn hm hw hm1 hw1 hb
  unfold laws_FnExactThresholdOf.f
  refine Ev.rounds ?_
  by_cases h0 : (w.length : Int) > 1048576
  · exact Ev.ifp h0 (Ev.now _)
  refine Ev.ifn h0 (Ev.cbind (szMat_eq n l 1048576 (by omega) (by omega) hm) ?_)
  by_cases h1 : (l.length : Int) > 1048576
  · rw [if_pos h1]
    exact Ev.ifp (by decide) (Ev.now _)
  rw [if_neg h1]
  refine Ev.ifn (by omega) ?_
  have hl : l.length ≤ 17592186044416 := by omega
  have hl' : w.length ≤ 17592186044416 := by omega
  refine Ev.bind (toMat_ev n l hl) (Ev.bind (toInt_ev w hl') (Ev.bind (specThr_ev n l w b hb hl hl') (Ev.bind (toMat_ev n l hl) (Ev.bind (toInt_ev w hl') (Ev.bind (implThr_ev n l w b hb hl hl') (Ev.ifp rfl ?_))))))
  apply Ev.step
  · intro k
    rw [laws_FnExactThresholdOf.j0]
  refine Ev.ifn (by simp) (Ev.bind (toMat_ev n l hl) (Ev.bind (eqMat_ev n l hl) (Ev.ifp rfl ?_)))
  exact Ev.bind (toInt_ev w hl') (Ev.bind (eqInt_self w hl') (Ev.ifp rfl (Ev.now _)))

end Go.Proofs.Ytinoamehdhgpgaa.Pure
