/- The pure side of the law FnExactCertificateOf: what the Lean functions of the print compute, and that the law holds of them. Conditions: those in each lemma. -/
import Derived.Test.YtinoamehdhgpgaaMFnExactCertificateOf1
import Derived.Test.YtinoamehdhgpgaaMFnExactCertificateOf2
import Derived.Test.YtinoamehdhgpgaaMFnExactCertificateOf3
import Derived.Test.YtinoamehdhgpgaaMFnExactCertificateOf4
import Derived.Test.YtinoamehdhgpgaaMFnExactCertificateOf5
import Derived.Test.YtinoamehdhgpgaaMFnExactCertificateOfq0
namespace Go.Proofs.Ytinoamehdhgpgaa.A
open Go.RowKit
def laws_FnExactCertificateOf.Pure : Prop := ∀ (a0_0 : Int) (l0_1 : List Int) (a1_0 : Int) (l1_1 : List Int), (Lit.int .i64 a0_0).wf = true → l0_1.length ≤ maxLen → (∀ x ∈ l0_1, (Lit.int .i64 x).wf = true) → (Lit.int .i64 a1_0).wf = true → l1_1.length ≤ maxLen → (∀ x ∈ l1_1, (Lit.int .i64 x).wf = true) → ∃ k, laws_FnExactCertificateOf.f k a0_0 l0_1 a1_0 l1_1 = some true
end Go.Proofs.Ytinoamehdhgpgaa.A

namespace Go.Proofs.Ytinoamehdhgpgaa.Q
open Go Go.RowKit Go.Proofs.Ytinoamehdhgpgaa.A Go.Proofs.YtinoamehdhgpgaaW.PrintWords Go.Proofs.YtinoamehdhgpgaaW.PrintLast Go.Proofs.YtinoamehdhgpgaaW.PrintMore Go.Proofs.Ytinoamehdhgpgaa.Z
set_option linter.unusedVariables false
set_option linter.unusedSimpArgs false

theorem toInt_l0 (l : List Int) (hl : l.length ≤ 17592186044416) : ∀ (rest pre : List Int), l = pre ++ rest → Ev (fun k => laws_toIntS.l0 k l (pre ++ List.replicate rest.length 0) (pre.length : Int)) l := by
  intro rest
  induction rest with
  | nil =>
    intro pre h
    apply Ev.step
    · intro k
      simp only [laws_toIntS.l0]
      rw [if_neg (by rw [h]; simp)]
    · subst h; simpa using Ev.now _
  | cons x rest ih =>
    intro pre h
    have hlen : (pre.length : Int) < (l.length : Int) := by rw [h]; simp; omega
    apply Ev.step
    · intro k
      simp only [laws_toIntS.l0]
      rw [if_pos hlen, if_pos (by omega), if_pos (by simp; omega)]
    · have := ih (pre ++ [x]) (by rw [h]; simp)
      have e : wrap64 ((pre.length : Int) + 1) = ((pre ++ [x]).length : Int) := by
        rw [wrap64_of (by omega) (by omega)]; simp
      rw [e]
      have e2 : (pre ++ List.replicate (x :: rest).length 0).set (pre.length : Int).toNat (rd l (pre.length : Int)) = (pre ++ [x]) ++ List.replicate rest.length 0 := by
        have : rd l (pre.length : Int) = x := by rw [h]; exact rd_mid _ _ _
        rw [this]
        simp [List.replicate_succ]
      rw [e2]
      exact this
theorem toInt_ev (l : List Int) (hl : l.length ≤ 17592186044416) : Ev (fun k => laws_toIntS.f k l) l := by
  unfold laws_toIntS.f
  refine Ev.ifp (by omega) (Ev.ifp (by simp; omega) ?_)
  simpa using toInt_l0 l hl l [] rfl
theorem eqInt_l0 (l : List Int) (hl : l.length ≤ 17592186044416) (l' : List Int) (hll : l'.length = l.length) : ∀ (rest rest' pre : List Int), l = pre ++ rest → l' = pre ++ rest' → Ev (fun k => laws_eqIntS.l0 k l l' (pre.length : Int)) (decide (l = l')) := by
  intro rest
  induction rest with
  | nil =>
    intro rest' pre h h'
    have : rest' = [] := by
      apply List.eq_nil_of_length_eq_zero
      have h1 := congrArg List.length h
      have h2 := congrArg List.length h'
      rw [List.length_append] at h1 h2
      simp only [List.length_nil] at h1
      omega
    subst this
    apply Ev.step
    · intro k
      simp only [laws_eqIntS.l0]
      rw [if_neg (by rw [h]; simp)]
    · have : l = l' := by rw [h, h']
      simpa [this] using Ev.now _
  | cons x rest ih =>
    intro rest' pre h h'
    have hlen : (pre.length : Int) < (l.length : Int) := by rw [h]; simp; omega
    cases rest' with
    | nil => exact absurd hll (by rw [h, h']; simp)
    | cons y rest' =>
    have e1 : rd l (pre.length : Int) = x := by rw [h]; exact rd_mid _ _ _
    have e2 : rd l' (pre.length : Int) = y := by rw [h']; exact rd_mid _ _ _
    by_cases hxy : x = y
    · subst hxy
      apply Ev.step
      · intro k
        simp only [laws_eqIntS.l0]
        rw [if_pos hlen, if_pos (by omega), if_pos (by omega), if_pos (by rw [e1, e2])]
      · have := ih rest' (pre ++ [x]) (by rw [h]; simp) (by rw [h']; simp)
        have e : wrap64 ((pre.length : Int) + 1) = ((pre ++ [x]).length : Int) := by
          rw [wrap64_of (by omega) (by omega)]; simp
        rw [e]
        exact this
    · apply Ev.step
      · intro k
        simp only [laws_eqIntS.l0]
        rw [if_pos hlen, if_pos (by omega), if_pos (by omega), if_neg (by rw [e1, e2]; exact hxy)]
      · have : l ≠ l' := by rw [h, h']; simp [hxy]
        simpa [this] using Ev.now _
theorem eqInt_ev (l l' : List Int) (hl : l.length ≤ 17592186044416) : Ev (fun k => laws_eqIntS.f k l l') (decide (l = l')) := by
  unfold laws_eqIntS.f
  by_cases h : (l.length : Int) = (l'.length : Int)
  · refine Ev.ifp h ?_
    exact eqInt_l0 l hl l' (by omega) l l' [] rfl rfl
  · refine Ev.ifn h ?_
    have : l ≠ l' := by rintro rfl; exact h rfl
    simpa [this] using Ev.now _
theorem eqInt_self (l : List Int) (hl : l.length ≤ 17592186044416) : Ev (fun k => laws_eqIntS.f k l l) true := by simpa using eqInt_ev l l hl

end Go.Proofs.Ytinoamehdhgpgaa.Q

namespace Go.Proofs.Ytinoamehdhgpgaa.Q
open Go Go.RowKit Go.Proofs.Ytinoamehdhgpgaa.A Go.Proofs.YtinoamehdhgpgaaW.PrintWords Go.Proofs.YtinoamehdhgpgaaW.PrintLast Go.Proofs.YtinoamehdhgpgaaW.PrintMore Go.Proofs.Ytinoamehdhgpgaa.Z
set_option linter.unusedVariables false
set_option linter.unusedSimpArgs false

theorem szMat_eq (n : Int) (l : List Int) (left : Int) (h0 : 0 ≤ left) (h1 : left ≤ 1048576) (hl : l.length ≤ maxLen) : laws_szMatroid.f n l left = some (if (l.length : Int) > left then -1 else left - (l.length : Int)) := by
  unfold maxLen at hl
  unfold laws_szMatroid.f laws_szIntS.f
  rw [wrap64_of (by omega) (by omega)]
  by_cases h : (l.length : Int) > left
  · rw [if_pos h, if_pos (by omega), Option.bind_some, if_pos (by decide)]
  · rw [if_neg h, if_neg (by omega), Option.bind_some, if_neg (by omega)]
theorem toMat_ev (n : Int) (l : List Int) (hl : l.length ≤ 17592186044416) : Ev (fun k => laws_toMatroid.f k n l) (n, l) := by
  unfold laws_toMatroid.f
  exact Ev.bind (toInt_ev l hl) (Ev.now _)
theorem eqMat_ev (n : Int) (l : List Int) (hl : l.length ≤ 17592186044416) : Ev (fun k => laws_eqMatroid.f k n l n l) true := by
  unfold laws_eqMatroid.f
  refine Ev.ifp rfl (Ev.bind (eqInt_self l hl) (Ev.ifp rfl (Ev.now _)))

end Go.Proofs.Ytinoamehdhgpgaa.Q

namespace Go.Proofs.Ytinoamehdhgpgaa.Q
open Go Go.RowKit Go.Proofs.Ytinoamehdhgpgaa.A Go.Proofs.YtinoamehdhgpgaaW.PrintWords Go.Proofs.YtinoamehdhgpgaaW.PrintLast Go.Proofs.YtinoamehdhgpgaaW.PrintMore Go.Proofs.Ytinoamehdhgpgaa.Z
set_option linter.unusedVariables false
set_option linter.unusedSimpArgs false

theorem l1In_eq (a b c : Int) : spec_l1In.f a b c = some (decide (b ≤ a) && decide (a ≤ c)) := by
  unfold spec_l1In.f
  by_cases h : a ≥ b
  · rw [if_pos h]; simp [h]
  · rw [if_neg h]; simp only [ge_iff_le] at h; simp [h]
theorem isSize_eq (a : Int) : impl_isSize.f a = some (decide (0 ≤ a) && decide (a ≤ 8)) := by
  unfold impl_isSize.f
  by_cases h : a ≥ 0
  · rw [if_pos h]; simp [h]
  · rw [if_neg h]; simp only [ge_iff_le] at h; simp [h]
theorem specIsSet_eq (n s : Int) : spec_IsSet.f n s = some (isSetB n s) := by
  unfold spec_IsSet.f
  rw [l1In_eq, Option.bind_some]
  unfold isSetB
  by_cases h : (decide (0 ≤ n) && decide (n ≤ 8)) = true
  · rw [if_pos h, if_pos (u64_nonneg _), l1In_eq, Option.bind_some, h, Bool.true_and]
    simp only [Bool.and_eq_true, decide_eq_true_eq] at h
    obtain ⟨m, rfl⟩ := Int.eq_ofNat_of_zero_le h.1
    have h8 : m ≤ 8 := by omega
    rw [u64_of (by omega) (by omega), shl_one (by omega)]
    have hp := pow_le_256 h8
    rw [Int.toNat_natCast]
    have e : (2 : Int) ^ m = ((2 ^ m : Nat) : Int) := by simp
    rw [e]
    generalize 2 ^ m = q at hp
    rw [wrap64_of (by omega) (by omega)]
    congr 2
    rw [Bool.eq_iff_iff]
    simp only [decide_eq_true_eq]
    omega
  · rw [if_neg h, Bool.eq_false_iff.2 h, Bool.false_and]
theorem implIsSet_eq (n s : Int) : impl_IsSet.f n s = some (isSetB n s) := by
  unfold impl_IsSet.f
  rw [isSize_eq, Option.bind_some]
  unfold isSetB
  by_cases h : (decide (0 ≤ n) && decide (n ≤ 8)) = true
  · rw [if_pos h, h, Bool.true_and]
    simp only [Bool.and_eq_true, decide_eq_true_eq] at h
    by_cases hs : s ≥ 0
    · rw [if_pos hs, if_pos h.1]
      obtain ⟨m, rfl⟩ := Int.eq_ofNat_of_zero_le h.1
      rw [shl_one (by omega), Int.toNat_natCast]
      have e : ((2 ^ m : Nat) : Int) = 2 ^ m := by simp
      rw [e]
      have : decide (0 ≤ s) = true := by simpa using hs
      rw [this, Bool.true_and]
    · rw [if_neg hs]
      have : decide (0 ≤ s) = false := by simpa using hs
      rw [this, Bool.false_and]
  · rw [if_neg h, Bool.eq_false_iff.2 h, Bool.false_and]
theorem isSet8 (s : Int) : isSetB 8 s = isAnyB s := by
  unfold isSetB isAnyB
  rw [Bool.eq_iff_iff]
  simp
theorem isAny_eq (s : Int) : impl_isAny.f s = some (isAnyB s) := by
  unfold impl_isAny.f isAnyB
  by_cases h : s ≥ 0
  · rw [if_pos h]; simp [h]
  · rw [if_neg h]; simp only [ge_iff_le] at h; simp [h]
theorem isAnyB_lt {s : Int} (h : isAnyB s = true) : ∃ t : Nat, s = t ∧ t < 256 := by
  simp only [isAnyB, Bool.and_eq_true, decide_eq_true_eq] at h
  obtain ⟨t, rfl⟩ := Int.eq_ofNat_of_zero_le h.1
  exact ⟨t, rfl, by omega⟩
theorem implHas_eq (s e : Int) : impl_HasElement.f s e = some (hasB s e) := by
  unfold impl_HasElement.f hasB
  rw [isAny_eq, Option.bind_some]
  by_cases h : isAnyB s = true
  · rw [if_pos h, h, Bool.true_and]
    obtain ⟨t, rfl, ht⟩ := isAnyB_lt h
    by_cases h0 : e ≥ 0
    · rw [if_pos h0]
      obtain ⟨m, rfl⟩ := Int.eq_ofNat_of_zero_le h0
      by_cases h8 : (m : Int) < 8
      · rw [if_pos h8, if_pos h0, bit_nat (lt256_63 ht)]
        simp [h8]
      · rw [if_neg h8]; simp [h8]
    · rw [if_neg h0]; simp only [ge_iff_le] at h0; simp [h0]
  · rw [if_neg h, Bool.eq_false_iff.2 h]; simp
theorem l2Has_eq {s e : Nat} (hs : s < 2 ^ 63) (he : e < 2 ^ 63) : spec_l2Has.f (s : Int) (e : Int) = some (s.testBit e) := by
  unfold spec_l2Has.f
  rw [if_pos (u64_nonneg _), u64_of (by omega) (by omega), bit_nat hs]
theorem specHas_eq (s e : Int) : spec_HasElement.f s e = some (hasB s e) := by
  unfold spec_HasElement.f hasB
  rw [specIsSet_eq, Option.bind_some, isSet8]
  by_cases h : isAnyB s = true
  · rw [if_pos h, h, Bool.true_and, l1In_eq, Option.bind_some]
    obtain ⟨t, rfl, ht⟩ := isAnyB_lt h
    by_cases h0 : (decide (0 ≤ e) && decide (e ≤ 7)) = true
    · rw [if_pos h0]
      simp only [Bool.and_eq_true, decide_eq_true_eq] at h0
      obtain ⟨m, rfl⟩ := Int.eq_ofNat_of_zero_le h0.1
      rw [l2Has_eq (lt256_63 ht) (by omega), Option.bind_some]
      have : decide ((m : Int) < 8) = true := by simp; omega
      simp [this]
    · rw [if_neg h0]
      have : (decide (0 ≤ e) && decide (e < 8)) = false := by
        rw [Bool.eq_false_iff]
        intro hc
        apply h0
        simp only [Bool.and_eq_true, decide_eq_true_eq] at *
        omega
      rw [this, Bool.false_and]
  · rw [if_neg h, Bool.eq_false_iff.2 h]; simp

end Go.Proofs.Ytinoamehdhgpgaa.Q

namespace Go.Proofs.Ytinoamehdhgpgaa.Q
open Go Go.RowKit Go.Proofs.Ytinoamehdhgpgaa.A Go.Proofs.YtinoamehdhgpgaaW.PrintWords Go.Proofs.YtinoamehdhgpgaaW.PrintLast Go.Proofs.YtinoamehdhgpgaaW.PrintMore Go.Proofs.Ytinoamehdhgpgaa.Z
set_option linter.unusedVariables false
set_option linter.unusedSimpArgs false

def famG (n : Int) : Option Int → List Int → Bool
  | _, [] => decide (0 ≤ n) && decide (n ≤ 8)
  | p, x :: xs => isSetB n x && ((match p with | none => true | some q => decide (q < x)) && famG n (some x) xs)
/-- A family: sets of n elements, strictly ascending. -/
def famB (n : Int) (l : List Int) : Bool := famG n none l
def prevO (l : List Int) (i : Nat) : Option Int := if i = 0 then none else some (rd l ((i - 1 : Nat) : Int))
theorem prevO_succ (l : List Int) (i : Nat) (hi : i < l.length) : prevO l (i + 1) = some l[i] := by
  unfold prevO
  rw [if_neg (by omega), Nat.add_sub_cancel, rd_getElem l i hi]
theorem specFam_ev (n : Int) (l : List Int) (hl : l.length ≤ 17592186044416) : Ev (fun k => spec_IsFamily.f k n l) (famB n l) := by
  have h := down (P := fun i => Ev (fun k => spec_IsFamily.l0 k n l (i : Int)) (famG n (prevO l i) (l.drop i))) l.length
    (by
      apply Ev.step
      · intro k
        simp only [spec_IsFamily.l0, l1In_eq, Option.bind_some]
        rw [if_neg (by omega)]
      · rw [drop_end]; exact Ev.now _)
    (by
      intro i hi ih
      apply Ev.step
      · intro k
        simp only [spec_IsFamily.l0, specIsSet_eq, Option.bind_some]
        rw [if_pos (by omega), if_pos (by omega), rd_getElem l i hi, w_succ hi hl]
      · rw [drop_cons l i hi]
        rw [prevO_succ l i hi] at ih
        simp only [famG]
        by_cases hx : isSetB n l[i] = true
        · refine Ev.ifp hx ?_
          rw [hx, Bool.true_and]
          by_cases h0 : (i : Int) > 0
          · refine Ev.ifp h0 ?_
            rw [wrap64_of (by omega) (by omega), show (i : Int) - 1 = ((i - 1 : Nat) : Int) from by omega]
            refine Ev.ifp (by omega) (Ev.ifp (by omega) ?_)
            unfold prevO
            rw [if_neg (by omega)]
            by_cases hq : rd l ((i - 1 : Nat) : Int) ≥ l[i]
            · refine Ev.ifp hq ?_
              simp only []
              rw [show decide (rd l ((i - 1 : Nat) : Int) < l[i]) = false from by simpa using hq, Bool.false_and]
              exact Ev.now _
            · refine Ev.ifn hq ?_
              simp only []
              rw [show decide (rd l ((i - 1 : Nat) : Int) < l[i]) = true from by simpa using hq, Bool.true_and]
              exact ih
          · refine Ev.ifn h0 ?_
            unfold prevO
            rw [if_pos (by omega)]
            simp only [Bool.true_and]
            exact ih
        · refine Ev.ifn hx ?_
          rw [Bool.eq_false_iff.2 hx, Bool.false_and]; exact Ev.now _)
  exact h
theorem implFam_ev (n : Int) (l : List Int) (hl : l.length ≤ 17592186044416) : Ev (fun k => impl_IsFamily.f k n l) (famB n l) := by
  have h := down (P := fun i => Ev (fun k => impl_IsFamily.l0 k n l l (l.length : Int) (i : Int)) (famG n (prevO l i) (l.drop i))) l.length
    (by
      apply Ev.step
      · intro k
        simp only [impl_IsFamily.l0, isSize_eq, Option.bind_some]
        rw [if_neg (by omega)]
      · rw [drop_end]; exact Ev.now _)
    (by
      intro i hi ih
      apply Ev.step
      · intro k
        simp only [impl_IsFamily.l0, implIsSet_eq, Option.bind_some]
        rw [if_pos (by omega), if_pos (by omega), if_pos (by omega), rd_getElem l i hi, w_succ hi hl]
      · rw [drop_cons l i hi]
        rw [prevO_succ l i hi] at ih
        simp only [famG]
        by_cases hx : isSetB n l[i] = true
        · refine Ev.ifp hx ?_
          rw [hx, Bool.true_and]
          by_cases h0 : (i : Int) > 0
          · refine Ev.ifp h0 ?_
            rw [wrap64_of (by omega) (by omega), show (i : Int) - 1 = ((i - 1 : Nat) : Int) from by omega]
            refine Ev.ifp (by omega) (Ev.ifp (by omega) ?_)
            unfold prevO
            rw [if_neg (by omega)]
            by_cases hq : l[i] ≤ rd l ((i - 1 : Nat) : Int)
            · refine Ev.ifp hq ?_
              simp only []
              rw [show decide (rd l ((i - 1 : Nat) : Int) < l[i]) = false from by simpa using hq, Bool.false_and]
              exact Ev.now _
            · refine Ev.ifn hq ?_
              simp only []
              rw [show decide (rd l ((i - 1 : Nat) : Int) < l[i]) = true from by simpa using hq, Bool.true_and]
              exact ih
          · refine Ev.ifn h0 ?_
            unfold prevO
            rw [if_pos (by omega)]
            simp only [Bool.true_and]
            exact ih
        · refine Ev.ifn hx ?_
          rw [Bool.eq_false_iff.2 hx, Bool.false_and]; exact Ev.now _)
  exact h
theorem famG_facts (n : Int) : ∀ (l : List Int) (p : Option Int), famG n p l = true → (0 ≤ n ∧ n ≤ 8) ∧ (∀ x ∈ l, isSetB n x = true) ∧ l.Pairwise (· < ·) ∧ (∀ q, p = some q → ∀ x ∈ l, q < x) := by
  intro l
  induction l with
  | nil =>
    intro p h
    simp only [famG, Bool.and_eq_true, decide_eq_true_eq] at h
    exact ⟨h, fun x hx => by simp at hx, List.Pairwise.nil, fun q _ x hx => by simp at hx⟩
  | cons y l ih =>
    intro p h
    simp only [famG, Bool.and_eq_true] at h
    obtain ⟨h1, h2, h3⟩ := h
    obtain ⟨i1, i2, i3, i4⟩ := ih _ h3
    refine ⟨i1, fun x hx => ?_, List.pairwise_cons.2 ⟨fun x hx => i4 y rfl x hx, i3⟩, fun q hq x hx => ?_⟩
    · rcases List.mem_cons.1 hx with rfl | hx
      · exact h1
      · exact i2 x hx
    · subst hq
      simp only [decide_eq_true_eq] at h2
      rcases List.mem_cons.1 hx with rfl | hx
      · exact h2
      · exact Int.lt_trans h2 (i4 y rfl x hx)
/-- A family as numbers: its size, its sets. -/
theorem famB_nat {n : Int} {l : List Int} (h : famB n l = true) : ∃ (m : Nat) (L : List Nat), n = m ∧ m ≤ 8 ∧ l = L.map (fun x : Nat => (x : Int)) ∧ (∀ x ∈ L, x < 2 ^ m) ∧ L.Pairwise (· < ·) := by
  obtain ⟨h1, h2, h3, _⟩ := famG_facts n l none h
  obtain ⟨m, rfl⟩ := Int.eq_ofNat_of_zero_le h1.1
  have hnn : ∀ x ∈ l, 0 ≤ x := fun x hx => by
    obtain ⟨_, t, _, rfl, _⟩ := isSetB_lt (h2 x hx)
    omega
  have hl : l = (l.map Int.toNat).map (fun x : Nat => (x : Int)) := by
    rw [List.map_map]
    conv => lhs; rw [← List.map_id l]
    apply List.map_congr_left
    intro x hx
    have := hnn x hx
    simp only [id, Function.comp]
    omega
  refine ⟨m, l.map Int.toNat, rfl, by omega, hl, fun x hx => ?_, ?_⟩
  · obtain ⟨y, hy, rfl⟩ := List.mem_map.1 hx
    obtain ⟨m', t, hm, rfl, _, ht, _⟩ := isSetB_lt (h2 y hy)
    have : m = m' := by omega
    subst this
    rw [Int.toNat_natCast]; exact ht
  · rw [List.pairwise_map]
    exact h3.imp_of_mem (fun {a b} ha hb hab => by
      have := hnn a ha
      have := hnn b hb
      omega)

end Go.Proofs.Ytinoamehdhgpgaa.Q

namespace Go.Proofs.Ytinoamehdhgpgaa.Q
open Go Go.RowKit Go.Proofs.Ytinoamehdhgpgaa.A Go.Proofs.YtinoamehdhgpgaaW.PrintWords Go.Proofs.YtinoamehdhgpgaaW.PrintLast Go.Proofs.YtinoamehdhgpgaaW.PrintMore Go.Proofs.Ytinoamehdhgpgaa.Z
set_option linter.unusedVariables false
set_option linter.unusedSimpArgs false

/-- The elements of a set, as whole numbers; none where it is no set. -/
def elsB (s : Int) : List Int := ((List.range 8).filter (fun e : Nat => hasB s (e : Int))).map (fun e : Nat => (e : Int))
theorem range'_cons {i n : Nat} (h : i < n) : List.range' i (n - i) = i :: List.range' (i + 1) (n - (i + 1)) := by
  rw [show n - i = (n - (i + 1)) + 1 from by omega, List.range'_succ]
theorem filter_cons_map {s : Int} {i : Nat} (l : List Nat) : ((i :: l).filter (fun e : Nat => hasB s (e : Int))).map (fun e : Nat => (e : Int)) = (if hasB s (i : Int) = true then [(i : Int)] else []) ++ (l.filter (fun e : Nat => hasB s (e : Int))).map (fun e : Nat => (e : Int)) := by
  rw [List.filter_cons]
  by_cases h : hasB s (i : Int) = true
  · rw [if_pos h, if_pos h]; rfl
  · rw [if_neg h, if_neg h]; rfl
theorem implElements_ev (s : Int) : Ev (fun k => impl_ElementsOf.f k s) (elsB s) := by
  have h := down (P := fun i => ∀ acc : List Int, acc.length ≤ i → Ev (fun k => impl_ElementsOf.l0 k s acc (i : Int)) (acc ++ ((List.range' i (8 - i)).filter (fun e : Nat => hasB s (e : Int))).map (fun e : Nat => (e : Int)))) 8
    (by
      intro acc ha
      apply Ev.step
      · intro k
        simp only [impl_ElementsOf.l0, implHas_eq, Option.bind_some]
        rw [if_neg (by omega)]
      · simpa using Ev.now _)
    (by
      intro i hi ih acc ha
      apply Ev.step
      · intro k
        simp only [impl_ElementsOf.l0, implHas_eq, Option.bind_some]
        rw [if_pos (by omega), w_succ hi (by omega)]
      · rw [range'_cons hi, filter_cons_map]
        by_cases hx : hasB s (i : Int) = true
        · refine Ev.ifp hx (Ev.ifp (by omega) ?_)
          rw [if_pos hx, ← List.append_assoc]
          exact ih (acc ++ [(i : Int)]) (by simp; omega)
        · refine Ev.ifn hx ?_
          rw [if_neg hx]
          exact ih acc (by omega))
  have h0 := h [] (Nat.le_refl 0)
  rw [show ((0 : Nat) : Int) = 0 from rfl] at h0
  have e : elsB s = [] ++ ((List.range' 0 (8 - 0)).filter (fun e : Nat => hasB s (e : Int))).map (fun e : Nat => (e : Int)) := by
    unfold elsB
    rw [List.nil_append, List.range_eq_range']
  rw [e]
  unfold impl_ElementsOf.f
  exact h0
theorem elsB_mem {s x : Int} (h : x ∈ elsB s) : ∃ e : Nat, x = e ∧ e < 8 ∧ hasB s (e : Int) = true := by
  simp only [elsB, List.mem_map, List.mem_filter, List.mem_range] at h
  obtain ⟨e, ⟨h1, h2⟩, rfl⟩ := h
  exact ⟨e, rfl, h1, h2⟩
theorem elsB_len (s : Int) : (elsB s).length ≤ 8 := by
  unfold elsB
  rw [List.length_map]
  exact Nat.le_trans (List.length_filter_le _ _) (by simp)
theorem elsB_nat {s : Nat} (h : s < 256) : elsB (s : Int) = (els s).map (fun e : Nat => (e : Int)) := by
  have e : (List.range 8).filter (fun e : Nat => hasB (s : Int) (e : Int)) = (List.range 8).filter (fun e : Nat => s.testBit e) :=
    List.filter_congr (fun e he => by
      rw [List.mem_range] at he
      rw [hasB_nat]
      simp [h, he])
  unfold elsB els
  rw [e]

end Go.Proofs.Ytinoamehdhgpgaa.Q

namespace Go.Proofs.Ytinoamehdhgpgaa.Q
open Go Go.RowKit Go.Proofs.Ytinoamehdhgpgaa.A Go.Proofs.YtinoamehdhgpgaaW.PrintWords Go.Proofs.YtinoamehdhgpgaaW.PrintLast Go.Proofs.YtinoamehdhgpgaaW.PrintMore Go.Proofs.Ytinoamehdhgpgaa.Z
set_option linter.unusedVariables false
set_option linter.unusedSimpArgs false

theorem contains_cons (x : Int) (l : List Int) (a : Int) : (x :: l).contains a = (decide (x = a) || l.contains a) := by
  rw [Bool.eq_iff_iff]
  simp only [List.contains_iff_mem, List.mem_cons, Bool.or_eq_true, decide_eq_true_eq]
  constructor
  · rintro (h | h)
    · exact .inl h.symm
    · exact .inr h
  · rintro (h | h)
    · exact .inl h.symm
    · exact .inr h
theorem specHasSet_ev (l : List Int) (a : Int) (hl : l.length ≤ 17592186044416) : Ev (fun k => spec_HasSet.f k l a) (l.contains a) := by
  have h := down (P := fun i => Ev (fun k => spec_HasSet.l0 k l a (i : Int)) ((l.drop i).contains a)) l.length
    (by
      apply Ev.step
      · intro k
        simp only [spec_HasSet.l0]
        rw [if_neg (by omega)]
      · rw [drop_end]; exact Ev.now _)
    (by
      intro i hi ih
      apply Ev.step
      · intro k
        simp only [spec_HasSet.l0]
        rw [if_pos (by omega), if_pos (by omega), rd_getElem l i hi, w_succ hi hl]
      · rw [drop_cons l i hi, contains_cons]
        by_cases hx : l[i] = a
        · refine Ev.ifp hx ?_
          rw [show decide (l[i] = a) = true from by simpa using hx, Bool.true_or]; exact Ev.now _
        · refine Ev.ifn hx ?_
          rw [show decide (l[i] = a) = false from by simpa using hx, Bool.false_or]; exact ih)
  exact h

end Go.Proofs.Ytinoamehdhgpgaa.Q

namespace Go.Proofs.Ytinoamehdhgpgaa.Q
open Go Go.RowKit Go.Proofs.Ytinoamehdhgpgaa.A Go.Proofs.YtinoamehdhgpgaaW.PrintWords Go.Proofs.YtinoamehdhgpgaaW.PrintLast Go.Proofs.YtinoamehdhgpgaaW.PrintMore Go.Proofs.Ytinoamehdhgpgaa.Z
set_option linter.unusedVariables false
set_option linter.unusedSimpArgs false

theorem index_l0 (l : List Int) (a : Int) (hl : l.length ≤ 17592186044416) : ∃ r : Int, Ev (fun k => slices_Index_int_int.f k l a) r ∧ (decide (r ≥ 0) = l.contains a) := by
  have h := down (P := fun i => ∃ r : Int, Ev (fun k => slices_Index_int_int.l0 k l a (l.length : Int) (i : Int)) r ∧ (decide (r ≥ 0) = (l.drop i).contains a)) l.length
    (by
      refine ⟨-1, ?_, by rw [drop_end]; rfl⟩
      apply Ev.step
      · intro k
        simp only [slices_Index_int_int.l0]
        rw [if_neg (by omega)]
      · exact Ev.now _)
    (by
      intro i hi ih
      rw [drop_cons l i hi, contains_cons]
      by_cases hx : l[i] = a
      · refine ⟨(i : Int), ?_, ?_⟩
        · apply Ev.step
          · intro k
            simp only [slices_Index_int_int.l0]
            rw [if_pos (by omega), if_pos (by omega), if_pos (by omega), rd_getElem l i hi, if_pos hx.symm]
          · exact Ev.now _
        · rw [show decide (l[i] = a) = true from by simpa using hx, Bool.true_or]
          simp
      · obtain ⟨r, hr, hd⟩ := ih
        refine ⟨r, ?_, ?_⟩
        · apply Ev.step
          · intro k
            simp only [slices_Index_int_int.l0]
            rw [if_pos (by omega), if_pos (by omega), if_pos (by omega), rd_getElem l i hi, if_neg (fun hc => hx hc.symm), w_succ hi hl]
          · exact hr
        · rw [show decide (l[i] = a) = false from by simpa using hx, Bool.false_or]; exact hd)
  exact h
theorem contains_ev (l : List Int) (a : Int) (hl : l.length ≤ 17592186044416) : Ev (fun k => slices_Contains_int_int.f k l a) (l.contains a) := by
  obtain ⟨r, hr, hd⟩ := index_l0 l a hl
  unfold slices_Contains_int_int.f
  refine Ev.bind hr ?_
  rw [hd]; exact Ev.now _

end Go.Proofs.Ytinoamehdhgpgaa.Q

namespace Go.Proofs.Ytinoamehdhgpgaa.Q
open Go Go.RowKit Go.Proofs.YtinoamehdhgpgaaW.PrintWords Go.Proofs.YtinoamehdhgpgaaW.PrintLast Go.Proofs.YtinoamehdhgpgaaW.PrintMore Go.Proofs.Ytinoamehdhgpgaa.Z
set_option linter.unusedVariables false
set_option linter.unusedSimpArgs false

/-- Can e be exchanged for an element of b? -/
def hasEx (l : List Int) (a b e : Nat) : Bool := (els (dif b a)).any (fun f => l.contains ((dif a (2 ^ e) ||| 2 ^ f : Nat) : Int))
def failE (l : List Int) (a b : Nat) : List Nat → Option Nat
  | [] => none
  | e :: es => if hasEx l a b e = true then failE l a b es else some e
def failB (l : List Int) (a : Nat) : List Nat → Option (Nat × Nat)
  | [] => none
  | b :: bs => match failE l a b (els (dif a b)) with
    | none => failB l a bs
    | some e => some (b, e)
def failA (l : List Int) (L : List Nat) : List Nat → Option (Nat × Nat × Nat)
  | [] => none
  | a :: la => match failB l a L with
    | none => failA l L la
    | some (b, e) => some (a, b, e)
def told : Option (Nat × Nat × Nat) → Int × Int × Int × Bool
  | none => (0, 0, 0, false)
  | some (a, b, e) => ((a : Int), (b : Int), (e : Int), true)
/-- What FirstFailure hands back. -/
def failT (n : Int) (l : List Int) : Int × Int × Int × Bool := if famB n l = true then told (failA l (l.map Int.toNat) (l.map Int.toNat)) else (0, 0, 0, false)
theorem els_dif {a b n : Nat} (ha : a < 2 ^ n) (hn : n ≤ 8) : els (dif a b) = (List.range n).filter (fun e => a.testBit e && !b.testBit e) := by
  have h1 : (List.range 8).filter (fun e => (dif a b).testBit e) = (List.range 8).filter (fun e => decide (e < n) && (a.testBit e && !b.testBit e)) :=
    List.filter_congr (fun e _ => by
      rw [dif_bit]
      by_cases h : e < n
      · simp [h]
      · have : a.testBit e = false := Nat.testBit_lt_two_pow (Nat.lt_of_lt_of_le ha (Nat.pow_le_pow_right (by decide) (by omega)))
        simp [this])
  unfold els
  rw [h1]
  have h2 : ∀ (p : Nat → Bool) (a b : Nat), (List.range a).filter (fun e => decide (e < b) && p e) = (List.range (min a b)).filter p := by
    intro p a b
    induction a with
    | zero => simp
    | succ a ih =>
      rw [List.range_succ, List.filter_append, ih]
      by_cases h : a < b
      · rw [show min (a + 1) b = min a b + 1 from by omega, List.range_succ, List.filter_append]
        have e : min a b = a := by omega
        rw [e]
        congr 1
        simp [List.filter_cons, h]
      · rw [show min (a + 1) b = min a b from by omega]
        simp [List.filter_cons, h]
  rw [h2, Nat.min_eq_right hn]

end Go.Proofs.Ytinoamehdhgpgaa.Q

namespace Go.Proofs.Ytinoamehdhgpgaa.Q
open Go Go.RowKit Go.Proofs.Ytinoamehdhgpgaa.A Go.Proofs.YtinoamehdhgpgaaW.PrintWords Go.Proofs.YtinoamehdhgpgaaW.PrintLast Go.Proofs.YtinoamehdhgpgaaW.PrintMore Go.Proofs.Ytinoamehdhgpgaa.Z
set_option linter.unusedVariables false
set_option linter.unusedSimpArgs false

theorem pow_wrap {e : Nat} (he : e < 8) : IntKind.i64.wrap (2 ^ e) = ((2 ^ e : Nat) : Int) := by
  have h2 : (2 ^ e : Nat) < 9223372036854775808 := by
    have := Nat.pow_lt_pow_right (a := 2) (by decide) (show e < 63 by omega)
    simpa using this
  have h3 : (2 : Int) ^ e = ((2 ^ e : Nat) : Int) := by simp
  rw [h3]
  exact i64_wrap_nat h2
theorem implC_ev (l : List Int) (hl : l.length ≤ 17592186044416) (a e f : Nat) (ha : a < 256) (he : e < 8) (hf : f < 8) : Ev (fun k => impl_FirstFailure.c k l (a : Int) (e : Int) (f : Int)) (l.contains ((dif a (2 ^ e) ||| 2 ^ f : Nat) : Int)) := by
  unfold impl_FirstFailure.c impl_HasSet.f
  refine Ev.ifp (by omega) (Ev.ifp (by omega) ?_)
  have hp : ∀ x < 8, 2 ^ x < 2 ^ 63 := fun x hx => Nat.pow_lt_pow_right (by decide) (by omega)
  rw [Int.toNat_natCast, Int.toNat_natCast, pow_wrap he, pow_wrap hf, andNot_nat (lt256_63 ha) (hp e he), or_nat (lt256_63 (dif_lt ha)) (hp f hf)]
  exact Ev.bind (contains_ev l _ hl) (Ev.now _)
theorem els_lt {s e : Nat} (h : e ∈ els s) : e < 8 := (mem_els.1 h).1
theorem any_map (p : Int → Bool) (L : List Nat) : (L.map (fun x : Nat => (x : Int))).any p = L.any (fun x => p (x : Int)) := by
  rw [List.any_map]; rfl
theorem implFail_l2 (l : List Int) (hl : l.length ≤ 17592186044416) (a b : Nat) (ha : a < 256) (hb : b < 256) : ∀ es : List Nat, (∀ e ∈ es, e < 8) → Ev (fun k => impl_FirstFailure.l2 k l (a : Int) (b : Int) (es.map (fun x : Nat => (x : Int)))) ((failE l a b es).map (fun x : Nat => (x : Int))) := by
  intro es
  induction es with
  | nil => intro _; exact Ev.now _
  | cons e es ih =>
    intro hm
    have he := hm e (List.mem_cons_self ..)
    simp only [List.map_cons, impl_FirstFailure.l2]
    rw [andNot_nat (lt256_63 hb) (lt256_63 ha)]
    refine Ev.bind (implElements_ev _) ?_
    rw [elsB_nat (dif_lt hb)]
    refine Ev.bind (a := hasEx l a b e) ?_ ?_
    · have h := Ev_anyO (g := fun k f => impl_FirstFailure.c k l (a : Int) (e : Int) f) (p := fun f => l.contains ((dif a (2 ^ e) ||| 2 ^ f.toNat : Nat) : Int)) (l := (els (dif b a)).map (fun x : Nat => (x : Int)))
        (fun x hx => by
          obtain ⟨f, hf, rfl⟩ := List.mem_map.1 hx
          have := implC_ev l hl a e f ha he (els_lt hf)
          rw [Int.toNat_natCast]
          exact this)
      rw [any_map] at h
      simp only [Int.toNat_natCast] at h
      exact h
    · simp only [failE]
      by_cases hx : hasEx l a b e = true
      · refine Ev.ifp hx ?_
        rw [if_pos hx]
        exact ih (fun e' he' => hm e' (List.mem_cons_of_mem _ he'))
      · refine Ev.ifn hx ?_
        rw [if_neg hx]
        exact Ev.now _
theorem implFail_l1 (l : List Int) (hl : l.length ≤ 17592186044416) (a : Nat) (ha : a < 256) : ∀ bs : List Nat, (∀ b ∈ bs, b < 256) → Ev (fun k => impl_FirstFailure.l1 k l (a : Int) (bs.map (fun x : Nat => (x : Int)))) ((failB l a bs).map (fun x : Nat × Nat => ((x.1 : Int), (x.2 : Int)))) := by
  intro bs
  induction bs with
  | nil => intro _; exact Ev.now _
  | cons b bs ih =>
    intro hm
    have hb := hm b (List.mem_cons_self ..)
    simp only [List.map_cons, impl_FirstFailure.l1]
    rw [andNot_nat (lt256_63 ha) (lt256_63 hb)]
    refine Ev.bind (implElements_ev _) ?_
    rw [elsB_nat (dif_lt ha)]
    refine Ev.bind (implFail_l2 l hl a b ha hb _ (fun e he => els_lt he)) ?_
    simp only [failB]
    cases failE l a b (els (dif a b)) with
    | none => exact ih (fun b' hb' => hm b' (List.mem_cons_of_mem _ hb'))
    | some e => exact Ev.now _
theorem implFail_l0 (l : List Int) (L : List Nat) (hlL : l = L.map (fun x : Nat => (x : Int))) (hl : l.length ≤ 17592186044416) (hL : ∀ b ∈ L, b < 256) : ∀ la : List Nat, (∀ a ∈ la, a < 256) → Ev (fun k => impl_FirstFailure.l0 k l (la.map (fun x : Nat => (x : Int)))) ((failA l L la).map (fun x : Nat × Nat × Nat => ((x.1 : Int), (x.2.1 : Int), (x.2.2 : Int)))) := by
  intro la
  induction la with
  | nil => intro _; exact Ev.now _
  | cons a la ih =>
    intro hm
    have ha := hm a (List.mem_cons_self ..)
    simp only [List.map_cons, impl_FirstFailure.l0]
    refine Ev.bind (a := (failB l a L).map (fun x : Nat × Nat => ((x.1 : Int), (x.2 : Int)))) (by
      have := implFail_l1 l hl a ha L hL
      rw [← hlL] at this
      exact this) ?_
    simp only [failA]
    cases failB l a L with
    | none => exact ih (fun a' ha' => hm a' (List.mem_cons_of_mem _ ha'))
    | some x => exact Ev.now _
theorem implFail_ev (n : Int) (l : List Int) (hl : l.length ≤ 17592186044416) : Ev (fun k => impl_FirstFailure.f k n l) (failT n l) := by
  unfold impl_FirstFailure.f failT
  refine Ev.bind (implFam_ev n l hl) ?_
  by_cases hf : famB n l = true
  · refine Ev.ifp hf ?_
    rw [if_pos hf]
    obtain ⟨m, L, rfl, hm, hlL, hL, _⟩ := famB_nat hf
    have hmap : l.map Int.toNat = L := by rw [hlL, toNat_map]
    have h256 : ∀ b ∈ L, b < 256 := fun b hb => Nat.lt_of_lt_of_le (hL b hb) (pow_le_256 hm)
    have h := implFail_l0 l L hlL hl h256 L h256
    rw [← hlL] at h
    refine Ev.bind h ?_
    rw [hmap]
    cases failA l L L with
    | none => exact Ev.now _
    | some x => exact Ev.now _
  · refine Ev.ifn hf ?_
    rw [if_neg hf]
    exact Ev.now _

end Go.Proofs.Ytinoamehdhgpgaa.Q

namespace Go.Proofs.Ytinoamehdhgpgaa.Q
open Go Go.RowKit Go.Proofs.Ytinoamehdhgpgaa.A Go.Proofs.YtinoamehdhgpgaaW.PrintWords Go.Proofs.YtinoamehdhgpgaaW.PrintLast Go.Proofs.YtinoamehdhgpgaaW.PrintMore Go.Proofs.Ytinoamehdhgpgaa.Z
set_option linter.unusedVariables false
set_option linter.unusedSimpArgs false

theorem specEx_ev (n : Nat) (hn : n ≤ 8) (l : List Int) (hl : l.length ≤ 17592186044416) (a b e : Nat) (ha : a < 256) (hb : b < 2 ^ n) (he : e < 8) (hae : a.testBit e = true) :
    Ev (fun k => spec_l4Exchange.f k (n : Int) l (a : Int) (b : Int) (e : Int)) (hasEx l a b e) := by
  have hb256 : b < 256 := Nat.lt_of_lt_of_le hb (pow_le_256 hn)
  have h := down (P := fun f => Ev (fun k => spec_l4Exchange.l0 k (a : Int) (b : Int) (e : Int) (f : Int) (n : Int) l) (((List.range' f (n - f)).filter (fun f => b.testBit f && !a.testBit f)).any (fun f => l.contains ((dif a (2 ^ e) ||| 2 ^ f : Nat) : Int)))) n
    (by
      apply Ev.step
      · intro k
        simp only [spec_l4Exchange.l0]
        rw [if_neg (by omega)]
      · rw [Nat.sub_self]; exact Ev.now _)
    (by
      intro f hf ih
      have hih : Ev (fun k => spec_l4Exchange.l0 k (a : Int) (b : Int) (e : Int) (wrap64 ((f : Int) + 1)) (n : Int) l) (((List.range' (f + 1) (n - (f + 1))).filter (fun f => b.testBit f && !a.testBit f)).any (fun f => l.contains ((dif a (2 ^ e) ||| 2 ^ f : Nat) : Int))) := by
        rw [w_succ hf (by omega)]; exact ih
      apply Ev.step
      · intro k
        simp only [spec_l4Exchange.l0, l2Has_eq (lt256_63 hb256) (show f < 2 ^ 63 by omega), l2Has_eq (lt256_63 ha) (show f < 2 ^ 63 by omega), Option.bind_some]
        rw [if_pos (by omega)]
      · rw [range'_cons hf, List.filter_cons]
        by_cases hbf : b.testBit f = true
        · refine Ev.ifp hbf ?_
          by_cases haf : a.testBit f = true
          · refine Ev.ifp haf ?_
            rw [if_neg (by rw [haf]; simp)]
            exact hih
          · refine Ev.ifn haf (Ev.ifp (u64_nonneg _) (Ev.ifp (u64_nonneg _) ?_))
            have haf' := Bool.eq_false_iff.2 haf
            rw [if_pos (by rw [hbf, haf']; rfl), List.any_cons]
            obtain ⟨x1, x2, x3⟩ := exch_arith ha he (show f < 8 by omega) hae haf'
            have hp : 2 ^ f < 256 := Nat.pow_lt_pow_right (a := 2) (m := f) (n := 8) (by decide) (by omega)
            have ex : wrap64 (wrap64 ((a : Int) - shl .i64 1 (IntKind.u64.wrap (e : Int))) + shl .i64 1 (IntKind.u64.wrap (f : Int))) = ((dif a (2 ^ e) ||| 2 ^ f : Nat) : Int) := by
              rw [u64_of (by omega) (by omega), u64_of (by omega) (by omega), shl_one (by omega), shl_one (by omega), ← x1]
              generalize 2 ^ e = p at *
              generalize 2 ^ f = q at *
              rw [wrap64_of (n := (a : Int) - (p : Int)) (by omega) (by omega), wrap64_of (by omega) (by omega)]
              omega
            rw [ex]
            refine Ev.bind (specHasSet_ev l _ hl) ?_
            by_cases hc : l.contains ((dif a (2 ^ e) ||| 2 ^ f : Nat) : Int) = true
            · refine Ev.ifp hc ?_
              rw [hc, Bool.true_or]; exact Ev.now _
            · refine Ev.ifn hc ?_
              rw [Bool.eq_false_iff.2 hc, Bool.false_or]; exact hih
        · refine Ev.ifn hbf ?_
          rw [if_neg (by rw [Bool.eq_false_iff.2 hbf]; simp)]
          exact hih)
  rw [Nat.sub_zero, ← List.range_eq_range', ← els_dif hb hn] at h
  exact h
theorem specFail_l2 (n : Nat) (hn : n ≤ 8) (l : List Int) (hl : l.length ≤ 17592186044416) (i j : Nat) (hi : i < l.length) (hj : j < l.length) (a b : Nat) (hai : rd l (i : Int) = a) (hbj : rd l (j : Int) = b) (ha : a < 2 ^ n) (hb : b < 2 ^ n) (K : Int × Int × Int × Bool)
    (hK : Ev (fun k => spec_FirstFailure.l1 k (i : Int) (wrap64 ((j : Int) + 1)) (n : Int) l) K) :
    Ev (fun k => spec_FirstFailure.l2 k (i : Int) (j : Int) 0 (n : Int) l) (match failE l a b (els (dif a b)) with | none => K | some e => ((a : Int), (b : Int), (e : Int), true)) := by
  have ha256 : a < 256 := Nat.lt_of_lt_of_le ha (pow_le_256 hn)
  have hb256 : b < 256 := Nat.lt_of_lt_of_le hb (pow_le_256 hn)
  have h := down (P := fun e => Ev (fun k => spec_FirstFailure.l2 k (i : Int) (j : Int) (e : Int) (n : Int) l) (match failE l a b ((List.range' e (n - e)).filter (fun e => a.testBit e && !b.testBit e)) with | none => K | some e => ((a : Int), (b : Int), (e : Int), true))) n
    (by
      apply Ev.step
      · intro k
        simp only [spec_FirstFailure.l2]
        rw [if_neg (by omega)]
      · rw [Nat.sub_self]; exact hK)
    (by
      intro e he ih
      have hih : Ev (fun k => spec_FirstFailure.l2 k (i : Int) (j : Int) (wrap64 ((e : Int) + 1)) (n : Int) l) (match failE l a b ((List.range' (e + 1) (n - (e + 1))).filter (fun e => a.testBit e && !b.testBit e)) with | none => K | some e => ((a : Int), (b : Int), (e : Int), true)) := by
        rw [w_succ he (by omega)]; exact ih
      apply Ev.step
      · intro k
        simp only [spec_FirstFailure.l2]
        rw [if_pos (by omega), if_pos (by omega), if_pos (by omega), if_pos (by omega), if_pos (by omega), hai, hbj, l2Has_eq (lt256_63 ha256) (show e < 2 ^ 63 by omega), l2Has_eq (lt256_63 hb256) (show e < 2 ^ 63 by omega), Option.bind_some, Option.bind_some]
      · rw [range'_cons he, List.filter_cons]
        by_cases hae : a.testBit e = true
        · refine Ev.ifp hae ?_
          by_cases hbe : b.testBit e = true
          · refine Ev.ifp hbe ?_
            rw [if_neg (by rw [hbe]; simp)]
            exact hih
          · refine Ev.ifn hbe (Ev.bind (specEx_ev n hn l hl a b e ha256 hb (by omega) hae) ?_)
            rw [if_pos (by rw [hae, Bool.eq_false_iff.2 hbe]; rfl)]
            simp only [failE]
            by_cases hx : hasEx l a b e = true
            · refine Ev.ifp hx ?_
              rw [if_pos hx]; exact hih
            · refine Ev.ifn hx ?_
              rw [if_neg hx]; exact Ev.now _
        · refine Ev.ifn hae ?_
          rw [if_neg (by rw [Bool.eq_false_iff.2 hae]; simp)]
          exact hih)
  rw [Nat.sub_zero, ← List.range_eq_range', ← els_dif ha hn] at h
  exact h
theorem specFail_ev (n : Int) (l : List Int) (hl : l.length ≤ 17592186044416) : Ev (fun k => spec_FirstFailure.f k n l) (failT n l) := by
  unfold spec_FirstFailure.f failT
  refine Ev.bind (specFam_ev n l hl) ?_
  by_cases hf : famB n l = true
  · refine Ev.ifp hf ?_
    rw [if_pos hf]
    obtain ⟨m, L, rfl, hm, rfl, hL, _⟩ := famB_nat hf
    rw [toNat_map]
    have hlen : (L.map (fun x : Nat => (x : Int))).length = L.length := List.length_map _
    rw [hlen] at hl
    have hrd : ∀ i, (h : i < L.length) → rd (L.map (fun x : Nat => (x : Int))) (i : Int) = (L[i] : Int) := fun i h => by
      rw [rd_getElem _ i (by rw [hlen]; exact h), List.getElem_map]
    have hl' : (L.map (fun x : Nat => (x : Int))).length ≤ 17592186044416 := by rw [hlen]; exact hl
    generalize L.map (fun x : Nat => (x : Int)) = l at hlen hrd hl'
    have h := down (P := fun i => Ev (fun k => spec_FirstFailure.l0 k (i : Int) (m : Int) l) (told (failA l L (L.drop i)))) L.length
      (by
        apply Ev.step
        · intro k
          simp only [spec_FirstFailure.l0]
          rw [if_neg (by omega)]
        · rw [drop_end]; exact Ev.now _)
      (by
        intro i hi ih
        have hia := hL _ (List.getElem_mem hi)
        have hih : Ev (fun k => spec_FirstFailure.l0 k (wrap64 ((i : Int) + 1)) (m : Int) l) (told (failA l L (L.drop (i + 1)))) := by
          rw [w_succ hi hl]; exact ih
        apply Ev.step
        · intro k
          simp only [spec_FirstFailure.l0]
          rw [if_pos (by omega)]
        · have h1 := down (P := fun j => Ev (fun k => spec_FirstFailure.l1 k (i : Int) (j : Int) (m : Int) l) (match failB l L[i] (L.drop j) with | none => told (failA l L (L.drop (i + 1))) | some (b, e) => ((L[i] : Int), (b : Int), (e : Int), true))) L.length
            (by
              apply Ev.step
              · intro k
                simp only [spec_FirstFailure.l1]
                rw [if_neg (by omega)]
              · rw [drop_end]; exact hih)
            (by
              intro j hj ihj
              have hjb := hL _ (List.getElem_mem hj)
              apply Ev.step
              · intro k
                simp only [spec_FirstFailure.l1]
                rw [if_pos (by omega)]
              · have h2 := specFail_l2 m hm l hl' i j (by omega) (by omega) L[i] L[j] (hrd i hi) (hrd j hj) hia hjb _ (by rw [w_succ hj hl]; exact ihj)
                rw [drop_cons L j hj]
                simp only [failB]
                generalize failE l L[i] L[j] (els (dif L[i] L[j])) = q at h2
                cases q with
                | none => exact h2
                | some e => exact h2)
          rw [drop_cons L i hi]
          simp only [failA]
          rw [List.drop_zero] at h1
          generalize failB l L[i] L = q at h1
          cases q with
          | none => exact h1
          | some x => exact h1)
    exact h
  · refine Ev.ifn hf ?_
    rw [if_neg hf]
    exact Ev.now _

end Go.Proofs.Ytinoamehdhgpgaa.Q

namespace Go.Proofs.Ytinoamehdhgpgaa.Q
open Go Go.RowKit Go.Proofs.Ytinoamehdhgpgaa.A Go.Proofs.YtinoamehdhgpgaaW.PrintWords Go.Proofs.YtinoamehdhgpgaaW.PrintLast Go.Proofs.YtinoamehdhgpgaaW.PrintMore Go.Proofs.Ytinoamehdhgpgaa.Z
set_option linter.unusedVariables false
set_option linter.unusedSimpArgs false

/-- A matroid: a family, not empty, without a failure of the exchange. -/
def matB (n : Int) (l : List Int) : Bool := famB n l && (decide ((l.length : Int) > 0) && !(failT n l).2.2.2)
theorem specMat_ev (n : Int) (l : List Int) (hl : l.length ≤ 17592186044416) : Ev (fun k => spec_IsMatroid.f k n l) (matB n l) := by
  unfold spec_IsMatroid.f matB
  refine Ev.bind (specFail_ev n l hl) (Ev.bind (specFam_ev n l hl) ?_)
  by_cases hf : famB n l = true
  · refine Ev.ifp hf ?_
    rw [hf, Bool.true_and]
    by_cases h0 : (l.length : Int) > 0
    · refine Ev.ifp h0 ?_
      rw [show decide ((l.length : Int) > 0) = true from by simpa using h0, Bool.true_and]
      exact Ev.now _
    · refine Ev.ifn h0 ?_
      rw [show decide ((l.length : Int) > 0) = false from by simpa using h0, Bool.false_and]
      exact Ev.now _
  · refine Ev.ifn hf ?_
    rw [Bool.eq_false_iff.2 hf, Bool.false_and]
    exact Ev.now _

end Go.Proofs.Ytinoamehdhgpgaa.Q

namespace Go.Proofs.Ytinoamehdhgpgaa.Q
open Go Go.RowKit Go.Proofs.Ytinoamehdhgpgaa.A Go.Proofs.YtinoamehdhgpgaaW.PrintWords Go.Proofs.YtinoamehdhgpgaaW.PrintLast Go.Proofs.YtinoamehdhgpgaaW.PrintMore Go.Proofs.Ytinoamehdhgpgaa.Z
set_option linter.unusedVariables false
set_option linter.unusedSimpArgs false

theorem implMat_ev (n : Int) (l : List Int) (hl : l.length ≤ 17592186044416) : Ev (fun k => impl_IsMatroid.f k n l) (matB n l) := by
  unfold impl_IsMatroid.f matB
  refine Ev.bind (implFail_ev n l hl) (Ev.bind (implFam_ev n l hl) ?_)
  by_cases hf : famB n l = true
  · refine Ev.ifp hf ?_
    rw [hf, Bool.true_and]
    by_cases h0 : (l.length : Int) > 0
    · refine Ev.ifp h0 ?_
      rw [show decide ((l.length : Int) > 0) = true from by simpa using h0, Bool.true_and]
      exact Ev.now _
    · refine Ev.ifn h0 ?_
      rw [show decide ((l.length : Int) > 0) = false from by simpa using h0, Bool.false_and]
      exact Ev.now _
  · refine Ev.ifn hf ?_
    rw [Bool.eq_false_iff.2 hf, Bool.false_and]
    exact Ev.now _

end Go.Proofs.Ytinoamehdhgpgaa.Q

namespace Go.Proofs.Ytinoamehdhgpgaa.Q
open Go Go.RowKit Go.Proofs.YtinoamehdhgpgaaW.PrintWords Go.Proofs.YtinoamehdhgpgaaW.PrintLast Go.Proofs.YtinoamehdhgpgaaW.PrintMore Go.Proofs.Ytinoamehdhgpgaa.Z
set_option linter.unusedVariables false
set_option linter.unusedSimpArgs false

/-- What a matroid is, as numbers. -/
theorem matB_nat {n : Int} {l : List Int} (h : matB n l = true) : ∃ (m : Nat) (L : List Nat), n = m ∧ m ≤ 8 ∧ l = ints L ∧ (∀ x ∈ L, x < 2 ^ m) ∧ (∀ x ∈ L, x < 256) ∧ L.Pairwise (· < ·) ∧ L ≠ [] := by
  simp only [matB, Bool.and_eq_true, decide_eq_true_eq] at h
  obtain ⟨m, L, rfl, hm, rfl, hL, hp⟩ := famB_nat h.1
  refine ⟨m, L, rfl, hm, rfl, hL, fun x hx => Nat.lt_of_lt_of_le (hL x hx) (pow_le_256 hm), hp, ?_⟩
  rintro rfl
  simp at h
theorem ints_len (L : List Nat) : (ints L).length = L.length := List.length_map _
theorem ints_rd (L : List Nat) (i : Nat) (h : i < L.length) : rd (ints L) (i : Int) = (L[i] : Int) := by
  rw [rd_getElem _ i (by rw [ints_len]; exact h)]
  simp [ints]

end Go.Proofs.Ytinoamehdhgpgaa.Q

namespace Go.Proofs.Ytinoamehdhgpgaa.Q
open Go Go.RowKit Go.Proofs.Ytinoamehdhgpgaa.A Go.Proofs.YtinoamehdhgpgaaW.PrintWords Go.Proofs.YtinoamehdhgpgaaW.PrintLast Go.Proofs.YtinoamehdhgpgaaW.PrintMore Go.Proofs.Ytinoamehdhgpgaa.Z
set_option linter.unusedVariables false
set_option linter.unusedSimpArgs false

theorem specCount_l0 : ∀ (d x : Nat), x ≤ d → x < 256 → ∀ acc : Int, 0 ≤ acc → acc + (d : Int) ≤ 1000 → Ev (fun k => spec_CountOf.l0 k (x : Int) acc) (acc + (pc x : Int)) := by
  intro d
  induction d with
  | zero =>
    intro x hx _ acc h0 h1
    obtain rfl : x = 0 := by omega
    apply Ev.step
    · intro k
      simp only [spec_CountOf.l0]
      rw [if_neg (by decide)]
    · rw [pc_zero, show acc + ((0 : Nat) : Int) = acc from by omega]
      exact Ev.now _
  | succ d ih =>
    intro x hx h256 acc h0 h1
    by_cases hz : x = 0
    · subst hz
      exact ih 0 (by omega) h256 acc h0 (by omega)
    · have hb : Go.bits .and .i64 (x : Int) 1 = ((x % 2 : Nat) : Int) := by
        have := and_nat (a := x) (b := 1) (lt256_63 h256) (by decide)
        rw [Nat.and_one_is_mod] at this
        exact this
      apply Ev.step
      · intro k
        simp only [spec_CountOf.l0]
        rw [if_pos (by omega), hb, wrap64_of (by omega) (by omega), show (x : Int) / 2 = ((x / 2 : Nat) : Int) from by omega]
      · have hp := pc_step x h256
        have hl := pc_le (x / 2)
        have := ih (x / 2) (by omega) (by omega) (acc + ((x % 2 : Nat) : Int)) (by omega) (by omega)
        rw [show acc + ((x % 2 : Nat) : Int) + (pc (x / 2) : Int) = acc + (pc x : Int) from by omega] at this
        exact this
theorem specCount_ev (s : Nat) (h : s < 256) : Ev (fun k => spec_CountOf.f k (s : Int)) (pc s : Int) := by
  unfold spec_CountOf.f
  refine Ev.cbind (specIsSet_eq _ _) (Ev.ifp ?_ ?_)
  · rw [isSet8, isAnyB_nat]; simpa using h
  · have := specCount_l0 s s (Nat.le_refl _) h 0 (by omega) (by omega)
    rw [Int.zero_add] at this
    exact this
/-- CountOf at whatever number. -/
def countB (s : Int) : Int := if isAnyB s = true then (pc s.toNat : Int) else 0
theorem specCountB_ev (s : Int) : Ev (fun k => spec_CountOf.f k s) (countB s) := by
  by_cases h : isAnyB s = true
  · obtain ⟨t, rfl, ht⟩ := isAnyB_lt h
    rw [countB, if_pos h, Int.toNat_natCast]
    exact specCount_ev t ht
  · unfold spec_CountOf.f
    rw [countB, if_neg h]
    refine Ev.cbind (specIsSet_eq _ _) (Ev.ifn ?_ (Ev.now _))
    rw [isSet8]; exact h
theorem countB_nat {s : Nat} (h : s < 256) : countB (s : Int) = (pc s : Int) := by
  rw [countB, if_pos (by rw [isAnyB_nat]; simpa using h), Int.toNat_natCast]

end Go.Proofs.Ytinoamehdhgpgaa.Q

namespace Go.Proofs.Ytinoamehdhgpgaa.Q
open Go Go.RowKit Go.Proofs.Ytinoamehdhgpgaa.A Go.Proofs.YtinoamehdhgpgaaW.PrintWords Go.Proofs.YtinoamehdhgpgaaW.PrintLast Go.Proofs.YtinoamehdhgpgaaW.PrintMore Go.Proofs.Ytinoamehdhgpgaa.Z
set_option linter.unusedVariables false
set_option linter.unusedSimpArgs false

theorem l1Max_eq (a b : Int) : spec_l1Max.f a b = some (max a b) := by
  unfold spec_l1Max.f
  by_cases h : a > b
  · rw [if_pos h]; congr 1; omega
  · rw [if_neg h]; congr 1; omega
theorem specRank_ev (n : Int) (L : List Nat) (s : Nat) (hl : L.length ≤ 17592186044416) (hL : ∀ b ∈ L, b < 256) (hs : s < 256) : Ev (fun k => spec_l5Rank.f k n (ints L) (s : Int)) (rkN L s : Int) := by
  have h := down (P := fun i => ∀ acc : Nat, Ev (fun k => spec_l5Rank.l0 k (s : Int) (acc : Int) (i : Int) n (ints L)) ((maxN acc ((L.drop i).map (fun b => pc (b &&& s))) : Nat) : Int)) L.length
    (by
      intro acc
      apply Ev.step
      · intro k
        simp only [spec_l5Rank.l0]
        rw [if_neg (by rw [ints_len]; omega)]
      · rw [drop_end]; exact Ev.now _)
    (by
      intro i hi ih acc
      have hb := hL _ (List.getElem_mem hi)
      apply Ev.step
      · intro k
        simp only [spec_l5Rank.l0, l1Max_eq, Option.bind_some]
        rw [if_pos (by rw [ints_len]; omega), if_pos (by omega), ints_rd L i hi, w_succ hi hl, and_nat (lt256_63 hb) (lt256_63 hs)]
      · refine Ev.bind (specCount_ev _ (and_lt hb)) ?_
        rw [drop_cons L i hi, List.map_cons, maxN_cons]
        have := ih (max acc (pc (L[i] &&& s)))
        rw [show ((max acc (pc (L[i] &&& s)) : Nat) : Int) = max (acc : Int) (pc (L[i] &&& s) : Int) from by omega] at this
        exact this)
  exact h 0
theorem specFree_ev (n : Int) (L : List Nat) (s : Nat) (hl : L.length ≤ 17592186044416) (hL : ∀ b ∈ L, b < 256) (hne : L ≠ []) (hs : s < 256) : Ev (fun k => spec_l20Free.f k n (ints L) (s : Int)) (indN L s) := by
  unfold spec_l20Free.f
  refine Ev.bind (specRank_ev n L s hl hL hs) (Ev.bind (specCount_ev s hs) ?_)
  have : ((rkN L s : Int) == (pc s : Int)) = indN L s := by
    rw [Bool.eq_iff_iff, ← rk_eq_iff hs hne]
    simp only [beq_iff_eq]
    omega
  rw [this]
  exact Ev.now _

end Go.Proofs.Ytinoamehdhgpgaa.Q

namespace Go.Proofs.Ytinoamehdhgpgaa.Q
open Go Go.RowKit Go.Proofs.Ytinoamehdhgpgaa.A Go.Proofs.YtinoamehdhgpgaaW.PrintWords Go.Proofs.YtinoamehdhgpgaaW.PrintLast Go.Proofs.YtinoamehdhgpgaaW.PrintMore Go.Proofs.Ytinoamehdhgpgaa.Z
set_option linter.unusedVariables false
set_option linter.unusedSimpArgs false

theorem subset_eq (t s : Int) : impl_IsSubset.f t s = some (isAnyB t && (isAnyB s && decide (subN t.toNat s.toNat))) := by
  unfold impl_IsSubset.f
  rw [isAny_eq, isAny_eq, Option.bind_some, Option.bind_some]
  by_cases h1 : isAnyB t = true
  · rw [if_pos h1, h1, Bool.true_and]
    by_cases h2 : isAnyB s = true
    · rw [if_pos h2, h2, Bool.true_and]
      obtain ⟨a, rfl, ha⟩ := isAnyB_lt h1
      obtain ⟨b, rfl, hb⟩ := isAnyB_lt h2
      rw [andNot_nat (lt256_63 ha) (lt256_63 hb), Int.toNat_natCast, Int.toNat_natCast]
      have e : (((dif a b : Nat) : Int) == 0) = decide (subN a b) := by
        rw [Bool.eq_iff_iff, beq_iff_eq, decide_eq_true_eq]
        have h := @dif_zero a b
        constructor
        · intro h0; exact h.1 (by omega)
        · intro h0; have := h.2 h0; omega
      rw [e]
    · rw [if_neg h2, Bool.eq_false_iff.2 h2, Bool.false_and]
  · rw [if_neg h1, Bool.eq_false_iff.2 h1, Bool.false_and]
/-- independent at whatever number. -/
def indB (L : List Nat) (s : Int) : Bool := isAnyB s && indN L s.toNat
theorem implInd_ev (n : Int) (L : List Nat) (s : Int) (hl : L.length ≤ 17592186044416) (hL : ∀ b ∈ L, b < 256) : Ev (fun k => impl_independent.f k n (ints L) s) (indB L s) := by
  have h := down (P := fun i => Ev (fun k => impl_independent.l0 k s (ints L) ((ints L).length : Int) (i : Int)) (isAnyB s && (L.drop i).any (fun b => decide (subN s.toNat b)))) L.length
    (by
      apply Ev.step
      · intro k
        simp only [impl_independent.l0]
        rw [if_neg (by rw [ints_len]; omega)]
      · rw [drop_end]
        simp only [List.any_nil, Bool.and_false]
        exact Ev.now _)
    (by
      intro i hi ih
      have hb := hL _ (List.getElem_mem hi)
      apply Ev.step
      · intro k
        simp only [impl_independent.l0, subset_eq, Option.bind_some]
        rw [if_pos (by rw [ints_len]; omega), if_pos (by omega), if_pos (by rw [ints_len]; omega), ints_rd L i hi, w_succ hi hl]
      · rw [drop_cons L i hi, List.any_cons]
        rw [show isAnyB (L[i] : Int) = true from by rw [isAnyB_nat]; simpa using hb, Bool.true_and, Int.toNat_natCast]
        by_cases hx : (isAnyB s && decide (subN s.toNat L[i])) = true
        · refine Ev.ifp hx ?_
          simp only [Bool.and_eq_true] at hx
          rw [hx.1, hx.2]
          exact Ev.now _
        · refine Ev.ifn hx ?_
          have : (isAnyB s && (decide (subN s.toNat L[i]) || (L.drop (i + 1)).any (fun b => decide (subN s.toNat b)))) = (isAnyB s && (L.drop (i + 1)).any (fun b => decide (subN s.toNat b))) := by
            cases h1 : isAnyB s
            · rfl
            · rw [h1] at hx
              simp only [Bool.true_and] at hx ⊢
              rw [Bool.eq_false_iff.2 hx, Bool.false_or]
          rw [this]
          exact ih)
  exact h
theorem indB_nat {L : List Nat} {s : Nat} (hs : s < 256) : indB L (s : Int) = indN L s := by
  unfold indB
  rw [isAnyB_nat, show decide (s < 256) = true from by simpa using hs, Bool.true_and, Int.toNat_natCast]
/-- What lies in a set of n elements is one. -/
theorem indB_set {L : List Nat} {s : Int} {m : Nat} (hL : ∀ b ∈ L, b < 2 ^ m) (h : indB L s = true) : ∃ t : Nat, s = t ∧ t < 2 ^ m ∧ t < 256 ∧ indN L t = true := by
  unfold indB at h
  simp only [Bool.and_eq_true] at h
  obtain ⟨t, rfl, ht⟩ := isAnyB_lt h.1
  rw [Int.toNat_natCast] at h
  obtain ⟨b, hb, hsub⟩ := indN_iff.1 h.2
  exact ⟨t, rfl, Nat.lt_of_le_of_lt (subN_le hsub) (hL b hb), ht, h.2⟩

end Go.Proofs.Ytinoamehdhgpgaa.Q

namespace Go.Proofs.Ytinoamehdhgpgaa.Q
open Go Go.RowKit Go.Proofs.Ytinoamehdhgpgaa.A Go.Proofs.YtinoamehdhgpgaaW.PrintWords Go.Proofs.YtinoamehdhgpgaaW.PrintLast Go.Proofs.YtinoamehdhgpgaaW.PrintMore Go.Proofs.Ytinoamehdhgpgaa.Z
set_option linter.unusedVariables false
set_option linter.unusedSimpArgs false

/-- Two matroids of the same size. -/
def togB (n : Int) (l : List Int) (n' : Int) (l' : List Int) : Bool := matB n l && (matB n' l' && decide (n = n'))
theorem tog_ev (n : Int) (l : List Int) (n' : Int) (l' : List Int) (hl : l.length ≤ 17592186044416) (hl' : l'.length ≤ 17592186044416) : Ev (fun k => impl_together.f k n l n' l') (togB n l n' l') := by
  unfold impl_together.f togB
  refine Ev.bind (implMat_ev n l hl) ?_
  by_cases h1 : matB n l = true
  · refine Ev.ifp h1 ?_
    rw [h1, Bool.true_and]
    refine Ev.bind (implMat_ev n' l' hl') ?_
    by_cases h2 : matB n' l' = true
    · refine Ev.ifp h2 ?_
      rw [h2, Bool.true_and]
      have : (n == n') = decide (n = n') := by rw [Bool.eq_iff_iff]; simp
      rw [this]
      exact Ev.now _
    · refine Ev.ifn h2 ?_
      rw [Bool.eq_false_iff.2 h2, Bool.false_and]
      exact Ev.now _
  · refine Ev.ifn h1 ?_
    rw [Bool.eq_false_iff.2 h1, Bool.false_and]
    exact Ev.now _
def commonB (n : Int) (l : List Int) (n' : Int) (l' : List Int) (s : Int) : Bool := togB n l n' l' && (indB (l.map Int.toNat) s && indB (l'.map Int.toNat) s)
theorem implCommon_ev (n : Int) (l : List Int) (n' : Int) (l' : List Int) (s : Int) (hl : l.length ≤ 17592186044416) (hl' : l'.length ≤ 17592186044416) : Ev (fun k => impl_IsCommon.f k n l n' l' s) (commonB n l n' l' s) := by
  unfold impl_IsCommon.f commonB
  refine Ev.bind (tog_ev n l n' l' hl hl') ?_
  by_cases h : togB n l n' l' = true
  · refine Ev.ifp h ?_
    rw [h, Bool.true_and]
    simp only [togB, Bool.and_eq_true, decide_eq_true_eq] at h
    obtain ⟨m, L, rfl, hm, rfl, hL, hL256, _, hne⟩ := matB_nat h.1
    obtain ⟨m', L', rfl, hm', rfl, hL', hL256', _, hne'⟩ := matB_nat h.2.1
    rw [ints_len] at hl hl'
    rw [show (ints L).map Int.toNat = L from toNat_map L, show (ints L').map Int.toNat = L' from toNat_map L']
    refine Ev.bind (implInd_ev _ L s hl hL256) ?_
    by_cases h1 : indB L s = true
    · refine Ev.ifp h1 ?_
      rw [h1, Bool.true_and]
      exact Ev.bind (implInd_ev _ L' s hl' hL256') (Ev.now _)
    · refine Ev.ifn h1 ?_
      rw [Bool.eq_false_iff.2 h1, Bool.false_and]
      exact Ev.now _
  · refine Ev.ifn h ?_
    rw [Bool.eq_false_iff.2 h, Bool.false_and]
    exact Ev.now _
theorem specCommon_ev (n : Int) (l : List Int) (n' : Int) (l' : List Int) (s : Int) (hl : l.length ≤ 17592186044416) (hl' : l'.length ≤ 17592186044416) : Ev (fun k => spec_IsCommon.f k n l n' l' s) (commonB n l n' l' s) := by
  unfold spec_IsCommon.f commonB togB
  refine Ev.bind (specMat_ev n l hl) ?_
  by_cases h1 : matB n l = true
  · refine Ev.ifp h1 (Ev.bind (specMat_ev n' l' hl') ?_)
    rw [h1, Bool.true_and]
    by_cases h2 : matB n' l' = true
    · refine Ev.ifp h2 ?_
      rw [h2, Bool.true_and]
      by_cases hn : n = n'
      · refine Ev.ifp hn ?_
        subst hn
        rw [show decide (n = n) = true from by simp, Bool.true_and]
        obtain ⟨m, L, rfl, hm, rfl, hL, hL256, _, hne⟩ := matB_nat h1
        obtain ⟨m', L', hmm, hm', rfl, hL', hL256', _, hne'⟩ := matB_nat h2
        rw [ints_len] at hl hl'
        rw [show (ints L).map Int.toNat = L from toNat_map L, show (ints L').map Int.toNat = L' from toNat_map L']
        refine Ev.cbind (specIsSet_eq _ _) ?_
        by_cases hs : isSetB (m : Int) s = true
        · refine Ev.ifp hs ?_
          obtain ⟨_, t, _, rfl, _, _, ht⟩ := isSetB_lt hs
          rw [indB_nat ht, indB_nat ht]
          refine Ev.bind (specFree_ev _ L t hl hL256 hne ht) ?_
          by_cases hi : indN L t = true
          · refine Ev.ifp hi ?_
            rw [hi, Bool.true_and]
            exact Ev.bind (specFree_ev _ L' t hl' hL256' hne' ht) (Ev.now _)
          · refine Ev.ifn hi ?_
            rw [Bool.eq_false_iff.2 hi, Bool.false_and]
            exact Ev.now _
        · refine Ev.ifn hs ?_
          have : indB L s = false := by
            rw [Bool.eq_false_iff]
            intro hi
            obtain ⟨t, rfl, ht, _⟩ := indB_set hL hi
            apply hs
            rw [isSetB_nat]
            simp [hm, ht]
          rw [this, Bool.false_and]
          exact Ev.now _
      · refine Ev.ifn hn ?_
        rw [show decide (n = n') = false from by simpa using hn, Bool.false_and]
        exact Ev.now _
    · refine Ev.ifn h2 ?_
      rw [Bool.eq_false_iff.2 h2, Bool.false_and, Bool.false_and]
      exact Ev.now _
  · refine Ev.ifn h1 ?_
    rw [Bool.eq_false_iff.2 h1, Bool.false_and, Bool.false_and]
    exact Ev.now _

end Go.Proofs.Ytinoamehdhgpgaa.Q

namespace Go.Proofs.Ytinoamehdhgpgaa.Q
open Go Go.RowKit Go.Proofs.Ytinoamehdhgpgaa.A Go.Proofs.YtinoamehdhgpgaaW.PrintWords Go.Proofs.YtinoamehdhgpgaaW.PrintLast Go.Proofs.YtinoamehdhgpgaaW.PrintMore Go.Proofs.Ytinoamehdhgpgaa.Z
set_option linter.unusedVariables false
set_option linter.unusedSimpArgs false

set_option maxRecDepth 100000 in
theorem ones64 : ∀ s < 256, bits_OnesCount64.f ((s : Nat) : Int) = some ((pc s : Nat) : Int) := by decide +kernel
theorem implCount_eq (s : Nat) (h : s < 256) : impl_CountOf.f (s : Int) = some (pc s : Int) := by
  unfold impl_CountOf.f
  rw [isAny_eq, Option.bind_some, if_pos (by rw [isAnyB_nat]; simpa using h), u64_of (by omega) (by omega)]
  unfold bits_OnesCount.f
  rw [ones64 s h]
  rfl
theorem implCountB_eq (s : Int) : impl_CountOf.f s = some (countB s) := by
  by_cases h : isAnyB s = true
  · obtain ⟨t, rfl, ht⟩ := isAnyB_lt h
    rw [countB_nat ht]
    exact implCount_eq t ht
  · unfold impl_CountOf.f
    rw [isAny_eq, Option.bind_some, countB, if_neg h, if_neg h]

end Go.Proofs.Ytinoamehdhgpgaa.Q

namespace Go.Proofs.Ytinoamehdhgpgaa.Q
open Go Go.RowKit Go.Proofs.Ytinoamehdhgpgaa.A Go.Proofs.YtinoamehdhgpgaaW.PrintWords Go.Proofs.YtinoamehdhgpgaaW.PrintLast Go.Proofs.YtinoamehdhgpgaaW.PrintMore Go.Proofs.Ytinoamehdhgpgaa.Z
set_option linter.unusedVariables false
set_option linter.unusedSimpArgs false

theorem mx_nat (a b : Nat) : mx (a : Int) (b : Int) = ((max a b : Nat) : Int) := by
  unfold mx
  split <;> omega
theorem implRank_ev (n : Int) (L : List Nat) (s : Nat) (hl : L.length ≤ 17592186044416) (hL : ∀ b ∈ L, b < 256) (hs : s < 256) : Ev (fun k => impl_rankIn.f k n (ints L) (s : Int)) (rkN L s : Int) := by
  have h := down (P := fun i => ∀ acc : Nat, Ev (fun k => impl_rankIn.l0 k (s : Int) (acc : Int) (ints L) ((ints L).length : Int) (i : Int)) ((maxN acc ((L.drop i).map (fun b => pc (b &&& s))) : Nat) : Int)) L.length
    (by
      intro acc
      apply Ev.step
      · intro k
        simp only [impl_rankIn.l0]
        rw [if_neg (by rw [ints_len]; omega)]
      · rw [drop_end]; exact Ev.now _)
    (by
      intro i hi ih acc
      have hb := hL _ (List.getElem_mem hi)
      apply Ev.step
      · intro k
        simp only [impl_rankIn.l0]
        rw [if_pos (by rw [ints_len]; omega), if_pos (by omega), if_pos (by rw [ints_len]; omega), ints_rd L i hi, w_succ hi hl, and_nat (lt256_63 hs) (lt256_63 hb), Nat.and_comm, implCount_eq _ (and_lt hb), Option.bind_some, mx_nat]
      · rw [drop_cons L i hi, List.map_cons, maxN_cons]
        exact ih _)
  exact h 0

end Go.Proofs.Ytinoamehdhgpgaa.Q

namespace Go.Proofs.Ytinoamehdhgpgaa.Q
open Go Go.RowKit Go.Proofs.Ytinoamehdhgpgaa.A Go.Proofs.YtinoamehdhgpgaaW.PrintWords Go.Proofs.YtinoamehdhgpgaaW.PrintLast Go.Proofs.YtinoamehdhgpgaaW.PrintMore Go.Proofs.Ytinoamehdhgpgaa.Z
set_option linter.unusedVariables false
set_option linter.unusedSimpArgs false

def fullN (m : Nat) : Nat := 2 ^ m - 1
theorem full_sub_all : ∀ m < 9, ∀ u < 256, (!decide (u < 2 ^ m) || (decide (fullN m - u = dif (fullN m) u) && decide (fullN m < 2 ^ m))) = true := by decide +kernel
theorem full_sub {m u : Nat} (hm : m ≤ 8) (hu : u < 2 ^ m) : fullN m - u = dif (fullN m) u ∧ fullN m < 2 ^ m ∧ fullN m < 256 := by
  have h256 := Nat.lt_of_lt_of_le hu (pow_le_256 hm)
  have h := full_sub_all m (by omega) u h256
  rw [show decide (u < 2 ^ m) = true from by simpa using hu] at h
  simp only [Bool.not_true, Bool.false_or, Bool.and_eq_true, decide_eq_true_eq] at h
  exact ⟨h.1, h.2, Nat.lt_of_lt_of_le h.2 (pow_le_256 hm)⟩
theorem full_lt {m : Nat} (hm : m ≤ 8) : fullN m < 2 ^ m ∧ fullN m < 256 := (full_sub hm (Nat.two_pow_pos m)).2
theorem full_bit (m i : Nat) : (fullN m).testBit i = decide (i < m) := Nat.testBit_two_pow_sub_one m i
theorem specFull_eq {m : Nat} (hm : m ≤ 8) : spec_FullSet.f (m : Int) = some ((fullN m : Nat) : Int) := by
  unfold spec_FullSet.f fullN
  have hp := pow_le_256 hm
  have h0 := Nat.two_pow_pos m
  rw [l1In_eq, Option.bind_some, if_pos (by simp; omega), if_pos (u64_nonneg _), u64_of (by omega) (by omega), shl_one (by omega)]
  generalize 2 ^ m = q at *
  rw [wrap64_of (by omega) (by omega)]
  congr 1
  omega
theorem implFull_eq {m : Nat} (hm : m ≤ 8) : impl_FullSet.f (m : Int) = some ((fullN m : Nat) : Int) := by
  unfold impl_FullSet.f fullN
  have hp := pow_le_256 hm
  have h0 := Nat.two_pow_pos m
  rw [isSize_eq, Option.bind_some, if_pos (by simp; omega), if_pos (by omega), shl_one (by omega)]
  generalize 2 ^ m = q at *
  rw [wrap64_of (by omega) (by omega)]
  congr 1
  omega

end Go.Proofs.Ytinoamehdhgpgaa.Q

namespace Go.Proofs.Ytinoamehdhgpgaa.Q
open Go Go.RowKit Go.Proofs.YtinoamehdhgpgaaW.PrintWords Go.Proofs.YtinoamehdhgpgaaW.PrintLast Go.Proofs.YtinoamehdhgpgaaW.PrintMore Go.Proofs.Ytinoamehdhgpgaa.Z
set_option linter.unusedVariables false
set_option linter.unusedSimpArgs false

theorem togB_nat {n n' : Int} {l l' : List Int} (h : togB n l n' l' = true) : ∃ (m : Nat) (L L' : List Nat), n = m ∧ n' = m ∧ m ≤ 8 ∧ l = ints L ∧ l' = ints L' ∧ (∀ x ∈ L, x < 2 ^ m) ∧ (∀ x ∈ L', x < 2 ^ m) ∧ (∀ x ∈ L, x < 256) ∧ (∀ x ∈ L', x < 256) ∧ L ≠ [] ∧ L' ≠ [] := by
  simp only [togB, Bool.and_eq_true, decide_eq_true_eq] at h
  obtain ⟨h1, h2, h3⟩ := h
  obtain ⟨m, L, rfl, hm, rfl, hL, hL256, _, hne⟩ := matB_nat h1
  obtain ⟨m', L', rfl, hm', rfl, hL', hL256', _, hne'⟩ := matB_nat h2
  have : m = m' := by omega
  subst this
  exact ⟨m, L, L', rfl, rfl, hm, rfl, rfl, hL, hL', hL256, hL256', hne, hne'⟩
theorem commonB_zero (n : Int) (l : List Int) (n' : Int) (l' : List Int) : commonB n l n' l' 0 = togB n l n' l' := by
  unfold commonB
  by_cases h : togB n l n' l' = true
  · rw [h, Bool.true_and]
    obtain ⟨m, L, L', rfl, rfl, hm, rfl, rfl, hL, hL', hL256, hL256', hne, hne'⟩ := togB_nat h
    rw [show (ints L).map Int.toNat = L from toNat_map L, show (ints L').map Int.toNat = L' from toNat_map L']
    have hz : ∀ M : List Nat, M ≠ [] → indB M 0 = true := fun M hM => by
      have := @indB_nat M 0 (by omega)
      rw [show ((0 : Nat) : Int) = 0 from rfl] at this
      rw [this, indN_iff]
      obtain ⟨b, hb⟩ := List.exists_mem_of_ne_nil M hM
      exact ⟨b, hb, subN_zero b⟩
    rw [hz L hne, hz L' hne']
    rfl
  · rw [Bool.eq_false_iff.2 h, Bool.false_and]
theorem rkN_le8 (L : List Nat) (s : Nat) : rkN L s ≤ 8 := Nat.le_trans (rkN_le L s) (pc_le s)

end Go.Proofs.Ytinoamehdhgpgaa.Q

namespace Go.Proofs.Ytinoamehdhgpgaa.Q
open Go Go.RowKit Go.Proofs.Ytinoamehdhgpgaa.A Go.Proofs.YtinoamehdhgpgaaW.PrintWords Go.Proofs.YtinoamehdhgpgaaW.PrintLast Go.Proofs.YtinoamehdhgpgaaW.PrintMore Go.Proofs.Ytinoamehdhgpgaa.Z
set_option linter.unusedVariables false
set_option linter.unusedSimpArgs false

def comN (L L' : List Nat) (s : Nat) : Bool := indN L s && indN L' s
def csN (m : Nat) (L L' : List Nat) : List Nat := (List.range (2 ^ m)).filter (comN L L')
theorem csN_lt {m : Nat} {L L' : List Nat} {t : Nat} (h : t ∈ csN m L L') : t < 2 ^ m := List.mem_range.1 (List.mem_filter.1 h).1
theorem csN_len {m : Nat} (hm : m ≤ 8) (L L' : List Nat) : (csN m L L').length ≤ 256 := by
  have h1 : (csN m L L').length ≤ (List.range (2 ^ m)).length := List.length_filter_le _ _
  rw [List.length_range] at h1
  have := pow_le_256 hm
  omega
theorem implSets_ev {m : Nat} (hm : m ≤ 8) (L L' : List Nat) (hl : L.length ≤ 17592186044416) (hl' : L'.length ≤ 17592186044416) (hL : ∀ b ∈ L, b < 256) (hL' : ∀ b ∈ L', b < 256) : Ev (fun k => impl_commonSets.f k (m : Int) (ints L) (m : Int) (ints L')) (ints (csN m L L')) := by
  have h2m := pow_le_256 hm
  have hp := Nat.two_pow_pos m
  unfold impl_commonSets.f
  refine Ev.cbind (implFull_eq hm) (Ev.ifp (by unfold fullN; omega) ?_)
  have e : fromTo 0 ((fullN m : Nat) : Int) = ints (List.range (2 ^ m)) := by
    unfold fromTo ints fullN
    rw [List.range_eq_range', show (((2 ^ m - 1 : Nat) : Int) + 1).toNat - (0 : Int).toNat = 2 ^ m from by omega]
    rfl
  unfold setsO
  rw [e]
  have hf : (ints (List.range (2 ^ m))).filter (fun x : Int => comN L L' x.toNat) = ints (csN m L L') := by
    unfold ints csN
    rw [List.filter_map]
    congr 1
  rw [← hf]
  refine Ev_filterO (p := fun x : Int => comN L L' x.toNat) ?_
  intro x hx
  unfold ints at hx
  obtain ⟨t, ht, rfl⟩ := List.mem_map.1 hx
  have ht2 := List.mem_range.1 ht
  have h256 : t < 256 := by omega
  have h1 := implInd_ev (m : Int) L (t : Int) hl hL
  have h2 := implInd_ev (m : Int) L' (t : Int) hl' hL'
  rw [indB_nat h256] at h1 h2
  unfold impl_commonSets.c
  refine Ev.bind h1 ?_
  show Ev _ (comN L L' (t : Int).toNat)
  rw [Int.toNat_natCast]
  unfold comN
  by_cases h : indN L t = true
  · rw [h, Bool.true_and]; exact Ev.ifp rfl h2
  · rw [Bool.eq_false_iff.2 h, Bool.false_and]; exact Ev.ifn (by decide) (Ev.now _)
def bigN (best : Nat) (ts : List Nat) : Nat := ts.foldl (fun b t => if pc t > pc b then t else b) best
def lgB (n : Int) (l : List Int) (n' : Int) (l' : List Int) : Int × Bool := if togB n l n' l' = true then (((bigN 0 (csN n.toNat (l.map Int.toNat) (l'.map Int.toNat)) : Nat) : Int), true) else (0, false)
theorem specLg_ev (n : Int) (l : List Int) (n' : Int) (l' : List Int) (hl : l.length ≤ 17592186044416) (hl' : l'.length ≤ 17592186044416) : Ev (fun k => spec_LargestCommon.f k n l n' l') (lgB n l n' l') := by
  unfold spec_LargestCommon.f lgB
  have hc := specCommon_ev n l n' l' 0 hl hl'
  rw [commonB_zero] at hc
  refine Ev.bind hc ?_
  by_cases h : togB n l n' l' = true
  · refine Ev.ifp h ?_
    rw [if_pos h]
    obtain ⟨m, L, L', rfl, rfl, hm, rfl, rfl, hL, hL', hL256, hL256', hne, hne'⟩ := togB_nat h
    rw [show (ints L).map Int.toNat = L from toNat_map L, show (ints L').map Int.toNat = L' from toNat_map L', Int.toNat_natCast]
    rw [ints_len] at hl hl'
    have h2m := pow_le_256 hm
    have hp := Nat.two_pow_pos m
    have hd := down (P := fun t => ∀ best : Nat, best < 256 → Ev (fun k => spec_LargestCommon.l0 k (best : Int) (t : Int) (m : Int) (ints L) (m : Int) (ints L')) (((bigN best ((List.range' t (2 ^ m - t)).filter (comN L L')) : Nat) : Int), true)) (2 ^ m)
      (by
        intro best _
        apply Ev.step
        · intro k
          simp only [spec_LargestCommon.l0, specFull_eq hm, Option.bind_some]
          rw [if_neg (by unfold fullN; omega)]
        · rw [Nat.sub_self]; exact Ev.now _)
      (by
        intro t ht ih best hb
        have h256 : t < 256 := by omega
        apply Ev.step
        · intro k
          simp only [spec_LargestCommon.l0, specFull_eq hm, Option.bind_some]
          rw [if_pos (by unfold fullN; omega), w_succ ht (by omega)]
        · rw [range'_cons' ht, List.filter_cons]
          refine Ev.bind (specCount_ev t h256) (Ev.bind (specCount_ev best hb) ?_)
          have hf1 := specFree_ev (m : Int) L t hl hL256 hne h256
          have hf2 := specFree_ev (m : Int) L' t hl' hL256' hne' h256
          by_cases hq : pc t > pc best
          · refine Ev.ifp (by omega) (Ev.bind hf1 ?_)
            unfold comN
            by_cases h1 : indN L t = true
            · refine Ev.ifp h1 (Ev.bind hf2 ?_)
              rw [h1, Bool.true_and]
              by_cases h2 : indN L' t = true
              · rw [if_pos h2]
                refine Ev.ifp h2 ?_
                have := ih t h256
                unfold bigN at this ⊢
                rw [List.foldl_cons, if_pos hq]
                exact this
              · rw [if_neg h2]
                exact Ev.ifn h2 (ih best hb)
            · rw [Bool.eq_false_iff.2 h1, Bool.false_and, if_neg (by decide)]
              exact Ev.ifn (by decide) (ih best hb)
          · refine Ev.ifn (by omega) ?_
            by_cases h1 : comN L L' t = true
            · rw [if_pos h1]
              have := ih best hb
              unfold bigN at this ⊢
              rw [List.foldl_cons, if_neg hq]
              exact this
            · rw [if_neg h1]; exact ih best hb)
    have h0 := hd 0 (by omega)
    rw [Nat.sub_zero, ← List.range_eq_range'] at h0
    exact h0
  · refine Ev.ifn h ?_
    rw [if_neg h]; exact Ev.now _
theorem implLg_ev (n : Int) (l : List Int) (n' : Int) (l' : List Int) (hl : l.length ≤ 17592186044416) (hl' : l'.length ≤ 17592186044416) : Ev (fun k => impl_LargestCommon.f k n l n' l') (lgB n l n' l') := by
  unfold impl_LargestCommon.f lgB
  refine Ev.bind (tog_ev n l n' l' hl hl') ?_
  by_cases h : togB n l n' l' = true
  · refine Ev.ifp h ?_
    rw [if_pos h]
    obtain ⟨m, L, L', rfl, rfl, hm, rfl, rfl, hL, hL', hL256, hL256', hne, hne'⟩ := togB_nat h
    rw [show (ints L).map Int.toNat = L from toNat_map L, show (ints L').map Int.toNat = L' from toNat_map L', Int.toNat_natCast]
    rw [ints_len] at hl hl'
    have h2m := pow_le_256 hm
    have hcl := csN_len hm L L'
    refine Ev.bind (implSets_ev hm L L' hl hl' hL256 hL256') ?_
    have hmem : ∀ t ∈ csN m L L', t < 256 := fun t ht => Nat.lt_of_lt_of_le (csN_lt ht) h2m
    generalize csN m L L' = C at hmem hcl ⊢
    have hd := down (P := fun i => ∀ best : Nat, best < 256 → Ev (fun k => impl_LargestCommon.l0 k (best : Int) (ints C) ((ints C).length : Int) (i : Int)) (((bigN best (C.drop i) : Nat) : Int), true)) C.length
      (by
        intro best _
        apply Ev.step
        · intro k
          simp only [impl_LargestCommon.l0]
          rw [if_neg (by rw [ints_len]; omega)]
        · rw [drop_end]; exact Ev.now _)
      (by
        intro i hi ih best hb
        have ht := hmem _ (List.getElem_mem hi)
        apply Ev.step
        · intro k
          simp only [impl_LargestCommon.l0]
          rw [if_pos (by rw [ints_len]; omega), if_pos (by omega), if_pos (by rw [ints_len]; omega), ints_rd C i hi, w_succ hi (by omega), implCount_eq _ ht, implCount_eq _ hb, Option.bind_some, Option.bind_some]
        · rw [drop_cons C i hi]
          unfold bigN
          rw [List.foldl_cons]
          by_cases hq : pc C[i] > pc best
          · rw [if_pos hq]; exact Ev.ifp (by omega) (ih _ ht)
          · rw [if_neg hq]; exact Ev.ifn (by omega) (ih _ hb))
    exact hd 0 (by omega)
  · refine Ev.ifn h ?_
    rw [if_neg h]; exact Ev.now _

end Go.Proofs.Ytinoamehdhgpgaa.Q

namespace Go.Proofs.Ytinoamehdhgpgaa.Q
open Go Go.RowKit Go.Proofs.YtinoamehdhgpgaaW.PrintWords Go.Proofs.YtinoamehdhgpgaaW.PrintLast Go.Proofs.YtinoamehdhgpgaaW.PrintMore Go.Proofs.Ytinoamehdhgpgaa.Z
set_option linter.unusedVariables false
set_option linter.unusedSimpArgs false

theorem rk_ge {L : List Nat} {b : Nat} (hb : b ∈ L) (s : Nat) : pc (b &&& s) ≤ rkN L s := maxN_mem _ 0 _ (List.mem_map.2 ⟨b, hb, rfl⟩)
theorem rk_attain {L : List Nat} (hne : L ≠ []) (s : Nat) : ∃ b ∈ L, pc (b &&& s) = rkN L s := by
  rcases maxN_cases (L.map (fun b => pc (b &&& s))) 0 with h | h
  · obtain ⟨b, hb⟩ := List.exists_mem_of_ne_nil L hne
    have := rk_ge hb s
    refine ⟨b, hb, ?_⟩
    unfold rkN at this ⊢
    omega
  · obtain ⟨b, hb, e⟩ := List.mem_map.1 h
    exact ⟨b, hb, e⟩
theorem rk_mono {L : List Nat} (hne : L ≠ []) {X Y : Nat} (h : ∀ i, X.testBit i = true → Y.testBit i = true) : rkN L X ≤ rkN L Y := by
  obtain ⟨b, hb, e⟩ := rk_attain hne X
  rw [← e]
  refine Nat.le_trans (pc_mono fun i _ hi => ?_) (rk_ge hb Y)
  rw [Nat.testBit_and, Bool.and_eq_true] at hi ⊢
  exact ⟨hi.1, h i hi.2⟩
theorem Mat.both_step {m : Nat} {L : List Nat} (h : Mat m L) {S T c : Nat} (hST : ∀ i, S.testBit i = true → T.testBit i = true) (hc : c ∈ L) (hcT : pc (c &&& T) = rkN L T) : ∀ (d b : Nat), b ∈ L → pc (b &&& S) = rkN L S → pc (dif b c) = d → ∃ b ∈ L, pc (b &&& S) = rkN L S ∧ pc (b &&& T) = rkN L T := by
  intro d
  induction d with
  | zero =>
    intro b hb hS hd
    refine ⟨b, hb, hS, Nat.le_antisymm (rk_ge hb T) ?_⟩
    rw [← hcT]
    have hcard := h.card hb hc
    refine pc_mono fun i hi hbi => ?_
    rw [Nat.testBit_and, Bool.and_eq_true] at hbi ⊢
    refine ⟨?_, hbi.2⟩
    cases hb' : b.testBit i
    · have h1 : pc b < pc c := by
        have e1 := pc_dif_and c (2 ^ i)
        have hle : pc b ≤ pc (dif c (2 ^ i)) := pc_mono fun j hj hbj => by
          rw [del_bit]
          have : c.testBit j = true := by
            cases hcj : c.testBit j
            · have : 0 < pc (dif b c) := pc_pos hj (by rw [dif_bit, hbj, hcj]; rfl)
              omega
            · rfl
          rw [this]
          have hne : ¬ i = j := by rintro rfl; rw [hb'] at hbj; cases hbj
          simp [hne]
        have := pc_del hi hbi.1
        omega
      omega
    · rfl
  | succ d ih =>
    intro b hb hS hd
    by_cases hT : pc (b &&& T) = rkN L T
    · exact ⟨b, hb, hS, hT⟩
    · have hlt : pc (b &&& T) < pc (c &&& T) := by
        have := rk_ge hb T
        omega
      have hcard := h.card hb hc
      have e1 := pc_dif_and b T
      have e2 := pc_dif_and c T
      obtain ⟨e, he, hbe, hce⟩ := exists_new (a := dif c T) (b := dif b T) (by omega)
      rw [dif_bit, Bool.and_eq_true, Bool.not_eq_true'] at hbe
      have hce' : c.testBit e = false := by
        rw [dif_bit, hbe.2] at hce
        simpa using hce
      obtain ⟨f, hf, h1, h2, hm⟩ := h.exch b hb c hc e he hbe.1 hce'
      refine ih (swp b e f) hm ?_ ?_
      · refine Nat.le_antisymm (rk_ge hm S) ?_
        rw [← hS]
        refine pc_mono fun i _ hi => ?_
        rw [Nat.testBit_and, Bool.and_eq_true] at hi ⊢
        refine ⟨?_, hi.2⟩
        have hie : ¬ e = i := by rintro rfl; have := hST _ hi.2; rw [hbe.2] at this; cases this
        rw [swp_bit, hi.1]
        simp [hie]
      · have e3 : dif (swp b e f) c = dif (dif b c) (2 ^ e) := by
          apply Nat.eq_of_testBit_eq
          intro i
          rw [dif_bit, swp_bit, del_bit, dif_bit]
          by_cases hi : f = i
          · subst hi; rw [h1, h2]; simp
          · simp [hi]
            cases b.testBit i <;> cases c.testBit i <;> simp
        rw [e3]
        have := pc_del (a := dif b c) he (by rw [dif_bit, hbe.1, hce']; rfl)
        omega
theorem Mat.both {m : Nat} {L : List Nat} (h : Mat m L) {S T : Nat} (hST : ∀ i, S.testBit i = true → T.testBit i = true) : ∃ b ∈ L, pc (b &&& S) = rkN L S ∧ pc (b &&& T) = rkN L T := by
  obtain ⟨c, hc, hcT⟩ := rk_attain h.some T
  obtain ⟨b, hb, hbS⟩ := rk_attain h.some S
  exact Mat.both_step h hST hc hcT _ b hb hbS rfl
theorem Mat.rk_sub {m : Nat} {L : List Nat} (h : Mat m L) (X Y : Nat) : rkN L (X ||| Y) + rkN L (X &&& Y) ≤ rkN L X + rkN L Y := by
  obtain ⟨b, hb, h1, h2⟩ := Mat.both h (S := X &&& Y) (T := X ||| Y) (fun i hi => by rw [Nat.testBit_and, Bool.and_eq_true] at hi; rw [Nat.testBit_or, hi.1]; rfl)
  have e := pc_or_and (b &&& X) (b &&& Y)
  have e1 : (b &&& X) ||| (b &&& Y) = b &&& (X ||| Y) := by
    apply Nat.eq_of_testBit_eq
    intro i
    simp only [Nat.testBit_or, Nat.testBit_and]
    cases b.testBit i <;> cases X.testBit i <;> cases Y.testBit i <;> rfl
  have e2 : (b &&& X) &&& (b &&& Y) = b &&& (X &&& Y) := by
    apply Nat.eq_of_testBit_eq
    intro i
    simp only [Nat.testBit_and]
    cases b.testBit i <;> cases X.testBit i <;> cases Y.testBit i <;> rfl
  rw [e1, e2, h1, h2] at e
  have k1 := rk_ge hb X
  have k2 := rk_ge hb Y
  omega
/-- A rank, without its bases. -/
structure RkF (r : Nat → Nat) : Prop where
  zero : r 0 = 0
  one : ∀ i, r (2 ^ i) ≤ 1
  mono : ∀ X Y : Nat, (∀ i, X.testBit i = true → Y.testBit i = true) → r X ≤ r Y
  sub : ∀ X Y : Nat, r (X ||| Y) + r (X &&& Y) ≤ r X + r Y
theorem Mat.rkF {m : Nat} {L : List Nat} (h : Mat m L) : RkF (rkN L) := by
  refine ⟨?_, ?_, fun X Y hXY => rk_mono h.some hXY, Mat.rk_sub h⟩
  · have := rkN_le L 0
    rw [pc_zero] at this
    omega
  · intro i
    have h1 := rkN_le L (2 ^ i)
    by_cases hi : i < 8
    · rw [pc_pow hi] at h1; exact h1
    · have : pc (2 ^ i) ≤ pc 0 := pc_mono fun j hj hb => by
        rw [Nat.testBit_two_pow] at hb
        have := of_decide_eq_true hb
        omega
      rw [pc_zero] at this
      omega
theorem RkF.con {r : Nat → Nat} (h : RkF r) {e : Nat} (he : r (2 ^ e) = 1) : RkF (fun X => r (X ||| 2 ^ e) - 1) := by
  have hge : ∀ X, 1 ≤ r (X ||| 2 ^ e) := fun X => by
    have := h.mono (2 ^ e) (X ||| 2 ^ e) (fun i hi => by rw [Nat.testBit_or, hi, Bool.or_true])
    omega
  refine ⟨?_, ?_, ?_, ?_⟩
  · show r (0 ||| 2 ^ e) - 1 = 0
    rw [Nat.zero_or, he]
  · intro i
    have h1 := h.sub (2 ^ i) (2 ^ e)
    have h2 := h.one i
    show r (2 ^ i ||| 2 ^ e) - 1 ≤ 1
    omega
  · intro X Y hXY
    have := h.mono (X ||| 2 ^ e) (Y ||| 2 ^ e) (fun i hi => by
      rw [Nat.testBit_or, Bool.or_eq_true] at hi ⊢
      exact hi.imp (hXY i) id)
    show r (X ||| 2 ^ e) - 1 ≤ r (Y ||| 2 ^ e) - 1
    omega
  · intro X Y
    have h1 := h.sub (X ||| 2 ^ e) (Y ||| 2 ^ e)
    have e1 : (X ||| 2 ^ e) ||| (Y ||| 2 ^ e) = (X ||| Y) ||| 2 ^ e := by
      apply Nat.eq_of_testBit_eq
      intro i
      simp only [Nat.testBit_or]
      cases X.testBit i <;> cases Y.testBit i <;> cases (2 ^ e).testBit i <;> rfl
    have e2 : (X ||| 2 ^ e) &&& (Y ||| 2 ^ e) = (X &&& Y) ||| 2 ^ e := by
      apply Nat.eq_of_testBit_eq
      intro i
      simp only [Nat.testBit_or, Nat.testBit_and]
      cases X.testBit i <;> cases Y.testBit i <;> cases (2 ^ e).testBit i <;> rfl
    rw [e1, e2] at h1
    have g1 := hge X
    have g2 := hge Y
    have g3 := hge (X ||| Y)
    have g4 := hge (X &&& Y)
    show r ((X ||| Y) ||| 2 ^ e) - 1 + (r ((X &&& Y) ||| 2 ^ e) - 1) ≤ r (X ||| 2 ^ e) - 1 + (r (Y ||| 2 ^ e) - 1)
    omega
theorem bit_out {m A i : Nat} (h : A < 2 ^ m) (hi : m ≤ i) : A.testBit i = false := Nat.testBit_lt_two_pow (Nat.lt_of_lt_of_le h (Nat.pow_le_pow_right (by omega) hi))
/-- Equal at every bit below m, at m, and beyond. -/
theorem eq_at {X Y m : Nat} (h1 : ∀ i, i < m → X.testBit i = Y.testBit i) (h2 : X.testBit m = Y.testBit m) (h3 : ∀ i, m < i → X.testBit i = Y.testBit i) : X = Y := by
  apply Nat.eq_of_testBit_eq
  intro i
  rcases Nat.lt_trichotomy i m with h | h | h
  · exact h1 i h
  · subst h; exact h2
  · exact h3 i h
/-- Two matroids have a common independent set as large as every bound lets in. -/
theorem inter_ex : ∀ (m : Nat), m ≤ 8 → ∀ (r1 r2 : Nat → Nat), RkF r1 → RkF r2 → ∀ k : Nat, (∀ u, u < 2 ^ m → k ≤ r1 u + r2 (dif (fullN m) u)) → ∃ I, I < 2 ^ m ∧ pc I ≤ r1 I ∧ pc I ≤ r2 I ∧ pc I = k := by
  intro m
  induction m with
  | zero =>
    intro _ r1 r2 h1 h2 k hk
    have := hk 0 (by decide)
    rw [show dif (fullN 0) 0 = 0 from by decide, h1.zero, h2.zero] at this
    exact ⟨0, by decide, by rw [pc_zero]; exact Nat.zero_le _, by rw [pc_zero]; exact Nat.zero_le _, by rw [pc_zero]; omega⟩
  | succ m ih =>
    intro hm r1 r2 h1 h2 k hk
    cases k with
    | zero => exact ⟨0, Nat.two_pow_pos _, by rw [pc_zero]; exact Nat.zero_le _, by rw [pc_zero]; exact Nat.zero_le _, pc_zero⟩
    | succ k =>
    have hpow : 2 ^ (m + 1) = 2 ^ m + 2 ^ m := by rw [Nat.pow_succ]; omega
    have hadd : ∀ u, u < 2 ^ m → u ||| 2 ^ m < 2 ^ (m + 1) := fun u hu => Nat.or_lt_two_pow (by omega) (Nat.pow_lt_pow_right (by omega) (by omega))
    by_cases hdel : ∀ u, u < 2 ^ m → k + 1 ≤ r1 u + r2 (dif (fullN m) u)
    · obtain ⟨I, hI, k1, k2, k3⟩ := ih (by omega) r1 r2 h1 h2 (k + 1) hdel
      exact ⟨I, by omega, k1, k2, k3⟩
    obtain ⟨A, hA⟩ := Classical.not_forall.1 hdel
    obtain ⟨hA, hAk⟩ := Classical.not_imp.1 hA
    have dA1 : dif (fullN (m + 1)) (A ||| 2 ^ m) = dif (fullN m) A := by
      refine eq_at (m := m) (fun i hi => ?_) ?_ (fun i hi => ?_) <;> simp only [dif_bit, full_bit, Nat.testBit_or, Nat.testBit_two_pow]
      · have : ¬ m = i := by omega
        simp [this, hi, show i < m + 1 by omega]
      · simp
      · simp [show ¬ i < m + 1 by omega, show ¬ i < m by omega]
    have dA2 : dif (fullN (m + 1)) A = dif (fullN m) A ||| 2 ^ m := by
      refine eq_at (m := m) (fun i hi => ?_) ?_ (fun i hi => ?_) <;> simp only [dif_bit, full_bit, Nat.testBit_or, Nat.testBit_two_pow]
      · have : ¬ m = i := by omega
        simp [this, hi, show i < m + 1 by omega]
      · simp [bit_out hA (Nat.le_refl m)]
      · have : ¬ m = i := by omega
        simp [show ¬ i < m + 1 by omega, show ¬ i < m by omega, this]
    have e1 : r1 (2 ^ m) = 1 := by
      have ho := h1.one m
      rcases Nat.eq_zero_or_pos (r1 (2 ^ m)) with hz | hz
      · have hs := h1.sub A (2 ^ m)
        have hb := hk (A ||| 2 ^ m) (hadd A hA)
        rw [dA1] at hb
        omega
      · omega
    have e2 : r2 (2 ^ m) = 1 := by
      have ho := h2.one m
      rcases Nat.eq_zero_or_pos (r2 (2 ^ m)) with hz | hz
      · have hs := h2.sub (dif (fullN m) A) (2 ^ m)
        have hb := hk A (by omega)
        rw [dA2] at hb
        omega
      · omega
    by_cases hcon : ∀ u, u < 2 ^ m → k ≤ (r1 (u ||| 2 ^ m) - 1) + (r2 (dif (fullN m) u ||| 2 ^ m) - 1)
    · obtain ⟨I, hI, k1, k2, k3⟩ := ih (by omega) _ _ (h1.con e1) (h2.con e2) k hcon
      have hp : pc (I ||| 2 ^ m) = pc I + 1 := pc_add (by omega) (bit_out hI (Nat.le_refl m))
      have g1 := h1.mono (2 ^ m) (I ||| 2 ^ m) (fun i hi => by rw [Nat.testBit_or, hi, Bool.or_true])
      have g2 := h2.mono (2 ^ m) (I ||| 2 ^ m) (fun i hi => by rw [Nat.testBit_or, hi, Bool.or_true])
      have k1' : pc I ≤ r1 (I ||| 2 ^ m) - 1 := k1
      have k2' : pc I ≤ r2 (I ||| 2 ^ m) - 1 := k2
      exact ⟨I ||| 2 ^ m, hadd I hI, by omega, by omega, by omega⟩
    obtain ⟨B, hB⟩ := Classical.not_forall.1 hcon
    obtain ⟨hB, hBk⟩ := Classical.not_imp.1 hB
    have g1 := h1.mono (2 ^ m) (B ||| 2 ^ m) (fun i hi => by rw [Nat.testBit_or, hi, Bool.or_true])
    have g2 := h2.mono (2 ^ m) (dif (fullN m) B ||| 2 ^ m) (fun i hi => by rw [Nat.testBit_or, hi, Bool.or_true])
    have s1 := h1.sub A (B ||| 2 ^ m)
    have s2 := h2.sub (dif (fullN m) A) (dif (fullN m) B ||| 2 ^ m)
    have hab : A &&& (B ||| 2 ^ m) < 2 ^ (m + 1) := Nat.lt_of_le_of_lt Nat.and_le_left (by omega)
    have hob : A ||| (B ||| 2 ^ m) < 2 ^ (m + 1) := Nat.or_lt_two_pow (by omega) (hadd B hB)
    have b1 := hk _ hob
    have b2 := hk _ hab
    have d1 : dif (fullN (m + 1)) (A ||| (B ||| 2 ^ m)) = dif (fullN m) A &&& (dif (fullN m) B ||| 2 ^ m) := by
      refine eq_at (m := m) (fun i hi => ?_) ?_ (fun i hi => ?_) <;> simp only [dif_bit, full_bit, Nat.testBit_or, Nat.testBit_and, Nat.testBit_two_pow]
      · have : ¬ m = i := by omega
        simp [this, hi, show i < m + 1 by omega]
      · simp
      · simp [show ¬ i < m + 1 by omega, show ¬ i < m by omega]
    have d2 : dif (fullN (m + 1)) (A &&& (B ||| 2 ^ m)) = dif (fullN m) A ||| (dif (fullN m) B ||| 2 ^ m) := by
      refine eq_at (m := m) (fun i hi => ?_) ?_ (fun i hi => ?_) <;> simp only [dif_bit, full_bit, Nat.testBit_or, Nat.testBit_and, Nat.testBit_two_pow]
      · have : ¬ m = i := by omega
        simp [this, hi, show i < m + 1 by omega]
      · simp [bit_out hA (Nat.le_refl m)]
      · have : ¬ m = i := by omega
        simp [show ¬ i < m + 1 by omega, show ¬ i < m by omega, this]
    rw [d1] at b1
    rw [d2] at b2
    omega

end Go.Proofs.Ytinoamehdhgpgaa.Q

namespace Go.Proofs.Ytinoamehdhgpgaa.Q
open Go Go.RowKit Go.Proofs.YtinoamehdhgpgaaW.PrintWords Go.Proofs.YtinoamehdhgpgaaW.PrintLast Go.Proofs.YtinoamehdhgpgaaW.PrintMore Go.Proofs.Ytinoamehdhgpgaa.Z
set_option linter.unusedVariables false
set_option linter.unusedSimpArgs false

theorem failE_none {l : List Int} {a b : Nat} : ∀ {es : List Nat}, failE l a b es = none → ∀ e ∈ es, hasEx l a b e = true := by
  intro es
  induction es with
  | nil => intro _ e he; simp at he
  | cons x es ih =>
    intro h e he
    simp only [failE] at h
    by_cases hx : hasEx l a b x = true
    · rw [if_pos hx] at h
      rcases List.mem_cons.1 he with rfl | he
      · exact hx
      · exact ih h e he
    · rw [if_neg hx] at h; cases h
theorem failB_none {l : List Int} {a : Nat} : ∀ {bs : List Nat}, failB l a bs = none → ∀ b ∈ bs, failE l a b (els (dif a b)) = none := by
  intro bs
  induction bs with
  | nil => intro _ e he; simp at he
  | cons x bs ih =>
    intro h b hb
    simp only [failB] at h
    cases hx : failE l a x (els (dif a x)) with
    | none =>
      rw [hx] at h
      rcases List.mem_cons.1 hb with rfl | hb
      · exact hx
      · exact ih h b hb
    | some e => rw [hx] at h; cases h
theorem failA_none {l : List Int} {L : List Nat} : ∀ {la : List Nat}, failA l L la = none → ∀ a ∈ la, failB l a L = none := by
  intro la
  induction la with
  | nil => intro _ e he; simp at he
  | cons x la ih =>
    intro h b hb
    simp only [failA] at h
    cases hx : failB l x L with
    | none =>
      rw [hx] at h
      rcases List.mem_cons.1 hb with rfl | hb
      · exact hx
      · exact ih h b hb
    | some e => rw [hx] at h; cases h
theorem ints_mem {L : List Nat} {x : Nat} : (ints L).contains (x : Int) = true ↔ x ∈ L := by
  rw [List.contains_iff_mem]
  unfold ints
  rw [List.mem_map]
  constructor
  · rintro ⟨y, hy, he⟩
    have : y = x := by omega
    subst this; exact hy
  · intro h; exact ⟨x, h, rfl⟩
/-- What IsMatroid tells is a matroid. -/
theorem matB_mat {n : Int} {l : List Int} (h : matB n l = true) : ∃ (m : Nat) (L : List Nat), n = m ∧ l = ints L ∧ Mat m L ∧ L.Pairwise (· < ·) := by
  have h0 := h
  obtain ⟨m, L, rfl, hm, rfl, hL, hL256, hp, hne⟩ := matB_nat h
  refine ⟨m, L, rfl, rfl, ⟨hm, hL, hne, ?_⟩, hp⟩
  simp only [matB, Bool.and_eq_true] at h0
  obtain ⟨hf, _, hff⟩ := h0
  unfold failT at hff
  rw [if_pos hf, show (ints L).map Int.toNat = L from toNat_map L] at hff
  cases hA : failA (ints L) L L with
  | some x => rw [hA] at hff; simp [told] at hff
  | none =>
    intro a ha b hb e he hae hbe
    have h1 := failE_none (failB_none (failA_none hA a ha) b hb) e (mem_els.2 ⟨he, by rw [dif_bit, hae, hbe]; rfl⟩)
    unfold hasEx at h1
    obtain ⟨f, hf', hc⟩ := List.any_eq_true.1 h1
    obtain ⟨hf8, hfb⟩ := mem_els.1 hf'
    rw [dif_bit] at hfb
    simp only [Bool.and_eq_true, Bool.not_eq_true'] at hfb
    exact ⟨f, hf8, hfb.1, hfb.2, ints_mem.1 hc⟩
/-- And every matroid, listed in order, is told. -/
theorem mat_matB {m : Nat} {L : List Nat} (h : Mat m L) (hp : L.Pairwise (· < ·)) : matB (m : Int) (ints L) = true := by
  have hfam : ∀ (L : List Nat) (p : Option Int), (∀ b ∈ L, b < 2 ^ m) → L.Pairwise (· < ·) → (∀ q, p = some q → ∀ b ∈ L, q < (b : Int)) → famG (m : Int) p (ints L) = true := by
    intro L
    induction L with
    | nil =>
      intro p _ _ _
      have := h.size
      simp only [ints, List.map_nil, famG, Bool.and_eq_true, decide_eq_true_eq]
      omega
    | cons x L ih =>
      intro p hs hp hq
      have hx := hs x (List.mem_cons_self ..)
      rw [List.pairwise_cons] at hp
      simp only [ints, List.map_cons, famG, Bool.and_eq_true]
      refine ⟨?_, ?_, ih (some (x : Int)) (fun b hb => hs b (List.mem_cons_of_mem _ hb)) hp.2 (fun q hq b hb => ?_)⟩
      · rw [isSetB_nat]
        simp [h.size, hx]
      · cases p with
        | none => rfl
        | some q => simpa using hq q rfl x (List.mem_cons_self ..)
      · have := hp.1 b hb
        injection hq with hq
        omega
  have h1 : famB (m : Int) (ints L) = true := hfam L none h.sets hp (fun q hq => by cases hq)
  simp only [matB, Bool.and_eq_true]
  refine ⟨h1, ?_, ?_⟩
  · have : 0 < L.length := List.length_pos_iff.2 h.some
    rw [ints_len]
    exact decide_eq_true (by omega)
  · unfold failT
    rw [if_pos h1, show (ints L).map Int.toNat = L from toNat_map L]
    have hE : ∀ a ∈ L, ∀ b ∈ L, ∀ es : List Nat, (∀ e ∈ es, e ∈ els (dif a b)) → failE (ints L) a b es = none := by
      intro a ha b hb es
      induction es with
      | nil => intro _; rfl
      | cons e es ih =>
        intro hes
        simp only [failE]
        have he := mem_els.1 (hes e (List.mem_cons_self ..))
        rw [dif_bit] at he
        simp only [Bool.and_eq_true, Bool.not_eq_true'] at he
        obtain ⟨f, hf, h1, h2, h3⟩ := h.exch a ha b hb e he.1 he.2.1 he.2.2
        have : hasEx (ints L) a b e = true := by
          unfold hasEx
          rw [List.any_eq_true]
          exact ⟨f, mem_els.2 ⟨hf, by rw [dif_bit, h1, h2]; rfl⟩, ints_mem.2 h3⟩
        rw [if_pos this]
        exact ih (fun e' he' => hes e' (List.mem_cons_of_mem _ he'))
    have hB : ∀ a ∈ L, ∀ bs : List Nat, (∀ b ∈ bs, b ∈ L) → failB (ints L) a bs = none := by
      intro a ha bs
      induction bs with
      | nil => intro _; rfl
      | cons b bs ih =>
        intro hbs
        simp only [failB]
        rw [hE a ha b (hbs b (List.mem_cons_self ..)) _ (fun e he => he)]
        exact ih (fun b' hb' => hbs b' (List.mem_cons_of_mem _ hb'))
    have hA : ∀ la : List Nat, (∀ a ∈ la, a ∈ L) → failA (ints L) L la = none := by
      intro la
      induction la with
      | nil => intro _; rfl
      | cons a la ih =>
        intro hla
        simp only [failA]
        rw [hB a (hla a (List.mem_cons_self ..)) L (fun b hb => hb)]
        exact ih (fun a' ha' => hla a' (List.mem_cons_of_mem _ ha'))
    rw [hA L (fun a ha => ha)]
    rfl

end Go.Proofs.Ytinoamehdhgpgaa.Q

namespace Go.Proofs.Ytinoamehdhgpgaa.Q
open Go Go.RowKit Go.Proofs.Ytinoamehdhgpgaa.A Go.Proofs.YtinoamehdhgpgaaW.PrintWords Go.Proofs.YtinoamehdhgpgaaW.PrintLast Go.Proofs.YtinoamehdhgpgaaW.PrintMore Go.Proofs.Ytinoamehdhgpgaa.Z
set_option linter.unusedVariables false
set_option linter.unusedSimpArgs false

theorem bigN_max (ts : List Nat) : ∀ best : Nat, pc best ≤ pc (bigN best ts) ∧ ∀ t ∈ ts, pc t ≤ pc (bigN best ts) := by
  induction ts with
  | nil => intro best; exact ⟨Nat.le_refl _, fun t ht => by simp at ht⟩
  | cons x ts ih =>
    intro best
    unfold bigN at ih ⊢
    rw [List.foldl_cons]
    by_cases h : pc x > pc best
    · rw [if_pos h]
      obtain ⟨k1, k2⟩ := ih x
      refine ⟨by omega, fun t ht => ?_⟩
      rcases List.mem_cons.1 ht with rfl | ht
      · exact k1
      · exact k2 t ht
    · rw [if_neg h]
      obtain ⟨k1, k2⟩ := ih best
      refine ⟨k1, fun t ht => ?_⟩
      rcases List.mem_cons.1 ht with rfl | ht
      · omega
      · exact k2 t ht
theorem bigN_mem (ts : List Nat) : ∀ best : Nat, bigN best ts = best ∨ bigN best ts ∈ ts := by
  induction ts with
  | nil => intro best; exact .inl rfl
  | cons x ts ih =>
    intro best
    unfold bigN at ih ⊢
    rw [List.foldl_cons]
    by_cases h : pc x > pc best
    · rw [if_pos h]
      rcases ih x with k | k
      · exact .inr (by rw [k]; exact List.mem_cons_self ..)
      · exact .inr (List.mem_cons_of_mem _ k)
    · rw [if_neg h]
      rcases ih best with k | k
      · exact .inl k
      · exact .inr (List.mem_cons_of_mem _ k)
def bdN (m : Nat) (L L' : List Nat) (u : Nat) : Nat := rkN L u + rkN L' (dif (fullN m) u)
theorem weak {m : Nat} {L L' : List Nat} {I u : Nat} (hI : I < 2 ^ m) (h1 : indN L I = true) (h2 : indN L' I = true) : pc I ≤ bdN m L L' u := by
  obtain ⟨b, hb, hs⟩ := indN_iff.1 h1
  obtain ⟨b', hb', hs'⟩ := indN_iff.1 h2
  have e := pc_dif_and I u
  have k1 : pc (I &&& u) ≤ rkN L u := Nat.le_trans (pc_mono fun i _ hi => by
    rw [Nat.testBit_and, Bool.and_eq_true] at hi ⊢
    exact ⟨subN_bit.1 hs i hi.1, hi.2⟩) (rk_ge hb u)
  have k2 : pc (dif I u) ≤ rkN L' (dif (fullN m) u) := Nat.le_trans (pc_mono fun i _ hi => by
    rw [dif_bit, Bool.and_eq_true] at hi
    rw [Nat.testBit_and, dif_bit, full_bit, Bool.and_eq_true, Bool.and_eq_true]
    refine ⟨subN_bit.1 hs' i hi.1, ?_, hi.2⟩
    rcases Nat.lt_or_ge i m with h | h
    · exact decide_eq_true h
    · rw [bit_out hI h] at hi; exact absurd hi.1 (by decide)) (rk_ge hb' _)
  unfold bdN
  omega
theorem cert_ex {m : Nat} {L L' : List Nat} (hM : Mat m L) (hM' : Mat m L') : ∃ u, u < 2 ^ m ∧ bdN m L L' u = pc (bigN 0 (csN m L L')) := by
  refine Classical.byContradiction fun hc => ?_
  have hno : ∀ u, u < 2 ^ m → bdN m L L' u ≠ pc (bigN 0 (csN m L L')) := fun u hu he => hc ⟨u, hu, he⟩
  obtain ⟨_, hmax⟩ := bigN_max (csN m L L') 0
  have hw : ∀ u, u < 2 ^ m → pc (bigN 0 (csN m L L')) + 1 ≤ bdN m L L' u := by
    intro u hu
    have hle : pc (bigN 0 (csN m L L')) ≤ bdN m L L' u := by
      rcases bigN_mem (csN m L L') 0 with k | k
      · rw [k, pc_zero]; exact Nat.zero_le _
      · have hcm := (List.mem_filter.1 k).2
        unfold comN at hcm
        rw [Bool.and_eq_true] at hcm
        exact weak (csN_lt k) hcm.1 hcm.2
    have := hno u hu
    omega
  obtain ⟨I, hI, k1, k2, k3⟩ := inter_ex m hM.size (rkN L) (rkN L') (Mat.rkF hM) (Mat.rkF hM') (pc (bigN 0 (csN m L L')) + 1) hw
  have hI256 : I < 256 := Nat.lt_of_lt_of_le hI (pow_le_256 hM.size)
  have i1 : indN L I = true := (rk_eq_iff hI256 hM.some).1 (Nat.le_antisymm (rkN_le L I) k1)
  have i2 : indN L' I = true := (rk_eq_iff hI256 hM'.some).1 (Nat.le_antisymm (rkN_le L' I) k2)
  have hin : I ∈ csN m L L' := List.mem_filter.2 ⟨List.mem_range.2 hI, by unfold comN; rw [i1, i2]; rfl⟩
  have := hmax I hin
  omega
def certF (p : Nat → Bool) : Nat → Nat → Nat
  | 0, u => u
  | j + 1, u => if p u = true then u else certF p j (u + 1)
def certB (n : Int) (l : List Int) (n' : Int) (l' : List Int) : Int × Bool := if togB n l n' l' = true then (((certF (fun u => decide (bdN n.toNat (l.map Int.toNat) (l'.map Int.toNat) u = pc (bigN 0 (csN n.toNat (l.map Int.toNat) (l'.map Int.toNat))))) (2 ^ n.toNat) 0 : Nat) : Int), true) else (0, false)
theorem togB_mat {n n' : Int} {l l' : List Int} (h : togB n l n' l' = true) : ∃ (m : Nat) (L L' : List Nat), n = m ∧ n' = m ∧ l = ints L ∧ l' = ints L' ∧ Mat m L ∧ Mat m L' := by
  simp only [togB, Bool.and_eq_true, decide_eq_true_eq] at h
  obtain ⟨h1, h2, h3⟩ := h
  obtain ⟨m, L, rfl, rfl, hM, _⟩ := matB_mat h1
  obtain ⟨m', L', rfl, rfl, hM', _⟩ := matB_mat h2
  have : m = m' := by omega
  subst this
  exact ⟨m, L, L', rfl, rfl, rfl, rfl, hM, hM'⟩
theorem bigN_lt {m : Nat} {L L' : List Nat} (hm : m ≤ 8) : bigN 0 (csN m L L') < 256 := by
  rcases bigN_mem (csN m L L') 0 with k | k
  · rw [k]; decide
  · exact Nat.lt_of_lt_of_le (csN_lt k) (pow_le_256 hm)
theorem specCert_ev (n : Int) (l : List Int) (n' : Int) (l' : List Int) (hl : l.length ≤ 17592186044416) (hl' : l'.length ≤ 17592186044416) : Ev (fun k => spec_CertificateOf.f k n l n' l') (certB n l n' l') := by
  unfold spec_CertificateOf.f certB
  refine Ev.bind (specLg_ev n l n' l' hl hl') ?_
  unfold lgB
  by_cases h : togB n l n' l' = true
  · rw [if_pos h, if_pos h]
    obtain ⟨m, L, L', rfl, rfl, rfl, rfl, hM, hM'⟩ := togB_mat h
    rw [show (ints L).map Int.toNat = L from toNat_map L, show (ints L').map Int.toNat = L' from toNat_map L', Int.toNat_natCast]
    rw [ints_len] at hl hl'
    refine Ev.ifp rfl ?_
    have hc := bigN_lt (L := L) (L' := L') hM.size
    have hex := cert_ex hM hM'
    generalize bigN 0 (csN m L L') = c at hc hex ⊢
    have h2m := pow_le_256 hM.size
    have hm := hM.size
    have hd := down (P := fun u => (∃ v, u ≤ v ∧ v < 2 ^ m ∧ bdN m L L' v = pc c) → Ev (fun k => spec_CertificateOf.l0 k (c : Int) (u : Int) (m : Int) (ints L) (m : Int) (ints L')) (((certF (fun u => decide (bdN m L L' u = pc c)) (2 ^ m - u) u : Nat) : Int), true)) (2 ^ m)
      (by
        rintro ⟨v, h1, h2, _⟩
        omega)
      (by
        intro u hu ih hv
        have h256 : u < 256 := by omega
        obtain ⟨f1, f2, f3⟩ := full_sub hm hu
        have e : wrap64 (((fullN m : Nat) : Int) - (u : Int)) = ((dif (fullN m) u : Nat) : Int) := by
          rw [wrap64_of (by omega) (by omega), ← f1]
          have : u ≤ fullN m := by unfold fullN; omega
          omega
        apply Ev.step
        · intro k
          simp only [spec_CertificateOf.l0, specFull_eq hm, Option.bind_some]
          rw [e, w_succ hu (by omega)]
        · obtain ⟨j, hj⟩ : ∃ j, 2 ^ m - u = j + 1 := ⟨2 ^ m - u - 1, by omega⟩
          rw [hj]
          simp only [certF]
          refine Ev.bind (specRank_ev _ L u hl hM.lt h256) (Ev.bind (specRank_ev _ L' _ hl' hM'.lt (dif_lt f3)) (Ev.bind (specCount_ev c hc) ?_))
          have h1 := Nat.le_trans (rkN_le L u) (pc_le u)
          have h2 := Nat.le_trans (rkN_le L' (dif (fullN m) u)) (pc_le (dif (fullN m) u))
          rw [wrap64_of (by omega) (by omega)]
          by_cases hq : bdN m L L' u = pc c
          · rw [if_pos (decide_eq_true hq)]
            unfold bdN at hq
            exact Ev.ifp (by omega) (Ev.now _)
          · rw [if_neg (by simpa using hq)]
            have hih := ih (by
              obtain ⟨v, v1, v2, v3⟩ := hv
              refine ⟨v, ?_, v2, v3⟩
              rcases Nat.eq_or_lt_of_le v1 with rfl | v1
              · exact absurd v3 hq
              · exact v1)
            rw [show 2 ^ m - (u + 1) = j from by omega] at hih
            unfold bdN at hq
            exact Ev.ifn (by omega) hih)
    have h0 := hd (by
      obtain ⟨u, h1, h2⟩ := hex
      exact ⟨u, Nat.zero_le _, h1, h2⟩)
    rw [Nat.sub_zero] at h0
    exact h0
  · rw [if_neg h, if_neg h]
    exact Ev.ifn (by decide) (Ev.now _)
theorem implBd_ev {m : Nat} {L L' : List Nat} (hM : Mat m L) (hM' : Mat m L') (htog : togB (m : Int) (ints L) (m : Int) (ints L') = true) {u : Nat} (hu : u < 2 ^ m) (hl : L.length ≤ 17592186044416) (hl' : L'.length ≤ 17592186044416) : Ev (fun k => impl_BoundBy.f k (m : Int) (ints L) (m : Int) (ints L') (u : Int)) ((bdN m L L' u : Nat) : Int) := by
  have hm := hM.size
  have h256 : u < 256 := Nat.lt_of_lt_of_le hu (pow_le_256 hm)
  obtain ⟨f1, f2, f3⟩ := full_sub hm hu
  unfold impl_BoundBy.f
  refine Ev.bind (tog_ev _ _ _ _ (by rw [ints_len]; exact hl) (by rw [ints_len]; exact hl')) (Ev.ifp htog (Ev.cbind (implIsSet_eq _ _) ?_))
  have hs : isSetB (m : Int) (u : Int) = true := by
    rw [isSetB_nat, show decide (m ≤ 8) = true from decide_eq_true hm, show decide (u < 2 ^ m) = true from decide_eq_true hu]; rfl
  rw [hs, Bool.not_true]
  apply Ev.step
  · intro k
    rw [impl_BoundBy.j0]
  · refine Ev.ifn (by decide) (Ev.bind (implRank_ev _ L u hl hM.lt h256) (Ev.cbind (implFull_eq hm) ?_))
    rw [andNot_nat (lt256_63 f3) (lt256_63 h256)]
    refine Ev.bind (implRank_ev _ L' _ hl' hM'.lt (dif_lt f3)) ?_
    have h1 := Nat.le_trans (rkN_le L u) (pc_le u)
    have h2 := Nat.le_trans (rkN_le L' (dif (fullN m) u)) (pc_le (dif (fullN m) u))
    rw [wrap64_of (by omega) (by omega)]
    exact Ev.now _
theorem implCert_ev (n : Int) (l : List Int) (n' : Int) (l' : List Int) (hl : l.length ≤ 17592186044416) (hl' : l'.length ≤ 17592186044416) : Ev (fun k => impl_CertificateOf.f k n l n' l') (certB n l n' l') := by
  unfold impl_CertificateOf.f certB
  refine Ev.bind (implLg_ev n l n' l' hl hl') ?_
  unfold lgB
  by_cases h : togB n l n' l' = true
  · rw [if_pos h, if_pos h]
    obtain ⟨m, L, L', rfl, rfl, rfl, rfl, hM, hM'⟩ := togB_mat h
    rw [show (ints L).map Int.toNat = L from toNat_map L, show (ints L').map Int.toNat = L' from toNat_map L', Int.toNat_natCast]
    rw [ints_len] at hl hl'
    refine Ev.ifp rfl ?_
    have hc := bigN_lt (L := L) (L' := L') hM.size
    have hex := cert_ex hM hM'
    generalize bigN 0 (csN m L L') = c at hc hex ⊢
    have h2m := pow_le_256 hM.size
    have hm := hM.size
    have hd := down (P := fun u => (∃ v, u ≤ v ∧ v < 2 ^ m ∧ bdN m L L' v = pc c) → Ev (fun k => impl_CertificateOf.l0 k (c : Int) (u : Int) (m : Int) (ints L) (m : Int) (ints L')) (((certF (fun u => decide (bdN m L L' u = pc c)) (2 ^ m - u) u : Nat) : Int), true)) (2 ^ m)
      (by
        rintro ⟨v, h1, h2, _⟩
        omega)
      (by
        intro u hu ih hv
        apply Ev.step
        · intro k
          simp only [impl_CertificateOf.l0, implFull_eq hm, implCount_eq c hc, Option.bind_some]
          rw [if_pos (by unfold fullN; omega), w_succ hu (by omega)]
        · obtain ⟨j, hj⟩ : ∃ j, 2 ^ m - u = j + 1 := ⟨2 ^ m - u - 1, by omega⟩
          rw [hj]
          simp only [certF]
          refine Ev.bind (implBd_ev hM hM' h hu hl hl') ?_
          by_cases hq : bdN m L L' u = pc c
          · rw [if_pos (decide_eq_true hq)]
            exact Ev.ifp (by omega) (Ev.now _)
          · rw [if_neg (by simpa using hq)]
            have hih := ih (by
              obtain ⟨v, v1, v2, v3⟩ := hv
              refine ⟨v, ?_, v2, v3⟩
              rcases Nat.eq_or_lt_of_le v1 with rfl | v1
              · exact absurd v3 hq
              · exact v1)
            rw [show 2 ^ m - (u + 1) = j from by omega] at hih
            exact Ev.ifn (by omega) hih)
    have h0 := hd (by
      obtain ⟨u, h1, h2⟩ := hex
      exact ⟨u, Nat.zero_le _, h1, h2⟩)
    rw [Nat.sub_zero] at h0
    exact h0
  · rw [if_neg h, if_neg h]
    exact Ev.ifn (by decide) (Ev.now _)

end Go.Proofs.Ytinoamehdhgpgaa.Q

namespace Go.Proofs.Ytinoamehdhgpgaa.Pure
open Go Go.RowKit Go.Proofs.Ytinoamehdhgpgaa.A Go.Proofs.YtinoamehdhgpgaaW.PrintWords Go.Proofs.YtinoamehdhgpgaaW.PrintLast Go.Proofs.YtinoamehdhgpgaaW.PrintMore Go.Proofs.Ytinoamehdhgpgaa.Z Go.Proofs.Ytinoamehdhgpgaa.Q
set_option linter.unusedVariables false
set_option linter.unusedSimpArgs false

theorem FnExactCertificateOf : laws_FnExactCertificateOf.Pure := by
  intro n l n' l' hn hm hw hn' hm' hw'
  unfold laws_FnExactCertificateOf.f
  refine Ev.rounds ?_
  refine Ev.cbind (szMat_eq n l 1048576 (by omega) (by omega) hm) ?_
  by_cases h1 : (l.length : Int) > 1048576
  · rw [if_pos h1]
    exact Ev.ifp (by decide) (Ev.now _)
  rw [if_neg h1]
  refine Ev.ifn (by omega) (Ev.cbind (szMat_eq n' l' _ (by omega) (by omega) hm') ?_)
  by_cases h2 : (l'.length : Int) > 1048576 - (l.length : Int)
  · rw [if_pos h2]
    exact Ev.ifp (by decide) (Ev.now _)
  rw [if_neg h2]
  refine Ev.ifn (by omega) ?_
  have hl : l.length ≤ 17592186044416 := by omega
  have hl' : l'.length ≤ 17592186044416 := by omega
  refine Ev.bind (toMat_ev n l hl) (Ev.bind (toMat_ev n' l' hl') (Ev.bind (specCert_ev n l n' l' hl hl') (Ev.bind (toMat_ev n l hl) (Ev.bind (toMat_ev n' l' hl') (Ev.bind (implCert_ev n l n' l' hl hl') (Ev.ifp rfl ?_))))))
  apply Ev.step
  · intro k
    rw [laws_FnExactCertificateOf.j0]
  refine Ev.ifn (by simp) (Ev.bind (toMat_ev n l hl) (Ev.bind (eqMat_ev n l hl) (Ev.ifp rfl ?_)))
  exact Ev.bind (toMat_ev n' l' hl') (Ev.bind (eqMat_ev n' l' hl') (Ev.ifp rfl (Ev.now _)))

end Go.Proofs.Ytinoamehdhgpgaa.Pure
