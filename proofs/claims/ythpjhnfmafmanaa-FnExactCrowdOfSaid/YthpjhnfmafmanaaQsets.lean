/- Lemmas on what the Lean functions of the print compute (sets). Conditions: those in each lemma. -/
import Derived.Test.YthpjhnfmafmanaaA1
import Derived.Test.YthpjhnfmafmanaaA2
import Derived.Test.YthpjhnfmafmanaaA3
import Derived.Test.YthpjhnfmafmanaaA4
import Derived.Test.YthpjhnfmafmanaaA5
import Derived.Test.YthpjhnfmafmanaaZBits
namespace Go.Proofs.Ythpjhnfmafmanaa.Q
open Go Go.RowKit Go.Proofs.Ythpjhnfmafmanaa.A Go.Proofs.YthpjhnfmafmanaaW.PrintWords Go.Proofs.YthpjhnfmafmanaaW.PrintLast Go.Proofs.YthpjhnfmafmanaaW.PrintMore Go.Proofs.Ythpjhnfmafmanaa.Z
set_option linter.unusedVariables false
set_option linter.unusedSimpArgs false

theorem l1In_eq (a b c : Int) : spec_l1In.f a b c = some (decide (b ≤ a) && decide (a ≤ c)) := by
  unfold spec_l1In.f
  by_cases h : a ≥ b
  · rw [if_pos h]; simp [h]
  · rw [if_neg h]; simp only [ge_iff_le] at h; simp [h]
theorem isSize_eq (a : Int) : impl_isSize.f a = some (decide (0 ≤ a) && decide (a ≤ 8)) := by
  unfold impl_isSize.f
  by_cases h : a ≥ 0
  · rw [if_pos h]; simp [h]
  · rw [if_neg h]; simp only [ge_iff_le] at h; simp [h]
theorem specIsSet_eq (n s : Int) : spec_IsSet.f n s = some (isSetB n s) := by
  unfold spec_IsSet.f
  rw [l1In_eq, Option.bind_some]
  unfold isSetB
  by_cases h : (decide (0 ≤ n) && decide (n ≤ 8)) = true
  · rw [if_pos h, if_pos (u64_nonneg _), l1In_eq, Option.bind_some, h, Bool.true_and]
    simp only [Bool.and_eq_true, decide_eq_true_eq] at h
    obtain ⟨m, rfl⟩ := Int.eq_ofNat_of_zero_le h.1
    have h8 : m ≤ 8 := by omega
    rw [u64_of (by omega) (by omega), shl_one (by omega)]
    have hp := pow_le_256 h8
    rw [Int.toNat_natCast]
    have e : (2 : Int) ^ m = ((2 ^ m : Nat) : Int) := by simp
    rw [e]
    generalize 2 ^ m = q at hp
    rw [wrap64_of (by omega) (by omega)]
    congr 2
    rw [Bool.eq_iff_iff]
    simp only [decide_eq_true_eq]
    omega
  · rw [if_neg h, Bool.eq_false_iff.2 h, Bool.false_and]
theorem implIsSet_eq (n s : Int) : impl_IsSet.f n s = some (isSetB n s) := by
  unfold impl_IsSet.f
  rw [isSize_eq, Option.bind_some]
  unfold isSetB
  by_cases h : (decide (0 ≤ n) && decide (n ≤ 8)) = true
  · rw [if_pos h, h, Bool.true_and]
    simp only [Bool.and_eq_true, decide_eq_true_eq] at h
    by_cases hs : s ≥ 0
    · rw [if_pos hs, if_pos h.1]
      obtain ⟨m, rfl⟩ := Int.eq_ofNat_of_zero_le h.1
      rw [shl_one (by omega), Int.toNat_natCast]
      have e : ((2 ^ m : Nat) : Int) = 2 ^ m := by simp
      rw [e]
      have : decide (0 ≤ s) = true := by simpa using hs
      rw [this, Bool.true_and]
    · rw [if_neg hs]
      have : decide (0 ≤ s) = false := by simpa using hs
      rw [this, Bool.false_and]
  · rw [if_neg h, Bool.eq_false_iff.2 h, Bool.false_and]
theorem isSet8 (s : Int) : isSetB 8 s = isAnyB s := by
  unfold isSetB isAnyB
  rw [Bool.eq_iff_iff]
  simp
theorem isAny_eq (s : Int) : impl_isAny.f s = some (isAnyB s) := by
  unfold impl_isAny.f isAnyB
  by_cases h : s ≥ 0
  · rw [if_pos h]; simp [h]
  · rw [if_neg h]; simp only [ge_iff_le] at h; simp [h]
theorem isAnyB_lt {s : Int} (h : isAnyB s = true) : ∃ t : Nat, s = t ∧ t < 256 := by
  simp only [isAnyB, Bool.and_eq_true, decide_eq_true_eq] at h
  obtain ⟨t, rfl⟩ := Int.eq_ofNat_of_zero_le h.1
  exact ⟨t, rfl, by omega⟩
theorem implHas_eq (s e : Int) : impl_HasElement.f s e = some (hasB s e) := by
  unfold impl_HasElement.f hasB
  rw [isAny_eq, Option.bind_some]
  by_cases h : isAnyB s = true
  · rw [if_pos h, h, Bool.true_and]
    obtain ⟨t, rfl, ht⟩ := isAnyB_lt h
    by_cases h0 : e ≥ 0
    · rw [if_pos h0]
      obtain ⟨m, rfl⟩ := Int.eq_ofNat_of_zero_le h0
      by_cases h8 : (m : Int) < 8
      · rw [if_pos h8, if_pos h0, bit_nat (lt256_63 ht)]
        simp [h8]
      · rw [if_neg h8]; simp [h8]
    · rw [if_neg h0]; simp only [ge_iff_le] at h0; simp [h0]
  · rw [if_neg h, Bool.eq_false_iff.2 h]; simp
theorem l2Has_eq {s e : Nat} (hs : s < 2 ^ 63) (he : e < 2 ^ 63) : spec_l2Has.f (s : Int) (e : Int) = some (s.testBit e) := by
  unfold spec_l2Has.f
  rw [if_pos (u64_nonneg _), u64_of (by omega) (by omega), bit_nat hs]
theorem specHas_eq (s e : Int) : spec_HasElement.f s e = some (hasB s e) := by
  unfold spec_HasElement.f hasB
  rw [specIsSet_eq, Option.bind_some, isSet8]
  by_cases h : isAnyB s = true
  · rw [if_pos h, h, Bool.true_and, l1In_eq, Option.bind_some]
    obtain ⟨t, rfl, ht⟩ := isAnyB_lt h
    by_cases h0 : (decide (0 ≤ e) && decide (e ≤ 7)) = true
    · rw [if_pos h0]
      simp only [Bool.and_eq_true, decide_eq_true_eq] at h0
      obtain ⟨m, rfl⟩ := Int.eq_ofNat_of_zero_le h0.1
      rw [l2Has_eq (lt256_63 ht) (by omega), Option.bind_some]
      have : decide ((m : Int) < 8) = true := by simp; omega
      simp [this]
    · rw [if_neg h0]
      have : (decide (0 ≤ e) && decide (e < 8)) = false := by
        rw [Bool.eq_false_iff]
        intro hc
        apply h0
        simp only [Bool.and_eq_true, decide_eq_true_eq] at *
        omega
      rw [this, Bool.false_and]
  · rw [if_neg h, Bool.eq_false_iff.2 h]; simp

end Go.Proofs.Ythpjhnfmafmanaa.Q
