/- The pure side of the law FnExactCoverNumber: what the Lean functions of the print compute, and that the law holds of them. Conditions: those in each lemma. -/
import Derived.Test.YtagncnjllpebjaaMFnExactCoverNumber1
import Derived.Test.YtagncnjllpebjaaMFnExactCoverNumber2
import Derived.Test.YtagncnjllpebjaaMFnExactCoverNumber3
import Derived.Test.YtagncnjllpebjaaMFnExactCoverNumber4
import Derived.Test.YtagncnjllpebjaaMFnExactCoverNumber5
import Derived.Test.YtagncnjllpebjaaMFnExactCoverNumber6
import Derived.Test.YtagncnjllpebjaaMFnExactCoverNumberq0
namespace Go.Proofs.Ytagncnjllpebjaa.A
open Go.RowKit
def laws_FnExactCoverNumber.Pure : Prop := ∀ (a0_0 : Int) (l0_1 : List Int), (Lit.int .i64 a0_0).wf = true → l0_1.length ≤ maxLen → (∀ x ∈ l0_1, (Lit.int .i64 x).wf = true) → ∃ k, laws_FnExactCoverNumber.f k a0_0 l0_1 = some true
end Go.Proofs.Ytagncnjllpebjaa.A

namespace Go.Proofs.Ytagncnjllpebjaa.Q
open Go Go.RowKit Go.Proofs.Ytagncnjllpebjaa.A Go.Proofs.YtagncnjllpebjaaW.PrintWords Go.Proofs.YtagncnjllpebjaaW.PrintLast Go.Proofs.YtagncnjllpebjaaW.PrintMore Go.Proofs.Ytagncnjllpebjaa.Z
set_option linter.unusedVariables false
set_option linter.unusedSimpArgs false

theorem toInt_l0 (l : List Int) (hl : l.length ≤ 17592186044416) : ∀ (rest pre : List Int), l = pre ++ rest → Ev (fun k => laws_toIntS.l0 k l (pre ++ List.replicate rest.length 0) (pre.length : Int)) l := by
  intro rest
  induction rest with
  | nil =>
    intro pre h
    apply Ev.step
    · intro k
      simp only [laws_toIntS.l0]
      rw [if_neg (by rw [h]; simp)]
    · subst h; simpa using Ev.now _
  | cons x rest ih =>
    intro pre h
    have hlen : (pre.length : Int) < (l.length : Int) := by rw [h]; simp; omega
    apply Ev.step
    · intro k
      simp only [laws_toIntS.l0]
      rw [if_pos hlen, if_pos (by omega), if_pos (by simp; omega)]
    · have := ih (pre ++ [x]) (by rw [h]; simp)
      have e : wrap64 ((pre.length : Int) + 1) = ((pre ++ [x]).length : Int) := by
        rw [wrap64_of (by omega) (by omega)]; simp
      rw [e]
      have e2 : (pre ++ List.replicate (x :: rest).length 0).set (pre.length : Int).toNat (rd l (pre.length : Int)) = (pre ++ [x]) ++ List.replicate rest.length 0 := by
        have : rd l (pre.length : Int) = x := by rw [h]; exact rd_mid _ _ _
        rw [this]
        simp [List.replicate_succ]
      rw [e2]
      exact this
theorem toInt_ev (l : List Int) (hl : l.length ≤ 17592186044416) : Ev (fun k => laws_toIntS.f k l) l := by
  unfold laws_toIntS.f
  refine Ev.ifp (by omega) (Ev.ifp (by simp; omega) ?_)
  simpa using toInt_l0 l hl l [] rfl
theorem eqInt_l0 (l : List Int) (hl : l.length ≤ 17592186044416) (l' : List Int) (hll : l'.length = l.length) : ∀ (rest rest' pre : List Int), l = pre ++ rest → l' = pre ++ rest' → Ev (fun k => laws_eqIntS.l0 k l l' (pre.length : Int)) (decide (l = l')) := by
  intro rest
  induction rest with
  | nil =>
    intro rest' pre h h'
    have : rest' = [] := by
      apply List.eq_nil_of_length_eq_zero
      have h1 := congrArg List.length h
      have h2 := congrArg List.length h'
      rw [List.length_append] at h1 h2
      simp only [List.length_nil] at h1
      omega
    subst this
    apply Ev.step
    · intro k
      simp only [laws_eqIntS.l0]
      rw [if_neg (by rw [h]; simp)]
    · have : l = l' := by rw [h, h']
      simpa [this] using Ev.now _
  | cons x rest ih =>
    intro rest' pre h h'
    have hlen : (pre.length : Int) < (l.length : Int) := by rw [h]; simp; omega
    cases rest' with
    | nil => exact absurd hll (by rw [h, h']; simp)
    | cons y rest' =>
    have e1 : rd l (pre.length : Int) = x := by rw [h]; exact rd_mid _ _ _
    have e2 : rd l' (pre.length : Int) = y := by rw [h']; exact rd_mid _ _ _
    by_cases hxy : x = y
    · subst hxy
      apply Ev.step
      · intro k
        simp only [laws_eqIntS.l0]
        rw [if_pos hlen, if_pos (by omega), if_pos (by omega), if_pos (by rw [e1, e2])]
      · have := ih rest' (pre ++ [x]) (by rw [h]; simp) (by rw [h']; simp)
        have e : wrap64 ((pre.length : Int) + 1) = ((pre ++ [x]).length : Int) := by
          rw [wrap64_of (by omega) (by omega)]; simp
        rw [e]
        exact this
    · apply Ev.step
      · intro k
        simp only [laws_eqIntS.l0]
        rw [if_pos hlen, if_pos (by omega), if_pos (by omega), if_neg (by rw [e1, e2]; exact hxy)]
      · have : l ≠ l' := by rw [h, h']; simp [hxy]
        simpa [this] using Ev.now _
theorem eqInt_ev (l l' : List Int) (hl : l.length ≤ 17592186044416) : Ev (fun k => laws_eqIntS.f k l l') (decide (l = l')) := by
  unfold laws_eqIntS.f
  by_cases h : (l.length : Int) = (l'.length : Int)
  · refine Ev.ifp h ?_
    exact eqInt_l0 l hl l' (by omega) l l' [] rfl rfl
  · refine Ev.ifn h ?_
    have : l ≠ l' := by rintro rfl; exact h rfl
    simpa [this] using Ev.now _
theorem eqInt_self (l : List Int) (hl : l.length ≤ 17592186044416) : Ev (fun k => laws_eqIntS.f k l l) true := by simpa using eqInt_ev l l hl

end Go.Proofs.Ytagncnjllpebjaa.Q

namespace Go.Proofs.Ytagncnjllpebjaa.Q
open Go Go.RowKit Go.Proofs.Ytagncnjllpebjaa.A Go.Proofs.YtagncnjllpebjaaW.PrintWords Go.Proofs.YtagncnjllpebjaaW.PrintLast Go.Proofs.YtagncnjllpebjaaW.PrintMore Go.Proofs.Ytagncnjllpebjaa.Z
set_option linter.unusedVariables false
set_option linter.unusedSimpArgs false

theorem szMat_eq (n : Int) (l : List Int) (left : Int) (h0 : 0 ≤ left) (h1 : left ≤ 1048576) (hl : l.length ≤ maxLen) : laws_szMatroid.f n l left = some (if (l.length : Int) > left then -1 else left - (l.length : Int)) := by
  unfold maxLen at hl
  unfold laws_szMatroid.f laws_szIntS.f
  rw [wrap64_of (by omega) (by omega)]
  by_cases h : (l.length : Int) > left
  · rw [if_pos h, if_pos (by omega), Option.bind_some, if_pos (by decide)]
  · rw [if_neg h, if_neg (by omega), Option.bind_some, if_neg (by omega)]
theorem toMat_ev (n : Int) (l : List Int) (hl : l.length ≤ 17592186044416) : Ev (fun k => laws_toMatroid.f k n l) (n, l) := by
  unfold laws_toMatroid.f
  exact Ev.bind (toInt_ev l hl) (Ev.now _)
theorem eqMat_ev (n : Int) (l : List Int) (hl : l.length ≤ 17592186044416) : Ev (fun k => laws_eqMatroid.f k n l n l) true := by
  unfold laws_eqMatroid.f
  refine Ev.ifp rfl (Ev.bind (eqInt_self l hl) (Ev.ifp rfl (Ev.now _)))

end Go.Proofs.Ytagncnjllpebjaa.Q

namespace Go.Proofs.Ytagncnjllpebjaa.Q
open Go Go.RowKit Go.Proofs.Ytagncnjllpebjaa.A Go.Proofs.YtagncnjllpebjaaW.PrintWords Go.Proofs.YtagncnjllpebjaaW.PrintLast Go.Proofs.YtagncnjllpebjaaW.PrintMore Go.Proofs.Ytagncnjllpebjaa.Z
set_option linter.unusedVariables false
set_option linter.unusedSimpArgs false

theorem l1In_eq (a b c : Int) : spec_l1In.f a b c = some (decide (b ≤ a) && decide (a ≤ c)) := by
  unfold spec_l1In.f
  by_cases h : a ≥ b
  · rw [if_pos h]; simp [h]
  · rw [if_neg h]; simp only [ge_iff_le] at h; simp [h]
theorem isSize_eq (a : Int) : impl_isSize.f a = some (decide (0 ≤ a) && decide (a ≤ 8)) := by
  unfold impl_isSize.f
  by_cases h : a ≥ 0
  · rw [if_pos h]; simp [h]
  · rw [if_neg h]; simp only [ge_iff_le] at h; simp [h]
theorem specIsSet_eq (n s : Int) : spec_IsSet.f n s = some (isSetB n s) := by
  unfold spec_IsSet.f
  rw [l1In_eq, Option.bind_some]
  unfold isSetB
  by_cases h : (decide (0 ≤ n) && decide (n ≤ 8)) = true
  · rw [if_pos h, if_pos (u64_nonneg _), l1In_eq, Option.bind_some, h, Bool.true_and]
    simp only [Bool.and_eq_true, decide_eq_true_eq] at h
    obtain ⟨m, rfl⟩ := Int.eq_ofNat_of_zero_le h.1
    have h8 : m ≤ 8 := by omega
    rw [u64_of (by omega) (by omega), shl_one (by omega)]
    have hp := pow_le_256 h8
    rw [Int.toNat_natCast]
    have e : (2 : Int) ^ m = ((2 ^ m : Nat) : Int) := by simp
    rw [e]
    generalize 2 ^ m = q at hp
    rw [wrap64_of (by omega) (by omega)]
    congr 2
    rw [Bool.eq_iff_iff]
    simp only [decide_eq_true_eq]
    omega
  · rw [if_neg h, Bool.eq_false_iff.2 h, Bool.false_and]
theorem implIsSet_eq (n s : Int) : impl_IsSet.f n s = some (isSetB n s) := by
  unfold impl_IsSet.f
  rw [isSize_eq, Option.bind_some]
  unfold isSetB
  by_cases h : (decide (0 ≤ n) && decide (n ≤ 8)) = true
  · rw [if_pos h, h, Bool.true_and]
    simp only [Bool.and_eq_true, decide_eq_true_eq] at h
    by_cases hs : s ≥ 0
    · rw [if_pos hs, if_pos h.1]
      obtain ⟨m, rfl⟩ := Int.eq_ofNat_of_zero_le h.1
      rw [shl_one (by omega), Int.toNat_natCast]
      have e : ((2 ^ m : Nat) : Int) = 2 ^ m := by simp
      rw [e]
      have : decide (0 ≤ s) = true := by simpa using hs
      rw [this, Bool.true_and]
    · rw [if_neg hs]
      have : decide (0 ≤ s) = false := by simpa using hs
      rw [this, Bool.false_and]
  · rw [if_neg h, Bool.eq_false_iff.2 h, Bool.false_and]
theorem isSet8 (s : Int) : isSetB 8 s = isAnyB s := by
  unfold isSetB isAnyB
  rw [Bool.eq_iff_iff]
  simp
theorem isAny_eq (s : Int) : impl_isAny.f s = some (isAnyB s) := by
  unfold impl_isAny.f isAnyB
  by_cases h : s ≥ 0
  · rw [if_pos h]; simp [h]
  · rw [if_neg h]; simp only [ge_iff_le] at h; simp [h]
theorem isAnyB_lt {s : Int} (h : isAnyB s = true) : ∃ t : Nat, s = t ∧ t < 256 := by
  simp only [isAnyB, Bool.and_eq_true, decide_eq_true_eq] at h
  obtain ⟨t, rfl⟩ := Int.eq_ofNat_of_zero_le h.1
  exact ⟨t, rfl, by omega⟩
theorem implHas_eq (s e : Int) : impl_HasElement.f s e = some (hasB s e) := by
  unfold impl_HasElement.f hasB
  rw [isAny_eq, Option.bind_some]
  by_cases h : isAnyB s = true
  · rw [if_pos h, h, Bool.true_and]
    obtain ⟨t, rfl, ht⟩ := isAnyB_lt h
    by_cases h0 : e ≥ 0
    · rw [if_pos h0]
      obtain ⟨m, rfl⟩ := Int.eq_ofNat_of_zero_le h0
      by_cases h8 : (m : Int) < 8
      · rw [if_pos h8, if_pos h0, bit_nat (lt256_63 ht)]
        simp [h8]
      · rw [if_neg h8]; simp [h8]
    · rw [if_neg h0]; simp only [ge_iff_le] at h0; simp [h0]
  · rw [if_neg h, Bool.eq_false_iff.2 h]; simp
theorem l2Has_eq {s e : Nat} (hs : s < 2 ^ 63) (he : e < 2 ^ 63) : spec_l2Has.f (s : Int) (e : Int) = some (s.testBit e) := by
  unfold spec_l2Has.f
  rw [if_pos (u64_nonneg _), u64_of (by omega) (by omega), bit_nat hs]
end Go.Proofs.Ytagncnjllpebjaa.Q

namespace Go.Proofs.Ytagncnjllpebjaa.Q
open Go Go.RowKit Go.Proofs.Ytagncnjllpebjaa.A Go.Proofs.YtagncnjllpebjaaW.PrintWords Go.Proofs.YtagncnjllpebjaaW.PrintLast Go.Proofs.YtagncnjllpebjaaW.PrintMore Go.Proofs.Ytagncnjllpebjaa.Z
set_option linter.unusedVariables false
set_option linter.unusedSimpArgs false

def famG (n : Int) : Option Int → List Int → Bool
  | _, [] => decide (0 ≤ n) && decide (n ≤ 8)
  | p, x :: xs => isSetB n x && ((match p with | none => true | some q => decide (q < x)) && famG n (some x) xs)
/-- A family: sets of n elements, strictly ascending. -/
def famB (n : Int) (l : List Int) : Bool := famG n none l
def prevO (l : List Int) (i : Nat) : Option Int := if i = 0 then none else some (rd l ((i - 1 : Nat) : Int))
theorem prevO_succ (l : List Int) (i : Nat) (hi : i < l.length) : prevO l (i + 1) = some l[i] := by
  unfold prevO
  rw [if_neg (by omega), Nat.add_sub_cancel, rd_getElem l i hi]
theorem specFam_ev (n : Int) (l : List Int) (hl : l.length ≤ 17592186044416) : Ev (fun k => spec_IsFamily.f k n l) (famB n l) := by
  have h := down (P := fun i => Ev (fun k => spec_IsFamily.l0 k n l (i : Int)) (famG n (prevO l i) (l.drop i))) l.length
    (by
      apply Ev.step
      · intro k
        simp only [spec_IsFamily.l0, l1In_eq, Option.bind_some]
        rw [if_neg (by omega)]
      · rw [drop_end]; exact Ev.now _)
    (by
      intro i hi ih
      apply Ev.step
      · intro k
        simp only [spec_IsFamily.l0, specIsSet_eq, Option.bind_some]
        rw [if_pos (by omega), if_pos (by omega), rd_getElem l i hi, w_succ hi hl]
      · rw [drop_cons l i hi]
        rw [prevO_succ l i hi] at ih
        simp only [famG]
        by_cases hx : isSetB n l[i] = true
        · refine Ev.ifp hx ?_
          rw [hx, Bool.true_and]
          by_cases h0 : (i : Int) > 0
          · refine Ev.ifp h0 ?_
            rw [wrap64_of (by omega) (by omega), show (i : Int) - 1 = ((i - 1 : Nat) : Int) from by omega]
            refine Ev.ifp (by omega) (Ev.ifp (by omega) ?_)
            unfold prevO
            rw [if_neg (by omega)]
            by_cases hq : rd l ((i - 1 : Nat) : Int) ≥ l[i]
            · refine Ev.ifp hq ?_
              simp only []
              rw [show decide (rd l ((i - 1 : Nat) : Int) < l[i]) = false from by simpa using hq, Bool.false_and]
              exact Ev.now _
            · refine Ev.ifn hq ?_
              simp only []
              rw [show decide (rd l ((i - 1 : Nat) : Int) < l[i]) = true from by simpa using hq, Bool.true_and]
              exact ih
          · refine Ev.ifn h0 ?_
            unfold prevO
            rw [if_pos (by omega)]
            simp only [Bool.true_and]
            exact ih
        · refine Ev.ifn hx ?_
          rw [Bool.eq_false_iff.2 hx, Bool.false_and]; exact Ev.now _)
  exact h
theorem implFam_ev (n : Int) (l : List Int) (hl : l.length ≤ 17592186044416) : Ev (fun k => impl_IsFamily.f k n l) (famB n l) := by
  have h := down (P := fun i => Ev (fun k => impl_IsFamily.l0 k n l l (l.length : Int) (i : Int)) (famG n (prevO l i) (l.drop i))) l.length
    (by
      apply Ev.step
      · intro k
        simp only [impl_IsFamily.l0, isSize_eq, Option.bind_some]
        rw [if_neg (by omega)]
      · rw [drop_end]; exact Ev.now _)
    (by
      intro i hi ih
      apply Ev.step
      · intro k
        simp only [impl_IsFamily.l0, implIsSet_eq, Option.bind_some]
        rw [if_pos (by omega), if_pos (by omega), if_pos (by omega), rd_getElem l i hi, w_succ hi hl]
      · rw [drop_cons l i hi]
        rw [prevO_succ l i hi] at ih
        simp only [famG]
        by_cases hx : isSetB n l[i] = true
        · refine Ev.ifp hx ?_
          rw [hx, Bool.true_and]
          by_cases h0 : (i : Int) > 0
          · refine Ev.ifp h0 ?_
            rw [wrap64_of (by omega) (by omega), show (i : Int) - 1 = ((i - 1 : Nat) : Int) from by omega]
            refine Ev.ifp (by omega) (Ev.ifp (by omega) ?_)
            unfold prevO
            rw [if_neg (by omega)]
            by_cases hq : l[i] ≤ rd l ((i - 1 : Nat) : Int)
            · refine Ev.ifp hq ?_
              simp only []
              rw [show decide (rd l ((i - 1 : Nat) : Int) < l[i]) = false from by simpa using hq, Bool.false_and]
              exact Ev.now _
            · refine Ev.ifn hq ?_
              simp only []
              rw [show decide (rd l ((i - 1 : Nat) : Int) < l[i]) = true from by simpa using hq, Bool.true_and]
              exact ih
          · refine Ev.ifn h0 ?_
            unfold prevO
            rw [if_pos (by omega)]
            simp only [Bool.true_and]
            exact ih
        · refine Ev.ifn hx ?_
          rw [Bool.eq_false_iff.2 hx, Bool.false_and]; exact Ev.now _)
  exact h
theorem famG_facts (n : Int) : ∀ (l : List Int) (p : Option Int), famG n p l = true → (0 ≤ n ∧ n ≤ 8) ∧ (∀ x ∈ l, isSetB n x = true) ∧ l.Pairwise (· < ·) ∧ (∀ q, p = some q → ∀ x ∈ l, q < x) := by
  intro l
  induction l with
  | nil =>
    intro p h
    simp only [famG, Bool.and_eq_true, decide_eq_true_eq] at h
    exact ⟨h, fun x hx => by simp at hx, List.Pairwise.nil, fun q _ x hx => by simp at hx⟩
  | cons y l ih =>
    intro p h
    simp only [famG, Bool.and_eq_true] at h
    obtain ⟨h1, h2, h3⟩ := h
    obtain ⟨i1, i2, i3, i4⟩ := ih _ h3
    refine ⟨i1, fun x hx => ?_, List.pairwise_cons.2 ⟨fun x hx => i4 y rfl x hx, i3⟩, fun q hq x hx => ?_⟩
    · rcases List.mem_cons.1 hx with rfl | hx
      · exact h1
      · exact i2 x hx
    · subst hq
      simp only [decide_eq_true_eq] at h2
      rcases List.mem_cons.1 hx with rfl | hx
      · exact h2
      · exact Int.lt_trans h2 (i4 y rfl x hx)
/-- A family as numbers: its size, its sets. -/
theorem famB_nat {n : Int} {l : List Int} (h : famB n l = true) : ∃ (m : Nat) (L : List Nat), n = m ∧ m ≤ 8 ∧ l = L.map (fun x : Nat => (x : Int)) ∧ (∀ x ∈ L, x < 2 ^ m) ∧ L.Pairwise (· < ·) := by
  obtain ⟨h1, h2, h3, _⟩ := famG_facts n l none h
  obtain ⟨m, rfl⟩ := Int.eq_ofNat_of_zero_le h1.1
  have hnn : ∀ x ∈ l, 0 ≤ x := fun x hx => by
    obtain ⟨_, t, _, rfl, _⟩ := isSetB_lt (h2 x hx)
    omega
  have hl : l = (l.map Int.toNat).map (fun x : Nat => (x : Int)) := by
    rw [List.map_map]
    conv => lhs; rw [← List.map_id l]
    apply List.map_congr_left
    intro x hx
    have := hnn x hx
    simp only [id, Function.comp]
    omega
  refine ⟨m, l.map Int.toNat, rfl, by omega, hl, fun x hx => ?_, ?_⟩
  · obtain ⟨y, hy, rfl⟩ := List.mem_map.1 hx
    obtain ⟨m', t, hm, rfl, _, ht, _⟩ := isSetB_lt (h2 y hy)
    have : m = m' := by omega
    subst this
    rw [Int.toNat_natCast]; exact ht
  · rw [List.pairwise_map]
    exact h3.imp_of_mem (fun {a b} ha hb hab => by
      have := hnn a ha
      have := hnn b hb
      omega)

end Go.Proofs.Ytagncnjllpebjaa.Q

namespace Go.Proofs.Ytagncnjllpebjaa.Q
open Go Go.RowKit Go.Proofs.Ytagncnjllpebjaa.A Go.Proofs.YtagncnjllpebjaaW.PrintWords Go.Proofs.YtagncnjllpebjaaW.PrintLast Go.Proofs.YtagncnjllpebjaaW.PrintMore Go.Proofs.Ytagncnjllpebjaa.Z
set_option linter.unusedVariables false
set_option linter.unusedSimpArgs false

/-- The elements of a set, as whole numbers; none where it is no set. -/
def elsB (s : Int) : List Int := ((List.range 8).filter (fun e : Nat => hasB s (e : Int))).map (fun e : Nat => (e : Int))
theorem range'_cons {i n : Nat} (h : i < n) : List.range' i (n - i) = i :: List.range' (i + 1) (n - (i + 1)) := by
  rw [show n - i = (n - (i + 1)) + 1 from by omega, List.range'_succ]
theorem filter_cons_map {s : Int} {i : Nat} (l : List Nat) : ((i :: l).filter (fun e : Nat => hasB s (e : Int))).map (fun e : Nat => (e : Int)) = (if hasB s (i : Int) = true then [(i : Int)] else []) ++ (l.filter (fun e : Nat => hasB s (e : Int))).map (fun e : Nat => (e : Int)) := by
  rw [List.filter_cons]
  by_cases h : hasB s (i : Int) = true
  · rw [if_pos h, if_pos h]; rfl
  · rw [if_neg h, if_neg h]; rfl
theorem implElements_ev (s : Int) : Ev (fun k => impl_ElementsOf.f k s) (elsB s) := by
  have h := down (P := fun i => ∀ acc : List Int, acc.length ≤ i → Ev (fun k => impl_ElementsOf.l0 k s acc (i : Int)) (acc ++ ((List.range' i (8 - i)).filter (fun e : Nat => hasB s (e : Int))).map (fun e : Nat => (e : Int)))) 8
    (by
      intro acc ha
      apply Ev.step
      · intro k
        simp only [impl_ElementsOf.l0, implHas_eq, Option.bind_some]
        rw [if_neg (by omega)]
      · simpa using Ev.now _)
    (by
      intro i hi ih acc ha
      apply Ev.step
      · intro k
        simp only [impl_ElementsOf.l0, implHas_eq, Option.bind_some]
        rw [if_pos (by omega), w_succ hi (by omega)]
      · rw [range'_cons hi, filter_cons_map]
        by_cases hx : hasB s (i : Int) = true
        · refine Ev.ifp hx (Ev.ifp (by omega) ?_)
          rw [if_pos hx, ← List.append_assoc]
          exact ih (acc ++ [(i : Int)]) (by simp; omega)
        · refine Ev.ifn hx ?_
          rw [if_neg hx]
          exact ih acc (by omega))
  have h0 := h [] (Nat.le_refl 0)
  rw [show ((0 : Nat) : Int) = 0 from rfl] at h0
  have e : elsB s = [] ++ ((List.range' 0 (8 - 0)).filter (fun e : Nat => hasB s (e : Int))).map (fun e : Nat => (e : Int)) := by
    unfold elsB
    rw [List.nil_append, List.range_eq_range']
  rw [e]
  unfold impl_ElementsOf.f
  exact h0
theorem elsB_nat {s : Nat} (h : s < 256) : elsB (s : Int) = (els s).map (fun e : Nat => (e : Int)) := by
  have e : (List.range 8).filter (fun e : Nat => hasB (s : Int) (e : Int)) = (List.range 8).filter (fun e : Nat => s.testBit e) :=
    List.filter_congr (fun e he => by
      rw [List.mem_range] at he
      rw [hasB_nat]
      simp [h, he])
  unfold elsB els
  rw [e]

end Go.Proofs.Ytagncnjllpebjaa.Q

namespace Go.Proofs.Ytagncnjllpebjaa.Q
open Go Go.RowKit Go.Proofs.Ytagncnjllpebjaa.A Go.Proofs.YtagncnjllpebjaaW.PrintWords Go.Proofs.YtagncnjllpebjaaW.PrintLast Go.Proofs.YtagncnjllpebjaaW.PrintMore Go.Proofs.Ytagncnjllpebjaa.Z
set_option linter.unusedVariables false
set_option linter.unusedSimpArgs false

theorem contains_cons (x : Int) (l : List Int) (a : Int) : (x :: l).contains a = (decide (x = a) || l.contains a) := by
  rw [Bool.eq_iff_iff]
  simp only [List.contains_iff_mem, List.mem_cons, Bool.or_eq_true, decide_eq_true_eq]
  constructor
  · rintro (h | h)
    · exact .inl h.symm
    · exact .inr h
  · rintro (h | h)
    · exact .inl h.symm
    · exact .inr h
theorem specHasSet_ev (l : List Int) (a : Int) (hl : l.length ≤ 17592186044416) : Ev (fun k => spec_HasSet.f k l a) (l.contains a) := by
  have h := down (P := fun i => Ev (fun k => spec_HasSet.l0 k l a (i : Int)) ((l.drop i).contains a)) l.length
    (by
      apply Ev.step
      · intro k
        simp only [spec_HasSet.l0]
        rw [if_neg (by omega)]
      · rw [drop_end]; exact Ev.now _)
    (by
      intro i hi ih
      apply Ev.step
      · intro k
        simp only [spec_HasSet.l0]
        rw [if_pos (by omega), if_pos (by omega), rd_getElem l i hi, w_succ hi hl]
      · rw [drop_cons l i hi, contains_cons]
        by_cases hx : l[i] = a
        · refine Ev.ifp hx ?_
          rw [show decide (l[i] = a) = true from by simpa using hx, Bool.true_or]; exact Ev.now _
        · refine Ev.ifn hx ?_
          rw [show decide (l[i] = a) = false from by simpa using hx, Bool.false_or]; exact ih)
  exact h

end Go.Proofs.Ytagncnjllpebjaa.Q

namespace Go.Proofs.Ytagncnjllpebjaa.Q
open Go Go.RowKit Go.Proofs.Ytagncnjllpebjaa.A Go.Proofs.YtagncnjllpebjaaW.PrintWords Go.Proofs.YtagncnjllpebjaaW.PrintLast Go.Proofs.YtagncnjllpebjaaW.PrintMore Go.Proofs.Ytagncnjllpebjaa.Z
set_option linter.unusedVariables false
set_option linter.unusedSimpArgs false

theorem index_l0 (l : List Int) (a : Int) (hl : l.length ≤ 17592186044416) : ∃ r : Int, Ev (fun k => slices_Index_int_int.f k l a) r ∧ (decide (r ≥ 0) = l.contains a) := by
  have h := down (P := fun i => ∃ r : Int, Ev (fun k => slices_Index_int_int.l0 k l a (l.length : Int) (i : Int)) r ∧ (decide (r ≥ 0) = (l.drop i).contains a)) l.length
    (by
      refine ⟨-1, ?_, by rw [drop_end]; rfl⟩
      apply Ev.step
      · intro k
        simp only [slices_Index_int_int.l0]
        rw [if_neg (by omega)]
      · exact Ev.now _)
    (by
      intro i hi ih
      rw [drop_cons l i hi, contains_cons]
      by_cases hx : l[i] = a
      · refine ⟨(i : Int), ?_, ?_⟩
        · apply Ev.step
          · intro k
            simp only [slices_Index_int_int.l0]
            rw [if_pos (by omega), if_pos (by omega), if_pos (by omega), rd_getElem l i hi, if_pos hx.symm]
          · exact Ev.now _
        · rw [show decide (l[i] = a) = true from by simpa using hx, Bool.true_or]
          simp
      · obtain ⟨r, hr, hd⟩ := ih
        refine ⟨r, ?_, ?_⟩
        · apply Ev.step
          · intro k
            simp only [slices_Index_int_int.l0]
            rw [if_pos (by omega), if_pos (by omega), if_pos (by omega), rd_getElem l i hi, if_neg (fun hc => hx hc.symm), w_succ hi hl]
          · exact hr
        · rw [show decide (l[i] = a) = false from by simpa using hx, Bool.false_or]; exact hd)
  exact h
theorem contains_ev (l : List Int) (a : Int) (hl : l.length ≤ 17592186044416) : Ev (fun k => slices_Contains_int_int.f k l a) (l.contains a) := by
  obtain ⟨r, hr, hd⟩ := index_l0 l a hl
  unfold slices_Contains_int_int.f
  refine Ev.bind hr ?_
  rw [hd]; exact Ev.now _

end Go.Proofs.Ytagncnjllpebjaa.Q

namespace Go.Proofs.Ytagncnjllpebjaa.Q
open Go Go.RowKit Go.Proofs.YtagncnjllpebjaaW.PrintWords Go.Proofs.YtagncnjllpebjaaW.PrintLast Go.Proofs.YtagncnjllpebjaaW.PrintMore Go.Proofs.Ytagncnjllpebjaa.Z
set_option linter.unusedVariables false
set_option linter.unusedSimpArgs false

/-- Can e be exchanged for an element of b? -/
def hasEx (l : List Int) (a b e : Nat) : Bool := (els (dif b a)).any (fun f => l.contains ((dif a (2 ^ e) ||| 2 ^ f : Nat) : Int))
def failE (l : List Int) (a b : Nat) : List Nat → Option Nat
  | [] => none
  | e :: es => if hasEx l a b e = true then failE l a b es else some e
def failB (l : List Int) (a : Nat) : List Nat → Option (Nat × Nat)
  | [] => none
  | b :: bs => match failE l a b (els (dif a b)) with
    | none => failB l a bs
    | some e => some (b, e)
def failA (l : List Int) (L : List Nat) : List Nat → Option (Nat × Nat × Nat)
  | [] => none
  | a :: la => match failB l a L with
    | none => failA l L la
    | some (b, e) => some (a, b, e)
def told : Option (Nat × Nat × Nat) → Int × Int × Int × Bool
  | none => (0, 0, 0, false)
  | some (a, b, e) => ((a : Int), (b : Int), (e : Int), true)
/-- What FirstFailure hands back. -/
def failT (n : Int) (l : List Int) : Int × Int × Int × Bool := if famB n l = true then told (failA l (l.map Int.toNat) (l.map Int.toNat)) else (0, 0, 0, false)
theorem els_dif {a b n : Nat} (ha : a < 2 ^ n) (hn : n ≤ 8) : els (dif a b) = (List.range n).filter (fun e => a.testBit e && !b.testBit e) := by
  have h1 : (List.range 8).filter (fun e => (dif a b).testBit e) = (List.range 8).filter (fun e => decide (e < n) && (a.testBit e && !b.testBit e)) :=
    List.filter_congr (fun e _ => by
      rw [dif_bit]
      by_cases h : e < n
      · simp [h]
      · have : a.testBit e = false := Nat.testBit_lt_two_pow (Nat.lt_of_lt_of_le ha (Nat.pow_le_pow_right (by decide) (by omega)))
        simp [this])
  unfold els
  rw [h1]
  have h2 : ∀ (p : Nat → Bool) (a b : Nat), (List.range a).filter (fun e => decide (e < b) && p e) = (List.range (min a b)).filter p := by
    intro p a b
    induction a with
    | zero => simp
    | succ a ih =>
      rw [List.range_succ, List.filter_append, ih]
      by_cases h : a < b
      · rw [show min (a + 1) b = min a b + 1 from by omega, List.range_succ, List.filter_append]
        have e : min a b = a := by omega
        rw [e]
        congr 1
        simp [List.filter_cons, h]
      · rw [show min (a + 1) b = min a b from by omega]
        simp [List.filter_cons, h]
  rw [h2, Nat.min_eq_right hn]

end Go.Proofs.Ytagncnjllpebjaa.Q

namespace Go.Proofs.Ytagncnjllpebjaa.Q
open Go Go.RowKit Go.Proofs.Ytagncnjllpebjaa.A Go.Proofs.YtagncnjllpebjaaW.PrintWords Go.Proofs.YtagncnjllpebjaaW.PrintLast Go.Proofs.YtagncnjllpebjaaW.PrintMore Go.Proofs.Ytagncnjllpebjaa.Z
set_option linter.unusedVariables false
set_option linter.unusedSimpArgs false

theorem specEx_ev (n : Nat) (hn : n ≤ 8) (l : List Int) (hl : l.length ≤ 17592186044416) (a b e : Nat) (ha : a < 256) (hb : b < 2 ^ n) (he : e < 8) (hae : a.testBit e = true) :
    Ev (fun k => spec_l4Exchange.f k (n : Int) l (a : Int) (b : Int) (e : Int)) (hasEx l a b e) := by
  have hb256 : b < 256 := Nat.lt_of_lt_of_le hb (pow_le_256 hn)
  have h := down (P := fun f => Ev (fun k => spec_l4Exchange.l0 k (a : Int) (b : Int) (e : Int) (f : Int) (n : Int) l) (((List.range' f (n - f)).filter (fun f => b.testBit f && !a.testBit f)).any (fun f => l.contains ((dif a (2 ^ e) ||| 2 ^ f : Nat) : Int)))) n
    (by
      apply Ev.step
      · intro k
        simp only [spec_l4Exchange.l0]
        rw [if_neg (by omega)]
      · rw [Nat.sub_self]; exact Ev.now _)
    (by
      intro f hf ih
      have hih : Ev (fun k => spec_l4Exchange.l0 k (a : Int) (b : Int) (e : Int) (wrap64 ((f : Int) + 1)) (n : Int) l) (((List.range' (f + 1) (n - (f + 1))).filter (fun f => b.testBit f && !a.testBit f)).any (fun f => l.contains ((dif a (2 ^ e) ||| 2 ^ f : Nat) : Int))) := by
        rw [w_succ hf (by omega)]; exact ih
      apply Ev.step
      · intro k
        simp only [spec_l4Exchange.l0, l2Has_eq (lt256_63 hb256) (show f < 2 ^ 63 by omega), l2Has_eq (lt256_63 ha) (show f < 2 ^ 63 by omega), Option.bind_some]
        rw [if_pos (by omega)]
      · rw [range'_cons hf, List.filter_cons]
        by_cases hbf : b.testBit f = true
        · refine Ev.ifp hbf ?_
          by_cases haf : a.testBit f = true
          · refine Ev.ifp haf ?_
            rw [if_neg (by rw [haf]; simp)]
            exact hih
          · refine Ev.ifn haf (Ev.ifp (u64_nonneg _) (Ev.ifp (u64_nonneg _) ?_))
            have haf' := Bool.eq_false_iff.2 haf
            rw [if_pos (by rw [hbf, haf']; rfl), List.any_cons]
            obtain ⟨x1, x2, x3⟩ := exch_arith ha he (show f < 8 by omega) hae haf'
            have hp : 2 ^ f < 256 := Nat.pow_lt_pow_right (a := 2) (m := f) (n := 8) (by decide) (by omega)
            have ex : wrap64 (wrap64 ((a : Int) - shl .i64 1 (IntKind.u64.wrap (e : Int))) + shl .i64 1 (IntKind.u64.wrap (f : Int))) = ((dif a (2 ^ e) ||| 2 ^ f : Nat) : Int) := by
              rw [u64_of (by omega) (by omega), u64_of (by omega) (by omega), shl_one (by omega), shl_one (by omega), ← x1]
              generalize 2 ^ e = p at *
              generalize 2 ^ f = q at *
              rw [wrap64_of (n := (a : Int) - (p : Int)) (by omega) (by omega), wrap64_of (by omega) (by omega)]
              omega
            rw [ex]
            refine Ev.bind (specHasSet_ev l _ hl) ?_
            by_cases hc : l.contains ((dif a (2 ^ e) ||| 2 ^ f : Nat) : Int) = true
            · refine Ev.ifp hc ?_
              rw [hc, Bool.true_or]; exact Ev.now _
            · refine Ev.ifn hc ?_
              rw [Bool.eq_false_iff.2 hc, Bool.false_or]; exact hih
        · refine Ev.ifn hbf ?_
          rw [if_neg (by rw [Bool.eq_false_iff.2 hbf]; simp)]
          exact hih)
  rw [Nat.sub_zero, ← List.range_eq_range', ← els_dif hb hn] at h
  exact h
theorem specFail_l2 (n : Nat) (hn : n ≤ 8) (l : List Int) (hl : l.length ≤ 17592186044416) (i j : Nat) (hi : i < l.length) (hj : j < l.length) (a b : Nat) (hai : rd l (i : Int) = a) (hbj : rd l (j : Int) = b) (ha : a < 2 ^ n) (hb : b < 2 ^ n) (K : Int × Int × Int × Bool)
    (hK : Ev (fun k => spec_FirstFailure.l1 k (i : Int) (wrap64 ((j : Int) + 1)) (n : Int) l) K) :
    Ev (fun k => spec_FirstFailure.l2 k (i : Int) (j : Int) 0 (n : Int) l) (match failE l a b (els (dif a b)) with | none => K | some e => ((a : Int), (b : Int), (e : Int), true)) := by
  have ha256 : a < 256 := Nat.lt_of_lt_of_le ha (pow_le_256 hn)
  have hb256 : b < 256 := Nat.lt_of_lt_of_le hb (pow_le_256 hn)
  have h := down (P := fun e => Ev (fun k => spec_FirstFailure.l2 k (i : Int) (j : Int) (e : Int) (n : Int) l) (match failE l a b ((List.range' e (n - e)).filter (fun e => a.testBit e && !b.testBit e)) with | none => K | some e => ((a : Int), (b : Int), (e : Int), true))) n
    (by
      apply Ev.step
      · intro k
        simp only [spec_FirstFailure.l2]
        rw [if_neg (by omega)]
      · rw [Nat.sub_self]; exact hK)
    (by
      intro e he ih
      have hih : Ev (fun k => spec_FirstFailure.l2 k (i : Int) (j : Int) (wrap64 ((e : Int) + 1)) (n : Int) l) (match failE l a b ((List.range' (e + 1) (n - (e + 1))).filter (fun e => a.testBit e && !b.testBit e)) with | none => K | some e => ((a : Int), (b : Int), (e : Int), true)) := by
        rw [w_succ he (by omega)]; exact ih
      apply Ev.step
      · intro k
        simp only [spec_FirstFailure.l2]
        rw [if_pos (by omega), if_pos (by omega), if_pos (by omega), if_pos (by omega), if_pos (by omega), hai, hbj, l2Has_eq (lt256_63 ha256) (show e < 2 ^ 63 by omega), l2Has_eq (lt256_63 hb256) (show e < 2 ^ 63 by omega), Option.bind_some, Option.bind_some]
      · rw [range'_cons he, List.filter_cons]
        by_cases hae : a.testBit e = true
        · refine Ev.ifp hae ?_
          by_cases hbe : b.testBit e = true
          · refine Ev.ifp hbe ?_
            rw [if_neg (by rw [hbe]; simp)]
            exact hih
          · refine Ev.ifn hbe (Ev.bind (specEx_ev n hn l hl a b e ha256 hb (by omega) hae) ?_)
            rw [if_pos (by rw [hae, Bool.eq_false_iff.2 hbe]; rfl)]
            simp only [failE]
            by_cases hx : hasEx l a b e = true
            · refine Ev.ifp hx ?_
              rw [if_pos hx]; exact hih
            · refine Ev.ifn hx ?_
              rw [if_neg hx]; exact Ev.now _
        · refine Ev.ifn hae ?_
          rw [if_neg (by rw [Bool.eq_false_iff.2 hae]; simp)]
          exact hih)
  rw [Nat.sub_zero, ← List.range_eq_range', ← els_dif ha hn] at h
  exact h
theorem specFail_ev (n : Int) (l : List Int) (hl : l.length ≤ 17592186044416) : Ev (fun k => spec_FirstFailure.f k n l) (failT n l) := by
  unfold spec_FirstFailure.f failT
  refine Ev.bind (specFam_ev n l hl) ?_
  by_cases hf : famB n l = true
  · refine Ev.ifp hf ?_
    rw [if_pos hf]
    obtain ⟨m, L, rfl, hm, rfl, hL, _⟩ := famB_nat hf
    rw [toNat_map]
    have hlen : (L.map (fun x : Nat => (x : Int))).length = L.length := List.length_map _
    rw [hlen] at hl
    have hrd : ∀ i, (h : i < L.length) → rd (L.map (fun x : Nat => (x : Int))) (i : Int) = (L[i] : Int) := fun i h => by
      rw [rd_getElem _ i (by rw [hlen]; exact h), List.getElem_map]
    have hl' : (L.map (fun x : Nat => (x : Int))).length ≤ 17592186044416 := by rw [hlen]; exact hl
    generalize L.map (fun x : Nat => (x : Int)) = l at hlen hrd hl'
    have h := down (P := fun i => Ev (fun k => spec_FirstFailure.l0 k (i : Int) (m : Int) l) (told (failA l L (L.drop i)))) L.length
      (by
        apply Ev.step
        · intro k
          simp only [spec_FirstFailure.l0]
          rw [if_neg (by omega)]
        · rw [drop_end]; exact Ev.now _)
      (by
        intro i hi ih
        have hia := hL _ (List.getElem_mem hi)
        have hih : Ev (fun k => spec_FirstFailure.l0 k (wrap64 ((i : Int) + 1)) (m : Int) l) (told (failA l L (L.drop (i + 1)))) := by
          rw [w_succ hi hl]; exact ih
        apply Ev.step
        · intro k
          simp only [spec_FirstFailure.l0]
          rw [if_pos (by omega)]
        · have h1 := down (P := fun j => Ev (fun k => spec_FirstFailure.l1 k (i : Int) (j : Int) (m : Int) l) (match failB l L[i] (L.drop j) with | none => told (failA l L (L.drop (i + 1))) | some (b, e) => ((L[i] : Int), (b : Int), (e : Int), true))) L.length
            (by
              apply Ev.step
              · intro k
                simp only [spec_FirstFailure.l1]
                rw [if_neg (by omega)]
              · rw [drop_end]; exact hih)
            (by
              intro j hj ihj
              have hjb := hL _ (List.getElem_mem hj)
              apply Ev.step
              · intro k
                simp only [spec_FirstFailure.l1]
                rw [if_pos (by omega)]
              · have h2 := specFail_l2 m hm l hl' i j (by omega) (by omega) L[i] L[j] (hrd i hi) (hrd j hj) hia hjb _ (by rw [w_succ hj hl]; exact ihj)
                rw [drop_cons L j hj]
                simp only [failB]
                generalize failE l L[i] L[j] (els (dif L[i] L[j])) = q at h2
                cases q with
                | none => exact h2
                | some e => exact h2)
          rw [drop_cons L i hi]
          simp only [failA]
          rw [List.drop_zero] at h1
          generalize failB l L[i] L = q at h1
          cases q with
          | none => exact h1
          | some x => exact h1)
    exact h
  · refine Ev.ifn hf ?_
    rw [if_neg hf]
    exact Ev.now _

end Go.Proofs.Ytagncnjllpebjaa.Q

namespace Go.Proofs.Ytagncnjllpebjaa.Q
open Go Go.RowKit Go.Proofs.Ytagncnjllpebjaa.A Go.Proofs.YtagncnjllpebjaaW.PrintWords Go.Proofs.YtagncnjllpebjaaW.PrintLast Go.Proofs.YtagncnjllpebjaaW.PrintMore Go.Proofs.Ytagncnjllpebjaa.Z
set_option linter.unusedVariables false
set_option linter.unusedSimpArgs false

/-- A matroid: a family, not empty, without a failure of the exchange. -/
def matB (n : Int) (l : List Int) : Bool := famB n l && (decide ((l.length : Int) > 0) && !(failT n l).2.2.2)
theorem specMat_ev (n : Int) (l : List Int) (hl : l.length ≤ 17592186044416) : Ev (fun k => spec_IsMatroid.f k n l) (matB n l) := by
  unfold spec_IsMatroid.f matB
  refine Ev.bind (specFail_ev n l hl) (Ev.bind (specFam_ev n l hl) ?_)
  by_cases hf : famB n l = true
  · refine Ev.ifp hf ?_
    rw [hf, Bool.true_and]
    by_cases h0 : (l.length : Int) > 0
    · refine Ev.ifp h0 ?_
      rw [show decide ((l.length : Int) > 0) = true from by simpa using h0, Bool.true_and]
      exact Ev.now _
    · refine Ev.ifn h0 ?_
      rw [show decide ((l.length : Int) > 0) = false from by simpa using h0, Bool.false_and]
      exact Ev.now _
  · refine Ev.ifn hf ?_
    rw [Bool.eq_false_iff.2 hf, Bool.false_and]
    exact Ev.now _

end Go.Proofs.Ytagncnjllpebjaa.Q

namespace Go.Proofs.Ytagncnjllpebjaa.Q
open Go Go.RowKit Go.Proofs.YtagncnjllpebjaaW.PrintWords Go.Proofs.YtagncnjllpebjaaW.PrintLast Go.Proofs.YtagncnjllpebjaaW.PrintMore Go.Proofs.Ytagncnjllpebjaa.Z
set_option linter.unusedVariables false
set_option linter.unusedSimpArgs false

/-- What a matroid is, as numbers. -/
theorem matB_nat {n : Int} {l : List Int} (h : matB n l = true) : ∃ (m : Nat) (L : List Nat), n = m ∧ m ≤ 8 ∧ l = ints L ∧ (∀ x ∈ L, x < 2 ^ m) ∧ (∀ x ∈ L, x < 256) ∧ L.Pairwise (· < ·) ∧ L ≠ [] := by
  simp only [matB, Bool.and_eq_true, decide_eq_true_eq] at h
  obtain ⟨m, L, rfl, hm, rfl, hL, hp⟩ := famB_nat h.1
  refine ⟨m, L, rfl, hm, rfl, hL, fun x hx => Nat.lt_of_lt_of_le (hL x hx) (pow_le_256 hm), hp, ?_⟩
  rintro rfl
  simp at h
theorem ints_len (L : List Nat) : (ints L).length = L.length := List.length_map _
theorem ints_rd (L : List Nat) (i : Nat) (h : i < L.length) : rd (ints L) (i : Int) = (L[i] : Int) := by
  rw [rd_getElem _ i (by rw [ints_len]; exact h)]
  simp [ints]

end Go.Proofs.Ytagncnjllpebjaa.Q

namespace Go.Proofs.Ytagncnjllpebjaa.Q
open Go Go.RowKit Go.Proofs.Ytagncnjllpebjaa.A Go.Proofs.YtagncnjllpebjaaW.PrintWords Go.Proofs.YtagncnjllpebjaaW.PrintLast Go.Proofs.YtagncnjllpebjaaW.PrintMore Go.Proofs.Ytagncnjllpebjaa.Z
set_option linter.unusedVariables false
set_option linter.unusedSimpArgs false

theorem specCount_l0 : ∀ (d x : Nat), x ≤ d → x < 256 → ∀ acc : Int, 0 ≤ acc → acc + (d : Int) ≤ 1000 → Ev (fun k => spec_CountOf.l0 k (x : Int) acc) (acc + (pc x : Int)) := by
  intro d
  induction d with
  | zero =>
    intro x hx _ acc h0 h1
    obtain rfl : x = 0 := by omega
    apply Ev.step
    · intro k
      simp only [spec_CountOf.l0]
      rw [if_neg (by decide)]
    · rw [pc_zero, show acc + ((0 : Nat) : Int) = acc from by omega]
      exact Ev.now _
  | succ d ih =>
    intro x hx h256 acc h0 h1
    by_cases hz : x = 0
    · subst hz
      exact ih 0 (by omega) h256 acc h0 (by omega)
    · have hb : Go.bits .and .i64 (x : Int) 1 = ((x % 2 : Nat) : Int) := by
        have := and_nat (a := x) (b := 1) (lt256_63 h256) (by decide)
        rw [Nat.and_one_is_mod] at this
        exact this
      apply Ev.step
      · intro k
        simp only [spec_CountOf.l0]
        rw [if_pos (by omega), hb, wrap64_of (by omega) (by omega), show (x : Int) / 2 = ((x / 2 : Nat) : Int) from by omega]
      · have hp := pc_step x h256
        have hl := pc_le (x / 2)
        have := ih (x / 2) (by omega) (by omega) (acc + ((x % 2 : Nat) : Int)) (by omega) (by omega)
        rw [show acc + ((x % 2 : Nat) : Int) + (pc (x / 2) : Int) = acc + (pc x : Int) from by omega] at this
        exact this
theorem specCount_ev (s : Nat) (h : s < 256) : Ev (fun k => spec_CountOf.f k (s : Int)) (pc s : Int) := by
  unfold spec_CountOf.f
  refine Ev.cbind (specIsSet_eq _ _) (Ev.ifp ?_ ?_)
  · rw [isSet8, isAnyB_nat]; simpa using h
  · have := specCount_l0 s s (Nat.le_refl _) h 0 (by omega) (by omega)
    rw [Int.zero_add] at this
    exact this
end Go.Proofs.Ytagncnjllpebjaa.Q

namespace Go.Proofs.Ytagncnjllpebjaa.Q
open Go Go.RowKit Go.Proofs.Ytagncnjllpebjaa.A Go.Proofs.YtagncnjllpebjaaW.PrintWords Go.Proofs.YtagncnjllpebjaaW.PrintLast Go.Proofs.YtagncnjllpebjaaW.PrintMore Go.Proofs.Ytagncnjllpebjaa.Z
set_option linter.unusedVariables false
set_option linter.unusedSimpArgs false

theorem l1Max_eq (a b : Int) : spec_l1Max.f a b = some (max a b) := by
  unfold spec_l1Max.f
  by_cases h : a > b
  · rw [if_pos h]; congr 1; omega
  · rw [if_neg h]; congr 1; omega
theorem specRank_ev (n : Int) (L : List Nat) (s : Nat) (hl : L.length ≤ 17592186044416) (hL : ∀ b ∈ L, b < 256) (hs : s < 256) : Ev (fun k => spec_l5Rank.f k n (ints L) (s : Int)) (rkN L s : Int) := by
  have h := down (P := fun i => ∀ acc : Nat, Ev (fun k => spec_l5Rank.l0 k (s : Int) (acc : Int) (i : Int) n (ints L)) ((maxN acc ((L.drop i).map (fun b => pc (b &&& s))) : Nat) : Int)) L.length
    (by
      intro acc
      apply Ev.step
      · intro k
        simp only [spec_l5Rank.l0]
        rw [if_neg (by rw [ints_len]; omega)]
      · rw [drop_end]; exact Ev.now _)
    (by
      intro i hi ih acc
      have hb := hL _ (List.getElem_mem hi)
      apply Ev.step
      · intro k
        simp only [spec_l5Rank.l0, l1Max_eq, Option.bind_some]
        rw [if_pos (by rw [ints_len]; omega), if_pos (by omega), ints_rd L i hi, w_succ hi hl, and_nat (lt256_63 hb) (lt256_63 hs)]
      · refine Ev.bind (specCount_ev _ (and_lt hb)) ?_
        rw [drop_cons L i hi, List.map_cons, maxN_cons]
        have := ih (max acc (pc (L[i] &&& s)))
        rw [show ((max acc (pc (L[i] &&& s)) : Nat) : Int) = max (acc : Int) (pc (L[i] &&& s) : Int) from by omega] at this
        exact this)
  exact h 0
theorem specFree_ev (n : Int) (L : List Nat) (s : Nat) (hl : L.length ≤ 17592186044416) (hL : ∀ b ∈ L, b < 256) (hne : L ≠ []) (hs : s < 256) : Ev (fun k => spec_l20Free.f k n (ints L) (s : Int)) (indN L s) := by
  unfold spec_l20Free.f
  refine Ev.bind (specRank_ev n L s hl hL hs) (Ev.bind (specCount_ev s hs) ?_)
  have : ((rkN L s : Int) == (pc s : Int)) = indN L s := by
    rw [Bool.eq_iff_iff, ← rk_eq_iff hs hne]
    simp only [beq_iff_eq]
    omega
  rw [this]
  exact Ev.now _

end Go.Proofs.Ytagncnjllpebjaa.Q

namespace Go.Proofs.Ytagncnjllpebjaa.Q
open Go Go.RowKit Go.Proofs.Ytagncnjllpebjaa.A Go.Proofs.YtagncnjllpebjaaW.PrintWords Go.Proofs.YtagncnjllpebjaaW.PrintLast Go.Proofs.YtagncnjllpebjaaW.PrintMore Go.Proofs.Ytagncnjllpebjaa.Z
set_option linter.unusedVariables false
set_option linter.unusedSimpArgs false

set_option maxRecDepth 100000 in
theorem ones64 : ∀ s < 256, bits_OnesCount64.f ((s : Nat) : Int) = some ((pc s : Nat) : Int) := by decide +kernel
theorem implCount_eq (s : Nat) (h : s < 256) : impl_CountOf.f (s : Int) = some (pc s : Int) := by
  unfold impl_CountOf.f
  rw [isAny_eq, Option.bind_some, if_pos (by rw [isAnyB_nat]; simpa using h), u64_of (by omega) (by omega)]
  unfold bits_OnesCount.f
  rw [ones64 s h]
  rfl
end Go.Proofs.Ytagncnjllpebjaa.Q

namespace Go.Proofs.Ytagncnjllpebjaa.Q
open Go Go.RowKit Go.Proofs.Ytagncnjllpebjaa.A Go.Proofs.YtagncnjllpebjaaW.PrintWords Go.Proofs.YtagncnjllpebjaaW.PrintLast Go.Proofs.YtagncnjllpebjaaW.PrintMore Go.Proofs.Ytagncnjllpebjaa.Z
set_option linter.unusedVariables false
set_option linter.unusedSimpArgs false

theorem mx_nat (a b : Nat) : mx (a : Int) (b : Int) = ((max a b : Nat) : Int) := by
  unfold mx
  split <;> omega
end Go.Proofs.Ytagncnjllpebjaa.Q

namespace Go.Proofs.Ytagncnjllpebjaa.Q
open Go Go.RowKit Go.Proofs.Ytagncnjllpebjaa.A Go.Proofs.YtagncnjllpebjaaW.PrintWords Go.Proofs.YtagncnjllpebjaaW.PrintLast Go.Proofs.YtagncnjllpebjaaW.PrintMore Go.Proofs.Ytagncnjllpebjaa.Z
set_option linter.unusedVariables false
set_option linter.unusedSimpArgs false

def fullN (m : Nat) : Nat := 2 ^ m - 1
theorem full_sub_all : ∀ m < 9, ∀ u < 256, (!decide (u < 2 ^ m) || (decide (fullN m - u = dif (fullN m) u) && decide (fullN m < 2 ^ m))) = true := by decide +kernel
theorem full_sub {m u : Nat} (hm : m ≤ 8) (hu : u < 2 ^ m) : fullN m - u = dif (fullN m) u ∧ fullN m < 2 ^ m ∧ fullN m < 256 := by
  have h256 := Nat.lt_of_lt_of_le hu (pow_le_256 hm)
  have h := full_sub_all m (by omega) u h256
  rw [show decide (u < 2 ^ m) = true from by simpa using hu] at h
  simp only [Bool.not_true, Bool.false_or, Bool.and_eq_true, decide_eq_true_eq] at h
  exact ⟨h.1, h.2, Nat.lt_of_lt_of_le h.2 (pow_le_256 hm)⟩
theorem full_lt {m : Nat} (hm : m ≤ 8) : fullN m < 2 ^ m ∧ fullN m < 256 := (full_sub hm (Nat.two_pow_pos m)).2
theorem full_bit (m i : Nat) : (fullN m).testBit i = decide (i < m) := Nat.testBit_two_pow_sub_one m i
theorem specFull_eq {m : Nat} (hm : m ≤ 8) : spec_FullSet.f (m : Int) = some ((fullN m : Nat) : Int) := by
  unfold spec_FullSet.f fullN
  have hp := pow_le_256 hm
  have h0 := Nat.two_pow_pos m
  rw [l1In_eq, Option.bind_some, if_pos (by simp; omega), if_pos (u64_nonneg _), u64_of (by omega) (by omega), shl_one (by omega)]
  generalize 2 ^ m = q at *
  rw [wrap64_of (by omega) (by omega)]
  congr 1
  omega
theorem implFull_eq {m : Nat} (hm : m ≤ 8) : impl_FullSet.f (m : Int) = some ((fullN m : Nat) : Int) := by
  unfold impl_FullSet.f fullN
  have hp := pow_le_256 hm
  have h0 := Nat.two_pow_pos m
  rw [isSize_eq, Option.bind_some, if_pos (by simp; omega), if_pos (by omega), shl_one (by omega)]
  generalize 2 ^ m = q at *
  rw [wrap64_of (by omega) (by omega)]
  congr 1
  omega

end Go.Proofs.Ytagncnjllpebjaa.Q

namespace Go.Proofs.Ytagncnjllpebjaa.Q
open Go Go.RowKit Go.Proofs.YtagncnjllpebjaaW.PrintWords Go.Proofs.YtagncnjllpebjaaW.PrintLast Go.Proofs.YtagncnjllpebjaaW.PrintMore Go.Proofs.Ytagncnjllpebjaa.Z
set_option linter.unusedVariables false
set_option linter.unusedSimpArgs false

theorem rk_ge {L : List Nat} {b : Nat} (hb : b ∈ L) (s : Nat) : pc (b &&& s) ≤ rkN L s := maxN_mem _ 0 _ (List.mem_map.2 ⟨b, hb, rfl⟩)
theorem rk_attain {L : List Nat} (hne : L ≠ []) (s : Nat) : ∃ b ∈ L, pc (b &&& s) = rkN L s := by
  rcases maxN_cases (L.map (fun b => pc (b &&& s))) 0 with h | h
  · obtain ⟨b, hb⟩ := List.exists_mem_of_ne_nil L hne
    have := rk_ge hb s
    refine ⟨b, hb, ?_⟩
    unfold rkN at this ⊢
    omega
  · obtain ⟨b, hb, e⟩ := List.mem_map.1 h
    exact ⟨b, hb, e⟩
theorem rk_mono {L : List Nat} (hne : L ≠ []) {X Y : Nat} (h : ∀ i, X.testBit i = true → Y.testBit i = true) : rkN L X ≤ rkN L Y := by
  obtain ⟨b, hb, e⟩ := rk_attain hne X
  rw [← e]
  refine Nat.le_trans (pc_mono fun i _ hi => ?_) (rk_ge hb Y)
  rw [Nat.testBit_and, Bool.and_eq_true] at hi ⊢
  exact ⟨hi.1, h i hi.2⟩
theorem Mat.both_step {m : Nat} {L : List Nat} (h : Mat m L) {S T c : Nat} (hST : ∀ i, S.testBit i = true → T.testBit i = true) (hc : c ∈ L) (hcT : pc (c &&& T) = rkN L T) : ∀ (d b : Nat), b ∈ L → pc (b &&& S) = rkN L S → pc (dif b c) = d → ∃ b ∈ L, pc (b &&& S) = rkN L S ∧ pc (b &&& T) = rkN L T := by
  intro d
  induction d with
  | zero =>
    intro b hb hS hd
    refine ⟨b, hb, hS, Nat.le_antisymm (rk_ge hb T) ?_⟩
    rw [← hcT]
    have hcard := h.card hb hc
    refine pc_mono fun i hi hbi => ?_
    rw [Nat.testBit_and, Bool.and_eq_true] at hbi ⊢
    refine ⟨?_, hbi.2⟩
    cases hb' : b.testBit i
    · have h1 : pc b < pc c := by
        have e1 := pc_dif_and c (2 ^ i)
        have hle : pc b ≤ pc (dif c (2 ^ i)) := pc_mono fun j hj hbj => by
          rw [del_bit]
          have : c.testBit j = true := by
            cases hcj : c.testBit j
            · have : 0 < pc (dif b c) := pc_pos hj (by rw [dif_bit, hbj, hcj]; rfl)
              omega
            · rfl
          rw [this]
          have hne : ¬ i = j := by rintro rfl; rw [hb'] at hbj; cases hbj
          simp [hne]
        have := pc_del hi hbi.1
        omega
      omega
    · rfl
  | succ d ih =>
    intro b hb hS hd
    by_cases hT : pc (b &&& T) = rkN L T
    · exact ⟨b, hb, hS, hT⟩
    · have hlt : pc (b &&& T) < pc (c &&& T) := by
        have := rk_ge hb T
        omega
      have hcard := h.card hb hc
      have e1 := pc_dif_and b T
      have e2 := pc_dif_and c T
      obtain ⟨e, he, hbe, hce⟩ := exists_new (a := dif c T) (b := dif b T) (by omega)
      rw [dif_bit, Bool.and_eq_true, Bool.not_eq_true'] at hbe
      have hce' : c.testBit e = false := by
        rw [dif_bit, hbe.2] at hce
        simpa using hce
      obtain ⟨f, hf, h1, h2, hm⟩ := h.exch b hb c hc e he hbe.1 hce'
      refine ih (swp b e f) hm ?_ ?_
      · refine Nat.le_antisymm (rk_ge hm S) ?_
        rw [← hS]
        refine pc_mono fun i _ hi => ?_
        rw [Nat.testBit_and, Bool.and_eq_true] at hi ⊢
        refine ⟨?_, hi.2⟩
        have hie : ¬ e = i := by rintro rfl; have := hST _ hi.2; rw [hbe.2] at this; cases this
        rw [swp_bit, hi.1]
        simp [hie]
      · have e3 : dif (swp b e f) c = dif (dif b c) (2 ^ e) := by
          apply Nat.eq_of_testBit_eq
          intro i
          rw [dif_bit, swp_bit, del_bit, dif_bit]
          by_cases hi : f = i
          · subst hi; rw [h1, h2]; simp
          · simp [hi]
            cases b.testBit i <;> cases c.testBit i <;> simp
        rw [e3]
        have := pc_del (a := dif b c) he (by rw [dif_bit, hbe.1, hce']; rfl)
        omega
theorem Mat.both {m : Nat} {L : List Nat} (h : Mat m L) {S T : Nat} (hST : ∀ i, S.testBit i = true → T.testBit i = true) : ∃ b ∈ L, pc (b &&& S) = rkN L S ∧ pc (b &&& T) = rkN L T := by
  obtain ⟨c, hc, hcT⟩ := rk_attain h.some T
  obtain ⟨b, hb, hbS⟩ := rk_attain h.some S
  exact Mat.both_step h hST hc hcT _ b hb hbS rfl
theorem Mat.rk_sub {m : Nat} {L : List Nat} (h : Mat m L) (X Y : Nat) : rkN L (X ||| Y) + rkN L (X &&& Y) ≤ rkN L X + rkN L Y := by
  obtain ⟨b, hb, h1, h2⟩ := Mat.both h (S := X &&& Y) (T := X ||| Y) (fun i hi => by rw [Nat.testBit_and, Bool.and_eq_true] at hi; rw [Nat.testBit_or, hi.1]; rfl)
  have e := pc_or_and (b &&& X) (b &&& Y)
  have e1 : (b &&& X) ||| (b &&& Y) = b &&& (X ||| Y) := by
    apply Nat.eq_of_testBit_eq
    intro i
    simp only [Nat.testBit_or, Nat.testBit_and]
    cases b.testBit i <;> cases X.testBit i <;> cases Y.testBit i <;> rfl
  have e2 : (b &&& X) &&& (b &&& Y) = b &&& (X &&& Y) := by
    apply Nat.eq_of_testBit_eq
    intro i
    simp only [Nat.testBit_and]
    cases b.testBit i <;> cases X.testBit i <;> cases Y.testBit i <;> rfl
  rw [e1, e2, h1, h2] at e
  have k1 := rk_ge hb X
  have k2 := rk_ge hb Y
  omega
theorem bit_out {m A i : Nat} (h : A < 2 ^ m) (hi : m ≤ i) : A.testBit i = false := Nat.testBit_lt_two_pow (Nat.lt_of_lt_of_le h (Nat.pow_le_pow_right (by omega) hi))
end Go.Proofs.Ytagncnjllpebjaa.Q

namespace Go.Proofs.Ytagncnjllpebjaa.Q
open Go Go.RowKit Go.Proofs.YtagncnjllpebjaaW.PrintWords Go.Proofs.YtagncnjllpebjaaW.PrintLast Go.Proofs.YtagncnjllpebjaaW.PrintMore Go.Proofs.Ytagncnjllpebjaa.Z
set_option linter.unusedVariables false
set_option linter.unusedSimpArgs false

theorem or_ltP {m a b : Nat} (ha : a < 2 ^ m) (hb : b < 2 ^ m) : a ||| b < 2 ^ m := Nat.or_lt_two_pow ha hb
theorem bit_lt {m s i : Nat} (hs : s < 2 ^ m) (h : s.testBit i = true) : i < m := by
  refine Classical.byContradiction fun hc => ?_
  rw [bit_out hs (by omega)] at h; cases h
theorem pow_lt_of {m i : Nat} (h : i < m) : 2 ^ i < 2 ^ m := Nat.pow_lt_pow_right (by omega) h
/-- Sets of m elements, closed downward, and a smaller one can be filled up from a greater one. -/
structure Ind (m : Nat) (I : Nat → Prop) : Prop where
  size : m ≤ 8
  sets : ∀ s, I s → s < 2 ^ m
  zero : I 0
  down : ∀ s t, I t → subN s t → I s
  aug : ∀ a b, I a → I b → pc a < pc b → ∃ e, e < 8 ∧ b.testBit e = true ∧ a.testBit e = false ∧ I (a ||| 2 ^ e)
def orL (a : Nat) : List Nat → Nat
  | [] => a
  | e :: es => orL a es ||| 2 ^ e
theorem orL_bit (a i : Nat) : ∀ es : List Nat, (orL a es).testBit i = (a.testBit i || decide (i ∈ es)) := by
  intro es
  induction es with
  | nil => simp [orL]
  | cons e es ih =>
    simp only [orL]
    rw [add_bit, ih]
    by_cases h : e = i
    · subst h; simp
    · have : ¬ i = e := fun x => h x.symm
      simp [h, this]
theorem Mat.aug {m : Nat} {L : List Nat} (h : Mat m L) {a b : Nat} (ha : indN L a = true) (hb : indN L b = true) (hlt : pc a < pc b) : ∃ e, e < 8 ∧ b.testBit e = true ∧ a.testBit e = false ∧ indN L (a ||| 2 ^ e) = true := by
  refine Classical.byContradiction fun hc => ?_
  have hlt256 : ∀ s, indN L s = true → s < 256 := fun s hs => by
    obtain ⟨x, hx, hsub⟩ := indN_iff.1 hs
    exact Nat.lt_of_le_of_lt (subN_le hsub) (h.lt x hx)
  have ra := (rk_eq_iff (hlt256 a ha) h.some).2 ha
  have rb := (rk_eq_iff (hlt256 b hb) h.some).2 hb
  have h1 : ∀ e, e < 8 → b.testBit e = true → rkN L (a ||| 2 ^ e) ≤ rkN L a := by
    intro e he hbe
    cases hae : a.testBit e
    · have hn : ¬ indN L (a ||| 2 ^ e) = true := fun x => hc ⟨e, he, hbe, hae, x⟩
      have hl : a ||| 2 ^ e < 256 := Nat.or_lt_two_pow (n := 8) (hlt256 a ha) (pow_lt_of he)
      have hne := mt (rk_eq_iff hl h.some).1 hn
      have hle := rkN_le L (a ||| 2 ^ e)
      rw [pc_add he hae] at hle hne
      omega
    · refine rk_mono h.some fun i hi => ?_
      rw [add_bit, Bool.or_eq_true] at hi
      rcases hi with hi | hi
      · exact hi
      · rw [← of_decide_eq_true hi]; exact hae
  have h2 : ∀ es : List Nat, (∀ e ∈ es, e < 8 ∧ b.testBit e = true) → rkN L (orL a es) ≤ rkN L a := by
    intro es
    induction es with
    | nil => intro _; exact Nat.le_refl _
    | cons e es ih =>
      intro hes
      have ih' := ih (fun x hx => hes x (List.mem_cons_of_mem _ hx))
      have he := hes e (List.mem_cons_self ..)
      have hs := Mat.rk_sub h (orL a es) (a ||| 2 ^ e)
      have k1 : rkN L a ≤ rkN L (orL a es &&& (a ||| 2 ^ e)) := rk_mono h.some fun i hi => by
        rw [Nat.testBit_and, orL_bit, add_bit, hi]; rfl
      have k2 : rkN L (orL a es ||| 2 ^ e) ≤ rkN L (orL a es ||| (a ||| 2 ^ e)) := rk_mono h.some fun i hi => by
        rw [Nat.testBit_or, Bool.or_eq_true] at hi ⊢
        rcases hi with hi | hi
        · exact .inl hi
        · right; rw [Nat.testBit_or, hi, Bool.or_true]
      have k3 := h1 e he.1 he.2
      simp only [orL]
      omega
  have h3 := h2 (els b) (fun e he => mem_els.1 he)
  have h4 : rkN L b ≤ rkN L (orL a (els b)) := rk_mono h.some fun i hi => by
    rw [orL_bit, Bool.or_eq_true]
    right
    refine decide_eq_true (mem_els.2 ⟨?_, hi⟩)
    refine Classical.byContradiction fun hc => ?_
    rw [bit_ge (hlt256 b hb) hc] at hi; cases hi
  omega
theorem Mat.ind {m : Nat} {L : List Nat} (h : Mat m L) : Ind m (fun s => indN L s = true) := by
  refine ⟨h.size, ?_, ?_, ?_, ?_⟩
  · intro s hs
    obtain ⟨x, hx, hsub⟩ := indN_iff.1 hs
    exact Nat.lt_of_le_of_lt (subN_le hsub) (h.sets x hx)
  · obtain ⟨x, hx⟩ := List.exists_mem_of_ne_nil L h.some
    exact indN_iff.2 ⟨x, hx, subN_zero x⟩
  · intro s t ht hst
    obtain ⟨x, hx, hsub⟩ := indN_iff.1 ht
    exact indN_iff.2 ⟨x, hx, subN_trans hst hsub⟩
  · intro a b ha hb hlt
    exact Mat.aug h ha hb hlt
variable {m : Nat} {I : Nat → Prop}
theorem Ind.lt (h : Ind m I) {s : Nat} (hs : I s) : s < 256 := Nat.lt_of_lt_of_le (h.sets s hs) (pow_le_256 h.size)
/-- The greatest size of an independent set. -/
theorem Ind.max (h : Ind m I) : ∃ r, (∃ b, I b ∧ pc b = r) ∧ ∀ s, I s → pc s ≤ r := by
  have key : ∀ d b, I b → 8 - pc b ≤ d → ∃ r, (∃ b, I b ∧ pc b = r) ∧ ∀ s, I s → pc s ≤ r := by
    intro d
    induction d with
    | zero =>
      intro b hb hd
      refine ⟨pc b, ⟨b, hb, rfl⟩, fun s _ => ?_⟩
      have := pc_le s
      have := pc_le b
      omega
    | succ d ih =>
      intro b hb hd
      by_cases hx : ∃ s, I s ∧ pc b < pc s
      · obtain ⟨s, hs, hlt⟩ := hx
        exact ih s hs (by omega)
      · refine ⟨pc b, ⟨b, hb, rfl⟩, fun s hs => ?_⟩
        have : ¬ pc b < pc s := fun hl => hx ⟨s, hs, hl⟩
        omega
  exact key 8 0 h.zero (by omega)
theorem Ind.mat (h : Ind m I) {L : List Nat} {r : Nat} (hL : ∀ b, b ∈ L ↔ I b ∧ pc b = r) (hne : ∃ b, I b ∧ pc b = r) : Mat m L := by
  refine ⟨h.size, fun b hb => h.sets b ((hL b).1 hb).1, ?_, ?_⟩
  · obtain ⟨b, hb⟩ := hne
    intro e
    have := (hL b).2 hb
    rw [e] at this; simp at this
  · intro a ha b hb e he hae hbe
    obtain ⟨ia, pa⟩ := (hL a).1 ha
    obtain ⟨ib, pb⟩ := (hL b).1 hb
    have hd := pc_del he hae
    obtain ⟨f, hf, h1, h2, h3⟩ := h.aug (dif a (2 ^ e)) b (h.down _ a ia (subN_bit.2 fun i hi => by
      rw [dif_bit, Bool.and_eq_true] at hi; exact hi.1)) ib (by omega)
    have hfe : ¬ e = f := by rintro rfl; rw [hbe] at h1; cases h1
    have haf : a.testBit f = false := by
      rw [del_bit] at h2
      simpa [hfe] using h2
    refine ⟨f, hf, h1, haf, (hL _).2 ⟨h3, ?_⟩⟩
    rw [pc_swp he hf hae haf]; exact pa
/-- The independent sets are those within its bases. -/
theorem Ind.indN_iff (h : Ind m I) {L : List Nat} {r : Nat} (hL : ∀ b, b ∈ L ↔ I b ∧ pc b = r) (hne : ∃ b, I b ∧ pc b = r) (hmax : ∀ s, I s → pc s ≤ r) (s : Nat) : indN L s = true ↔ I s := by
  constructor
  · intro hs
    obtain ⟨x, hx, hsub⟩ := Z.indN_iff.1 hs
    exact h.down s x ((hL x).1 hx).1 hsub
  · obtain ⟨b, ib, pb⟩ := hne
    have key : ∀ d s, I s → r - pc s ≤ d → ∃ x, x ∈ L ∧ subN s x := by
      intro d
      induction d with
      | zero =>
        intro s hs hd
        have := hmax s hs
        exact ⟨s, (hL s).2 ⟨hs, by omega⟩, subN_refl s⟩
      | succ d ih =>
        intro s hs hd
        by_cases he : pc s = r
        · exact ⟨s, (hL s).2 ⟨hs, he⟩, subN_refl s⟩
        · have := hmax s hs
          obtain ⟨e, he8, h1, h2, h3⟩ := h.aug s b hs ib (by omega)
          obtain ⟨x, hx, hsub⟩ := ih _ h3 (by rw [pc_add he8 h2]; omega)
          refine ⟨x, hx, subN_trans (subN_bit.2 fun i hi => ?_) hsub⟩
          rw [add_bit, hi, Bool.true_or]
    intro hs
    obtain ⟨x, hx, hsub⟩ := key _ s hs (Nat.le_refl _)
    exact Z.indN_iff.2 ⟨x, hx, hsub⟩
theorem pc_or_disj {x y : Nat} (h : x &&& y = 0) : pc (x ||| y) = pc x + pc y := by
  have := pc_or_and x y
  rw [h, pc_zero] at this
  omega
theorem disj_bit {x y i : Nat} (h : x &&& y = 0) (hx : x.testBit i = true) : y.testBit i = false := by
  have := congrArg (fun z => Nat.testBit z i) h
  simp only [Nat.testBit_and, hx, Bool.true_and, Nat.zero_testBit] at this
  exact this
/-- Unions of an independent set of one kind and one of another. -/
def Uni (I J : Nat → Prop) (s : Nat) : Prop := ∃ x y, I x ∧ J y ∧ s = x ||| y
theorem Uni.disj {I J : Nat → Prop} (hJ : ∀ s t, J t → subN s t → J s) {s : Nat} (h : Uni I J s) : ∃ x y, I x ∧ J y ∧ s = x ||| y ∧ x &&& y = 0 := by
  obtain ⟨x, y, hx, hy, rfl⟩ := h
  refine ⟨x, dif y x, hx, hJ _ y hy (subN_bit.2 fun i hi => by rw [dif_bit, Bool.and_eq_true] at hi; exact hi.1), ?_, ?_⟩
  · apply Nat.eq_of_testBit_eq
    intro i
    rw [Nat.testBit_or, Nat.testBit_or, dif_bit]
    cases x.testBit i <;> cases y.testBit i <;> rfl
  · apply Nat.eq_of_testBit_eq
    intro i
    rw [Nat.testBit_and, dif_bit, Nat.zero_testBit]
    cases x.testBit i <;> cases y.testBit i <;> rfl
theorem union_step {I J : Nat → Prop} (hI : Ind m I) (hJ : Ind m J) {b1 b2 : Nat} (ib1 : I b1) (ib2 : J b2) (hb : b1 &&& b2 = 0) : ∀ (n a1 a2 : Nat), I a1 → J a2 → a1 &&& a2 = 0 → pc (a1 ||| a2) < pc (b1 ||| b2) → 16 ≤ n + (pc (a1 &&& b1) + pc (a2 &&& b2)) → ∃ e, e < 8 ∧ (b1 ||| b2).testBit e = true ∧ (a1 ||| a2).testBit e = false ∧ Uni I J ((a1 ||| a2) ||| 2 ^ e) := by
  intro n
  induction n with
  | zero =>
    intro a1 a2 i1 i2 hd hlt hn
    have k1 := pc_and_le b1 a1
    have k2 := pc_and_le b2 a2
    rw [Nat.and_comm] at k1 k2
    have := pc_or_disj hd
    have := pc_or_disj hb
    have h8 := pc_le (b1 ||| b2)
    omega
  | succ n ih =>
    intro a1 a2 i1 i2 hd hlt hn
    have ea := pc_or_disj hd
    have eb := pc_or_disj hb
    by_cases hc : pc a1 < pc b1
    · obtain ⟨e, he, h1, h2, h3⟩ := hI.aug a1 b1 i1 ib1 hc
      cases h4 : a2.testBit e
      · refine ⟨e, he, by rw [Nat.testBit_or, h1, Bool.true_or], by rw [Nat.testBit_or, h2, h4]; rfl, a1 ||| 2 ^ e, a2, h3, i2, ?_⟩
        apply Nat.eq_of_testBit_eq
        intro i
        simp only [Nat.testBit_or]
        cases a1.testBit i <;> cases a2.testBit i <;> cases (2 ^ e).testBit i <;> rfl
      · have eu : (a1 ||| 2 ^ e) ||| dif a2 (2 ^ e) = a1 ||| a2 := by
          apply Nat.eq_of_testBit_eq
          intro i
          rw [Nat.testBit_or, add_bit, del_bit, Nat.testBit_or]
          by_cases hi : e = i
          · subst hi; rw [h4]; simp
          · simp [hi]
        have := ih (a1 ||| 2 ^ e) (dif a2 (2 ^ e)) h3 (hJ.down _ a2 i2 (subN_bit.2 fun i hi => by rw [del_bit, Bool.and_eq_true] at hi; exact hi.1)) (by
            apply Nat.eq_of_testBit_eq
            intro i
            rw [Nat.testBit_and, add_bit, del_bit, Nat.zero_testBit]
            by_cases hi : e = i
            · subst hi; simp
            · have hx := congrArg (fun z => Nat.testBit z i) hd
              simp only [Nat.testBit_and, Nat.zero_testBit] at hx
              simp [hi, hx]) (by rw [eu]; exact hlt) (by
            have k1 : pc ((a1 ||| 2 ^ e) &&& b1) = pc (a1 &&& b1) + 1 := by
              rw [← pc_add (a := a1 &&& b1) he (by rw [Nat.testBit_and, h2]; rfl)]
              congr 1
              apply Nat.eq_of_testBit_eq
              intro i
              rw [Nat.testBit_and, add_bit, add_bit, Nat.testBit_and]
              by_cases hi : e = i
              · subst hi; rw [h1]; simp
              · simp [hi]
            have k2 : dif a2 (2 ^ e) &&& b2 = a2 &&& b2 := by
              apply Nat.eq_of_testBit_eq
              intro i
              rw [Nat.testBit_and, del_bit, Nat.testBit_and]
              by_cases hi : e = i
              · subst hi; rw [disj_bit hb h1]; simp
              · simp [hi]
            rw [k1, k2]; omega)
        rw [eu] at this
        exact this
    · have hc2 : pc a2 < pc b2 := by omega
      obtain ⟨e, he, h1, h2, h3⟩ := hJ.aug a2 b2 i2 ib2 hc2
      have hb' : b2 &&& b1 = 0 := by rw [Nat.and_comm]; exact hb
      cases h4 : a1.testBit e
      · refine ⟨e, he, by rw [Nat.testBit_or, h1, Bool.or_true], by rw [Nat.testBit_or, h2, h4]; rfl, a1, a2 ||| 2 ^ e, i1, h3, ?_⟩
        apply Nat.eq_of_testBit_eq
        intro i
        simp only [Nat.testBit_or]
        cases a1.testBit i <;> cases a2.testBit i <;> cases (2 ^ e).testBit i <;> rfl
      · have eu : dif a1 (2 ^ e) ||| (a2 ||| 2 ^ e) = a1 ||| a2 := by
          apply Nat.eq_of_testBit_eq
          intro i
          rw [Nat.testBit_or, add_bit, del_bit, Nat.testBit_or]
          by_cases hi : e = i
          · subst hi; rw [h4]; simp
          · simp [hi]
        have := ih (dif a1 (2 ^ e)) (a2 ||| 2 ^ e) (hI.down _ a1 i1 (subN_bit.2 fun i hi => by rw [del_bit, Bool.and_eq_true] at hi; exact hi.1)) h3 (by
            apply Nat.eq_of_testBit_eq
            intro i
            rw [Nat.testBit_and, add_bit, del_bit, Nat.zero_testBit]
            by_cases hi : e = i
            · subst hi; simp
            · have hx := congrArg (fun z => Nat.testBit z i) hd
              simp only [Nat.testBit_and, Nat.zero_testBit] at hx
              simp [hi, hx]) (by rw [eu]; exact hlt) (by
            have k1 : pc ((a2 ||| 2 ^ e) &&& b2) = pc (a2 &&& b2) + 1 := by
              rw [← pc_add (a := a2 &&& b2) he (by rw [Nat.testBit_and, h2]; rfl)]
              congr 1
              apply Nat.eq_of_testBit_eq
              intro i
              rw [Nat.testBit_and, add_bit, add_bit, Nat.testBit_and]
              by_cases hi : e = i
              · subst hi; rw [h1]; simp
              · simp [hi]
            have k2 : dif a1 (2 ^ e) &&& b1 = a1 &&& b1 := by
              apply Nat.eq_of_testBit_eq
              intro i
              rw [Nat.testBit_and, del_bit, Nat.testBit_and]
              by_cases hi : e = i
              · subst hi; rw [disj_bit hb' h1]; simp
              · simp [hi]
            rw [k1, k2]; omega)
        rw [eu] at this
        exact this
theorem Ind.union {I J : Nat → Prop} (hI : Ind m I) (hJ : Ind m J) : Ind m (Uni I J) := by
  refine ⟨hI.size, ?_, ?_, ?_, ?_⟩
  · rintro s ⟨x, y, hx, hy, rfl⟩
    exact or_ltP (hI.sets x hx) (hJ.sets y hy)
  · exact ⟨0, 0, hI.zero, hJ.zero, rfl⟩
  · rintro s t ⟨x, y, hx, hy, rfl⟩ hst
    refine ⟨x &&& s, y &&& s, hI.down _ x hx (subN_bit.2 fun i hi => by rw [Nat.testBit_and, Bool.and_eq_true] at hi; exact hi.1), hJ.down _ y hy (subN_bit.2 fun i hi => by rw [Nat.testBit_and, Bool.and_eq_true] at hi; exact hi.1), ?_⟩
    apply Nat.eq_of_testBit_eq
    intro i
    have h1 := subN_bit.1 hst i
    rw [Nat.testBit_or] at h1
    rw [Nat.testBit_or, Nat.testBit_and, Nat.testBit_and]
    cases hs : s.testBit i
    · simp
    · rw [hs] at h1; simpa using (h1 rfl).symm
  · intro a b ha hb hlt
    obtain ⟨a1, a2, i1, i2, rfl, hd⟩ := Uni.disj hJ.down ha
    obtain ⟨b1, b2, j1, j2, rfl, hd'⟩ := Uni.disj hJ.down hb
    exact union_step hI hJ j1 j2 hd' 16 a1 a2 i1 i2 hd hlt (by omega)
/-- At most one element, and of S. -/
def One (S s : Nat) : Prop := s = 0 ∨ ∃ e, e < 8 ∧ S.testBit e = true ∧ s = 2 ^ e
theorem Ind.one {S : Nat} (hm : m ≤ 8) (hS : S < 2 ^ m) : Ind m (One S) := by
  refine ⟨hm, ?_, .inl rfl, ?_, ?_⟩
  · rintro s (rfl | ⟨e, he, h1, rfl⟩)
    · exact Nat.two_pow_pos _
    · exact pow_lt_of (bit_lt hS h1)
  · rintro s t (rfl | ⟨e, he, h1, rfl⟩) hst
    · left
      have := subN_le hst
      omega
    · cases hb : s.testBit e
      · left
        apply Nat.eq_of_testBit_eq
        intro i
        rw [Nat.zero_testBit]
        cases hi : s.testBit i
        · rfl
        · have := subN_bit.1 hst i hi
          rw [Nat.testBit_two_pow] at this
          rw [of_decide_eq_true this, hi] at hb; cases hb
      · right
        refine ⟨e, he, h1, ?_⟩
        apply Nat.eq_of_testBit_eq
        intro i
        rw [Nat.testBit_two_pow]
        by_cases hi : e = i
        · subst hi; rw [hb]; simp
        · rw [decide_eq_false hi]
          cases hs : s.testBit i
          · rfl
          · have := subN_bit.1 hst i hs
            rw [Nat.testBit_two_pow] at this
            exact absurd (of_decide_eq_true this) hi
  · rintro a b (rfl | ⟨e, he, h1, rfl⟩) hb hlt
    · rcases hb with rfl | ⟨f, hf, h2, rfl⟩
      · omega
      · exact ⟨f, hf, by rw [Nat.testBit_two_pow]; simp, Nat.zero_testBit _, by rw [Nat.zero_or]; exact .inr ⟨f, hf, h2, rfl⟩⟩
    · rw [pc_pow he] at hlt
      rcases hb with rfl | ⟨f, hf, h2, rfl⟩
      · rw [pc_zero] at hlt; omega
      · rw [pc_pow hf] at hlt; omega
end Go.Proofs.Ytagncnjllpebjaa.Q

namespace Go.Proofs.Ytagncnjllpebjaa.Q
open Go Go.RowKit Go.Proofs.YtagncnjllpebjaaW.PrintWords Go.Proofs.YtagncnjllpebjaaW.PrintLast Go.Proofs.YtagncnjllpebjaaW.PrintMore Go.Proofs.Ytagncnjllpebjaa.Z
set_option linter.unusedVariables false
set_option linter.unusedSimpArgs false

theorem failE_none {l : List Int} {a b : Nat} : ∀ {es : List Nat}, failE l a b es = none → ∀ e ∈ es, hasEx l a b e = true := by
  intro es
  induction es with
  | nil => intro _ e he; simp at he
  | cons x es ih =>
    intro h e he
    simp only [failE] at h
    by_cases hx : hasEx l a b x = true
    · rw [if_pos hx] at h
      rcases List.mem_cons.1 he with rfl | he
      · exact hx
      · exact ih h e he
    · rw [if_neg hx] at h; cases h
theorem failB_none {l : List Int} {a : Nat} : ∀ {bs : List Nat}, failB l a bs = none → ∀ b ∈ bs, failE l a b (els (dif a b)) = none := by
  intro bs
  induction bs with
  | nil => intro _ e he; simp at he
  | cons x bs ih =>
    intro h b hb
    simp only [failB] at h
    cases hx : failE l a x (els (dif a x)) with
    | none =>
      rw [hx] at h
      rcases List.mem_cons.1 hb with rfl | hb
      · exact hx
      · exact ih h b hb
    | some e => rw [hx] at h; cases h
theorem failA_none {l : List Int} {L : List Nat} : ∀ {la : List Nat}, failA l L la = none → ∀ a ∈ la, failB l a L = none := by
  intro la
  induction la with
  | nil => intro _ e he; simp at he
  | cons x la ih =>
    intro h b hb
    simp only [failA] at h
    cases hx : failB l x L with
    | none =>
      rw [hx] at h
      rcases List.mem_cons.1 hb with rfl | hb
      · exact hx
      · exact ih h b hb
    | some e => rw [hx] at h; cases h
theorem ints_mem {L : List Nat} {x : Nat} : (ints L).contains (x : Int) = true ↔ x ∈ L := by
  rw [List.contains_iff_mem]
  unfold ints
  rw [List.mem_map]
  constructor
  · rintro ⟨y, hy, he⟩
    have : y = x := by omega
    subst this; exact hy
  · intro h; exact ⟨x, h, rfl⟩
/-- What IsMatroid tells is a matroid. -/
theorem matB_mat {n : Int} {l : List Int} (h : matB n l = true) : ∃ (m : Nat) (L : List Nat), n = m ∧ l = ints L ∧ Mat m L ∧ L.Pairwise (· < ·) := by
  have h0 := h
  obtain ⟨m, L, rfl, hm, rfl, hL, hL256, hp, hne⟩ := matB_nat h
  refine ⟨m, L, rfl, rfl, ⟨hm, hL, hne, ?_⟩, hp⟩
  simp only [matB, Bool.and_eq_true] at h0
  obtain ⟨hf, _, hff⟩ := h0
  unfold failT at hff
  rw [if_pos hf, show (ints L).map Int.toNat = L from toNat_map L] at hff
  cases hA : failA (ints L) L L with
  | some x => rw [hA] at hff; simp [told] at hff
  | none =>
    intro a ha b hb e he hae hbe
    have h1 := failE_none (failB_none (failA_none hA a ha) b hb) e (mem_els.2 ⟨he, by rw [dif_bit, hae, hbe]; rfl⟩)
    unfold hasEx at h1
    obtain ⟨f, hf', hc⟩ := List.any_eq_true.1 h1
    obtain ⟨hf8, hfb⟩ := mem_els.1 hf'
    rw [dif_bit] at hfb
    simp only [Bool.and_eq_true, Bool.not_eq_true'] at hfb
    exact ⟨f, hf8, hfb.1, hfb.2, ints_mem.1 hc⟩
/-- And every matroid, listed in order, is told. -/
theorem mat_matB {m : Nat} {L : List Nat} (h : Mat m L) (hp : L.Pairwise (· < ·)) : matB (m : Int) (ints L) = true := by
  have hfam : ∀ (L : List Nat) (p : Option Int), (∀ b ∈ L, b < 2 ^ m) → L.Pairwise (· < ·) → (∀ q, p = some q → ∀ b ∈ L, q < (b : Int)) → famG (m : Int) p (ints L) = true := by
    intro L
    induction L with
    | nil =>
      intro p _ _ _
      have := h.size
      simp only [ints, List.map_nil, famG, Bool.and_eq_true, decide_eq_true_eq]
      omega
    | cons x L ih =>
      intro p hs hp hq
      have hx := hs x (List.mem_cons_self ..)
      rw [List.pairwise_cons] at hp
      simp only [ints, List.map_cons, famG, Bool.and_eq_true]
      refine ⟨?_, ?_, ih (some (x : Int)) (fun b hb => hs b (List.mem_cons_of_mem _ hb)) hp.2 (fun q hq b hb => ?_)⟩
      · rw [isSetB_nat]
        simp [h.size, hx]
      · cases p with
        | none => rfl
        | some q => simpa using hq q rfl x (List.mem_cons_self ..)
      · have := hp.1 b hb
        injection hq with hq
        omega
  have h1 : famB (m : Int) (ints L) = true := hfam L none h.sets hp (fun q hq => by cases hq)
  simp only [matB, Bool.and_eq_true]
  refine ⟨h1, ?_, ?_⟩
  · have : 0 < L.length := List.length_pos_iff.2 h.some
    rw [ints_len]
    exact decide_eq_true (by omega)
  · unfold failT
    rw [if_pos h1, show (ints L).map Int.toNat = L from toNat_map L]
    have hE : ∀ a ∈ L, ∀ b ∈ L, ∀ es : List Nat, (∀ e ∈ es, e ∈ els (dif a b)) → failE (ints L) a b es = none := by
      intro a ha b hb es
      induction es with
      | nil => intro _; rfl
      | cons e es ih =>
        intro hes
        simp only [failE]
        have he := mem_els.1 (hes e (List.mem_cons_self ..))
        rw [dif_bit] at he
        simp only [Bool.and_eq_true, Bool.not_eq_true'] at he
        obtain ⟨f, hf, h1, h2, h3⟩ := h.exch a ha b hb e he.1 he.2.1 he.2.2
        have : hasEx (ints L) a b e = true := by
          unfold hasEx
          rw [List.any_eq_true]
          exact ⟨f, mem_els.2 ⟨hf, by rw [dif_bit, h1, h2]; rfl⟩, ints_mem.2 h3⟩
        rw [if_pos this]
        exact ih (fun e' he' => hes e' (List.mem_cons_of_mem _ he'))
    have hB : ∀ a ∈ L, ∀ bs : List Nat, (∀ b ∈ bs, b ∈ L) → failB (ints L) a bs = none := by
      intro a ha bs
      induction bs with
      | nil => intro _; rfl
      | cons b bs ih =>
        intro hbs
        simp only [failB]
        rw [hE a ha b (hbs b (List.mem_cons_self ..)) _ (fun e he => he)]
        exact ih (fun b' hb' => hbs b' (List.mem_cons_of_mem _ hb'))
    have hA : ∀ la : List Nat, (∀ a ∈ la, a ∈ L) → failA (ints L) L la = none := by
      intro la
      induction la with
      | nil => intro _; rfl
      | cons a la ih =>
        intro hla
        simp only [failA]
        rw [hB a (hla a (List.mem_cons_self ..)) L (fun b hb => hb)]
        exact ih (fun a' ha' => hla a' (List.mem_cons_of_mem _ ha'))
    rw [hA L (fun a ha => ha)]
    rfl

end Go.Proofs.Ytagncnjllpebjaa.Q

namespace Go.Proofs.Ytagncnjllpebjaa.Q
open Go Go.RowKit Go.Proofs.YtagncnjllpebjaaW.PrintWords Go.Proofs.YtagncnjllpebjaaW.PrintLast Go.Proofs.YtagncnjllpebjaaW.PrintMore Go.Proofs.Ytagncnjllpebjaa.Z
set_option linter.unusedVariables false
set_option linter.unusedSimpArgs false

theorem ints_pair {L : List Nat} (h : L.Pairwise (· < ·)) : (ints L).Pairwise (· < ·) := by
  unfold ints
  rw [List.pairwise_map]
  exact h.imp (fun hab => by omega)
theorem sub_card {a b : Nat} (ha : a < 256) (hb : b < 256) (h : subN a b) (hc : pc b ≤ pc a) : a = b := by
  apply set_ext ha hb
  intro i hi
  cases hbi : b.testBit i
  · cases hai : a.testBit i
    · rfl
    · rw [subN_bit.1 h i hai] at hbi; cases hbi
  · cases hai : a.testBit i
    · have h1 : pc a ≤ pc (dif b (2 ^ i)) := pc_mono fun j _ hj => by
        rw [del_bit, subN_bit.1 h j hj]
        have : ¬ i = j := by rintro rfl; rw [hai] at hj; cases hj
        simp [this]
      have := pc_del hi hbi
      omega
    · rfl

end Go.Proofs.Ytagncnjllpebjaa.Q

namespace Go.Proofs.Ytagncnjllpebjaa.Q
open Go Go.RowKit Go.Proofs.YtagncnjllpebjaaW.PrintWords Go.Proofs.YtagncnjllpebjaaW.PrintLast Go.Proofs.YtagncnjllpebjaaW.PrintMore Go.Proofs.Ytagncnjllpebjaa.Z
set_option linter.unusedVariables false
set_option linter.unusedSimpArgs false

variable {m : Nat} {I : Nat → Prop} {p : Nat → Bool}
theorem base_mem (hI : Ind m I) (hp : ∀ s, p s = true ↔ I s) {r : Nat} (b : Nat) : b ∈ (List.range (2 ^ m)).filter (fun s => p s && decide (pc s = r)) ↔ I b ∧ pc b = r := by
  rw [List.mem_filter, List.mem_range, Bool.and_eq_true, decide_eq_true_eq, hp]
  exact ⟨fun h => h.2, fun h => ⟨hI.sets b h.1, h⟩⟩
theorem base_mat (hI : Ind m I) (hp : ∀ s, p s = true ↔ I s) {r : Nat} (hex : ∃ b, I b ∧ pc b = r) : Mat m ((List.range (2 ^ m)).filter (fun s => p s && decide (pc s = r))) := hI.mat (base_mem hI hp) hex
end Go.Proofs.Ytagncnjllpebjaa.Q

namespace Go.Proofs.Ytagncnjllpebjaa.Q
open Go Go.RowKit Go.Proofs.YtagncnjllpebjaaW.PrintWords Go.Proofs.YtagncnjllpebjaaW.PrintLast Go.Proofs.YtagncnjllpebjaaW.PrintMore Go.Proofs.Ytagncnjllpebjaa.Z
set_option linter.unusedVariables false
set_option linter.unusedSimpArgs false

def UP (L : List Nat) : Nat → Nat → Prop
  | 0, s => s = 0
  | k + 1, s => Uni (UP L k) (fun y => indN L y = true) s
variable {m : Nat} {L : List Nat}
theorem Ind.nil (hm : m ≤ 8) : Ind m (fun s => s = 0) := by
  refine ⟨hm, ?_, rfl, ?_, ?_⟩
  · rintro s rfl; exact Nat.two_pow_pos _
  · rintro s t rfl h; have := subN_le h; omega
  · rintro a b rfl rfl h; omega
theorem Mat.up (h : Mat m L) : ∀ k, Ind m (UP L k) := by
  intro k
  induction k with
  | zero => exact Ind.nil h.size
  | succ k ih => exact ih.union (Mat.ind h)
def indL (m : Nat) (L : List Nat) : List Nat := (List.range (2 ^ m)).filter (indN L)
def uniL (m : Nat) (A B : List Nat) : List Nat := (List.range (2 ^ m)).filter (fun s => A.any (fun x => B.any (fun y => decide (x ||| y = s))))
def listN (m : Nat) (L : List Nat) : Nat → List Nat
  | 0 => [0]
  | k + 1 => uniL m (listN m L k) (indL m L)
theorem indL_mem (h : Mat m L) (s : Nat) : s ∈ indL m L ↔ indN L s = true := by
  unfold indL
  rw [List.mem_filter, List.mem_range]
  exact ⟨fun x => x.2, fun x => ⟨(Mat.ind h).sets s x, x⟩⟩
theorem listN_mem (h : Mat m L) : ∀ (k s : Nat), s ∈ listN m L k ↔ UP L k s := by
  intro k
  induction k with
  | zero => intro s; simp [listN, UP]
  | succ k ih =>
    intro s
    simp only [listN, uniL, UP]
    rw [List.mem_filter, List.mem_range, List.any_eq_true]
    constructor
    · rintro ⟨_, x, hx, hy⟩
      obtain ⟨y, hy, he⟩ := List.any_eq_true.1 hy
      exact ⟨x, y, (ih x).1 hx, (indL_mem h y).1 hy, (of_decide_eq_true he).symm⟩
    · intro hs
      refine ⟨((Mat.up h (k + 1)).sets s hs), ?_⟩
      obtain ⟨x, y, hx, hy, rfl⟩ := hs
      exact ⟨x, (ih x).2 hx, List.any_eq_true.2 ⟨y, (indL_mem h y).2 hy, decide_eq_true rfl⟩⟩
def urN (m : Nat) (L : List Nat) (k : Nat) : Nat := maxN 0 ((listN m L k).map pc)
theorem urN_max (h : Mat m L) (k : Nat) : ∀ s, UP L k s → pc s ≤ urN m L k := fun s hs => maxN_mem _ 0 _ (List.mem_map.2 ⟨s, (listN_mem h k s).2 hs, rfl⟩)
theorem urN_ex (h : Mat m L) (k : Nat) : ∃ s, UP L k s ∧ pc s = urN m L k := by
  rcases maxN_cases ((listN m L k).map pc) 0 with e | e
  · exact ⟨0, (Mat.up h k).zero, by rw [pc_zero]; exact e.symm⟩
  · obtain ⟨s, hs, he⟩ := List.mem_map.1 e
    exact ⟨s, (listN_mem h k s).1 hs, he⟩
def pairsN (A B : List Nat) : List Nat := A.flatMap (fun a => B.map (fun b => a ||| b))
theorem pairsN_mem (A B : List Nat) (s : Nat) : s ∈ pairsN A B ↔ ∃ a ∈ A, ∃ b ∈ B, a ||| b = s := by
  unfold pairsN
  rw [List.mem_flatMap]
  constructor
  · rintro ⟨a, ha, h⟩
    obtain ⟨b, hb, he⟩ := List.mem_map.1 h
    exact ⟨a, ha, b, hb, he⟩
  · rintro ⟨a, ha, b, hb, he⟩
    exact ⟨a, ha, List.mem_map.2 ⟨b, hb, he⟩⟩
theorem union_pairs {A : List Nat} {I : Nat → Prop} {r : Nat} (hA : Mat m A) (hL : Mat m L) (hI : ∀ s, indN A s = true ↔ I s) (hex : ∃ s, Uni I (fun y => indN L y = true) s ∧ pc s = r) (hmax : ∀ s, Uni I (fun y => indN L y = true) s → pc s ≤ r) :
    maxN 0 ((pairsN A L).map pc) = r ∧ ∀ s, (s ∈ pairsN A L ∧ pc s = r) ↔ (Uni I (fun y => indN L y = true) s ∧ pc s = r) := by
  have hp : ∀ s, s ∈ pairsN A L → Uni I (fun y => indN L y = true) s := by
    intro s hs
    obtain ⟨a, ha, b, hb, rfl⟩ := (pairsN_mem A L s).1 hs
    exact ⟨a, b, (hI a).1 (Z.indN_iff.2 ⟨a, ha, subN_refl a⟩), Z.indN_iff.2 ⟨b, hb, subN_refl b⟩, rfl⟩
  have hu : ∀ s, Uni I (fun y => indN L y = true) s → ∃ t, t ∈ pairsN A L ∧ subN s t := by
    rintro s ⟨x, y, hx, hy, rfl⟩
    obtain ⟨a, ha, hxa⟩ := Z.indN_iff.1 ((hI x).2 hx)
    obtain ⟨b, hb, hyb⟩ := Z.indN_iff.1 hy
    refine ⟨a ||| b, (pairsN_mem A L _).2 ⟨a, ha, b, hb, rfl⟩, subN_bit.2 fun i hi => ?_⟩
    rw [Nat.testBit_or, Bool.or_eq_true] at hi ⊢
    exact hi.imp (subN_bit.1 hxa i) (subN_bit.1 hyb i)
  have h256 : ∀ t, t ∈ pairsN A L → t < 256 := by
    intro t ht
    obtain ⟨a, ha, b, hb, rfl⟩ := (pairsN_mem A L t).1 ht
    exact Nat.or_lt_two_pow (n := 8) (hA.lt a ha) (hL.lt b hb)
  refine ⟨Nat.le_antisymm (maxN_le (Nat.zero_le _) fun x hx => ?_) ?_, fun s => ⟨fun h => ⟨hp s h.1, h.2⟩, fun h => ⟨?_, h.2⟩⟩⟩
  · obtain ⟨s, hs, rfl⟩ := List.mem_map.1 hx
    exact hmax s (hp s hs)
  · obtain ⟨s, hs, he⟩ := hex
    obtain ⟨t, ht, hst⟩ := hu s hs
    have h1 := maxN_mem ((pairsN A L).map pc) 0 (pc t) (List.mem_map.2 ⟨t, ht, rfl⟩)
    have h2 := pc_sub hst
    omega
  · obtain ⟨t, ht, hst⟩ := hu s h.1
    have h1 := hmax t (hp t ht)
    have h2 := h256 t ht
    rw [sub_card (Nat.lt_of_le_of_lt (subN_le hst) h2) h2 hst (by omega)]
    exact ht
/-- The bases of the k-fold union. -/
def timesN (m : Nat) (L : List Nat) (k : Nat) : List Nat := (List.range (2 ^ m)).filter (fun s => (listN m L k).contains s && decide (pc s = urN m L k))
theorem listN_contains (h : Mat m L) (k s : Nat) : (listN m L k).contains s = true ↔ UP L k s := by
  rw [List.contains_iff_mem]; exact listN_mem h k s
theorem times_mem (h : Mat m L) (k s : Nat) : s ∈ timesN m L k ↔ UP L k s ∧ pc s = urN m L k := base_mem (Mat.up h k) (listN_contains h k) s
theorem times_mat (h : Mat m L) (k : Nat) : Mat m (timesN m L k) := base_mat (Mat.up h k) (listN_contains h k) (urN_ex h k)
theorem times_ind (h : Mat m L) (k s : Nat) : indN (timesN m L k) s = true ↔ UP L k s := (Mat.up h k).indN_iff (times_mem h k) (urN_ex h k) (urN_max h k) s
theorem times_pair (k : Nat) : (timesN m L k).Pairwise (· < ·) := List.Pairwise.filter _ List.pairwise_lt_range
theorem times_succ (h : Mat m L) (k : Nat) : maxN 0 ((pairsN (timesN m L k) L).map pc) = urN m L (k + 1) ∧ ∀ s, (s ∈ pairsN (timesN m L k) L ∧ pc s = urN m L (k + 1)) ↔ s ∈ timesN m L (k + 1) := by
  obtain ⟨h1, h2⟩ := union_pairs (times_mat h k) h (times_ind h k) (urN_ex h (k + 1)) (urN_max h (k + 1))
  exact ⟨h1, fun s => (h2 s).trans (times_mem h (k + 1) s).symm⟩
theorem times_zero (hm : m ≤ 8) : timesN m L 0 = [0] := by
  have hz : urN m L 0 = 0 := by unfold urN listN; simp [maxN, pc_zero]
  unfold timesN
  rw [hz]
  have hp : 2 ^ m = (2 ^ m - 1) + 1 := by have := Nat.two_pow_pos m; omega
  rw [hp, List.range_succ_eq_map, List.filter_cons]
  rw [if_pos (by simp [listN, pc_zero])]
  congr 1
  rw [List.filter_eq_nil_iff]
  intro x hx
  obtain ⟨y, _, rfl⟩ := List.mem_map.1 hx
  simp [listN]
/-- Without loops enough unions hold everything. -/
theorem up_all (h : Mat m L) (hl : ∀ e, e < m → ∃ b ∈ L, b.testBit e = true) : ∀ k, k ≤ m → UP L k (fullN k) := by
  intro k
  induction k with
  | zero => intro _; rfl
  | succ k ih =>
    intro hk
    obtain ⟨b, hb, hbe⟩ := hl k (by omega)
    refine ⟨fullN k, 2 ^ k, ih (by omega), Z.indN_iff.2 ⟨b, hb, subN_bit.2 fun i hi => ?_⟩, ?_⟩
    · rw [Nat.testBit_two_pow] at hi
      rw [← of_decide_eq_true hi]; exact hbe
    · apply Nat.eq_of_testBit_eq
      intro i
      rw [add_bit, full_bit, full_bit, Bool.eq_iff_iff, Bool.or_eq_true, decide_eq_true_eq, decide_eq_true_eq, decide_eq_true_eq]
      omega

end Go.Proofs.Ytagncnjllpebjaa.Q

namespace Go.Proofs.Ytagncnjllpebjaa.Q
open Go Go.RowKit Go.Proofs.YtagncnjllpebjaaW.PrintWords Go.Proofs.YtagncnjllpebjaaW.PrintLast Go.Proofs.YtagncnjllpebjaaW.PrintMore Go.Proofs.Ytagncnjllpebjaa.Z
set_option linter.unusedVariables false
set_option linter.unusedSimpArgs false

theorem fromTo_full {m : Nat} : fromTo 0 ((fullN m : Nat) : Int) = ints (List.range (2 ^ m)) := by
  have := Nat.two_pow_pos m
  unfold fromTo ints fullN
  rw [List.range_eq_range', show (((2 ^ m - 1 : Nat) : Int) + 1).toNat - (0 : Int).toNat = 2 ^ m from by omega]
  rfl
/-- What the program's setsOf computes. -/
theorem setsOf_ev {m : Nat} (hm : m ≤ 8) {g : Nat → Int → Option Bool} {p : Nat → Bool} (h : ∀ t : Nat, t < 2 ^ m → Ev (fun k => g k (t : Int)) (p t)) : Ev (fun k => setsO (g k) ((fullN m : Nat) : Int)) (ints ((List.range (2 ^ m)).filter p)) := by
  unfold setsO
  rw [fromTo_full]
  have hf : (ints (List.range (2 ^ m))).filter (fun x : Int => p x.toNat) = ints ((List.range (2 ^ m)).filter p) := by
    unfold ints
    rw [List.filter_map]
    congr 1
  rw [← hf]
  refine Ev_filterO (p := fun x : Int => p x.toNat) ?_
  intro x hx
  obtain ⟨t, ht, rfl⟩ := List.mem_map.1 hx
  rw [Int.toNat_natCast]
  exact h t (List.mem_range.1 ht)
theorem full_small {m : Nat} (hm : m ≤ 8) : 0 ≤ ((fullN m : Nat) : Int) ∧ ((fullN m : Nat) : Int) ≤ 1000 := by
  have := (full_lt hm).2
  omega

end Go.Proofs.Ytagncnjllpebjaa.Q

namespace Go.Proofs.Ytagncnjllpebjaa.Q
open Go Go.RowKit Go.Proofs.Ytagncnjllpebjaa.A Go.Proofs.YtagncnjllpebjaaW.PrintWords Go.Proofs.YtagncnjllpebjaaW.PrintLast Go.Proofs.YtagncnjllpebjaaW.PrintMore Go.Proofs.Ytagncnjllpebjaa.Z
set_option linter.unusedVariables false
set_option linter.unusedSimpArgs false

theorem pow_wrap {e : Nat} (he : e < 8) : IntKind.i64.wrap (2 ^ e) = ((2 ^ e : Nat) : Int) := by
  have h2 : (2 ^ e : Nat) < 9223372036854775808 := by
    have := Nat.pow_lt_pow_right (a := 2) (by decide) (show e < 63 by omega)
    simpa using this
  have h3 : (2 : Int) ^ e = ((2 ^ e : Nat) : Int) := by simp
  rw [h3]
  exact i64_wrap_nat h2
theorem implC_ev (l : List Int) (hl : l.length ≤ 17592186044416) (a e f : Nat) (ha : a < 256) (he : e < 8) (hf : f < 8) : Ev (fun k => impl_FirstFailure.c k l (a : Int) (e : Int) (f : Int)) (l.contains ((dif a (2 ^ e) ||| 2 ^ f : Nat) : Int)) := by
  unfold impl_FirstFailure.c impl_HasSet.f
  refine Ev.ifp (by omega) (Ev.ifp (by omega) ?_)
  have hp : ∀ x < 8, 2 ^ x < 2 ^ 63 := fun x hx => Nat.pow_lt_pow_right (by decide) (by omega)
  rw [Int.toNat_natCast, Int.toNat_natCast, pow_wrap he, pow_wrap hf, andNot_nat (lt256_63 ha) (hp e he), or_nat (lt256_63 (dif_lt ha)) (hp f hf)]
  exact Ev.bind (contains_ev l _ hl) (Ev.now _)
theorem els_lt {s e : Nat} (h : e ∈ els s) : e < 8 := (mem_els.1 h).1
theorem any_map (p : Int → Bool) (L : List Nat) : (L.map (fun x : Nat => (x : Int))).any p = L.any (fun x => p (x : Int)) := by
  rw [List.any_map]; rfl
theorem implFail_l2 (l : List Int) (hl : l.length ≤ 17592186044416) (a b : Nat) (ha : a < 256) (hb : b < 256) : ∀ es : List Nat, (∀ e ∈ es, e < 8) → Ev (fun k => impl_FirstFailure.l2 k l (a : Int) (b : Int) (es.map (fun x : Nat => (x : Int)))) ((failE l a b es).map (fun x : Nat => (x : Int))) := by
  intro es
  induction es with
  | nil => intro _; exact Ev.now _
  | cons e es ih =>
    intro hm
    have he := hm e (List.mem_cons_self ..)
    simp only [List.map_cons, impl_FirstFailure.l2]
    rw [andNot_nat (lt256_63 hb) (lt256_63 ha)]
    refine Ev.bind (implElements_ev _) ?_
    rw [elsB_nat (dif_lt hb)]
    refine Ev.bind (a := hasEx l a b e) ?_ ?_
    · have h := Ev_anyO (g := fun k f => impl_FirstFailure.c k l (a : Int) (e : Int) f) (p := fun f => l.contains ((dif a (2 ^ e) ||| 2 ^ f.toNat : Nat) : Int)) (l := (els (dif b a)).map (fun x : Nat => (x : Int)))
        (fun x hx => by
          obtain ⟨f, hf, rfl⟩ := List.mem_map.1 hx
          have := implC_ev l hl a e f ha he (els_lt hf)
          rw [Int.toNat_natCast]
          exact this)
      rw [any_map] at h
      simp only [Int.toNat_natCast] at h
      exact h
    · simp only [failE]
      by_cases hx : hasEx l a b e = true
      · refine Ev.ifp hx ?_
        rw [if_pos hx]
        exact ih (fun e' he' => hm e' (List.mem_cons_of_mem _ he'))
      · refine Ev.ifn hx ?_
        rw [if_neg hx]
        exact Ev.now _
theorem implFail_l1 (l : List Int) (hl : l.length ≤ 17592186044416) (a : Nat) (ha : a < 256) : ∀ bs : List Nat, (∀ b ∈ bs, b < 256) → Ev (fun k => impl_FirstFailure.l1 k l (a : Int) (bs.map (fun x : Nat => (x : Int)))) ((failB l a bs).map (fun x : Nat × Nat => ((x.1 : Int), (x.2 : Int)))) := by
  intro bs
  induction bs with
  | nil => intro _; exact Ev.now _
  | cons b bs ih =>
    intro hm
    have hb := hm b (List.mem_cons_self ..)
    simp only [List.map_cons, impl_FirstFailure.l1]
    rw [andNot_nat (lt256_63 ha) (lt256_63 hb)]
    refine Ev.bind (implElements_ev _) ?_
    rw [elsB_nat (dif_lt ha)]
    refine Ev.bind (implFail_l2 l hl a b ha hb _ (fun e he => els_lt he)) ?_
    simp only [failB]
    cases failE l a b (els (dif a b)) with
    | none => exact ih (fun b' hb' => hm b' (List.mem_cons_of_mem _ hb'))
    | some e => exact Ev.now _
theorem implFail_l0 (l : List Int) (L : List Nat) (hlL : l = L.map (fun x : Nat => (x : Int))) (hl : l.length ≤ 17592186044416) (hL : ∀ b ∈ L, b < 256) : ∀ la : List Nat, (∀ a ∈ la, a < 256) → Ev (fun k => impl_FirstFailure.l0 k l (la.map (fun x : Nat => (x : Int)))) ((failA l L la).map (fun x : Nat × Nat × Nat => ((x.1 : Int), (x.2.1 : Int), (x.2.2 : Int)))) := by
  intro la
  induction la with
  | nil => intro _; exact Ev.now _
  | cons a la ih =>
    intro hm
    have ha := hm a (List.mem_cons_self ..)
    simp only [List.map_cons, impl_FirstFailure.l0]
    refine Ev.bind (a := (failB l a L).map (fun x : Nat × Nat => ((x.1 : Int), (x.2 : Int)))) (by
      have := implFail_l1 l hl a ha L hL
      rw [← hlL] at this
      exact this) ?_
    simp only [failA]
    cases failB l a L with
    | none => exact ih (fun a' ha' => hm a' (List.mem_cons_of_mem _ ha'))
    | some x => exact Ev.now _
theorem implFail_ev (n : Int) (l : List Int) (hl : l.length ≤ 17592186044416) : Ev (fun k => impl_FirstFailure.f k n l) (failT n l) := by
  unfold impl_FirstFailure.f failT
  refine Ev.bind (implFam_ev n l hl) ?_
  by_cases hf : famB n l = true
  · refine Ev.ifp hf ?_
    rw [if_pos hf]
    obtain ⟨m, L, rfl, hm, hlL, hL, _⟩ := famB_nat hf
    have hmap : l.map Int.toNat = L := by rw [hlL, toNat_map]
    have h256 : ∀ b ∈ L, b < 256 := fun b hb => Nat.lt_of_lt_of_le (hL b hb) (pow_le_256 hm)
    have h := implFail_l0 l L hlL hl h256 L h256
    rw [← hlL] at h
    refine Ev.bind h ?_
    rw [hmap]
    cases failA l L L with
    | none => exact Ev.now _
    | some x => exact Ev.now _
  · refine Ev.ifn hf ?_
    rw [if_neg hf]
    exact Ev.now _

end Go.Proofs.Ytagncnjllpebjaa.Q

namespace Go.Proofs.Ytagncnjllpebjaa.Q
open Go Go.RowKit Go.Proofs.Ytagncnjllpebjaa.A Go.Proofs.YtagncnjllpebjaaW.PrintWords Go.Proofs.YtagncnjllpebjaaW.PrintLast Go.Proofs.YtagncnjllpebjaaW.PrintMore Go.Proofs.Ytagncnjllpebjaa.Z
set_option linter.unusedVariables false
set_option linter.unusedSimpArgs false

theorem implMat_ev (n : Int) (l : List Int) (hl : l.length ≤ 17592186044416) : Ev (fun k => impl_IsMatroid.f k n l) (matB n l) := by
  unfold impl_IsMatroid.f matB
  refine Ev.bind (implFail_ev n l hl) (Ev.bind (implFam_ev n l hl) ?_)
  by_cases hf : famB n l = true
  · refine Ev.ifp hf ?_
    rw [hf, Bool.true_and]
    by_cases h0 : (l.length : Int) > 0
    · refine Ev.ifp h0 ?_
      rw [show decide ((l.length : Int) > 0) = true from by simpa using h0, Bool.true_and]
      exact Ev.now _
    · refine Ev.ifn h0 ?_
      rw [show decide ((l.length : Int) > 0) = false from by simpa using h0, Bool.false_and]
      exact Ev.now _
  · refine Ev.ifn hf ?_
    rw [Bool.eq_false_iff.2 hf, Bool.false_and]
    exact Ev.now _

end Go.Proofs.Ytagncnjllpebjaa.Q

namespace Go.Proofs.Ytagncnjllpebjaa.Q
open Go Go.RowKit Go.Proofs.Ytagncnjllpebjaa.A Go.Proofs.YtagncnjllpebjaaW.PrintWords Go.Proofs.YtagncnjllpebjaaW.PrintLast Go.Proofs.YtagncnjllpebjaaW.PrintMore Go.Proofs.Ytagncnjllpebjaa.Z
set_option linter.unusedVariables false
set_option linter.unusedSimpArgs false

theorem subset_eq (t s : Int) : impl_IsSubset.f t s = some (isAnyB t && (isAnyB s && decide (subN t.toNat s.toNat))) := by
  unfold impl_IsSubset.f
  rw [isAny_eq, isAny_eq, Option.bind_some, Option.bind_some]
  by_cases h1 : isAnyB t = true
  · rw [if_pos h1, h1, Bool.true_and]
    by_cases h2 : isAnyB s = true
    · rw [if_pos h2, h2, Bool.true_and]
      obtain ⟨a, rfl, ha⟩ := isAnyB_lt h1
      obtain ⟨b, rfl, hb⟩ := isAnyB_lt h2
      rw [andNot_nat (lt256_63 ha) (lt256_63 hb), Int.toNat_natCast, Int.toNat_natCast]
      have e : (((dif a b : Nat) : Int) == 0) = decide (subN a b) := by
        rw [Bool.eq_iff_iff, beq_iff_eq, decide_eq_true_eq]
        have h := @dif_zero a b
        constructor
        · intro h0; exact h.1 (by omega)
        · intro h0; have := h.2 h0; omega
      rw [e]
    · rw [if_neg h2, Bool.eq_false_iff.2 h2, Bool.false_and]
  · rw [if_neg h1, Bool.eq_false_iff.2 h1, Bool.false_and]
/-- independent at whatever number. -/
def indB (L : List Nat) (s : Int) : Bool := isAnyB s && indN L s.toNat
theorem implInd_ev (n : Int) (L : List Nat) (s : Int) (hl : L.length ≤ 17592186044416) (hL : ∀ b ∈ L, b < 256) : Ev (fun k => impl_independent.f k n (ints L) s) (indB L s) := by
  have h := down (P := fun i => Ev (fun k => impl_independent.l0 k s (ints L) ((ints L).length : Int) (i : Int)) (isAnyB s && (L.drop i).any (fun b => decide (subN s.toNat b)))) L.length
    (by
      apply Ev.step
      · intro k
        simp only [impl_independent.l0]
        rw [if_neg (by rw [ints_len]; omega)]
      · rw [drop_end]
        simp only [List.any_nil, Bool.and_false]
        exact Ev.now _)
    (by
      intro i hi ih
      have hb := hL _ (List.getElem_mem hi)
      apply Ev.step
      · intro k
        simp only [impl_independent.l0, subset_eq, Option.bind_some]
        rw [if_pos (by rw [ints_len]; omega), if_pos (by omega), if_pos (by rw [ints_len]; omega), ints_rd L i hi, w_succ hi hl]
      · rw [drop_cons L i hi, List.any_cons]
        rw [show isAnyB (L[i] : Int) = true from by rw [isAnyB_nat]; simpa using hb, Bool.true_and, Int.toNat_natCast]
        by_cases hx : (isAnyB s && decide (subN s.toNat L[i])) = true
        · refine Ev.ifp hx ?_
          simp only [Bool.and_eq_true] at hx
          rw [hx.1, hx.2]
          exact Ev.now _
        · refine Ev.ifn hx ?_
          have : (isAnyB s && (decide (subN s.toNat L[i]) || (L.drop (i + 1)).any (fun b => decide (subN s.toNat b)))) = (isAnyB s && (L.drop (i + 1)).any (fun b => decide (subN s.toNat b))) := by
            cases h1 : isAnyB s
            · rfl
            · rw [h1] at hx
              simp only [Bool.true_and] at hx ⊢
              rw [Bool.eq_false_iff.2 hx, Bool.false_or]
          rw [this]
          exact ih)
  exact h
theorem indB_nat {L : List Nat} {s : Nat} (hs : s < 256) : indB L (s : Int) = indN L s := by
  unfold indB
  rw [isAnyB_nat, show decide (s < 256) = true from by simpa using hs, Bool.true_and, Int.toNat_natCast]
/-- What lies in a set of n elements is one. -/
theorem indB_set {L : List Nat} {s : Int} {m : Nat} (hL : ∀ b ∈ L, b < 2 ^ m) (h : indB L s = true) : ∃ t : Nat, s = t ∧ t < 2 ^ m ∧ t < 256 ∧ indN L t = true := by
  unfold indB at h
  simp only [Bool.and_eq_true] at h
  obtain ⟨t, rfl, ht⟩ := isAnyB_lt h.1
  rw [Int.toNat_natCast] at h
  obtain ⟨b, hb, hsub⟩ := indN_iff.1 h.2
  exact ⟨t, rfl, Nat.lt_of_le_of_lt (subN_le hsub) (hL b hb), ht, h.2⟩

end Go.Proofs.Ytagncnjllpebjaa.Q

namespace Go.Proofs.Ytagncnjllpebjaa.Q
open Go Go.RowKit Go.Proofs.Ytagncnjllpebjaa.A Go.Proofs.YtagncnjllpebjaaW.PrintWords Go.Proofs.YtagncnjllpebjaaW.PrintLast Go.Proofs.YtagncnjllpebjaaW.PrintMore Go.Proofs.Ytagncnjllpebjaa.Z
set_option linter.unusedVariables false
set_option linter.unusedSimpArgs false

/-- Two matroids of the same size. -/
def togB (n : Int) (l : List Int) (n' : Int) (l' : List Int) : Bool := matB n l && (matB n' l' && decide (n = n'))
def commonB (n : Int) (l : List Int) (n' : Int) (l' : List Int) (s : Int) : Bool := togB n l n' l' && (indB (l.map Int.toNat) s && indB (l'.map Int.toNat) s)
theorem specCommon_ev (n : Int) (l : List Int) (n' : Int) (l' : List Int) (s : Int) (hl : l.length ≤ 17592186044416) (hl' : l'.length ≤ 17592186044416) : Ev (fun k => spec_IsCommon.f k n l n' l' s) (commonB n l n' l' s) := by
  unfold spec_IsCommon.f commonB togB
  refine Ev.bind (specMat_ev n l hl) ?_
  by_cases h1 : matB n l = true
  · refine Ev.ifp h1 (Ev.bind (specMat_ev n' l' hl') ?_)
    rw [h1, Bool.true_and]
    by_cases h2 : matB n' l' = true
    · refine Ev.ifp h2 ?_
      rw [h2, Bool.true_and]
      by_cases hn : n = n'
      · refine Ev.ifp hn ?_
        subst hn
        rw [show decide (n = n) = true from by simp, Bool.true_and]
        obtain ⟨m, L, rfl, hm, rfl, hL, hL256, _, hne⟩ := matB_nat h1
        obtain ⟨m', L', hmm, hm', rfl, hL', hL256', _, hne'⟩ := matB_nat h2
        rw [ints_len] at hl hl'
        rw [show (ints L).map Int.toNat = L from toNat_map L, show (ints L').map Int.toNat = L' from toNat_map L']
        refine Ev.cbind (specIsSet_eq _ _) ?_
        by_cases hs : isSetB (m : Int) s = true
        · refine Ev.ifp hs ?_
          obtain ⟨_, t, _, rfl, _, _, ht⟩ := isSetB_lt hs
          rw [indB_nat ht, indB_nat ht]
          refine Ev.bind (specFree_ev _ L t hl hL256 hne ht) ?_
          by_cases hi : indN L t = true
          · refine Ev.ifp hi ?_
            rw [hi, Bool.true_and]
            exact Ev.bind (specFree_ev _ L' t hl' hL256' hne' ht) (Ev.now _)
          · refine Ev.ifn hi ?_
            rw [Bool.eq_false_iff.2 hi, Bool.false_and]
            exact Ev.now _
        · refine Ev.ifn hs ?_
          have : indB L s = false := by
            rw [Bool.eq_false_iff]
            intro hi
            obtain ⟨t, rfl, ht, _⟩ := indB_set hL hi
            apply hs
            rw [isSetB_nat]
            simp [hm, ht]
          rw [this, Bool.false_and]
          exact Ev.now _
      · refine Ev.ifn hn ?_
        rw [show decide (n = n') = false from by simpa using hn, Bool.false_and]
        exact Ev.now _
    · refine Ev.ifn h2 ?_
      rw [Bool.eq_false_iff.2 h2, Bool.false_and, Bool.false_and]
      exact Ev.now _
  · refine Ev.ifn h1 ?_
    rw [Bool.eq_false_iff.2 h1, Bool.false_and, Bool.false_and]
    exact Ev.now _

end Go.Proofs.Ytagncnjllpebjaa.Q

namespace Go.Proofs.Ytagncnjllpebjaa.Q
open Go Go.RowKit Go.Proofs.YtagncnjllpebjaaW.PrintWords Go.Proofs.YtagncnjllpebjaaW.PrintLast Go.Proofs.YtagncnjllpebjaaW.PrintMore Go.Proofs.Ytagncnjllpebjaa.Z
set_option linter.unusedVariables false
set_option linter.unusedSimpArgs false

theorem togB_nat {n n' : Int} {l l' : List Int} (h : togB n l n' l' = true) : ∃ (m : Nat) (L L' : List Nat), n = m ∧ n' = m ∧ m ≤ 8 ∧ l = ints L ∧ l' = ints L' ∧ (∀ x ∈ L, x < 2 ^ m) ∧ (∀ x ∈ L', x < 2 ^ m) ∧ (∀ x ∈ L, x < 256) ∧ (∀ x ∈ L', x < 256) ∧ L ≠ [] ∧ L' ≠ [] := by
  simp only [togB, Bool.and_eq_true, decide_eq_true_eq] at h
  obtain ⟨h1, h2, h3⟩ := h
  obtain ⟨m, L, rfl, hm, rfl, hL, hL256, _, hne⟩ := matB_nat h1
  obtain ⟨m', L', rfl, hm', rfl, hL', hL256', _, hne'⟩ := matB_nat h2
  have : m = m' := by omega
  subst this
  exact ⟨m, L, L', rfl, rfl, hm, rfl, rfl, hL, hL', hL256, hL256', hne, hne'⟩
theorem commonB_zero (n : Int) (l : List Int) (n' : Int) (l' : List Int) : commonB n l n' l' 0 = togB n l n' l' := by
  unfold commonB
  by_cases h : togB n l n' l' = true
  · rw [h, Bool.true_and]
    obtain ⟨m, L, L', rfl, rfl, hm, rfl, rfl, hL, hL', hL256, hL256', hne, hne'⟩ := togB_nat h
    rw [show (ints L).map Int.toNat = L from toNat_map L, show (ints L').map Int.toNat = L' from toNat_map L']
    have hz : ∀ M : List Nat, M ≠ [] → indB M 0 = true := fun M hM => by
      have := @indB_nat M 0 (by omega)
      rw [show ((0 : Nat) : Int) = 0 from rfl] at this
      rw [this, indN_iff]
      obtain ⟨b, hb⟩ := List.exists_mem_of_ne_nil M hM
      exact ⟨b, hb, subN_zero b⟩
    rw [hz L hne, hz L' hne']
    rfl
  · rw [Bool.eq_false_iff.2 h, Bool.false_and]
end Go.Proofs.Ytagncnjllpebjaa.Q

namespace Go.Proofs.Ytagncnjllpebjaa.Q
open Go Go.RowKit Go.Proofs.Ytagncnjllpebjaa.A Go.Proofs.YtagncnjllpebjaaW.PrintWords Go.Proofs.YtagncnjllpebjaaW.PrintLast Go.Proofs.YtagncnjllpebjaaW.PrintMore Go.Proofs.Ytagncnjllpebjaa.Z
set_option linter.unusedVariables false
set_option linter.unusedSimpArgs false

/-- A number put into a list in order, once. -/
def insO (x : Int) : List Int → List Int
  | [] => [x]
  | y :: ys => if y < x then y :: insO x ys else (if y = x then y :: ys else x :: y :: ys)
def sortO (acc X : List Int) : List Int := X.foldl (fun a x => insO x a) acc
theorem insO_len (x : Int) (l : List Int) : (insO x l).length ≤ l.length + 1 := by
  induction l with
  | nil => exact Nat.le_refl _
  | cons y l ih =>
    simp only [insO]
    by_cases h : y < x
    · rw [if_pos h, List.length_cons, List.length_cons]; omega
    · rw [if_neg h]
      by_cases h2 : y = x
      · rw [if_pos h2]; omega
      · rw [if_neg h2]; simp only [List.length_cons]; omega
theorem insO_mem (x a : Int) (l : List Int) : a ∈ insO x l ↔ a = x ∨ a ∈ l := by
  induction l with
  | nil => simp [insO]
  | cons y l ih =>
    simp only [insO]
    by_cases h : y < x
    · rw [if_pos h, List.mem_cons, ih, List.mem_cons]
      constructor
      · rintro (h' | h' | h')
        · exact .inr (.inl h')
        · exact .inl h'
        · exact .inr (.inr h')
      · rintro (h' | h' | h')
        · exact .inr (.inl h')
        · exact .inl h'
        · exact .inr (.inr h')
    · rw [if_neg h]
      by_cases h2 : y = x
      · rw [if_pos h2]
        subst h2
        constructor
        · exact .inr
        · rintro (rfl | h')
          · exact List.mem_cons_self ..
          · exact h'
      · rw [if_neg h2, List.mem_cons]
theorem insO_pair (x : Int) (l : List Int) (hl : l.Pairwise (· < ·)) : (insO x l).Pairwise (· < ·) := by
  induction l with
  | nil => simp [insO]
  | cons y l ih =>
    rw [List.pairwise_cons] at hl
    simp only [insO]
    by_cases h : y < x
    · rw [if_pos h, List.pairwise_cons]
      refine ⟨fun a ha => ?_, ih hl.2⟩
      rcases (insO_mem x a l).1 ha with rfl | ha
      · exact h
      · exact hl.1 a ha
    · rw [if_neg h]
      by_cases h2 : y = x
      · rw [if_pos h2, List.pairwise_cons]; exact hl
      · rw [if_neg h2, List.pairwise_cons, List.pairwise_cons]
        refine ⟨fun a ha => ?_, hl⟩
        rcases List.mem_cons.1 ha with rfl | ha
        · omega
        · have := hl.1 a ha; omega
theorem sortO_mem (X : List Int) (a : Int) : ∀ acc : List Int, a ∈ sortO acc X ↔ a ∈ X ∨ a ∈ acc := by
  induction X with
  | nil => intro acc; simp [sortO]
  | cons x X ih =>
    intro acc
    have := ih (insO x acc)
    unfold sortO at this ⊢
    rw [List.foldl_cons, this, insO_mem, List.mem_cons]
    constructor
    · rintro (h | h | h)
      · exact .inl (.inr h)
      · exact .inl (.inl h)
      · exact .inr h
    · rintro ((h | h) | h)
      · exact .inr (.inl h)
      · exact .inl h
      · exact .inr (.inr h)
theorem sortO_pair (X : List Int) : ∀ acc : List Int, acc.Pairwise (· < ·) → (sortO acc X).Pairwise (· < ·) := by
  induction X with
  | nil => intro acc h; exact h
  | cons x X ih => intro acc h; exact ih _ (insO_pair x acc h)
/-- Two lists in order with the same members are one. -/
theorem pair_unique : ∀ {X Y : List Int}, X.Pairwise (· < ·) → Y.Pairwise (· < ·) → (∀ a, a ∈ X ↔ a ∈ Y) → X = Y := by
  intro X
  induction X with
  | nil =>
    intro Y _ _ h
    cases Y with
    | nil => rfl
    | cons y Y => exact absurd ((h y).2 (List.mem_cons_self ..)) (by simp)
  | cons x X ih =>
    intro Y hX hY h
    cases Y with
    | nil => exact absurd ((h x).1 (List.mem_cons_self ..)) (by simp)
    | cons y Y =>
      rw [List.pairwise_cons] at hX hY
      have hxy : x = y := by
        rcases List.mem_cons.1 ((h x).1 (List.mem_cons_self ..)) with e | hx
        · exact e
        · rcases List.mem_cons.1 ((h y).2 (List.mem_cons_self ..)) with e | hy
          · exact e.symm
          · have h1 := hX.1 y hy
            have h2 := hY.1 x hx
            omega
      subst hxy
      rw [ih hX.2 hY.2 (fun a => ?_)]
      constructor
      · intro ha
        rcases List.mem_cons.1 ((h a).1 (List.mem_cons_of_mem _ ha)) with e | h'
        · have := hX.1 a ha; omega
        · exact h'
      · intro ha
        rcases List.mem_cons.1 ((h a).2 (List.mem_cons_of_mem _ ha)) with e | h'
        · have := hY.1 a ha; omega
        · exact h'
theorem specSort_ev (X : List Int) (hx : X.length ≤ 8796093022208) : Ev (fun k => spec_SortSets.f k X) (sortO [] X) := by
  have hd := down (P := fun i => ∀ acc : List Int, acc.length ≤ i → Ev (fun k => spec_SortSets.l0 k X acc (i : Int)) (sortO acc (X.drop i))) X.length
    (by
      intro acc _
      apply Ev.step
      · intro k
        rw [spec_SortSets.l0, if_neg (by omega)]
      · rw [drop_end]; exact Ev.now _)
    (by
      intro i hi ih acc ha
      have ihs := fun y (hy : y = insO X[i] acc) => ih y (by subst hy; have := insO_len X[i] acc; omega)
      rw [drop_cons X i hi]
      have h1 := down (P := fun j => Ev (fun k => spec_SortSets.l1 k X acc (i : Int) (j : Int)) (sortO (acc.take j ++ insO X[i] (acc.drop j)) (X.drop (i + 1)))) acc.length
        (by
          rw [List.take_length, drop_end]
          have hr := ih (acc ++ [X[i]]) (by rw [List.length_append, List.length_singleton]; omega)
          apply Ev.step
          · intro k
            rw [spec_SortSets.l1, if_neg (by omega), w_succ hi (by omega)]
          · simp only [Option.bind_some, Int.toNat_natCast, List.drop_length, List.take_length, List.nil_append, List.append_nil, List.length_nil, List.length_append, List.length_singleton]
            refine Ev.ifp (by omega) (Ev.ifp (by omega) (Ev.ifp (by omega) (Ev.ifp (by omega) (Ev.ifp (by omega) (Ev.ifp (by omega) (Ev.ifp (by omega) ?_))))))
            rw [rd_getElem X i hi]
            exact hr)
        (by
          intro j hj ihj
          apply Ev.step
          · intro k
            rw [spec_SortSets.l1, if_pos (by omega), if_pos (by omega), if_pos (by omega), if_pos (by omega), rd_getElem acc j hj, rd_getElem X i hi, w_succ hi (by omega), w_succ hj (by omega)]
          · rw [drop_cons acc j hj]
            simp only [insO]
            by_cases hlt : acc[j] < X[i]
            · rw [if_pos hlt]
              refine Ev.ifp hlt ?_
              rw [take_snoc acc j hj, List.append_assoc, List.singleton_append] at ihj
              exact ihj
            · rw [if_neg hlt]
              refine Ev.ifn hlt ?_
              by_cases heq : acc[j] = X[i]
              · rw [if_pos heq]
                refine Ev.ifp heq ?_
                rw [← drop_cons acc j hj, List.take_append_drop]
                exact ih acc (by omega)
              · rw [if_neg heq]
                refine Ev.ifn heq ?_
                have hr := ih (acc.take j ++ X[i] :: acc[j] :: acc.drop (j + 1)) (by
                  rw [List.length_append, List.length_cons, List.length_cons, List.length_take, List.length_drop]; omega)
                simp only [Option.bind_some, Int.toNat_natCast, List.nil_append, List.length_nil]
                refine Ev.ifp (by omega) (Ev.ifp (by rw [List.length_drop]; omega) (Ev.ifp (by rw [List.length_take]; omega) (Ev.ifp (by rw [List.length_append, List.length_singleton, List.length_take, List.length_drop]; omega) ?_)))
                rw [drop_cons acc j hj, List.append_assoc, List.singleton_append]
                exact hr)
      apply Ev.step
      · intro k
        rw [spec_SortSets.l0, if_pos (by omega)]
      · have h0 := h1
        rw [List.take_zero, List.drop_zero, List.nil_append] at h0
        show Ev _ (sortO acc (X[i] :: X.drop (i + 1)))
        exact h0)
  exact hd [] (Nat.zero_le _)

end Go.Proofs.Ytagncnjllpebjaa.Q

namespace Go.Proofs.Ytagncnjllpebjaa.Q
open Go Go.RowKit Go.Proofs.Ytagncnjllpebjaa.A Go.Proofs.YtagncnjllpebjaaW.PrintWords Go.Proofs.YtagncnjllpebjaaW.PrintLast Go.Proofs.YtagncnjllpebjaaW.PrintMore Go.Proofs.Ytagncnjllpebjaa.Z
set_option linter.unusedVariables false
set_option linter.unusedSimpArgs false

theorem sortO_intsB {X : List Int} {D : List Nat} (hD : D.Pairwise (· < ·)) (h : ∀ a, a ∈ X ↔ a ∈ ints D) : sortO [] X = ints D :=
  pair_unique (sortO_pair X [] List.Pairwise.nil) (ints_pair hD) (fun a => by rw [sortO_mem, h]; simp)
end Go.Proofs.Ytagncnjllpebjaa.Q

namespace Go.Proofs.Ytagncnjllpebjaa.Q
open Go Go.RowKit Go.Proofs.Ytagncnjllpebjaa.A Go.Proofs.YtagncnjllpebjaaW.PrintWords Go.Proofs.YtagncnjllpebjaaW.PrintLast Go.Proofs.YtagncnjllpebjaaW.PrintMore Go.Proofs.Ytagncnjllpebjaa.Z
set_option linter.unusedVariables false
set_option linter.unusedSimpArgs false

/-- A row of marks. -/
def labB (n : Nat) (p : Nat → Bool) : List Bool := (List.range n).map p
theorem labB_len (n : Nat) (p : Nat → Bool) : (labB n p).length = n := by simp [labB]
theorem labB_set (n : Nat) (p : Nat → Bool) (z : Nat) : (labB n p).set z true = labB n (fun s => p s || decide (z = s)) := by
  apply List.ext_getElem
  · simp [labB]
  · intro i h1 h2
    rw [List.getElem_set]
    by_cases h : z = i
    · subst h; simp [labB]
    · rw [if_neg h]; simp [labB, h]
theorem labB_congr {n : Nat} {p q : Nat → Bool} (h : ∀ s, p s = q s) : labB n p = labB n q := by unfold labB; exact List.map_congr_left (fun x _ => h x)
theorem labB_rd (n : Nat) (p : Nat → Bool) (s : Nat) (hs : s < n) : rdOf false (labB n p) (s : Int) = p s := by
  unfold rdOf labB
  simp [hs]
theorem labB_no (n : Nat) : List.replicate n false = labB n (fun _ => false) := by
  unfold labB
  rw [List.map_const', List.length_range]
theorem Ev.ofConst {α : Type} {g : Option α} {r : α} (h : Ev (fun _ => g) r) : g = some r := by
  obtain ⟨K, h⟩ := h
  exact h K (Nat.le_refl _)
section
variable {m : Nat}
theorem fillB_eq (hm : m ≤ 8) {x : Nat} (hx : x < 2 ^ m) : ∀ (ys : List Nat) (p : Nat → Bool), (∀ y ∈ ys, y < 2 ^ m) → fillB (x : Int) (labB (2 ^ m) p) (ints ys) = some (labB (2 ^ m) (fun s => p s || ys.any (fun y => decide (x ||| y = s)))) := by
  intro ys
  have h2m := pow_le_256 hm
  induction ys with
  | nil => intro p _; show some _ = _; congr 1; apply labB_congr; intro s; simp
  | cons y ys ih =>
    intro p hy
    have hyl := hy y (List.mem_cons_self ..)
    have hz : x ||| y < 2 ^ m := Nat.or_lt_two_pow hx hyl
    show fillB (x : Int) (labB (2 ^ m) p) ((y : Int) :: ints ys) = _
    simp only [fillB]
    rw [or_nat (lt256_63 (by omega)) (lt256_63 (by omega)), labB_len, if_pos ⟨by omega, by omega⟩, Int.toNat_natCast, labB_set, ih _ (fun z hz => hy z (List.mem_cons_of_mem _ hz))]
    congr 1
    apply labB_congr
    intro s
    rw [List.any_cons, Bool.or_assoc]
theorem fillA_eq (hm : m ≤ 8) {B : List Nat} (hB : ∀ y ∈ B, y < 2 ^ m) : ∀ (A : List Nat) (p : Nat → Bool), (∀ x ∈ A, x < 2 ^ m) → fillA (labB (2 ^ m) p) (ints A) (ints B) = some (labB (2 ^ m) (fun s => p s || A.any (fun x => B.any (fun y => decide (x ||| y = s))))) := by
  intro A
  induction A with
  | nil => intro p _; show some _ = _; congr 1; apply labB_congr; intro s; simp
  | cons x A ih =>
    intro p hA
    show fillA (labB (2 ^ m) p) ((x : Int) :: ints A) (ints B) = _
    simp only [fillA]
    rw [fillB_eq hm (hA x (List.mem_cons_self ..)) B p hB, Option.bind_some, ih _ (fun z hz => hA z (List.mem_cons_of_mem _ hz))]
    congr 1
    apply labB_congr
    intro s
    rw [List.any_cons, Bool.or_assoc]
theorem implUnions_eq (hm : m ≤ 8) {A B : List Nat} (hA : ∀ x ∈ A, x < 2 ^ m) (hB : ∀ y ∈ B, y < 2 ^ m) : impl_unions.f (m : Int) (ints A) (ints B) = some (ints (uniL m A B)) := by
  unfold impl_unions.f
  have hset := setsOf_ev hm (g := fun _ s => if 0 ≤ s ∧ s < ((labB (2 ^ m) (fun s => false || A.any (fun x => B.any (fun y => decide (x ||| y = s))))).length : Int) then some (rdOf false (labB (2 ^ m) (fun s => false || A.any (fun x => B.any (fun y => decide (x ||| y = s))))) s) else none) (p := fun s => A.any (fun x => B.any (fun y => decide (x ||| y = s)))) (fun t ht => by
    refine Ev.ifp ⟨by omega, by rw [labB_len]; omega⟩ ?_
    rw [labB_rd _ _ t ht, Bool.false_or]
    exact Ev.now _)
  rw [if_pos ⟨by omega, by omega⟩, Int.toNat_natCast, labB_no, fillA_eq hm hB A _ hA, Option.bind_some, implFull_eq hm, Option.bind_some, if_pos (full_small hm)]
  exact Ev.ofConst hset
theorem sorted_len {L : List Nat} (hL : ∀ b ∈ L, b < 256) (hp : L.Pairwise (· < ·)) : L.length ≤ 256 := by
  have h : ∀ (n : Nat) (L : List Nat), L.Pairwise (· < ·) → (∀ b ∈ L, b < n) → L.length ≤ n := by
    intro n
    induction n with
    | zero =>
      intro L _ hb
      cases L with
      | nil => exact Nat.le_refl _
      | cons x L => exact absurd (hb x (List.mem_cons_self ..)) (by omega)
    | succ n ih =>
      intro L hp hb
      by_cases hn : L = []
      · subst hn; exact Nat.zero_le _
      · obtain ⟨L', y, rfl⟩ : ∃ L' y, L = L' ++ [y] := ⟨L.dropLast, L.getLast hn, (List.dropLast_concat_getLast hn).symm⟩
        rw [List.pairwise_append] at hp
        have hy := hb y (by simp)
        have := ih L' hp.1 (fun b hb' => by
          have := hp.2.2 b hb' y (List.mem_singleton.2 rfl)
          omega)
        rw [List.length_append, List.length_singleton]; omega
  exact h 256 L hp hL
theorem listN_lt {L : List Nat} (hM : Mat m L) (k : Nat) : ∀ s ∈ listN m L k, s < 2 ^ m := fun s hs => (Mat.up hM k).sets s ((listN_mem hM k s).1 hs)
theorem uniL_len (hm : m ≤ 8) (A B : List Nat) : (uniL m A B).length ≤ 256 := by
  unfold uniL
  refine Nat.le_trans (List.length_filter_le _ _) ?_
  rw [List.length_range]; exact pow_le_256 hm
theorem listN_len (hm : m ≤ 8) (L : List Nat) (k : Nat) : (listN m L k).length ≤ 256 := by
  cases k with
  | zero => simp [listN]
  | succ k => exact uniL_len hm _ _
theorem implIndSets_ev {L : List Nat} (hM : Mat m L) (hp : L.Pairwise (· < ·)) (hl : L.length ≤ 17592186044416) : Ev (fun k => impl_IndependentSets.f k (m : Int) (ints L)) (ints (indL m L)) := by
  have hm := hM.size
  have h2m := pow_le_256 hm
  unfold impl_IndependentSets.f
  refine Ev.bind (implMat_ev _ _ (by rw [ints_len]; exact hl)) (Ev.ifp (mat_matB hM hp) (Ev.cbind (implFull_eq hm) (Ev.ifp (full_small hm) ?_)))
  refine setsOf_ev hm (g := fun k s => impl_IndependentSets.c k (m : Int) (ints L) s) (p := indN L) (fun t ht => ?_)
  have h := implInd_ev (m : Int) L (t : Int) hl hM.lt
  rw [indB_nat (show t < 256 by omega)] at h
  unfold impl_IndependentSets.c
  exact Ev.bind h (Ev.now _)
def urB (n : Int) (l : List Int) (k : Int) : Int := if matB n l = true ∧ 0 ≤ k ∧ k ≤ 8 then ((urN n.toNat (l.map Int.toNat) k.toNat : Nat) : Int) else -1
theorem implUR_ev (n : Int) (l : List Int) (c : Int) (hl : l.length ≤ 17592186044416) : Ev (fun k => impl_UnionRank.f k n l c) (urB n l c) := by
  unfold impl_UnionRank.f urB
  refine Ev.bind (implMat_ev n l hl) ?_
  by_cases h : matB n l = true
  rotate_left
  · rw [if_neg (fun hc => h hc.1)]
    refine Ev.ifn h ?_
    apply Ev.step
    · intro k; rw [impl_UnionRank.j0]
    · exact Ev.ifp rfl (Ev.now _)
  refine Ev.ifp h ?_
  by_cases h0 : c < 0
  · rw [if_neg (fun hc => by omega)]
    refine Ev.ifp h0 ?_
    apply Ev.step
    · intro k; rw [impl_UnionRank.j0]
    · exact Ev.ifp rfl (Ev.now _)
  refine Ev.ifn h0 ?_
  apply Ev.step
  · intro k; rw [impl_UnionRank.j0]
  by_cases h8 : c > 8
  · rw [if_neg (fun hc => by omega)]
    exact Ev.ifp (decide_eq_true h8) (Ev.now _)
  refine Ev.ifn (by rw [decide_eq_false h8]; decide) ?_
  rw [if_pos ⟨h, by omega, by omega⟩]
  obtain ⟨m, L, rfl, rfl, hM, hp⟩ := matB_mat h
  obtain ⟨c, rfl⟩ := Int.eq_ofNat_of_zero_le (show 0 ≤ c by omega)
  rw [show (ints L).map Int.toNat = L from toNat_map L, Int.toNat_natCast, Int.toNat_natCast]
  rw [ints_len] at hl
  have hm := hM.size
  have h2m := pow_le_256 hm
  have hd := down (P := fun i => Ev (fun k => impl_UnionRank.l0 k (c : Int) (ints (listN m L i)) (i : Int) (m : Int) (ints L)) ((urN m L c : Nat) : Int)) c
    (by
      apply Ev.step
      · intro k; rw [impl_UnionRank.l0, if_neg (by omega)]
      have hlen := listN_len hm L c
      have hlt := listN_lt hM c
      unfold urN
      generalize listN m L c = X at hlen hlt
      have h1 := down (P := fun i => ∀ acc : Nat, Ev (fun k => impl_UnionRank.l1 k (acc : Int) (ints X) ((ints X).length : Int) (i : Int)) ((maxN acc ((X.drop i).map pc) : Nat) : Int)) X.length
        (by
          intro acc
          apply Ev.step
          · intro k; rw [impl_UnionRank.l1, if_neg (by rw [ints_len]; omega)]
          · rw [drop_end]; exact Ev.now _)
        (by
          intro i hi ih acc
          have hx := hlt _ (List.getElem_mem hi)
          apply Ev.step
          · intro k
            rw [impl_UnionRank.l1, if_pos (by rw [ints_len]; omega), if_pos (by omega), if_pos (by rw [ints_len]; omega), ints_rd X i hi, implCount_eq _ (by omega), Option.bind_some, mx_nat, w_succ hi (by omega)]
          · rw [drop_cons X i hi, List.map_cons, maxN_cons]
            exact ih _)
      have := h1 0
      exact this)
    (by
      intro i hi ih
      apply Ev.step
      · intro k; rw [impl_UnionRank.l0, if_pos (by omega), w_succ hi (by omega)]
      · refine Ev.bind (implIndSets_ev hM hp hl) ?_
        exact Ev.cbind (implUnions_eq hm (listN_lt hM i) (fun y hy => List.mem_range.1 (List.mem_filter.1 (show y ∈ (List.range (2 ^ m)).filter (indN L) from hy)).1)) ih)
  exact hd
end

end Go.Proofs.Ytagncnjllpebjaa.Q

namespace Go.Proofs.Ytagncnjllpebjaa.Q
open Go Go.RowKit Go.Proofs.Ytagncnjllpebjaa.A Go.Proofs.YtagncnjllpebjaaW.PrintWords Go.Proofs.YtagncnjllpebjaaW.PrintLast Go.Proofs.YtagncnjllpebjaaW.PrintMore Go.Proofs.Ytagncnjllpebjaa.Z
set_option linter.unusedVariables false
set_option linter.unusedSimpArgs false

section
variable {m : Nat}
theorem specUni_ev (hm : m ≤ 8) : Ev (fun k => spec_Uniform.f k 0 (m : Int)) ((m : Int), ints [0]) := by
  have h2m := pow_le_256 hm
  have hp2 := Nat.two_pow_pos m
  unfold spec_Uniform.f
  refine Ev.cbind (l1In_eq _ _ _) (Ev.ifp (by rw [Bool.and_eq_true, decide_eq_true_eq, decide_eq_true_eq]; omega) (Ev.cbind (l1In_eq _ _ _) ?_))
  apply Ev.step
  · intro k; rw [spec_Uniform.j0]
  refine Ev.ifn (by rw [decide_eq_true (show (0 : Int) ≤ 0 by omega), decide_eq_true (show (0 : Int) ≤ (m : Int) by omega)]; decide) ?_
  have hd := down (P := fun i => Ev (fun k => spec_Uniform.l0 k 0 (m : Int) (i : Int) (m : Int) (ints (if i = 0 then [] else [0]))) ((m : Int), ints [0])) (2 ^ m)
    (by
      apply Ev.step
      · intro k
        simp only [spec_Uniform.l0, specFull_eq hm, Option.bind_some]
        rw [if_neg (by unfold fullN; omega), if_neg (by omega)]
      · exact Ev.now _)
    (by
      intro i hi ih
      rw [if_neg (by omega)] at ih
      apply Ev.step
      · intro k
        simp only [spec_Uniform.l0, specFull_eq hm, Option.bind_some]
        rw [if_pos (by unfold fullN; omega), w_succ hi (by omega)]
      · refine Ev.bind (specCount_ev i (by omega)) ?_
        by_cases h0 : i = 0
        · subst h0
          rw [if_pos rfl]
          exact Ev.ifp (by rw [pc_zero]; rfl) (Ev.ifp (by decide) ih)
        · rw [if_neg h0]
          have : pc i ≠ 0 := fun h => h0 ((pc_zero_iff (by omega)).1 h)
          exact Ev.ifn (by omega) ih)
  exact hd
theorem pairs_lt {A B : List Nat} (hA : ∀ x ∈ A, x < 2 ^ m) (hB : ∀ y ∈ B, y < 2 ^ m) : ∀ s ∈ pairsN A B, s < 2 ^ m := by
  intro s hs
  obtain ⟨a, ha, b, hb, rfl⟩ := (pairsN_mem A B s).1 hs
  exact Nat.or_lt_two_pow (hA a ha) (hB b hb)
theorem pairs_len (A B : List Nat) : (pairsN A B).length = A.length * B.length := by
  unfold pairsN
  induction A with
  | nil => simp
  | cons a A ih => rw [List.flatMap_cons, List.length_append, List.length_map, ih, List.length_cons, Nat.succ_mul]; omega
/-- The reference's union of two lists of bases: the largest of the pairs' unions, in order. -/
theorem specUnion_ev (hm : m ≤ 8) {A B D : List Nat} {r : Nat} (hA : matB (m : Int) (ints A) = true) (hB : matB (m : Int) (ints B) = true) (hAl : A.length ≤ 256) (hBl : B.length ≤ 256) (hAs : ∀ x ∈ A, x < 2 ^ m) (hBs : ∀ y ∈ B, y < 2 ^ m)
    (hr : maxN 0 ((pairsN A B).map pc) = r) (hD : ∀ s, (s ∈ pairsN A B ∧ pc s = r) ↔ s ∈ D) (hDp : D.Pairwise (· < ·)) : Ev (fun k => spec_UnionOf.f k (m : Int) (ints A) (m : Int) (ints B)) ((m : Int), ints D, true) := by
  have h2m := pow_le_256 hm
  have hcom := specCommon_ev (m : Int) (ints A) (m : Int) (ints B) 0 (by rw [ints_len]; omega) (by rw [ints_len]; omega)
  rw [commonB_zero] at hcom
  have htog : togB (m : Int) (ints A) (m : Int) (ints B) = true := by unfold togB; rw [hA, hB]; simp
  unfold spec_UnionOf.f
  refine Ev.bind hcom (Ev.ifp htog ?_)
  have hplen : (pairsN A B).length ≤ 65536 := by
    rw [pairs_len]
    exact Nat.le_trans (Nat.mul_le_mul hAl hBl) (by decide)
  -- behind the pairs
  have hplt := pairs_lt hAs hBs
  have hE : ∀ X : List Nat, X = pairsN A B → Ev (fun k => spec_UnionOf.l2 k (ints X) 0 0 (m : Int) (ints A)) ((m : Int), ints D, true) := by
    intro X hX
    have hXl : X.length ≤ 65536 := by rw [hX]; exact hplen
    have hXs : ∀ s ∈ X, s < 2 ^ m := by rw [hX]; exact hplt
    have h2 := down (P := fun i => ∀ acc : Nat, maxN acc ((X.drop i).map pc) = r → Ev (fun k => spec_UnionOf.l2 k (ints X) (acc : Int) (i : Int) (m : Int) (ints A)) ((m : Int), ints D, true)) X.length
      (by
        intro acc hacc
        rw [drop_end] at hacc
        have hacc : acc = r := hacc
        subst hacc
        apply Ev.step
        · intro k; rw [spec_UnionOf.l2, if_neg (by rw [ints_len]; omega)]
        let E := (List.range (2 ^ m)).filter (fun s => decide (s ∈ X))
        have hEp : E.Pairwise (· < ·) := List.Pairwise.filter _ List.pairwise_lt_range
        have hEm : ∀ s, s ∈ E ↔ s ∈ X := fun s => by
          show s ∈ (List.range (2 ^ m)).filter (fun s => decide (s ∈ X)) ↔ _
          rw [List.mem_filter, List.mem_range, decide_eq_true_eq]
          exact ⟨fun h => h.2, fun h => ⟨hXs s h, h⟩⟩
        have hsort : sortO [] (ints X) = ints E := sortO_intsB hEp (fun a => by
          unfold ints
          constructor
          · intro h
            obtain ⟨s, hs, rfl⟩ := List.mem_map.1 h
            exact List.mem_map.2 ⟨s, (hEm s).2 hs, rfl⟩
          · intro h
            obtain ⟨s, hs, rfl⟩ := List.mem_map.1 h
            exact List.mem_map.2 ⟨s, (hEm s).1 hs, rfl⟩)
        have hsp := specSort_ev (ints X) (by rw [ints_len]; omega)
        rw [hsort] at hsp
        refine Ev.bind hsp ?_
        have hEl : E.length ≤ 256 := by
          refine Nat.le_trans (List.length_filter_le _ _) ?_
          rw [List.length_range]; exact h2m
        have hEs : ∀ s ∈ E, s < 2 ^ m := fun s hs => hXs s ((hEm s).1 hs)
        have hDE : E.filter (fun s => decide (pc s = acc)) = D := by
          have hp1 : (E.filter (fun s => decide (pc s = acc))).Pairwise (· < ·) := List.Pairwise.filter _ hEp
          have key : ints (E.filter (fun s => decide (pc s = acc))) = ints D := by
            rw [← sortO_intsB (X := ints D) hp1 (fun a => by
              unfold ints
              constructor
              · intro h
                obtain ⟨s, hs, rfl⟩ := List.mem_map.1 h
                have := (hD s).2 hs
                exact List.mem_map.2 ⟨s, List.mem_filter.2 ⟨(hEm s).2 (by rw [hX]; exact this.1), decide_eq_true this.2⟩, rfl⟩
              · intro h
                obtain ⟨s, hs, rfl⟩ := List.mem_map.1 h
                obtain ⟨h1, h2⟩ := List.mem_filter.1 hs
                exact List.mem_map.2 ⟨s, (hD s).1 ⟨by rw [← hX]; exact (hEm s).1 h1, of_decide_eq_true h2⟩, rfl⟩)]
            exact sortO_intsB hDp (fun a => Iff.rfl)
          have := congrArg (fun l => l.map Int.toNat) key
          simp only [ints, toNat_map] at this
          exact this
        have h3 := down (P := fun i => ∀ out : List Nat, out.length ≤ i → out ++ (E.drop i).filter (fun s => decide (pc s = acc)) = D → Ev (fun k => spec_UnionOf.l3 k (acc : Int) (ints E) (i : Int) (m : Int) (ints out)) ((m : Int), ints D, true)) E.length
          (by
            intro out _ ho
            rw [drop_end, List.filter_nil, List.append_nil] at ho
            apply Ev.step
            · intro k; rw [spec_UnionOf.l3, if_neg (by rw [ints_len]; omega), ho]
            · exact Ev.now _)
          (by
            intro i hi ih out hol ho
            rw [drop_cons E i hi, List.filter_cons] at ho
            have hx := hEs _ (List.getElem_mem hi)
            apply Ev.step
            · intro k; rw [spec_UnionOf.l3, if_pos (by rw [ints_len]; omega), if_pos (by omega), ints_rd E i hi, w_succ hi (by omega)]
            · refine Ev.bind (specCount_ev _ (by omega)) ?_
              by_cases hc : pc E[i] = acc
              · rw [if_pos (decide_eq_true hc)] at ho
                refine Ev.ifp (by omega) (Ev.ifp (by rw [ints_len]; omega) ?_)
                rw [show ints out ++ [((E[i] : Nat) : Int)] = ints (out ++ [E[i]]) from by simp [ints]]
                exact ih (out ++ [E[i]]) (by rw [List.length_append, List.length_singleton]; omega) (by rw [List.append_assoc, List.singleton_append]; exact ho)
              · rw [if_neg (by rw [decide_eq_false hc]; decide)] at ho
                exact Ev.ifn (by omega) (ih out (by omega) ho))
        exact h3 [] (Nat.zero_le _) (by rw [List.drop_zero, List.nil_append]; exact hDE))
      (by
        intro i hi ih acc hacc
        have hx := hXs _ (List.getElem_mem hi)
        rw [drop_cons X i hi, List.map_cons, maxN_cons] at hacc
        apply Ev.step
        · intro k; rw [spec_UnionOf.l2, if_pos (by rw [ints_len]; omega), if_pos (by omega), ints_rd X i hi, w_succ hi (by omega)]
        · refine Ev.bind (specCount_ev _ (by omega)) (Ev.cbind (l1Max_eq _ _) ?_)
          rw [show max (acc : Int) ((pc X[i] : Nat) : Int) = ((max acc (pc X[i]) : Nat) : Int) from by omega]
          exact ih _ hacc)
    exact h2 0 (by rw [List.drop_zero, hX]; exact hr)
  have h0 := down (P := fun i => ∀ out : List Nat, out.length ≤ i * B.length → out ++ pairsN (A.drop i) B = pairsN A B → Ev (fun k => spec_UnionOf.l0 k (ints out) (i : Int) (m : Int) (ints A) (m : Int) (ints B)) ((m : Int), ints D, true)) A.length
    (by
      intro out _ ho
      rw [drop_end] at ho
      have ho : out = pairsN A B := by rw [← ho]; simp [pairsN]
      apply Ev.step
      · intro k; rw [spec_UnionOf.l0, if_neg (by rw [ints_len]; omega)]
      · exact hE out ho)
    (by
      intro i hi ih out hol ho
      have hai := hAs _ (List.getElem_mem hi)
      rw [drop_cons A i hi] at ho
      apply Ev.step
      · intro k; rw [spec_UnionOf.l0, if_pos (by rw [ints_len]; omega)]
      have hb : i * B.length ≤ 256 * 256 := Nat.mul_le_mul (by omega) hBl
      have h1 := down (P := fun j => ∀ o2 : List Nat, o2.length ≤ i * B.length + j → o2 ++ ((B.drop j).map (fun b => A[i] ||| b) ++ pairsN (A.drop (i + 1)) B) = pairsN A B → Ev (fun k => spec_UnionOf.l1 k (ints o2) (i : Int) (j : Int) (m : Int) (ints A) (m : Int) (ints B)) ((m : Int), ints D, true)) B.length
        (by
          intro o2 h2l h2
          rw [drop_end, List.map_nil, List.nil_append] at h2
          apply Ev.step
          · intro k; rw [spec_UnionOf.l1, if_neg (by rw [ints_len]; omega), w_succ hi (by omega)]
          · exact ih o2 (by rw [Nat.succ_mul]; exact h2l) h2)
        (by
          intro j hj ihj o2 h2l h2
          have hbj := hBs _ (List.getElem_mem hj)
          rw [drop_cons B j hj, List.map_cons] at h2
          apply Ev.step
          · intro k; rw [spec_UnionOf.l1, if_pos (by rw [ints_len]; omega), if_pos (by omega), if_pos (by rw [ints_len]; omega), if_pos (by omega), if_pos (by rw [ints_len]; omega), ints_rd A i hi, ints_rd B j hj, w_succ hj (by omega), or_nat (lt256_63 (by omega)) (lt256_63 (by omega))]
          · rw [show ints o2 ++ [((A[i] ||| B[j] : Nat) : Int)] = ints (o2 ++ [A[i] ||| B[j]]) from by simp [ints]]
            exact ihj _ (by rw [List.length_append, List.length_singleton]; omega) (by rw [List.append_assoc, List.singleton_append]; exact h2))
      exact h1 out (by omega) (by rw [List.drop_zero]; exact ho))
  exact h0 [] (Nat.zero_le _) (by rw [List.drop_zero, List.nil_append])
theorem times_len (hm : m ≤ 8) (L : List Nat) (k : Nat) : (timesN m L k).length ≤ 256 := by
  unfold timesN
  refine Nat.le_trans (List.length_filter_le _ _) ?_
  rw [List.length_range]; exact pow_le_256 hm
theorem times_lt (L : List Nat) (k : Nat) : ∀ s ∈ timesN m L k, s < 2 ^ m := fun s hs => List.mem_range.1 (List.mem_filter.1 hs).1
theorem specUR_ev (n : Int) (l : List Int) (c : Int) (hl : l.length ≤ 17592186044416) : Ev (fun k => spec_UnionRank.f k n l c) (urB n l c) := by
  unfold spec_UnionRank.f urB
  refine Ev.bind (specMat_ev n l hl) ?_
  by_cases h : matB n l = true
  rotate_left
  · rw [if_neg (fun hc => h hc.1)]
    refine Ev.ifn h ?_
    apply Ev.step
    · intro k; rw [spec_UnionRank.j0]
    · exact Ev.ifp rfl (Ev.now _)
  refine Ev.ifp h (Ev.cbind (l1In_eq _ _ _) ?_)
  apply Ev.step
  · intro k; rw [spec_UnionRank.j0]
  by_cases hc : 0 ≤ c ∧ c ≤ 8
  rotate_left
  · rw [if_neg (fun hx => hc hx.2)]
    refine Ev.ifp ?_ (Ev.now _)
    rw [Bool.not_eq_true', Bool.and_eq_false_iff, decide_eq_false_iff_not, decide_eq_false_iff_not]
    omega
  rw [if_pos ⟨h, hc⟩]
  refine Ev.ifn (by rw [decide_eq_true hc.1, decide_eq_true hc.2]; decide) ?_
  obtain ⟨m, L, rfl, rfl, hM, hp⟩ := matB_mat h
  obtain ⟨c, rfl⟩ := Int.eq_ofNat_of_zero_le hc.1
  rw [show (ints L).map Int.toNat = L from toNat_map L, Int.toNat_natCast, Int.toNat_natCast]
  have hm := hM.size
  have h2m := pow_le_256 hm
  have hLl := sorted_len hM.lt hp
  have htimes : Ev (fun k => spec_l22Times.f k (m : Int) (ints L) (c : Int)) ((m : Int), ints (timesN m L c)) := by
    unfold spec_l22Times.f
    have hu := specUni_ev hm
    rw [← times_zero (L := L) hm] at hu
    refine Ev.bind hu ?_
    have hd := down (P := fun i => Ev (fun k => spec_l22Times.l0 k (c : Int) (i : Int) (m : Int) (ints L) (m : Int) (ints (timesN m L i))) ((m : Int), ints (timesN m L c))) c
      (by
        apply Ev.step
        · intro k; rw [spec_l22Times.l0, if_neg (by omega)]
        · exact Ev.now _)
      (by
        intro i hi ih
        apply Ev.step
        · intro k; rw [spec_l22Times.l0, if_pos (by omega), w_succ hi (by omega)]
        · obtain ⟨h1, h2⟩ := times_succ hM i
          exact Ev.bind (specUnion_ev hm (mat_matB (times_mat hM i) (times_pair i)) h (times_len hm L i) hLl (times_lt L i) hM.sets h1 h2 (times_pair (i + 1))) ih)
    exact hd
  refine Ev.bind htimes ?_
  have hne := (times_mat hM c).some
  have h0 : 0 < (timesN m L c).length := List.length_pos_iff.2 hne
  have hmem := List.getElem_mem h0
  have hpc := ((times_mem hM c _).1 hmem).2
  refine Ev.ifp (by rw [ints_len]; omega) ?_
  have e : rd (ints (timesN m L c)) 0 = (((timesN m L c)[0] : Nat) : Int) := ints_rd _ 0 h0
  rw [e]
  have hlt := times_lt L c _ hmem
  have hcv := specCount_ev (timesN m L c)[0] (by omega)
  rw [hpc] at hcv
  exact Ev.bind hcv (Ev.now _)
end

end Go.Proofs.Ytagncnjllpebjaa.Q

namespace Go.Proofs.Ytagncnjllpebjaa.Q
open Go Go.RowKit Go.Proofs.Ytagncnjllpebjaa.A Go.Proofs.YtagncnjllpebjaaW.PrintWords Go.Proofs.YtagncnjllpebjaaW.PrintLast Go.Proofs.YtagncnjllpebjaaW.PrintMore Go.Proofs.Ytagncnjllpebjaa.Z
set_option linter.unusedVariables false
set_option linter.unusedSimpArgs false

theorem sub_and_all : ∀ a < 256, ∀ b < 256, decide (a - (a &&& b) = dif a b) = true := by decide +kernel
theorem sub_and {a b : Nat} (ha : a < 256) (hb : b < 256) : wrap64 ((a : Int) - ((a &&& b : Nat) : Int)) = ((dif a b : Nat) : Int) := by
  have h := of_decide_eq_true (sub_and_all a ha b hb)
  have h1 : a &&& b ≤ a := Nat.and_le_left
  rw [wrap64_of (by omega) (by omega), ← h]
  omega
def loopsN (acc : Nat) (L : List Nat) : Nat := L.foldl dif acc
theorem loopsN_bit (L : List Nat) (i : Nat) : ∀ acc : Nat, (loopsN acc L).testBit i = (acc.testBit i && L.all (fun b => !b.testBit i)) := by
  induction L with
  | nil => intro acc; simp [loopsN]
  | cons b L ih =>
    intro acc
    have := ih (dif acc b)
    unfold loopsN at this ⊢
    rw [List.foldl_cons, this, dif_bit, List.all_cons, Bool.and_assoc]
def loopsB (n : Int) (l : List Int) : Int := if matB n l = true then ((loopsN (fullN n.toNat) (l.map Int.toNat) : Nat) : Int) else 0
theorem specLoops_ev (n : Int) (l : List Int) (hl : l.length ≤ 17592186044416) : Ev (fun k => spec_LoopsOf.f k n l) (loopsB n l) := by
  unfold spec_LoopsOf.f loopsB
  refine Ev.bind (specMat_ev n l hl) ?_
  by_cases h : matB n l = true
  · refine Ev.ifp h ?_
    rw [if_pos h]
    obtain ⟨m, L, rfl, hm, rfl, hL, hL256, _, _⟩ := matB_nat h
    rw [show (ints L).map Int.toNat = L from toNat_map L, Int.toNat_natCast]
    rw [ints_len] at hl
    refine Ev.cbind (specFull_eq hm) ?_
    have hd := down (P := fun i => ∀ acc : Nat, acc < 256 → Ev (fun k => spec_LoopsOf.l0 k (acc : Int) (i : Int) (m : Int) (ints L)) ((loopsN acc (L.drop i) : Nat) : Int)) L.length
      (by
        intro acc _
        apply Ev.step
        · intro k
          simp only [spec_LoopsOf.l0]
          rw [if_neg (by rw [ints_len]; omega)]
        · rw [drop_end]; exact Ev.now _)
      (by
        intro i hi ih acc ha
        have hb := hL256 _ (List.getElem_mem hi)
        apply Ev.step
        · intro k
          simp only [spec_LoopsOf.l0]
          rw [if_pos (by rw [ints_len]; omega), if_pos (by omega), ints_rd L i hi, w_succ hi hl, and_nat (lt256_63 ha) (lt256_63 hb), sub_and ha hb]
        · rw [drop_cons L i hi]; exact ih _ (dif_lt ha))
    exact hd (fullN m) (full_lt hm).2
  · refine Ev.ifn h ?_
    rw [if_neg h]; exact Ev.now _
theorem implLoops_ev (n : Int) (l : List Int) (hl : l.length ≤ 17592186044416) : Ev (fun k => impl_LoopsOf.f k n l) (loopsB n l) := by
  unfold impl_LoopsOf.f loopsB
  refine Ev.bind (implMat_ev n l hl) ?_
  by_cases h : matB n l = true
  · refine Ev.ifp h ?_
    rw [if_pos h]
    obtain ⟨m, L, rfl, hm, rfl, hL, hL256, _, _⟩ := matB_nat h
    rw [show (ints L).map Int.toNat = L from toNat_map L, Int.toNat_natCast]
    rw [ints_len] at hl
    refine Ev.cbind (implFull_eq hm) ?_
    have hd := down (P := fun i => ∀ acc : Nat, acc < 256 → Ev (fun k => impl_LoopsOf.l0 k (acc : Int) (ints L) ((ints L).length : Int) (i : Int)) ((loopsN acc (L.drop i) : Nat) : Int)) L.length
      (by
        intro acc _
        apply Ev.step
        · intro k
          simp only [impl_LoopsOf.l0]
          rw [if_neg (by rw [ints_len]; omega)]
        · rw [drop_end]; exact Ev.now _)
      (by
        intro i hi ih acc ha
        have hb := hL256 _ (List.getElem_mem hi)
        apply Ev.step
        · intro k
          simp only [impl_LoopsOf.l0]
          rw [if_pos (by rw [ints_len]; omega), if_pos (by omega), if_pos (by rw [ints_len]; omega), ints_rd L i hi, w_succ hi hl, andNot_nat (lt256_63 ha) (lt256_63 hb)]
        · rw [drop_cons L i hi]; exact ih _ (dif_lt ha))
    exact hd (fullN m) (full_lt hm).2
  · refine Ev.ifn h ?_
    rw [if_neg h]; exact Ev.now _

end Go.Proofs.Ytagncnjllpebjaa.Q

namespace Go.Proofs.Ytagncnjllpebjaa.Q
open Go Go.RowKit Go.Proofs.Ytagncnjllpebjaa.A Go.Proofs.YtagncnjllpebjaaW.PrintWords Go.Proofs.YtagncnjllpebjaaW.PrintLast Go.Proofs.YtagncnjllpebjaaW.PrintMore Go.Proofs.Ytagncnjllpebjaa.Z
set_option linter.unusedVariables false
set_option linter.unusedSimpArgs false

theorem pc_full : ∀ m < 9, pc (fullN m) = m := by decide +kernel
theorem urN_le {m : Nat} {L : List Nat} (hM : Mat m L) (k : Nat) : urN m L k ≤ m := by
  obtain ⟨s, hs, he⟩ := urN_ex hM k
  have h1 := (Mat.up hM k).sets s hs
  have hm := hM.size
  rw [← he, ← pc_full m (by omega)]
  exact pc_mono fun i _ hi => by
    rw [full_bit]
    exact decide_eq_true (bit_lt h1 hi)
theorem noloops {m : Nat} {L : List Nat} (h : loopsN (fullN m) L = 0) : ∀ e, e < m → ∃ b ∈ L, b.testBit e = true := by
  intro e he
  have := loopsN_bit L e (fullN m)
  rw [h, Nat.zero_testBit, full_bit, decide_eq_true he, Bool.true_and] at this
  have h2 := this.symm
  rw [Bool.eq_false_iff] at h2
  refine Classical.byContradiction fun hc => h2 (List.all_eq_true.2 fun b hb => ?_)
  rw [Bool.not_eq_true', Bool.eq_false_iff]
  exact fun hx => hc ⟨b, hb, hx⟩
def covN (m : Nat) (L : List Nat) : Nat := ((List.range (m + 1)).find? (fun k => decide (urN m L k = m))).getD 0
theorem covN_spec {m : Nat} {L : List Nat} (hM : Mat m L) (h : loopsN (fullN m) L = 0) : covN m L ≤ m ∧ urN m L (covN m L) = m ∧ ∀ k, k < covN m L → urN m L k ≠ m := by
  have hm := hM.size
  have hall := up_all hM (noloops h) m (Nat.le_refl _)
  have h1 := urN_max hM m _ hall
  rw [pc_full m (by omega)] at h1
  have h2 := urN_le hM m
  unfold covN
  cases hx : (List.range (m + 1)).find? (fun k => decide (urN m L k = m)) with
  | none =>
    have := List.find?_eq_none.1 hx m (List.mem_range.2 (by omega))
    rw [decide_eq_true (show urN m L m = m by omega)] at this
    exact absurd rfl this
  | some x =>
    rw [Option.getD_some]
    have hmem := List.mem_range.1 (List.mem_of_find?_eq_some hx)
    rw [List.find?_range_eq_some] at hx
    refine ⟨by omega, of_decide_eq_true hx.1, fun k hk => ?_⟩
    have := hx.2.2 k hk
    simpa using this
def cvB (n : Int) (l : List Int) : Int := if matB n l = true ∧ loopsB n l = 0 then ((covN n.toNat (l.map Int.toNat) : Nat) : Int) else -1
theorem implCover_ev (n : Int) (l : List Int) (hl : l.length ≤ 17592186044416) : Ev (fun k => impl_CoverNumber.f k n l) (cvB n l) := by
  unfold impl_CoverNumber.f cvB
  refine Ev.bind (implMat_ev n l hl) ?_
  by_cases h : matB n l = true
  rotate_left
  · rw [if_neg (fun hc => h hc.1)]
    refine Ev.ifn h ?_
    apply Ev.step
    · intro k; rw [impl_CoverNumber.j0]
    · exact Ev.ifp rfl (Ev.now _)
  refine Ev.ifp h (Ev.bind (implLoops_ev n l hl) ?_)
  apply Ev.step
  · intro k; rw [impl_CoverNumber.j0]
  by_cases h0 : loopsB n l = 0
  rotate_left
  · rw [if_neg (fun hc => h0 hc.2)]
    exact Ev.ifp (by rw [bne_iff_ne]; exact h0) (Ev.now _)
  rw [if_pos ⟨h, h0⟩]
  refine Ev.ifn (by rw [h0]; decide) ?_
  have hur := fun c => implUR_ev n l c hl
  unfold urB at hur
  unfold loopsB at h0
  rw [if_pos h] at h0
  have h' := h
  obtain ⟨m, L, rfl, rfl, hM, _⟩ := matB_mat h
  rw [show (ints L).map Int.toNat = L from toNat_map L, Int.toNat_natCast] at *
  have hm := hM.size
  obtain ⟨k1, k2, k3⟩ := covN_spec hM (by omega)
  have hd := down (P := fun i => i ≤ covN m L → Ev (fun k => impl_CoverNumber.l0 k (i : Int) (m : Int) (ints L)) ((covN m L : Nat) : Int)) (covN m L)
    (by
      intro _
      apply Ev.step
      · intro k; rw [impl_CoverNumber.l0]
      · have := hur ((covN m L : Nat) : Int)
        rw [if_pos ⟨h', by omega, by omega⟩, Int.toNat_natCast, k2] at this
        exact Ev.bind this (Ev.ifp rfl (Ev.now _)))
    (by
      intro i hi ih _
      apply Ev.step
      · intro k; rw [impl_CoverNumber.l0]
      · have := hur (i : Int)
        rw [if_pos ⟨h', by omega, by omega⟩, Int.toNat_natCast] at this
        refine Ev.bind this ?_
        have := k3 i hi
        refine Ev.ifn (by omega) ?_
        rw [w_succ hi (by omega)]
        exact ih (by omega))
  exact hd (by omega)
theorem specCover_ev (n : Int) (l : List Int) (hl : l.length ≤ 17592186044416) : Ev (fun k => spec_CoverNumber.f k n l) (cvB n l) := by
  unfold spec_CoverNumber.f cvB
  refine Ev.bind (specMat_ev n l hl) ?_
  by_cases h : matB n l = true
  rotate_left
  · rw [if_neg (fun hc => h hc.1)]
    refine Ev.ifn h ?_
    apply Ev.step
    · intro k; rw [spec_CoverNumber.j0]
    · exact Ev.ifp rfl (Ev.now _)
  refine Ev.ifp h (Ev.bind (specLoops_ev n l hl) ?_)
  apply Ev.step
  · intro k; rw [spec_CoverNumber.j0]
  by_cases h0 : loopsB n l = 0
  rotate_left
  · rw [if_neg (fun hc => h0 hc.2)]
    exact Ev.ifp (by rw [bne_iff_ne]; exact h0) (Ev.now _)
  rw [if_pos ⟨h, h0⟩]
  refine Ev.ifn (by rw [h0]; decide) ?_
  have hur := fun c => specUR_ev n l c hl
  unfold urB at hur
  unfold loopsB at h0
  rw [if_pos h] at h0
  have h' := h
  obtain ⟨m, L, rfl, rfl, hM, _⟩ := matB_mat h
  rw [show (ints L).map Int.toNat = L from toNat_map L, Int.toNat_natCast] at *
  have hm := hM.size
  obtain ⟨k1, k2, k3⟩ := covN_spec hM (by omega)
  have hd := down (P := fun i => i ≤ covN m L → Ev (fun k => spec_CoverNumber.l0 k (i : Int) (m : Int) (ints L)) ((covN m L : Nat) : Int)) (covN m L)
    (by
      intro _
      apply Ev.step
      · intro k; rw [spec_CoverNumber.l0]
      · have := hur ((covN m L : Nat) : Int)
        rw [if_pos ⟨h', by omega, by omega⟩, Int.toNat_natCast, k2] at this
        exact Ev.bind this (Ev.ifn (by omega) (Ev.now _)))
    (by
      intro i hi ih _
      apply Ev.step
      · intro k; rw [spec_CoverNumber.l0]
      · have := hur (i : Int)
        rw [if_pos ⟨h', by omega, by omega⟩, Int.toNat_natCast] at this
        refine Ev.bind this ?_
        have h1 := k3 i hi
        have h2 := urN_le hM i
        refine Ev.ifp (by omega) ?_
        rw [w_succ hi (by omega)]
        exact ih (by omega))
  exact hd (by omega)

end Go.Proofs.Ytagncnjllpebjaa.Q

namespace Go.Proofs.Ytagncnjllpebjaa.Pure
open Go Go.RowKit Go.Proofs.Ytagncnjllpebjaa.A Go.Proofs.YtagncnjllpebjaaW.PrintWords Go.Proofs.YtagncnjllpebjaaW.PrintLast Go.Proofs.YtagncnjllpebjaaW.PrintMore Go.Proofs.Ytagncnjllpebjaa.Z Go.Proofs.Ytagncnjllpebjaa.Q
set_option linter.unusedVariables false
set_option linter.unusedSimpArgs false

theorem FnExactCoverNumber : laws_FnExactCoverNumber.Pure := by
  intro n l hn hm hw
  unfold laws_FnExactCoverNumber.f
  refine Ev.rounds ?_
  refine Ev.cbind (szMat_eq n l 1048576 (by omega) (by omega) hm) ?_
  by_cases h1 : (l.length : Int) > 1048576
  · rw [if_pos h1]
    exact Ev.ifp (by decide) (Ev.now _)
  rw [if_neg h1]
  refine Ev.ifn (by omega) ?_
  have hl : l.length ≤ 17592186044416 := by omega
  exact Ev.bind (toMat_ev n l hl) (Ev.bind (specCover_ev n l hl) (Ev.bind (toMat_ev n l hl) (Ev.bind (implCover_ev n l hl) (Ev.ifp rfl (Ev.bind (toMat_ev n l hl) (Ev.bind (eqMat_ev n l hl) (Ev.ifp rfl (Ev.now _))))))))

end Go.Proofs.Ytagncnjllpebjaa.Pure
