/- The pure side of the law FnExactGreedyBase: what the Lean functions of the print compute, and that the law holds of them. Conditions: those in each lemma. -/
import Derived.Test.YtagncnjllpebjaaMFnExactGreedyBase1
import Derived.Test.YtagncnjllpebjaaMFnExactGreedyBase2
import Derived.Test.YtagncnjllpebjaaMFnExactGreedyBase3
import Derived.Test.YtagncnjllpebjaaMFnExactGreedyBase4
import Derived.Test.YtagncnjllpebjaaMFnExactGreedyBaseq0
namespace Go.Proofs.Ytagncnjllpebjaa.A
open Go.RowKit
def laws_FnExactGreedyBase.Pure : Prop := ∀ (a0_0 : Int) (l0_1 : List Int) (l1 : List Int), (Lit.int .i64 a0_0).wf = true → l0_1.length ≤ maxLen → (∀ x ∈ l0_1, (Lit.int .i64 x).wf = true) → l1.length ≤ maxLen → (∀ x ∈ l1, (Lit.int .i64 x).wf = true) → ∃ k, laws_FnExactGreedyBase.f k a0_0 l0_1 l1 = some true
end Go.Proofs.Ytagncnjllpebjaa.A
namespace Go.Proofs.Ytagncnjllpebjaa.Q
open Go Go.RowKit Go.Proofs.Ytagncnjllpebjaa.A Go.Proofs.YtagncnjllpebjaaW.PrintWords Go.Proofs.YtagncnjllpebjaaW.PrintLast Go.Proofs.YtagncnjllpebjaaW.PrintMore Go.Proofs.Ytagncnjllpebjaa.Z
set_option linter.unusedVariables false
set_option linter.unusedSimpArgs false
theorem toInt_l0 (l : List Int) (hl : l.length ≤ 17592186044416) : ∀ (rest pre : List Int), l = pre ++ rest → Ev (fun k => laws_toIntS.l0 k l (pre ++ List.replicate rest.length 0) (pre.length : Int)) l := by
  intro rest
  induction rest with
  | nil =>
    intro pre h
    apply Ev.step
    · intro k
      simp only [laws_toIntS.l0]
      rw [if_neg (by rw [h]; simp)]
    · subst h; simpa using Ev.now _
  | cons x rest ih =>
    intro pre h
    have hlen : (pre.length : Int) < (l.length : Int) := by rw [h]; simp; omega
    apply Ev.step
    · intro k
      simp only [laws_toIntS.l0]
      rw [if_pos hlen, if_pos (by omega), if_pos (by simp; omega)]
    · have := ih (pre ++ [x]) (by rw [h]; simp)
      have e : wrap64 ((pre.length : Int) + 1) = ((pre ++ [x]).length : Int) := by
        rw [wrap64_of (by omega) (by omega)]; simp
      rw [e]
      have e2 : (pre ++ List.replicate (x :: rest).length 0).set (pre.length : Int).toNat (rd l (pre.length : Int)) = (pre ++ [x]) ++ List.replicate rest.length 0 := by
        have : rd l (pre.length : Int) = x := by rw [h]; exact rd_mid _ _ _
        rw [this]
        simp [List.replicate_succ]
      rw [e2]
      exact this
theorem toInt_ev (l : List Int) (hl : l.length ≤ 17592186044416) : Ev (fun k => laws_toIntS.f k l) l := by
  unfold laws_toIntS.f
  refine Ev.ifp (by omega) (Ev.ifp (by simp; omega) ?_)
  simpa using toInt_l0 l hl l [] rfl
theorem eqInt_l0 (l : List Int) (hl : l.length ≤ 17592186044416) (l' : List Int) (hll : l'.length = l.length) : ∀ (rest rest' pre : List Int), l = pre ++ rest → l' = pre ++ rest' → Ev (fun k => laws_eqIntS.l0 k l l' (pre.length : Int)) (decide (l = l')) := by
  intro rest
  induction rest with
  | nil =>
    intro rest' pre h h'
    have : rest' = [] := by
      apply List.eq_nil_of_length_eq_zero
      have h1 := congrArg List.length h
      have h2 := congrArg List.length h'
      rw [List.length_append] at h1 h2
      simp only [List.length_nil] at h1
      omega
    subst this
    apply Ev.step
    · intro k
      simp only [laws_eqIntS.l0]
      rw [if_neg (by rw [h]; simp)]
    · have : l = l' := by rw [h, h']
      simpa [this] using Ev.now _
  | cons x rest ih =>
    intro rest' pre h h'
    have hlen : (pre.length : Int) < (l.length : Int) := by rw [h]; simp; omega
    cases rest' with
    | nil => exact absurd hll (by rw [h, h']; simp)
    | cons y rest' =>
    have e1 : rd l (pre.length : Int) = x := by rw [h]; exact rd_mid _ _ _
    have e2 : rd l' (pre.length : Int) = y := by rw [h']; exact rd_mid _ _ _
    by_cases hxy : x = y
    · subst hxy
      apply Ev.step
      · intro k
        simp only [laws_eqIntS.l0]
        rw [if_pos hlen, if_pos (by omega), if_pos (by omega), if_pos (by rw [e1, e2])]
      · have := ih rest' (pre ++ [x]) (by rw [h]; simp) (by rw [h']; simp)
        have e : wrap64 ((pre.length : Int) + 1) = ((pre ++ [x]).length : Int) := by
          rw [wrap64_of (by omega) (by omega)]; simp
        rw [e]
        exact this
    · apply Ev.step
      · intro k
        simp only [laws_eqIntS.l0]
        rw [if_pos hlen, if_pos (by omega), if_pos (by omega), if_neg (by rw [e1, e2]; exact hxy)]
      · have : l ≠ l' := by rw [h, h']; simp [hxy]
        simpa [this] using Ev.now _
theorem eqInt_ev (l l' : List Int) (hl : l.length ≤ 17592186044416) : Ev (fun k => laws_eqIntS.f k l l') (decide (l = l')) := by
  unfold laws_eqIntS.f
  by_cases h : (l.length : Int) = (l'.length : Int)
  · refine Ev.ifp h ?_
    exact eqInt_l0 l hl l' (by omega) l l' [] rfl rfl
  · refine Ev.ifn h ?_
    have : l ≠ l' := by rintro rfl; exact h rfl
    simpa [this] using Ev.now _
theorem eqInt_self (l : List Int) (hl : l.length ≤ 17592186044416) : Ev (fun k => laws_eqIntS.f k l l) true := by simpa using eqInt_ev l l hl
end Go.Proofs.Ytagncnjllpebjaa.Q
namespace Go.Proofs.Ytagncnjllpebjaa.Q
open Go Go.RowKit Go.Proofs.Ytagncnjllpebjaa.A Go.Proofs.YtagncnjllpebjaaW.PrintWords Go.Proofs.YtagncnjllpebjaaW.PrintLast Go.Proofs.YtagncnjllpebjaaW.PrintMore Go.Proofs.Ytagncnjllpebjaa.Z
set_option linter.unusedVariables false
set_option linter.unusedSimpArgs false
theorem szMat_eq (n : Int) (l : List Int) (left : Int) (h0 : 0 ≤ left) (h1 : left ≤ 1048576) (hl : l.length ≤ maxLen) : laws_szMatroid.f n l left = some (if (l.length : Int) > left then -1 else left - (l.length : Int)) := by
  unfold maxLen at hl
  unfold laws_szMatroid.f laws_szIntS.f
  rw [wrap64_of (by omega) (by omega)]
  by_cases h : (l.length : Int) > left
  · rw [if_pos h, if_pos (by omega), Option.bind_some, if_pos (by decide)]
  · rw [if_neg h, if_neg (by omega), Option.bind_some, if_neg (by omega)]
theorem toMat_ev (n : Int) (l : List Int) (hl : l.length ≤ 17592186044416) : Ev (fun k => laws_toMatroid.f k n l) (n, l) := by
  unfold laws_toMatroid.f
  exact Ev.bind (toInt_ev l hl) (Ev.now _)
theorem eqMat_ev (n : Int) (l : List Int) (hl : l.length ≤ 17592186044416) : Ev (fun k => laws_eqMatroid.f k n l n l) true := by
  unfold laws_eqMatroid.f
  refine Ev.ifp rfl (Ev.bind (eqInt_self l hl) (Ev.ifp rfl (Ev.now _)))
end Go.Proofs.Ytagncnjllpebjaa.Q
namespace Go.Proofs.Ytagncnjllpebjaa.Q
open Go Go.RowKit Go.Proofs.Ytagncnjllpebjaa.A Go.Proofs.YtagncnjllpebjaaW.PrintWords Go.Proofs.YtagncnjllpebjaaW.PrintLast Go.Proofs.YtagncnjllpebjaaW.PrintMore Go.Proofs.Ytagncnjllpebjaa.Z
set_option linter.unusedVariables false
set_option linter.unusedSimpArgs false
theorem l1In_eq (a b c : Int) : spec_l1In.f a b c = some (decide (b ≤ a) && decide (a ≤ c)) := by
  unfold spec_l1In.f
  by_cases h : a ≥ b
  · rw [if_pos h]; simp [h]
  · rw [if_neg h]; simp only [ge_iff_le] at h; simp [h]
theorem isSize_eq (a : Int) : impl_isSize.f a = some (decide (0 ≤ a) && decide (a ≤ 8)) := by
  unfold impl_isSize.f
  by_cases h : a ≥ 0
  · rw [if_pos h]; simp [h]
  · rw [if_neg h]; simp only [ge_iff_le] at h; simp [h]
theorem specIsSet_eq (n s : Int) : spec_IsSet.f n s = some (isSetB n s) := by
  unfold spec_IsSet.f
  rw [l1In_eq, Option.bind_some]
  unfold isSetB
  by_cases h : (decide (0 ≤ n) && decide (n ≤ 8)) = true
  · rw [if_pos h, if_pos (u64_nonneg _), l1In_eq, Option.bind_some, h, Bool.true_and]
    simp only [Bool.and_eq_true, decide_eq_true_eq] at h
    obtain ⟨m, rfl⟩ := Int.eq_ofNat_of_zero_le h.1
    have h8 : m ≤ 8 := by omega
    rw [u64_of (by omega) (by omega), shl_one (by omega)]
    have hp := pow_le_256 h8
    rw [Int.toNat_natCast]
    have e : (2 : Int) ^ m = ((2 ^ m : Nat) : Int) := by simp
    rw [e]
    generalize 2 ^ m = q at hp
    rw [wrap64_of (by omega) (by omega)]
    congr 2
    rw [Bool.eq_iff_iff]
    simp only [decide_eq_true_eq]
    omega
  · rw [if_neg h, Bool.eq_false_iff.2 h, Bool.false_and]
theorem implIsSet_eq (n s : Int) : impl_IsSet.f n s = some (isSetB n s) := by
  unfold impl_IsSet.f
  rw [isSize_eq, Option.bind_some]
  unfold isSetB
  by_cases h : (decide (0 ≤ n) && decide (n ≤ 8)) = true
  · rw [if_pos h, h, Bool.true_and]
    simp only [Bool.and_eq_true, decide_eq_true_eq] at h
    by_cases hs : s ≥ 0
    · rw [if_pos hs, if_pos h.1]
      obtain ⟨m, rfl⟩ := Int.eq_ofNat_of_zero_le h.1
      rw [shl_one (by omega), Int.toNat_natCast]
      have e : ((2 ^ m : Nat) : Int) = 2 ^ m := by simp
      rw [e]
      have : decide (0 ≤ s) = true := by simpa using hs
      rw [this, Bool.true_and]
    · rw [if_neg hs]
      have : decide (0 ≤ s) = false := by simpa using hs
      rw [this, Bool.false_and]
  · rw [if_neg h, Bool.eq_false_iff.2 h, Bool.false_and]
theorem isSet8 (s : Int) : isSetB 8 s = isAnyB s := by
  unfold isSetB isAnyB
  rw [Bool.eq_iff_iff]
  simp
theorem isAny_eq (s : Int) : impl_isAny.f s = some (isAnyB s) := by
  unfold impl_isAny.f isAnyB
  by_cases h : s ≥ 0
  · rw [if_pos h]; simp [h]
  · rw [if_neg h]; simp only [ge_iff_le] at h; simp [h]
theorem isAnyB_lt {s : Int} (h : isAnyB s = true) : ∃ t : Nat, s = t ∧ t < 256 := by
  simp only [isAnyB, Bool.and_eq_true, decide_eq_true_eq] at h
  obtain ⟨t, rfl⟩ := Int.eq_ofNat_of_zero_le h.1
  exact ⟨t, rfl, by omega⟩
theorem implHas_eq (s e : Int) : impl_HasElement.f s e = some (hasB s e) := by
  unfold impl_HasElement.f hasB
  rw [isAny_eq, Option.bind_some]
  by_cases h : isAnyB s = true
  · rw [if_pos h, h, Bool.true_and]
    obtain ⟨t, rfl, ht⟩ := isAnyB_lt h
    by_cases h0 : e ≥ 0
    · rw [if_pos h0]
      obtain ⟨m, rfl⟩ := Int.eq_ofNat_of_zero_le h0
      by_cases h8 : (m : Int) < 8
      · rw [if_pos h8, if_pos h0, bit_nat (lt256_63 ht)]
        simp [h8]
      · rw [if_neg h8]; simp [h8]
    · rw [if_neg h0]; simp only [ge_iff_le] at h0; simp [h0]
  · rw [if_neg h, Bool.eq_false_iff.2 h]; simp
theorem l2Has_eq {s e : Nat} (hs : s < 2 ^ 63) (he : e < 2 ^ 63) : spec_l2Has.f (s : Int) (e : Int) = some (s.testBit e) := by
  unfold spec_l2Has.f
  rw [if_pos (u64_nonneg _), u64_of (by omega) (by omega), bit_nat hs]
end Go.Proofs.Ytagncnjllpebjaa.Q
namespace Go.Proofs.Ytagncnjllpebjaa.Q
open Go Go.RowKit Go.Proofs.Ytagncnjllpebjaa.A Go.Proofs.YtagncnjllpebjaaW.PrintWords Go.Proofs.YtagncnjllpebjaaW.PrintLast Go.Proofs.YtagncnjllpebjaaW.PrintMore Go.Proofs.Ytagncnjllpebjaa.Z
set_option linter.unusedVariables false
set_option linter.unusedSimpArgs false
def famG (n : Int) : Option Int → List Int → Bool
  | _, [] => decide (0 ≤ n) && decide (n ≤ 8)
  | p, x :: xs => isSetB n x && ((match p with | none => true | some q => decide (q < x)) && famG n (some x) xs)
/-- A family: sets of n elements, strictly ascending. -/
def famB (n : Int) (l : List Int) : Bool := famG n none l
def prevO (l : List Int) (i : Nat) : Option Int := if i = 0 then none else some (rd l ((i - 1 : Nat) : Int))
theorem prevO_succ (l : List Int) (i : Nat) (hi : i < l.length) : prevO l (i + 1) = some l[i] := by
  unfold prevO
  rw [if_neg (by omega), Nat.add_sub_cancel, rd_getElem l i hi]
theorem specFam_ev (n : Int) (l : List Int) (hl : l.length ≤ 17592186044416) : Ev (fun k => spec_IsFamily.f k n l) (famB n l) := by
  have h := down (P := fun i => Ev (fun k => spec_IsFamily.l0 k n l (i : Int)) (famG n (prevO l i) (l.drop i))) l.length
    (by
      apply Ev.step
      · intro k
        simp only [spec_IsFamily.l0, l1In_eq, Option.bind_some]
        rw [if_neg (by omega)]
      · rw [drop_end]; exact Ev.now _)
    (by
      intro i hi ih
      apply Ev.step
      · intro k
        simp only [spec_IsFamily.l0, specIsSet_eq, Option.bind_some]
        rw [if_pos (by omega), if_pos (by omega), rd_getElem l i hi, w_succ hi hl]
      · rw [drop_cons l i hi]
        rw [prevO_succ l i hi] at ih
        simp only [famG]
        by_cases hx : isSetB n l[i] = true
        · refine Ev.ifp hx ?_
          rw [hx, Bool.true_and]
          by_cases h0 : (i : Int) > 0
          · refine Ev.ifp h0 ?_
            rw [wrap64_of (by omega) (by omega), show (i : Int) - 1 = ((i - 1 : Nat) : Int) from by omega]
            refine Ev.ifp (by omega) (Ev.ifp (by omega) ?_)
            unfold prevO
            rw [if_neg (by omega)]
            by_cases hq : rd l ((i - 1 : Nat) : Int) ≥ l[i]
            · refine Ev.ifp hq ?_
              simp only []
              rw [show decide (rd l ((i - 1 : Nat) : Int) < l[i]) = false from by simpa using hq, Bool.false_and]
              exact Ev.now _
            · refine Ev.ifn hq ?_
              simp only []
              rw [show decide (rd l ((i - 1 : Nat) : Int) < l[i]) = true from by simpa using hq, Bool.true_and]
              exact ih
          · refine Ev.ifn h0 ?_
            unfold prevO
            rw [if_pos (by omega)]
            simp only [Bool.true_and]
            exact ih
        · refine Ev.ifn hx ?_
          rw [Bool.eq_false_iff.2 hx, Bool.false_and]; exact Ev.now _)
  exact h
theorem implFam_ev (n : Int) (l : List Int) (hl : l.length ≤ 17592186044416) : Ev (fun k => impl_IsFamily.f k n l) (famB n l) := by
  have h := down (P := fun i => Ev (fun k => impl_IsFamily.l0 k n l l (l.length : Int) (i : Int)) (famG n (prevO l i) (l.drop i))) l.length
    (by
      apply Ev.step
      · intro k
        simp only [impl_IsFamily.l0, isSize_eq, Option.bind_some]
        rw [if_neg (by omega)]
      · rw [drop_end]; exact Ev.now _)
    (by
      intro i hi ih
      apply Ev.step
      · intro k
        simp only [impl_IsFamily.l0, implIsSet_eq, Option.bind_some]
        rw [if_pos (by omega), if_pos (by omega), if_pos (by omega), rd_getElem l i hi, w_succ hi hl]
      · rw [drop_cons l i hi]
        rw [prevO_succ l i hi] at ih
        simp only [famG]
        by_cases hx : isSetB n l[i] = true
        · refine Ev.ifp hx ?_
          rw [hx, Bool.true_and]
          by_cases h0 : (i : Int) > 0
          · refine Ev.ifp h0 ?_
            rw [wrap64_of (by omega) (by omega), show (i : Int) - 1 = ((i - 1 : Nat) : Int) from by omega]
            refine Ev.ifp (by omega) (Ev.ifp (by omega) ?_)
            unfold prevO
            rw [if_neg (by omega)]
            by_cases hq : l[i] ≤ rd l ((i - 1 : Nat) : Int)
            · refine Ev.ifp hq ?_
              simp only []
              rw [show decide (rd l ((i - 1 : Nat) : Int) < l[i]) = false from by simpa using hq, Bool.false_and]
              exact Ev.now _
            · refine Ev.ifn hq ?_
              simp only []
              rw [show decide (rd l ((i - 1 : Nat) : Int) < l[i]) = true from by simpa using hq, Bool.true_and]
              exact ih
          · refine Ev.ifn h0 ?_
            unfold prevO
            rw [if_pos (by omega)]
            simp only [Bool.true_and]
            exact ih
        · refine Ev.ifn hx ?_
          rw [Bool.eq_false_iff.2 hx, Bool.false_and]; exact Ev.now _)
  exact h
theorem famG_facts (n : Int) : ∀ (l : List Int) (p : Option Int), famG n p l = true → (0 ≤ n ∧ n ≤ 8) ∧ (∀ x ∈ l, isSetB n x = true) ∧ l.Pairwise (· < ·) ∧ (∀ q, p = some q → ∀ x ∈ l, q < x) := by
  intro l
  induction l with
  | nil =>
    intro p h
    simp only [famG, Bool.and_eq_true, decide_eq_true_eq] at h
    exact ⟨h, fun x hx => by simp at hx, List.Pairwise.nil, fun q _ x hx => by simp at hx⟩
  | cons y l ih =>
    intro p h
    simp only [famG, Bool.and_eq_true] at h
    obtain ⟨h1, h2, h3⟩ := h
    obtain ⟨i1, i2, i3, i4⟩ := ih _ h3
    refine ⟨i1, fun x hx => ?_, List.pairwise_cons.2 ⟨fun x hx => i4 y rfl x hx, i3⟩, fun q hq x hx => ?_⟩
    · rcases List.mem_cons.1 hx with rfl | hx
      · exact h1
      · exact i2 x hx
    · subst hq
      simp only [decide_eq_true_eq] at h2
      rcases List.mem_cons.1 hx with rfl | hx
      · exact h2
      · exact Int.lt_trans h2 (i4 y rfl x hx)
/-- A family as numbers: its size, its sets. -/
theorem famB_nat {n : Int} {l : List Int} (h : famB n l = true) : ∃ (m : Nat) (L : List Nat), n = m ∧ m ≤ 8 ∧ l = L.map (fun x : Nat => (x : Int)) ∧ (∀ x ∈ L, x < 2 ^ m) ∧ L.Pairwise (· < ·) := by
  obtain ⟨h1, h2, h3, _⟩ := famG_facts n l none h
  obtain ⟨m, rfl⟩ := Int.eq_ofNat_of_zero_le h1.1
  have hnn : ∀ x ∈ l, 0 ≤ x := fun x hx => by
    obtain ⟨_, t, _, rfl, _⟩ := isSetB_lt (h2 x hx)
    omega
  have hl : l = (l.map Int.toNat).map (fun x : Nat => (x : Int)) := by
    rw [List.map_map]
    conv => lhs; rw [← List.map_id l]
    apply List.map_congr_left
    intro x hx
    have := hnn x hx
    simp only [id, Function.comp]
    omega
  refine ⟨m, l.map Int.toNat, rfl, by omega, hl, fun x hx => ?_, ?_⟩
  · obtain ⟨y, hy, rfl⟩ := List.mem_map.1 hx
    obtain ⟨m', t, hm, rfl, _, ht, _⟩ := isSetB_lt (h2 y hy)
    have : m = m' := by omega
    subst this
    rw [Int.toNat_natCast]; exact ht
  · rw [List.pairwise_map]
    exact h3.imp_of_mem (fun {a b} ha hb hab => by
      have := hnn a ha
      have := hnn b hb
      omega)
end Go.Proofs.Ytagncnjllpebjaa.Q
namespace Go.Proofs.Ytagncnjllpebjaa.Q
open Go Go.RowKit Go.Proofs.Ytagncnjllpebjaa.A Go.Proofs.YtagncnjllpebjaaW.PrintWords Go.Proofs.YtagncnjllpebjaaW.PrintLast Go.Proofs.YtagncnjllpebjaaW.PrintMore Go.Proofs.Ytagncnjllpebjaa.Z
set_option linter.unusedVariables false
set_option linter.unusedSimpArgs false
/-- The elements of a set, as whole numbers; none where it is no set. -/
def elsB (s : Int) : List Int := ((List.range 8).filter (fun e : Nat => hasB s (e : Int))).map (fun e : Nat => (e : Int))
theorem range'_cons {i n : Nat} (h : i < n) : List.range' i (n - i) = i :: List.range' (i + 1) (n - (i + 1)) := by
  rw [show n - i = (n - (i + 1)) + 1 from by omega, List.range'_succ]
theorem filter_cons_map {s : Int} {i : Nat} (l : List Nat) : ((i :: l).filter (fun e : Nat => hasB s (e : Int))).map (fun e : Nat => (e : Int)) = (if hasB s (i : Int) = true then [(i : Int)] else []) ++ (l.filter (fun e : Nat => hasB s (e : Int))).map (fun e : Nat => (e : Int)) := by
  rw [List.filter_cons]
  by_cases h : hasB s (i : Int) = true
  · rw [if_pos h, if_pos h]; rfl
  · rw [if_neg h, if_neg h]; rfl
theorem implElements_ev (s : Int) : Ev (fun k => impl_ElementsOf.f k s) (elsB s) := by
  have h := down (P := fun i => ∀ acc : List Int, acc.length ≤ i → Ev (fun k => impl_ElementsOf.l0 k s acc (i : Int)) (acc ++ ((List.range' i (8 - i)).filter (fun e : Nat => hasB s (e : Int))).map (fun e : Nat => (e : Int)))) 8
    (by
      intro acc ha
      apply Ev.step
      · intro k
        simp only [impl_ElementsOf.l0, implHas_eq, Option.bind_some]
        rw [if_neg (by omega)]
      · simpa using Ev.now _)
    (by
      intro i hi ih acc ha
      apply Ev.step
      · intro k
        simp only [impl_ElementsOf.l0, implHas_eq, Option.bind_some]
        rw [if_pos (by omega), w_succ hi (by omega)]
      · rw [range'_cons hi, filter_cons_map]
        by_cases hx : hasB s (i : Int) = true
        · refine Ev.ifp hx (Ev.ifp (by omega) ?_)
          rw [if_pos hx, ← List.append_assoc]
          exact ih (acc ++ [(i : Int)]) (by simp; omega)
        · refine Ev.ifn hx ?_
          rw [if_neg hx]
          exact ih acc (by omega))
  have h0 := h [] (Nat.le_refl 0)
  rw [show ((0 : Nat) : Int) = 0 from rfl] at h0
  have e : elsB s = [] ++ ((List.range' 0 (8 - 0)).filter (fun e : Nat => hasB s (e : Int))).map (fun e : Nat => (e : Int)) := by
    unfold elsB
    rw [List.nil_append, List.range_eq_range']
  rw [e]
  unfold impl_ElementsOf.f
  exact h0
theorem elsB_nat {s : Nat} (h : s < 256) : elsB (s : Int) = (els s).map (fun e : Nat => (e : Int)) := by
  have e : (List.range 8).filter (fun e : Nat => hasB (s : Int) (e : Int)) = (List.range 8).filter (fun e : Nat => s.testBit e) :=
    List.filter_congr (fun e he => by
      rw [List.mem_range] at he
      rw [hasB_nat]
      simp [h, he])
  unfold elsB els
  rw [e]
end Go.Proofs.Ytagncnjllpebjaa.Q
namespace Go.Proofs.Ytagncnjllpebjaa.Q
open Go Go.RowKit Go.Proofs.Ytagncnjllpebjaa.A Go.Proofs.YtagncnjllpebjaaW.PrintWords Go.Proofs.YtagncnjllpebjaaW.PrintLast Go.Proofs.YtagncnjllpebjaaW.PrintMore Go.Proofs.Ytagncnjllpebjaa.Z
set_option linter.unusedVariables false
set_option linter.unusedSimpArgs false
theorem contains_cons (x : Int) (l : List Int) (a : Int) : (x :: l).contains a = (decide (x = a) || l.contains a) := by
  rw [Bool.eq_iff_iff]
  simp only [List.contains_iff_mem, List.mem_cons, Bool.or_eq_true, decide_eq_true_eq]
  constructor
  · rintro (h | h)
    · exact .inl h.symm
    · exact .inr h
  · rintro (h | h)
    · exact .inl h.symm
    · exact .inr h
theorem specHasSet_ev (l : List Int) (a : Int) (hl : l.length ≤ 17592186044416) : Ev (fun k => spec_HasSet.f k l a) (l.contains a) := by
  have h := down (P := fun i => Ev (fun k => spec_HasSet.l0 k l a (i : Int)) ((l.drop i).contains a)) l.length
    (by
      apply Ev.step
      · intro k
        simp only [spec_HasSet.l0]
        rw [if_neg (by omega)]
      · rw [drop_end]; exact Ev.now _)
    (by
      intro i hi ih
      apply Ev.step
      · intro k
        simp only [spec_HasSet.l0]
        rw [if_pos (by omega), if_pos (by omega), rd_getElem l i hi, w_succ hi hl]
      · rw [drop_cons l i hi, contains_cons]
        by_cases hx : l[i] = a
        · refine Ev.ifp hx ?_
          rw [show decide (l[i] = a) = true from by simpa using hx, Bool.true_or]; exact Ev.now _
        · refine Ev.ifn hx ?_
          rw [show decide (l[i] = a) = false from by simpa using hx, Bool.false_or]; exact ih)
  exact h
end Go.Proofs.Ytagncnjllpebjaa.Q
namespace Go.Proofs.Ytagncnjllpebjaa.Q
open Go Go.RowKit Go.Proofs.Ytagncnjllpebjaa.A Go.Proofs.YtagncnjllpebjaaW.PrintWords Go.Proofs.YtagncnjllpebjaaW.PrintLast Go.Proofs.YtagncnjllpebjaaW.PrintMore Go.Proofs.Ytagncnjllpebjaa.Z
set_option linter.unusedVariables false
set_option linter.unusedSimpArgs false
theorem index_l0 (l : List Int) (a : Int) (hl : l.length ≤ 17592186044416) : ∃ r : Int, Ev (fun k => slices_Index_int_int.f k l a) r ∧ (decide (r ≥ 0) = l.contains a) := by
  have h := down (P := fun i => ∃ r : Int, Ev (fun k => slices_Index_int_int.l0 k l a (l.length : Int) (i : Int)) r ∧ (decide (r ≥ 0) = (l.drop i).contains a)) l.length
    (by
      refine ⟨-1, ?_, by rw [drop_end]; rfl⟩
      apply Ev.step
      · intro k
        simp only [slices_Index_int_int.l0]
        rw [if_neg (by omega)]
      · exact Ev.now _)
    (by
      intro i hi ih
      rw [drop_cons l i hi, contains_cons]
      by_cases hx : l[i] = a
      · refine ⟨(i : Int), ?_, ?_⟩
        · apply Ev.step
          · intro k
            simp only [slices_Index_int_int.l0]
            rw [if_pos (by omega), if_pos (by omega), if_pos (by omega), rd_getElem l i hi, if_pos hx.symm]
          · exact Ev.now _
        · rw [show decide (l[i] = a) = true from by simpa using hx, Bool.true_or]
          simp
      · obtain ⟨r, hr, hd⟩ := ih
        refine ⟨r, ?_, ?_⟩
        · apply Ev.step
          · intro k
            simp only [slices_Index_int_int.l0]
            rw [if_pos (by omega), if_pos (by omega), if_pos (by omega), rd_getElem l i hi, if_neg (fun hc => hx hc.symm), w_succ hi hl]
          · exact hr
        · rw [show decide (l[i] = a) = false from by simpa using hx, Bool.false_or]; exact hd)
  exact h
theorem contains_ev (l : List Int) (a : Int) (hl : l.length ≤ 17592186044416) : Ev (fun k => slices_Contains_int_int.f k l a) (l.contains a) := by
  obtain ⟨r, hr, hd⟩ := index_l0 l a hl
  unfold slices_Contains_int_int.f
  refine Ev.bind hr ?_
  rw [hd]; exact Ev.now _
end Go.Proofs.Ytagncnjllpebjaa.Q
namespace Go.Proofs.Ytagncnjllpebjaa.Q
open Go Go.RowKit Go.Proofs.YtagncnjllpebjaaW.PrintWords Go.Proofs.YtagncnjllpebjaaW.PrintLast Go.Proofs.YtagncnjllpebjaaW.PrintMore Go.Proofs.Ytagncnjllpebjaa.Z
set_option linter.unusedVariables false
set_option linter.unusedSimpArgs false
/-- Can e be exchanged for an element of b? -/
def hasEx (l : List Int) (a b e : Nat) : Bool := (els (dif b a)).any (fun f => l.contains ((dif a (2 ^ e) ||| 2 ^ f : Nat) : Int))
def failE (l : List Int) (a b : Nat) : List Nat → Option Nat
  | [] => none
  | e :: es => if hasEx l a b e = true then failE l a b es else some e
def failB (l : List Int) (a : Nat) : List Nat → Option (Nat × Nat)
  | [] => none
  | b :: bs => match failE l a b (els (dif a b)) with
    | none => failB l a bs
    | some e => some (b, e)
def failA (l : List Int) (L : List Nat) : List Nat → Option (Nat × Nat × Nat)
  | [] => none
  | a :: la => match failB l a L with
    | none => failA l L la
    | some (b, e) => some (a, b, e)
def told : Option (Nat × Nat × Nat) → Int × Int × Int × Bool
  | none => (0, 0, 0, false)
  | some (a, b, e) => ((a : Int), (b : Int), (e : Int), true)
/-- What FirstFailure hands back. -/
def failT (n : Int) (l : List Int) : Int × Int × Int × Bool := if famB n l = true then told (failA l (l.map Int.toNat) (l.map Int.toNat)) else (0, 0, 0, false)
theorem els_dif {a b n : Nat} (ha : a < 2 ^ n) (hn : n ≤ 8) : els (dif a b) = (List.range n).filter (fun e => a.testBit e && !b.testBit e) := by
  have h1 : (List.range 8).filter (fun e => (dif a b).testBit e) = (List.range 8).filter (fun e => decide (e < n) && (a.testBit e && !b.testBit e)) :=
    List.filter_congr (fun e _ => by
      rw [dif_bit]
      by_cases h : e < n
      · simp [h]
      · have : a.testBit e = false := Nat.testBit_lt_two_pow (Nat.lt_of_lt_of_le ha (Nat.pow_le_pow_right (by decide) (by omega)))
        simp [this])
  unfold els
  rw [h1]
  have h2 : ∀ (p : Nat → Bool) (a b : Nat), (List.range a).filter (fun e => decide (e < b) && p e) = (List.range (min a b)).filter p := by
    intro p a b
    induction a with
    | zero => simp
    | succ a ih =>
      rw [List.range_succ, List.filter_append, ih]
      by_cases h : a < b
      · rw [show min (a + 1) b = min a b + 1 from by omega, List.range_succ, List.filter_append]
        have e : min a b = a := by omega
        rw [e]
        congr 1
        simp [List.filter_cons, h]
      · rw [show min (a + 1) b = min a b from by omega]
        simp [List.filter_cons, h]
  rw [h2, Nat.min_eq_right hn]
end Go.Proofs.Ytagncnjllpebjaa.Q
namespace Go.Proofs.Ytagncnjllpebjaa.Q
open Go Go.RowKit Go.Proofs.Ytagncnjllpebjaa.A Go.Proofs.YtagncnjllpebjaaW.PrintWords Go.Proofs.YtagncnjllpebjaaW.PrintLast Go.Proofs.YtagncnjllpebjaaW.PrintMore Go.Proofs.Ytagncnjllpebjaa.Z
set_option linter.unusedVariables false
set_option linter.unusedSimpArgs false
theorem specEx_ev (n : Nat) (hn : n ≤ 8) (l : List Int) (hl : l.length ≤ 17592186044416) (a b e : Nat) (ha : a < 256) (hb : b < 2 ^ n) (he : e < 8) (hae : a.testBit e = true) :
    Ev (fun k => spec_l4Exchange.f k (n : Int) l (a : Int) (b : Int) (e : Int)) (hasEx l a b e) := by
  have hb256 : b < 256 := Nat.lt_of_lt_of_le hb (pow_le_256 hn)
  have h := down (P := fun f => Ev (fun k => spec_l4Exchange.l0 k (a : Int) (b : Int) (e : Int) (f : Int) (n : Int) l) (((List.range' f (n - f)).filter (fun f => b.testBit f && !a.testBit f)).any (fun f => l.contains ((dif a (2 ^ e) ||| 2 ^ f : Nat) : Int)))) n
    (by
      apply Ev.step
      · intro k
        simp only [spec_l4Exchange.l0]
        rw [if_neg (by omega)]
      · rw [Nat.sub_self]; exact Ev.now _)
    (by
      intro f hf ih
      have hih : Ev (fun k => spec_l4Exchange.l0 k (a : Int) (b : Int) (e : Int) (wrap64 ((f : Int) + 1)) (n : Int) l) (((List.range' (f + 1) (n - (f + 1))).filter (fun f => b.testBit f && !a.testBit f)).any (fun f => l.contains ((dif a (2 ^ e) ||| 2 ^ f : Nat) : Int))) := by
        rw [w_succ hf (by omega)]; exact ih
      apply Ev.step
      · intro k
        simp only [spec_l4Exchange.l0, l2Has_eq (lt256_63 hb256) (show f < 2 ^ 63 by omega), l2Has_eq (lt256_63 ha) (show f < 2 ^ 63 by omega), Option.bind_some]
        rw [if_pos (by omega)]
      · rw [range'_cons hf, List.filter_cons]
        by_cases hbf : b.testBit f = true
        · refine Ev.ifp hbf ?_
          by_cases haf : a.testBit f = true
          · refine Ev.ifp haf ?_
            rw [if_neg (by rw [haf]; simp)]
            exact hih
          · refine Ev.ifn haf (Ev.ifp (u64_nonneg _) (Ev.ifp (u64_nonneg _) ?_))
            have haf' := Bool.eq_false_iff.2 haf
            rw [if_pos (by rw [hbf, haf']; rfl), List.any_cons]
            obtain ⟨x1, x2, x3⟩ := exch_arith ha he (show f < 8 by omega) hae haf'
            have hp : 2 ^ f < 256 := Nat.pow_lt_pow_right (a := 2) (m := f) (n := 8) (by decide) (by omega)
            have ex : wrap64 (wrap64 ((a : Int) - shl .i64 1 (IntKind.u64.wrap (e : Int))) + shl .i64 1 (IntKind.u64.wrap (f : Int))) = ((dif a (2 ^ e) ||| 2 ^ f : Nat) : Int) := by
              rw [u64_of (by omega) (by omega), u64_of (by omega) (by omega), shl_one (by omega), shl_one (by omega), ← x1]
              generalize 2 ^ e = p at *
              generalize 2 ^ f = q at *
              rw [wrap64_of (n := (a : Int) - (p : Int)) (by omega) (by omega), wrap64_of (by omega) (by omega)]
              omega
            rw [ex]
            refine Ev.bind (specHasSet_ev l _ hl) ?_
            by_cases hc : l.contains ((dif a (2 ^ e) ||| 2 ^ f : Nat) : Int) = true
            · refine Ev.ifp hc ?_
              rw [hc, Bool.true_or]; exact Ev.now _
            · refine Ev.ifn hc ?_
              rw [Bool.eq_false_iff.2 hc, Bool.false_or]; exact hih
        · refine Ev.ifn hbf ?_
          rw [if_neg (by rw [Bool.eq_false_iff.2 hbf]; simp)]
          exact hih)
  rw [Nat.sub_zero, ← List.range_eq_range', ← els_dif hb hn] at h
  exact h
theorem specFail_l2 (n : Nat) (hn : n ≤ 8) (l : List Int) (hl : l.length ≤ 17592186044416) (i j : Nat) (hi : i < l.length) (hj : j < l.length) (a b : Nat) (hai : rd l (i : Int) = a) (hbj : rd l (j : Int) = b) (ha : a < 2 ^ n) (hb : b < 2 ^ n) (K : Int × Int × Int × Bool)
    (hK : Ev (fun k => spec_FirstFailure.l1 k (i : Int) (wrap64 ((j : Int) + 1)) (n : Int) l) K) :
    Ev (fun k => spec_FirstFailure.l2 k (i : Int) (j : Int) 0 (n : Int) l) (match failE l a b (els (dif a b)) with | none => K | some e => ((a : Int), (b : Int), (e : Int), true)) := by
  have ha256 : a < 256 := Nat.lt_of_lt_of_le ha (pow_le_256 hn)
  have hb256 : b < 256 := Nat.lt_of_lt_of_le hb (pow_le_256 hn)
  have h := down (P := fun e => Ev (fun k => spec_FirstFailure.l2 k (i : Int) (j : Int) (e : Int) (n : Int) l) (match failE l a b ((List.range' e (n - e)).filter (fun e => a.testBit e && !b.testBit e)) with | none => K | some e => ((a : Int), (b : Int), (e : Int), true))) n
    (by
      apply Ev.step
      · intro k
        simp only [spec_FirstFailure.l2]
        rw [if_neg (by omega)]
      · rw [Nat.sub_self]; exact hK)
    (by
      intro e he ih
      have hih : Ev (fun k => spec_FirstFailure.l2 k (i : Int) (j : Int) (wrap64 ((e : Int) + 1)) (n : Int) l) (match failE l a b ((List.range' (e + 1) (n - (e + 1))).filter (fun e => a.testBit e && !b.testBit e)) with | none => K | some e => ((a : Int), (b : Int), (e : Int), true)) := by
        rw [w_succ he (by omega)]; exact ih
      apply Ev.step
      · intro k
        simp only [spec_FirstFailure.l2]
        rw [if_pos (by omega), if_pos (by omega), if_pos (by omega), if_pos (by omega), if_pos (by omega), hai, hbj, l2Has_eq (lt256_63 ha256) (show e < 2 ^ 63 by omega), l2Has_eq (lt256_63 hb256) (show e < 2 ^ 63 by omega), Option.bind_some, Option.bind_some]
      · rw [range'_cons he, List.filter_cons]
        by_cases hae : a.testBit e = true
        · refine Ev.ifp hae ?_
          by_cases hbe : b.testBit e = true
          · refine Ev.ifp hbe ?_
            rw [if_neg (by rw [hbe]; simp)]
            exact hih
          · refine Ev.ifn hbe (Ev.bind (specEx_ev n hn l hl a b e ha256 hb (by omega) hae) ?_)
            rw [if_pos (by rw [hae, Bool.eq_false_iff.2 hbe]; rfl)]
            simp only [failE]
            by_cases hx : hasEx l a b e = true
            · refine Ev.ifp hx ?_
              rw [if_pos hx]; exact hih
            · refine Ev.ifn hx ?_
              rw [if_neg hx]; exact Ev.now _
        · refine Ev.ifn hae ?_
          rw [if_neg (by rw [Bool.eq_false_iff.2 hae]; simp)]
          exact hih)
  rw [Nat.sub_zero, ← List.range_eq_range', ← els_dif ha hn] at h
  exact h
theorem specFail_ev (n : Int) (l : List Int) (hl : l.length ≤ 17592186044416) : Ev (fun k => spec_FirstFailure.f k n l) (failT n l) := by
  unfold spec_FirstFailure.f failT
  refine Ev.bind (specFam_ev n l hl) ?_
  by_cases hf : famB n l = true
  · refine Ev.ifp hf ?_
    rw [if_pos hf]
    obtain ⟨m, L, rfl, hm, rfl, hL, _⟩ := famB_nat hf
    rw [toNat_map]
    have hlen : (L.map (fun x : Nat => (x : Int))).length = L.length := List.length_map _
    rw [hlen] at hl
    have hrd : ∀ i, (h : i < L.length) → rd (L.map (fun x : Nat => (x : Int))) (i : Int) = (L[i] : Int) := fun i h => by
      rw [rd_getElem _ i (by rw [hlen]; exact h), List.getElem_map]
    have hl' : (L.map (fun x : Nat => (x : Int))).length ≤ 17592186044416 := by rw [hlen]; exact hl
    generalize L.map (fun x : Nat => (x : Int)) = l at hlen hrd hl'
    have h := down (P := fun i => Ev (fun k => spec_FirstFailure.l0 k (i : Int) (m : Int) l) (told (failA l L (L.drop i)))) L.length
      (by
        apply Ev.step
        · intro k
          simp only [spec_FirstFailure.l0]
          rw [if_neg (by omega)]
        · rw [drop_end]; exact Ev.now _)
      (by
        intro i hi ih
        have hia := hL _ (List.getElem_mem hi)
        have hih : Ev (fun k => spec_FirstFailure.l0 k (wrap64 ((i : Int) + 1)) (m : Int) l) (told (failA l L (L.drop (i + 1)))) := by
          rw [w_succ hi hl]; exact ih
        apply Ev.step
        · intro k
          simp only [spec_FirstFailure.l0]
          rw [if_pos (by omega)]
        · have h1 := down (P := fun j => Ev (fun k => spec_FirstFailure.l1 k (i : Int) (j : Int) (m : Int) l) (match failB l L[i] (L.drop j) with | none => told (failA l L (L.drop (i + 1))) | some (b, e) => ((L[i] : Int), (b : Int), (e : Int), true))) L.length
            (by
              apply Ev.step
              · intro k
                simp only [spec_FirstFailure.l1]
                rw [if_neg (by omega)]
              · rw [drop_end]; exact hih)
            (by
              intro j hj ihj
              have hjb := hL _ (List.getElem_mem hj)
              apply Ev.step
              · intro k
                simp only [spec_FirstFailure.l1]
                rw [if_pos (by omega)]
              · have h2 := specFail_l2 m hm l hl' i j (by omega) (by omega) L[i] L[j] (hrd i hi) (hrd j hj) hia hjb _ (by rw [w_succ hj hl]; exact ihj)
                rw [drop_cons L j hj]
                simp only [failB]
                generalize failE l L[i] L[j] (els (dif L[i] L[j])) = q at h2
                cases q with
                | none => exact h2
                | some e => exact h2)
          rw [drop_cons L i hi]
          simp only [failA]
          rw [List.drop_zero] at h1
          generalize failB l L[i] L = q at h1
          cases q with
          | none => exact h1
          | some x => exact h1)
    exact h
  · refine Ev.ifn hf ?_
    rw [if_neg hf]
    exact Ev.now _
end Go.Proofs.Ytagncnjllpebjaa.Q
namespace Go.Proofs.Ytagncnjllpebjaa.Q
open Go Go.RowKit Go.Proofs.Ytagncnjllpebjaa.A Go.Proofs.YtagncnjllpebjaaW.PrintWords Go.Proofs.YtagncnjllpebjaaW.PrintLast Go.Proofs.YtagncnjllpebjaaW.PrintMore Go.Proofs.Ytagncnjllpebjaa.Z
set_option linter.unusedVariables false
set_option linter.unusedSimpArgs false
/-- A matroid: a family, not empty, without a failure of the exchange. -/
def matB (n : Int) (l : List Int) : Bool := famB n l && (decide ((l.length : Int) > 0) && !(failT n l).2.2.2)
theorem specMat_ev (n : Int) (l : List Int) (hl : l.length ≤ 17592186044416) : Ev (fun k => spec_IsMatroid.f k n l) (matB n l) := by
  unfold spec_IsMatroid.f matB
  refine Ev.bind (specFail_ev n l hl) (Ev.bind (specFam_ev n l hl) ?_)
  by_cases hf : famB n l = true
  · refine Ev.ifp hf ?_
    rw [hf, Bool.true_and]
    by_cases h0 : (l.length : Int) > 0
    · refine Ev.ifp h0 ?_
      rw [show decide ((l.length : Int) > 0) = true from by simpa using h0, Bool.true_and]
      exact Ev.now _
    · refine Ev.ifn h0 ?_
      rw [show decide ((l.length : Int) > 0) = false from by simpa using h0, Bool.false_and]
      exact Ev.now _
  · refine Ev.ifn hf ?_
    rw [Bool.eq_false_iff.2 hf, Bool.false_and]
    exact Ev.now _
end Go.Proofs.Ytagncnjllpebjaa.Q
namespace Go.Proofs.Ytagncnjllpebjaa.Q
open Go Go.RowKit Go.Proofs.YtagncnjllpebjaaW.PrintWords Go.Proofs.YtagncnjllpebjaaW.PrintLast Go.Proofs.YtagncnjllpebjaaW.PrintMore Go.Proofs.Ytagncnjllpebjaa.Z
set_option linter.unusedVariables false
set_option linter.unusedSimpArgs false
/-- What a matroid is, as numbers. -/
theorem matB_nat {n : Int} {l : List Int} (h : matB n l = true) : ∃ (m : Nat) (L : List Nat), n = m ∧ m ≤ 8 ∧ l = ints L ∧ (∀ x ∈ L, x < 2 ^ m) ∧ (∀ x ∈ L, x < 256) ∧ L.Pairwise (· < ·) ∧ L ≠ [] := by
  simp only [matB, Bool.and_eq_true, decide_eq_true_eq] at h
  obtain ⟨m, L, rfl, hm, rfl, hL, hp⟩ := famB_nat h.1
  refine ⟨m, L, rfl, hm, rfl, hL, fun x hx => Nat.lt_of_lt_of_le (hL x hx) (pow_le_256 hm), hp, ?_⟩
  rintro rfl
  simp at h
theorem ints_len (L : List Nat) : (ints L).length = L.length := List.length_map _
theorem ints_rd (L : List Nat) (i : Nat) (h : i < L.length) : rd (ints L) (i : Int) = (L[i] : Int) := by
  rw [rd_getElem _ i (by rw [ints_len]; exact h)]
  simp [ints]
end Go.Proofs.Ytagncnjllpebjaa.Q
namespace Go.Proofs.Ytagncnjllpebjaa.Q
open Go Go.RowKit Go.Proofs.Ytagncnjllpebjaa.A Go.Proofs.YtagncnjllpebjaaW.PrintWords Go.Proofs.YtagncnjllpebjaaW.PrintLast Go.Proofs.YtagncnjllpebjaaW.PrintMore Go.Proofs.Ytagncnjllpebjaa.Z
set_option linter.unusedVariables false
set_option linter.unusedSimpArgs false
theorem specCount_l0 : ∀ (d x : Nat), x ≤ d → x < 256 → ∀ acc : Int, 0 ≤ acc → acc + (d : Int) ≤ 1000 → Ev (fun k => spec_CountOf.l0 k (x : Int) acc) (acc + (pc x : Int)) := by
  intro d
  induction d with
  | zero =>
    intro x hx _ acc h0 h1
    obtain rfl : x = 0 := by omega
    apply Ev.step
    · intro k
      simp only [spec_CountOf.l0]
      rw [if_neg (by decide)]
    · rw [pc_zero, show acc + ((0 : Nat) : Int) = acc from by omega]
      exact Ev.now _
  | succ d ih =>
    intro x hx h256 acc h0 h1
    by_cases hz : x = 0
    · subst hz
      exact ih 0 (by omega) h256 acc h0 (by omega)
    · have hb : Go.bits .and .i64 (x : Int) 1 = ((x % 2 : Nat) : Int) := by
        have := and_nat (a := x) (b := 1) (lt256_63 h256) (by decide)
        rw [Nat.and_one_is_mod] at this
        exact this
      apply Ev.step
      · intro k
        simp only [spec_CountOf.l0]
        rw [if_pos (by omega), hb, wrap64_of (by omega) (by omega), show (x : Int) / 2 = ((x / 2 : Nat) : Int) from by omega]
      · have hp := pc_step x h256
        have hl := pc_le (x / 2)
        have := ih (x / 2) (by omega) (by omega) (acc + ((x % 2 : Nat) : Int)) (by omega) (by omega)
        rw [show acc + ((x % 2 : Nat) : Int) + (pc (x / 2) : Int) = acc + (pc x : Int) from by omega] at this
        exact this
theorem specCount_ev (s : Nat) (h : s < 256) : Ev (fun k => spec_CountOf.f k (s : Int)) (pc s : Int) := by
  unfold spec_CountOf.f
  refine Ev.cbind (specIsSet_eq _ _) (Ev.ifp ?_ ?_)
  · rw [isSet8, isAnyB_nat]; simpa using h
  · have := specCount_l0 s s (Nat.le_refl _) h 0 (by omega) (by omega)
    rw [Int.zero_add] at this
    exact this
end Go.Proofs.Ytagncnjllpebjaa.Q
namespace Go.Proofs.Ytagncnjllpebjaa.Q
open Go Go.RowKit Go.Proofs.Ytagncnjllpebjaa.A Go.Proofs.YtagncnjllpebjaaW.PrintWords Go.Proofs.YtagncnjllpebjaaW.PrintLast Go.Proofs.YtagncnjllpebjaaW.PrintMore Go.Proofs.Ytagncnjllpebjaa.Z
set_option linter.unusedVariables false
set_option linter.unusedSimpArgs false
theorem l1Max_eq (a b : Int) : spec_l1Max.f a b = some (max a b) := by
  unfold spec_l1Max.f
  by_cases h : a > b
  · rw [if_pos h]; congr 1; omega
  · rw [if_neg h]; congr 1; omega
theorem specRank_ev (n : Int) (L : List Nat) (s : Nat) (hl : L.length ≤ 17592186044416) (hL : ∀ b ∈ L, b < 256) (hs : s < 256) : Ev (fun k => spec_l5Rank.f k n (ints L) (s : Int)) (rkN L s : Int) := by
  have h := down (P := fun i => ∀ acc : Nat, Ev (fun k => spec_l5Rank.l0 k (s : Int) (acc : Int) (i : Int) n (ints L)) ((maxN acc ((L.drop i).map (fun b => pc (b &&& s))) : Nat) : Int)) L.length
    (by
      intro acc
      apply Ev.step
      · intro k
        simp only [spec_l5Rank.l0]
        rw [if_neg (by rw [ints_len]; omega)]
      · rw [drop_end]; exact Ev.now _)
    (by
      intro i hi ih acc
      have hb := hL _ (List.getElem_mem hi)
      apply Ev.step
      · intro k
        simp only [spec_l5Rank.l0, l1Max_eq, Option.bind_some]
        rw [if_pos (by rw [ints_len]; omega), if_pos (by omega), ints_rd L i hi, w_succ hi hl, and_nat (lt256_63 hb) (lt256_63 hs)]
      · refine Ev.bind (specCount_ev _ (and_lt hb)) ?_
        rw [drop_cons L i hi, List.map_cons, maxN_cons]
        have := ih (max acc (pc (L[i] &&& s)))
        rw [show ((max acc (pc (L[i] &&& s)) : Nat) : Int) = max (acc : Int) (pc (L[i] &&& s) : Int) from by omega] at this
        exact this)
  exact h 0
end Go.Proofs.Ytagncnjllpebjaa.Q
namespace Go.Proofs.Ytagncnjllpebjaa.Q
open Go Go.RowKit Go.Proofs.Ytagncnjllpebjaa.A Go.Proofs.YtagncnjllpebjaaW.PrintWords Go.Proofs.YtagncnjllpebjaaW.PrintLast Go.Proofs.YtagncnjllpebjaaW.PrintMore Go.Proofs.Ytagncnjllpebjaa.Z
set_option linter.unusedVariables false
set_option linter.unusedSimpArgs false
def fullN (m : Nat) : Nat := 2 ^ m - 1
theorem full_sub_all : ∀ m < 9, ∀ u < 256, (!decide (u < 2 ^ m) || (decide (fullN m - u = dif (fullN m) u) && decide (fullN m < 2 ^ m))) = true := by decide +kernel
theorem full_sub {m u : Nat} (hm : m ≤ 8) (hu : u < 2 ^ m) : fullN m - u = dif (fullN m) u ∧ fullN m < 2 ^ m ∧ fullN m < 256 := by
  have h256 := Nat.lt_of_lt_of_le hu (pow_le_256 hm)
  have h := full_sub_all m (by omega) u h256
  rw [show decide (u < 2 ^ m) = true from by simpa using hu] at h
  simp only [Bool.not_true, Bool.false_or, Bool.and_eq_true, decide_eq_true_eq] at h
  exact ⟨h.1, h.2, Nat.lt_of_lt_of_le h.2 (pow_le_256 hm)⟩
theorem full_lt {m : Nat} (hm : m ≤ 8) : fullN m < 2 ^ m ∧ fullN m < 256 := (full_sub hm (Nat.two_pow_pos m)).2
theorem implFull_eq {m : Nat} (hm : m ≤ 8) : impl_FullSet.f (m : Int) = some ((fullN m : Nat) : Int) := by
  unfold impl_FullSet.f fullN
  have hp := pow_le_256 hm
  have h0 := Nat.two_pow_pos m
  rw [isSize_eq, Option.bind_some, if_pos (by simp; omega), if_pos (by omega), shl_one (by omega)]
  generalize 2 ^ m = q at *
  rw [wrap64_of (by omega) (by omega)]
  congr 1
  omega
end Go.Proofs.Ytagncnjllpebjaa.Q
namespace Go.Proofs.Ytagncnjllpebjaa.Q
open Go Go.RowKit Go.Proofs.YtagncnjllpebjaaW.PrintWords Go.Proofs.YtagncnjllpebjaaW.PrintLast Go.Proofs.YtagncnjllpebjaaW.PrintMore Go.Proofs.Ytagncnjllpebjaa.Z
set_option linter.unusedVariables false
set_option linter.unusedSimpArgs false
theorem rk_ge {L : List Nat} {b : Nat} (hb : b ∈ L) (s : Nat) : pc (b &&& s) ≤ rkN L s := maxN_mem _ 0 _ (List.mem_map.2 ⟨b, hb, rfl⟩)
theorem rk_attain {L : List Nat} (hne : L ≠ []) (s : Nat) : ∃ b ∈ L, pc (b &&& s) = rkN L s := by
  rcases maxN_cases (L.map (fun b => pc (b &&& s))) 0 with h | h
  · obtain ⟨b, hb⟩ := List.exists_mem_of_ne_nil L hne
    have := rk_ge hb s
    refine ⟨b, hb, ?_⟩
    unfold rkN at this ⊢
    omega
  · obtain ⟨b, hb, e⟩ := List.mem_map.1 h
    exact ⟨b, hb, e⟩
theorem rk_mono {L : List Nat} (hne : L ≠ []) {X Y : Nat} (h : ∀ i, X.testBit i = true → Y.testBit i = true) : rkN L X ≤ rkN L Y := by
  obtain ⟨b, hb, e⟩ := rk_attain hne X
  rw [← e]
  refine Nat.le_trans (pc_mono fun i _ hi => ?_) (rk_ge hb Y)
  rw [Nat.testBit_and, Bool.and_eq_true] at hi ⊢
  exact ⟨hi.1, h i hi.2⟩
theorem Mat.both_step {m : Nat} {L : List Nat} (h : Mat m L) {S T c : Nat} (hST : ∀ i, S.testBit i = true → T.testBit i = true) (hc : c ∈ L) (hcT : pc (c &&& T) = rkN L T) : ∀ (d b : Nat), b ∈ L → pc (b &&& S) = rkN L S → pc (dif b c) = d → ∃ b ∈ L, pc (b &&& S) = rkN L S ∧ pc (b &&& T) = rkN L T := by
  intro d
  induction d with
  | zero =>
    intro b hb hS hd
    refine ⟨b, hb, hS, Nat.le_antisymm (rk_ge hb T) ?_⟩
    rw [← hcT]
    have hcard := h.card hb hc
    refine pc_mono fun i hi hbi => ?_
    rw [Nat.testBit_and, Bool.and_eq_true] at hbi ⊢
    refine ⟨?_, hbi.2⟩
    cases hb' : b.testBit i
    · have h1 : pc b < pc c := by
        have e1 := pc_dif_and c (2 ^ i)
        have hle : pc b ≤ pc (dif c (2 ^ i)) := pc_mono fun j hj hbj => by
          rw [del_bit]
          have : c.testBit j = true := by
            cases hcj : c.testBit j
            · have : 0 < pc (dif b c) := pc_pos hj (by rw [dif_bit, hbj, hcj]; rfl)
              omega
            · rfl
          rw [this]
          have hne : ¬ i = j := by rintro rfl; rw [hb'] at hbj; cases hbj
          simp [hne]
        have := pc_del hi hbi.1
        omega
      omega
    · rfl
  | succ d ih =>
    intro b hb hS hd
    by_cases hT : pc (b &&& T) = rkN L T
    · exact ⟨b, hb, hS, hT⟩
    · have hlt : pc (b &&& T) < pc (c &&& T) := by
        have := rk_ge hb T
        omega
      have hcard := h.card hb hc
      have e1 := pc_dif_and b T
      have e2 := pc_dif_and c T
      obtain ⟨e, he, hbe, hce⟩ := exists_new (a := dif c T) (b := dif b T) (by omega)
      rw [dif_bit, Bool.and_eq_true, Bool.not_eq_true'] at hbe
      have hce' : c.testBit e = false := by
        rw [dif_bit, hbe.2] at hce
        simpa using hce
      obtain ⟨f, hf, h1, h2, hm⟩ := h.exch b hb c hc e he hbe.1 hce'
      refine ih (swp b e f) hm ?_ ?_
      · refine Nat.le_antisymm (rk_ge hm S) ?_
        rw [← hS]
        refine pc_mono fun i _ hi => ?_
        rw [Nat.testBit_and, Bool.and_eq_true] at hi ⊢
        refine ⟨?_, hi.2⟩
        have hie : ¬ e = i := by rintro rfl; have := hST _ hi.2; rw [hbe.2] at this; cases this
        rw [swp_bit, hi.1]
        simp [hie]
      · have e3 : dif (swp b e f) c = dif (dif b c) (2 ^ e) := by
          apply Nat.eq_of_testBit_eq
          intro i
          rw [dif_bit, swp_bit, del_bit, dif_bit]
          by_cases hi : f = i
          · subst hi; rw [h1, h2]; simp
          · simp [hi]
            cases b.testBit i <;> cases c.testBit i <;> simp
        rw [e3]
        have := pc_del (a := dif b c) he (by rw [dif_bit, hbe.1, hce']; rfl)
        omega
theorem Mat.both {m : Nat} {L : List Nat} (h : Mat m L) {S T : Nat} (hST : ∀ i, S.testBit i = true → T.testBit i = true) : ∃ b ∈ L, pc (b &&& S) = rkN L S ∧ pc (b &&& T) = rkN L T := by
  obtain ⟨c, hc, hcT⟩ := rk_attain h.some T
  obtain ⟨b, hb, hbS⟩ := rk_attain h.some S
  exact Mat.both_step h hST hc hcT _ b hb hbS rfl
theorem Mat.rk_sub {m : Nat} {L : List Nat} (h : Mat m L) (X Y : Nat) : rkN L (X ||| Y) + rkN L (X &&& Y) ≤ rkN L X + rkN L Y := by
  obtain ⟨b, hb, h1, h2⟩ := Mat.both h (S := X &&& Y) (T := X ||| Y) (fun i hi => by rw [Nat.testBit_and, Bool.and_eq_true] at hi; rw [Nat.testBit_or, hi.1]; rfl)
  have e := pc_or_and (b &&& X) (b &&& Y)
  have e1 : (b &&& X) ||| (b &&& Y) = b &&& (X ||| Y) := by
    apply Nat.eq_of_testBit_eq
    intro i
    simp only [Nat.testBit_or, Nat.testBit_and]
    cases b.testBit i <;> cases X.testBit i <;> cases Y.testBit i <;> rfl
  have e2 : (b &&& X) &&& (b &&& Y) = b &&& (X &&& Y) := by
    apply Nat.eq_of_testBit_eq
    intro i
    simp only [Nat.testBit_and]
    cases b.testBit i <;> cases X.testBit i <;> cases Y.testBit i <;> rfl
  rw [e1, e2, h1, h2] at e
  have k1 := rk_ge hb X
  have k2 := rk_ge hb Y
  omega
theorem bit_out {m A i : Nat} (h : A < 2 ^ m) (hi : m ≤ i) : A.testBit i = false := Nat.testBit_lt_two_pow (Nat.lt_of_lt_of_le h (Nat.pow_le_pow_right (by omega) hi))
end Go.Proofs.Ytagncnjllpebjaa.Q
namespace Go.Proofs.Ytagncnjllpebjaa.Q
open Go Go.RowKit Go.Proofs.YtagncnjllpebjaaW.PrintWords Go.Proofs.YtagncnjllpebjaaW.PrintLast Go.Proofs.YtagncnjllpebjaaW.PrintMore Go.Proofs.Ytagncnjllpebjaa.Z
set_option linter.unusedVariables false
set_option linter.unusedSimpArgs false
theorem or_ltP {m a b : Nat} (ha : a < 2 ^ m) (hb : b < 2 ^ m) : a ||| b < 2 ^ m := Nat.or_lt_two_pow ha hb
theorem bit_lt {m s i : Nat} (hs : s < 2 ^ m) (h : s.testBit i = true) : i < m := by
  refine Classical.byContradiction fun hc => ?_
  rw [bit_out hs (by omega)] at h; cases h
theorem pow_lt_of {m i : Nat} (h : i < m) : 2 ^ i < 2 ^ m := Nat.pow_lt_pow_right (by omega) h
/-- Sets of m elements, closed downward, and a smaller one can be filled up from a greater one. -/
structure Ind (m : Nat) (I : Nat → Prop) : Prop where
  size : m ≤ 8
  sets : ∀ s, I s → s < 2 ^ m
  zero : I 0
  down : ∀ s t, I t → subN s t → I s
  aug : ∀ a b, I a → I b → pc a < pc b → ∃ e, e < 8 ∧ b.testBit e = true ∧ a.testBit e = false ∧ I (a ||| 2 ^ e)
def orL (a : Nat) : List Nat → Nat
  | [] => a
  | e :: es => orL a es ||| 2 ^ e
theorem orL_bit (a i : Nat) : ∀ es : List Nat, (orL a es).testBit i = (a.testBit i || decide (i ∈ es)) := by
  intro es
  induction es with
  | nil => simp [orL]
  | cons e es ih =>
    simp only [orL]
    rw [add_bit, ih]
    by_cases h : e = i
    · subst h; simp
    · have : ¬ i = e := fun x => h x.symm
      simp [h, this]
theorem Mat.aug {m : Nat} {L : List Nat} (h : Mat m L) {a b : Nat} (ha : indN L a = true) (hb : indN L b = true) (hlt : pc a < pc b) : ∃ e, e < 8 ∧ b.testBit e = true ∧ a.testBit e = false ∧ indN L (a ||| 2 ^ e) = true := by
  refine Classical.byContradiction fun hc => ?_
  have hlt256 : ∀ s, indN L s = true → s < 256 := fun s hs => by
    obtain ⟨x, hx, hsub⟩ := indN_iff.1 hs
    exact Nat.lt_of_le_of_lt (subN_le hsub) (h.lt x hx)
  have ra := (rk_eq_iff (hlt256 a ha) h.some).2 ha
  have rb := (rk_eq_iff (hlt256 b hb) h.some).2 hb
  have h1 : ∀ e, e < 8 → b.testBit e = true → rkN L (a ||| 2 ^ e) ≤ rkN L a := by
    intro e he hbe
    cases hae : a.testBit e
    · have hn : ¬ indN L (a ||| 2 ^ e) = true := fun x => hc ⟨e, he, hbe, hae, x⟩
      have hl : a ||| 2 ^ e < 256 := Nat.or_lt_two_pow (n := 8) (hlt256 a ha) (pow_lt_of he)
      have hne := mt (rk_eq_iff hl h.some).1 hn
      have hle := rkN_le L (a ||| 2 ^ e)
      rw [pc_add he hae] at hle hne
      omega
    · refine rk_mono h.some fun i hi => ?_
      rw [add_bit, Bool.or_eq_true] at hi
      rcases hi with hi | hi
      · exact hi
      · rw [← of_decide_eq_true hi]; exact hae
  have h2 : ∀ es : List Nat, (∀ e ∈ es, e < 8 ∧ b.testBit e = true) → rkN L (orL a es) ≤ rkN L a := by
    intro es
    induction es with
    | nil => intro _; exact Nat.le_refl _
    | cons e es ih =>
      intro hes
      have ih' := ih (fun x hx => hes x (List.mem_cons_of_mem _ hx))
      have he := hes e (List.mem_cons_self ..)
      have hs := Mat.rk_sub h (orL a es) (a ||| 2 ^ e)
      have k1 : rkN L a ≤ rkN L (orL a es &&& (a ||| 2 ^ e)) := rk_mono h.some fun i hi => by
        rw [Nat.testBit_and, orL_bit, add_bit, hi]; rfl
      have k2 : rkN L (orL a es ||| 2 ^ e) ≤ rkN L (orL a es ||| (a ||| 2 ^ e)) := rk_mono h.some fun i hi => by
        rw [Nat.testBit_or, Bool.or_eq_true] at hi ⊢
        rcases hi with hi | hi
        · exact .inl hi
        · right; rw [Nat.testBit_or, hi, Bool.or_true]
      have k3 := h1 e he.1 he.2
      simp only [orL]
      omega
  have h3 := h2 (els b) (fun e he => mem_els.1 he)
  have h4 : rkN L b ≤ rkN L (orL a (els b)) := rk_mono h.some fun i hi => by
    rw [orL_bit, Bool.or_eq_true]
    right
    refine decide_eq_true (mem_els.2 ⟨?_, hi⟩)
    refine Classical.byContradiction fun hc => ?_
    rw [bit_ge (hlt256 b hb) hc] at hi; cases hi
  omega
theorem Mat.ind {m : Nat} {L : List Nat} (h : Mat m L) : Ind m (fun s => indN L s = true) := by
  refine ⟨h.size, ?_, ?_, ?_, ?_⟩
  · intro s hs
    obtain ⟨x, hx, hsub⟩ := indN_iff.1 hs
    exact Nat.lt_of_le_of_lt (subN_le hsub) (h.sets x hx)
  · obtain ⟨x, hx⟩ := List.exists_mem_of_ne_nil L h.some
    exact indN_iff.2 ⟨x, hx, subN_zero x⟩
  · intro s t ht hst
    obtain ⟨x, hx, hsub⟩ := indN_iff.1 ht
    exact indN_iff.2 ⟨x, hx, subN_trans hst hsub⟩
  · intro a b ha hb hlt
    exact Mat.aug h ha hb hlt
variable {m : Nat} {I : Nat → Prop}
theorem Ind.lt (h : Ind m I) {s : Nat} (hs : I s) : s < 256 := Nat.lt_of_lt_of_le (h.sets s hs) (pow_le_256 h.size)
/-- The greatest size of an independent set. -/
theorem Ind.max (h : Ind m I) : ∃ r, (∃ b, I b ∧ pc b = r) ∧ ∀ s, I s → pc s ≤ r := by
  have key : ∀ d b, I b → 8 - pc b ≤ d → ∃ r, (∃ b, I b ∧ pc b = r) ∧ ∀ s, I s → pc s ≤ r := by
    intro d
    induction d with
    | zero =>
      intro b hb hd
      refine ⟨pc b, ⟨b, hb, rfl⟩, fun s _ => ?_⟩
      have := pc_le s
      have := pc_le b
      omega
    | succ d ih =>
      intro b hb hd
      by_cases hx : ∃ s, I s ∧ pc b < pc s
      · obtain ⟨s, hs, hlt⟩ := hx
        exact ih s hs (by omega)
      · refine ⟨pc b, ⟨b, hb, rfl⟩, fun s hs => ?_⟩
        have : ¬ pc b < pc s := fun hl => hx ⟨s, hs, hl⟩
        omega
  exact key 8 0 h.zero (by omega)
/-- The independent sets are those within its bases. -/
theorem Ind.indN_iff (h : Ind m I) {L : List Nat} {r : Nat} (hL : ∀ b, b ∈ L ↔ I b ∧ pc b = r) (hne : ∃ b, I b ∧ pc b = r) (hmax : ∀ s, I s → pc s ≤ r) (s : Nat) : indN L s = true ↔ I s := by
  constructor
  · intro hs
    obtain ⟨x, hx, hsub⟩ := Z.indN_iff.1 hs
    exact h.down s x ((hL x).1 hx).1 hsub
  · obtain ⟨b, ib, pb⟩ := hne
    have key : ∀ d s, I s → r - pc s ≤ d → ∃ x, x ∈ L ∧ subN s x := by
      intro d
      induction d with
      | zero =>
        intro s hs hd
        have := hmax s hs
        exact ⟨s, (hL s).2 ⟨hs, by omega⟩, subN_refl s⟩
      | succ d ih =>
        intro s hs hd
        by_cases he : pc s = r
        · exact ⟨s, (hL s).2 ⟨hs, he⟩, subN_refl s⟩
        · have := hmax s hs
          obtain ⟨e, he8, h1, h2, h3⟩ := h.aug s b hs ib (by omega)
          obtain ⟨x, hx, hsub⟩ := ih _ h3 (by rw [pc_add he8 h2]; omega)
          refine ⟨x, hx, subN_trans (subN_bit.2 fun i hi => ?_) hsub⟩
          rw [add_bit, hi, Bool.true_or]
    intro hs
    obtain ⟨x, hx, hsub⟩ := key _ s hs (Nat.le_refl _)
    exact Z.indN_iff.2 ⟨x, hx, hsub⟩
theorem pc_or_disj {x y : Nat} (h : x &&& y = 0) : pc (x ||| y) = pc x + pc y := by
  have := pc_or_and x y
  rw [h, pc_zero] at this
  omega
theorem disj_bit {x y i : Nat} (h : x &&& y = 0) (hx : x.testBit i = true) : y.testBit i = false := by
  have := congrArg (fun z => Nat.testBit z i) h
  simp only [Nat.testBit_and, hx, Bool.true_and, Nat.zero_testBit] at this
  exact this
/-- At most one element, and of S. -/
def One (S s : Nat) : Prop := s = 0 ∨ ∃ e, e < 8 ∧ S.testBit e = true ∧ s = 2 ^ e
theorem Ind.one {S : Nat} (hm : m ≤ 8) (hS : S < 2 ^ m) : Ind m (One S) := by
  refine ⟨hm, ?_, .inl rfl, ?_, ?_⟩
  · rintro s (rfl | ⟨e, he, h1, rfl⟩)
    · exact Nat.two_pow_pos _
    · exact pow_lt_of (bit_lt hS h1)
  · rintro s t (rfl | ⟨e, he, h1, rfl⟩) hst
    · left
      have := subN_le hst
      omega
    · cases hb : s.testBit e
      · left
        apply Nat.eq_of_testBit_eq
        intro i
        rw [Nat.zero_testBit]
        cases hi : s.testBit i
        · rfl
        · have := subN_bit.1 hst i hi
          rw [Nat.testBit_two_pow] at this
          rw [of_decide_eq_true this, hi] at hb; cases hb
      · right
        refine ⟨e, he, h1, ?_⟩
        apply Nat.eq_of_testBit_eq
        intro i
        rw [Nat.testBit_two_pow]
        by_cases hi : e = i
        · subst hi; rw [hb]; simp
        · rw [decide_eq_false hi]
          cases hs : s.testBit i
          · rfl
          · have := subN_bit.1 hst i hs
            rw [Nat.testBit_two_pow] at this
            exact absurd (of_decide_eq_true this) hi
  · rintro a b (rfl | ⟨e, he, h1, rfl⟩) hb hlt
    · rcases hb with rfl | ⟨f, hf, h2, rfl⟩
      · omega
      · exact ⟨f, hf, by rw [Nat.testBit_two_pow]; simp, Nat.zero_testBit _, by rw [Nat.zero_or]; exact .inr ⟨f, hf, h2, rfl⟩⟩
    · rw [pc_pow he] at hlt
      rcases hb with rfl | ⟨f, hf, h2, rfl⟩
      · rw [pc_zero] at hlt; omega
      · rw [pc_pow hf] at hlt; omega
/-- Few enough elements in common with each of some sets that have no element in common. -/
def Few (m : Nat) (ps : List (Nat × Nat)) (s : Nat) : Prop := s < 2 ^ m ∧ ∀ p ∈ ps, pc (p.1 &&& s) ≤ p.2
def orF : List (Nat × Nat) → Nat
  | [] => 0
  | p :: ps => p.1 ||| orF ps
theorem orF_bit (i : Nat) : ∀ ps : List (Nat × Nat), (orF ps).testBit i = true ↔ ∃ p ∈ ps, p.1.testBit i = true := by
  intro ps
  induction ps with
  | nil => simp [orF]
  | cons p ps ih => simp only [orF]; rw [Nat.testBit_or, Bool.or_eq_true, ih]; simp
theorem orF_le {a b : Nat} : ∀ ps : List (Nat × Nat), ps.Pairwise (fun p q => p.1 &&& q.1 = 0) → (∀ p ∈ ps, pc (p.1 &&& b) ≤ pc (p.1 &&& a)) → pc (orF ps &&& b) ≤ pc (orF ps &&& a) := by
  intro ps
  induction ps with
  | nil => intro _ _; simp [orF]
  | cons p ps ih =>
    intro hp h
    rw [List.pairwise_cons] at hp
    have hd : ∀ x : Nat, (p.1 &&& x) &&& (orF ps &&& x) = 0 := by
      intro x
      apply Nat.eq_of_testBit_eq
      intro i
      simp only [Nat.testBit_and, Nat.zero_testBit]
      cases h1 : p.1.testBit i
      · simp
      · cases h2 : (orF ps).testBit i
        · simp
        · obtain ⟨q, hq, hqi⟩ := (orF_bit i ps).1 h2
          have := disj_bit (hp.1 q hq) h1
          rw [this] at hqi; cases hqi
    have e : ∀ x : Nat, orF (p :: ps) &&& x = (p.1 &&& x) ||| (orF ps &&& x) := by
      intro x
      apply Nat.eq_of_testBit_eq
      intro i
      simp only [orF, Nat.testBit_and, Nat.testBit_or]
      cases p.1.testBit i <;> cases (orF ps).testBit i <;> cases x.testBit i <;> rfl
    rw [e, e, pc_or_disj (hd _), pc_or_disj (hd _)]
    have h1 := h p (List.mem_cons_self ..)
    have h2 := ih hp.2 (fun q hq => h q (List.mem_cons_of_mem _ hq))
    omega
theorem Ind.few (hm : m ≤ 8) {ps : List (Nat × Nat)} (hp : ps.Pairwise (fun p q => p.1 &&& q.1 = 0)) : Ind m (Few m ps) := by
  refine ⟨hm, fun s hs => hs.1, ⟨Nat.two_pow_pos _, fun p _ => by rw [Nat.and_zero, pc_zero]; exact Nat.zero_le _⟩, ?_, ?_⟩
  · intro s t ht hst
    refine ⟨Nat.lt_of_le_of_lt (subN_le hst) ht.1, fun p hpm => Nat.le_trans (pc_mono fun i _ hi => ?_) (ht.2 p hpm)⟩
    rw [Nat.testBit_and, Bool.and_eq_true] at hi ⊢
    exact ⟨hi.1, subN_bit.1 hst i hi.2⟩
  · intro a b ha hb hlt
    refine Classical.byContradiction fun hc => ?_
    let qs := ps.filter (fun p => decide (p.2 ≤ pc (p.1 &&& a)))
    have hq : pc (orF qs &&& b) ≤ pc (orF qs &&& a) := orF_le qs (List.Pairwise.filter _ hp) (fun p hpm => by
      have hm := List.mem_filter.1 hpm
      have := hb.2 p hm.1
      have h2 := of_decide_eq_true hm.2
      omega)
    have hin : ∀ e, e < 8 → b.testBit e = true → a.testBit e = false → (orF qs).testBit e = true := by
      intro e he hbe hae
      refine Classical.byContradiction fun hn => hc ⟨e, he, hbe, hae, ?_, ?_⟩
      · exact or_ltP ha.1 (pow_lt_of (bit_lt hb.1 hbe))
      · intro p hpm
        by_cases hpe : p.1.testBit e = true
        · have : ¬ p.2 ≤ pc (p.1 &&& a) := fun hle => hn ((orF_bit e qs).2 ⟨p, List.mem_filter.2 ⟨hpm, decide_eq_true hle⟩, hpe⟩)
          have k : p.1 &&& (a ||| 2 ^ e) = (p.1 &&& a) ||| 2 ^ e := by
            apply Nat.eq_of_testBit_eq
            intro i
            rw [Nat.testBit_and, add_bit, add_bit, Nat.testBit_and]
            by_cases hi : e = i
            · subst hi; rw [hpe]; simp
            · simp [hi]
          rw [k, pc_add he (by rw [Nat.testBit_and, hae, Bool.and_false])]
          omega
        · have k : p.1 &&& (a ||| 2 ^ e) = p.1 &&& a := by
            apply Nat.eq_of_testBit_eq
            intro i
            rw [Nat.testBit_and, add_bit, Nat.testBit_and]
            by_cases hi : e = i
            · subst hi; rw [Bool.eq_false_iff.2 hpe]; simp
            · simp [hi]
          rw [k]; exact ha.2 p hpm
    have e1 := pc_dif_and b (orF qs)
    have e2 := pc_dif_and a (orF qs)
    rw [Nat.and_comm] at e1 e2
    have e3 : pc (dif b (orF qs)) ≤ pc (dif a (orF qs)) := pc_mono fun i hi hbi => by
      rw [dif_bit, Bool.and_eq_true, Bool.not_eq_true'] at hbi ⊢
      refine ⟨?_, hbi.2⟩
      cases hai : a.testBit i
      · rw [hin i hi hbi.1 hai] at hbi; exact absurd hbi.2 (by decide)
      · rfl
    omega
end Go.Proofs.Ytagncnjllpebjaa.Q
namespace Go.Proofs.Ytagncnjllpebjaa.Q
open Go Go.RowKit Go.Proofs.Ytagncnjllpebjaa.A Go.Proofs.YtagncnjllpebjaaW.PrintWords Go.Proofs.YtagncnjllpebjaaW.PrintLast Go.Proofs.YtagncnjllpebjaaW.PrintMore Go.Proofs.Ytagncnjllpebjaa.Z
set_option linter.unusedVariables false
set_option linter.unusedSimpArgs false
def areW (n : Int) (w : List Int) : Bool := w.all (fun x => decide (-1000 ≤ x) && decide (x ≤ 1000)) && (decide (0 ≤ n) && decide (n ≤ 8)) && decide ((w.length : Int) = n)
theorem specAreWeights_l0 (n : Int) (l : List Int) (hl : l.length ≤ 17592186044416) : ∀ (rest pre : List Int), l = pre ++ rest → Ev (fun k => spec_AreWeights.l0 k n l (pre.length : Int)) (rest.all (fun x => decide (-1000 ≤ x) && decide (x ≤ 1000)) && (decide (0 ≤ n) && decide (n ≤ 8)) && decide ((l.length : Int) = n)) := by
  intro rest
  induction rest with
  | nil =>
    intro pre h
    apply Ev.step
    · intro k
      simp only [spec_AreWeights.l0, l1In_eq]
      rw [if_neg (by rw [h]; simp)]
    · simp only [Option.bind_some]
      by_cases hn : (decide (0 ≤ n) && decide (n ≤ 8)) = true
      · refine Ev.ifp hn ?_
        simp only [List.all_nil, hn, Bool.true_and]
        exact Ev.now _
      · refine Ev.ifn hn ?_
        simp only [List.all_nil, Bool.eq_false_iff.2 hn, Bool.false_and, Bool.true_and]
        exact Ev.now _
  | cons x rest ih =>
    intro pre h
    have hlen : (pre.length : Int) < (l.length : Int) := by rw [h]; simp; omega
    have e1 : rd l (pre.length : Int) = x := by rw [h]; exact rd_mid _ _ _
    apply Ev.step
    · intro k
      simp only [spec_AreWeights.l0, l1In_eq]
      rw [if_pos hlen, if_pos (by omega), e1]
    · simp only [Option.bind_some]
      by_cases hx : (decide (-1000 ≤ x) && decide (x ≤ 1000)) = true
      · refine Ev.ifp hx ?_
        have e : wrap64 ((pre.length : Int) + 1) = ((pre ++ [x]).length : Int) := by
          rw [wrap64_of (by omega) (by omega)]; simp
        rw [e]
        simpa only [List.all_cons, hx, Bool.true_and] using ih (pre ++ [x]) (by rw [h]; simp)
      · refine Ev.ifn hx ?_
        simp only [List.all_cons, Bool.eq_false_iff.2 hx, Bool.false_and]
        exact Ev.now _
theorem specAreWeights_ev (n : Int) (l : List Int) (hl : l.length ≤ 17592186044416) : Ev (fun k => spec_AreWeights.f k n l) (areW n l) :=
  specAreWeights_l0 n l hl l [] rfl
theorem implAreWeights_l0 (n : Int) (l : List Int) (hl : l.length ≤ 17592186044416) : ∀ (rest pre : List Int), l = pre ++ rest → Ev (fun k => impl_AreWeights.l0 k n l l (l.length : Int) (pre.length : Int)) (rest.all (fun x => decide (-1000 ≤ x) && decide (x ≤ 1000)) && (decide (0 ≤ n) && decide (n ≤ 8)) && decide ((l.length : Int) = n)) := by
  intro rest
  induction rest with
  | nil =>
    intro pre h
    apply Ev.step
    · intro k
      simp only [impl_AreWeights.l0, isSize_eq]
      rw [if_neg (by rw [h]; simp)]
    · simp only [Option.bind_some]
      by_cases hn : (decide (0 ≤ n) && decide (n ≤ 8)) = true
      · refine Ev.ifp hn ?_
        simp only [List.all_nil, hn, Bool.true_and]
        exact Ev.now _
      · refine Ev.ifn hn ?_
        simp only [List.all_nil, Bool.eq_false_iff.2 hn, Bool.false_and, Bool.true_and]
        exact Ev.now _
  | cons x rest ih =>
    intro pre h
    have hlen : (pre.length : Int) < (l.length : Int) := by rw [h]; simp; omega
    have e1 : rd l (pre.length : Int) = x := by rw [h]; exact rd_mid _ _ _
    apply Ev.step
    · intro k
      simp only [impl_AreWeights.l0, isSize_eq]
      rw [if_pos hlen, if_pos (by omega), if_pos hlen, e1]
    · by_cases h1 : x < -1000
      · refine Ev.ifp h1 ?_
        have : (decide (-1000 ≤ x)) = false := by simp; omega
        simp only [List.all_cons, this, Bool.false_and]
        exact Ev.now _
      · refine Ev.ifn h1 ?_
        by_cases h2 : x > 1000
        · refine Ev.ifp h2 ?_
          have : (decide (x ≤ 1000)) = false := by simp; omega
          simp only [List.all_cons, this, Bool.false_and, Bool.and_false]
          exact Ev.now _
        · refine Ev.ifn h2 ?_
          have hx : (decide (-1000 ≤ x) && decide (x ≤ 1000)) = true := by simp; omega
          have e : wrap64 ((pre.length : Int) + 1) = ((pre ++ [x]).length : Int) := by
            rw [wrap64_of (by omega) (by omega)]; simp
          rw [e]
          simpa only [List.all_cons, hx, Bool.true_and] using ih (pre ++ [x]) (by rw [h]; simp)
theorem implAreWeights_ev (n : Int) (l : List Int) (hl : l.length ≤ 17592186044416) : Ev (fun k => impl_AreWeights.f k n l) (areW n l) :=
  implAreWeights_l0 n l hl l [] rfl
end Go.Proofs.Ytagncnjllpebjaa.Q
namespace Go.Proofs.Ytagncnjllpebjaa.Q
open Go Go.RowKit Go.Proofs.YtagncnjllpebjaaW.PrintWords Go.Proofs.YtagncnjllpebjaaW.PrintLast Go.Proofs.YtagncnjllpebjaaW.PrintMore Go.Proofs.Ytagncnjllpebjaa.Z
set_option linter.unusedVariables false
set_option linter.unusedSimpArgs false
theorem isum_add {α : Type} (f g : α → Int) (l : List α) : (l.map (fun i => f i + g i)).sum = (l.map f).sum + (l.map g).sum := by
  induction l with
  | nil => rfl
  | cons x l ih => simp only [List.map_cons, List.sum_cons, ih]; omega
theorem isum_one (e : Nat) (c : Int) : ∀ n : Nat, ((List.range n).map (fun i => if i = e then c else 0)).sum = if e < n then c else 0 := by
  intro n
  induction n with
  | zero => rfl
  | succ n ih =>
    rw [List.range_succ, List.map_append, List.sum_append, ih]
    simp only [List.map_cons, List.map_nil, List.sum_cons, List.sum_nil]
    by_cases h1 : e < n
    · rw [if_pos h1, if_neg (by omega), if_pos (by omega)]; omega
    · rw [if_neg h1]
      by_cases h2 : n = e
      · rw [if_pos h2, if_pos (by omega)]; omega
      · rw [if_neg h2, if_neg (by omega)]; omega
/-- One element's share in a set's weight. -/
def wOf (w : List Int) (s i : Nat) : Int := if (decide (i < w.length) && s.testBit i) = true then rd w (i : Int) else 0
def wS (w : List Int) (s : Nat) : Int := ((List.range 8).map (wOf w s)).sum
theorem areW_bound {n : Int} {w : List Int} (h : areW n w = true) : (∀ x ∈ w, -1000 ≤ x ∧ x ≤ 1000) ∧ (w.length : Int) = n := by
  simp only [areW, Bool.and_eq_true, List.all_eq_true, decide_eq_true_eq] at h
  exact ⟨h.1.1, h.2⟩
end Go.Proofs.Ytagncnjllpebjaa.Q
namespace Go.Proofs.Ytagncnjllpebjaa.Q
open Go Go.RowKit Go.Proofs.YtagncnjllpebjaaW.PrintWords Go.Proofs.YtagncnjllpebjaaW.PrintLast Go.Proofs.YtagncnjllpebjaaW.PrintMore Go.Proofs.Ytagncnjllpebjaa.Z
set_option linter.unusedVariables false
set_option linter.unusedSimpArgs false
def greedyL (p : Nat → Bool) (s : Nat) : List Nat → List Nat
  | [] => []
  | e :: es => if p (s ||| 2 ^ e) = true then e :: greedyL p (s ||| 2 ^ e) es else greedyL p s es
theorem orL_front (s e : Nat) (es : List Nat) : orL s (e :: es) = orL (s ||| 2 ^ e) es := by
  apply Nat.eq_of_testBit_eq
  intro i
  rw [orL_bit, orL_bit, add_bit]
  by_cases h : e = i
  · subst h; simp
  · have : ¬ i = e := fun x => h x.symm
    simp [h, this]
def wsum (f : Nat → Int) (s : Nat) : Int := ((List.range 8).map (fun i => if s.testBit i = true then f i else 0)).sum
theorem wsum_add (f : Nat → Int) {s e : Nat} (he : e < 8) (h : s.testBit e = false) : wsum f (s ||| 2 ^ e) = wsum f s + f e := by
  unfold wsum
  have k := isum_one e (f e) 8
  rw [if_pos he] at k
  rw [← k, ← isum_add]
  congr 1
  apply List.map_congr_left
  intro i _
  rw [add_bit]
  by_cases hi : e = i
  · subst hi; rw [h]; simp
  · have : ¬ i = e := fun x => hi x.symm
    simp [hi, this]
theorem wsum_del (f : Nat → Int) {s e : Nat} (he : e < 8) (h : s.testBit e = true) : wsum f s = wsum f (dif s (2 ^ e)) + f e := by
  have k := wsum_add f (s := dif s (2 ^ e)) he (by rw [del_bit, h]; simp)
  rw [← k]
  congr 1
  apply Nat.eq_of_testBit_eq
  intro i
  rw [add_bit, del_bit]
  by_cases hi : e = i
  · subst hi; rw [h]; simp
  · simp [hi]
theorem min_el (f : Nat → Int) : ∀ (l : List Nat), l ≠ [] → ∃ j ∈ l, ∀ e ∈ l, f j ≤ f e := by
  intro l
  induction l with
  | nil => intro h; exact absurd rfl h
  | cons x l ih =>
    intro _
    by_cases hl : l = []
    · subst hl; exact ⟨x, List.mem_cons_self .., fun e he => by simp at he; subst he; omega⟩
    · obtain ⟨j, hj, hm⟩ := ih hl
      by_cases hx : f x ≤ f j
      · refine ⟨x, List.mem_cons_self .., fun e he => ?_⟩
        rcases List.mem_cons.1 he with rfl | he
        · omega
        · have := hm e he; omega
      · refine ⟨j, List.mem_cons_of_mem _ hj, fun e he => ?_⟩
        rcases List.mem_cons.1 he with rfl | he
        · omega
        · exact hm e he
variable {m : Nat} {I : Nat → Prop} {p : Nat → Bool}
theorem greedy_main (hI : Ind m I) (hp : ∀ s, p s = true ↔ I s) (f : Nat → Int) : ∀ (es : List Nat) (s : Nat), I s → es.Nodup → (∀ e ∈ es, e < 8 ∧ s.testBit e = false) → (∀ j, j < 8 → s.testBit j = false → I (s ||| 2 ^ j) → j ∈ es) → es.Pairwise (fun a b => f b ≤ f a) →
    (∀ e ∈ greedyL p s es, e ∈ es) ∧ (greedyL p s es).Nodup ∧ (∀ i, I (orL s ((greedyL p s es).take i))) ∧ (∀ i (h : i < (greedyL p s es).length), ∀ j, j < 8 → (orL s ((greedyL p s es).take i)).testBit j = false → I (orL s ((greedyL p s es).take i) ||| 2 ^ j) → f j ≤ f ((greedyL p s es)[i])) ∧ (∀ j, j < 8 → (orL s (greedyL p s es)).testBit j = false → ¬ I (orL s (greedyL p s es) ||| 2 ^ j)) := by
  intro es
  induction es with
  | nil =>
    intro s hs _ _ hex _
    simp only [greedyL]
    refine ⟨fun e he => he, List.nodup_nil, fun i => by rw [List.take_nil]; exact hs, fun i h => absurd h (Nat.not_lt_zero _), fun j hj hb hi => ?_⟩
    have := hex j hj hb hi
    simp at this
  | cons e es ih =>
    intro s hs hnd hes hex hsort
    rw [List.nodup_cons] at hnd
    rw [List.pairwise_cons] at hsort
    have he := hes e (List.mem_cons_self ..)
    by_cases hpe : p (s ||| 2 ^ e) = true
    · have hIe := (hp _).1 hpe
      obtain ⟨r1, r2, r3, r4, r5⟩ := ih (s ||| 2 ^ e) hIe hnd.2 (fun x hx => by
          refine ⟨(hes x (List.mem_cons_of_mem _ hx)).1, ?_⟩
          rw [add_bit, (hes x (List.mem_cons_of_mem _ hx)).2]
          have : ¬ e = x := by rintro rfl; exact hnd.1 hx
          simp [this]) (fun j hj hb hi => by
          rw [add_bit, Bool.or_eq_false_iff] at hb
          have h1 := hex j hj hb.1 (hI.down _ _ hi (subN_bit.2 fun i hx => by
            rw [add_bit, Bool.or_eq_true] at hx
            rw [add_bit, add_bit, Bool.or_eq_true, Bool.or_eq_true]
            exact hx.elim (fun y => .inl (.inl y)) .inr))
          rcases List.mem_cons.1 h1 with rfl | h1
          · have := hb.2; simp at this
          · exact h1) hsort.2
      have hg : greedyL p s (e :: es) = e :: greedyL p (s ||| 2 ^ e) es := by simp only [greedyL]; rw [if_pos hpe]
      rw [hg]
      refine ⟨?_, ?_, ?_, ?_, ?_⟩
      · intro x hx
        rcases List.mem_cons.1 hx with rfl | hx
        · exact List.mem_cons_self ..
        · exact List.mem_cons_of_mem _ (r1 x hx)
      · rw [List.nodup_cons]
        exact ⟨fun hx => hnd.1 (r1 e hx), r2⟩
      · intro i
        cases i with
        | zero => rw [List.take_zero]; exact hs
        | succ i => rw [List.take_succ_cons, orL_front]; exact r3 i
      · intro i h j hj hb hi
        cases i with
        | zero =>
          rw [List.take_zero] at hb hi
          rw [List.getElem_cons_zero]
          rcases List.mem_cons.1 (hex j hj hb hi) with rfl | h1
          · exact Int.le_refl _
          · exact hsort.1 j h1
        | succ i =>
          rw [List.take_succ_cons, orL_front] at hb hi
          rw [List.getElem_cons_succ]
          exact r4 i (by simpa using h) j hj hb hi
      · intro j hj hb
        rw [orL_front] at hb ⊢
        exact r5 j hj hb
    · have hg : greedyL p s (e :: es) = greedyL p s es := by simp only [greedyL]; rw [if_neg hpe]
      rw [hg]
      obtain ⟨r1, r2, r3, r4, r5⟩ := ih s hs hnd.2 (fun x hx => hes x (List.mem_cons_of_mem _ hx)) (fun j hj hb hi => by
          rcases List.mem_cons.1 (hex j hj hb hi) with rfl | h1
          · exact absurd ((hp _).2 hi) hpe
          · exact h1) hsort.2
      exact ⟨fun x hx => List.mem_cons_of_mem _ (r1 x hx), r2, r3, r4, r5⟩
theorem pc_orL : ∀ (T : List Nat), T.Nodup → (∀ e ∈ T, e < 8) → pc (orL 0 T) = T.length := by
  intro T
  induction T with
  | nil => intro _ _; exact pc_zero
  | cons e T ih =>
    intro hnd h8
    rw [List.nodup_cons] at hnd
    simp only [orL]
    rw [pc_add (h8 e (List.mem_cons_self ..)) (by rw [orL_bit]; simp [hnd.1]), ih hnd.2 (fun x hx => h8 x (List.mem_cons_of_mem _ hx)), List.length_cons]
theorem orL_snoc (s e : Nat) (T : List Nat) : orL s (T ++ [e]) = orL s T ||| 2 ^ e := by
  apply Nat.eq_of_testBit_eq
  intro i
  rw [orL_bit, add_bit, orL_bit]
  by_cases h : e = i
  · subst h; simp
  · have : ¬ i = e := fun x => h x.symm
    simp [h, this]
/-- An order of all elements, by falling weight. -/
structure Order (m : Nat) (f : Nat → Int) (es : List Nat) : Prop where
  nodup : es.Nodup
  mem : ∀ e, e ∈ es ↔ e < m
  fall : es.Pairwise (fun a b => f b ≤ f a)
theorem greedy_all (hI : Ind m I) (hp : ∀ s, p s = true ↔ I s) {f : Nat → Int} {es : List Nat} (ho : Order m f es) :
    (∀ e ∈ greedyL p 0 es, e < m) ∧ (greedyL p 0 es).Nodup ∧ (∀ i, I (orL 0 ((greedyL p 0 es).take i))) ∧ (∀ i (h : i < (greedyL p 0 es).length), ∀ j, j < 8 → (orL 0 ((greedyL p 0 es).take i)).testBit j = false → I (orL 0 ((greedyL p 0 es).take i) ||| 2 ^ j) → f j ≤ f ((greedyL p 0 es)[i])) ∧ (∀ j, j < 8 → (orL 0 (greedyL p 0 es)).testBit j = false → ¬ I (orL 0 (greedyL p 0 es) ||| 2 ^ j)) := by
  have hm := hI.size
  obtain ⟨r1, r2, r3, r4, r5⟩ := greedy_main hI hp f es 0 hI.zero ho.nodup (fun e he => ⟨by have := (ho.mem e).1 he; omega, Nat.zero_testBit _⟩) (fun j hj _ hi => (ho.mem j).2 (bit_lt (hI.sets _ hi) (by rw [add_bit]; simp))) ho.fall
  exact ⟨fun e he => (ho.mem e).1 (r1 e he), r2, r3, r4, r5⟩
theorem greedy_best (hI : Ind m I) (hp : ∀ s, p s = true ↔ I s) {f : Nat → Int} {es : List Nat} (ho : Order m f es) : ∀ (k J : Nat), I J → pc J = k → k ≤ (greedyL p 0 es).length ∧ wsum f J ≤ wsum f (orL 0 ((greedyL p 0 es).take k)) := by
  have hm := hI.size
  obtain ⟨r1, r2, r3, r4, r5⟩ := greedy_all hI hp ho
  intro k
  induction k with
  | zero =>
    intro J hJ hk
    have := (pc_zero_iff (hI.lt hJ)).1 hk
    subst this
    rw [List.take_zero]
    exact ⟨Nat.zero_le _, Int.le_refl _⟩
  | succ k ih =>
    intro J hJ hk
    have hne : els J ≠ [] := fun h => by have : (els J).length = k + 1 := hk; rw [h] at this; simp at this
    obtain ⟨j0, hj0, hmin⟩ := min_el f (els J) hne
    obtain ⟨h8, hb0⟩ := mem_els.1 hj0
    have hd := pc_del h8 hb0
    obtain ⟨h1, h2⟩ := ih (dif J (2 ^ j0)) (hI.down _ J hJ (subN_bit.2 fun i hi => by rw [del_bit, Bool.and_eq_true] at hi; exact hi.1)) (by omega)
    have hTk : pc (orL 0 ((greedyL p 0 es).take k)) = k := by
      rw [pc_orL _ (List.Nodup.sublist (List.take_sublist _ _) r2) (fun e he => by have := r1 e (List.mem_of_mem_take he); omega), List.length_take]
      omega
    obtain ⟨e, he, hbe, hte, hIe⟩ := hI.aug _ J (r3 k) hJ (by omega)
    have hlt : k < (greedyL p 0 es).length := by
      refine Classical.byContradiction fun hc => ?_
      rw [List.take_of_length_le (by omega)] at hte hIe
      exact r5 e he hte hIe
    refine ⟨hlt, ?_⟩
    have h3 := r4 k hlt e he hte hIe
    have h4 := hmin e (mem_els.2 ⟨he, hbe⟩)
    have hmem := r1 _ (List.getElem_mem hlt)
    rw [take_snoc _ k hlt, orL_snoc, wsum_add f (by omega) (by
      rw [orL_bit]
      have : ¬ (greedyL p 0 es)[k] ∈ (greedyL p 0 es).take k := fun hx => by
        obtain ⟨i, hi, hx⟩ := List.mem_take_iff_getElem.1 hx
        exact List.pairwise_iff_getElem.1 r2 i k (by omega) hlt (by omega) hx
      simp [this]), wsum_del f h8 hb0]
    omega
end Go.Proofs.Ytagncnjllpebjaa.Q
namespace Go.Proofs.Ytagncnjllpebjaa.Q
open Go Go.RowKit Go.Proofs.YtagncnjllpebjaaW.PrintWords Go.Proofs.YtagncnjllpebjaaW.PrintLast Go.Proofs.YtagncnjllpebjaaW.PrintMore Go.Proofs.Ytagncnjllpebjaa.Z
set_option linter.unusedVariables false
set_option linter.unusedSimpArgs false
def insW (w : List Int) (k : Nat) : List Nat → List Nat
  | [] => [k]
  | x :: xs => if rd w (x : Int) < rd w (k : Int) then k :: x :: xs else x :: insW w k xs
def orderN (w : List Int) (n : Nat) : List Nat := (List.range n).foldl (fun out k => insW w k out) []
theorem insW_split (w : List Int) (k : Nat) (post : List Nat) (h2 : ∀ x ∈ post, rd w (x : Int) < rd w (k : Int)) : ∀ pre : List Nat, (∀ x ∈ pre, ¬ rd w (x : Int) < rd w (k : Int)) → insW w k (pre ++ post) = pre ++ k :: post := by
  intro pre
  induction pre with
  | nil =>
    intro _
    cases post with
    | nil => rfl
    | cons y ys => simp only [List.nil_append, insW]; rw [if_pos (h2 y (List.mem_cons_self ..))]
  | cons x pre ih =>
    intro h1
    simp only [List.cons_append, insW]
    rw [if_neg (h1 x (List.mem_cons_self ..)), ih (fun y hy => h1 y (List.mem_cons_of_mem _ hy))]
theorem insW_mem (w : List Int) (k a : Nat) : ∀ l : List Nat, a ∈ insW w k l ↔ a = k ∨ a ∈ l := by
  intro l
  induction l with
  | nil => simp [insW]
  | cons x l ih =>
    simp only [insW]
    by_cases h : rd w (x : Int) < rd w (k : Int)
    · rw [if_pos h, List.mem_cons]
    · rw [if_neg h, List.mem_cons, ih, List.mem_cons]
      constructor
      · rintro (h' | h' | h')
        · exact .inr (.inl h')
        · exact .inl h'
        · exact .inr (.inr h')
      · rintro (h' | h' | h')
        · exact .inr (.inl h')
        · exact .inl h'
        · exact .inr (.inr h')
theorem insW_len (w : List Int) (k : Nat) : ∀ l : List Nat, (insW w k l).length = l.length + 1 := by
  intro l
  induction l with
  | nil => rfl
  | cons x l ih =>
    simp only [insW]
    by_cases h : rd w (x : Int) < rd w (k : Int)
    · rw [if_pos h]; rfl
    · rw [if_neg h, List.length_cons, ih]; rfl
theorem insW_nodup (w : List Int) (k : Nat) : ∀ l : List Nat, l.Nodup → k ∉ l → (insW w k l).Nodup := by
  intro l
  induction l with
  | nil => intro _ _; simp [insW]
  | cons x l ih =>
    intro hl hk
    simp only [insW]
    by_cases h : rd w (x : Int) < rd w (k : Int)
    · rw [if_pos h, List.nodup_cons]; exact ⟨hk, hl⟩
    · rw [List.nodup_cons] at hl
      rw [if_neg h, List.nodup_cons, insW_mem]
      refine ⟨fun hx => ?_, ih hl.2 (fun h' => hk (List.mem_cons_of_mem _ h'))⟩
      rcases hx with rfl | hx
      · exact hk (List.mem_cons_self ..)
      · exact hl.1 hx
theorem insW_fall (w : List Int) (k : Nat) : ∀ l : List Nat, l.Pairwise (fun a b : Nat => rd w (b : Int) ≤ rd w (a : Int)) → (insW w k l).Pairwise (fun a b : Nat => rd w (b : Int) ≤ rd w (a : Int)) := by
  intro l
  induction l with
  | nil => intro _; simp [insW]
  | cons x l ih =>
    intro hl
    have hl' := hl
    rw [List.pairwise_cons] at hl
    simp only [insW]
    by_cases h : rd w (x : Int) < rd w (k : Int)
    · rw [if_pos h, List.pairwise_cons]
      refine ⟨fun b hb => ?_, hl'⟩
      rcases List.mem_cons.1 hb with rfl | hb
      · omega
      · have := hl.1 b hb; omega
    · rw [if_neg h, List.pairwise_cons]
      refine ⟨fun b hb => ?_, ih hl.2⟩
      rcases (insW_mem w k b l).1 hb with rfl | hb
      · omega
      · exact hl.1 b hb
theorem orderN_succ (w : List Int) (n : Nat) : orderN w (n + 1) = insW w n (orderN w n) := by
  unfold orderN
  rw [List.range_succ, List.foldl_append]; rfl
theorem orderN_mem (w : List Int) (a : Nat) : ∀ n, a ∈ orderN w n ↔ a < n := by
  intro n
  induction n with
  | zero => simp [orderN]
  | succ n ih =>
    rw [orderN_succ, insW_mem, ih]
    omega
theorem orderN_len (w : List Int) : ∀ n, (orderN w n).length = n := by
  intro n
  induction n with
  | zero => rfl
  | succ n ih => rw [orderN_succ, insW_len, ih]
theorem orderN_fall (w : List Int) : ∀ n, (orderN w n).Pairwise (fun a b : Nat => rd w (b : Int) ≤ rd w (a : Int)) := by
  intro n
  induction n with
  | zero => simp [orderN]
  | succ n ih => rw [orderN_succ]; exact insW_fall w n _ ih
theorem orderN_order (w : List Int) (n : Nat) : Order n (fun i => rd w (i : Int)) (orderN w n) := by
  refine ⟨?_, fun e => orderN_mem w e n, orderN_fall w n⟩
  induction n with
  | zero => simp [orderN]
  | succ n ih =>
    rw [orderN_succ]
    exact insW_nodup w n _ ih (fun h => by rw [orderN_mem] at h; omega)
end Go.Proofs.Ytagncnjllpebjaa.Q
namespace Go.Proofs.Ytagncnjllpebjaa.Q
open Go Go.RowKit Go.Proofs.YtagncnjllpebjaaW.PrintWords Go.Proofs.YtagncnjllpebjaaW.PrintLast Go.Proofs.YtagncnjllpebjaaW.PrintMore Go.Proofs.Ytagncnjllpebjaa.Z
set_option linter.unusedVariables false
set_option linter.unusedSimpArgs false
theorem failE_none {l : List Int} {a b : Nat} : ∀ {es : List Nat}, failE l a b es = none → ∀ e ∈ es, hasEx l a b e = true := by
  intro es
  induction es with
  | nil => intro _ e he; simp at he
  | cons x es ih =>
    intro h e he
    simp only [failE] at h
    by_cases hx : hasEx l a b x = true
    · rw [if_pos hx] at h
      rcases List.mem_cons.1 he with rfl | he
      · exact hx
      · exact ih h e he
    · rw [if_neg hx] at h; cases h
theorem failB_none {l : List Int} {a : Nat} : ∀ {bs : List Nat}, failB l a bs = none → ∀ b ∈ bs, failE l a b (els (dif a b)) = none := by
  intro bs
  induction bs with
  | nil => intro _ e he; simp at he
  | cons x bs ih =>
    intro h b hb
    simp only [failB] at h
    cases hx : failE l a x (els (dif a x)) with
    | none =>
      rw [hx] at h
      rcases List.mem_cons.1 hb with rfl | hb
      · exact hx
      · exact ih h b hb
    | some e => rw [hx] at h; cases h
theorem failA_none {l : List Int} {L : List Nat} : ∀ {la : List Nat}, failA l L la = none → ∀ a ∈ la, failB l a L = none := by
  intro la
  induction la with
  | nil => intro _ e he; simp at he
  | cons x la ih =>
    intro h b hb
    simp only [failA] at h
    cases hx : failB l x L with
    | none =>
      rw [hx] at h
      rcases List.mem_cons.1 hb with rfl | hb
      · exact hx
      · exact ih h b hb
    | some e => rw [hx] at h; cases h
theorem ints_mem {L : List Nat} {x : Nat} : (ints L).contains (x : Int) = true ↔ x ∈ L := by
  rw [List.contains_iff_mem]
  unfold ints
  rw [List.mem_map]
  constructor
  · rintro ⟨y, hy, he⟩
    have : y = x := by omega
    subst this; exact hy
  · intro h; exact ⟨x, h, rfl⟩
/-- What IsMatroid tells is a matroid. -/
theorem matB_mat {n : Int} {l : List Int} (h : matB n l = true) : ∃ (m : Nat) (L : List Nat), n = m ∧ l = ints L ∧ Mat m L ∧ L.Pairwise (· < ·) := by
  have h0 := h
  obtain ⟨m, L, rfl, hm, rfl, hL, hL256, hp, hne⟩ := matB_nat h
  refine ⟨m, L, rfl, rfl, ⟨hm, hL, hne, ?_⟩, hp⟩
  simp only [matB, Bool.and_eq_true] at h0
  obtain ⟨hf, _, hff⟩ := h0
  unfold failT at hff
  rw [if_pos hf, show (ints L).map Int.toNat = L from toNat_map L] at hff
  cases hA : failA (ints L) L L with
  | some x => rw [hA] at hff; simp [told] at hff
  | none =>
    intro a ha b hb e he hae hbe
    have h1 := failE_none (failB_none (failA_none hA a ha) b hb) e (mem_els.2 ⟨he, by rw [dif_bit, hae, hbe]; rfl⟩)
    unfold hasEx at h1
    obtain ⟨f, hf', hc⟩ := List.any_eq_true.1 h1
    obtain ⟨hf8, hfb⟩ := mem_els.1 hf'
    rw [dif_bit] at hfb
    simp only [Bool.and_eq_true, Bool.not_eq_true'] at hfb
    exact ⟨f, hf8, hfb.1, hfb.2, ints_mem.1 hc⟩
end Go.Proofs.Ytagncnjllpebjaa.Q
namespace Go.Proofs.Ytagncnjllpebjaa.Q
open Go Go.RowKit Go.Proofs.Ytagncnjllpebjaa.A Go.Proofs.YtagncnjllpebjaaW.PrintWords Go.Proofs.YtagncnjllpebjaaW.PrintLast Go.Proofs.YtagncnjllpebjaaW.PrintMore Go.Proofs.Ytagncnjllpebjaa.Z
set_option linter.unusedVariables false
set_option linter.unusedSimpArgs false
theorem pow_wrap {e : Nat} (he : e < 8) : IntKind.i64.wrap (2 ^ e) = ((2 ^ e : Nat) : Int) := by
  have h2 : (2 ^ e : Nat) < 9223372036854775808 := by
    have := Nat.pow_lt_pow_right (a := 2) (by decide) (show e < 63 by omega)
    simpa using this
  have h3 : (2 : Int) ^ e = ((2 ^ e : Nat) : Int) := by simp
  rw [h3]
  exact i64_wrap_nat h2
theorem implC_ev (l : List Int) (hl : l.length ≤ 17592186044416) (a e f : Nat) (ha : a < 256) (he : e < 8) (hf : f < 8) : Ev (fun k => impl_FirstFailure.c k l (a : Int) (e : Int) (f : Int)) (l.contains ((dif a (2 ^ e) ||| 2 ^ f : Nat) : Int)) := by
  unfold impl_FirstFailure.c impl_HasSet.f
  refine Ev.ifp (by omega) (Ev.ifp (by omega) ?_)
  have hp : ∀ x < 8, 2 ^ x < 2 ^ 63 := fun x hx => Nat.pow_lt_pow_right (by decide) (by omega)
  rw [Int.toNat_natCast, Int.toNat_natCast, pow_wrap he, pow_wrap hf, andNot_nat (lt256_63 ha) (hp e he), or_nat (lt256_63 (dif_lt ha)) (hp f hf)]
  exact Ev.bind (contains_ev l _ hl) (Ev.now _)
theorem els_lt {s e : Nat} (h : e ∈ els s) : e < 8 := (mem_els.1 h).1
theorem any_map (p : Int → Bool) (L : List Nat) : (L.map (fun x : Nat => (x : Int))).any p = L.any (fun x => p (x : Int)) := by
  rw [List.any_map]; rfl
theorem implFail_l2 (l : List Int) (hl : l.length ≤ 17592186044416) (a b : Nat) (ha : a < 256) (hb : b < 256) : ∀ es : List Nat, (∀ e ∈ es, e < 8) → Ev (fun k => impl_FirstFailure.l2 k l (a : Int) (b : Int) (es.map (fun x : Nat => (x : Int)))) ((failE l a b es).map (fun x : Nat => (x : Int))) := by
  intro es
  induction es with
  | nil => intro _; exact Ev.now _
  | cons e es ih =>
    intro hm
    have he := hm e (List.mem_cons_self ..)
    simp only [List.map_cons, impl_FirstFailure.l2]
    rw [andNot_nat (lt256_63 hb) (lt256_63 ha)]
    refine Ev.bind (implElements_ev _) ?_
    rw [elsB_nat (dif_lt hb)]
    refine Ev.bind (a := hasEx l a b e) ?_ ?_
    · have h := Ev_anyO (g := fun k f => impl_FirstFailure.c k l (a : Int) (e : Int) f) (p := fun f => l.contains ((dif a (2 ^ e) ||| 2 ^ f.toNat : Nat) : Int)) (l := (els (dif b a)).map (fun x : Nat => (x : Int)))
        (fun x hx => by
          obtain ⟨f, hf, rfl⟩ := List.mem_map.1 hx
          have := implC_ev l hl a e f ha he (els_lt hf)
          rw [Int.toNat_natCast]
          exact this)
      rw [any_map] at h
      simp only [Int.toNat_natCast] at h
      exact h
    · simp only [failE]
      by_cases hx : hasEx l a b e = true
      · refine Ev.ifp hx ?_
        rw [if_pos hx]
        exact ih (fun e' he' => hm e' (List.mem_cons_of_mem _ he'))
      · refine Ev.ifn hx ?_
        rw [if_neg hx]
        exact Ev.now _
theorem implFail_l1 (l : List Int) (hl : l.length ≤ 17592186044416) (a : Nat) (ha : a < 256) : ∀ bs : List Nat, (∀ b ∈ bs, b < 256) → Ev (fun k => impl_FirstFailure.l1 k l (a : Int) (bs.map (fun x : Nat => (x : Int)))) ((failB l a bs).map (fun x : Nat × Nat => ((x.1 : Int), (x.2 : Int)))) := by
  intro bs
  induction bs with
  | nil => intro _; exact Ev.now _
  | cons b bs ih =>
    intro hm
    have hb := hm b (List.mem_cons_self ..)
    simp only [List.map_cons, impl_FirstFailure.l1]
    rw [andNot_nat (lt256_63 ha) (lt256_63 hb)]
    refine Ev.bind (implElements_ev _) ?_
    rw [elsB_nat (dif_lt ha)]
    refine Ev.bind (implFail_l2 l hl a b ha hb _ (fun e he => els_lt he)) ?_
    simp only [failB]
    cases failE l a b (els (dif a b)) with
    | none => exact ih (fun b' hb' => hm b' (List.mem_cons_of_mem _ hb'))
    | some e => exact Ev.now _
theorem implFail_l0 (l : List Int) (L : List Nat) (hlL : l = L.map (fun x : Nat => (x : Int))) (hl : l.length ≤ 17592186044416) (hL : ∀ b ∈ L, b < 256) : ∀ la : List Nat, (∀ a ∈ la, a < 256) → Ev (fun k => impl_FirstFailure.l0 k l (la.map (fun x : Nat => (x : Int)))) ((failA l L la).map (fun x : Nat × Nat × Nat => ((x.1 : Int), (x.2.1 : Int), (x.2.2 : Int)))) := by
  intro la
  induction la with
  | nil => intro _; exact Ev.now _
  | cons a la ih =>
    intro hm
    have ha := hm a (List.mem_cons_self ..)
    simp only [List.map_cons, impl_FirstFailure.l0]
    refine Ev.bind (a := (failB l a L).map (fun x : Nat × Nat => ((x.1 : Int), (x.2 : Int)))) (by
      have := implFail_l1 l hl a ha L hL
      rw [← hlL] at this
      exact this) ?_
    simp only [failA]
    cases failB l a L with
    | none => exact ih (fun a' ha' => hm a' (List.mem_cons_of_mem _ ha'))
    | some x => exact Ev.now _
theorem implFail_ev (n : Int) (l : List Int) (hl : l.length ≤ 17592186044416) : Ev (fun k => impl_FirstFailure.f k n l) (failT n l) := by
  unfold impl_FirstFailure.f failT
  refine Ev.bind (implFam_ev n l hl) ?_
  by_cases hf : famB n l = true
  · refine Ev.ifp hf ?_
    rw [if_pos hf]
    obtain ⟨m, L, rfl, hm, hlL, hL, _⟩ := famB_nat hf
    have hmap : l.map Int.toNat = L := by rw [hlL, toNat_map]
    have h256 : ∀ b ∈ L, b < 256 := fun b hb => Nat.lt_of_lt_of_le (hL b hb) (pow_le_256 hm)
    have h := implFail_l0 l L hlL hl h256 L h256
    rw [← hlL] at h
    refine Ev.bind h ?_
    rw [hmap]
    cases failA l L L with
    | none => exact Ev.now _
    | some x => exact Ev.now _
  · refine Ev.ifn hf ?_
    rw [if_neg hf]
    exact Ev.now _
end Go.Proofs.Ytagncnjllpebjaa.Q
namespace Go.Proofs.Ytagncnjllpebjaa.Q
open Go Go.RowKit Go.Proofs.Ytagncnjllpebjaa.A Go.Proofs.YtagncnjllpebjaaW.PrintWords Go.Proofs.YtagncnjllpebjaaW.PrintLast Go.Proofs.YtagncnjllpebjaaW.PrintMore Go.Proofs.Ytagncnjllpebjaa.Z
set_option linter.unusedVariables false
set_option linter.unusedSimpArgs false
theorem implMat_ev (n : Int) (l : List Int) (hl : l.length ≤ 17592186044416) : Ev (fun k => impl_IsMatroid.f k n l) (matB n l) := by
  unfold impl_IsMatroid.f matB
  refine Ev.bind (implFail_ev n l hl) (Ev.bind (implFam_ev n l hl) ?_)
  by_cases hf : famB n l = true
  · refine Ev.ifp hf ?_
    rw [hf, Bool.true_and]
    by_cases h0 : (l.length : Int) > 0
    · refine Ev.ifp h0 ?_
      rw [show decide ((l.length : Int) > 0) = true from by simpa using h0, Bool.true_and]
      exact Ev.now _
    · refine Ev.ifn h0 ?_
      rw [show decide ((l.length : Int) > 0) = false from by simpa using h0, Bool.false_and]
      exact Ev.now _
  · refine Ev.ifn hf ?_
    rw [Bool.eq_false_iff.2 hf, Bool.false_and]
    exact Ev.now _
end Go.Proofs.Ytagncnjllpebjaa.Q
namespace Go.Proofs.Ytagncnjllpebjaa.Q
open Go Go.RowKit Go.Proofs.Ytagncnjllpebjaa.A Go.Proofs.YtagncnjllpebjaaW.PrintWords Go.Proofs.YtagncnjllpebjaaW.PrintLast Go.Proofs.YtagncnjllpebjaaW.PrintMore Go.Proofs.Ytagncnjllpebjaa.Z
set_option linter.unusedVariables false
set_option linter.unusedSimpArgs false
def rankB (n : Int) (l : List Int) : Int := if matB n l = true then (pc (rd l 0).toNat : Int) else -1
theorem rankB_mat {m : Nat} {L : List Nat} (h : matB (m : Int) (ints L) = true) (hM : Mat m L) : ∀ b ∈ L, rankB (m : Int) (ints L) = (pc b : Int) := by
  intro b hb
  unfold rankB
  rw [if_pos h]
  have h0 : 0 < L.length := List.length_pos_iff.2 hM.some
  have e := ints_rd L 0 h0
  rw [show ((0 : Nat) : Int) = 0 from rfl] at e
  rw [e, Int.toNat_natCast, hM.card (List.getElem_mem h0) hb]
theorem specRankOf_ev (n : Int) (l : List Int) (hl : l.length ≤ 17592186044416) : Ev (fun k => spec_RankOfMatroid.f k n l) (rankB n l) := by
  unfold spec_RankOfMatroid.f rankB
  refine Ev.bind (specMat_ev n l hl) ?_
  by_cases h : matB n l = true
  · refine Ev.ifp h ?_
    rw [if_pos h]
    obtain ⟨m, L, rfl, rfl, hM, _⟩ := matB_mat h
    have h0 : 0 < L.length := List.length_pos_iff.2 hM.some
    have e := ints_rd L 0 h0
    rw [show ((0 : Nat) : Int) = 0 from rfl] at e
    refine Ev.ifp (by rw [ints_len]; omega) ?_
    rw [e, Int.toNat_natCast]
    exact Ev.bind (specCount_ev _ (hM.lt _ (List.getElem_mem h0))) (Ev.now _)
  · refine Ev.ifn h ?_
    rw [if_neg h]; exact Ev.now _
end Go.Proofs.Ytagncnjllpebjaa.Q
namespace Go.Proofs.Ytagncnjllpebjaa.Q
open Go Go.RowKit Go.Proofs.Ytagncnjllpebjaa.A Go.Proofs.YtagncnjllpebjaaW.PrintWords Go.Proofs.YtagncnjllpebjaaW.PrintLast Go.Proofs.YtagncnjllpebjaaW.PrintMore Go.Proofs.Ytagncnjllpebjaa.Z
set_option linter.unusedVariables false
set_option linter.unusedSimpArgs false
theorem subset_eq (t s : Int) : impl_IsSubset.f t s = some (isAnyB t && (isAnyB s && decide (subN t.toNat s.toNat))) := by
  unfold impl_IsSubset.f
  rw [isAny_eq, isAny_eq, Option.bind_some, Option.bind_some]
  by_cases h1 : isAnyB t = true
  · rw [if_pos h1, h1, Bool.true_and]
    by_cases h2 : isAnyB s = true
    · rw [if_pos h2, h2, Bool.true_and]
      obtain ⟨a, rfl, ha⟩ := isAnyB_lt h1
      obtain ⟨b, rfl, hb⟩ := isAnyB_lt h2
      rw [andNot_nat (lt256_63 ha) (lt256_63 hb), Int.toNat_natCast, Int.toNat_natCast]
      have e : (((dif a b : Nat) : Int) == 0) = decide (subN a b) := by
        rw [Bool.eq_iff_iff, beq_iff_eq, decide_eq_true_eq]
        have h := @dif_zero a b
        constructor
        · intro h0; exact h.1 (by omega)
        · intro h0; have := h.2 h0; omega
      rw [e]
    · rw [if_neg h2, Bool.eq_false_iff.2 h2, Bool.false_and]
  · rw [if_neg h1, Bool.eq_false_iff.2 h1, Bool.false_and]
/-- independent at whatever number. -/
def indB (L : List Nat) (s : Int) : Bool := isAnyB s && indN L s.toNat
theorem implInd_ev (n : Int) (L : List Nat) (s : Int) (hl : L.length ≤ 17592186044416) (hL : ∀ b ∈ L, b < 256) : Ev (fun k => impl_independent.f k n (ints L) s) (indB L s) := by
  have h := down (P := fun i => Ev (fun k => impl_independent.l0 k s (ints L) ((ints L).length : Int) (i : Int)) (isAnyB s && (L.drop i).any (fun b => decide (subN s.toNat b)))) L.length
    (by
      apply Ev.step
      · intro k
        simp only [impl_independent.l0]
        rw [if_neg (by rw [ints_len]; omega)]
      · rw [drop_end]
        simp only [List.any_nil, Bool.and_false]
        exact Ev.now _)
    (by
      intro i hi ih
      have hb := hL _ (List.getElem_mem hi)
      apply Ev.step
      · intro k
        simp only [impl_independent.l0, subset_eq, Option.bind_some]
        rw [if_pos (by rw [ints_len]; omega), if_pos (by omega), if_pos (by rw [ints_len]; omega), ints_rd L i hi, w_succ hi hl]
      · rw [drop_cons L i hi, List.any_cons]
        rw [show isAnyB (L[i] : Int) = true from by rw [isAnyB_nat]; simpa using hb, Bool.true_and, Int.toNat_natCast]
        by_cases hx : (isAnyB s && decide (subN s.toNat L[i])) = true
        · refine Ev.ifp hx ?_
          simp only [Bool.and_eq_true] at hx
          rw [hx.1, hx.2]
          exact Ev.now _
        · refine Ev.ifn hx ?_
          have : (isAnyB s && (decide (subN s.toNat L[i]) || (L.drop (i + 1)).any (fun b => decide (subN s.toNat b)))) = (isAnyB s && (L.drop (i + 1)).any (fun b => decide (subN s.toNat b))) := by
            cases h1 : isAnyB s
            · rfl
            · rw [h1] at hx
              simp only [Bool.true_and] at hx ⊢
              rw [Bool.eq_false_iff.2 hx, Bool.false_or]
          rw [this]
          exact ih)
  exact h
theorem indB_nat {L : List Nat} {s : Nat} (hs : s < 256) : indB L (s : Int) = indN L s := by
  unfold indB
  rw [isAnyB_nat, show decide (s < 256) = true from by simpa using hs, Bool.true_and, Int.toNat_natCast]
end Go.Proofs.Ytagncnjllpebjaa.Q
namespace Go.Proofs.Ytagncnjllpebjaa.Q
open Go Go.RowKit Go.Proofs.Ytagncnjllpebjaa.A Go.Proofs.YtagncnjllpebjaaW.PrintWords Go.Proofs.YtagncnjllpebjaaW.PrintLast Go.Proofs.YtagncnjllpebjaaW.PrintMore Go.Proofs.Ytagncnjllpebjaa.Z
set_option linter.unusedVariables false
set_option linter.unusedSimpArgs false
theorem or64 {s e : Nat} (hs : s < 256) (he : e < 8) : Go.bits .or .i64 (s : Int) (shl .i64 1 (IntKind.u64.wrap (e : Int))) = ((s ||| 2 ^ e : Nat) : Int) := by
  rw [u64_of (by omega) (by omega), shl_one (by omega), or_nat (lt256_63 hs) (lt256_63 (show 2 ^ e < 256 from pow_lt_of (m := 8) he))]
theorem specOrder_ev (w : List Int) (hw : w.length ≤ 8) : Ev (fun k => spec_l19Order.f k w) (ints (orderN w w.length)) := by
  have hd := down (P := fun i => Ev (fun k => spec_l19Order.l0 k w (ints (orderN w i)) (i : Int)) (ints (orderN w w.length))) w.length
    (by
      apply Ev.step
      · intro k
        rw [spec_l19Order.l0, if_neg (by omega)]
      · exact Ev.now _)
    (by
      intro i hi ih
      have hlen := orderN_len w i
      have hmem := fun a => orderN_mem w a i
      have hfall := orderN_fall w i
      rw [orderN_succ] at ih
      generalize orderN w i = out at ih hlen hmem hfall ⊢
      have key : ∀ at_ : Nat, at_ ≤ i → (∀ x ∈ out.drop at_, rd w (x : Int) < rd w (i : Int)) → Ev (fun k => spec_l19Order.l1 k w (ints out) (i : Int) (at_ : Int)) (ints (orderN w w.length)) := by
        have ins : ∀ at_ : Nat, at_ ≤ i → (∀ x ∈ out.take at_, ¬ rd w (x : Int) < rd w (i : Int)) → (∀ x ∈ out.drop at_, rd w (x : Int) < rd w (i : Int)) → Ev (fun k => spec_l19Order.l0 k w ((ints out).take at_ ++ [(i : Int)] ++ (ints out).drop at_) (wrap64 ((i : Int) + 1))) (ints (orderN w w.length)) := by
          intro at_ ha h1 h2
          have e := insW_split w i (out.drop at_) h2 (out.take at_) h1
          rw [List.take_append_drop] at e
          rw [e] at ih
          rw [w_succ hi (by omega)]
          have : (ints out).take at_ ++ [(i : Int)] ++ (ints out).drop at_ = ints (out.take at_ ++ i :: out.drop at_) := by
            unfold ints
            rw [List.map_append, List.map_cons, List.map_take, List.map_drop, List.append_assoc, List.singleton_append]
          rw [this]; exact ih
        intro at_
        induction at_ with
        | zero =>
          intro _ h2
          have := ins 0 (by omega) (by simp) h2
          apply Ev.step
          · intro k
            rw [spec_l19Order.l1, if_neg (by omega)]
          · simp only [Option.bind_some, List.nil_append, List.length_nil]
            refine Ev.ifp (by omega) (Ev.ifp (by omega) (Ev.ifp (by rw [List.length_drop, ints_len]; omega) (Ev.ifp (by rw [List.length_take, ints_len]; omega) (Ev.ifp (by simp only [List.length_append, List.length_take, List.length_drop, List.length_singleton, ints_len]; omega) ?_))))
            exact this
        | succ a iha =>
          intro ha h2
          have hlt : a < out.length := by omega
          have hx := (hmem out[a]).1 (List.getElem_mem hlt)
          apply Ev.step
          · intro k
            rw [spec_l19Order.l1, if_pos (by omega), wrap64_of (n := ((a + 1 : Nat) : Int) - 1) (by omega) (by omega), show ((a + 1 : Nat) : Int) - 1 = (a : Int) from by omega, if_pos (by omega), if_pos (by rw [ints_len]; omega), ints_rd out a hlt, if_pos (by omega), if_pos (by omega), if_pos (by omega), if_pos (by omega)]
          · by_cases hc : rd w (out[a] : Int) < rd w (i : Int)
            · refine Ev.ifp hc (iha (by omega) (fun x hx' => ?_))
              rw [drop_cons out a hlt] at hx'
              rcases List.mem_cons.1 hx' with rfl | hx'
              · exact hc
              · exact h2 x hx'
            · refine Ev.ifn hc ?_
              have := ins (a + 1) ha (fun x hx' => by
                rw [take_snoc out a hlt] at hx'
                rcases List.mem_append.1 hx' with hx' | hx'
                · obtain ⟨j, hj, rfl⟩ := List.mem_take_iff_getElem.1 hx'
                  have := List.pairwise_iff_getElem.1 hfall j a (by omega) hlt (by omega)
                  omega
                · rw [List.mem_singleton.1 hx']; exact hc) h2
              simp only [Option.bind_some, List.nil_append, List.length_nil]
              refine Ev.ifp (by omega) (Ev.ifp (by rw [ints_len]; omega) (Ev.ifp (by rw [List.length_drop, ints_len]; omega) (Ev.ifp (by rw [List.length_take, ints_len]; omega) (Ev.ifp (by simp only [List.length_append, List.length_take, List.length_drop, List.length_singleton, ints_len]; omega) ?_))))
              rw [Int.toNat_natCast]
              exact this
      apply Ev.step
      · intro k
        rw [spec_l19Order.l0, if_pos (by omega)]
      · have := key i (Nat.le_refl _) (by rw [List.drop_eq_nil_of_le (by omega)]; simp)
        rw [ints_len, hlen]; exact this)
  exact hd
theorem specTaken_ev {m : Nat} {L : List Nat} (hM : Mat m L) (w : List Int) (hw : w.length = m) (hl : L.length ≤ 17592186044416) : Ev (fun k => spec_l19Taken.f k (m : Int) (ints L) w) (ints (greedyL (indN L) 0 (orderN w m))) := by
  have hm := hM.size
  have h8 : ∀ e ∈ orderN w m, e < 8 := fun e he => by have := (orderN_mem w e m).1 he; omega
  have hlen := orderN_len w m
  unfold spec_l19Taken.f
  have ho := specOrder_ev w (by omega)
  rw [hw] at ho
  refine Ev.bind ho ?_
  generalize orderN w m = es at h8 hlen ⊢
  have hd := down (P := fun i => ∀ (T : List Nat) (s : Nat), T.length ≤ i → s < 256 → Ev (fun k => spec_l19Taken.l0 k (ints T) (s : Int) (ints es) (i : Int) (m : Int) (ints L)) (ints (T ++ greedyL (indN L) s (es.drop i)))) es.length
    (by
      intro T s _ _
      apply Ev.step
      · intro k
        rw [spec_l19Taken.l0, if_neg (by rw [ints_len]; omega)]
      · rw [drop_end]; simp only [greedyL, List.append_nil]; exact Ev.now _)
    (by
      intro i hi ih T s hT hs
      have he := h8 _ (List.getElem_mem hi)
      have hlt : s ||| 2 ^ es[i] < 256 := Nat.or_lt_two_pow (n := 8) hs (pow_lt_of he)
      apply Ev.step
      · intro k
        rw [spec_l19Taken.l0, if_pos (by rw [ints_len]; omega), if_pos (by omega), ints_rd es i hi, if_pos (u64_nonneg _), or64 hs he, w_succ hi (by omega)]
      · rw [drop_cons es i hi]
        refine Ev.bind (specRank_ev _ L _ hl hM.lt hlt) (Ev.bind (specCount_ev _ hlt) ?_)
        have hiff := rk_eq_iff hlt hM.some
        simp only [greedyL]
        by_cases h : indN L (s ||| 2 ^ es[i]) = true
        · rw [if_pos h]
          have := hiff.2 h
          refine Ev.ifp (by omega) (Ev.ifp (by rw [ints_len]; omega) ?_)
          rw [show ints T ++ [(es[i] : Int)] = ints (T ++ [es[i]]) from by simp [ints]]
          have h2 := ih (T ++ [es[i]]) _ (by rw [List.length_append, List.length_singleton]; omega) hlt
          rwa [List.append_assoc, List.singleton_append] at h2
        · rw [if_neg h]
          have : rkN L (s ||| 2 ^ es[i]) ≠ pc (s ||| 2 ^ es[i]) := fun e => h (hiff.1 e)
          exact Ev.ifn (by omega) (ih T s (by omega) hs))
  exact hd [] 0 (Nat.zero_le _) (by decide)
/-- What greed takes, one after the other. -/
def takN (m : Nat) (L : List Nat) (w : List Int) : List Nat := greedyL (indN L) 0 (orderN w m)
theorem takN_all {m : Nat} {L : List Nat} (hM : Mat m L) (w : List Int) : (∀ e ∈ takN m L w, e < m) ∧ (takN m L w).Nodup ∧ (∀ i, indN L (orL 0 ((takN m L w).take i)) = true) := by
  obtain ⟨r1, r2, r3, _, _⟩ := greedy_all (Mat.ind hM) (p := indN L) (fun s => Iff.rfl) (orderN_order w m)
  exact ⟨r1, r2, r3⟩
theorem takN_best {m : Nat} {L : List Nat} (hM : Mat m L) (w : List Int) : ∀ (k J : Nat), indN L J = true → pc J = k → k ≤ (takN m L w).length ∧ wsum (fun i => rd w (i : Int)) J ≤ wsum (fun i => rd w (i : Int)) (orL 0 ((takN m L w).take k)) :=
  greedy_best (Mat.ind hM) (p := indN L) (fun s => Iff.rfl) (orderN_order w m)
theorem orL_lt {m : Nat} : ∀ T : List Nat, (∀ e ∈ T, e < m) → orL 0 T < 2 ^ m := by
  intro T
  induction T with
  | nil => intro _; exact Nat.two_pow_pos _
  | cons e T ih =>
    intro h
    exact or_ltP (ih (fun x hx => h x (List.mem_cons_of_mem _ hx))) (pow_lt_of (h e (List.mem_cons_self ..)))
/-- As many as a base has. -/
theorem takN_len {m : Nat} {L : List Nat} (hM : Mat m L) (w : List Int) {b : Nat} (hb : b ∈ L) : (takN m L w).length = pc b := by
  have hm := hM.size
  obtain ⟨r1, r2, r3⟩ := takN_all hM w
  obtain ⟨h1, _⟩ := takN_best hM w (pc b) b (indN_iff.2 ⟨b, hb, subN_refl b⟩) rfl
  refine Nat.le_antisymm ?_ h1
  have h2 := r3 (takN m L w).length
  rw [List.take_length] at h2
  obtain ⟨c, hc, hsub⟩ := indN_iff.1 h2
  have h3 := pc_sub hsub
  rw [pc_orL _ r2 (fun e he => by have := r1 e he; omega)] at h3
  rw [hM.card hb hc]
  exact h3
def bosB (n : Int) (l w : List Int) (c : Int) : Int × Bool := if areW n w = true ∧ 0 ≤ c ∧ c ≤ rankB n l then (((orL 0 ((takN n.toNat (l.map Int.toNat) w).take c.toNat) : Nat) : Int), true) else (0, false)
theorem specBos_ev (n : Int) (l w : List Int) (c : Int) (hl : l.length ≤ 17592186044416) (hwl : w.length ≤ 17592186044416) : Ev (fun k => spec_BestOfSize.f k n l w c) (bosB n l w c) := by
  have hno : Ev (fun k => spec_BestOfSize.j0 k w c true n l) (0, false) := by
    apply Ev.step
    · intro k
      rw [spec_BestOfSize.j0]
    · exact Ev.ifp rfl (Ev.now _)
  unfold spec_BestOfSize.f bosB
  refine Ev.bind (specAreWeights_ev n w hwl) ?_
  by_cases h1 : areW n w = true
  · refine Ev.ifp h1 (Ev.bind (specRankOf_ev n l hl) (Ev.cbind (l1In_eq _ _ _) ?_))
    by_cases h2 : 0 ≤ c ∧ c ≤ rankB n l
    · rw [if_pos ⟨h1, h2⟩, show (decide (0 ≤ c) && decide (c ≤ rankB n l)) = true from by simp [h2]]
      have hmat : matB n l = true := by
        unfold rankB at h2
        by_cases hm : matB n l = true
        · exact hm
        · rw [if_neg hm] at h2; omega
      obtain ⟨m, L, rfl, rfl, hM, _⟩ := matB_mat hmat
      rw [Int.toNat_natCast, show (ints L).map Int.toNat = L from toNat_map L]
      obtain ⟨b, hb⟩ := List.exists_mem_of_ne_nil L hM.some
      have hr := rankB_mat hmat hM b hb
      have hlen := takN_len hM w hb
      obtain ⟨r1, r2, r3⟩ := takN_all hM w
      have hm := hM.size
      have hwm : w.length = m := by have := (areW_bound h1).2; omega
      obtain ⟨kk, rfl⟩ := Int.eq_ofNat_of_zero_le h2.1
      apply Ev.step
      · intro k
        rw [spec_BestOfSize.j0]
      · refine Ev.ifn (by decide) (Ev.bind (specTaken_ev hM w hwm (by rw [ints_len] at hl; exact hl)) ?_)
        rw [Int.toNat_natCast]
        show Ev (fun k => spec_BestOfSize.l0 k (kk : Int) (ints (takN m L w)) 0 0) _
        have hT : ∀ e ∈ takN m L w, e < m := r1
        have hkk : kk ≤ (takN m L w).length := by omega
        have h8 := pc_le b
        generalize takN m L w = T at hT hkk hlen
        have hd := down (P := fun i => Ev (fun k => spec_BestOfSize.l0 k (kk : Int) (ints T) ((orL 0 (T.take i) : Nat) : Int) (i : Int)) (((orL 0 (T.take kk) : Nat) : Int), true)) kk
          (by
            apply Ev.step
            · intro k
              rw [spec_BestOfSize.l0, if_neg (by omega)]
            · exact Ev.now _)
          (by
            intro i hi ih
            have hi' : i < T.length := by omega
            have he := hT _ (List.getElem_mem hi')
            have hlt : orL 0 (T.take i) < 256 := Nat.lt_of_lt_of_le (orL_lt _ (fun e he' => hT e (List.mem_of_mem_take he'))) (pow_le_256 hm)
            apply Ev.step
            · intro k
              rw [spec_BestOfSize.l0, if_pos (by omega), if_pos (by omega), if_pos (by rw [ints_len]; omega), ints_rd T i hi', if_pos (u64_nonneg _), or64 hlt (by omega), wrap64_of (by omega) (by omega)]
            · rw [take_snoc T i hi', orL_snoc] at ih
              exact ih)
        exact hd
    · rw [if_neg (fun h => h2 h.2)]
      have : (decide (0 ≤ c) && decide (c ≤ rankB n l)) = false := by
        rw [Bool.eq_false_iff]; intro h; rw [Bool.and_eq_true, decide_eq_true_eq, decide_eq_true_eq] at h; exact h2 h
      rw [this]; exact hno
  · refine Ev.ifn h1 ?_
    rw [if_neg (fun h => h1 h.1)]
    exact hno
end Go.Proofs.Ytagncnjllpebjaa.Q
namespace Go.Proofs.Ytagncnjllpebjaa.Q
open Go Go.RowKit Go.Proofs.Ytagncnjllpebjaa.A Go.Proofs.YtagncnjllpebjaaW.PrintWords Go.Proofs.YtagncnjllpebjaaW.PrintLast Go.Proofs.YtagncnjllpebjaaW.PrintMore Go.Proofs.Ytagncnjllpebjaa.Z
set_option linter.unusedVariables false
set_option linter.unusedSimpArgs false
theorem elsG_full : ∀ q < 9, els (fullN q) = List.range q := by decide +kernel
theorem gInsW {w : List Int} (k : Nat) (hk : k < w.length) : ∀ (L : List Nat), (∀ x ∈ L, x < w.length) → insF (fun x => rd w (gClip w x)) (k : Int) (ints L) = ints (insW w k L) := by
  intro L
  induction L with
  | nil => intro _; rfl
  | cons x L ih =>
    intro h
    have hx := h x (List.mem_cons_self ..)
    have ih' := ih (fun y hy => h y (List.mem_cons_of_mem _ hy))
    unfold ints at ih' ⊢
    rw [List.map_cons]
    simp only [insF, insW]
    have e1 : gClip w (x : Int) = x := gClip_of (by omega)
    have e2 : gClip w (k : Int) = k := gClip_of (by omega)
    by_cases hc : rd w (x : Int) < rd w (k : Int)
    · rw [if_pos (show rd w (gClip w (x : Int)) < rd w (gClip w (k : Int)) by rw [e1, e2]; exact hc), if_pos hc]; rfl
    · rw [if_neg (show ¬ rd w (gClip w (x : Int)) < rd w (gClip w (k : Int)) by rw [e1, e2]; exact hc), if_neg hc, ih']; rfl
theorem gOrd_orderN {w : List Int} : ∀ m, m ≤ w.length → gOrd w (ints (List.range m)) = ints (orderN w m) := by
  intro m
  induction m with
  | zero => intro _; rfl
  | succ m ih =>
    intro hm
    have h1 := ih (by omega)
    rw [orderN_succ, List.range_succ]
    unfold gOrd at h1 ⊢
    rw [show ints (List.range m ++ [m]) = ints (List.range m) ++ [(m : Int)] from by simp [ints], List.foldl_append, h1, List.foldl_cons, List.foldl_nil]
    exact gInsW m (by omega) _ (fun x hx => by have := (orderN_mem w x m).1 hx; omega)
theorem greedyO_ev {m : Nat} {L : List Nat} (hM : Mat m L) (hl : L.length ≤ 17592186044416) : ∀ (es T : List Nat) (s : Nat), s < 256 → (∀ e ∈ es, e < m) → T.length + es.length ≤ 1000 → Ev (fun k => greedyO k (m : Int) (ints L) (ints es) (s : Int) (ints T)) (ints (T ++ greedyL (indN L) s es)) := by
  intro es
  induction es with
  | nil =>
    intro T s _ _ _
    simp only [greedyL, List.append_nil]
    exact Ev.now _
  | cons e es ih =>
    intro T s hs he hT
    have hm := hM.size
    have h8 : e < 8 := by have := he e (List.mem_cons_self ..); omega
    rw [List.length_cons] at hT
    have hse : s ||| 2 ^ e < 256 := or_ltP (m := 8) hs (pow_lt_of h8)
    have hbit : Go.bits .or .i64 (s : Int) (shl .i64 1 (e : Int)) = ((s ||| 2 ^ e : Nat) : Int) := by
      rw [shl_one (by omega), or_nat (lt256_63 hs) (lt256_63 (pow_lt_of (m := 8) h8))]
    show Ev (fun k => greedyO k (m : Int) (ints L) ((e : Int) :: ints es) (s : Int) (ints T)) _
    simp only [greedyO, greedyL]
    rw [hbit]
    refine Ev.ifp (by omega) (Ev.bind (implInd_ev _ L _ hl hM.lt) ?_)
    rw [indB_nat hse]
    by_cases hc : indN L (s ||| 2 ^ e) = true
    · rw [if_pos hc]
      refine Ev.ifp hc (Ev.ifp (by rw [ints_len]; omega) ?_)
      rw [show ints T ++ [(e : Int)] = ints (T ++ [e]) from by simp [ints]]
      have := ih (T ++ [e]) _ hse (fun x hx => he x (List.mem_cons_of_mem _ hx)) (by rw [List.length_append, List.length_singleton]; omega)
      rwa [List.append_assoc, List.singleton_append] at this
    · rw [if_neg hc]
      exact Ev.ifn hc (ih T s hs (fun x hx => he x (List.mem_cons_of_mem _ hx)) (by omega))
def grB (n : Int) (l w : List Int) : List Int × Bool := if matB n l = true ∧ areW n w = true then (ints (takN n.toNat (l.map Int.toNat) w), true) else ([], false)
theorem implGreedy_ev (n : Int) (l w : List Int) (hl : l.length ≤ 17592186044416) (hw : w.length ≤ 17592186044416) : Ev (fun k => impl_greedy.f k n l w) (grB n l w) := by
  unfold impl_greedy.f grB
  refine Ev.bind (implMat_ev n l hl) ?_
  by_cases h : matB n l = true
  rotate_left
  · rw [if_neg (fun h2 => h h2.1)]
    exact Ev.ifn h (Ev.now _)
  refine Ev.ifp h (Ev.bind (implAreWeights_ev n w hw) ?_)
  by_cases h2 : areW n w = true
  rotate_left
  · rw [if_neg (fun h3 => h2 h3.2)]
    exact Ev.ifn h2 (Ev.now _)
  rw [if_pos ⟨h, h2⟩]
  refine Ev.ifp h2 ?_
  obtain ⟨m, L, rfl, rfl, hM, _⟩ := matB_mat h
  have hm := hM.size
  rw [ints_len] at hl
  rw [show (ints L).map Int.toNat = L from toNat_map L, Int.toNat_natCast]
  have hwm : w.length = m := by have := (areW_bound h2).2; omega
  refine Ev.cbind (implFull_eq hm) (Ev.bind (implElements_ev _) ?_)
  rw [elsB_nat (full_lt hm).2, elsG_full m (by omega)]
  show Ev (fun k => if gOk w (ints (List.range m)) = true then (greedyO k (m : Int) (ints L) (gOrd w (ints (List.range m))) 0 []).bind fun z => some (z, true) else none) _
  have hok : gOk w (ints (List.range m)) = true := by
    unfold gOk
    simp only [Bool.and_eq_true, List.all_eq_true, decide_eq_true_eq]
    refine ⟨fun v hv => ?_, fun x hx => ?_, by rw [ints_len, List.length_range]; omega⟩
    · unfold areW at h2
      simp only [Bool.and_eq_true, List.all_eq_true, decide_eq_true_eq] at h2
      have := h2.1.1 v hv
      omega
    · obtain ⟨y, hy, rfl⟩ := List.mem_map.1 hx
      have := List.mem_range.1 hy
      omega
  rw [gOrd_orderN m (by omega)]
  refine Ev.ifp hok (Ev.bind (greedyO_ev hM hl (orderN w m) [] 0 (by decide) (fun e he => (orderN_mem w e m).1 he) (by rw [orderN_len]; simp; omega)) ?_)
  rw [List.nil_append]
  exact Ev.now _
theorem implSetOf_ev (T : List Nat) (h : ∀ e ∈ T, e < 8) (hl : T.length ≤ 1000) : Ev (fun k => impl_setOf.f k (ints T)) ((orL 0 T : Nat) : Int) := by
  unfold impl_setOf.f
  rw [ints_len]
  have hd := down (P := fun i => Ev (fun k => impl_setOf.l0 k ((orL 0 (T.take i) : Nat) : Int) (ints T) (T.length : Int) (i : Int)) ((orL 0 T : Nat) : Int)) T.length
    (by
      apply Ev.step
      · intro k
        rw [impl_setOf.l0, if_neg (by omega), List.take_length]
      · exact Ev.now _)
    (by
      intro i hi ih
      have he := h _ (List.getElem_mem hi)
      have hlt : orL 0 (T.take i) < 256 := orL_lt (m := 8) _ (fun e he' => h e (List.mem_of_mem_take he'))
      apply Ev.step
      · intro k
        rw [impl_setOf.l0, if_pos (by omega), if_pos (by omega), if_pos (by rw [ints_len]; omega), ints_rd T i hi, if_pos (by omega), shl_one (by omega), or_nat (lt256_63 hlt) (lt256_63 (pow_lt_of (m := 8) he)), wrap64_of (by omega) (by omega)]
      · rw [take_snoc T i hi, orL_snoc] at ih
        exact ih)
  exact hd
theorem takN_le {m : Nat} {L : List Nat} (hM : Mat m L) (w : List Int) : (takN m L w).length ≤ 8 := by
  obtain ⟨b, hb⟩ := List.exists_mem_of_ne_nil L hM.some
  rw [takN_len hM w hb]; exact pc_le b
def gbB (n : Int) (l w : List Int) : Int × Bool := bosB n l w (rankB n l)
theorem specGb_ev (n : Int) (l w : List Int) (hl : l.length ≤ 17592186044416) (hw : w.length ≤ 17592186044416) : Ev (fun k => spec_GreedyBase.f k n l w) (gbB n l w) := by
  unfold spec_GreedyBase.f gbB
  exact Ev.bind (specRankOf_ev n l hl) (Ev.bind (specBos_ev n l w _ hl hw) (Ev.now _))
theorem implGb_ev (n : Int) (l w : List Int) (hl : l.length ≤ 17592186044416) (hw : w.length ≤ 17592186044416) : Ev (fun k => impl_GreedyBase.f k n l w) (gbB n l w) := by
  unfold impl_GreedyBase.f gbB bosB
  refine Ev.bind (implGreedy_ev n l w hl hw) ?_
  unfold grB
  by_cases h : matB n l = true ∧ areW n w = true
  rotate_left
  · rw [if_neg h, if_neg (by
      rintro ⟨h1, h2, h3⟩
      refine h ⟨?_, h1⟩
      refine Classical.byContradiction fun hc => ?_
      unfold rankB at h2
      rw [if_neg hc] at h2; omega)]
    exact Ev.bind (implSetOf_ev [] (fun _ h => absurd h List.not_mem_nil) (by decide)) (Ev.now _)
  rw [if_pos h]
  obtain ⟨m, L, rfl, rfl, hM, _⟩ := matB_mat h.1
  rw [show (ints L).map Int.toNat = L from toNat_map L, Int.toNat_natCast]
  obtain ⟨b, hb⟩ := List.exists_mem_of_ne_nil L hM.some
  have hr := rankB_mat h.1 hM b hb
  have hlen := takN_len hM w hb
  have hle := takN_le hM w
  obtain ⟨r1, _, _⟩ := takN_all hM w
  have hm := hM.size
  rw [if_pos ⟨h.2, by omega, by omega⟩, hr, Int.toNat_natCast, ← hlen, List.take_length]
  exact Ev.bind (implSetOf_ev _ (fun x hx => by have := r1 x hx; omega) (by omega)) (Ev.now _)
end Go.Proofs.Ytagncnjllpebjaa.Q
namespace Go.Proofs.Ytagncnjllpebjaa.Pure
open Go Go.RowKit Go.Proofs.Ytagncnjllpebjaa.A Go.Proofs.YtagncnjllpebjaaW.PrintWords Go.Proofs.YtagncnjllpebjaaW.PrintLast Go.Proofs.YtagncnjllpebjaaW.PrintMore Go.Proofs.Ytagncnjllpebjaa.Z Go.Proofs.Ytagncnjllpebjaa.Q
set_option linter.unusedVariables false
set_option linter.unusedSimpArgs false
theorem FnExactGreedyBase : laws_FnExactGreedyBase.Pure := by
  intro n l w hn hm hw hm1 hw1
  unfold laws_FnExactGreedyBase.f
  refine Ev.rounds ?_
  by_cases h0 : (w.length : Int) > 1048576
  · exact Ev.ifp h0 (Ev.now _)
  refine Ev.ifn h0 ?_
  have hl' : w.length ≤ 17592186044416 := by omega
  refine Ev.cbind (szMat_eq n l 1048576 (by omega) (by omega) hm) ?_
  by_cases h1 : (l.length : Int) > 1048576
  · rw [if_pos h1]
    exact Ev.ifp (by decide) (Ev.now _)
  rw [if_neg h1]
  refine Ev.ifn (by omega) ?_
  have hl : l.length ≤ 17592186044416 := by omega
  refine Ev.bind (toMat_ev n l hl) (Ev.bind (toInt_ev w hl') (Ev.bind (specGb_ev n l w hl hl') (Ev.bind (toMat_ev n l hl) (Ev.bind (toInt_ev w hl') (Ev.bind (implGb_ev n l w hl hl') (Ev.ifp rfl ?_))))))
  apply Ev.step
  · intro k
    rw [laws_FnExactGreedyBase.j0]
  exact Ev.ifn (by simp) (Ev.bind (toMat_ev n l hl) (Ev.bind (eqMat_ev n l hl) (Ev.ifp rfl (Ev.bind (toInt_ev w hl') (Ev.bind (eqInt_self w hl') (Ev.ifp rfl (Ev.now _)))))))
end Go.Proofs.Ytagncnjllpebjaa.Pure
