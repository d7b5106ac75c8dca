/- The pure side of the law FnExactPartitionMatroid: what the Lean functions of the print compute, and that the law holds of them. Conditions: those in each lemma. -/
import Derived.Test.YtagncnjllpebjaaMFnExactPartitionMatroid1
import Derived.Test.YtagncnjllpebjaaMFnExactPartitionMatroid2
import Derived.Test.YtagncnjllpebjaaMFnExactPartitionMatroid3
import Derived.Test.YtagncnjllpebjaaMFnExactPartitionMatroid4
import Derived.Test.YtagncnjllpebjaaMFnExactPartitionMatroid5
import Derived.Test.YtagncnjllpebjaaMFnExactPartitionMatroid6
import Derived.Test.YtagncnjllpebjaaMFnExactPartitionMatroidq0
namespace Go.Proofs.Ytagncnjllpebjaa.Q
open Go Go.RowKit Go.Proofs.Ytagncnjllpebjaa.A Go.Proofs.YtagncnjllpebjaaW.PrintWords Go.Proofs.YtagncnjllpebjaaW.PrintLast Go.Proofs.YtagncnjllpebjaaW.PrintMore Go.Proofs.Ytagncnjllpebjaa.Z
set_option linter.unusedVariables false
set_option linter.unusedSimpArgs false

theorem toInt_l0 (l : List Int) (hl : l.length ≤ 17592186044416) : ∀ (rest pre : List Int), l = pre ++ rest → Ev (fun k => laws_toIntS.l0 k l (pre ++ List.replicate rest.length 0) (pre.length : Int)) l := by
  intro rest
  induction rest with
  | nil =>
    intro pre h
    apply Ev.step
    · intro k
      simp only [laws_toIntS.l0]
      rw [if_neg (by rw [h]; simp)]
    · subst h; simpa using Ev.now _
  | cons x rest ih =>
    intro pre h
    have hlen : (pre.length : Int) < (l.length : Int) := by rw [h]; simp; omega
    apply Ev.step
    · intro k
      simp only [laws_toIntS.l0]
      rw [if_pos hlen, if_pos (by omega), if_pos (by simp; omega)]
    · have := ih (pre ++ [x]) (by rw [h]; simp)
      have e : wrap64 ((pre.length : Int) + 1) = ((pre ++ [x]).length : Int) := by
        rw [wrap64_of (by omega) (by omega)]; simp
      rw [e]
      have e2 : (pre ++ List.replicate (x :: rest).length 0).set (pre.length : Int).toNat (rd l (pre.length : Int)) = (pre ++ [x]) ++ List.replicate rest.length 0 := by
        have : rd l (pre.length : Int) = x := by rw [h]; exact rd_mid _ _ _
        rw [this]
        simp [List.replicate_succ]
      rw [e2]
      exact this
theorem toInt_ev (l : List Int) (hl : l.length ≤ 17592186044416) : Ev (fun k => laws_toIntS.f k l) l := by
  unfold laws_toIntS.f
  refine Ev.ifp (by omega) (Ev.ifp (by simp; omega) ?_)
  simpa using toInt_l0 l hl l [] rfl
theorem eqInt_l0 (l : List Int) (hl : l.length ≤ 17592186044416) (l' : List Int) (hll : l'.length = l.length) : ∀ (rest rest' pre : List Int), l = pre ++ rest → l' = pre ++ rest' → Ev (fun k => laws_eqIntS.l0 k l l' (pre.length : Int)) (decide (l = l')) := by
  intro rest
  induction rest with
  | nil =>
    intro rest' pre h h'
    have : rest' = [] := by
      apply List.eq_nil_of_length_eq_zero
      have h1 := congrArg List.length h
      have h2 := congrArg List.length h'
      rw [List.length_append] at h1 h2
      simp only [List.length_nil] at h1
      omega
    subst this
    apply Ev.step
    · intro k
      simp only [laws_eqIntS.l0]
      rw [if_neg (by rw [h]; simp)]
    · have : l = l' := by rw [h, h']
      simpa [this] using Ev.now _
  | cons x rest ih =>
    intro rest' pre h h'
    have hlen : (pre.length : Int) < (l.length : Int) := by rw [h]; simp; omega
    cases rest' with
    | nil => exact absurd hll (by rw [h, h']; simp)
    | cons y rest' =>
    have e1 : rd l (pre.length : Int) = x := by rw [h]; exact rd_mid _ _ _
    have e2 : rd l' (pre.length : Int) = y := by rw [h']; exact rd_mid _ _ _
    by_cases hxy : x = y
    · subst hxy
      apply Ev.step
      · intro k
        simp only [laws_eqIntS.l0]
        rw [if_pos hlen, if_pos (by omega), if_pos (by omega), if_pos (by rw [e1, e2])]
      · have := ih rest' (pre ++ [x]) (by rw [h]; simp) (by rw [h']; simp)
        have e : wrap64 ((pre.length : Int) + 1) = ((pre ++ [x]).length : Int) := by
          rw [wrap64_of (by omega) (by omega)]; simp
        rw [e]
        exact this
    · apply Ev.step
      · intro k
        simp only [laws_eqIntS.l0]
        rw [if_pos hlen, if_pos (by omega), if_pos (by omega), if_neg (by rw [e1, e2]; exact hxy)]
      · have : l ≠ l' := by rw [h, h']; simp [hxy]
        simpa [this] using Ev.now _
theorem eqInt_ev (l l' : List Int) (hl : l.length ≤ 17592186044416) : Ev (fun k => laws_eqIntS.f k l l') (decide (l = l')) := by
  unfold laws_eqIntS.f
  by_cases h : (l.length : Int) = (l'.length : Int)
  · refine Ev.ifp h ?_
    exact eqInt_l0 l hl l' (by omega) l l' [] rfl rfl
  · refine Ev.ifn h ?_
    have : l ≠ l' := by rintro rfl; exact h rfl
    simpa [this] using Ev.now _
theorem eqInt_self (l : List Int) (hl : l.length ≤ 17592186044416) : Ev (fun k => laws_eqIntS.f k l l) true := by simpa using eqInt_ev l l hl

end Go.Proofs.Ytagncnjllpebjaa.Q

namespace Go.Proofs.Ytagncnjllpebjaa.Q
open Go Go.RowKit Go.Proofs.Ytagncnjllpebjaa.A Go.Proofs.YtagncnjllpebjaaW.PrintWords Go.Proofs.YtagncnjllpebjaaW.PrintLast Go.Proofs.YtagncnjllpebjaaW.PrintMore Go.Proofs.Ytagncnjllpebjaa.Z
set_option linter.unusedVariables false
set_option linter.unusedSimpArgs false

theorem eqMat_ev (n : Int) (l : List Int) (hl : l.length ≤ 17592186044416) : Ev (fun k => laws_eqMatroid.f k n l n l) true := by
  unfold laws_eqMatroid.f
  refine Ev.ifp rfl (Ev.bind (eqInt_self l hl) (Ev.ifp rfl (Ev.now _)))

end Go.Proofs.Ytagncnjllpebjaa.Q

namespace Go.Proofs.Ytagncnjllpebjaa.Q
open Go Go.RowKit Go.Proofs.Ytagncnjllpebjaa.A Go.Proofs.YtagncnjllpebjaaW.PrintWords Go.Proofs.YtagncnjllpebjaaW.PrintLast Go.Proofs.YtagncnjllpebjaaW.PrintMore Go.Proofs.Ytagncnjllpebjaa.Z
set_option linter.unusedVariables false
set_option linter.unusedSimpArgs false

/-- n numbers that go up by one from a. -/
def marks (a : Int) (n : Nat) : List Int := (List.range n).map (fun i : Nat => a + (i : Int))
theorem marks_len (a : Int) (n : Nat) : (marks a n).length = n := by simp [marks]
theorem marks_succ (a : Int) (n : Nat) : marks a (n + 1) = marks a n ++ [a + (n : Int)] := by simp [marks, List.range_succ]
theorem marks_get (a : Int) (n i : Nat) (h : i < n) : rd (marks a n) (i : Int) = a + (i : Int) := by
  rw [rd_getElem _ i (by rw [marks_len]; exact h)]
  simp [marks]
theorem mark_ev (l : List Int) (a : Int) (h0 : 0 ≤ a) (h1 : a ≤ 1000000000000000) (hl : l.length ≤ 17592186044416) : Ev (fun k => laws_markIntS.f k l a) (a + (l.length : Int), marks a l.length) := by
  have h := down (P := fun i => Ev (fun k => laws_markIntS.l0 k (marks a i ++ l.drop i) (a + (i : Int)) (i : Int)) (a + (l.length : Int), marks a l.length)) l.length
    (by
      apply Ev.step
      · intro k
        simp only [laws_markIntS.l0]
        rw [if_neg (by rw [List.length_append, marks_len, List.length_drop]; omega)]
      · rw [drop_end, List.append_nil]
        exact Ev.now _)
    (by
      intro i hi ih
      apply Ev.step
      · intro k
        simp only [laws_markIntS.l0]
        rw [if_pos (by rw [List.length_append, marks_len, List.length_drop]; omega), if_pos (by omega), w_succ hi hl, wrap64_of (by omega) (by omega)]
      · have e : (marks a i ++ l.drop i).set (i : Int).toNat (a + (i : Int)) = marks a (i + 1) ++ l.drop (i + 1) := by
          rw [drop_cons l i hi, marks_succ, Int.toNat_natCast, List.set_append_right _ _ (by rw [marks_len]; omega), marks_len, Nat.sub_self, List.set_cons_zero, List.append_assoc]
          rfl
        rw [e, show a + (i : Int) + 1 = a + ((i + 1 : Nat) : Int) from by omega]
        exact ih)
  have e : marks a 0 ++ l.drop 0 = l := by simp [marks]
  rw [e, show a + ((0 : Nat) : Int) = a from by omega] at h
  exact h
theorem held_ev (n : Nat) (a : Int) (h0 : 0 ≤ a) (h1 : a ≤ 1000000000000000) (hl : n ≤ 17592186044416) : Ev (fun k => laws_heldIntS.f k (marks a n) a) (a + (n : Int)) := by
  have h := down (P := fun i => Ev (fun k => laws_heldIntS.l0 k (marks a n) (a + (i : Int)) (i : Int)) (a + (n : Int))) n
    (by
      apply Ev.step
      · intro k
        simp only [laws_heldIntS.l0]
        rw [if_neg (by rw [marks_len]; omega)]
      · exact Ev.now _)
    (by
      intro i hi ih
      apply Ev.step
      · intro k
        simp only [laws_heldIntS.l0]
        rw [if_pos (by rw [marks_len]; omega), if_pos (by omega), if_pos (marks_get a n i hi), w_succ hi hl, wrap64_of (by omega) (by omega)]
      · rw [show a + (i : Int) + 1 = a + ((i + 1 : Nat) : Int) from by omega]
        exact ih)
  rw [show a + ((0 : Nat) : Int) = a from by omega] at h
  exact h

end Go.Proofs.Ytagncnjllpebjaa.Q

namespace Go.Proofs.Ytagncnjllpebjaa.Q
open Go Go.RowKit Go.Proofs.Ytagncnjllpebjaa.A Go.Proofs.YtagncnjllpebjaaW.PrintWords Go.Proofs.YtagncnjllpebjaaW.PrintLast Go.Proofs.YtagncnjllpebjaaW.PrintMore Go.Proofs.Ytagncnjllpebjaa.Z
set_option linter.unusedVariables false
set_option linter.unusedSimpArgs false

theorem markMat_ev (n : Int) (l : List Int) (hl : l.length ≤ 17592186044416) : Ev (fun k => laws_markMatroid.f k n l 1) (1 + (l.length : Int), marks 1 l.length) := by
  unfold laws_markMatroid.f
  exact Ev.bind (mark_ev l 1 (by omega) (by omega) hl) (Ev.now _)
theorem heldMat_ev (n : Int) (c : Nat) (hl : c ≤ 17592186044416) : Ev (fun k => laws_heldMatroid.f k n (marks 1 c) 1) (1 + (c : Int)) := by
  unfold laws_heldMatroid.f
  exact Ev.bind (held_ev c 1 (by omega) (by omega) hl) (Ev.ifn (by omega) (Ev.now _))

end Go.Proofs.Ytagncnjllpebjaa.Q

namespace Go.Proofs.Ytagncnjllpebjaa.Q
open Go Go.RowKit Go.Proofs.Ytagncnjllpebjaa.A Go.Proofs.YtagncnjllpebjaaW.PrintWords Go.Proofs.YtagncnjllpebjaaW.PrintLast Go.Proofs.YtagncnjllpebjaaW.PrintMore Go.Proofs.Ytagncnjllpebjaa.Z
set_option linter.unusedVariables false
set_option linter.unusedSimpArgs false

theorem l1In_eq (a b c : Int) : spec_l1In.f a b c = some (decide (b ≤ a) && decide (a ≤ c)) := by
  unfold spec_l1In.f
  by_cases h : a ≥ b
  · rw [if_pos h]; simp [h]
  · rw [if_neg h]; simp only [ge_iff_le] at h; simp [h]
theorem isSize_eq (a : Int) : impl_isSize.f a = some (decide (0 ≤ a) && decide (a ≤ 8)) := by
  unfold impl_isSize.f
  by_cases h : a ≥ 0
  · rw [if_pos h]; simp [h]
  · rw [if_neg h]; simp only [ge_iff_le] at h; simp [h]
theorem specIsSet_eq (n s : Int) : spec_IsSet.f n s = some (isSetB n s) := by
  unfold spec_IsSet.f
  rw [l1In_eq, Option.bind_some]
  unfold isSetB
  by_cases h : (decide (0 ≤ n) && decide (n ≤ 8)) = true
  · rw [if_pos h, if_pos (u64_nonneg _), l1In_eq, Option.bind_some, h, Bool.true_and]
    simp only [Bool.and_eq_true, decide_eq_true_eq] at h
    obtain ⟨m, rfl⟩ := Int.eq_ofNat_of_zero_le h.1
    have h8 : m ≤ 8 := by omega
    rw [u64_of (by omega) (by omega), shl_one (by omega)]
    have hp := pow_le_256 h8
    rw [Int.toNat_natCast]
    have e : (2 : Int) ^ m = ((2 ^ m : Nat) : Int) := by simp
    rw [e]
    generalize 2 ^ m = q at hp
    rw [wrap64_of (by omega) (by omega)]
    congr 2
    rw [Bool.eq_iff_iff]
    simp only [decide_eq_true_eq]
    omega
  · rw [if_neg h, Bool.eq_false_iff.2 h, Bool.false_and]
theorem implIsSet_eq (n s : Int) : impl_IsSet.f n s = some (isSetB n s) := by
  unfold impl_IsSet.f
  rw [isSize_eq, Option.bind_some]
  unfold isSetB
  by_cases h : (decide (0 ≤ n) && decide (n ≤ 8)) = true
  · rw [if_pos h, h, Bool.true_and]
    simp only [Bool.and_eq_true, decide_eq_true_eq] at h
    by_cases hs : s ≥ 0
    · rw [if_pos hs, if_pos h.1]
      obtain ⟨m, rfl⟩ := Int.eq_ofNat_of_zero_le h.1
      rw [shl_one (by omega), Int.toNat_natCast]
      have e : ((2 ^ m : Nat) : Int) = 2 ^ m := by simp
      rw [e]
      have : decide (0 ≤ s) = true := by simpa using hs
      rw [this, Bool.true_and]
    · rw [if_neg hs]
      have : decide (0 ≤ s) = false := by simpa using hs
      rw [this, Bool.false_and]
  · rw [if_neg h, Bool.eq_false_iff.2 h, Bool.false_and]
theorem isSet8 (s : Int) : isSetB 8 s = isAnyB s := by
  unfold isSetB isAnyB
  rw [Bool.eq_iff_iff]
  simp
theorem isAny_eq (s : Int) : impl_isAny.f s = some (isAnyB s) := by
  unfold impl_isAny.f isAnyB
  by_cases h : s ≥ 0
  · rw [if_pos h]; simp [h]
  · rw [if_neg h]; simp only [ge_iff_le] at h; simp [h]
theorem isAnyB_lt {s : Int} (h : isAnyB s = true) : ∃ t : Nat, s = t ∧ t < 256 := by
  simp only [isAnyB, Bool.and_eq_true, decide_eq_true_eq] at h
  obtain ⟨t, rfl⟩ := Int.eq_ofNat_of_zero_le h.1
  exact ⟨t, rfl, by omega⟩
theorem implHas_eq (s e : Int) : impl_HasElement.f s e = some (hasB s e) := by
  unfold impl_HasElement.f hasB
  rw [isAny_eq, Option.bind_some]
  by_cases h : isAnyB s = true
  · rw [if_pos h, h, Bool.true_and]
    obtain ⟨t, rfl, ht⟩ := isAnyB_lt h
    by_cases h0 : e ≥ 0
    · rw [if_pos h0]
      obtain ⟨m, rfl⟩ := Int.eq_ofNat_of_zero_le h0
      by_cases h8 : (m : Int) < 8
      · rw [if_pos h8, if_pos h0, bit_nat (lt256_63 ht)]
        simp [h8]
      · rw [if_neg h8]; simp [h8]
    · rw [if_neg h0]; simp only [ge_iff_le] at h0; simp [h0]
  · rw [if_neg h, Bool.eq_false_iff.2 h]; simp
end Go.Proofs.Ytagncnjllpebjaa.Q

namespace Go.Proofs.Ytagncnjllpebjaa.Q
open Go Go.RowKit Go.Proofs.Ytagncnjllpebjaa.A Go.Proofs.YtagncnjllpebjaaW.PrintWords Go.Proofs.YtagncnjllpebjaaW.PrintLast Go.Proofs.YtagncnjllpebjaaW.PrintMore Go.Proofs.Ytagncnjllpebjaa.Z
set_option linter.unusedVariables false
set_option linter.unusedSimpArgs false

def famG (n : Int) : Option Int → List Int → Bool
  | _, [] => decide (0 ≤ n) && decide (n ≤ 8)
  | p, x :: xs => isSetB n x && ((match p with | none => true | some q => decide (q < x)) && famG n (some x) xs)
/-- A family: sets of n elements, strictly ascending. -/
def famB (n : Int) (l : List Int) : Bool := famG n none l
def prevO (l : List Int) (i : Nat) : Option Int := if i = 0 then none else some (rd l ((i - 1 : Nat) : Int))
theorem prevO_succ (l : List Int) (i : Nat) (hi : i < l.length) : prevO l (i + 1) = some l[i] := by
  unfold prevO
  rw [if_neg (by omega), Nat.add_sub_cancel, rd_getElem l i hi]
theorem implFam_ev (n : Int) (l : List Int) (hl : l.length ≤ 17592186044416) : Ev (fun k => impl_IsFamily.f k n l) (famB n l) := by
  have h := down (P := fun i => Ev (fun k => impl_IsFamily.l0 k n l l (l.length : Int) (i : Int)) (famG n (prevO l i) (l.drop i))) l.length
    (by
      apply Ev.step
      · intro k
        simp only [impl_IsFamily.l0, isSize_eq, Option.bind_some]
        rw [if_neg (by omega)]
      · rw [drop_end]; exact Ev.now _)
    (by
      intro i hi ih
      apply Ev.step
      · intro k
        simp only [impl_IsFamily.l0, implIsSet_eq, Option.bind_some]
        rw [if_pos (by omega), if_pos (by omega), if_pos (by omega), rd_getElem l i hi, w_succ hi hl]
      · rw [drop_cons l i hi]
        rw [prevO_succ l i hi] at ih
        simp only [famG]
        by_cases hx : isSetB n l[i] = true
        · refine Ev.ifp hx ?_
          rw [hx, Bool.true_and]
          by_cases h0 : (i : Int) > 0
          · refine Ev.ifp h0 ?_
            rw [wrap64_of (by omega) (by omega), show (i : Int) - 1 = ((i - 1 : Nat) : Int) from by omega]
            refine Ev.ifp (by omega) (Ev.ifp (by omega) ?_)
            unfold prevO
            rw [if_neg (by omega)]
            by_cases hq : l[i] ≤ rd l ((i - 1 : Nat) : Int)
            · refine Ev.ifp hq ?_
              simp only []
              rw [show decide (rd l ((i - 1 : Nat) : Int) < l[i]) = false from by simpa using hq, Bool.false_and]
              exact Ev.now _
            · refine Ev.ifn hq ?_
              simp only []
              rw [show decide (rd l ((i - 1 : Nat) : Int) < l[i]) = true from by simpa using hq, Bool.true_and]
              exact ih
          · refine Ev.ifn h0 ?_
            unfold prevO
            rw [if_pos (by omega)]
            simp only [Bool.true_and]
            exact ih
        · refine Ev.ifn hx ?_
          rw [Bool.eq_false_iff.2 hx, Bool.false_and]; exact Ev.now _)
  exact h
theorem famG_facts (n : Int) : ∀ (l : List Int) (p : Option Int), famG n p l = true → (0 ≤ n ∧ n ≤ 8) ∧ (∀ x ∈ l, isSetB n x = true) ∧ l.Pairwise (· < ·) ∧ (∀ q, p = some q → ∀ x ∈ l, q < x) := by
  intro l
  induction l with
  | nil =>
    intro p h
    simp only [famG, Bool.and_eq_true, decide_eq_true_eq] at h
    exact ⟨h, fun x hx => by simp at hx, List.Pairwise.nil, fun q _ x hx => by simp at hx⟩
  | cons y l ih =>
    intro p h
    simp only [famG, Bool.and_eq_true] at h
    obtain ⟨h1, h2, h3⟩ := h
    obtain ⟨i1, i2, i3, i4⟩ := ih _ h3
    refine ⟨i1, fun x hx => ?_, List.pairwise_cons.2 ⟨fun x hx => i4 y rfl x hx, i3⟩, fun q hq x hx => ?_⟩
    · rcases List.mem_cons.1 hx with rfl | hx
      · exact h1
      · exact i2 x hx
    · subst hq
      simp only [decide_eq_true_eq] at h2
      rcases List.mem_cons.1 hx with rfl | hx
      · exact h2
      · exact Int.lt_trans h2 (i4 y rfl x hx)
/-- A family as numbers: its size, its sets. -/
theorem famB_nat {n : Int} {l : List Int} (h : famB n l = true) : ∃ (m : Nat) (L : List Nat), n = m ∧ m ≤ 8 ∧ l = L.map (fun x : Nat => (x : Int)) ∧ (∀ x ∈ L, x < 2 ^ m) ∧ L.Pairwise (· < ·) := by
  obtain ⟨h1, h2, h3, _⟩ := famG_facts n l none h
  obtain ⟨m, rfl⟩ := Int.eq_ofNat_of_zero_le h1.1
  have hnn : ∀ x ∈ l, 0 ≤ x := fun x hx => by
    obtain ⟨_, t, _, rfl, _⟩ := isSetB_lt (h2 x hx)
    omega
  have hl : l = (l.map Int.toNat).map (fun x : Nat => (x : Int)) := by
    rw [List.map_map]
    conv => lhs; rw [← List.map_id l]
    apply List.map_congr_left
    intro x hx
    have := hnn x hx
    simp only [id, Function.comp]
    omega
  refine ⟨m, l.map Int.toNat, rfl, by omega, hl, fun x hx => ?_, ?_⟩
  · obtain ⟨y, hy, rfl⟩ := List.mem_map.1 hx
    obtain ⟨m', t, hm, rfl, _, ht, _⟩ := isSetB_lt (h2 y hy)
    have : m = m' := by omega
    subst this
    rw [Int.toNat_natCast]; exact ht
  · rw [List.pairwise_map]
    exact h3.imp_of_mem (fun {a b} ha hb hab => by
      have := hnn a ha
      have := hnn b hb
      omega)

end Go.Proofs.Ytagncnjllpebjaa.Q

namespace Go.Proofs.Ytagncnjllpebjaa.Q
open Go Go.RowKit Go.Proofs.Ytagncnjllpebjaa.A Go.Proofs.YtagncnjllpebjaaW.PrintWords Go.Proofs.YtagncnjllpebjaaW.PrintLast Go.Proofs.YtagncnjllpebjaaW.PrintMore Go.Proofs.Ytagncnjllpebjaa.Z
set_option linter.unusedVariables false
set_option linter.unusedSimpArgs false

/-- The elements of a set, as whole numbers; none where it is no set. -/
def elsB (s : Int) : List Int := ((List.range 8).filter (fun e : Nat => hasB s (e : Int))).map (fun e : Nat => (e : Int))
theorem range'_cons {i n : Nat} (h : i < n) : List.range' i (n - i) = i :: List.range' (i + 1) (n - (i + 1)) := by
  rw [show n - i = (n - (i + 1)) + 1 from by omega, List.range'_succ]
theorem filter_cons_map {s : Int} {i : Nat} (l : List Nat) : ((i :: l).filter (fun e : Nat => hasB s (e : Int))).map (fun e : Nat => (e : Int)) = (if hasB s (i : Int) = true then [(i : Int)] else []) ++ (l.filter (fun e : Nat => hasB s (e : Int))).map (fun e : Nat => (e : Int)) := by
  rw [List.filter_cons]
  by_cases h : hasB s (i : Int) = true
  · rw [if_pos h, if_pos h]; rfl
  · rw [if_neg h, if_neg h]; rfl
theorem implElements_ev (s : Int) : Ev (fun k => impl_ElementsOf.f k s) (elsB s) := by
  have h := down (P := fun i => ∀ acc : List Int, acc.length ≤ i → Ev (fun k => impl_ElementsOf.l0 k s acc (i : Int)) (acc ++ ((List.range' i (8 - i)).filter (fun e : Nat => hasB s (e : Int))).map (fun e : Nat => (e : Int)))) 8
    (by
      intro acc ha
      apply Ev.step
      · intro k
        simp only [impl_ElementsOf.l0, implHas_eq, Option.bind_some]
        rw [if_neg (by omega)]
      · simpa using Ev.now _)
    (by
      intro i hi ih acc ha
      apply Ev.step
      · intro k
        simp only [impl_ElementsOf.l0, implHas_eq, Option.bind_some]
        rw [if_pos (by omega), w_succ hi (by omega)]
      · rw [range'_cons hi, filter_cons_map]
        by_cases hx : hasB s (i : Int) = true
        · refine Ev.ifp hx (Ev.ifp (by omega) ?_)
          rw [if_pos hx, ← List.append_assoc]
          exact ih (acc ++ [(i : Int)]) (by simp; omega)
        · refine Ev.ifn hx ?_
          rw [if_neg hx]
          exact ih acc (by omega))
  have h0 := h [] (Nat.le_refl 0)
  rw [show ((0 : Nat) : Int) = 0 from rfl] at h0
  have e : elsB s = [] ++ ((List.range' 0 (8 - 0)).filter (fun e : Nat => hasB s (e : Int))).map (fun e : Nat => (e : Int)) := by
    unfold elsB
    rw [List.nil_append, List.range_eq_range']
  rw [e]
  unfold impl_ElementsOf.f
  exact h0
theorem elsB_nat {s : Nat} (h : s < 256) : elsB (s : Int) = (els s).map (fun e : Nat => (e : Int)) := by
  have e : (List.range 8).filter (fun e : Nat => hasB (s : Int) (e : Int)) = (List.range 8).filter (fun e : Nat => s.testBit e) :=
    List.filter_congr (fun e he => by
      rw [List.mem_range] at he
      rw [hasB_nat]
      simp [h, he])
  unfold elsB els
  rw [e]

end Go.Proofs.Ytagncnjllpebjaa.Q

namespace Go.Proofs.Ytagncnjllpebjaa.Q
open Go Go.RowKit Go.Proofs.Ytagncnjllpebjaa.A Go.Proofs.YtagncnjllpebjaaW.PrintWords Go.Proofs.YtagncnjllpebjaaW.PrintLast Go.Proofs.YtagncnjllpebjaaW.PrintMore Go.Proofs.Ytagncnjllpebjaa.Z
set_option linter.unusedVariables false
set_option linter.unusedSimpArgs false

theorem contains_cons (x : Int) (l : List Int) (a : Int) : (x :: l).contains a = (decide (x = a) || l.contains a) := by
  rw [Bool.eq_iff_iff]
  simp only [List.contains_iff_mem, List.mem_cons, Bool.or_eq_true, decide_eq_true_eq]
  constructor
  · rintro (h | h)
    · exact .inl h.symm
    · exact .inr h
  · rintro (h | h)
    · exact .inl h.symm
    · exact .inr h
end Go.Proofs.Ytagncnjllpebjaa.Q

namespace Go.Proofs.Ytagncnjllpebjaa.Q
open Go Go.RowKit Go.Proofs.Ytagncnjllpebjaa.A Go.Proofs.YtagncnjllpebjaaW.PrintWords Go.Proofs.YtagncnjllpebjaaW.PrintLast Go.Proofs.YtagncnjllpebjaaW.PrintMore Go.Proofs.Ytagncnjllpebjaa.Z
set_option linter.unusedVariables false
set_option linter.unusedSimpArgs false

theorem index_l0 (l : List Int) (a : Int) (hl : l.length ≤ 17592186044416) : ∃ r : Int, Ev (fun k => slices_Index_int_int.f k l a) r ∧ (decide (r ≥ 0) = l.contains a) := by
  have h := down (P := fun i => ∃ r : Int, Ev (fun k => slices_Index_int_int.l0 k l a (l.length : Int) (i : Int)) r ∧ (decide (r ≥ 0) = (l.drop i).contains a)) l.length
    (by
      refine ⟨-1, ?_, by rw [drop_end]; rfl⟩
      apply Ev.step
      · intro k
        simp only [slices_Index_int_int.l0]
        rw [if_neg (by omega)]
      · exact Ev.now _)
    (by
      intro i hi ih
      rw [drop_cons l i hi, contains_cons]
      by_cases hx : l[i] = a
      · refine ⟨(i : Int), ?_, ?_⟩
        · apply Ev.step
          · intro k
            simp only [slices_Index_int_int.l0]
            rw [if_pos (by omega), if_pos (by omega), if_pos (by omega), rd_getElem l i hi, if_pos hx.symm]
          · exact Ev.now _
        · rw [show decide (l[i] = a) = true from by simpa using hx, Bool.true_or]
          simp
      · obtain ⟨r, hr, hd⟩ := ih
        refine ⟨r, ?_, ?_⟩
        · apply Ev.step
          · intro k
            simp only [slices_Index_int_int.l0]
            rw [if_pos (by omega), if_pos (by omega), if_pos (by omega), rd_getElem l i hi, if_neg (fun hc => hx hc.symm), w_succ hi hl]
          · exact hr
        · rw [show decide (l[i] = a) = false from by simpa using hx, Bool.false_or]; exact hd)
  exact h
theorem contains_ev (l : List Int) (a : Int) (hl : l.length ≤ 17592186044416) : Ev (fun k => slices_Contains_int_int.f k l a) (l.contains a) := by
  obtain ⟨r, hr, hd⟩ := index_l0 l a hl
  unfold slices_Contains_int_int.f
  refine Ev.bind hr ?_
  rw [hd]; exact Ev.now _

end Go.Proofs.Ytagncnjllpebjaa.Q

namespace Go.Proofs.Ytagncnjllpebjaa.Q
open Go Go.RowKit Go.Proofs.YtagncnjllpebjaaW.PrintWords Go.Proofs.YtagncnjllpebjaaW.PrintLast Go.Proofs.YtagncnjllpebjaaW.PrintMore Go.Proofs.Ytagncnjllpebjaa.Z
set_option linter.unusedVariables false
set_option linter.unusedSimpArgs false

/-- Can e be exchanged for an element of b? -/
def hasEx (l : List Int) (a b e : Nat) : Bool := (els (dif b a)).any (fun f => l.contains ((dif a (2 ^ e) ||| 2 ^ f : Nat) : Int))
def failE (l : List Int) (a b : Nat) : List Nat → Option Nat
  | [] => none
  | e :: es => if hasEx l a b e = true then failE l a b es else some e
def failB (l : List Int) (a : Nat) : List Nat → Option (Nat × Nat)
  | [] => none
  | b :: bs => match failE l a b (els (dif a b)) with
    | none => failB l a bs
    | some e => some (b, e)
def failA (l : List Int) (L : List Nat) : List Nat → Option (Nat × Nat × Nat)
  | [] => none
  | a :: la => match failB l a L with
    | none => failA l L la
    | some (b, e) => some (a, b, e)
def told : Option (Nat × Nat × Nat) → Int × Int × Int × Bool
  | none => (0, 0, 0, false)
  | some (a, b, e) => ((a : Int), (b : Int), (e : Int), true)
/-- What FirstFailure hands back. -/
def failT (n : Int) (l : List Int) : Int × Int × Int × Bool := if famB n l = true then told (failA l (l.map Int.toNat) (l.map Int.toNat)) else (0, 0, 0, false)
end Go.Proofs.Ytagncnjllpebjaa.Q

namespace Go.Proofs.Ytagncnjllpebjaa.Q
open Go Go.RowKit Go.Proofs.Ytagncnjllpebjaa.A Go.Proofs.YtagncnjllpebjaaW.PrintWords Go.Proofs.YtagncnjllpebjaaW.PrintLast Go.Proofs.YtagncnjllpebjaaW.PrintMore Go.Proofs.Ytagncnjllpebjaa.Z
set_option linter.unusedVariables false
set_option linter.unusedSimpArgs false

/-- A matroid: a family, not empty, without a failure of the exchange. -/
def matB (n : Int) (l : List Int) : Bool := famB n l && (decide ((l.length : Int) > 0) && !(failT n l).2.2.2)
end Go.Proofs.Ytagncnjllpebjaa.Q

namespace Go.Proofs.Ytagncnjllpebjaa.Q
open Go Go.RowKit Go.Proofs.YtagncnjllpebjaaW.PrintWords Go.Proofs.YtagncnjllpebjaaW.PrintLast Go.Proofs.YtagncnjllpebjaaW.PrintMore Go.Proofs.Ytagncnjllpebjaa.Z
set_option linter.unusedVariables false
set_option linter.unusedSimpArgs false

theorem ints_len (L : List Nat) : (ints L).length = L.length := List.length_map _
theorem ints_rd (L : List Nat) (i : Nat) (h : i < L.length) : rd (ints L) (i : Int) = (L[i] : Int) := by
  rw [rd_getElem _ i (by rw [ints_len]; exact h)]
  simp [ints]

end Go.Proofs.Ytagncnjllpebjaa.Q

namespace Go.Proofs.Ytagncnjllpebjaa.Q
open Go Go.RowKit Go.Proofs.Ytagncnjllpebjaa.A Go.Proofs.YtagncnjllpebjaaW.PrintWords Go.Proofs.YtagncnjllpebjaaW.PrintLast Go.Proofs.YtagncnjllpebjaaW.PrintMore Go.Proofs.Ytagncnjllpebjaa.Z
set_option linter.unusedVariables false
set_option linter.unusedSimpArgs false

theorem specCount_l0 : ∀ (d x : Nat), x ≤ d → x < 256 → ∀ acc : Int, 0 ≤ acc → acc + (d : Int) ≤ 1000 → Ev (fun k => spec_CountOf.l0 k (x : Int) acc) (acc + (pc x : Int)) := by
  intro d
  induction d with
  | zero =>
    intro x hx _ acc h0 h1
    obtain rfl : x = 0 := by omega
    apply Ev.step
    · intro k
      simp only [spec_CountOf.l0]
      rw [if_neg (by decide)]
    · rw [pc_zero, show acc + ((0 : Nat) : Int) = acc from by omega]
      exact Ev.now _
  | succ d ih =>
    intro x hx h256 acc h0 h1
    by_cases hz : x = 0
    · subst hz
      exact ih 0 (by omega) h256 acc h0 (by omega)
    · have hb : Go.bits .and .i64 (x : Int) 1 = ((x % 2 : Nat) : Int) := by
        have := and_nat (a := x) (b := 1) (lt256_63 h256) (by decide)
        rw [Nat.and_one_is_mod] at this
        exact this
      apply Ev.step
      · intro k
        simp only [spec_CountOf.l0]
        rw [if_pos (by omega), hb, wrap64_of (by omega) (by omega), show (x : Int) / 2 = ((x / 2 : Nat) : Int) from by omega]
      · have hp := pc_step x h256
        have hl := pc_le (x / 2)
        have := ih (x / 2) (by omega) (by omega) (acc + ((x % 2 : Nat) : Int)) (by omega) (by omega)
        rw [show acc + ((x % 2 : Nat) : Int) + (pc (x / 2) : Int) = acc + (pc x : Int) from by omega] at this
        exact this
theorem specCount_ev (s : Nat) (h : s < 256) : Ev (fun k => spec_CountOf.f k (s : Int)) (pc s : Int) := by
  unfold spec_CountOf.f
  refine Ev.cbind (specIsSet_eq _ _) (Ev.ifp ?_ ?_)
  · rw [isSet8, isAnyB_nat]; simpa using h
  · have := specCount_l0 s s (Nat.le_refl _) h 0 (by omega) (by omega)
    rw [Int.zero_add] at this
    exact this
end Go.Proofs.Ytagncnjllpebjaa.Q

namespace Go.Proofs.Ytagncnjllpebjaa.Q
open Go Go.RowKit Go.Proofs.Ytagncnjllpebjaa.A Go.Proofs.YtagncnjllpebjaaW.PrintWords Go.Proofs.YtagncnjllpebjaaW.PrintLast Go.Proofs.YtagncnjllpebjaaW.PrintMore Go.Proofs.Ytagncnjllpebjaa.Z
set_option linter.unusedVariables false
set_option linter.unusedSimpArgs false

set_option maxRecDepth 100000 in
theorem ones64 : ∀ s < 256, bits_OnesCount64.f ((s : Nat) : Int) = some ((pc s : Nat) : Int) := by decide +kernel
theorem implCount_eq (s : Nat) (h : s < 256) : impl_CountOf.f (s : Int) = some (pc s : Int) := by
  unfold impl_CountOf.f
  rw [isAny_eq, Option.bind_some, if_pos (by rw [isAnyB_nat]; simpa using h), u64_of (by omega) (by omega)]
  unfold bits_OnesCount.f
  rw [ones64 s h]
  rfl
end Go.Proofs.Ytagncnjllpebjaa.Q

namespace Go.Proofs.Ytagncnjllpebjaa.Q
open Go Go.RowKit Go.Proofs.Ytagncnjllpebjaa.A Go.Proofs.YtagncnjllpebjaaW.PrintWords Go.Proofs.YtagncnjllpebjaaW.PrintLast Go.Proofs.YtagncnjllpebjaaW.PrintMore Go.Proofs.Ytagncnjllpebjaa.Z
set_option linter.unusedVariables false
set_option linter.unusedSimpArgs false

def fullN (m : Nat) : Nat := 2 ^ m - 1
theorem full_sub_all : ∀ m < 9, ∀ u < 256, (!decide (u < 2 ^ m) || (decide (fullN m - u = dif (fullN m) u) && decide (fullN m < 2 ^ m))) = true := by decide +kernel
theorem full_sub {m u : Nat} (hm : m ≤ 8) (hu : u < 2 ^ m) : fullN m - u = dif (fullN m) u ∧ fullN m < 2 ^ m ∧ fullN m < 256 := by
  have h256 := Nat.lt_of_lt_of_le hu (pow_le_256 hm)
  have h := full_sub_all m (by omega) u h256
  rw [show decide (u < 2 ^ m) = true from by simpa using hu] at h
  simp only [Bool.not_true, Bool.false_or, Bool.and_eq_true, decide_eq_true_eq] at h
  exact ⟨h.1, h.2, Nat.lt_of_lt_of_le h.2 (pow_le_256 hm)⟩
theorem full_lt {m : Nat} (hm : m ≤ 8) : fullN m < 2 ^ m ∧ fullN m < 256 := (full_sub hm (Nat.two_pow_pos m)).2
theorem specFull_eq {m : Nat} (hm : m ≤ 8) : spec_FullSet.f (m : Int) = some ((fullN m : Nat) : Int) := by
  unfold spec_FullSet.f fullN
  have hp := pow_le_256 hm
  have h0 := Nat.two_pow_pos m
  rw [l1In_eq, Option.bind_some, if_pos (by simp; omega), if_pos (u64_nonneg _), u64_of (by omega) (by omega), shl_one (by omega)]
  generalize 2 ^ m = q at *
  rw [wrap64_of (by omega) (by omega)]
  congr 1
  omega
theorem implFull_eq {m : Nat} (hm : m ≤ 8) : impl_FullSet.f (m : Int) = some ((fullN m : Nat) : Int) := by
  unfold impl_FullSet.f fullN
  have hp := pow_le_256 hm
  have h0 := Nat.two_pow_pos m
  rw [isSize_eq, Option.bind_some, if_pos (by simp; omega), if_pos (by omega), shl_one (by omega)]
  generalize 2 ^ m = q at *
  rw [wrap64_of (by omega) (by omega)]
  congr 1
  omega

end Go.Proofs.Ytagncnjllpebjaa.Q

namespace Go.Proofs.Ytagncnjllpebjaa.Q
open Go Go.RowKit Go.Proofs.YtagncnjllpebjaaW.PrintWords Go.Proofs.YtagncnjllpebjaaW.PrintLast Go.Proofs.YtagncnjllpebjaaW.PrintMore Go.Proofs.Ytagncnjllpebjaa.Z
set_option linter.unusedVariables false
set_option linter.unusedSimpArgs false

theorem rk_ge {L : List Nat} {b : Nat} (hb : b ∈ L) (s : Nat) : pc (b &&& s) ≤ rkN L s := maxN_mem _ 0 _ (List.mem_map.2 ⟨b, hb, rfl⟩)
theorem rk_attain {L : List Nat} (hne : L ≠ []) (s : Nat) : ∃ b ∈ L, pc (b &&& s) = rkN L s := by
  rcases maxN_cases (L.map (fun b => pc (b &&& s))) 0 with h | h
  · obtain ⟨b, hb⟩ := List.exists_mem_of_ne_nil L hne
    have := rk_ge hb s
    refine ⟨b, hb, ?_⟩
    unfold rkN at this ⊢
    omega
  · obtain ⟨b, hb, e⟩ := List.mem_map.1 h
    exact ⟨b, hb, e⟩
theorem rk_mono {L : List Nat} (hne : L ≠ []) {X Y : Nat} (h : ∀ i, X.testBit i = true → Y.testBit i = true) : rkN L X ≤ rkN L Y := by
  obtain ⟨b, hb, e⟩ := rk_attain hne X
  rw [← e]
  refine Nat.le_trans (pc_mono fun i _ hi => ?_) (rk_ge hb Y)
  rw [Nat.testBit_and, Bool.and_eq_true] at hi ⊢
  exact ⟨hi.1, h i hi.2⟩
theorem Mat.both_step {m : Nat} {L : List Nat} (h : Mat m L) {S T c : Nat} (hST : ∀ i, S.testBit i = true → T.testBit i = true) (hc : c ∈ L) (hcT : pc (c &&& T) = rkN L T) : ∀ (d b : Nat), b ∈ L → pc (b &&& S) = rkN L S → pc (dif b c) = d → ∃ b ∈ L, pc (b &&& S) = rkN L S ∧ pc (b &&& T) = rkN L T := by
  intro d
  induction d with
  | zero =>
    intro b hb hS hd
    refine ⟨b, hb, hS, Nat.le_antisymm (rk_ge hb T) ?_⟩
    rw [← hcT]
    have hcard := h.card hb hc
    refine pc_mono fun i hi hbi => ?_
    rw [Nat.testBit_and, Bool.and_eq_true] at hbi ⊢
    refine ⟨?_, hbi.2⟩
    cases hb' : b.testBit i
    · have h1 : pc b < pc c := by
        have e1 := pc_dif_and c (2 ^ i)
        have hle : pc b ≤ pc (dif c (2 ^ i)) := pc_mono fun j hj hbj => by
          rw [del_bit]
          have : c.testBit j = true := by
            cases hcj : c.testBit j
            · have : 0 < pc (dif b c) := pc_pos hj (by rw [dif_bit, hbj, hcj]; rfl)
              omega
            · rfl
          rw [this]
          have hne : ¬ i = j := by rintro rfl; rw [hb'] at hbj; cases hbj
          simp [hne]
        have := pc_del hi hbi.1
        omega
      omega
    · rfl
  | succ d ih =>
    intro b hb hS hd
    by_cases hT : pc (b &&& T) = rkN L T
    · exact ⟨b, hb, hS, hT⟩
    · have hlt : pc (b &&& T) < pc (c &&& T) := by
        have := rk_ge hb T
        omega
      have hcard := h.card hb hc
      have e1 := pc_dif_and b T
      have e2 := pc_dif_and c T
      obtain ⟨e, he, hbe, hce⟩ := exists_new (a := dif c T) (b := dif b T) (by omega)
      rw [dif_bit, Bool.and_eq_true, Bool.not_eq_true'] at hbe
      have hce' : c.testBit e = false := by
        rw [dif_bit, hbe.2] at hce
        simpa using hce
      obtain ⟨f, hf, h1, h2, hm⟩ := h.exch b hb c hc e he hbe.1 hce'
      refine ih (swp b e f) hm ?_ ?_
      · refine Nat.le_antisymm (rk_ge hm S) ?_
        rw [← hS]
        refine pc_mono fun i _ hi => ?_
        rw [Nat.testBit_and, Bool.and_eq_true] at hi ⊢
        refine ⟨?_, hi.2⟩
        have hie : ¬ e = i := by rintro rfl; have := hST _ hi.2; rw [hbe.2] at this; cases this
        rw [swp_bit, hi.1]
        simp [hie]
      · have e3 : dif (swp b e f) c = dif (dif b c) (2 ^ e) := by
          apply Nat.eq_of_testBit_eq
          intro i
          rw [dif_bit, swp_bit, del_bit, dif_bit]
          by_cases hi : f = i
          · subst hi; rw [h1, h2]; simp
          · simp [hi]
            cases b.testBit i <;> cases c.testBit i <;> simp
        rw [e3]
        have := pc_del (a := dif b c) he (by rw [dif_bit, hbe.1, hce']; rfl)
        omega
theorem Mat.both {m : Nat} {L : List Nat} (h : Mat m L) {S T : Nat} (hST : ∀ i, S.testBit i = true → T.testBit i = true) : ∃ b ∈ L, pc (b &&& S) = rkN L S ∧ pc (b &&& T) = rkN L T := by
  obtain ⟨c, hc, hcT⟩ := rk_attain h.some T
  obtain ⟨b, hb, hbS⟩ := rk_attain h.some S
  exact Mat.both_step h hST hc hcT _ b hb hbS rfl
theorem Mat.rk_sub {m : Nat} {L : List Nat} (h : Mat m L) (X Y : Nat) : rkN L (X ||| Y) + rkN L (X &&& Y) ≤ rkN L X + rkN L Y := by
  obtain ⟨b, hb, h1, h2⟩ := Mat.both h (S := X &&& Y) (T := X ||| Y) (fun i hi => by rw [Nat.testBit_and, Bool.and_eq_true] at hi; rw [Nat.testBit_or, hi.1]; rfl)
  have e := pc_or_and (b &&& X) (b &&& Y)
  have e1 : (b &&& X) ||| (b &&& Y) = b &&& (X ||| Y) := by
    apply Nat.eq_of_testBit_eq
    intro i
    simp only [Nat.testBit_or, Nat.testBit_and]
    cases b.testBit i <;> cases X.testBit i <;> cases Y.testBit i <;> rfl
  have e2 : (b &&& X) &&& (b &&& Y) = b &&& (X &&& Y) := by
    apply Nat.eq_of_testBit_eq
    intro i
    simp only [Nat.testBit_and]
    cases b.testBit i <;> cases X.testBit i <;> cases Y.testBit i <;> rfl
  rw [e1, e2, h1, h2] at e
  have k1 := rk_ge hb X
  have k2 := rk_ge hb Y
  omega
theorem bit_out {m A i : Nat} (h : A < 2 ^ m) (hi : m ≤ i) : A.testBit i = false := Nat.testBit_lt_two_pow (Nat.lt_of_lt_of_le h (Nat.pow_le_pow_right (by omega) hi))
end Go.Proofs.Ytagncnjllpebjaa.Q

namespace Go.Proofs.Ytagncnjllpebjaa.Q
open Go Go.RowKit Go.Proofs.YtagncnjllpebjaaW.PrintWords Go.Proofs.YtagncnjllpebjaaW.PrintLast Go.Proofs.YtagncnjllpebjaaW.PrintMore Go.Proofs.Ytagncnjllpebjaa.Z
set_option linter.unusedVariables false
set_option linter.unusedSimpArgs false

theorem or_ltP {m a b : Nat} (ha : a < 2 ^ m) (hb : b < 2 ^ m) : a ||| b < 2 ^ m := Nat.or_lt_two_pow ha hb
theorem bit_lt {m s i : Nat} (hs : s < 2 ^ m) (h : s.testBit i = true) : i < m := by
  refine Classical.byContradiction fun hc => ?_
  rw [bit_out hs (by omega)] at h; cases h
theorem pow_lt_of {m i : Nat} (h : i < m) : 2 ^ i < 2 ^ m := Nat.pow_lt_pow_right (by omega) h
/-- Sets of m elements, closed downward, and a smaller one can be filled up from a greater one. -/
structure Ind (m : Nat) (I : Nat → Prop) : Prop where
  size : m ≤ 8
  sets : ∀ s, I s → s < 2 ^ m
  zero : I 0
  down : ∀ s t, I t → subN s t → I s
  aug : ∀ a b, I a → I b → pc a < pc b → ∃ e, e < 8 ∧ b.testBit e = true ∧ a.testBit e = false ∧ I (a ||| 2 ^ e)
def orL (a : Nat) : List Nat → Nat
  | [] => a
  | e :: es => orL a es ||| 2 ^ e
theorem orL_bit (a i : Nat) : ∀ es : List Nat, (orL a es).testBit i = (a.testBit i || decide (i ∈ es)) := by
  intro es
  induction es with
  | nil => simp [orL]
  | cons e es ih =>
    simp only [orL]
    rw [add_bit, ih]
    by_cases h : e = i
    · subst h; simp
    · have : ¬ i = e := fun x => h x.symm
      simp [h, this]
theorem Mat.aug {m : Nat} {L : List Nat} (h : Mat m L) {a b : Nat} (ha : indN L a = true) (hb : indN L b = true) (hlt : pc a < pc b) : ∃ e, e < 8 ∧ b.testBit e = true ∧ a.testBit e = false ∧ indN L (a ||| 2 ^ e) = true := by
  refine Classical.byContradiction fun hc => ?_
  have hlt256 : ∀ s, indN L s = true → s < 256 := fun s hs => by
    obtain ⟨x, hx, hsub⟩ := indN_iff.1 hs
    exact Nat.lt_of_le_of_lt (subN_le hsub) (h.lt x hx)
  have ra := (rk_eq_iff (hlt256 a ha) h.some).2 ha
  have rb := (rk_eq_iff (hlt256 b hb) h.some).2 hb
  have h1 : ∀ e, e < 8 → b.testBit e = true → rkN L (a ||| 2 ^ e) ≤ rkN L a := by
    intro e he hbe
    cases hae : a.testBit e
    · have hn : ¬ indN L (a ||| 2 ^ e) = true := fun x => hc ⟨e, he, hbe, hae, x⟩
      have hl : a ||| 2 ^ e < 256 := Nat.or_lt_two_pow (n := 8) (hlt256 a ha) (pow_lt_of he)
      have hne := mt (rk_eq_iff hl h.some).1 hn
      have hle := rkN_le L (a ||| 2 ^ e)
      rw [pc_add he hae] at hle hne
      omega
    · refine rk_mono h.some fun i hi => ?_
      rw [add_bit, Bool.or_eq_true] at hi
      rcases hi with hi | hi
      · exact hi
      · rw [← of_decide_eq_true hi]; exact hae
  have h2 : ∀ es : List Nat, (∀ e ∈ es, e < 8 ∧ b.testBit e = true) → rkN L (orL a es) ≤ rkN L a := by
    intro es
    induction es with
    | nil => intro _; exact Nat.le_refl _
    | cons e es ih =>
      intro hes
      have ih' := ih (fun x hx => hes x (List.mem_cons_of_mem _ hx))
      have he := hes e (List.mem_cons_self ..)
      have hs := Mat.rk_sub h (orL a es) (a ||| 2 ^ e)
      have k1 : rkN L a ≤ rkN L (orL a es &&& (a ||| 2 ^ e)) := rk_mono h.some fun i hi => by
        rw [Nat.testBit_and, orL_bit, add_bit, hi]; rfl
      have k2 : rkN L (orL a es ||| 2 ^ e) ≤ rkN L (orL a es ||| (a ||| 2 ^ e)) := rk_mono h.some fun i hi => by
        rw [Nat.testBit_or, Bool.or_eq_true] at hi ⊢
        rcases hi with hi | hi
        · exact .inl hi
        · right; rw [Nat.testBit_or, hi, Bool.or_true]
      have k3 := h1 e he.1 he.2
      simp only [orL]
      omega
  have h3 := h2 (els b) (fun e he => mem_els.1 he)
  have h4 : rkN L b ≤ rkN L (orL a (els b)) := rk_mono h.some fun i hi => by
    rw [orL_bit, Bool.or_eq_true]
    right
    refine decide_eq_true (mem_els.2 ⟨?_, hi⟩)
    refine Classical.byContradiction fun hc => ?_
    rw [bit_ge (hlt256 b hb) hc] at hi; cases hi
  omega
variable {m : Nat} {I : Nat → Prop}
theorem Ind.lt (h : Ind m I) {s : Nat} (hs : I s) : s < 256 := Nat.lt_of_lt_of_le (h.sets s hs) (pow_le_256 h.size)
/-- The greatest size of an independent set. -/
theorem Ind.max (h : Ind m I) : ∃ r, (∃ b, I b ∧ pc b = r) ∧ ∀ s, I s → pc s ≤ r := by
  have key : ∀ d b, I b → 8 - pc b ≤ d → ∃ r, (∃ b, I b ∧ pc b = r) ∧ ∀ s, I s → pc s ≤ r := by
    intro d
    induction d with
    | zero =>
      intro b hb hd
      refine ⟨pc b, ⟨b, hb, rfl⟩, fun s _ => ?_⟩
      have := pc_le s
      have := pc_le b
      omega
    | succ d ih =>
      intro b hb hd
      by_cases hx : ∃ s, I s ∧ pc b < pc s
      · obtain ⟨s, hs, hlt⟩ := hx
        exact ih s hs (by omega)
      · refine ⟨pc b, ⟨b, hb, rfl⟩, fun s hs => ?_⟩
        have : ¬ pc b < pc s := fun hl => hx ⟨s, hs, hl⟩
        omega
  exact key 8 0 h.zero (by omega)
theorem Ind.mat (h : Ind m I) {L : List Nat} {r : Nat} (hL : ∀ b, b ∈ L ↔ I b ∧ pc b = r) (hne : ∃ b, I b ∧ pc b = r) : Mat m L := by
  refine ⟨h.size, fun b hb => h.sets b ((hL b).1 hb).1, ?_, ?_⟩
  · obtain ⟨b, hb⟩ := hne
    intro e
    have := (hL b).2 hb
    rw [e] at this; simp at this
  · intro a ha b hb e he hae hbe
    obtain ⟨ia, pa⟩ := (hL a).1 ha
    obtain ⟨ib, pb⟩ := (hL b).1 hb
    have hd := pc_del he hae
    obtain ⟨f, hf, h1, h2, h3⟩ := h.aug (dif a (2 ^ e)) b (h.down _ a ia (subN_bit.2 fun i hi => by
      rw [dif_bit, Bool.and_eq_true] at hi; exact hi.1)) ib (by omega)
    have hfe : ¬ e = f := by rintro rfl; rw [hbe] at h1; cases h1
    have haf : a.testBit f = false := by
      rw [del_bit] at h2
      simpa [hfe] using h2
    refine ⟨f, hf, h1, haf, (hL _).2 ⟨h3, ?_⟩⟩
    rw [pc_swp he hf hae haf]; exact pa
/-- The independent sets are those within its bases. -/
theorem Ind.indN_iff (h : Ind m I) {L : List Nat} {r : Nat} (hL : ∀ b, b ∈ L ↔ I b ∧ pc b = r) (hne : ∃ b, I b ∧ pc b = r) (hmax : ∀ s, I s → pc s ≤ r) (s : Nat) : indN L s = true ↔ I s := by
  constructor
  · intro hs
    obtain ⟨x, hx, hsub⟩ := Z.indN_iff.1 hs
    exact h.down s x ((hL x).1 hx).1 hsub
  · obtain ⟨b, ib, pb⟩ := hne
    have key : ∀ d s, I s → r - pc s ≤ d → ∃ x, x ∈ L ∧ subN s x := by
      intro d
      induction d with
      | zero =>
        intro s hs hd
        have := hmax s hs
        exact ⟨s, (hL s).2 ⟨hs, by omega⟩, subN_refl s⟩
      | succ d ih =>
        intro s hs hd
        by_cases he : pc s = r
        · exact ⟨s, (hL s).2 ⟨hs, he⟩, subN_refl s⟩
        · have := hmax s hs
          obtain ⟨e, he8, h1, h2, h3⟩ := h.aug s b hs ib (by omega)
          obtain ⟨x, hx, hsub⟩ := ih _ h3 (by rw [pc_add he8 h2]; omega)
          refine ⟨x, hx, subN_trans (subN_bit.2 fun i hi => ?_) hsub⟩
          rw [add_bit, hi, Bool.true_or]
    intro hs
    obtain ⟨x, hx, hsub⟩ := key _ s hs (Nat.le_refl _)
    exact Z.indN_iff.2 ⟨x, hx, hsub⟩
theorem pc_or_disj {x y : Nat} (h : x &&& y = 0) : pc (x ||| y) = pc x + pc y := by
  have := pc_or_and x y
  rw [h, pc_zero] at this
  omega
theorem disj_bit {x y i : Nat} (h : x &&& y = 0) (hx : x.testBit i = true) : y.testBit i = false := by
  have := congrArg (fun z => Nat.testBit z i) h
  simp only [Nat.testBit_and, hx, Bool.true_and, Nat.zero_testBit] at this
  exact this
/-- Unions of an independent set of one kind and one of another. -/
def Uni (I J : Nat → Prop) (s : Nat) : Prop := ∃ x y, I x ∧ J y ∧ s = x ||| y
theorem Uni.disj {I J : Nat → Prop} (hJ : ∀ s t, J t → subN s t → J s) {s : Nat} (h : Uni I J s) : ∃ x y, I x ∧ J y ∧ s = x ||| y ∧ x &&& y = 0 := by
  obtain ⟨x, y, hx, hy, rfl⟩ := h
  refine ⟨x, dif y x, hx, hJ _ y hy (subN_bit.2 fun i hi => by rw [dif_bit, Bool.and_eq_true] at hi; exact hi.1), ?_, ?_⟩
  · apply Nat.eq_of_testBit_eq
    intro i
    rw [Nat.testBit_or, Nat.testBit_or, dif_bit]
    cases x.testBit i <;> cases y.testBit i <;> rfl
  · apply Nat.eq_of_testBit_eq
    intro i
    rw [Nat.testBit_and, dif_bit, Nat.zero_testBit]
    cases x.testBit i <;> cases y.testBit i <;> rfl
theorem union_step {I J : Nat → Prop} (hI : Ind m I) (hJ : Ind m J) {b1 b2 : Nat} (ib1 : I b1) (ib2 : J b2) (hb : b1 &&& b2 = 0) : ∀ (n a1 a2 : Nat), I a1 → J a2 → a1 &&& a2 = 0 → pc (a1 ||| a2) < pc (b1 ||| b2) → 16 ≤ n + (pc (a1 &&& b1) + pc (a2 &&& b2)) → ∃ e, e < 8 ∧ (b1 ||| b2).testBit e = true ∧ (a1 ||| a2).testBit e = false ∧ Uni I J ((a1 ||| a2) ||| 2 ^ e) := by
  intro n
  induction n with
  | zero =>
    intro a1 a2 i1 i2 hd hlt hn
    have k1 := pc_and_le b1 a1
    have k2 := pc_and_le b2 a2
    rw [Nat.and_comm] at k1 k2
    have := pc_or_disj hd
    have := pc_or_disj hb
    have h8 := pc_le (b1 ||| b2)
    omega
  | succ n ih =>
    intro a1 a2 i1 i2 hd hlt hn
    have ea := pc_or_disj hd
    have eb := pc_or_disj hb
    by_cases hc : pc a1 < pc b1
    · obtain ⟨e, he, h1, h2, h3⟩ := hI.aug a1 b1 i1 ib1 hc
      cases h4 : a2.testBit e
      · refine ⟨e, he, by rw [Nat.testBit_or, h1, Bool.true_or], by rw [Nat.testBit_or, h2, h4]; rfl, a1 ||| 2 ^ e, a2, h3, i2, ?_⟩
        apply Nat.eq_of_testBit_eq
        intro i
        simp only [Nat.testBit_or]
        cases a1.testBit i <;> cases a2.testBit i <;> cases (2 ^ e).testBit i <;> rfl
      · have eu : (a1 ||| 2 ^ e) ||| dif a2 (2 ^ e) = a1 ||| a2 := by
          apply Nat.eq_of_testBit_eq
          intro i
          rw [Nat.testBit_or, add_bit, del_bit, Nat.testBit_or]
          by_cases hi : e = i
          · subst hi; rw [h4]; simp
          · simp [hi]
        have := ih (a1 ||| 2 ^ e) (dif a2 (2 ^ e)) h3 (hJ.down _ a2 i2 (subN_bit.2 fun i hi => by rw [del_bit, Bool.and_eq_true] at hi; exact hi.1)) (by
            apply Nat.eq_of_testBit_eq
            intro i
            rw [Nat.testBit_and, add_bit, del_bit, Nat.zero_testBit]
            by_cases hi : e = i
            · subst hi; simp
            · have hx := congrArg (fun z => Nat.testBit z i) hd
              simp only [Nat.testBit_and, Nat.zero_testBit] at hx
              simp [hi, hx]) (by rw [eu]; exact hlt) (by
            have k1 : pc ((a1 ||| 2 ^ e) &&& b1) = pc (a1 &&& b1) + 1 := by
              rw [← pc_add (a := a1 &&& b1) he (by rw [Nat.testBit_and, h2]; rfl)]
              congr 1
              apply Nat.eq_of_testBit_eq
              intro i
              rw [Nat.testBit_and, add_bit, add_bit, Nat.testBit_and]
              by_cases hi : e = i
              · subst hi; rw [h1]; simp
              · simp [hi]
            have k2 : dif a2 (2 ^ e) &&& b2 = a2 &&& b2 := by
              apply Nat.eq_of_testBit_eq
              intro i
              rw [Nat.testBit_and, del_bit, Nat.testBit_and]
              by_cases hi : e = i
              · subst hi; rw [disj_bit hb h1]; simp
              · simp [hi]
            rw [k1, k2]; omega)
        rw [eu] at this
        exact this
    · have hc2 : pc a2 < pc b2 := by omega
      obtain ⟨e, he, h1, h2, h3⟩ := hJ.aug a2 b2 i2 ib2 hc2
      have hb' : b2 &&& b1 = 0 := by rw [Nat.and_comm]; exact hb
      cases h4 : a1.testBit e
      · refine ⟨e, he, by rw [Nat.testBit_or, h1, Bool.or_true], by rw [Nat.testBit_or, h2, h4]; rfl, a1, a2 ||| 2 ^ e, i1, h3, ?_⟩
        apply Nat.eq_of_testBit_eq
        intro i
        simp only [Nat.testBit_or]
        cases a1.testBit i <;> cases a2.testBit i <;> cases (2 ^ e).testBit i <;> rfl
      · have eu : dif a1 (2 ^ e) ||| (a2 ||| 2 ^ e) = a1 ||| a2 := by
          apply Nat.eq_of_testBit_eq
          intro i
          rw [Nat.testBit_or, add_bit, del_bit, Nat.testBit_or]
          by_cases hi : e = i
          · subst hi; rw [h4]; simp
          · simp [hi]
        have := ih (dif a1 (2 ^ e)) (a2 ||| 2 ^ e) (hI.down _ a1 i1 (subN_bit.2 fun i hi => by rw [del_bit, Bool.and_eq_true] at hi; exact hi.1)) h3 (by
            apply Nat.eq_of_testBit_eq
            intro i
            rw [Nat.testBit_and, add_bit, del_bit, Nat.zero_testBit]
            by_cases hi : e = i
            · subst hi; simp
            · have hx := congrArg (fun z => Nat.testBit z i) hd
              simp only [Nat.testBit_and, Nat.zero_testBit] at hx
              simp [hi, hx]) (by rw [eu]; exact hlt) (by
            have k1 : pc ((a2 ||| 2 ^ e) &&& b2) = pc (a2 &&& b2) + 1 := by
              rw [← pc_add (a := a2 &&& b2) he (by rw [Nat.testBit_and, h2]; rfl)]
              congr 1
              apply Nat.eq_of_testBit_eq
              intro i
              rw [Nat.testBit_and, add_bit, add_bit, Nat.testBit_and]
              by_cases hi : e = i
              · subst hi; rw [h1]; simp
              · simp [hi]
            have k2 : dif a1 (2 ^ e) &&& b1 = a1 &&& b1 := by
              apply Nat.eq_of_testBit_eq
              intro i
              rw [Nat.testBit_and, del_bit, Nat.testBit_and]
              by_cases hi : e = i
              · subst hi; rw [disj_bit hb' h1]; simp
              · simp [hi]
            rw [k1, k2]; omega)
        rw [eu] at this
        exact this
theorem Ind.union {I J : Nat → Prop} (hI : Ind m I) (hJ : Ind m J) : Ind m (Uni I J) := by
  refine ⟨hI.size, ?_, ?_, ?_, ?_⟩
  · rintro s ⟨x, y, hx, hy, rfl⟩
    exact or_ltP (hI.sets x hx) (hJ.sets y hy)
  · exact ⟨0, 0, hI.zero, hJ.zero, rfl⟩
  · rintro s t ⟨x, y, hx, hy, rfl⟩ hst
    refine ⟨x &&& s, y &&& s, hI.down _ x hx (subN_bit.2 fun i hi => by rw [Nat.testBit_and, Bool.and_eq_true] at hi; exact hi.1), hJ.down _ y hy (subN_bit.2 fun i hi => by rw [Nat.testBit_and, Bool.and_eq_true] at hi; exact hi.1), ?_⟩
    apply Nat.eq_of_testBit_eq
    intro i
    have h1 := subN_bit.1 hst i
    rw [Nat.testBit_or] at h1
    rw [Nat.testBit_or, Nat.testBit_and, Nat.testBit_and]
    cases hs : s.testBit i
    · simp
    · rw [hs] at h1; simpa using (h1 rfl).symm
  · intro a b ha hb hlt
    obtain ⟨a1, a2, i1, i2, rfl, hd⟩ := Uni.disj hJ.down ha
    obtain ⟨b1, b2, j1, j2, rfl, hd'⟩ := Uni.disj hJ.down hb
    exact union_step hI hJ j1 j2 hd' 16 a1 a2 i1 i2 hd hlt (by omega)
/-- At most one element, and of S. -/
def One (S s : Nat) : Prop := s = 0 ∨ ∃ e, e < 8 ∧ S.testBit e = true ∧ s = 2 ^ e
theorem Ind.one {S : Nat} (hm : m ≤ 8) (hS : S < 2 ^ m) : Ind m (One S) := by
  refine ⟨hm, ?_, .inl rfl, ?_, ?_⟩
  · rintro s (rfl | ⟨e, he, h1, rfl⟩)
    · exact Nat.two_pow_pos _
    · exact pow_lt_of (bit_lt hS h1)
  · rintro s t (rfl | ⟨e, he, h1, rfl⟩) hst
    · left
      have := subN_le hst
      omega
    · cases hb : s.testBit e
      · left
        apply Nat.eq_of_testBit_eq
        intro i
        rw [Nat.zero_testBit]
        cases hi : s.testBit i
        · rfl
        · have := subN_bit.1 hst i hi
          rw [Nat.testBit_two_pow] at this
          rw [of_decide_eq_true this, hi] at hb; cases hb
      · right
        refine ⟨e, he, h1, ?_⟩
        apply Nat.eq_of_testBit_eq
        intro i
        rw [Nat.testBit_two_pow]
        by_cases hi : e = i
        · subst hi; rw [hb]; simp
        · rw [decide_eq_false hi]
          cases hs : s.testBit i
          · rfl
          · have := subN_bit.1 hst i hs
            rw [Nat.testBit_two_pow] at this
            exact absurd (of_decide_eq_true this) hi
  · rintro a b (rfl | ⟨e, he, h1, rfl⟩) hb hlt
    · rcases hb with rfl | ⟨f, hf, h2, rfl⟩
      · omega
      · exact ⟨f, hf, by rw [Nat.testBit_two_pow]; simp, Nat.zero_testBit _, by rw [Nat.zero_or]; exact .inr ⟨f, hf, h2, rfl⟩⟩
    · rw [pc_pow he] at hlt
      rcases hb with rfl | ⟨f, hf, h2, rfl⟩
      · rw [pc_zero] at hlt; omega
      · rw [pc_pow hf] at hlt; omega
/-- Few enough elements in common with each of some sets that have no element in common. -/
def Few (m : Nat) (ps : List (Nat × Nat)) (s : Nat) : Prop := s < 2 ^ m ∧ ∀ p ∈ ps, pc (p.1 &&& s) ≤ p.2
def orF : List (Nat × Nat) → Nat
  | [] => 0
  | p :: ps => p.1 ||| orF ps
theorem orF_bit (i : Nat) : ∀ ps : List (Nat × Nat), (orF ps).testBit i = true ↔ ∃ p ∈ ps, p.1.testBit i = true := by
  intro ps
  induction ps with
  | nil => simp [orF]
  | cons p ps ih => simp only [orF]; rw [Nat.testBit_or, Bool.or_eq_true, ih]; simp
theorem orF_le {a b : Nat} : ∀ ps : List (Nat × Nat), ps.Pairwise (fun p q => p.1 &&& q.1 = 0) → (∀ p ∈ ps, pc (p.1 &&& b) ≤ pc (p.1 &&& a)) → pc (orF ps &&& b) ≤ pc (orF ps &&& a) := by
  intro ps
  induction ps with
  | nil => intro _ _; simp [orF]
  | cons p ps ih =>
    intro hp h
    rw [List.pairwise_cons] at hp
    have hd : ∀ x : Nat, (p.1 &&& x) &&& (orF ps &&& x) = 0 := by
      intro x
      apply Nat.eq_of_testBit_eq
      intro i
      simp only [Nat.testBit_and, Nat.zero_testBit]
      cases h1 : p.1.testBit i
      · simp
      · cases h2 : (orF ps).testBit i
        · simp
        · obtain ⟨q, hq, hqi⟩ := (orF_bit i ps).1 h2
          have := disj_bit (hp.1 q hq) h1
          rw [this] at hqi; cases hqi
    have e : ∀ x : Nat, orF (p :: ps) &&& x = (p.1 &&& x) ||| (orF ps &&& x) := by
      intro x
      apply Nat.eq_of_testBit_eq
      intro i
      simp only [orF, Nat.testBit_and, Nat.testBit_or]
      cases p.1.testBit i <;> cases (orF ps).testBit i <;> cases x.testBit i <;> rfl
    rw [e, e, pc_or_disj (hd _), pc_or_disj (hd _)]
    have h1 := h p (List.mem_cons_self ..)
    have h2 := ih hp.2 (fun q hq => h q (List.mem_cons_of_mem _ hq))
    omega
theorem Ind.few (hm : m ≤ 8) {ps : List (Nat × Nat)} (hp : ps.Pairwise (fun p q => p.1 &&& q.1 = 0)) : Ind m (Few m ps) := by
  refine ⟨hm, fun s hs => hs.1, ⟨Nat.two_pow_pos _, fun p _ => by rw [Nat.and_zero, pc_zero]; exact Nat.zero_le _⟩, ?_, ?_⟩
  · intro s t ht hst
    refine ⟨Nat.lt_of_le_of_lt (subN_le hst) ht.1, fun p hpm => Nat.le_trans (pc_mono fun i _ hi => ?_) (ht.2 p hpm)⟩
    rw [Nat.testBit_and, Bool.and_eq_true] at hi ⊢
    exact ⟨hi.1, subN_bit.1 hst i hi.2⟩
  · intro a b ha hb hlt
    refine Classical.byContradiction fun hc => ?_
    let qs := ps.filter (fun p => decide (p.2 ≤ pc (p.1 &&& a)))
    have hq : pc (orF qs &&& b) ≤ pc (orF qs &&& a) := orF_le qs (List.Pairwise.filter _ hp) (fun p hpm => by
      have hm := List.mem_filter.1 hpm
      have := hb.2 p hm.1
      have h2 := of_decide_eq_true hm.2
      omega)
    have hin : ∀ e, e < 8 → b.testBit e = true → a.testBit e = false → (orF qs).testBit e = true := by
      intro e he hbe hae
      refine Classical.byContradiction fun hn => hc ⟨e, he, hbe, hae, ?_, ?_⟩
      · exact or_ltP ha.1 (pow_lt_of (bit_lt hb.1 hbe))
      · intro p hpm
        by_cases hpe : p.1.testBit e = true
        · have : ¬ p.2 ≤ pc (p.1 &&& a) := fun hle => hn ((orF_bit e qs).2 ⟨p, List.mem_filter.2 ⟨hpm, decide_eq_true hle⟩, hpe⟩)
          have k : p.1 &&& (a ||| 2 ^ e) = (p.1 &&& a) ||| 2 ^ e := by
            apply Nat.eq_of_testBit_eq
            intro i
            rw [Nat.testBit_and, add_bit, add_bit, Nat.testBit_and]
            by_cases hi : e = i
            · subst hi; rw [hpe]; simp
            · simp [hi]
          rw [k, pc_add he (by rw [Nat.testBit_and, hae, Bool.and_false])]
          omega
        · have k : p.1 &&& (a ||| 2 ^ e) = p.1 &&& a := by
            apply Nat.eq_of_testBit_eq
            intro i
            rw [Nat.testBit_and, add_bit, Nat.testBit_and]
            by_cases hi : e = i
            · subst hi; rw [Bool.eq_false_iff.2 hpe]; simp
            · simp [hi]
          rw [k]; exact ha.2 p hpm
    have e1 := pc_dif_and b (orF qs)
    have e2 := pc_dif_and a (orF qs)
    rw [Nat.and_comm] at e1 e2
    have e3 : pc (dif b (orF qs)) ≤ pc (dif a (orF qs)) := pc_mono fun i hi hbi => by
      rw [dif_bit, Bool.and_eq_true, Bool.not_eq_true'] at hbi ⊢
      refine ⟨?_, hbi.2⟩
      cases hai : a.testBit i
      · rw [hin i hi hbi.1 hai] at hbi; exact absurd hbi.2 (by decide)
      · rfl
    omega

end Go.Proofs.Ytagncnjllpebjaa.Q

namespace Go.Proofs.Ytagncnjllpebjaa.Q
open Go Go.RowKit Go.Proofs.YtagncnjllpebjaaW.PrintWords Go.Proofs.YtagncnjllpebjaaW.PrintLast Go.Proofs.YtagncnjllpebjaaW.PrintMore Go.Proofs.Ytagncnjllpebjaa.Z
set_option linter.unusedVariables false
set_option linter.unusedSimpArgs false

theorem ints_mem {L : List Nat} {x : Nat} : (ints L).contains (x : Int) = true ↔ x ∈ L := by
  rw [List.contains_iff_mem]
  unfold ints
  rw [List.mem_map]
  constructor
  · rintro ⟨y, hy, he⟩
    have : y = x := by omega
    subst this; exact hy
  · intro h; exact ⟨x, h, rfl⟩
/-- And every matroid, listed in order, is told. -/
theorem mat_matB {m : Nat} {L : List Nat} (h : Mat m L) (hp : L.Pairwise (· < ·)) : matB (m : Int) (ints L) = true := by
  have hfam : ∀ (L : List Nat) (p : Option Int), (∀ b ∈ L, b < 2 ^ m) → L.Pairwise (· < ·) → (∀ q, p = some q → ∀ b ∈ L, q < (b : Int)) → famG (m : Int) p (ints L) = true := by
    intro L
    induction L with
    | nil =>
      intro p _ _ _
      have := h.size
      simp only [ints, List.map_nil, famG, Bool.and_eq_true, decide_eq_true_eq]
      omega
    | cons x L ih =>
      intro p hs hp hq
      have hx := hs x (List.mem_cons_self ..)
      rw [List.pairwise_cons] at hp
      simp only [ints, List.map_cons, famG, Bool.and_eq_true]
      refine ⟨?_, ?_, ih (some (x : Int)) (fun b hb => hs b (List.mem_cons_of_mem _ hb)) hp.2 (fun q hq b hb => ?_)⟩
      · rw [isSetB_nat]
        simp [h.size, hx]
      · cases p with
        | none => rfl
        | some q => simpa using hq q rfl x (List.mem_cons_self ..)
      · have := hp.1 b hb
        injection hq with hq
        omega
  have h1 : famB (m : Int) (ints L) = true := hfam L none h.sets hp (fun q hq => by cases hq)
  simp only [matB, Bool.and_eq_true]
  refine ⟨h1, ?_, ?_⟩
  · have : 0 < L.length := List.length_pos_iff.2 h.some
    rw [ints_len]
    exact decide_eq_true (by omega)
  · unfold failT
    rw [if_pos h1, show (ints L).map Int.toNat = L from toNat_map L]
    have hE : ∀ a ∈ L, ∀ b ∈ L, ∀ es : List Nat, (∀ e ∈ es, e ∈ els (dif a b)) → failE (ints L) a b es = none := by
      intro a ha b hb es
      induction es with
      | nil => intro _; rfl
      | cons e es ih =>
        intro hes
        simp only [failE]
        have he := mem_els.1 (hes e (List.mem_cons_self ..))
        rw [dif_bit] at he
        simp only [Bool.and_eq_true, Bool.not_eq_true'] at he
        obtain ⟨f, hf, h1, h2, h3⟩ := h.exch a ha b hb e he.1 he.2.1 he.2.2
        have : hasEx (ints L) a b e = true := by
          unfold hasEx
          rw [List.any_eq_true]
          exact ⟨f, mem_els.2 ⟨hf, by rw [dif_bit, h1, h2]; rfl⟩, ints_mem.2 h3⟩
        rw [if_pos this]
        exact ih (fun e' he' => hes e' (List.mem_cons_of_mem _ he'))
    have hB : ∀ a ∈ L, ∀ bs : List Nat, (∀ b ∈ bs, b ∈ L) → failB (ints L) a bs = none := by
      intro a ha bs
      induction bs with
      | nil => intro _; rfl
      | cons b bs ih =>
        intro hbs
        simp only [failB]
        rw [hE a ha b (hbs b (List.mem_cons_self ..)) _ (fun e he => he)]
        exact ih (fun b' hb' => hbs b' (List.mem_cons_of_mem _ hb'))
    have hA : ∀ la : List Nat, (∀ a ∈ la, a ∈ L) → failA (ints L) L la = none := by
      intro la
      induction la with
      | nil => intro _; rfl
      | cons a la ih =>
        intro hla
        simp only [failA]
        rw [hB a (hla a (List.mem_cons_self ..)) L (fun b hb => hb)]
        exact ih (fun a' ha' => hla a' (List.mem_cons_of_mem _ ha'))
    rw [hA L (fun a ha => ha)]
    rfl

end Go.Proofs.Ytagncnjllpebjaa.Q

namespace Go.Proofs.Ytagncnjllpebjaa.Q
open Go Go.RowKit Go.Proofs.YtagncnjllpebjaaW.PrintWords Go.Proofs.YtagncnjllpebjaaW.PrintLast Go.Proofs.YtagncnjllpebjaaW.PrintMore Go.Proofs.Ytagncnjllpebjaa.Z
set_option linter.unusedVariables false
set_option linter.unusedSimpArgs false

theorem ints_pair {L : List Nat} (h : L.Pairwise (· < ·)) : (ints L).Pairwise (· < ·) := by
  unfold ints
  rw [List.pairwise_map]
  exact h.imp (fun hab => by omega)
theorem sub_card {a b : Nat} (ha : a < 256) (hb : b < 256) (h : subN a b) (hc : pc b ≤ pc a) : a = b := by
  apply set_ext ha hb
  intro i hi
  cases hbi : b.testBit i
  · cases hai : a.testBit i
    · rfl
    · rw [subN_bit.1 h i hai] at hbi; cases hbi
  · cases hai : a.testBit i
    · have h1 : pc a ≤ pc (dif b (2 ^ i)) := pc_mono fun j _ hj => by
        rw [del_bit, subN_bit.1 h j hj]
        have : ¬ i = j := by rintro rfl; rw [hai] at hj; cases hj
        simp [this]
      have := pc_del hi hbi
      omega
    · rfl

end Go.Proofs.Ytagncnjllpebjaa.Q

namespace Go.Proofs.Ytagncnjllpebjaa.Q
open Go Go.RowKit Go.Proofs.YtagncnjllpebjaaW.PrintWords Go.Proofs.YtagncnjllpebjaaW.PrintLast Go.Proofs.YtagncnjllpebjaaW.PrintMore Go.Proofs.Ytagncnjllpebjaa.Z
set_option linter.unusedVariables false
set_option linter.unusedSimpArgs false

/-- The sets of a list that lie in no other one. -/
def topN (F : List Nat) : List Nat := F.filter (fun s => !F.any (fun t => decide (t ≠ s) && decide (subN s t)))
variable {m : Nat} {I : Nat → Prop} {p : Nat → Bool}
theorem top_ind (hI : Ind m I) (hp : ∀ s, p s = true ↔ I s) {r : Nat} (hex : ∃ b, I b ∧ pc b = r) (hmax : ∀ s, I s → pc s ≤ r) : topN ((List.range (2 ^ m)).filter p) = (List.range (2 ^ m)).filter (fun s => p s && decide (pc s = r)) := by
  unfold topN
  rw [List.filter_filter]
  apply List.filter_congr
  intro s hs
  rw [Bool.eq_iff_iff, Bool.and_eq_true, Bool.and_eq_true, Bool.not_eq_true', decide_eq_true_eq]
  constructor
  · rintro ⟨h1, h2⟩
    have hIs := (hp s).1 h2
    refine ⟨h2, ?_⟩
    refine Classical.byContradiction fun hne => ?_
    obtain ⟨b, hb, hr⟩ := hex
    have := hmax s hIs
    obtain ⟨e, he, k1, k2, k3⟩ := hI.aug s b hIs hb (by omega)
    rw [Bool.eq_false_iff] at h1
    apply h1
    rw [List.any_eq_true]
    refine ⟨s ||| 2 ^ e, List.mem_filter.2 ⟨List.mem_range.2 (hI.sets _ k3), (hp _).2 k3⟩, ?_⟩
    rw [Bool.and_eq_true, decide_eq_true_eq, decide_eq_true_eq]
    refine ⟨fun he' => ?_, subN_bit.2 fun i hi => by rw [add_bit, hi]; rfl⟩
    have := congrArg (fun x => Nat.testBit x e) he'
    simp only [add_bit, k2] at this
    simp at this
  · rintro ⟨h1, h2⟩
    refine ⟨?_, h1⟩
    rw [Bool.eq_false_iff]
    intro hany
    obtain ⟨t, ht, hc⟩ := List.any_eq_true.1 hany
    obtain ⟨ht1, ht2⟩ := List.mem_filter.1 ht
    rw [Bool.and_eq_true, decide_eq_true_eq, decide_eq_true_eq] at hc
    have hIt := (hp t).1 ht2
    have hIs := (hp s).1 h1
    have hle := hmax t hIt
    exact hc.1 (sub_card (hI.lt hIs) (hI.lt hIt) hc.2 (by omega)).symm
theorem base_mem (hI : Ind m I) (hp : ∀ s, p s = true ↔ I s) {r : Nat} (b : Nat) : b ∈ (List.range (2 ^ m)).filter (fun s => p s && decide (pc s = r)) ↔ I b ∧ pc b = r := by
  rw [List.mem_filter, List.mem_range, Bool.and_eq_true, decide_eq_true_eq, hp]
  exact ⟨fun h => h.2, fun h => ⟨hI.sets b h.1, h⟩⟩
theorem base_mat (hI : Ind m I) (hp : ∀ s, p s = true ↔ I s) {r : Nat} (hex : ∃ b, I b ∧ pc b = r) : Mat m ((List.range (2 ^ m)).filter (fun s => p s && decide (pc s = r))) := hI.mat (base_mem hI hp) hex
theorem base_matB (hI : Ind m I) (hp : ∀ s, p s = true ↔ I s) {r : Nat} (hex : ∃ b, I b ∧ pc b = r) : matB (m : Int) (ints ((List.range (2 ^ m)).filter (fun s => p s && decide (pc s = r)))) = true :=
  mat_matB (base_mat hI hp hex) (List.Pairwise.filter _ List.pairwise_lt_range)

end Go.Proofs.Ytagncnjllpebjaa.Q

namespace Go.Proofs.Ytagncnjllpebjaa.Q
open Go Go.RowKit Go.Proofs.Ytagncnjllpebjaa.A Go.Proofs.YtagncnjllpebjaaW.PrintWords Go.Proofs.YtagncnjllpebjaaW.PrintLast Go.Proofs.YtagncnjllpebjaaW.PrintMore Go.Proofs.Ytagncnjllpebjaa.Z
set_option linter.unusedVariables false
set_option linter.unusedSimpArgs false

/-- A number put into a list in order, once. -/
def insO (x : Int) : List Int → List Int
  | [] => [x]
  | y :: ys => if y < x then y :: insO x ys else (if y = x then y :: ys else x :: y :: ys)
def sortO (acc X : List Int) : List Int := X.foldl (fun a x => insO x a) acc
theorem insO_len (x : Int) (l : List Int) : (insO x l).length ≤ l.length + 1 := by
  induction l with
  | nil => exact Nat.le_refl _
  | cons y l ih =>
    simp only [insO]
    by_cases h : y < x
    · rw [if_pos h, List.length_cons, List.length_cons]; omega
    · rw [if_neg h]
      by_cases h2 : y = x
      · rw [if_pos h2]; omega
      · rw [if_neg h2]; simp only [List.length_cons]; omega
theorem insO_mem (x a : Int) (l : List Int) : a ∈ insO x l ↔ a = x ∨ a ∈ l := by
  induction l with
  | nil => simp [insO]
  | cons y l ih =>
    simp only [insO]
    by_cases h : y < x
    · rw [if_pos h, List.mem_cons, ih, List.mem_cons]
      constructor
      · rintro (h' | h' | h')
        · exact .inr (.inl h')
        · exact .inl h'
        · exact .inr (.inr h')
      · rintro (h' | h' | h')
        · exact .inr (.inl h')
        · exact .inl h'
        · exact .inr (.inr h')
    · rw [if_neg h]
      by_cases h2 : y = x
      · rw [if_pos h2]
        subst h2
        constructor
        · exact .inr
        · rintro (rfl | h')
          · exact List.mem_cons_self ..
          · exact h'
      · rw [if_neg h2, List.mem_cons]
theorem insO_pair (x : Int) (l : List Int) (hl : l.Pairwise (· < ·)) : (insO x l).Pairwise (· < ·) := by
  induction l with
  | nil => simp [insO]
  | cons y l ih =>
    rw [List.pairwise_cons] at hl
    simp only [insO]
    by_cases h : y < x
    · rw [if_pos h, List.pairwise_cons]
      refine ⟨fun a ha => ?_, ih hl.2⟩
      rcases (insO_mem x a l).1 ha with rfl | ha
      · exact h
      · exact hl.1 a ha
    · rw [if_neg h]
      by_cases h2 : y = x
      · rw [if_pos h2, List.pairwise_cons]; exact hl
      · rw [if_neg h2, List.pairwise_cons, List.pairwise_cons]
        refine ⟨fun a ha => ?_, hl⟩
        rcases List.mem_cons.1 ha with rfl | ha
        · omega
        · have := hl.1 a ha; omega
theorem sortO_mem (X : List Int) (a : Int) : ∀ acc : List Int, a ∈ sortO acc X ↔ a ∈ X ∨ a ∈ acc := by
  induction X with
  | nil => intro acc; simp [sortO]
  | cons x X ih =>
    intro acc
    have := ih (insO x acc)
    unfold sortO at this ⊢
    rw [List.foldl_cons, this, insO_mem, List.mem_cons]
    constructor
    · rintro (h | h | h)
      · exact .inl (.inr h)
      · exact .inl (.inl h)
      · exact .inr h
    · rintro ((h | h) | h)
      · exact .inr (.inl h)
      · exact .inl h
      · exact .inr (.inr h)
theorem sortO_pair (X : List Int) : ∀ acc : List Int, acc.Pairwise (· < ·) → (sortO acc X).Pairwise (· < ·) := by
  induction X with
  | nil => intro acc h; exact h
  | cons x X ih => intro acc h; exact ih _ (insO_pair x acc h)
/-- Two lists in order with the same members are one. -/
theorem pair_unique : ∀ {X Y : List Int}, X.Pairwise (· < ·) → Y.Pairwise (· < ·) → (∀ a, a ∈ X ↔ a ∈ Y) → X = Y := by
  intro X
  induction X with
  | nil =>
    intro Y _ _ h
    cases Y with
    | nil => rfl
    | cons y Y => exact absurd ((h y).2 (List.mem_cons_self ..)) (by simp)
  | cons x X ih =>
    intro Y hX hY h
    cases Y with
    | nil => exact absurd ((h x).1 (List.mem_cons_self ..)) (by simp)
    | cons y Y =>
      rw [List.pairwise_cons] at hX hY
      have hxy : x = y := by
        rcases List.mem_cons.1 ((h x).1 (List.mem_cons_self ..)) with e | hx
        · exact e
        · rcases List.mem_cons.1 ((h y).2 (List.mem_cons_self ..)) with e | hy
          · exact e.symm
          · have h1 := hX.1 y hy
            have h2 := hY.1 x hx
            omega
      subst hxy
      rw [ih hX.2 hY.2 (fun a => ?_)]
      constructor
      · intro ha
        rcases List.mem_cons.1 ((h a).1 (List.mem_cons_of_mem _ ha)) with e | h'
        · have := hX.1 a ha; omega
        · exact h'
      · intro ha
        rcases List.mem_cons.1 ((h a).2 (List.mem_cons_of_mem _ ha)) with e | h'
        · have := hY.1 a ha; omega
        · exact h'
theorem specSort_ev (X : List Int) (hx : X.length ≤ 8796093022208) : Ev (fun k => spec_SortSets.f k X) (sortO [] X) := by
  have hd := down (P := fun i => ∀ acc : List Int, acc.length ≤ i → Ev (fun k => spec_SortSets.l0 k X acc (i : Int)) (sortO acc (X.drop i))) X.length
    (by
      intro acc _
      apply Ev.step
      · intro k
        rw [spec_SortSets.l0, if_neg (by omega)]
      · rw [drop_end]; exact Ev.now _)
    (by
      intro i hi ih acc ha
      have ihs := fun y (hy : y = insO X[i] acc) => ih y (by subst hy; have := insO_len X[i] acc; omega)
      rw [drop_cons X i hi]
      have h1 := down (P := fun j => Ev (fun k => spec_SortSets.l1 k X acc (i : Int) (j : Int)) (sortO (acc.take j ++ insO X[i] (acc.drop j)) (X.drop (i + 1)))) acc.length
        (by
          rw [List.take_length, drop_end]
          have hr := ih (acc ++ [X[i]]) (by rw [List.length_append, List.length_singleton]; omega)
          apply Ev.step
          · intro k
            rw [spec_SortSets.l1, if_neg (by omega), w_succ hi (by omega)]
          · simp only [Option.bind_some, Int.toNat_natCast, List.drop_length, List.take_length, List.nil_append, List.append_nil, List.length_nil, List.length_append, List.length_singleton]
            refine Ev.ifp (by omega) (Ev.ifp (by omega) (Ev.ifp (by omega) (Ev.ifp (by omega) (Ev.ifp (by omega) (Ev.ifp (by omega) (Ev.ifp (by omega) ?_))))))
            rw [rd_getElem X i hi]
            exact hr)
        (by
          intro j hj ihj
          apply Ev.step
          · intro k
            rw [spec_SortSets.l1, if_pos (by omega), if_pos (by omega), if_pos (by omega), if_pos (by omega), rd_getElem acc j hj, rd_getElem X i hi, w_succ hi (by omega), w_succ hj (by omega)]
          · rw [drop_cons acc j hj]
            simp only [insO]
            by_cases hlt : acc[j] < X[i]
            · rw [if_pos hlt]
              refine Ev.ifp hlt ?_
              rw [take_snoc acc j hj, List.append_assoc, List.singleton_append] at ihj
              exact ihj
            · rw [if_neg hlt]
              refine Ev.ifn hlt ?_
              by_cases heq : acc[j] = X[i]
              · rw [if_pos heq]
                refine Ev.ifp heq ?_
                rw [← drop_cons acc j hj, List.take_append_drop]
                exact ih acc (by omega)
              · rw [if_neg heq]
                refine Ev.ifn heq ?_
                have hr := ih (acc.take j ++ X[i] :: acc[j] :: acc.drop (j + 1)) (by
                  rw [List.length_append, List.length_cons, List.length_cons, List.length_take, List.length_drop]; omega)
                simp only [Option.bind_some, Int.toNat_natCast, List.nil_append, List.length_nil]
                refine Ev.ifp (by omega) (Ev.ifp (by rw [List.length_drop]; omega) (Ev.ifp (by rw [List.length_take]; omega) (Ev.ifp (by rw [List.length_append, List.length_singleton, List.length_take, List.length_drop]; omega) ?_)))
                rw [drop_cons acc j hj, List.append_assoc, List.singleton_append]
                exact hr)
      apply Ev.step
      · intro k
        rw [spec_SortSets.l0, if_pos (by omega)]
      · have h0 := h1
        rw [List.take_zero, List.drop_zero, List.nil_append] at h0
        show Ev _ (sortO acc (X[i] :: X.drop (i + 1)))
        exact h0)
  exact hd [] (Nat.zero_le _)

end Go.Proofs.Ytagncnjllpebjaa.Q

namespace Go.Proofs.Ytagncnjllpebjaa.Q
open Go Go.RowKit Go.Proofs.Ytagncnjllpebjaa.A Go.Proofs.YtagncnjllpebjaaW.PrintWords Go.Proofs.YtagncnjllpebjaaW.PrintLast Go.Proofs.YtagncnjllpebjaaW.PrintMore Go.Proofs.Ytagncnjllpebjaa.Z
set_option linter.unusedVariables false
set_option linter.unusedSimpArgs false

/-- All sets of a list are sets of n elements. -/
def setsB (n : Int) (l : List Int) : Bool := l.all (isSetB n)
def areListsB (n : Int) (l : List Int) : Bool := (decide (0 ≤ n) && decide (n ≤ 8)) && (decide (l.length ≤ 6) && setsB n l)
theorem specSets_ev (n : Int) (l : List Int) (hl : l.length ≤ 17592186044416) : Ev (fun k => spec_l3Sets.f k n l) (setsB n l) := by
  have h := down (P := fun i => Ev (fun k => spec_l3Sets.l0 k n l (i : Int)) (setsB n (l.drop i))) l.length
    (by
      apply Ev.step
      · intro k
        simp only [spec_l3Sets.l0, specIsSet_eq, Option.bind_some]
        rw [if_neg (by omega)]
      · rw [drop_end]; exact Ev.now _)
    (by
      intro i hi ih
      apply Ev.step
      · intro k
        simp only [spec_l3Sets.l0, specIsSet_eq, Option.bind_some]
        rw [if_pos (by omega), if_pos (by omega), rd_getElem l i hi, w_succ hi hl]
      · rw [drop_cons l i hi]
        simp only [setsB, List.all_cons]
        by_cases hx : isSetB n l[i] = true
        · refine Ev.ifp hx ?_
          rw [hx, Bool.true_and]; exact ih
        · refine Ev.ifn hx ?_
          rw [Bool.eq_false_iff.2 hx, Bool.false_and]; exact Ev.now _)
  exact h
theorem specAreLists_ev (n : Int) (l : List Int) (hl : l.length ≤ 17592186044416) : Ev (fun k => spec_AreLists.f k n l) (areListsB n l) := by
  unfold spec_AreLists.f areListsB
  refine Ev.cbind (l1In_eq _ _ _) ?_
  by_cases h : (decide (0 ≤ n) && decide (n ≤ 8)) = true
  · refine Ev.ifp h ?_
    rw [h, Bool.true_and]
    by_cases h6 : (l.length : Int) ≤ 6
    · refine Ev.ifp h6 ?_
      rw [show decide (l.length ≤ 6) = true from by simp; omega, Bool.true_and]
      exact Ev.bind (specSets_ev n l hl) (Ev.now _)
    · refine Ev.ifn h6 ?_
      rw [show decide (l.length ≤ 6) = false from by simp; omega, Bool.false_and]
      exact Ev.now _
  · refine Ev.ifn h ?_
    rw [Bool.eq_false_iff.2 h, Bool.false_and]
    exact Ev.now _
theorem implSets_ev (n : Int) (l : List Int) (hl : l.length ≤ 17592186044416) : Ev (fun k => impl_areSetsOf.f k n l) (setsB n l && (decide (0 ≤ n) && decide (n ≤ 8))) := by
  have h := down (P := fun i => Ev (fun k => impl_areSetsOf.l0 k n l (l.length : Int) (i : Int)) (setsB n (l.drop i) && (decide (0 ≤ n) && decide (n ≤ 8)))) l.length
    (by
      apply Ev.step
      · intro k
        simp only [impl_areSetsOf.l0, implIsSet_eq, isSize_eq, Option.bind_some]
        rw [if_neg (by omega)]
      · rw [drop_end]; exact Ev.now _)
    (by
      intro i hi ih
      apply Ev.step
      · intro k
        simp only [impl_areSetsOf.l0, implIsSet_eq, isSize_eq, Option.bind_some]
        rw [if_pos (by omega), if_pos (by omega), if_pos (by omega), rd_getElem l i hi, w_succ hi hl]
      · rw [drop_cons l i hi]
        simp only [setsB, List.all_cons]
        by_cases hx : isSetB n l[i] = true
        · refine Ev.ifp hx ?_
          rw [hx, Bool.true_and]; exact ih
        · refine Ev.ifn hx ?_
          rw [Bool.eq_false_iff.2 hx, Bool.false_and, Bool.false_and]; exact Ev.now _)
  exact h
theorem implAreLists_ev (n : Int) (l : List Int) (hl : l.length ≤ 17592186044416) : Ev (fun k => impl_AreLists.f k n l) (areListsB n l) := by
  unfold impl_AreLists.f areListsB
  refine Ev.bind (implSets_ev n l hl) ?_
  by_cases h : (setsB n l && (decide (0 ≤ n) && decide (n ≤ 8))) = true
  · refine Ev.ifp h ?_
    simp only [Bool.and_eq_true] at h
    rw [h.1, show (decide (0 ≤ n) && decide (n ≤ 8)) = true from by simpa using h.2, Bool.true_and, Bool.and_true]
    have : decide ((l.length : Int) ≤ 6) = decide (l.length ≤ 6) := by
      rw [Bool.eq_iff_iff]; simp only [decide_eq_true_eq]; omega
    rw [this]
    exact Ev.now _
  · refine Ev.ifn h ?_
    have : ((decide (0 ≤ n) && decide (n ≤ 8)) && (decide (l.length ≤ 6) && setsB n l)) = false := by
      rw [Bool.eq_false_iff]
      intro hc
      apply h
      simp only [Bool.and_eq_true] at *
      exact ⟨hc.2.2, hc.1⟩
    rw [this]
    exact Ev.now _

end Go.Proofs.Ytagncnjllpebjaa.Q

namespace Go.Proofs.Ytagncnjllpebjaa.Q
open Go Go.RowKit Go.Proofs.Ytagncnjllpebjaa.A Go.Proofs.YtagncnjllpebjaaW.PrintWords Go.Proofs.YtagncnjllpebjaaW.PrintLast Go.Proofs.YtagncnjllpebjaaW.PrintMore Go.Proofs.Ytagncnjllpebjaa.Z
set_option linter.unusedVariables false
set_option linter.unusedSimpArgs false

theorem subset_eq (t s : Int) : impl_IsSubset.f t s = some (isAnyB t && (isAnyB s && decide (subN t.toNat s.toNat))) := by
  unfold impl_IsSubset.f
  rw [isAny_eq, isAny_eq, Option.bind_some, Option.bind_some]
  by_cases h1 : isAnyB t = true
  · rw [if_pos h1, h1, Bool.true_and]
    by_cases h2 : isAnyB s = true
    · rw [if_pos h2, h2, Bool.true_and]
      obtain ⟨a, rfl, ha⟩ := isAnyB_lt h1
      obtain ⟨b, rfl, hb⟩ := isAnyB_lt h2
      rw [andNot_nat (lt256_63 ha) (lt256_63 hb), Int.toNat_natCast, Int.toNat_natCast]
      have e : (((dif a b : Nat) : Int) == 0) = decide (subN a b) := by
        rw [Bool.eq_iff_iff, beq_iff_eq, decide_eq_true_eq]
        have h := @dif_zero a b
        constructor
        · intro h0; exact h.1 (by omega)
        · intro h0; have := h.2 h0; omega
      rw [e]
    · rw [if_neg h2, Bool.eq_false_iff.2 h2, Bool.false_and]
  · rw [if_neg h1, Bool.eq_false_iff.2 h1, Bool.false_and]
end Go.Proofs.Ytagncnjllpebjaa.Q

namespace Go.Proofs.Ytagncnjllpebjaa.Q
open Go Go.RowKit Go.Proofs.Ytagncnjllpebjaa.A Go.Proofs.YtagncnjllpebjaaW.PrintWords Go.Proofs.YtagncnjllpebjaaW.PrintLast Go.Proofs.YtagncnjllpebjaaW.PrintMore Go.Proofs.Ytagncnjllpebjaa.Z
set_option linter.unusedVariables false
set_option linter.unusedSimpArgs false

theorem areSets_ev (l : List Int) (hl : l.length ≤ 17592186044416) : Ev (fun k => impl_areSets.f k l) (l.all isAnyB) := by
  have h := down (P := fun i => Ev (fun k => impl_areSets.l0 k l (l.length : Int) (i : Int)) ((l.drop i).all isAnyB)) l.length
    (by
      apply Ev.step
      · intro k
        simp only [impl_areSets.l0, isAny_eq, Option.bind_some]
        rw [if_neg (by omega)]
      · rw [drop_end]; exact Ev.now _)
    (by
      intro i hi ih
      apply Ev.step
      · intro k
        simp only [impl_areSets.l0, isAny_eq, Option.bind_some]
        rw [if_pos (by omega), if_pos (by omega), if_pos (by omega), rd_getElem l i hi, w_succ hi hl]
      · rw [drop_cons l i hi, List.all_cons]
        by_cases hx : isAnyB l[i] = true
        · refine Ev.ifp hx ?_
          rw [hx, Bool.true_and]; exact ih
        · refine Ev.ifn hx ?_
          rw [Bool.eq_false_iff.2 hx, Bool.false_and]; exact Ev.now _)
  exact h
theorem sortC_ints {X : List Int} {D : List Nat} (hD : D.Pairwise (· < ·)) (h : ∀ a, a ∈ X ↔ a ∈ ints D) : sortC X = ints D :=
  pair_unique (sortC_spec X).1 (ints_pair hD) (fun a => ((sortC_spec X).2 a).trans (h a))
theorem implSort_eq {F : List Nat} (hp : F.Pairwise (· < ·)) (hl : F.length < 17592186044416) : impl_SortSets.f (ints F) = some (ints F) := by
  unfold impl_SortSets.f
  rw [if_pos (by rw [ints_len]; exact hl), sortC_ints hp (fun a => Iff.rfl)]
theorem sortO_intsB {X : List Int} {D : List Nat} (hD : D.Pairwise (· < ·)) (h : ∀ a, a ∈ X ↔ a ∈ ints D) : sortO [] X = ints D :=
  pair_unique (sortO_pair X [] List.Pairwise.nil) (ints_pair hD) (fun a => by rw [sortO_mem, h]; simp)
end Go.Proofs.Ytagncnjllpebjaa.Q

namespace Go.Proofs.Ytagncnjllpebjaa.Q
open Go Go.RowKit Go.Proofs.Ytagncnjllpebjaa.A Go.Proofs.YtagncnjllpebjaaW.PrintWords Go.Proofs.YtagncnjllpebjaaW.PrintLast Go.Proofs.YtagncnjllpebjaaW.PrintMore Go.Proofs.Ytagncnjllpebjaa.Z
set_option linter.unusedVariables false
set_option linter.unusedSimpArgs false

def okMaximalSets (t s : Nat) : Bool := decide (t = s) || !decide (subN s t)
theorem okMaximalSets_all (F : List Nat) (s : Nat) : F.all (fun t => okMaximalSets t s) = !F.any (fun t => decide (t ≠ s) && decide (subN s t)) := by
  induction F with
  | nil => rfl
  | cons x F ih =>
    rw [List.all_cons, List.any_cons, ih, Bool.not_or]
    congr 1
    unfold okMaximalSets
    by_cases h : x = s
    · simp [h]
    · simp [h]
theorem specMaximalSets_ev {F : List Nat} (hF : ∀ x ∈ F, x < 256) (hp : F.Pairwise (· < ·)) (hl : F.length ≤ 65536) : Ev (fun k => spec_MaximalSets.f k (ints F)) (ints (topN F)) := by
  have hset : setsB 8 (ints F) = true := by
    unfold setsB
    rw [List.all_eq_true]
    intro x hx
    obtain ⟨t, ht, rfl⟩ := List.mem_map.1 hx
    rw [isSet8, isAnyB_nat]
    exact decide_eq_true (hF t ht)
  have hd := down (P := fun i => ∀ acc : List Nat, acc.length ≤ i → Ev (fun k => spec_MaximalSets.l0 k (ints F) (ints acc) (i : Int)) (sortO [] (ints (acc ++ (F.drop i).filter (fun s => F.all (fun t => okMaximalSets t s)))))) F.length
    (by
      intro acc ha
      apply Ev.step
      · intro k
        rw [spec_MaximalSets.l0, if_neg (by rw [ints_len]; omega)]
      · rw [drop_end, List.filter_nil, List.append_nil]
        exact Ev.bind (specSort_ev _ (by rw [ints_len]; omega)) (Ev.now _))
    (by
      intro i hi ih acc ha
      rw [drop_cons F i hi, List.filter_cons]
      have hs := hF _ (List.getElem_mem hi)
      have h1 := down (P := fun j => ∀ fine : Bool, Ev (fun k => spec_MaximalSets.l1 k (ints F) (ints acc) (i : Int) fine (j : Int)) (sortO [] (ints ((if (fine && (F.drop j).all (fun t => okMaximalSets t F[i])) = true then acc ++ [F[i]] else acc) ++ (F.drop (i + 1)).filter (fun s => F.all (fun t => okMaximalSets t s)))))) F.length
        (by
          intro fine
          apply Ev.step
          · intro k
            rw [spec_MaximalSets.l1, if_neg (by rw [ints_len]; omega)]
          · rw [drop_end]
            cases fine with
            | true =>
              refine Ev.ifp rfl (Ev.ifp (by omega) (Ev.ifp (by rw [ints_len]; omega) (Ev.ifp (by rw [ints_len]; omega) ?_)))
              rw [ints_rd F i hi, w_succ hi (by omega), if_pos (by rfl)]
              have := ih (acc ++ [F[i]]) (by rw [List.length_append, List.length_singleton]; omega)
              rw [show ints acc ++ [(F[i] : Int)] = ints (acc ++ [F[i]]) from by simp [ints]]
              exact this
            | false =>
              refine Ev.ifn (by decide) ?_
              rw [w_succ hi (by omega), if_neg (by simp)]
              exact ih acc (by omega))
        (by
          intro j hj ihj fine
          have ht := hF _ (List.getElem_mem hj)
          apply Ev.step
          · intro k
            rw [spec_MaximalSets.l1, if_pos (by rw [ints_len]; omega)]
          · rw [drop_cons F j hj, List.all_cons]
            cases fine with
            | true =>
              refine Ev.ifp rfl (Ev.ifp (by omega) (Ev.ifp (by omega) (Ev.ifp (by rw [ints_len]; omega) ?_)))
              rw [ints_rd F i hi, ints_rd F j hj, w_succ hj (by omega)]
              by_cases he : F[j] = F[i]
              · refine Ev.ifp (by rw [he]) ?_
                have := ihj true
                rw [show okMaximalSets F[j] F[i] = true from by unfold okMaximalSets; simp [he], Bool.true_and]
                exact this
              · refine Ev.ifn (fun h => he (by omega)) ?_
                have := ihj (okMaximalSets F[j] F[i])
                rw [Bool.true_and]
                have e : ((Go.bits .and .i64 (F[j] : Int) (F[i] : Int)) != (F[i] : Int)) = okMaximalSets F[j] F[i] := by
                  rw [and_nat (lt256_63 ht) (lt256_63 hs), Bool.eq_iff_iff, bne_iff_ne]
                  unfold okMaximalSets
                  rw [show decide (F[j] = F[i]) = false from decide_eq_false he, Bool.false_or, Bool.not_eq_true', decide_eq_false_iff_not]
                  unfold subN
                  rw [Nat.and_comm]
                  constructor
                  · intro h1 h2; exact h1 (by rw [h2])
                  · intro h1 h2; exact h1 (by omega)
                rw [e]
                exact this
            | false =>
              refine Ev.ifn (by decide) ?_
              have := ihj false
              rw [w_succ hj (by omega)]
              simpa using this)
      have h0 := h1 true
      rw [List.drop_zero, Bool.true_and] at h0
      apply Ev.step
      · intro k
        rw [spec_MaximalSets.l0, if_pos (by rw [ints_len]; omega)]
      · by_cases hg : F.all (fun t => okMaximalSets t F[i]) = true
        · rw [if_pos hg]
          rw [if_pos hg, List.append_assoc, List.singleton_append] at h0
          exact h0
        · rw [if_neg hg]
          rw [if_neg hg] at h0
          exact h0)
  have h0 := hd [] (Nat.zero_le _)
  rw [List.drop_zero, List.nil_append] at h0
  have e : topN F = F.filter (fun s => F.all (fun t => okMaximalSets t s)) := by
    unfold topN
    apply List.filter_congr
    intro s _
    rw [okMaximalSets_all]
  rw [← e, sortO_intsB (D := topN F) (List.Pairwise.filter _ hp) (fun a => Iff.rfl)] at h0
  unfold spec_MaximalSets.f
  simp only [Option.bind_some]
  refine Ev.bind (specSets_ev 8 (ints F) (by rw [ints_len]; omega)) ?_
  rw [hset]
  exact Ev.ifp rfl h0

end Go.Proofs.Ytagncnjllpebjaa.Q

namespace Go.Proofs.Ytagncnjllpebjaa.Q
open Go Go.RowKit Go.Proofs.Ytagncnjllpebjaa.A Go.Proofs.YtagncnjllpebjaaW.PrintWords Go.Proofs.YtagncnjllpebjaaW.PrintLast Go.Proofs.YtagncnjllpebjaaW.PrintMore Go.Proofs.Ytagncnjllpebjaa.Z
set_option linter.unusedVariables false
set_option linter.unusedSimpArgs false

theorem implMaximalSets_ev {F : List Nat} (hF : ∀ x ∈ F, x < 256) (hp : F.Pairwise (· < ·)) (hl : F.length ≤ 65536) : Ev (fun k => impl_MaximalSets.f k (ints F)) (ints (topN F)) := by
  unfold impl_MaximalSets.f
  have hset : (ints F).all isAnyB = true := by
    rw [List.all_eq_true]
    intro x hx
    obtain ⟨t, ht, rfl⟩ := List.mem_map.1 hx
    rw [isAnyB_nat]
    exact decide_eq_true (hF t ht)
  refine Ev.bind (areSets_ev (ints F) (by rw [ints_len]; omega)) ?_
  rw [hset]
  refine Ev.ifp rfl ?_
  refine Ev.cbind (implSort_eq hp (by omega)) ?_
  have e : (ints F).filter (fun x : Int => !F.any (fun t => decide (t ≠ x.toNat) && decide (subN x.toNat t))) = ints (topN F) := by
    unfold ints topN
    rw [List.filter_map]
    congr 1
  rw [← e]
  refine Ev_filterO (g := fun _ s => impl_MaximalSets.p (ints F) s) (p := fun x : Int => !F.any (fun t => decide (t ≠ x.toNat) && decide (subN x.toNat t))) ?_
  intro x hx
  obtain ⟨s, hs, rfl⟩ := List.mem_map.1 hx
  unfold impl_MaximalSets.p
  have h := Ev_anyO (g := fun _ t => impl_MaximalSets.c (s : Int) t) (p := fun y : Int => decide (y.toNat ≠ s) && decide (subN s y.toNat)) (l := ints F) (fun y hy => by
    obtain ⟨t, ht, rfl⟩ := List.mem_map.1 hy
    unfold impl_MaximalSets.c
    by_cases he : t = s
    · rw [if_pos (by rw [he])]
      have : (decide ((t : Int).toNat ≠ s) && decide (subN s (t : Int).toNat)) = false := by simp [he]
      rw [this]; exact Ev.now _
    · rw [if_neg (by omega), subset_eq, isAnyB_nat, isAnyB_nat, decide_eq_true (hF t ht), decide_eq_true (hF s hs), Int.toNat_natCast, Int.toNat_natCast]
      have : decide (t ≠ s) = true := decide_eq_true he
      rw [this]
      exact Ev.now _)
  have e2 : (ints F).any (fun y : Int => decide (y.toNat ≠ s) && decide (subN s y.toNat)) = F.any (fun t => decide (t ≠ (s : Int).toNat) && decide (subN (s : Int).toNat t)) := by
    unfold ints
    rw [List.any_map]
    rfl
  rw [e2] at h
  exact Ev.bind h (Ev.now _)

end Go.Proofs.Ytagncnjllpebjaa.Q

namespace Go.Proofs.Ytagncnjllpebjaa.Q
open Go Go.RowKit Go.Proofs.Ytagncnjllpebjaa.A Go.Proofs.YtagncnjllpebjaaW.PrintWords Go.Proofs.YtagncnjllpebjaaW.PrintLast Go.Proofs.YtagncnjllpebjaaW.PrintMore Go.Proofs.Ytagncnjllpebjaa.Z
set_option linter.unusedVariables false
set_option linter.unusedSimpArgs false

theorem pow_wrap {e : Nat} (he : e < 8) : IntKind.i64.wrap (2 ^ e) = ((2 ^ e : Nat) : Int) := by
  have h2 : (2 ^ e : Nat) < 9223372036854775808 := by
    have := Nat.pow_lt_pow_right (a := 2) (by decide) (show e < 63 by omega)
    simpa using this
  have h3 : (2 : Int) ^ e = ((2 ^ e : Nat) : Int) := by simp
  rw [h3]
  exact i64_wrap_nat h2
theorem implC_ev (l : List Int) (hl : l.length ≤ 17592186044416) (a e f : Nat) (ha : a < 256) (he : e < 8) (hf : f < 8) : Ev (fun k => impl_FirstFailure.c k l (a : Int) (e : Int) (f : Int)) (l.contains ((dif a (2 ^ e) ||| 2 ^ f : Nat) : Int)) := by
  unfold impl_FirstFailure.c impl_HasSet.f
  refine Ev.ifp (by omega) (Ev.ifp (by omega) ?_)
  have hp : ∀ x < 8, 2 ^ x < 2 ^ 63 := fun x hx => Nat.pow_lt_pow_right (by decide) (by omega)
  rw [Int.toNat_natCast, Int.toNat_natCast, pow_wrap he, pow_wrap hf, andNot_nat (lt256_63 ha) (hp e he), or_nat (lt256_63 (dif_lt ha)) (hp f hf)]
  exact Ev.bind (contains_ev l _ hl) (Ev.now _)
theorem els_lt {s e : Nat} (h : e ∈ els s) : e < 8 := (mem_els.1 h).1
theorem any_map (p : Int → Bool) (L : List Nat) : (L.map (fun x : Nat => (x : Int))).any p = L.any (fun x => p (x : Int)) := by
  rw [List.any_map]; rfl
theorem implFail_l2 (l : List Int) (hl : l.length ≤ 17592186044416) (a b : Nat) (ha : a < 256) (hb : b < 256) : ∀ es : List Nat, (∀ e ∈ es, e < 8) → Ev (fun k => impl_FirstFailure.l2 k l (a : Int) (b : Int) (es.map (fun x : Nat => (x : Int)))) ((failE l a b es).map (fun x : Nat => (x : Int))) := by
  intro es
  induction es with
  | nil => intro _; exact Ev.now _
  | cons e es ih =>
    intro hm
    have he := hm e (List.mem_cons_self ..)
    simp only [List.map_cons, impl_FirstFailure.l2]
    rw [andNot_nat (lt256_63 hb) (lt256_63 ha)]
    refine Ev.bind (implElements_ev _) ?_
    rw [elsB_nat (dif_lt hb)]
    refine Ev.bind (a := hasEx l a b e) ?_ ?_
    · have h := Ev_anyO (g := fun k f => impl_FirstFailure.c k l (a : Int) (e : Int) f) (p := fun f => l.contains ((dif a (2 ^ e) ||| 2 ^ f.toNat : Nat) : Int)) (l := (els (dif b a)).map (fun x : Nat => (x : Int)))
        (fun x hx => by
          obtain ⟨f, hf, rfl⟩ := List.mem_map.1 hx
          have := implC_ev l hl a e f ha he (els_lt hf)
          rw [Int.toNat_natCast]
          exact this)
      rw [any_map] at h
      simp only [Int.toNat_natCast] at h
      exact h
    · simp only [failE]
      by_cases hx : hasEx l a b e = true
      · refine Ev.ifp hx ?_
        rw [if_pos hx]
        exact ih (fun e' he' => hm e' (List.mem_cons_of_mem _ he'))
      · refine Ev.ifn hx ?_
        rw [if_neg hx]
        exact Ev.now _
theorem implFail_l1 (l : List Int) (hl : l.length ≤ 17592186044416) (a : Nat) (ha : a < 256) : ∀ bs : List Nat, (∀ b ∈ bs, b < 256) → Ev (fun k => impl_FirstFailure.l1 k l (a : Int) (bs.map (fun x : Nat => (x : Int)))) ((failB l a bs).map (fun x : Nat × Nat => ((x.1 : Int), (x.2 : Int)))) := by
  intro bs
  induction bs with
  | nil => intro _; exact Ev.now _
  | cons b bs ih =>
    intro hm
    have hb := hm b (List.mem_cons_self ..)
    simp only [List.map_cons, impl_FirstFailure.l1]
    rw [andNot_nat (lt256_63 ha) (lt256_63 hb)]
    refine Ev.bind (implElements_ev _) ?_
    rw [elsB_nat (dif_lt ha)]
    refine Ev.bind (implFail_l2 l hl a b ha hb _ (fun e he => els_lt he)) ?_
    simp only [failB]
    cases failE l a b (els (dif a b)) with
    | none => exact ih (fun b' hb' => hm b' (List.mem_cons_of_mem _ hb'))
    | some e => exact Ev.now _
theorem implFail_l0 (l : List Int) (L : List Nat) (hlL : l = L.map (fun x : Nat => (x : Int))) (hl : l.length ≤ 17592186044416) (hL : ∀ b ∈ L, b < 256) : ∀ la : List Nat, (∀ a ∈ la, a < 256) → Ev (fun k => impl_FirstFailure.l0 k l (la.map (fun x : Nat => (x : Int)))) ((failA l L la).map (fun x : Nat × Nat × Nat => ((x.1 : Int), (x.2.1 : Int), (x.2.2 : Int)))) := by
  intro la
  induction la with
  | nil => intro _; exact Ev.now _
  | cons a la ih =>
    intro hm
    have ha := hm a (List.mem_cons_self ..)
    simp only [List.map_cons, impl_FirstFailure.l0]
    refine Ev.bind (a := (failB l a L).map (fun x : Nat × Nat => ((x.1 : Int), (x.2 : Int)))) (by
      have := implFail_l1 l hl a ha L hL
      rw [← hlL] at this
      exact this) ?_
    simp only [failA]
    cases failB l a L with
    | none => exact ih (fun a' ha' => hm a' (List.mem_cons_of_mem _ ha'))
    | some x => exact Ev.now _
theorem implFail_ev (n : Int) (l : List Int) (hl : l.length ≤ 17592186044416) : Ev (fun k => impl_FirstFailure.f k n l) (failT n l) := by
  unfold impl_FirstFailure.f failT
  refine Ev.bind (implFam_ev n l hl) ?_
  by_cases hf : famB n l = true
  · refine Ev.ifp hf ?_
    rw [if_pos hf]
    obtain ⟨m, L, rfl, hm, hlL, hL, _⟩ := famB_nat hf
    have hmap : l.map Int.toNat = L := by rw [hlL, toNat_map]
    have h256 : ∀ b ∈ L, b < 256 := fun b hb => Nat.lt_of_lt_of_le (hL b hb) (pow_le_256 hm)
    have h := implFail_l0 l L hlL hl h256 L h256
    rw [← hlL] at h
    refine Ev.bind h ?_
    rw [hmap]
    cases failA l L L with
    | none => exact Ev.now _
    | some x => exact Ev.now _
  · refine Ev.ifn hf ?_
    rw [if_neg hf]
    exact Ev.now _

end Go.Proofs.Ytagncnjllpebjaa.Q

namespace Go.Proofs.Ytagncnjllpebjaa.Q
open Go Go.RowKit Go.Proofs.Ytagncnjllpebjaa.A Go.Proofs.YtagncnjllpebjaaW.PrintWords Go.Proofs.YtagncnjllpebjaaW.PrintLast Go.Proofs.YtagncnjllpebjaaW.PrintMore Go.Proofs.Ytagncnjllpebjaa.Z
set_option linter.unusedVariables false
set_option linter.unusedSimpArgs false

theorem implMat_ev (n : Int) (l : List Int) (hl : l.length ≤ 17592186044416) : Ev (fun k => impl_IsMatroid.f k n l) (matB n l) := by
  unfold impl_IsMatroid.f matB
  refine Ev.bind (implFail_ev n l hl) (Ev.bind (implFam_ev n l hl) ?_)
  by_cases hf : famB n l = true
  · refine Ev.ifp hf ?_
    rw [hf, Bool.true_and]
    by_cases h0 : (l.length : Int) > 0
    · refine Ev.ifp h0 ?_
      rw [show decide ((l.length : Int) > 0) = true from by simpa using h0, Bool.true_and]
      exact Ev.now _
    · refine Ev.ifn h0 ?_
      rw [show decide ((l.length : Int) > 0) = false from by simpa using h0, Bool.false_and]
      exact Ev.now _
  · refine Ev.ifn hf ?_
    rw [Bool.eq_false_iff.2 hf, Bool.false_and]
    exact Ev.now _

end Go.Proofs.Ytagncnjllpebjaa.Q

namespace Go.Proofs.Ytagncnjllpebjaa.Q
open Go Go.RowKit Go.Proofs.Ytagncnjllpebjaa.A Go.Proofs.YtagncnjllpebjaaW.PrintWords Go.Proofs.YtagncnjllpebjaaW.PrintLast Go.Proofs.YtagncnjllpebjaaW.PrintMore Go.Proofs.Ytagncnjllpebjaa.Z
set_option linter.unusedVariables false
set_option linter.unusedSimpArgs false

variable {m : Nat} {I : Nat → Prop} {p : Nat → Bool}
/-- The size of the greatest of the sets at which p answers yes. -/
def rkI (m : Nat) (p : Nat → Bool) : Nat := maxN 0 (((List.range (2 ^ m)).filter p).map pc)
/-- The greatest of them. -/
def bsI (m : Nat) (p : Nat → Bool) : List Nat := (List.range (2 ^ m)).filter (fun s => p s && decide (pc s = rkI m p))
theorem rkI_facts (hI : Ind m I) (hp : ∀ s, p s = true ↔ I s) : (∃ b, I b ∧ pc b = rkI m p) ∧ (∀ s, I s → pc s ≤ rkI m p) := by
  obtain ⟨r, ⟨b, hb, hr⟩, hmax⟩ := hI.max
  have hle : ∀ s, I s → pc s ≤ rkI m p := fun s hs => maxN_mem _ 0 _ (List.mem_map.2 ⟨s, List.mem_filter.2 ⟨List.mem_range.2 (hI.sets s hs), (hp s).2 hs⟩, rfl⟩)
  have hge : rkI m p ≤ r := by
    apply maxN_le (Nat.zero_le _)
    intro x hx
    obtain ⟨s, hs, rfl⟩ := List.mem_map.1 hx
    exact hmax s ((hp s).1 (List.mem_filter.1 hs).2)
  have := hle b hb
  exact ⟨⟨b, hb, by omega⟩, hle⟩
theorem fil_len (hm : m ≤ 8) (q : Nat → Bool) : ((List.range (2 ^ m)).filter q).length ≤ 256 := by
  have h1 := List.length_filter_le q (List.range (2 ^ m))
  rw [List.length_range] at h1
  exact Nat.le_trans h1 (pow_le_256 hm)
theorem bsI_len (hm : m ≤ 8) (p : Nat → Bool) : (bsI m p).length ≤ 256 := fil_len hm _
theorem fil_lt (hm : m ≤ 8) (q : Nat → Bool) : ∀ x ∈ (List.range (2 ^ m)).filter q, x < 256 := fun x hx => by
  have := List.mem_range.1 (List.mem_filter.1 hx).1
  have := pow_le_256 hm
  omega
theorem bsI_matB (hI : Ind m I) (hp : ∀ s, p s = true ↔ I s) : matB (m : Int) (ints (bsI m p)) = true := base_matB hI hp (rkI_facts hI hp).1
theorem implFromInd_ev (hI : Ind m I) (hp : ∀ s, p s = true ↔ I s) : Ev (fun k => impl_fromIndependent.f k (m : Int) (ints ((List.range (2 ^ m)).filter p))) ((m : Int), ints (bsI m p), true) := by
  obtain ⟨hex, hmax⟩ := rkI_facts hI hp
  have htop := top_ind hI hp hex hmax
  have hmat := bsI_matB hI hp
  unfold impl_fromIndependent.f
  have hmx := implMaximalSets_ev (F := (List.range (2 ^ m)).filter p) (fil_lt hI.size p) (List.Pairwise.filter _ List.pairwise_lt_range) (Nat.le_trans (fil_len hI.size p) (by decide))
  rw [htop] at hmx
  have hb : (ints (bsI m p)).length ≤ 17592186044416 := by
    rw [ints_len]
    exact Nat.le_trans (bsI_len hI.size p) (by decide)
  exact Ev.bind hmx (Ev.bind (implMat_ev _ _ hb) (Ev.ifp hmat (Ev.now _)))
theorem specMaxInd_ev (hI : Ind m I) (hp : ∀ s, p s = true ↔ I s) : Ev (fun k => spec_MaximalSets.f k (ints ((List.range (2 ^ m)).filter p))) (ints (bsI m p)) := by
  obtain ⟨hex, hmax⟩ := rkI_facts hI hp
  have htop := top_ind hI hp hex hmax
  have hmx := specMaximalSets_ev (F := (List.range (2 ^ m)).filter p) (fil_lt hI.size p) (List.Pairwise.filter _ List.pairwise_lt_range) (Nat.le_trans (fil_len hI.size p) (by decide))
  rw [htop] at hmx
  exact hmx

end Go.Proofs.Ytagncnjllpebjaa.Q

namespace Go.Proofs.Ytagncnjllpebjaa.Q
open Go Go.RowKit Go.Proofs.YtagncnjllpebjaaW.PrintWords Go.Proofs.YtagncnjllpebjaaW.PrintLast Go.Proofs.YtagncnjllpebjaaW.PrintMore Go.Proofs.Ytagncnjllpebjaa.Z
set_option linter.unusedVariables false
set_option linter.unusedSimpArgs false

theorem fromTo_full {m : Nat} : fromTo 0 ((fullN m : Nat) : Int) = ints (List.range (2 ^ m)) := by
  have := Nat.two_pow_pos m
  unfold fromTo ints fullN
  rw [List.range_eq_range', show (((2 ^ m - 1 : Nat) : Int) + 1).toNat - (0 : Int).toNat = 2 ^ m from by omega]
  rfl
/-- What the program's setsOf computes. -/
theorem setsOf_ev {m : Nat} (hm : m ≤ 8) {g : Nat → Int → Option Bool} {p : Nat → Bool} (h : ∀ t : Nat, t < 2 ^ m → Ev (fun k => g k (t : Int)) (p t)) : Ev (fun k => setsO (g k) ((fullN m : Nat) : Int)) (ints ((List.range (2 ^ m)).filter p)) := by
  unfold setsO
  rw [fromTo_full]
  have hf : (ints (List.range (2 ^ m))).filter (fun x : Int => p x.toNat) = ints ((List.range (2 ^ m)).filter p) := by
    unfold ints
    rw [List.filter_map]
    congr 1
  rw [← hf]
  refine Ev_filterO (p := fun x : Int => p x.toNat) ?_
  intro x hx
  obtain ⟨t, ht, rfl⟩ := List.mem_map.1 hx
  rw [Int.toNat_natCast]
  exact h t (List.mem_range.1 ht)
theorem full_small {m : Nat} (hm : m ≤ 8) : 0 ≤ ((fullN m : Nat) : Int) ∧ ((fullN m : Nat) : Int) ≤ 1000 := by
  have := (full_lt hm).2
  omega

end Go.Proofs.Ytagncnjllpebjaa.Q

namespace Go.Proofs.Ytagncnjllpebjaa.Q
open Go Go.RowKit Go.Proofs.YtagncnjllpebjaaW.PrintWords Go.Proofs.YtagncnjllpebjaaW.PrintLast Go.Proofs.YtagncnjllpebjaaW.PrintMore Go.Proofs.Ytagncnjllpebjaa.Z
set_option linter.unusedVariables false
set_option linter.unusedSimpArgs false

def TP : List Nat → Nat → Prop
  | [], s => s = 0
  | x :: S, s => Uni (TP S) (One x) s
theorem nil_ind {m : Nat} (hm : m ≤ 8) : Ind m (fun s => s = 0) := by
  refine ⟨hm, ?_, rfl, ?_, ?_⟩
  · rintro s rfl; exact Nat.two_pow_pos _
  · rintro s t rfl h; have := subN_le h; omega
  · rintro a b rfl rfl h; omega
theorem Ind.trans {m : Nat} (hm : m ≤ 8) : ∀ S : List Nat, (∀ x ∈ S, x < 2 ^ m) → Ind m (TP S) := by
  intro S
  induction S with
  | nil => intro _; exact nil_ind hm
  | cons x S ih => intro h; exact (ih (fun y hy => h y (List.mem_cons_of_mem _ hy))).union (Ind.one hm (h x (List.mem_cons_self ..)))
theorem One.zero {s : Nat} : One 0 s ↔ s = 0 := by
  constructor
  · rintro (h | ⟨e, _, h, _⟩)
    · exact h
    · rw [Nat.zero_testBit] at h; cases h
  · intro h; exact .inl h
end Go.Proofs.Ytagncnjllpebjaa.Q

namespace Go.Proofs.Ytagncnjllpebjaa.Q
open Go Go.RowKit Go.Proofs.Ytagncnjllpebjaa.A Go.Proofs.YtagncnjllpebjaaW.PrintWords Go.Proofs.YtagncnjllpebjaaW.PrintLast Go.Proofs.YtagncnjllpebjaaW.PrintMore Go.Proofs.Ytagncnjllpebjaa.Z
set_option linter.unusedVariables false
set_option linter.unusedSimpArgs false

theorem areListsB_nat {n : Int} {l : List Int} (h : areListsB n l = true) : ∃ (m : Nat) (S : List Nat), n = m ∧ m ≤ 8 ∧ l = ints S ∧ S.length ≤ 6 ∧ (∀ x ∈ S, x < 2 ^ m) := by
  have h2 := h
  simp only [areListsB, Bool.and_eq_true, decide_eq_true_eq] at h2
  obtain ⟨⟨h0, h8⟩, h6, hs⟩ := h2
  obtain ⟨m, rfl⟩ := Int.eq_ofNat_of_zero_le h0
  have hall : ∀ x ∈ l, ∃ t : Nat, x = t ∧ t < 2 ^ m := fun x hx => by
    have := List.all_eq_true.1 hs x hx
    obtain ⟨m', t, hm', rfl, _, ht, _⟩ := isSetB_lt this
    have : m = m' := by omega
    subst this
    exact ⟨t, rfl, ht⟩
  refine ⟨m, l.map Int.toNat, rfl, by omega, ?_, by rw [List.length_map]; exact h6, ?_⟩
  · unfold ints
    rw [List.map_map]
    conv => lhs; rw [← List.map_id l]
    apply List.map_congr_left
    intro x hx
    obtain ⟨t, rfl, _⟩ := hall x hx
    rfl
  · intro x hx
    obtain ⟨y, hy, rfl⟩ := List.mem_map.1 hx
    obtain ⟨t, rfl, ht⟩ := hall y hy
    rw [Int.toNat_natCast]; exact ht
end Go.Proofs.Ytagncnjllpebjaa.Q

namespace Go.Proofs.Ytagncnjllpebjaa.Q
open Go Go.RowKit Go.Proofs.Ytagncnjllpebjaa.A Go.Proofs.YtagncnjllpebjaaW.PrintWords Go.Proofs.YtagncnjllpebjaaW.PrintLast Go.Proofs.YtagncnjllpebjaaW.PrintMore Go.Proofs.Ytagncnjllpebjaa.Z
set_option linter.unusedVariables false
set_option linter.unusedSimpArgs false

def okJ (x : Nat) (pre : List Nat) : Bool := pre.all (fun t => decide (t &&& x = 0))
/-- Is no bound negative, and is each set apart from those before it? -/
def okR : List Nat → List Nat → List Int → Bool
  | _, [], _ => true
  | _, _ :: _, [] => true
  | pre, x :: xs, y :: ys => (okJ x pre && decide (0 ≤ y)) && okR (pre ++ [x]) xs ys
theorem okR_facts : ∀ (S pre : List Nat) (Y : List Int), Y.length = S.length → okR pre S Y = true → (∀ y ∈ Y, 0 ≤ y) ∧ S.Pairwise (fun a b => a &&& b = 0) ∧ ∀ t ∈ pre, ∀ x ∈ S, t &&& x = 0 := by
  intro S
  induction S with
  | nil => intro pre Y hl _; rw [List.length_eq_zero_iff.1 hl]; simp
  | cons x S ih =>
    intro pre Y hl h
    cases Y with
    | nil => simp at hl
    | cons y Y =>
      simp only [okR, Bool.and_eq_true, decide_eq_true_eq] at h
      obtain ⟨⟨h1, h2⟩, h3⟩ := h
      obtain ⟨k1, k2, k3⟩ := ih (pre ++ [x]) Y (by simpa using hl) h3
      refine ⟨fun z hz => ?_, ?_, fun t ht z hz => ?_⟩
      · rcases List.mem_cons.1 hz with rfl | hz
        · exact h2
        · exact k1 z hz
      · rw [List.pairwise_cons]
        exact ⟨fun z hz => k3 x (by simp) z hz, k2⟩
      · rcases List.mem_cons.1 hz with rfl | hz
        · have := List.all_eq_true.1 h1 t ht
          exact of_decide_eq_true this
        · exact k3 t (List.mem_append_left _ ht) z hz
theorem and0_eq {t x : Nat} (ht : t < 256) (hx : x < 256) : (Go.bits .and .i64 (t : Int) (x : Int) = 0) ↔ t &&& x = 0 := by
  rw [and_nat (lt256_63 ht) (lt256_63 hx)]
  omega
theorem partJ_eq {x : Nat} (hx : x < 256) : ∀ pre : List Nat, (∀ t ∈ pre, t < 256) → partJ (x : Int) (ints pre) = okJ x pre := by
  intro pre
  induction pre with
  | nil => intro _; rfl
  | cons t pre ih =>
    intro h
    have ih := ih (fun z hz => h z (List.mem_cons_of_mem _ hz))
    have e := and0_eq (h t (List.mem_cons_self ..)) hx
    show partJ (x : Int) ((t : Int) :: ints pre) = _
    unfold okJ at ih ⊢
    simp only [partJ, List.all_cons]
    by_cases hc : t &&& x = 0
    · rw [if_neg (fun hn => hn (e.2 hc)), ih, decide_eq_true hc, Bool.true_and]
    · rw [if_pos (fun hn => hc (e.1 hn)), decide_eq_false hc, Bool.false_and]
theorem partK_eq : ∀ (S pre : List Nat) (Y : List Int), Y.length = S.length → (∀ t ∈ pre, t < 256) → (∀ t ∈ S, t < 256) → partK (ints pre) (ints S) Y = some (okR pre S Y) := by
  intro S
  induction S with
  | nil => intro pre Y hl _ _; rfl
  | cons x S ih =>
    intro pre Y hl hp hS
    cases Y with
    | nil => simp at hl
    | cons y Y =>
      have hx := hS x (List.mem_cons_self ..)
      have ih := ih (pre ++ [x]) Y (by simpa using hl) (fun t ht => by
        rcases List.mem_append.1 ht with ht | ht
        · exact hp t ht
        · rw [List.mem_singleton.1 ht]; exact hx) (fun t ht => hS t (List.mem_cons_of_mem _ ht))
      show partK (ints pre) ((x : Int) :: ints S) (y :: Y) = _
      simp only [partK, okR]
      rw [partJ_eq hx pre hp]
      by_cases hy : y < 0
      · rw [if_pos hy, decide_eq_false (by omega), Bool.and_false, Bool.false_and]
      · rw [if_neg hy, decide_eq_true (show (0 : Int) ≤ y by omega), Bool.and_true]
        by_cases hj : okJ x pre = true
        · rw [if_pos hj, hj, Bool.true_and, show ints pre ++ [(x : Int)] = ints (pre ++ [x]) from by simp [ints]]
          exact ih
        · rw [if_neg hj, Bool.eq_false_iff.2 hj, Bool.false_and]
/-- The sets with what is allowed of each. -/
def prL (S : List Nat) (Y : List Int) : List (Nat × Nat) := S.zip (Y.map Int.toNat)
def fewB (m : Nat) (ps : List (Nat × Nat)) (s : Nat) : Bool := decide (s < 2 ^ m) && ps.all (fun p => decide (pc (p.1 &&& s) ≤ p.2))
theorem fewB_iff (m : Nat) (ps : List (Nat × Nat)) (s : Nat) : fewB m ps s = true ↔ Few m ps s := by
  unfold fewB Few
  rw [Bool.and_eq_true, decide_eq_true_eq, List.all_eq_true]
  simp only [decide_eq_true_eq]
theorem prL_pair {S : List Nat} {Y : List Int} (hl : Y.length = S.length) (h : S.Pairwise (fun a b => a &&& b = 0)) : (prL S Y).Pairwise (fun p q => p.1 &&& q.1 = 0) := by
  have e : (prL S Y).map Prod.fst = S := by unfold prL; rw [List.map_fst_zip]; rw [List.length_map]; omega
  rw [← e, List.pairwise_map] at h
  exact h
theorem partC_eq {s : Nat} (hs : s < 256) : ∀ (S : List Nat) (Y : List Int), Y.length = S.length → (∀ t ∈ S, t < 256) → (∀ y ∈ Y, 0 ≤ y) → partC (ints S) Y (s : Int) = some ((prL S Y).all (fun p => decide (pc (p.1 &&& s) ≤ p.2))) := by
  intro S
  induction S with
  | nil => intro Y hl _ _; rfl
  | cons x S ih =>
    intro Y hl hS hY
    cases Y with
    | nil => simp at hl
    | cons y Y =>
      have hx := hS x (List.mem_cons_self ..)
      have hy := hY y (List.mem_cons_self ..)
      have ih := ih Y (by simpa using hl) (fun t ht => hS t (List.mem_cons_of_mem _ ht)) (fun z hz => hY z (List.mem_cons_of_mem _ hz))
      have hlt : s &&& x < 256 := and_lt hs
      show partC ((x : Int) :: ints S) (y :: Y) (s : Int) = _
      have e : prL (x :: S) (y :: Y) = (x, y.toNat) :: prL S Y := rfl
      simp only [partC]
      rw [and_nat (lt256_63 hs) (lt256_63 hx), implCount_eq _ hlt, Option.bind_some, e, List.all_cons, Nat.and_comm x s]
      by_cases hc : ((pc (s &&& x) : Nat) : Int) > y
      · rw [if_pos hc, decide_eq_false (by omega), Bool.false_and]
      · rw [if_neg hc, ih, decide_eq_true (show pc (s &&& x) ≤ y.toNat by omega), Bool.true_and]
theorem fits_ev {s : Nat} (hs : s < 256) {S : List Nat} {Y : List Int} (hl : Y.length = S.length) (hn : S.length ≤ 6) (hS : ∀ t ∈ S, t < 256) (hY : ∀ y ∈ Y, 0 ≤ y) : Ev (fun k => spec_l16Fits.f k (ints S) Y (s : Int)) ((prL S Y).all (fun p => decide (pc (p.1 &&& s) ≤ p.2))) := by
  unfold spec_l16Fits.f
  have hd := down (P := fun i => Ev (fun k => spec_l16Fits.l0 k (ints S) Y (s : Int) (i : Int)) ((prL (S.drop i) (Y.drop i)).all (fun p => decide (pc (p.1 &&& s) ≤ p.2)))) S.length
    (by
      apply Ev.step
      · intro k
        rw [spec_l16Fits.l0, if_neg (by rw [ints_len]; omega)]
      · rw [drop_end]; exact Ev.now _)
    (by
      intro i hi ih
      have hi2 : i < Y.length := by omega
      have hx := hS _ (List.getElem_mem hi)
      have hy := hY _ (List.getElem_mem hi2)
      rw [drop_cons S i hi, drop_cons Y i hi2]
      apply Ev.step
      · intro k
        rw [spec_l16Fits.l0, if_pos (by rw [ints_len]; omega), if_pos (by omega), ints_rd S i hi, rd_getElem Y i hi2, and_nat (lt256_63 hx) (lt256_63 hs), w_succ hi (by omega)]
      · refine Ev.bind (specCount_ev _ (and_lt hx)) (Ev.ifp (by omega) ?_)
        have e : prL (S[i] :: S.drop (i + 1)) (Y[i] :: Y.drop (i + 1)) = (S[i], Y[i].toNat) :: prL (S.drop (i + 1)) (Y.drop (i + 1)) := rfl
        rw [e, List.all_cons]
        by_cases hc : ((pc (S[i] &&& s) : Nat) : Int) > Y[i]
        · rw [decide_eq_false (show ¬ pc (S[i] &&& s) ≤ Y[i].toNat by omega), Bool.false_and]
          exact Ev.ifp hc (Ev.now _)
        · rw [decide_eq_true (show pc (S[i] &&& s) ≤ Y[i].toNat by omega), Bool.true_and]
          exact Ev.ifn hc ih)
  exact hd
def pmB (n : Int) (l w : List Int) : Int × List Int × Bool := if areListsB n l = true ∧ w.length = l.length ∧ okR [] (l.map Int.toNat) w = true then (n, ints (bsI n.toNat (fewB n.toNat (prL (l.map Int.toNat) w))), true) else (0, [], false)
theorem pmB_len (n : Int) (l w : List Int) : (pmB n l w).2.1.length ≤ 256 := by
  unfold pmB
  by_cases h : areListsB n l = true ∧ w.length = l.length ∧ okR [] (l.map Int.toNat) w = true
  · rw [if_pos h]
    obtain ⟨m, S, rfl, hm, rfl, _⟩ := areListsB_nat h.1
    simp only [ints_len]
    rw [Int.toNat_natCast]
    exact bsI_len hm _
  · rw [if_neg h]; exact Nat.zero_le _
theorem implPart_ev (n : Int) (l w : List Int) (hl : l.length ≤ 17592186044416) : Ev (fun k => impl_PartitionMatroid.f k n l w) (pmB n l w) := by
  unfold impl_PartitionMatroid.f pmB
  refine Ev.bind (implAreLists_ev n l hl) ?_
  by_cases h : areListsB n l = true
  rotate_left
  · rw [if_neg (fun hc => h hc.1)]; exact Ev.ifn h (Ev.now _)
  refine Ev.ifp h ?_
  by_cases hw : w.length = l.length
  rotate_left
  · rw [if_neg (fun hc => hw hc.2.1)]; exact Ev.ifn hw (Ev.now _)
  refine Ev.ifp hw ?_
  have h' := h
  obtain ⟨m, S, rfl, hm, rfl, h6, hS⟩ := areListsB_nat h
  rw [show (ints S).map Int.toNat = S from toNat_map S, Int.toNat_natCast]
  rw [ints_len] at hw
  have h2m := pow_le_256 hm
  have hS256 : ∀ t ∈ S, t < 256 := fun t ht => by have := hS t ht; omega
  refine Ev.cbind (partK_eq S [] w hw (by simp) hS256) ?_
  by_cases hok : okR [] S w = true
  rotate_left
  · rw [if_neg (fun hc => hok hc.2.2)]; exact Ev.ifn hok (Ev.now _)
  rw [if_pos ⟨h', by rw [ints_len]; exact hw, hok⟩]
  refine Ev.ifp hok ?_
  obtain ⟨hY, hpw, _⟩ := okR_facts S [] w hw hok
  have hI := Ind.few hm (prL_pair hw hpw)
  have hset := setsOf_ev hm (g := fun _ s => partC (ints S) w s) (p := fewB m (prL S w)) (fun t ht => by
    rw [partC_eq (by omega) S w hw hS256 hY]
    unfold fewB
    rw [decide_eq_true ht, Bool.true_and]
    exact Ev.now _)
  exact Ev.cbind (implFull_eq hm) (Ev.ifp (full_small hm) (Ev.bind hset (Ev.bind (implFromInd_ev hI (fewB_iff m _)) (Ev.now _))))
theorem specPart_ev (n : Int) (l w : List Int) (hl : l.length ≤ 17592186044416) : Ev (fun k => spec_PartitionMatroid.f k n l w) (pmB n l w) := by
  unfold spec_PartitionMatroid.f pmB
  refine Ev.bind (specAreLists_ev n l hl) ?_
  by_cases h : areListsB n l = true
  rotate_left
  · rw [if_neg (fun hc => h hc.1)]
    refine Ev.ifn h ?_
    apply Ev.step
    · intro k; rw [spec_PartitionMatroid.j0]
    · exact Ev.ifp rfl (Ev.now _)
  refine Ev.ifp h ?_
  apply Ev.step
  · intro k; rw [spec_PartitionMatroid.j0]
  by_cases hw : w.length = l.length
  rotate_left
  · rw [if_neg (fun hc => hw hc.2.1)]; exact Ev.ifp (by rw [bne_iff_ne]; omega) (Ev.now _)
  refine Ev.ifn (by rw [hw]; simp) ?_
  have h' := h
  obtain ⟨m, S, rfl, hm, rfl, h6, hS⟩ := areListsB_nat h
  rw [show (ints S).map Int.toNat = S from toNat_map S, Int.toNat_natCast]
  rw [ints_len] at hw
  have h2m := pow_le_256 hm
  have hp2 := Nat.two_pow_pos m
  have hS256 : ∀ t ∈ S, t < 256 := fun t ht => by have := hS t ht; omega
  have hR : ∀ b : Bool, okR [] S w = b → (if areListsB (m : Int) (ints S) = true ∧ w.length = (ints S).length ∧ okR [] S w = true then ((m : Int), ints (bsI m (fewB m (prL S w))), true) else (0, [], false)) = (if b = true then ((m : Int), ints (bsI m (fewB m (prL S w))), true) else (0, [], false)) := by
    intro b hb
    cases b with
    | true => rw [if_pos ⟨h', by rw [ints_len]; exact hw, hb⟩, if_pos rfl]
    | false => rw [if_neg (fun hc => by rw [hb] at hc; exact absurd hc.2.2 (by decide)), if_neg (by decide)]
  rw [hR _ rfl]
  have hd := down (P := fun i => okR [] S w = okR (S.take i) (S.drop i) (w.drop i) → Ev (fun k => spec_PartitionMatroid.l0 k (m : Int) (ints S) w (i : Int)) (if okR (S.take i) (S.drop i) (w.drop i) = true then ((m : Int), ints (bsI m (fewB m (prL S w))), true) else (0, [], false))) S.length
    (by
      intro hok
      rw [drop_end] at hok ⊢
      have hok' : okR [] S w = true := by rw [hok]; rfl
      rw [if_pos (by rfl)]
      obtain ⟨hY, hpw, _⟩ := okR_facts S [] w hw hok'
      have hI := Ind.few hm (prL_pair hw hpw)
      have hmx := specMaxInd_ev hI (fewB_iff m _)
      apply Ev.step
      · intro k
        rw [spec_PartitionMatroid.l0, if_neg (by rw [ints_len]; omega)]
      have hd := down (P := fun i => ∀ acc : List Nat, acc.length ≤ i → acc ++ (List.range' i (2 ^ m - i)).filter (fewB m (prL S w)) = (List.range (2 ^ m)).filter (fewB m (prL S w)) → Ev (fun k => spec_PartitionMatroid.l2 k (m : Int) (ints S) w (ints acc) (i : Int)) ((m : Int), ints (bsI m (fewB m (prL S w))), true)) (2 ^ m)
        (by
          intro acc _ he
          rw [Nat.sub_self, List.range'_zero, List.filter_nil, List.append_nil] at he
          apply Ev.step
          · intro k
            simp only [spec_PartitionMatroid.l2, specFull_eq hm, Option.bind_some]
            rw [if_neg (by unfold fullN; omega), he]
          · exact Ev.bind hmx (Ev.now _))
        (by
          intro i hi ih acc ha he
          rw [range'_cons' hi, List.filter_cons] at he
          apply Ev.step
          · intro k
            simp only [spec_PartitionMatroid.l2, specFull_eq hm, Option.bind_some]
            rw [if_pos (by unfold fullN; omega), w_succ hi (by omega)]
          · refine Ev.bind (fits_ev (show i < 256 by omega) hw h6 hS256 hY) ?_
            have e : (prL S w).all (fun p => decide (pc (p.1 &&& i) ≤ p.2)) = fewB m (prL S w) i := by
              unfold fewB
              rw [decide_eq_true hi, Bool.true_and]
            rw [e]
            by_cases hc : fewB m (prL S w) i = true
            · rw [if_pos hc] at he
              refine Ev.ifp hc (Ev.ifp (by rw [ints_len]; omega) ?_)
              rw [show ints acc ++ [(i : Int)] = ints (acc ++ [i]) from by simp [ints]]
              exact ih (acc ++ [i]) (by rw [List.length_append, List.length_singleton]; omega) (by rw [List.append_assoc, List.singleton_append]; exact he)
            · rw [if_neg hc] at he
              exact Ev.ifn hc (ih acc (by omega) he))
      exact hd [] (Nat.zero_le _) (by rw [Nat.sub_zero, ← List.range_eq_range', List.nil_append]))
    (by
      intro i hi ih hok
      have hi2 : i < w.length := by omega
      have hx := hS256 _ (List.getElem_mem hi)
      rw [drop_cons S i hi, drop_cons w i hi2] at hok ⊢
      have eR : okR (S.take i) (S[i] :: S.drop (i + 1)) (w[i] :: w.drop (i + 1)) = ((okJ S[i] (S.take i) && decide (0 ≤ w[i])) && okR (S.take (i + 1)) (S.drop (i + 1)) (w.drop (i + 1))) := by
        rw [take_snoc S i hi]; rfl
      rw [eR] at hok ⊢
      apply Ev.step
      · intro k
        rw [spec_PartitionMatroid.l0, if_pos (by rw [ints_len]; omega)]
      have h1 := down (P := fun j => j ≤ i → okJ S[i] (S.take j) = true → Ev (fun k => spec_PartitionMatroid.l1 k (m : Int) (ints S) w (i : Int) (j : Int)) (if ((okJ S[i] (S.take i) && decide (0 ≤ w[i])) && okR (S.take (i + 1)) (S.drop (i + 1)) (w.drop (i + 1))) = true then ((m : Int), ints (bsI m (fewB m (prL S w))), true) else (0, [], false))) i
        (by
          intro _ hj
          rw [hj] at hok ⊢
          apply Ev.step
          · intro k
            rw [spec_PartitionMatroid.l1, if_neg (by omega), if_pos (by omega), if_pos (by omega), rd_getElem w i hi2, w_succ hi (by omega)]
          · by_cases hy : w[i] < 0
            · rw [decide_eq_false (show ¬ (0 : Int) ≤ w[i] by omega), Bool.and_false, Bool.false_and, if_neg (by decide)]
              exact Ev.ifp hy (Ev.now _)
            · rw [decide_eq_true (show (0 : Int) ≤ w[i] by omega), Bool.and_true, Bool.true_and] at hok ⊢
              exact Ev.ifn hy (ih hok))
        (by
          intro j hj ihj hle hjok
          have hjS : j < S.length := by omega
          have ht := hS256 _ (List.getElem_mem hjS)
          apply Ev.step
          · intro k
            rw [spec_PartitionMatroid.l1, if_pos (by omega), if_pos (by omega), if_pos (by rw [ints_len]; omega), if_pos (by omega), if_pos (by rw [ints_len]; omega), ints_rd S i hi, ints_rd S j hjS, w_succ hj (by omega)]
          · have e := and0_eq hx ht
            by_cases hc : S[j] &&& S[i] = 0
            · refine Ev.ifp (e.2 (by rw [Nat.and_comm]; exact hc)) (ihj (by omega) ?_)
              unfold okJ at hjok ⊢
              rw [take_snoc S j hjS, List.all_append, hjok]
              simp [hc]
            · have hno : okJ S[i] (S.take i) = false := by
                rw [Bool.eq_false_iff]
                intro hall
                unfold okJ at hall
                have := List.all_eq_true.1 hall S[j] (by
                  rw [List.mem_iff_getElem]
                  exact ⟨j, by rw [List.length_take]; omega, by rw [List.getElem_take]⟩)
                exact hc (of_decide_eq_true this)
              rw [hno, Bool.false_and, Bool.false_and, if_neg (by decide)]
              exact Ev.ifn (fun hz => hc (by rw [Nat.and_comm]; exact e.1 hz)) (Ev.now _))
      have := h1 (Nat.zero_le _) (by simp [okJ])
      exact this)
  have := hd (by simp)
  simpa using this

end Go.Proofs.Ytagncnjllpebjaa.Q

namespace Go.Proofs.Ytagncnjllpebjaa.Pure
open Go Go.RowKit Go.Proofs.Ytagncnjllpebjaa.A Go.Proofs.YtagncnjllpebjaaW.PrintWords Go.Proofs.YtagncnjllpebjaaW.PrintLast Go.Proofs.YtagncnjllpebjaaW.PrintMore Go.Proofs.Ytagncnjllpebjaa.Z Go.Proofs.Ytagncnjllpebjaa.Q
set_option linter.unusedVariables false
set_option linter.unusedSimpArgs false

theorem FnExactPartitionMatroid : laws_FnExactPartitionMatroid.Pure := by
  intro n l w hn hm1 _ hw1 hm2 _ hw2
  unfold laws_FnExactPartitionMatroid.f
  refine Ev.rounds ?_
  by_cases h0 : (l.length : Int) > 1048576
  · exact Ev.ifp h0 (Ev.now _)
  refine Ev.ifn h0 ?_
  by_cases h1 : (w.length : Int) > 1048576
  · exact Ev.ifp h1 (Ev.now _)
  refine Ev.ifn h1 ?_
  have hl : l.length ≤ 17592186044416 := by omega
  have hl' : w.length ≤ 17592186044416 := by omega
  have hg : (pmB n l w).2.1.length ≤ 17592186044416 := Nat.le_trans (pmB_len n l w) (by decide)
  refine Ev.bind (toInt_ev l hl) (Ev.bind (toInt_ev w hl') (Ev.bind (specPart_ev n l w hl) (Ev.bind (toInt_ev l hl) (Ev.bind (toInt_ev w hl') (Ev.bind (implPart_ev n l w hl) (Ev.bind (eqMat_ev _ _ hg) (Ev.ifp rfl ?_)))))))
  apply Ev.step
  · intro k
    rw [laws_FnExactPartitionMatroid.j0]
  refine Ev.ifn (by simp) (Ev.bind (toInt_ev l hl) (Ev.bind (eqInt_self l hl) (Ev.ifp rfl (Ev.bind (toInt_ev w hl') (Ev.bind (eqInt_self w hl') (Ev.ifp rfl (Ev.bind (mark_ev l 1 (by omega) (by omega) hl) (Ev.bind (mark_ev w _ (by simp only []; omega) (by simp only []; omega) hl') (Ev.ifn (by simp only []; omega) (Ev.bind (eqMat_ev _ _ hg) (Ev.ifp rfl ?_)))))))))))
  apply Ev.step
  · intro k
    rw [laws_FnExactPartitionMatroid.j1]
  refine Ev.ifn (by simp) (Ev.bind (markMat_ev _ _ hg) (Ev.bind (heldMat_ev _ _ hg) ?_))
  refine Ev.ifn (by omega) (Ev.ifp rfl ?_)
  refine Ev.bind (toInt_ev l hl) (Ev.bind (toInt_ev w hl') (Ev.bind (implPart_ev n l w hl) (Ev.bind (eqMat_ev _ _ hg) (Ev.ifp rfl ?_))))
  apply Ev.step
  · intro k
    rw [laws_FnExactPartitionMatroid.j2]
  refine Ev.ifn (by simp) (Ev.bind (heldMat_ev _ _ hg) ?_)
  exact Ev.ifn (by omega) (Ev.ifp rfl (Ev.now _))

end Go.Proofs.Ytagncnjllpebjaa.Pure
