/- Lemmas on what the Lean functions of the print compute (isRenaming). Conditions: those in each lemma. -/
import Derived.Test.YthpjhnfmafmanaaA3
import Derived.Test.YthpjhnfmafmanaaZBits
import Derived.Test.YthpjhnfmafmanaaQsets
namespace Go.Proofs.Ythpjhnfmafmanaa.Q
open Go Go.RowKit Go.Proofs.Ythpjhnfmafmanaa.A Go.Proofs.YthpjhnfmafmanaaW.PrintWords Go.Proofs.YthpjhnfmafmanaaW.PrintLast Go.Proofs.YthpjhnfmafmanaaW.PrintMore Go.Proofs.Ythpjhnfmafmanaa.Z
set_option linter.unusedVariables false
set_option linter.unusedSimpArgs false

def renG (n : Int) : List Int → Nat → Bool
  | [], _ => true
  | x :: xs, seen => (decide (0 ≤ x) && decide (x < n) && decide (x < 8) && !seen.testBit x.toNat) && renG n xs (seen ||| 2 ^ x.toNat)
def isRenB (n : Int) (l : List Int) : Bool := decide ((l.length : Int) = n) && decide (n ≤ 8) && renG n l 0
theorem or_lt {a x : Nat} (ha : a < 256) (hx : x < 8) : a ||| 2 ^ x < 256 := by
  have h1 : a < 2 ^ 8 := ha
  have h2 : 2 ^ x < 2 ^ 8 := Nat.pow_lt_pow_right (by decide) hx
  exact Nat.or_lt_two_pow h1 h2
theorem pow_lt_256 {x : Nat} (hx : x < 8) : 2 ^ x < 256 := Nat.pow_lt_pow_right (a := 2) (m := x) (n := 8) (by decide) hx
theorem specRen_l0 (n : Int) (l : List Int) (hl : l.length ≤ 17592186044416) (hn : (l.length : Int) = n) (h8 : n ≤ 8) : ∀ seen : Nat, seen < 256 → Ev (fun k => spec_IsRenaming.l0 k n l (seen : Int) 0) (renG n l seen) := by
  have h := down (P := fun i => ∀ seen : Nat, seen < 256 → Ev (fun k => spec_IsRenaming.l0 k n l (seen : Int) (i : Int)) (renG n (l.drop i) seen)) l.length
    (by
      intro seen hs
      apply Ev.step
      · intro k
        simp only [spec_IsRenaming.l0]
        rw [if_neg (by omega)]
      · rw [drop_end]; exact Ev.now _)
    (by
      intro i hi ih seen hs
      apply Ev.step
      · intro k
        simp only [spec_IsRenaming.l0, l1In_eq, Option.bind_some]
        rw [if_pos (by omega), if_pos (by omega), if_pos (by omega), rd_getElem l i hi, w_succ hi hl, wrap64_of (by omega) (by omega)]
      · rw [drop_cons l i hi]
        simp only [renG]
        by_cases hx : (decide (0 ≤ l[i]) && decide (l[i] ≤ n - 1)) = true
        · refine Ev.ifp hx ?_
          simp only [Bool.and_eq_true, decide_eq_true_eq] at hx
          obtain ⟨x, hxe⟩ := Int.eq_ofNat_of_zero_le hx.1
          rw [hxe] at hx ⊢
          have hx8 : x < 8 := by omega
          have c1 : (decide (0 ≤ (x : Int)) && decide ((x : Int) < n) && decide ((x : Int) < 8)) = true := by
            simp only [Bool.and_eq_true, decide_eq_true_eq]; omega
          rw [c1, Bool.true_and, Int.toNat_natCast]
          refine Ev.cbind (l2Has_eq (lt256_63 hs) (by omega)) ?_
          by_cases hb : seen.testBit x = true
          · refine Ev.ifp hb ?_
            rw [hb]; exact Ev.now _
          · refine Ev.ifn hb (Ev.ifp (u64_nonneg _) ?_)
            rw [Bool.eq_false_iff.2 hb, u64_of (by omega) (by omega), shl_one (by omega), or_nat (lt256_63 hs) (lt256_63 (pow_lt_256 hx8))]
            exact ih _ (or_lt hs hx8)
        · refine Ev.ifn hx ?_
          have c1 : (decide (0 ≤ l[i]) && decide (l[i] < n)) = false := by
            rw [Bool.eq_false_iff]
            intro hc
            apply hx
            simp only [Bool.and_eq_true, decide_eq_true_eq] at *
            omega
          rw [c1]
          exact Ev.now _)
  exact h
theorem specRen_ev (n : Int) (l : List Int) (hl : l.length ≤ 17592186044416) : Ev (fun k => spec_IsRenaming.f k n l) (isRenB n l) := by
  unfold spec_IsRenaming.f isRenB
  by_cases hn : (l.length : Int) = n
  · refine Ev.ifp hn ?_
    rw [show decide ((l.length : Int) = n) = true from by simpa using hn, Bool.true_and]
    apply Ev.step
    · intro k
      rw [spec_IsRenaming.j0]
    · by_cases h8 : n > 8
      · refine Ev.ifp (by simpa using h8) ?_
        rw [show decide (n ≤ 8) = false from by simpa using h8]
        exact Ev.now _
      · refine Ev.ifn (by simpa using h8) ?_
        rw [show decide (n ≤ 8) = true from by simp; omega, Bool.true_and]
        exact specRen_l0 n l hl hn (by omega) 0 (by omega)
  · refine Ev.ifn hn ?_
    rw [show decide ((l.length : Int) = n) = false from by simpa using hn]
    apply Ev.step
    · intro k
      rw [spec_IsRenaming.j0]
    · refine Ev.ifp rfl ?_
      exact Ev.now _
theorem implRen_l0 (n : Int) (l : List Int) (hl : l.length ≤ 17592186044416) : ∀ seen : Nat, seen < 256 → Ev (fun k => impl_IsRenaming.l0 k n l (seen : Int) l (l.length : Int) 0) (renG n l seen && ((decide (0 ≤ n) && decide (n ≤ 8)) && decide ((l.length : Int) = n))) := by
  have h := down (P := fun i => ∀ seen : Nat, seen < 256 → Ev (fun k => impl_IsRenaming.l0 k n l (seen : Int) l (l.length : Int) (i : Int)) (renG n (l.drop i) seen && ((decide (0 ≤ n) && decide (n ≤ 8)) && decide ((l.length : Int) = n)))) l.length
    (by
      intro seen hs
      apply Ev.step
      · intro k
        simp only [impl_IsRenaming.l0, isSize_eq, Option.bind_some]
        rw [if_neg (by omega)]
      · rw [drop_end]
        simp only [renG, Bool.true_and]
        by_cases h8 : (decide (0 ≤ n) && decide (n ≤ 8)) = true
        · refine Ev.ifp h8 ?_
          rw [h8, Bool.true_and]; exact Ev.now _
        · refine Ev.ifn h8 ?_
          rw [Bool.eq_false_iff.2 h8, Bool.false_and]; exact Ev.now _)
    (by
      intro i hi ih seen hs
      apply Ev.step
      · intro k
        simp only [impl_IsRenaming.l0]
        rw [if_pos (by omega), if_pos (by omega), if_pos (by omega), rd_getElem l i hi, w_succ hi hl]
      · rw [drop_cons l i hi]
        simp only [renG]
        by_cases h0 : l[i] < 0
        · refine Ev.ifp h0 ?_
          rw [show decide (0 ≤ l[i]) = false from by simpa using h0]
          exact Ev.now _
        · refine Ev.ifn h0 ?_
          by_cases hn : l[i] ≥ n
          · refine Ev.ifp hn ?_
            rw [show decide (l[i] < n) = false from by simpa using hn, Bool.and_false]
            exact Ev.now _
          · refine Ev.ifn hn ?_
            by_cases h8 : l[i] ≥ 8
            · refine Ev.ifp h8 ?_
              rw [show decide (l[i] < 8) = false from by simpa using h8, Bool.and_false]
              exact Ev.now _
            · refine Ev.ifn h8 (Ev.ifp (by omega) ?_)
              obtain ⟨x, hxe⟩ := Int.eq_ofNat_of_zero_le (show 0 ≤ l[i] by omega)
              rw [hxe] at h0 hn h8 ⊢
              have hx8 : x < 8 := by omega
              have c1 : (decide (0 ≤ (x : Int)) && decide ((x : Int) < n) && decide ((x : Int) < 8)) = true := by
                simp only [Bool.and_eq_true, decide_eq_true_eq]; omega
              rw [c1, Bool.true_and, Int.toNat_natCast]
              by_cases hb : seen.testBit x = true
              · refine Ev.ifp ((bit_natP (lt256_63 hs)).2 hb) ?_
                rw [hb]; exact Ev.now _
              · refine Ev.ifn (fun hc => hb ((bit_natP (lt256_63 hs)).1 hc)) ?_
                rw [Bool.eq_false_iff.2 hb, shl_one (by omega), or_nat (lt256_63 hs) (lt256_63 (pow_lt_256 hx8))]
                exact ih _ (or_lt hs hx8))
  exact h
theorem implRen_ev (n : Int) (l : List Int) (hl : l.length ≤ 17592186044416) : Ev (fun k => impl_IsRenaming.f k n l) (isRenB n l) := by
  have h := implRen_l0 n l hl 0 (by omega)
  have e : (renG n l 0 && ((decide (0 ≤ n) && decide (n ≤ 8)) && decide ((l.length : Int) = n))) = isRenB n l := by
    unfold isRenB
    by_cases hn : (l.length : Int) = n
    · have : decide (0 ≤ n) = true := by simp; omega
      rw [this, show decide ((l.length : Int) = n) = true from by simpa using hn]
      cases renG n l 0 <;> cases decide (n ≤ 8) <;> rfl
    · rw [show decide ((l.length : Int) = n) = false from by simpa using hn]
      simp
  rw [e] at h
  exact h

end Go.Proofs.Ythpjhnfmafmanaa.Q
