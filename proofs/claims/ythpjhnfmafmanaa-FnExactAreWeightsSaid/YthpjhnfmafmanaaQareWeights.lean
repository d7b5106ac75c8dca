/- Lemmas on what the Lean functions of the print compute (areWeights). Conditions: those in each lemma. -/
import Derived.Test.YthpjhnfmafmanaaA1
import Derived.Test.YthpjhnfmafmanaaZBase
import Derived.Test.YthpjhnfmafmanaaQsets
namespace Go.Proofs.Ythpjhnfmafmanaa.Q
open Go Go.RowKit Go.Proofs.Ythpjhnfmafmanaa.A Go.Proofs.YthpjhnfmafmanaaW.PrintWords Go.Proofs.YthpjhnfmafmanaaW.PrintLast Go.Proofs.YthpjhnfmafmanaaW.PrintMore Go.Proofs.Ythpjhnfmafmanaa.Z
set_option linter.unusedVariables false
set_option linter.unusedSimpArgs false

def areW (n : Int) (w : List Int) : Bool := w.all (fun x => decide (-1000 ≤ x) && decide (x ≤ 1000)) && (decide (0 ≤ n) && decide (n ≤ 8)) && decide ((w.length : Int) = n)
theorem specAreWeights_l0 (n : Int) (l : List Int) (hl : l.length ≤ 17592186044416) : ∀ (rest pre : List Int), l = pre ++ rest → Ev (fun k => spec_AreWeights.l0 k n l (pre.length : Int)) (rest.all (fun x => decide (-1000 ≤ x) && decide (x ≤ 1000)) && (decide (0 ≤ n) && decide (n ≤ 8)) && decide ((l.length : Int) = n)) := by
  intro rest
  induction rest with
  | nil =>
    intro pre h
    apply Ev.step
    · intro k
      simp only [spec_AreWeights.l0, l1In_eq]
      rw [if_neg (by rw [h]; simp)]
    · simp only [Option.bind_some]
      by_cases hn : (decide (0 ≤ n) && decide (n ≤ 8)) = true
      · refine Ev.ifp hn ?_
        simp only [List.all_nil, hn, Bool.true_and]
        exact Ev.now _
      · refine Ev.ifn hn ?_
        simp only [List.all_nil, Bool.eq_false_iff.2 hn, Bool.false_and, Bool.true_and]
        exact Ev.now _
  | cons x rest ih =>
    intro pre h
    have hlen : (pre.length : Int) < (l.length : Int) := by rw [h]; simp; omega
    have e1 : rd l (pre.length : Int) = x := by rw [h]; exact rd_mid _ _ _
    apply Ev.step
    · intro k
      simp only [spec_AreWeights.l0, l1In_eq]
      rw [if_pos hlen, if_pos (by omega), e1]
    · simp only [Option.bind_some]
      by_cases hx : (decide (-1000 ≤ x) && decide (x ≤ 1000)) = true
      · refine Ev.ifp hx ?_
        have e : wrap64 ((pre.length : Int) + 1) = ((pre ++ [x]).length : Int) := by
          rw [wrap64_of (by omega) (by omega)]; simp
        rw [e]
        simpa only [List.all_cons, hx, Bool.true_and] using ih (pre ++ [x]) (by rw [h]; simp)
      · refine Ev.ifn hx ?_
        simp only [List.all_cons, Bool.eq_false_iff.2 hx, Bool.false_and]
        exact Ev.now _
theorem specAreWeights_ev (n : Int) (l : List Int) (hl : l.length ≤ 17592186044416) : Ev (fun k => spec_AreWeights.f k n l) (areW n l) :=
  specAreWeights_l0 n l hl l [] rfl
theorem implAreWeights_l0 (n : Int) (l : List Int) (hl : l.length ≤ 17592186044416) : ∀ (rest pre : List Int), l = pre ++ rest → Ev (fun k => impl_AreWeights.l0 k n l l (l.length : Int) (pre.length : Int)) (rest.all (fun x => decide (-1000 ≤ x) && decide (x ≤ 1000)) && (decide (0 ≤ n) && decide (n ≤ 8)) && decide ((l.length : Int) = n)) := by
  intro rest
  induction rest with
  | nil =>
    intro pre h
    apply Ev.step
    · intro k
      simp only [impl_AreWeights.l0, isSize_eq]
      rw [if_neg (by rw [h]; simp)]
    · simp only [Option.bind_some]
      by_cases hn : (decide (0 ≤ n) && decide (n ≤ 8)) = true
      · refine Ev.ifp hn ?_
        simp only [List.all_nil, hn, Bool.true_and]
        exact Ev.now _
      · refine Ev.ifn hn ?_
        simp only [List.all_nil, Bool.eq_false_iff.2 hn, Bool.false_and, Bool.true_and]
        exact Ev.now _
  | cons x rest ih =>
    intro pre h
    have hlen : (pre.length : Int) < (l.length : Int) := by rw [h]; simp; omega
    have e1 : rd l (pre.length : Int) = x := by rw [h]; exact rd_mid _ _ _
    apply Ev.step
    · intro k
      simp only [impl_AreWeights.l0, isSize_eq]
      rw [if_pos hlen, if_pos (by omega), if_pos hlen, e1]
    · by_cases h1 : x < -1000
      · refine Ev.ifp h1 ?_
        have : (decide (-1000 ≤ x)) = false := by simp; omega
        simp only [List.all_cons, this, Bool.false_and]
        exact Ev.now _
      · refine Ev.ifn h1 ?_
        by_cases h2 : x > 1000
        · refine Ev.ifp h2 ?_
          have : (decide (x ≤ 1000)) = false := by simp; omega
          simp only [List.all_cons, this, Bool.false_and, Bool.and_false]
          exact Ev.now _
        · refine Ev.ifn h2 ?_
          have hx : (decide (-1000 ≤ x) && decide (x ≤ 1000)) = true := by simp; omega
          have e : wrap64 ((pre.length : Int) + 1) = ((pre ++ [x]).length : Int) := by
            rw [wrap64_of (by omega) (by omega)]; simp
          rw [e]
          simpa only [List.all_cons, hx, Bool.true_and] using ih (pre ++ [x]) (by rw [h]; simp)
theorem implAreWeights_ev (n : Int) (l : List Int) (hl : l.length ≤ 17592186044416) : Ev (fun k => impl_AreWeights.f k n l) (areW n l) :=
  implAreWeights_l0 n l hl l [] rfl

end Go.Proofs.Ythpjhnfmafmanaa.Q
