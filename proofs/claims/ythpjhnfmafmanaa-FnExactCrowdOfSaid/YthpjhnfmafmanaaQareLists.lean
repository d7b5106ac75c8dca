/- Lemmas on what the Lean functions of the print compute (areLists). Conditions: those in each lemma. -/
import Derived.Test.YthpjhnfmafmanaaA2
import Derived.Test.YthpjhnfmafmanaaZBits
import Derived.Test.YthpjhnfmafmanaaQsets
namespace Go.Proofs.Ythpjhnfmafmanaa.Q
open Go Go.RowKit Go.Proofs.Ythpjhnfmafmanaa.A Go.Proofs.YthpjhnfmafmanaaW.PrintWords Go.Proofs.YthpjhnfmafmanaaW.PrintLast Go.Proofs.YthpjhnfmafmanaaW.PrintMore Go.Proofs.Ythpjhnfmafmanaa.Z
set_option linter.unusedVariables false
set_option linter.unusedSimpArgs false

/-- All sets of a list are sets of n elements. -/
def setsB (n : Int) (l : List Int) : Bool := l.all (isSetB n)
def areListsB (n : Int) (l : List Int) : Bool := (decide (0 ≤ n) && decide (n ≤ 8)) && (decide (l.length ≤ 6) && setsB n l)
theorem specSets_ev (n : Int) (l : List Int) (hl : l.length ≤ 17592186044416) : Ev (fun k => spec_l3Sets.f k n l) (setsB n l) := by
  have h := down (P := fun i => Ev (fun k => spec_l3Sets.l0 k n l (i : Int)) (setsB n (l.drop i))) l.length
    (by
      apply Ev.step
      · intro k
        simp only [spec_l3Sets.l0, specIsSet_eq, Option.bind_some]
        rw [if_neg (by omega)]
      · rw [drop_end]; exact Ev.now _)
    (by
      intro i hi ih
      apply Ev.step
      · intro k
        simp only [spec_l3Sets.l0, specIsSet_eq, Option.bind_some]
        rw [if_pos (by omega), if_pos (by omega), rd_getElem l i hi, w_succ hi hl]
      · rw [drop_cons l i hi]
        simp only [setsB, List.all_cons]
        by_cases hx : isSetB n l[i] = true
        · refine Ev.ifp hx ?_
          rw [hx, Bool.true_and]; exact ih
        · refine Ev.ifn hx ?_
          rw [Bool.eq_false_iff.2 hx, Bool.false_and]; exact Ev.now _)
  exact h
theorem specAreLists_ev (n : Int) (l : List Int) (hl : l.length ≤ 17592186044416) : Ev (fun k => spec_AreLists.f k n l) (areListsB n l) := by
  unfold spec_AreLists.f areListsB
  refine Ev.cbind (l1In_eq _ _ _) ?_
  by_cases h : (decide (0 ≤ n) && decide (n ≤ 8)) = true
  · refine Ev.ifp h ?_
    rw [h, Bool.true_and]
    by_cases h6 : (l.length : Int) ≤ 6
    · refine Ev.ifp h6 ?_
      rw [show decide (l.length ≤ 6) = true from by simp; omega, Bool.true_and]
      exact Ev.bind (specSets_ev n l hl) (Ev.now _)
    · refine Ev.ifn h6 ?_
      rw [show decide (l.length ≤ 6) = false from by simp; omega, Bool.false_and]
      exact Ev.now _
  · refine Ev.ifn h ?_
    rw [Bool.eq_false_iff.2 h, Bool.false_and]
    exact Ev.now _
theorem implSets_ev (n : Int) (l : List Int) (hl : l.length ≤ 17592186044416) : Ev (fun k => impl_areSetsOf.f k n l) (setsB n l && (decide (0 ≤ n) && decide (n ≤ 8))) := by
  have h := down (P := fun i => Ev (fun k => impl_areSetsOf.l0 k n l (l.length : Int) (i : Int)) (setsB n (l.drop i) && (decide (0 ≤ n) && decide (n ≤ 8)))) l.length
    (by
      apply Ev.step
      · intro k
        simp only [impl_areSetsOf.l0, implIsSet_eq, isSize_eq, Option.bind_some]
        rw [if_neg (by omega)]
      · rw [drop_end]; exact Ev.now _)
    (by
      intro i hi ih
      apply Ev.step
      · intro k
        simp only [impl_areSetsOf.l0, implIsSet_eq, isSize_eq, Option.bind_some]
        rw [if_pos (by omega), if_pos (by omega), if_pos (by omega), rd_getElem l i hi, w_succ hi hl]
      · rw [drop_cons l i hi]
        simp only [setsB, List.all_cons]
        by_cases hx : isSetB n l[i] = true
        · refine Ev.ifp hx ?_
          rw [hx, Bool.true_and]; exact ih
        · refine Ev.ifn hx ?_
          rw [Bool.eq_false_iff.2 hx, Bool.false_and, Bool.false_and]; exact Ev.now _)
  exact h
theorem implAreLists_ev (n : Int) (l : List Int) (hl : l.length ≤ 17592186044416) : Ev (fun k => impl_AreLists.f k n l) (areListsB n l) := by
  unfold impl_AreLists.f areListsB
  refine Ev.bind (implSets_ev n l hl) ?_
  by_cases h : (setsB n l && (decide (0 ≤ n) && decide (n ≤ 8))) = true
  · refine Ev.ifp h ?_
    simp only [Bool.and_eq_true] at h
    rw [h.1, show (decide (0 ≤ n) && decide (n ≤ 8)) = true from by simpa using h.2, Bool.true_and, Bool.and_true]
    have : decide ((l.length : Int) ≤ 6) = decide (l.length ≤ 6) := by
      rw [Bool.eq_iff_iff]; simp only [decide_eq_true_eq]; omega
    rw [this]
    exact Ev.now _
  · refine Ev.ifn h ?_
    have : ((decide (0 ≤ n) && decide (n ≤ 8)) && (decide (l.length ≤ 6) && setsB n l)) = false := by
      rw [Bool.eq_false_iff]
      intro hc
      apply h
      simp only [Bool.and_eq_true] at *
      exact ⟨hc.2.2, hc.1⟩
    rw [this]
    exact Ev.now _

end Go.Proofs.Ythpjhnfmafmanaa.Q
