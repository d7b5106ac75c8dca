/- Lemmas on what the Lean functions of the print compute (weightOf). Conditions: those in each lemma. -/
import Derived.Test.YthpjhnfmafmanaaA5
import Derived.Test.YthpjhnfmafmanaaZBits
import Derived.Test.YthpjhnfmafmanaaQsets
import Derived.Test.YthpjhnfmafmanaaQelementsOf
namespace Go.Proofs.Ythpjhnfmafmanaa.Q
open Go Go.RowKit Go.Proofs.Ythpjhnfmafmanaa.A Go.Proofs.YthpjhnfmafmanaaW.PrintWords Go.Proofs.YthpjhnfmafmanaaW.PrintLast Go.Proofs.YthpjhnfmafmanaaW.PrintMore Go.Proofs.Ythpjhnfmafmanaa.Z
set_option linter.unusedVariables false
set_option linter.unusedSimpArgs false

/-- The sum of the weights at some places, beginning with acc. -/
def wfold (w : List Int) (acc : Int) (es : List Nat) : Int := es.foldl (fun (a : Int) (e : Nat) => wrap64 (a + rd w (e : Int))) acc
def weightB (w : List Int) (s : Int) : Int := wfold w 0 ((List.range 8).filter (fun e : Nat => decide (e < w.length) && hasB s (e : Int)))
theorem filter_range_swap (p : Nat → Bool) (a b : Nat) : (List.range a).filter (fun e => decide (e < b) && p e) = (List.range (min a b)).filter p := by
  induction a with
  | zero => simp
  | succ a ih =>
    rw [List.range_succ, List.filter_append, ih]
    by_cases h : a < b
    · rw [show min (a + 1) b = min a b + 1 from by omega, List.range_succ, List.filter_append]
      have e : min a b = a := by omega
      rw [e]
      congr 1
      simp [List.filter_cons, h]
    · rw [show min (a + 1) b = min a b from by omega]
      simp [List.filter_cons, h]
theorem specWeight_ev (w : List Int) (s : Int) (hl : w.length ≤ 17592186044416) : Ev (fun k => spec_WeightOf.f k w s) (weightB w s) := by
  have h := down (P := fun i => ∀ acc : Int, Ev (fun k => spec_WeightOf.l0 k w s acc (i : Int)) (wfold w acc ((List.range' i (w.length - i)).filter (fun e : Nat => hasB s (e : Int))))) w.length
    (by
      intro acc
      apply Ev.step
      · intro k
        simp only [spec_WeightOf.l0, specHas_eq, Option.bind_some]
        rw [if_neg (by omega)]
      · simpa [wfold] using Ev.now _)
    (by
      intro i hi ih acc
      apply Ev.step
      · intro k
        simp only [spec_WeightOf.l0, specHas_eq, Option.bind_some]
        rw [if_pos (by omega), w_succ hi hl]
      · rw [range'_cons hi, List.filter_cons]
        by_cases hx : hasB s (i : Int) = true
        · refine Ev.ifp hx (Ev.ifp (by omega) ?_)
          rw [if_pos hx]
          exact ih (wrap64 (acc + rd w (i : Int)))
        · refine Ev.ifn hx ?_
          rw [if_neg hx]
          exact ih acc)
  have h0 := h 0
  have e : (List.range' 0 (w.length - 0)).filter (fun e : Nat => hasB s (e : Int)) = (List.range 8).filter (fun e : Nat => decide (e < w.length) && hasB s (e : Int)) := by
    rw [Nat.sub_zero, ← List.range_eq_range', filter_range_swap, Nat.min_comm, ← filter_range_swap]
    apply List.filter_congr
    intro e _
    cases hq : hasB s (e : Int) with
    | false => simp
    | true =>
      have : e < 8 := by
        unfold hasB at hq
        simp only [Bool.and_eq_true, decide_eq_true_eq] at hq
        omega
      simp [this]
  rw [e] at h0
  exact h0
theorem implWeight_ev (w : List Int) (s : Int) (hl : w.length ≤ 17592186044416) : Ev (fun k => impl_WeightOf.f k w s) (weightB w s) := by
  unfold impl_WeightOf.f
  refine Ev.bind (implElements_ev s) ?_
  have hmem := @elsB_mem s
  have hlen := elsB_len s
  have key : weightB w s = (elsB s).foldl (fun a x => if x < (w.length : Int) then wrap64 (a + rd w x) else a) 0 := by
    unfold weightB wfold elsB
    rw [List.foldl_map]
    generalize (0 : Int) = acc
    generalize List.range 8 = l
    induction l generalizing acc with
    | nil => rfl
    | cons e l ih =>
      simp only [List.filter_cons]
      by_cases h1 : hasB s (e : Int) = true
      · by_cases h2 : e < w.length
        · rw [if_pos (by simp [h1, h2]), if_pos h1]
          simp only [List.foldl_cons]
          rw [if_pos (by omega)]
          exact ih _
        · rw [if_neg (by rw [show decide (e < w.length) = false from by simpa using h2]; simp), if_pos h1]
          simp only [List.foldl_cons]
          rw [if_neg (by omega)]
          exact ih _
      · rw [if_neg (by simp [h1]), if_neg h1]
        exact ih _
  rw [key]
  generalize elsB s = es at hmem hlen
  have h := down (P := fun i => ∀ acc : Int, Ev (fun k => impl_WeightOf.l0 k w acc es (es.length : Int) (i : Int)) ((es.drop i).foldl (fun a x => if x < (w.length : Int) then wrap64 (a + rd w x) else a) acc)) es.length
    (by
      intro acc
      apply Ev.step
      · intro k
        simp only [impl_WeightOf.l0]
        rw [if_neg (by omega)]
      · rw [drop_end]; exact Ev.now _)
    (by
      intro i hi ih acc
      obtain ⟨e, he, h8, _⟩ := hmem (List.getElem_mem hi)
      apply Ev.step
      · intro k
        simp only [impl_WeightOf.l0]
        rw [if_pos (by omega), if_pos (by omega), if_pos (by omega), rd_getElem es i hi, w_succ hi (by omega)]
      · rw [drop_cons es i hi, List.foldl_cons]
        by_cases hx : es[i] < (w.length : Int)
        · refine Ev.ifp hx (Ev.ifp (by omega) ?_)
          rw [if_pos hx]
          exact ih _
        · refine Ev.ifn hx ?_
          rw [if_neg hx]
          exact ih _)
  exact h 0

end Go.Proofs.Ythpjhnfmafmanaa.Q
