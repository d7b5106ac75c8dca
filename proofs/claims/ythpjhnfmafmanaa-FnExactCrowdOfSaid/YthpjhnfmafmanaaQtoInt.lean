/- Lemmas on what the Lean functions of the print compute (toInt). Conditions: those in each lemma. -/
import Derived.Test.YthpjhnfmafmanaaA1
import Derived.Test.YthpjhnfmafmanaaZBase
namespace Go.Proofs.Ythpjhnfmafmanaa.Q
open Go Go.RowKit Go.Proofs.Ythpjhnfmafmanaa.A Go.Proofs.YthpjhnfmafmanaaW.PrintWords Go.Proofs.YthpjhnfmafmanaaW.PrintLast Go.Proofs.YthpjhnfmafmanaaW.PrintMore Go.Proofs.Ythpjhnfmafmanaa.Z
set_option linter.unusedVariables false
set_option linter.unusedSimpArgs false

theorem toInt_l0 (l : List Int) (hl : l.length ≤ 17592186044416) : ∀ (rest pre : List Int), l = pre ++ rest → Ev (fun k => laws_toIntS.l0 k l (pre ++ List.replicate rest.length 0) (pre.length : Int)) l := by
  intro rest
  induction rest with
  | nil =>
    intro pre h
    apply Ev.step
    · intro k
      simp only [laws_toIntS.l0]
      rw [if_neg (by rw [h]; simp)]
    · subst h; simpa using Ev.now _
  | cons x rest ih =>
    intro pre h
    have hlen : (pre.length : Int) < (l.length : Int) := by rw [h]; simp; omega
    apply Ev.step
    · intro k
      simp only [laws_toIntS.l0]
      rw [if_pos hlen, if_pos (by omega), if_pos (by simp; omega)]
    · have := ih (pre ++ [x]) (by rw [h]; simp)
      have e : wrap64 ((pre.length : Int) + 1) = ((pre ++ [x]).length : Int) := by
        rw [wrap64_of (by omega) (by omega)]; simp
      rw [e]
      have e2 : (pre ++ List.replicate (x :: rest).length 0).set (pre.length : Int).toNat (rd l (pre.length : Int)) = (pre ++ [x]) ++ List.replicate rest.length 0 := by
        have : rd l (pre.length : Int) = x := by rw [h]; exact rd_mid _ _ _
        rw [this]
        simp [List.replicate_succ]
      rw [e2]
      exact this
theorem toInt_ev (l : List Int) (hl : l.length ≤ 17592186044416) : Ev (fun k => laws_toIntS.f k l) l := by
  unfold laws_toIntS.f
  refine Ev.ifp (by omega) (Ev.ifp (by simp; omega) ?_)
  simpa using toInt_l0 l hl l [] rfl
theorem eqInt_l0 (l : List Int) (hl : l.length ≤ 17592186044416) (l' : List Int) (hll : l'.length = l.length) : ∀ (rest rest' pre : List Int), l = pre ++ rest → l' = pre ++ rest' → Ev (fun k => laws_eqIntS.l0 k l l' (pre.length : Int)) (decide (l = l')) := by
  intro rest
  induction rest with
  | nil =>
    intro rest' pre h h'
    have : rest' = [] := by
      apply List.eq_nil_of_length_eq_zero
      have h1 := congrArg List.length h
      have h2 := congrArg List.length h'
      rw [List.length_append] at h1 h2
      simp only [List.length_nil] at h1
      omega
    subst this
    apply Ev.step
    · intro k
      simp only [laws_eqIntS.l0]
      rw [if_neg (by rw [h]; simp)]
    · have : l = l' := by rw [h, h']
      simpa [this] using Ev.now _
  | cons x rest ih =>
    intro rest' pre h h'
    have hlen : (pre.length : Int) < (l.length : Int) := by rw [h]; simp; omega
    cases rest' with
    | nil => exact absurd hll (by rw [h, h']; simp)
    | cons y rest' =>
    have e1 : rd l (pre.length : Int) = x := by rw [h]; exact rd_mid _ _ _
    have e2 : rd l' (pre.length : Int) = y := by rw [h']; exact rd_mid _ _ _
    by_cases hxy : x = y
    · subst hxy
      apply Ev.step
      · intro k
        simp only [laws_eqIntS.l0]
        rw [if_pos hlen, if_pos (by omega), if_pos (by omega), if_pos (by rw [e1, e2])]
      · have := ih rest' (pre ++ [x]) (by rw [h]; simp) (by rw [h']; simp)
        have e : wrap64 ((pre.length : Int) + 1) = ((pre ++ [x]).length : Int) := by
          rw [wrap64_of (by omega) (by omega)]; simp
        rw [e]
        exact this
    · apply Ev.step
      · intro k
        simp only [laws_eqIntS.l0]
        rw [if_pos hlen, if_pos (by omega), if_pos (by omega), if_neg (by rw [e1, e2]; exact hxy)]
      · have : l ≠ l' := by rw [h, h']; simp [hxy]
        simpa [this] using Ev.now _
theorem eqInt_ev (l l' : List Int) (hl : l.length ≤ 17592186044416) : Ev (fun k => laws_eqIntS.f k l l') (decide (l = l')) := by
  unfold laws_eqIntS.f
  by_cases h : (l.length : Int) = (l'.length : Int)
  · refine Ev.ifp h ?_
    exact eqInt_l0 l hl l' (by omega) l l' [] rfl rfl
  · refine Ev.ifn h ?_
    have : l ≠ l' := by rintro rfl; exact h rfl
    simpa [this] using Ev.now _
theorem eqInt_self (l : List Int) (hl : l.length ≤ 17592186044416) : Ev (fun k => laws_eqIntS.f k l l) true := by simpa using eqInt_ev l l hl

end Go.Proofs.Ythpjhnfmafmanaa.Q
