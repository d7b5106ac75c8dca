/- Lemmas on what the Lean functions of the print compute (addWeights). Conditions: those in each lemma. -/
import Derived.Test.YthpjhnfmafmanaaA6
import Derived.Test.YthpjhnfmafmanaaZBase
namespace Go.Proofs.Ythpjhnfmafmanaa.Q
open Go Go.RowKit Go.Proofs.Ythpjhnfmafmanaa.A Go.Proofs.YthpjhnfmafmanaaW.PrintWords Go.Proofs.YthpjhnfmafmanaaW.PrintLast Go.Proofs.YthpjhnfmafmanaaW.PrintMore Go.Proofs.Ythpjhnfmafmanaa.Z
set_option linter.unusedVariables false
set_option linter.unusedSimpArgs false

def addG (u v : List Int) : List Int := List.zipWith (fun x y => wrap64 (x + y)) u v
def addB (u v : List Int) : List Int := if u.length = v.length then addG u v else []
theorem addG_len (u v : List Int) (h : u.length = v.length) : (addG u v).length = u.length := by simp [addG, h]
theorem addG_drop (u v : List Int) (i : Nat) (h : u.length = v.length) (hi : i < u.length) : addG (u.drop i) (v.drop i) = wrap64 (u[i] + v[i]) :: addG (u.drop (i + 1)) (v.drop (i + 1)) := by
  rw [drop_cons u i hi, drop_cons v i (by omega)]
  rfl
theorem specAdd_ev (u v : List Int) (hl : u.length ≤ 17592186044415) : Ev (fun k => spec_AddWeights.f k u v) (addB u v) := by
  unfold spec_AddWeights.f addB
  refine Ev.cbind rfl ?_
  by_cases he : u.length = v.length
  · refine Ev.ifp (by omega) ?_
    rw [if_pos he]
    have h := down (P := fun i => ∀ acc : List Int, acc.length = i → Ev (fun k => spec_AddWeights.l0 k u v acc (i : Int)) (acc ++ addG (u.drop i) (v.drop i))) u.length
      (by
        intro acc ha
        apply Ev.step
        · intro k
          simp only [spec_AddWeights.l0]
          rw [if_neg (by omega)]
        · rw [drop_end]
          simp only [addG, List.zipWith_nil_left, List.append_nil]
          exact Ev.now _)
      (by
        intro i hi ih acc ha
        apply Ev.step
        · intro k
          simp only [spec_AddWeights.l0]
          rw [if_pos (by omega), if_pos (by omega), if_pos (by omega), if_pos (by omega), rd_getElem u i hi, rd_getElem v i (by omega), w_succ hi (by omega)]
        · rw [addG_drop u v i he hi]
          have := ih (acc ++ [wrap64 (u[i] + v[i])]) (by simp [ha])
          rw [List.append_assoc] at this
          exact this)
    exact h [] rfl
  · refine Ev.ifn (by omega) ?_
    rw [if_neg he]
    exact Ev.now _
theorem implAdd_ev (u v : List Int) (hl : u.length ≤ 17592186044415) : Ev (fun k => impl_AddWeights.f k u v) (addB u v) := by
  unfold impl_AddWeights.f addB
  by_cases he : u.length = v.length
  · refine Ev.ifp (by omega) ?_
    rw [if_pos he]
    have h := down (P := fun i => ∀ acc : List Int, acc.length = i → Ev (fun k => impl_AddWeights.l0 k u v acc (u.length : Int) (i : Int)) (acc ++ addG (u.drop i) (v.drop i))) u.length
      (by
        intro acc ha
        apply Ev.step
        · intro k
          simp only [impl_AddWeights.l0]
          rw [if_neg (by omega)]
        · rw [drop_end]
          simp only [addG, List.zipWith_nil_left, List.append_nil]
          exact Ev.now _)
      (by
        intro i hi ih acc ha
        apply Ev.step
        · intro k
          simp only [impl_AddWeights.l0]
          rw [if_pos (by omega), if_pos (by omega), if_pos (by omega), if_pos (by omega), if_pos (by omega), rd_getElem u i hi, rd_getElem v i (by omega), w_succ hi (by omega)]
        · rw [addG_drop u v i he hi]
          have := ih (acc ++ [wrap64 (u[i] + v[i])]) (by simp [ha])
          rw [List.append_assoc] at this
          exact this)
    exact h [] rfl
  · refine Ev.ifn (by omega) ?_
    rw [if_neg he]
    exact Ev.now _
theorem addB_len (u v : List Int) : (addB u v).length ≤ u.length := by
  unfold addB
  by_cases he : u.length = v.length
  · rw [if_pos he, addG_len u v he]; omega
  · rw [if_neg he]; simp

end Go.Proofs.Ythpjhnfmafmanaa.Q
