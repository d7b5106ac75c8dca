/- Lemmas on what the Lean functions of the print compute (elementsOf). Conditions: those in each lemma. -/
import Derived.Test.YthpjhnfmafmanaaA5
import Derived.Test.YthpjhnfmafmanaaZBits
import Derived.Test.YthpjhnfmafmanaaQsets
namespace Go.Proofs.Ythpjhnfmafmanaa.Q
open Go Go.RowKit Go.Proofs.Ythpjhnfmafmanaa.A Go.Proofs.YthpjhnfmafmanaaW.PrintWords Go.Proofs.YthpjhnfmafmanaaW.PrintLast Go.Proofs.YthpjhnfmafmanaaW.PrintMore Go.Proofs.Ythpjhnfmafmanaa.Z
set_option linter.unusedVariables false
set_option linter.unusedSimpArgs false

/-- The elements of a set, as whole numbers; none where it is no set. -/
def elsB (s : Int) : List Int := ((List.range 8).filter (fun e : Nat => hasB s (e : Int))).map (fun e : Nat => (e : Int))
theorem range'_cons {i n : Nat} (h : i < n) : List.range' i (n - i) = i :: List.range' (i + 1) (n - (i + 1)) := by
  rw [show n - i = (n - (i + 1)) + 1 from by omega, List.range'_succ]
theorem filter_cons_map {s : Int} {i : Nat} (l : List Nat) : ((i :: l).filter (fun e : Nat => hasB s (e : Int))).map (fun e : Nat => (e : Int)) = (if hasB s (i : Int) = true then [(i : Int)] else []) ++ (l.filter (fun e : Nat => hasB s (e : Int))).map (fun e : Nat => (e : Int)) := by
  rw [List.filter_cons]
  by_cases h : hasB s (i : Int) = true
  · rw [if_pos h, if_pos h]; rfl
  · rw [if_neg h, if_neg h]; rfl
theorem implElements_ev (s : Int) : Ev (fun k => impl_ElementsOf.f k s) (elsB s) := by
  have h := down (P := fun i => ∀ acc : List Int, acc.length ≤ i → Ev (fun k => impl_ElementsOf.l0 k s acc (i : Int)) (acc ++ ((List.range' i (8 - i)).filter (fun e : Nat => hasB s (e : Int))).map (fun e : Nat => (e : Int)))) 8
    (by
      intro acc ha
      apply Ev.step
      · intro k
        simp only [impl_ElementsOf.l0, implHas_eq, Option.bind_some]
        rw [if_neg (by omega)]
      · simpa using Ev.now _)
    (by
      intro i hi ih acc ha
      apply Ev.step
      · intro k
        simp only [impl_ElementsOf.l0, implHas_eq, Option.bind_some]
        rw [if_pos (by omega), w_succ hi (by omega)]
      · rw [range'_cons hi, filter_cons_map]
        by_cases hx : hasB s (i : Int) = true
        · refine Ev.ifp hx (Ev.ifp (by omega) ?_)
          rw [if_pos hx, ← List.append_assoc]
          exact ih (acc ++ [(i : Int)]) (by simp; omega)
        · refine Ev.ifn hx ?_
          rw [if_neg hx]
          exact ih acc (by omega))
  have h0 := h [] (Nat.le_refl 0)
  rw [show ((0 : Nat) : Int) = 0 from rfl] at h0
  have e : elsB s = [] ++ ((List.range' 0 (8 - 0)).filter (fun e : Nat => hasB s (e : Int))).map (fun e : Nat => (e : Int)) := by
    unfold elsB
    rw [List.nil_append, List.range_eq_range']
  rw [e]
  unfold impl_ElementsOf.f
  exact h0
theorem elsB_mem {s x : Int} (h : x ∈ elsB s) : ∃ e : Nat, x = e ∧ e < 8 ∧ hasB s (e : Int) = true := by
  simp only [elsB, List.mem_map, List.mem_filter, List.mem_range] at h
  obtain ⟨e, ⟨h1, h2⟩, rfl⟩ := h
  exact ⟨e, rfl, h1, h2⟩
theorem elsB_len (s : Int) : (elsB s).length ≤ 8 := by
  unfold elsB
  rw [List.length_map]
  exact Nat.le_trans (List.length_filter_le _ _) (by simp)
theorem elsB_nat {s : Nat} (h : s < 256) : elsB (s : Int) = (els s).map (fun e : Nat => (e : Int)) := by
  have e : (List.range 8).filter (fun e : Nat => hasB (s : Int) (e : Int)) = (List.range 8).filter (fun e : Nat => s.testBit e) :=
    List.filter_congr (fun e he => by
      rw [List.mem_range] at he
      rw [hasB_nat]
      simp [h, he])
  unfold elsB els
  rw [e]

end Go.Proofs.Ythpjhnfmafmanaa.Q
