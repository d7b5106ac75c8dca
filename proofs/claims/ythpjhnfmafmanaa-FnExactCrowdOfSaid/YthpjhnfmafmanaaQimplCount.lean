/- Lemmas on what the Lean functions of the print compute (implCount). Conditions: those in each lemma. -/
import Derived.Test.YthpjhnfmafmanaaA9
import Derived.Test.YthpjhnfmafmanaaZPc
import Derived.Test.YthpjhnfmafmanaaQsets
import Derived.Test.YthpjhnfmafmanaaQspecCount
namespace Go.Proofs.Ythpjhnfmafmanaa.Q
open Go Go.RowKit Go.Proofs.Ythpjhnfmafmanaa.A Go.Proofs.YthpjhnfmafmanaaW.PrintWords Go.Proofs.YthpjhnfmafmanaaW.PrintLast Go.Proofs.YthpjhnfmafmanaaW.PrintMore Go.Proofs.Ythpjhnfmafmanaa.Z
set_option linter.unusedVariables false
set_option linter.unusedSimpArgs false

set_option maxRecDepth 100000 in
theorem ones64 : ∀ s < 256, bits_OnesCount64.f ((s : Nat) : Int) = some ((pc s : Nat) : Int) := by decide +kernel
theorem implCount_eq (s : Nat) (h : s < 256) : impl_CountOf.f (s : Int) = some (pc s : Int) := by
  unfold impl_CountOf.f
  rw [isAny_eq, Option.bind_some, if_pos (by rw [isAnyB_nat]; simpa using h), u64_of (by omega) (by omega)]
  unfold bits_OnesCount.f
  rw [ones64 s h]
  rfl
theorem implCountB_eq (s : Int) : impl_CountOf.f s = some (countB s) := by
  by_cases h : isAnyB s = true
  · obtain ⟨t, rfl, ht⟩ := isAnyB_lt h
    rw [countB_nat ht]
    exact implCount_eq t ht
  · unfold impl_CountOf.f
    rw [isAny_eq, Option.bind_some, countB, if_neg h, if_neg h]

end Go.Proofs.Ythpjhnfmafmanaa.Q
