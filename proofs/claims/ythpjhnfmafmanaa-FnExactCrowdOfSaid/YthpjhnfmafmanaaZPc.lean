/- Counting a set's elements: eight-bit facts by computation. Conditions: those in each lemma. -/
import Derived.Test.YthpjhnfmafmanaaZBits
namespace Go.Proofs.Ythpjhnfmafmanaa.Z
open Go Go.RowKit Go.Proofs.YthpjhnfmafmanaaW.PrintWords Go.Proofs.YthpjhnfmafmanaaW.PrintMore
theorem pc_step : ∀ x < 256, pc x = x % 2 + pc (x / 2) := by decide +kernel
theorem pc_le (s : Nat) : pc s ≤ 8 := by
  unfold pc els
  exact Nat.le_trans (List.length_filter_le _ _) (by simp)
theorem pc_zero : pc 0 = 0 := by decide
end Go.Proofs.Ythpjhnfmafmanaa.Z
