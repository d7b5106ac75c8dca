/- Lemmas on what the Lean functions of the print compute (specCount). Conditions: those in each lemma. -/
import Derived.Test.YthpjhnfmafmanaaA8
import Derived.Test.YthpjhnfmafmanaaZPc
import Derived.Test.YthpjhnfmafmanaaQsets
namespace Go.Proofs.Ythpjhnfmafmanaa.Q
open Go Go.RowKit Go.Proofs.Ythpjhnfmafmanaa.A Go.Proofs.YthpjhnfmafmanaaW.PrintWords Go.Proofs.YthpjhnfmafmanaaW.PrintLast Go.Proofs.YthpjhnfmafmanaaW.PrintMore Go.Proofs.Ythpjhnfmafmanaa.Z
set_option linter.unusedVariables false
set_option linter.unusedSimpArgs false

theorem specCount_l0 : ∀ (d x : Nat), x ≤ d → x < 256 → ∀ acc : Int, 0 ≤ acc → acc + (d : Int) ≤ 1000 → Ev (fun k => spec_CountOf.l0 k (x : Int) acc) (acc + (pc x : Int)) := by
  intro d
  induction d with
  | zero =>
    intro x hx _ acc h0 h1
    obtain rfl : x = 0 := by omega
    apply Ev.step
    · intro k
      simp only [spec_CountOf.l0]
      rw [if_neg (by decide)]
    · rw [pc_zero, show acc + ((0 : Nat) : Int) = acc from by omega]
      exact Ev.now _
  | succ d ih =>
    intro x hx h256 acc h0 h1
    by_cases hz : x = 0
    · subst hz
      exact ih 0 (by omega) h256 acc h0 (by omega)
    · have hb : Go.bits .and .i64 (x : Int) 1 = ((x % 2 : Nat) : Int) := by
        have := and_nat (a := x) (b := 1) (lt256_63 h256) (by decide)
        rw [Nat.and_one_is_mod] at this
        exact this
      apply Ev.step
      · intro k
        simp only [spec_CountOf.l0]
        rw [if_pos (by omega), hb, wrap64_of (by omega) (by omega), show (x : Int) / 2 = ((x / 2 : Nat) : Int) from by omega]
      · have hp := pc_step x h256
        have hl := pc_le (x / 2)
        have := ih (x / 2) (by omega) (by omega) (acc + ((x % 2 : Nat) : Int)) (by omega) (by omega)
        rw [show acc + ((x % 2 : Nat) : Int) + (pc (x / 2) : Int) = acc + (pc x : Int) from by omega] at this
        exact this
theorem specCount_ev (s : Nat) (h : s < 256) : Ev (fun k => spec_CountOf.f k (s : Int)) (pc s : Int) := by
  unfold spec_CountOf.f
  refine Ev.cbind (specIsSet_eq _ _) (Ev.ifp ?_ ?_)
  · rw [isSet8, isAnyB_nat]; simpa using h
  · have := specCount_l0 s s (Nat.le_refl _) h 0 (by omega) (by omega)
    rw [Int.zero_add] at this
    exact this
/-- CountOf at whatever number. -/
def countB (s : Int) : Int := if isAnyB s = true then (pc s.toNat : Int) else 0
theorem specCountB_ev (s : Int) : Ev (fun k => spec_CountOf.f k s) (countB s) := by
  by_cases h : isAnyB s = true
  · obtain ⟨t, rfl, ht⟩ := isAnyB_lt h
    rw [countB, if_pos h, Int.toNat_natCast]
    exact specCount_ev t ht
  · unfold spec_CountOf.f
    rw [countB, if_neg h]
    refine Ev.cbind (specIsSet_eq _ _) (Ev.ifn ?_ (Ev.now _))
    rw [isSet8]; exact h
theorem countB_nat {s : Nat} (h : s < 256) : countB (s : Int) = (pc s : Int) := by
  rw [countB, if_pos (by rw [isAnyB_nat]; simpa using h), Int.toNat_natCast]

end Go.Proofs.Ythpjhnfmafmanaa.Q
