/- Lemmas on what the Lean functions of the print compute (crowd). Conditions: those in each lemma. -/
import Derived.Test.YthpjhnfmafmanaaA8
import Derived.Test.YthpjhnfmafmanaaA9
import Derived.Test.YthpjhnfmafmanaaA10
import Derived.Test.YthpjhnfmafmanaaZPc
import Derived.Test.YthpjhnfmafmanaaQsets
import Derived.Test.YthpjhnfmafmanaaQareLists
import Derived.Test.YthpjhnfmafmanaaQspecCount
import Derived.Test.YthpjhnfmafmanaaQimplCount
namespace Go.Proofs.Ythpjhnfmafmanaa.Q
open Go Go.RowKit Go.Proofs.Ythpjhnfmafmanaa.A Go.Proofs.YthpjhnfmafmanaaW.PrintWords Go.Proofs.YthpjhnfmafmanaaW.PrintLast Go.Proofs.YthpjhnfmafmanaaW.PrintMore Go.Proofs.Ythpjhnfmafmanaa.Z
set_option linter.unusedVariables false
set_option linter.unusedSimpArgs false

/-- How many sets of a list meet a set. -/
def meetN (l : List Int) (t : Nat) : Nat := (l.filter (fun x => decide (x.toNat &&& t ≠ 0))).length
/-- The first of some sets that is a crowd within s. -/
def crowdG (l : List Int) (s : Nat) : List Nat → Int × Bool
  | [] => (0, false)
  | t :: ts => if t &&& s = t ∧ meetN l t < pc t then ((t : Int), true) else crowdG l s ts
def crowdB (n : Int) (l : List Int) (s : Int) : Int × Bool := if areListsB n l = true then (if isSetB n s = true then crowdG l s.toNat (List.range' 1 s.toNat) else (0, false)) else (0, false)
theorem meet_cons (x : Nat) (l : List Int) (t : Nat) : meetN ((x : Int) :: l) t = (if x &&& t = 0 then 0 else 1) + meetN l t := by
  unfold meetN
  rw [List.filter_cons, Int.toNat_natCast]
  by_cases h : x &&& t = 0
  · rw [if_neg (by simpa using h), if_pos h]; omega
  · rw [if_pos (by simpa using h), if_neg h, List.length_cons]; omega
theorem meet_le (l : List Int) (t : Nat) : meetN l t ≤ l.length := List.length_filter_le _ _
theorem setsB_mem {n : Int} {l : List Int} (h : setsB n l = true) : ∀ x ∈ l, ∃ t : Nat, x = t ∧ t < 256 := by
  intro x hx
  have := List.all_eq_true.1 h x hx
  obtain ⟨_, t, _, rfl, _, _, ht⟩ := isSetB_lt this
  exact ⟨t, rfl, ht⟩
theorem crowdG_no {l : List Int} {s t : Nat} {ts : List Nat} (h : ¬ (t &&& s = t ∧ meetN l t < pc t)) : crowdG l s (t :: ts) = crowdG l s ts := by
  simp only [crowdG]; rw [if_neg h]
theorem crowdG_yes {l : List Int} {s t : Nat} {ts : List Nat} (h : t &&& s = t ∧ meetN l t < pc t) : crowdG l s (t :: ts) = ((t : Int), true) := by
  simp only [crowdG]; rw [if_pos h]
theorem and_zero_iff {x t : Nat} (hx : x < 256) (ht : t < 256) : (Go.bits .and .i64 (x : Int) (t : Int) = 0) ↔ x &&& t = 0 := by
  rw [and_nat (lt256_63 hx) (lt256_63 ht)]
  omega
theorem specCrowd_l0 (l : List Int) (hl : l.length ≤ 6) (hm : ∀ x ∈ l, ∃ t : Nat, x = t ∧ t < 256) (s : Nat) (hs : s < 256) : Ev (fun k => spec_CrowdOf.l0 k l (s : Int) 1) (crowdG l s (List.range' 1 s)) := by
  have h := down (P := fun j => Ev (fun k => spec_CrowdOf.l0 k l (s : Int) ((1 + j : Nat) : Int)) (crowdG l s (List.range' (1 + j) (s - j)))) s
    (by
      apply Ev.step
      · intro k
        simp only [spec_CrowdOf.l0]
        rw [if_neg (by omega)]
      · rw [Nat.sub_self]; exact Ev.now _)
    (by
      intro j hj ih
      have e : List.range' (1 + j) (s - j) = (1 + j) :: List.range' (1 + (j + 1)) (s - (j + 1)) := by
        rw [show s - j = (s - (j + 1)) + 1 from by omega, List.range'_succ]; rfl
      rw [e]
      have ht : 1 + j < 256 := by omega
      generalize hte : 1 + j = t at ht
      have hih : Ev (fun k => spec_CrowdOf.l0 k l (s : Int) (wrap64 ((t : Int) + 1))) (crowdG l s (List.range' (1 + (j + 1)) (s - (j + 1)))) := by
        rw [wrap64_of (by omega) (by omega), show (t : Int) + 1 = ((1 + (j + 1) : Nat) : Int) from by omega]
        exact ih
      have hsub : (Go.bits .and .i64 (t : Int) (s : Int) = (t : Int)) ↔ t &&& s = t := by
        rw [and_nat (lt256_63 ht) (lt256_63 hs)]; omega
      apply Ev.step
      · intro k
        simp only [spec_CrowdOf.l0]
        rw [if_pos (by omega)]
      · by_cases hc : t &&& s = t
        · refine Ev.ifp (hsub.2 hc) ?_
          have h1 := down (P := fun i => ∀ c : Nat, c ≤ i → Ev (fun k => spec_CrowdOf.l1 k l (s : Int) (t : Int) (c : Int) (i : Int)) (if c + meetN (l.drop i) t < pc t then ((t : Int), true) else crowdG l s (List.range' (1 + (j + 1)) (s - (j + 1))))) l.length
            (by
              intro c hcl
              apply Ev.step
              · intro k
                simp only [spec_CrowdOf.l1]
                rw [if_neg (by omega)]
              · refine Ev.bind (specCount_ev t ht) ?_
                rw [drop_end]
                by_cases hp : c + meetN [] t < pc t
                · rw [if_pos hp]
                  have : meetN [] t = 0 := rfl
                  exact Ev.ifp (by omega) (Ev.now _)
                · rw [if_neg hp]
                  have : meetN [] t = 0 := rfl
                  exact Ev.ifn (by omega) hih)
            (by
              intro i hi ih1 c hcl
              obtain ⟨x, hx, hx256⟩ := hm _ (List.getElem_mem hi)
              apply Ev.step
              · intro k
                simp only [spec_CrowdOf.l1, spec_l1Bit.f]
                rw [if_pos (by omega), if_pos (by omega), rd_getElem l i hi, w_succ hi (by omega), hx]
              · rw [drop_cons l i hi, hx, meet_cons]
                by_cases hz : x &&& t = 0
                · have hq : ((Go.bits .and .i64 (x : Int) (t : Int)) != 0) = false := by
                    rw [bne_eq_false_iff_eq]; exact (and_zero_iff hx256 ht).2 hz
                  refine Ev.cbind (a := 0) (by rw [hq]; rfl) ?_
                  rw [if_pos hz, wrap64_of (by omega) (by omega), show (c : Int) + 0 = (c : Int) from by omega, Nat.zero_add]
                  exact ih1 c (by omega)
                · have hq : ((Go.bits .and .i64 (x : Int) (t : Int)) != 0) = true := by
                    rw [bne_iff_ne]; exact fun hc => hz ((and_zero_iff hx256 ht).1 hc)
                  refine Ev.cbind (a := 1) (by rw [hq]; rfl) ?_
                  rw [if_neg hz, wrap64_of (by omega) (by omega), show (c : Int) + 1 = ((c + 1 : Nat) : Int) from by omega, ← Nat.add_assoc]
                  exact ih1 (c + 1) (by omega))
          have h2 := h1 0 (by omega)
          rw [Nat.zero_add, List.drop_zero] at h2
          by_cases hp : meetN l t < pc t
          · rw [crowdG_yes ⟨hc, hp⟩]
            rw [if_pos hp] at h2; exact h2
          · rw [crowdG_no (fun hq => hp hq.2)]
            rw [if_neg hp] at h2; exact h2
        · refine Ev.ifn (fun hq => hc (hsub.1 hq)) ?_
          rw [crowdG_no (fun hq => hc hq.1)]
          exact hih)
  exact h
theorem specCrowd_ev (n : Int) (l : List Int) (s : Int) (hl : l.length ≤ 17592186044416) : Ev (fun k => spec_CrowdOf.f k n l s) (crowdB n l s) := by
  unfold spec_CrowdOf.f crowdB
  refine Ev.bind (specAreLists_ev n l hl) ?_
  by_cases h : areListsB n l = true
  · refine Ev.ifp h (Ev.cbind (specIsSet_eq _ _) ?_)
    rw [if_pos h]
    by_cases hs : isSetB n s = true
    · rw [if_pos hs, hs]
      obtain ⟨_, t, _, rfl, _, _, ht⟩ := isSetB_lt hs
      rw [Int.toNat_natCast]
      apply Ev.step
      · intro k
        rw [spec_CrowdOf.j0]
      · refine Ev.ifn (by decide) ?_
        simp only [areListsB, Bool.and_eq_true, decide_eq_true_eq] at h
        exact specCrowd_l0 l h.2.1 (setsB_mem h.2.2) t ht
    · rw [if_neg hs, Bool.eq_false_iff.2 hs]
      apply Ev.step
      · intro k
        rw [spec_CrowdOf.j0]
      · exact Ev.ifp rfl (Ev.now _)
  · refine Ev.ifn h ?_
    rw [if_neg h]
    apply Ev.step
    · intro k
      rw [spec_CrowdOf.j0]
    · exact Ev.ifp rfl (Ev.now _)
theorem subset_iff {t s : Nat} (ht : t < 256) (hs : s < 256) : impl_IsSubset.f (t : Int) (s : Int) = some (decide (t &&& s = t)) := by
  unfold impl_IsSubset.f
  rw [isAny_eq, isAny_eq, Option.bind_some, Option.bind_some, isAnyB_nat, isAnyB_nat, if_pos (by simpa using ht), if_pos (by simpa using hs), andNot_nat (lt256_63 ht) (lt256_63 hs)]
  congr 1
  rw [Bool.eq_iff_iff]
  simp only [beq_iff_eq, decide_eq_true_eq]
  rw [← dif_zero]
  omega
theorem implCrowd_l0 (l : List Int) (hl : l.length ≤ 6) (hm : ∀ x ∈ l, ∃ t : Nat, x = t ∧ t < 256) (s : Nat) (hs : s < 256) : Ev (fun k => impl_CrowdOf.l0 k l (s : Int) 0) (crowdG l s (List.range' 0 (s + 1))) := by
  have h := down (P := fun t => Ev (fun k => impl_CrowdOf.l0 k l (s : Int) (t : Int)) (crowdG l s (List.range' t (s + 1 - t)))) (s + 1)
    (by
      apply Ev.step
      · intro k
        simp only [impl_CrowdOf.l0]
        rw [if_neg (by omega)]
      · rw [Nat.sub_self]; exact Ev.now _)
    (by
      intro t hj ih
      have e : List.range' t (s + 1 - t) = t :: List.range' (t + 1) (s + 1 - (t + 1)) := by
        rw [show s + 1 - t = (s + 1 - (t + 1)) + 1 from by omega, List.range'_succ]
      rw [e]
      have ht : t < 256 := by omega
      have hih : Ev (fun k => impl_CrowdOf.l0 k l (s : Int) (wrap64 ((t : Int) + 1))) (crowdG l s (List.range' (t + 1) (s + 1 - (t + 1)))) := by
        rw [wrap64_of (by omega) (by omega)]
        exact ih
      apply Ev.step
      · intro k
        simp only [impl_CrowdOf.l0, subset_iff ht hs, Option.bind_some]
        rw [if_pos (by omega)]
      · by_cases hc : t &&& s = t
        · refine Ev.ifp (by simpa using hc) ?_
          have h1 := down (P := fun i => ∀ c : Nat, c ≤ i → Ev (fun k => impl_CrowdOf.l1 k l (s : Int) (t : Int) (c : Int) l (l.length : Int) (i : Int)) (if c + meetN (l.drop i) t < pc t then ((t : Int), true) else crowdG l s (List.range' (t + 1) (s + 1 - (t + 1))))) l.length
            (by
              intro c hcl
              apply Ev.step
              · intro k
                simp only [impl_CrowdOf.l1, implCount_eq t ht, Option.bind_some]
                rw [if_neg (by omega)]
              · rw [drop_end]
                by_cases hp : c + meetN [] t < pc t
                · rw [if_pos hp]
                  have : meetN [] t = 0 := rfl
                  exact Ev.ifp (by omega) (Ev.now _)
                · rw [if_neg hp]
                  have : meetN [] t = 0 := rfl
                  exact Ev.ifn (by omega) hih)
            (by
              intro i hi ih1 c hcl
              obtain ⟨x, hx, hx256⟩ := hm _ (List.getElem_mem hi)
              apply Ev.step
              · intro k
                simp only [impl_CrowdOf.l1]
                rw [if_pos (by omega), if_pos (by omega), if_pos (by omega), rd_getElem l i hi, w_succ hi (by omega), hx]
              · rw [drop_cons l i hi, hx, meet_cons]
                by_cases hz : x &&& t = 0
                · refine Ev.ifp ((and_zero_iff hx256 ht).2 hz) ?_
                  rw [if_pos hz, Nat.zero_add]
                  exact ih1 c (by omega)
                · refine Ev.ifn (fun hc => hz ((and_zero_iff hx256 ht).1 hc)) ?_
                  rw [if_neg hz, wrap64_of (by omega) (by omega), show (c : Int) + 1 = ((c + 1 : Nat) : Int) from by omega, ← Nat.add_assoc]
                  exact ih1 (c + 1) (by omega))
          have h2 := h1 0 (by omega)
          rw [Nat.zero_add, List.drop_zero] at h2
          by_cases hp : meetN l t < pc t
          · rw [crowdG_yes ⟨hc, hp⟩]
            rw [if_pos hp] at h2; exact h2
          · rw [crowdG_no (fun hq => hp hq.2)]
            rw [if_neg hp] at h2; exact h2
        · refine Ev.ifn (by simpa using hc) ?_
          rw [crowdG_no (fun hq => hc hq.1)]
          exact hih)
  exact h
theorem implCrowd_ev (n : Int) (l : List Int) (s : Int) (hl : l.length ≤ 17592186044416) : Ev (fun k => impl_CrowdOf.f k n l s) (crowdB n l s) := by
  unfold impl_CrowdOf.f crowdB
  refine Ev.bind (implAreLists_ev n l hl) ?_
  by_cases h : areListsB n l = true
  · refine Ev.ifp h (Ev.cbind (implIsSet_eq _ _) ?_)
    rw [if_pos h]
    by_cases hs : isSetB n s = true
    · rw [if_pos hs, hs]
      obtain ⟨_, t, _, rfl, _, _, ht⟩ := isSetB_lt hs
      rw [Int.toNat_natCast]
      apply Ev.step
      · intro k
        rw [impl_CrowdOf.j0]
      · refine Ev.ifn (by decide) ?_
        simp only [areListsB, Bool.and_eq_true, decide_eq_true_eq] at h
        have h0 := implCrowd_l0 l h.2.1 (setsB_mem h.2.2) t ht
        rw [List.range'_succ, crowdG_no (fun hq => by rw [pc_zero] at hq; omega)] at h0
        exact h0
    · rw [if_neg hs, Bool.eq_false_iff.2 hs]
      apply Ev.step
      · intro k
        rw [impl_CrowdOf.j0]
      · exact Ev.ifp rfl (Ev.now _)
  · refine Ev.ifn h ?_
    rw [if_neg h]
    apply Ev.step
    · intro k
      rw [impl_CrowdOf.j0]
    · exact Ev.ifp rfl (Ev.now _)

end Go.Proofs.Ythpjhnfmafmanaa.Q
