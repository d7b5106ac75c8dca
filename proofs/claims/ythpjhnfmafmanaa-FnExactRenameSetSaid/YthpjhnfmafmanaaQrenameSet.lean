/- Lemmas on what the Lean functions of the print compute (renameSet). Conditions: those in each lemma. -/
import Derived.Test.YthpjhnfmafmanaaA7
import Derived.Test.YthpjhnfmafmanaaA8
import Derived.Test.YthpjhnfmafmanaaZBits
import Derived.Test.YthpjhnfmafmanaaQsets
import Derived.Test.YthpjhnfmafmanaaQisRenaming
import Derived.Test.YthpjhnfmafmanaaQelementsOf
import Derived.Test.YthpjhnfmafmanaaQweightOf
namespace Go.Proofs.Ythpjhnfmafmanaa.Q
open Go Go.RowKit Go.Proofs.Ythpjhnfmafmanaa.A Go.Proofs.YthpjhnfmafmanaaW.PrintWords Go.Proofs.YthpjhnfmafmanaaW.PrintLast Go.Proofs.YthpjhnfmafmanaaW.PrintMore Go.Proofs.Ythpjhnfmafmanaa.Z
set_option linter.unusedVariables false
set_option linter.unusedSimpArgs false

theorem renG_mem {n : Int} : ∀ {l : List Int} {seen : Nat}, renG n l seen = true → ∀ x ∈ l, 0 ≤ x ∧ x < n ∧ x < 8 := by
  intro l
  induction l with
  | nil => intro seen _ x hx; simp at hx
  | cons y ys ih =>
    intro seen h x hx
    simp only [renG, Bool.and_eq_true, decide_eq_true_eq] at h
    rcases List.mem_cons.1 hx with rfl | hx
    · exact ⟨h.1.1.1.1, h.1.1.1.2, h.1.1.2⟩
    · exact ih h.2 x hx
/-- The places of some elements, gathered. -/
def orFold (l : List Int) (acc : Nat) (es : List Nat) : Nat := es.foldl (fun (a : Nat) (e : Nat) => a ||| 2 ^ (rd l (e : Int)).toNat) acc
def renSetN (l : List Int) (s : Nat) : Nat := orFold l 0 ((List.range l.length).filter (fun e => s.testBit e))
theorem rd_range {l : List Int} (hm : ∀ x ∈ l, 0 ≤ x ∧ x < 8) {i : Nat} (hi : i < l.length) : ∃ x : Nat, rd l (i : Int) = x ∧ x < 8 := by
  have h := hm _ (List.getElem_mem hi)
  obtain ⟨x, hx⟩ := Int.eq_ofNat_of_zero_le h.1
  exact ⟨x, by rw [rd_getElem l i hi, hx], by omega⟩
theorem spec18Set_ev (l : List Int) (s : Nat) (hl : l.length ≤ 17592186044416) (hm : ∀ x ∈ l, 0 ≤ x ∧ x < 8) (hs : s < 256) : Ev (fun k => spec_l18Set.f k l (s : Int)) ((renSetN l s : Nat) : Int) := by
  have h := down (P := fun i => ∀ acc : Nat, acc < 256 → Ev (fun k => spec_l18Set.l0 k l (s : Int) (acc : Int) (i : Int)) ((orFold l acc ((List.range' i (l.length - i)).filter (fun e => s.testBit e)) : Nat) : Int)) l.length
    (by
      intro acc ha
      apply Ev.step
      · intro k
        simp only [spec_l18Set.l0]
        rw [if_neg (by omega)]
      · rw [Nat.sub_self]
        exact Ev.now _)
    (by
      intro i hi ih acc ha
      obtain ⟨x, hx, hx8⟩ := rd_range hm hi
      apply Ev.step
      · intro k
        simp only [spec_l18Set.l0, l2Has_eq (lt256_63 hs) (show i < 2 ^ 63 by omega), Option.bind_some]
        rw [if_pos (by omega), w_succ hi hl]
      · rw [range'_cons hi, List.filter_cons]
        by_cases hb : s.testBit i = true
        · refine Ev.ifp hb (Ev.ifp (by omega) (Ev.ifp (u64_nonneg _) ?_))
          rw [if_pos hb, hx, u64_of (by omega) (by omega), shl_one (by omega), or_nat (lt256_63 ha) (lt256_63 (pow_lt_256 hx8))]
          have := ih _ (or_lt ha hx8)
          have e : orFold l acc (i :: (List.range' (i + 1) (l.length - (i + 1))).filter (fun e => s.testBit e)) = orFold l (acc ||| 2 ^ x) ((List.range' (i + 1) (l.length - (i + 1))).filter (fun e => s.testBit e)) := by
            simp only [orFold, List.foldl_cons, hx, Int.toNat_natCast]
          rw [e]; exact this
        · refine Ev.ifn hb ?_
          rw [if_neg hb]
          exact ih acc ha)
  have h0 := h 0 (by omega)
  rw [Nat.sub_zero, ← List.range_eq_range'] at h0
  exact h0
theorem implRenSet_ev (l : List Int) (s : Nat) (h8 : l.length ≤ 8) (hm : ∀ x ∈ l, 0 ≤ x ∧ x < 8) (hs : s < 2 ^ l.length) : Ev (fun k => impl_renameSet.f k l (s : Int)) ((renSetN l s : Nat) : Int) := by
  have hs256 : s < 256 := Nat.lt_of_lt_of_le hs (pow_le_256 h8)
  unfold impl_renameSet.f
  refine Ev.bind (implElements_ev _) ?_
  have he : elsB (s : Int) = ((List.range l.length).filter (fun e => s.testBit e)).map (fun e : Nat => (e : Int)) := by
    rw [elsB_nat hs256, els]
    have h1 : (List.range 8).filter (fun e => s.testBit e) = (List.range 8).filter (fun e => decide (e < l.length) && s.testBit e) :=
      List.filter_congr (fun e _ => by
        by_cases hq : e < l.length
        · simp [hq]
        · have : s.testBit e = false := Nat.testBit_lt_two_pow (Nat.lt_of_lt_of_le hs (Nat.pow_le_pow_right (by decide) (by omega)))
          simp [this])
    rw [h1, filter_range_swap, Nat.min_eq_right h8]
  rw [he]
  unfold renSetN
  have hes : ∀ e ∈ (List.range l.length).filter (fun e => s.testBit e), e < l.length := by
    intro e hmem
    simp at hmem
    exact hmem.1
  have hlen : ((List.range l.length).filter (fun e => s.testBit e)).length ≤ 8 := Nat.le_trans (List.length_filter_le _ _) (by simpa using h8)
  generalize (List.range l.length).filter (fun e => s.testBit e) = es at hes hlen
  have h := down (P := fun i => ∀ acc : Nat, acc < 256 → Ev (fun k => impl_renameSet.l0 k l (acc : Int) (es.map (fun e : Nat => (e : Int))) ((es.map (fun e : Nat => (e : Int))).length : Int) (i : Int)) ((orFold l acc (es.drop i) : Nat) : Int)) es.length
    (by
      intro acc ha
      apply Ev.step
      · intro k
        simp only [impl_renameSet.l0]
        rw [if_neg (by rw [List.length_map]; omega)]
      · rw [drop_end]; exact Ev.now _)
    (by
      intro i hi ih acc ha
      have hi' : i < (es.map (fun e : Nat => (e : Int))).length := by rw [List.length_map]; exact hi
      have hr : rd (es.map (fun e : Nat => (e : Int))) (i : Int) = (es[i] : Int) := by rw [rd_getElem _ _ hi', List.getElem_map]
      have hei := hes _ (List.getElem_mem hi)
      obtain ⟨x, hx, hx8⟩ := rd_range hm hei
      apply Ev.step
      · intro k
        simp only [impl_renameSet.l0]
        rw [if_pos (by omega), if_pos (by omega), if_pos (by omega), hr, if_pos (by omega), if_pos (by omega), hx, if_pos (by omega), w_succ hi (by omega), shl_one (by omega), or_nat (lt256_63 ha) (lt256_63 (pow_lt_256 hx8))]
      · have e : orFold l acc (es.drop i) = orFold l (acc ||| 2 ^ x) (es.drop (i + 1)) := by
          rw [drop_cons es i hi]
          simp only [orFold, List.foldl_cons, hx, Int.toNat_natCast]
        rw [e]
        exact ih _ (or_lt ha hx8))
  exact h 0 (by omega)
def renameSetB (l : List Int) (s : Int) : Int := if isRenB (l.length : Int) l = true then (if isSetB (l.length : Int) s = true then ((renSetN l s.toNat : Nat) : Int) else 0) else 0
theorem isRenB_facts {l : List Int} (h : isRenB (l.length : Int) l = true) : l.length ≤ 8 ∧ ∀ x ∈ l, 0 ≤ x ∧ x < 8 := by
  simp only [isRenB, Bool.and_eq_true, decide_eq_true_eq] at h
  refine ⟨by omega, fun x hx => ?_⟩
  have := renG_mem h.2 x hx
  omega
theorem specRenameSet_ev (l : List Int) (s : Int) (hl : l.length ≤ 17592186044416) : Ev (fun k => spec_RenameSet.f k l s) (renameSetB l s) := by
  unfold spec_RenameSet.f renameSetB
  refine Ev.bind (specRen_ev _ _ hl) ?_
  by_cases h : isRenB (l.length : Int) l = true
  · refine Ev.ifp h (Ev.cbind (specIsSet_eq _ _) ?_)
    rw [if_pos h]
    obtain ⟨h8, hm⟩ := isRenB_facts h
    by_cases hs : isSetB (l.length : Int) s = true
    · refine Ev.ifp hs ?_
      rw [if_pos hs]
      obtain ⟨m, t, hn, rfl, _, ht, h256⟩ := isSetB_lt hs
      rw [Int.toNat_natCast]
      exact Ev.bind (spec18Set_ev l t hl hm h256) (Ev.now _)
    · refine Ev.ifn hs ?_
      rw [if_neg hs]; exact Ev.now _
  · refine Ev.ifn h ?_
    rw [if_neg h]; exact Ev.now _
theorem implRenameSet_ev (l : List Int) (s : Int) (hl : l.length ≤ 17592186044416) : Ev (fun k => impl_RenameSet.f k l s) (renameSetB l s) := by
  unfold impl_RenameSet.f renameSetB
  refine Ev.bind (implRen_ev _ _ hl) ?_
  by_cases h : isRenB (l.length : Int) l = true
  · refine Ev.ifp h (Ev.cbind (implIsSet_eq _ _) ?_)
    rw [if_pos h]
    obtain ⟨h8, hm⟩ := isRenB_facts h
    by_cases hs : isSetB (l.length : Int) s = true
    · refine Ev.ifp hs ?_
      rw [if_pos hs]
      obtain ⟨m, t, hn, rfl, _, ht, h256⟩ := isSetB_lt hs
      rw [Int.toNat_natCast]
      have e : m = l.length := by omega
      exact Ev.bind (implRenSet_ev l t h8 hm (e ▸ ht)) (Ev.now _)
    · refine Ev.ifn hs ?_
      rw [if_neg hs]; exact Ev.now _
  · refine Ev.ifn h ?_
    rw [if_neg h]; exact Ev.now _

end Go.Proofs.Ythpjhnfmafmanaa.Q
