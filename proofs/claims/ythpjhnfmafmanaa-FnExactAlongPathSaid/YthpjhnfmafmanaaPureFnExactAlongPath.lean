/- The program's AlongPath and the reference's answer alike at every argument, the pure form of the law. No condition beside the statement's own. -/
import Derived.Test.YthpjhnfmafmanaaA4
import Derived.Test.YthpjhnfmafmanaaA5
import Derived.Test.YthpjhnfmafmanaaQtoInt
import Derived.Test.YthpjhnfmafmanaaQisRenaming
namespace Go.Proofs.Ythpjhnfmafmanaa.Pure
open Go Go.RowKit Go.Proofs.Ythpjhnfmafmanaa.A Go.Proofs.YthpjhnfmafmanaaW.PrintWords Go.Proofs.YthpjhnfmafmanaaW.PrintLast Go.Proofs.YthpjhnfmafmanaaW.PrintMore Go.Proofs.Ythpjhnfmafmanaa.Z Go.Proofs.Ythpjhnfmafmanaa.Q
set_option linter.unusedVariables false
set_option linter.unusedSimpArgs false

/-- The elements of a path, gathered; none where one is no element or stands twice. -/
def apG : List Int → Nat → Option Nat
  | [], t => some t
  | x :: xs, t => if (decide (0 ≤ x) && decide (x ≤ 7) && !t.testBit x.toNat) = true then apG xs (t ||| 2 ^ x.toNat) else none
def alongB (s : Int) (l : List Int) (t : Nat) : Int := match apG l t with
  | none => s
  | some t => if isAnyB s = true then Go.bits .xor .i64 s (t : Int) else s
theorem alongB_nil (s : Int) (t : Nat) : alongB s [] t = if isAnyB s = true then Go.bits .xor .i64 s (t : Int) else s := rfl
theorem alongB_yes (s : Int) (x : Int) (xs : List Int) (t : Nat) (h : (decide (0 ≤ x) && decide (x ≤ 7) && !t.testBit x.toNat) = true) : alongB s (x :: xs) t = alongB s xs (t ||| 2 ^ x.toNat) := by
  simp only [alongB, apG]; rw [if_pos h]
theorem alongB_no (s : Int) (x : Int) (xs : List Int) (t : Nat) (h : (decide (0 ≤ x) && decide (x ≤ 7) && !t.testBit x.toNat) = false) : alongB s (x :: xs) t = s := by
  simp only [alongB, apG]; rw [if_neg (by rw [h]; decide)]
theorem or_xor {a x : Nat} (h : a.testBit x = false) : a ||| 2 ^ x = a ^^^ 2 ^ x := by
  apply Nat.eq_of_testBit_eq
  intro i
  rw [Nat.testBit_or, Nat.testBit_xor, Nat.testBit_two_pow]
  by_cases hi : x = i
  · subst hi; rw [h]; simp
  · simp [hi]
theorem specAlong_ev (s : Int) (l : List Int) (hl : l.length ≤ 17592186044416) : Ev (fun k => spec_AlongPath.f k s l) (alongB s l 0) := by
  have h := down (P := fun i => ∀ t : Nat, t < 256 → Ev (fun k => spec_AlongPath.l0 k s l (t : Int) (i : Int)) (alongB s (l.drop i) t)) l.length
    (by
      intro t ht
      apply Ev.step
      · intro k
        simp only [spec_AlongPath.l0, specIsSet_eq, Option.bind_some, isSet8]
        rw [if_neg (by omega)]
      · rw [drop_end, alongB_nil]
        by_cases ha : isAnyB s = true
        · refine Ev.ifp ha ?_
          rw [if_pos ha]; exact Ev.now _
        · refine Ev.ifn ha ?_
          rw [if_neg ha]; exact Ev.now _)
    (by
      intro i hi ih t ht
      apply Ev.step
      · intro k
        simp only [spec_AlongPath.l0, l1In_eq, Option.bind_some]
        rw [if_pos (by omega), if_pos (by omega), rd_getElem l i hi, w_succ hi hl]
      · rw [drop_cons l i hi]
        by_cases hx : (decide (0 ≤ l[i]) && decide (l[i] ≤ 7)) = true
        · refine Ev.ifp hx ?_
          have hx' := hx
          simp only [Bool.and_eq_true, decide_eq_true_eq] at hx
          obtain ⟨x, hxe⟩ := Int.eq_ofNat_of_zero_le hx.1
          rw [hxe] at hx hx' ⊢
          refine Ev.cbind (l2Has_eq (lt256_63 ht) (by omega)) ?_
          by_cases hb : t.testBit x = true
          · refine Ev.ifp hb ?_
            rw [alongB_no _ _ _ _ (by rw [Int.toNat_natCast, hb]; simp)]
            exact Ev.now _
          · refine Ev.ifn hb (Ev.ifp (u64_nonneg _) ?_)
            rw [alongB_yes _ _ _ _ (by rw [Int.toNat_natCast, Bool.eq_false_iff.2 hb, hx']; rfl)]
            have hx8 : x < 8 := by omega
            rw [Int.toNat_natCast, u64_of (by omega) (by omega), shl_one (by omega), or_nat (lt256_63 ht) (lt256_63 (pow_lt_256 hx8))]
            exact ih _ (or_lt ht hx8)
        · refine Ev.ifn hx ?_
          rw [alongB_no _ _ _ _ (by rw [Bool.eq_false_iff.2 hx]; rfl)]
          exact Ev.now _)
  exact h 0 (by omega)
theorem implAlong_ev (s : Int) (l : List Int) (hl : l.length ≤ 17592186044416) : Ev (fun k => impl_AlongPath.f k s l) (alongB s l 0) := by
  unfold impl_AlongPath.f
  by_cases ha : isAnyB s = true
  · obtain ⟨s, rfl, hs⟩ := isAnyB_lt ha
    have h := down (P := fun i => ∀ t : Nat, t < 256 → Ev (fun k => impl_AlongPath.l0 k (s : Int) ((s ^^^ t : Nat) : Int) (t : Int) l (l.length : Int) (i : Int)) (alongB (s : Int) (l.drop i) t)) l.length
      (by
        intro t ht
        apply Ev.step
        · intro k
          simp only [impl_AlongPath.l0]
          rw [if_neg (by omega)]
        · rw [drop_end, alongB_nil, if_pos ha, xor_nat (lt256_63 hs) (lt256_63 ht)]
          exact Ev.now _)
      (by
        intro i hi ih t ht
        apply Ev.step
        · intro k
          simp only [impl_AlongPath.l0, isAny_eq, Option.bind_some, implHas_eq]
          rw [if_pos (by omega), if_pos (by omega), if_pos (by omega), rd_getElem l i hi, w_succ hi hl, if_pos ha]
        · rw [drop_cons l i hi]
          by_cases h0 : l[i] < 0
          · refine Ev.ifp h0 ?_
            rw [alongB_no _ _ _ _ (by rw [show decide (0 ≤ l[i]) = false from by simpa using h0]; rfl)]
            exact Ev.now _
          · refine Ev.ifn h0 ?_
            by_cases h8 : l[i] ≥ 8
            · refine Ev.ifp h8 ?_
              rw [alongB_no _ _ _ _ (by rw [show decide (l[i] ≤ 7) = false from by simp; omega]; simp)]
              exact Ev.now _
            · refine Ev.ifn h8 ?_
              obtain ⟨x, hxe⟩ := Int.eq_ofNat_of_zero_le (show 0 ≤ l[i] by omega)
              rw [hxe] at h0 h8 ⊢
              have hx8 : x < 8 := by omega
              have c1 : (decide (0 ≤ (x : Int)) && decide ((x : Int) ≤ 7)) = true := by
                simp only [Bool.and_eq_true, decide_eq_true_eq]; omega
              have c2 : hasB (t : Int) (x : Int) = t.testBit x := by rw [hasB_nat]; simp [ht, hx8]
              rw [c2]
              by_cases hb : t.testBit x = true
              · refine Ev.ifp hb ?_
                rw [alongB_no _ _ _ _ (by rw [Int.toNat_natCast, hb]; simp)]
                exact Ev.now _
              · refine Ev.ifn hb (Ev.ifp (by omega) ?_)
                have hb' := Bool.eq_false_iff.2 hb
                rw [alongB_yes _ _ _ _ (by rw [Int.toNat_natCast, hb', c1]; rfl)]
                have hst : s ^^^ t < 2 ^ 63 := Nat.xor_lt_two_pow (lt256_63 hs) (lt256_63 ht)
                rw [Int.toNat_natCast, shl_one (by omega), or_nat (lt256_63 ht) (lt256_63 (pow_lt_256 hx8)), xor_nat hst (lt256_63 (pow_lt_256 hx8))]
                have e : (s ^^^ t) ^^^ 2 ^ x = s ^^^ (t ||| 2 ^ x) := by rw [or_xor hb', Nat.xor_assoc]
                rw [e]
                exact ih _ (or_lt ht hx8))
    have h0 := h 0 (by omega)
    simpa using h0
  · have ha' := Bool.eq_false_iff.2 ha
    cases l with
    | nil =>
      apply Ev.step
      · intro k
        simp only [impl_AlongPath.l0]
        rw [if_neg (by simp)]
      · rw [alongB_nil, if_neg ha]
        exact Ev.now _
    | cons x xs =>
      have e : alongB s (x :: xs) 0 = s := by
        unfold alongB
        cases apG (x :: xs) 0 with
        | none => rfl
        | some t => simp only []; rw [if_neg ha]
      rw [e]
      apply Ev.step
      · intro k
        simp only [impl_AlongPath.l0, isAny_eq, Option.bind_some]
        have hp : (0 : Int) < ((x :: xs).length : Int) := by rw [List.length_cons]; omega
        rw [if_pos hp, if_pos (by omega), if_pos hp, if_neg ha]
      · exact Ev.now _
theorem FnExactAlongPath : laws_FnExactAlongPath.Pure := by
  intro s l hn hm hl hw
  have hl' : l.length ≤ 17592186044416 := by omega
  unfold laws_FnExactAlongPath.f
  refine Ev.rounds ?_
  by_cases hb : (l.length : Int) > 1048576
  · exact Ev.ifp hb (Ev.now _)
  · refine Ev.ifn hb ?_
    refine Ev.bind (toInt_ev l hl') (Ev.bind (specAlong_ev s l hl') (Ev.bind (toInt_ev l hl') (Ev.bind (implAlong_ev s l hl') ?_)))
    refine Ev.ifp rfl (Ev.bind (toInt_ev l hl') (Ev.bind (eqInt_self l hl') ?_))
    exact Ev.ifp rfl (Ev.now _)

end Go.Proofs.Ythpjhnfmafmanaa.Pure
