/- The pure side of the law FnTransversals: what the Lean functions of the print compute, and that the law holds of them. Conditions: those in each lemma. -/
import Derived.Test.YtimkekeaeojpkaaMFnTransversals1
import Derived.Test.YtimkekeaeojpkaaMFnTransversals2
import Derived.Test.YtimkekeaeojpkaaMFnTransversals3
import Derived.Test.YtimkekeaeojpkaaMFnTransversals4
import Derived.Test.YtimkekeaeojpkaaMFnTransversals5
import Derived.Test.YtimkekeaeojpkaaMFnTransversals6
import Derived.Test.YtimkekeaeojpkaaMFnTransversals7
import Derived.Test.YtimkekeaeojpkaaMFnTransversals8
import Derived.Test.YtimkekeaeojpkaaMFnTransversalsq0
namespace Go.Proofs.Ytimkekeaeojpkaa.Q
open Go Go.RowKit Go.Proofs.Ytimkekeaeojpkaa.A Go.Proofs.YtimkekeaeojpkaaW.PrintWords Go.Proofs.YtimkekeaeojpkaaW.PrintLast Go.Proofs.YtimkekeaeojpkaaW.PrintMore Go.Proofs.Ytimkekeaeojpkaa.Z
set_option linter.unusedVariables false
set_option linter.unusedSimpArgs false
theorem l1In_eq (a b c : Int) : spec_l1In.f a b c = some (decide (b ≤ a) && decide (a ≤ c)) := by
  unfold spec_l1In.f
  by_cases h : a ≥ b
  · rw [if_pos h]; simp [h]
  · rw [if_neg h]; simp only [ge_iff_le] at h; simp [h]
theorem isSize_eq (a : Int) : impl_isSize.f a = some (decide (0 ≤ a) && decide (a ≤ 8)) := by
  unfold impl_isSize.f
  by_cases h : a ≥ 0
  · rw [if_pos h]; simp [h]
  · rw [if_neg h]; simp only [ge_iff_le] at h; simp [h]
theorem specIsSet_eq (n s : Int) : spec_IsSet.f n s = some (isSetB n s) := by
  unfold spec_IsSet.f
  rw [l1In_eq, Option.bind_some]
  unfold isSetB
  by_cases h : (decide (0 ≤ n) && decide (n ≤ 8)) = true
  · rw [if_pos h, if_pos (u64_nonneg _), l1In_eq, Option.bind_some, h, Bool.true_and]
    simp only [Bool.and_eq_true, decide_eq_true_eq] at h
    obtain ⟨m, rfl⟩ := Int.eq_ofNat_of_zero_le h.1
    have h8 : m ≤ 8 := by omega
    rw [u64_of (by omega) (by omega), shl_one (by omega)]
    have hp := pow_le_256 h8
    rw [Int.toNat_natCast]
    have e : (2 : Int) ^ m = ((2 ^ m : Nat) : Int) := by simp
    rw [e]
    generalize 2 ^ m = q at hp
    rw [wrap64_of (by omega) (by omega)]
    congr 2
    rw [Bool.eq_iff_iff]
    simp only [decide_eq_true_eq]
    omega
  · rw [if_neg h, Bool.eq_false_iff.2 h, Bool.false_and]
theorem implIsSet_eq (n s : Int) : impl_IsSet.f n s = some (isSetB n s) := by
  unfold impl_IsSet.f
  rw [isSize_eq, Option.bind_some]
  unfold isSetB
  by_cases h : (decide (0 ≤ n) && decide (n ≤ 8)) = true
  · rw [if_pos h, h, Bool.true_and]
    simp only [Bool.and_eq_true, decide_eq_true_eq] at h
    by_cases hs : s ≥ 0
    · rw [if_pos hs, if_pos h.1]
      obtain ⟨m, rfl⟩ := Int.eq_ofNat_of_zero_le h.1
      rw [shl_one (by omega), Int.toNat_natCast]
      have e : ((2 ^ m : Nat) : Int) = 2 ^ m := by simp
      rw [e]
      have : decide (0 ≤ s) = true := by simpa using hs
      rw [this, Bool.true_and]
    · rw [if_neg hs]
      have : decide (0 ≤ s) = false := by simpa using hs
      rw [this, Bool.false_and]
  · rw [if_neg h, Bool.eq_false_iff.2 h, Bool.false_and]
theorem isSet8 (s : Int) : isSetB 8 s = isAnyB s := by
  unfold isSetB isAnyB
  rw [Bool.eq_iff_iff]
  simp
theorem isAny_eq (s : Int) : impl_isAny.f s = some (isAnyB s) := by
  unfold impl_isAny.f isAnyB
  by_cases h : s ≥ 0
  · rw [if_pos h]; simp [h]
  · rw [if_neg h]; simp only [ge_iff_le] at h; simp [h]
theorem isAnyB_lt {s : Int} (h : isAnyB s = true) : ∃ t : Nat, s = t ∧ t < 256 := by
  simp only [isAnyB, Bool.and_eq_true, decide_eq_true_eq] at h
  obtain ⟨t, rfl⟩ := Int.eq_ofNat_of_zero_le h.1
  exact ⟨t, rfl, by omega⟩
theorem implHas_eq (s e : Int) : impl_HasElement.f s e = some (hasB s e) := by
  unfold impl_HasElement.f hasB
  rw [isAny_eq, Option.bind_some]
  by_cases h : isAnyB s = true
  · rw [if_pos h, h, Bool.true_and]
    obtain ⟨t, rfl, ht⟩ := isAnyB_lt h
    by_cases h0 : e ≥ 0
    · rw [if_pos h0]
      obtain ⟨m, rfl⟩ := Int.eq_ofNat_of_zero_le h0
      by_cases h8 : (m : Int) < 8
      · rw [if_pos h8, if_pos h0, bit_nat (lt256_63 ht)]
        simp [h8]
      · rw [if_neg h8]; simp [h8]
    · rw [if_neg h0]; simp only [ge_iff_le] at h0; simp [h0]
  · rw [if_neg h, Bool.eq_false_iff.2 h]; simp
theorem l2Has_eq {s e : Nat} (hs : s < 2 ^ 63) (he : e < 2 ^ 63) : spec_l2Has.f (s : Int) (e : Int) = some (s.testBit e) := by
  unfold spec_l2Has.f
  rw [if_pos (u64_nonneg _), u64_of (by omega) (by omega), bit_nat hs]
theorem specHas_eq (s e : Int) : spec_HasElement.f s e = some (hasB s e) := by
  unfold spec_HasElement.f hasB
  rw [specIsSet_eq, Option.bind_some, isSet8]
  by_cases h : isAnyB s = true
  · rw [if_pos h, h, Bool.true_and, l1In_eq, Option.bind_some]
    obtain ⟨t, rfl, ht⟩ := isAnyB_lt h
    by_cases h0 : (decide (0 ≤ e) && decide (e ≤ 7)) = true
    · rw [if_pos h0]
      simp only [Bool.and_eq_true, decide_eq_true_eq] at h0
      obtain ⟨m, rfl⟩ := Int.eq_ofNat_of_zero_le h0.1
      rw [l2Has_eq (lt256_63 ht) (by omega), Option.bind_some]
      have : decide ((m : Int) < 8) = true := by simp; omega
      simp [this]
    · rw [if_neg h0]
      have : (decide (0 ≤ e) && decide (e < 8)) = false := by
        rw [Bool.eq_false_iff]
        intro hc
        apply h0
        simp only [Bool.and_eq_true, decide_eq_true_eq] at *
        omega
      rw [this, Bool.false_and]
  · rw [if_neg h, Bool.eq_false_iff.2 h]; simp
end Go.Proofs.Ytimkekeaeojpkaa.Q
namespace Go.Proofs.Ytimkekeaeojpkaa.Q
open Go Go.RowKit Go.Proofs.Ytimkekeaeojpkaa.A Go.Proofs.YtimkekeaeojpkaaW.PrintWords Go.Proofs.YtimkekeaeojpkaaW.PrintLast Go.Proofs.YtimkekeaeojpkaaW.PrintMore Go.Proofs.Ytimkekeaeojpkaa.Z
set_option linter.unusedVariables false
set_option linter.unusedSimpArgs false
/-- From some number of rounds on it answers one thing, of which P holds. -/
def ExE {α : Type} (g : Nat → Option α) (P : α → Prop) : Prop := ∃ r, Ev g r ∧ P r
theorem ExE.now {α : Type} {r : α} {P : α → Prop} (h : P r) : ExE (fun _ => some r) P := ⟨r, Ev.now _, h⟩
theorem ExE.bind {α β : Type} {g : Nat → Option α} {f : Nat → α → Option β} {P : α → Prop} {R : β → Prop} (h : ExE g P) (k : ∀ a, P a → ExE (fun n => f n a) R) : ExE (fun n => (g n).bind (f n)) R := by
  obtain ⟨a, ha, hp⟩ := h
  obtain ⟨b, hb, hr⟩ := k a hp
  exact ⟨b, Ev.bind ha hb, hr⟩
theorem ExE.cbind {α β : Type} {g : Option α} {f : Nat → α → Option β} {P : α → Prop} {R : β → Prop} (h : ∃ a, g = some a ∧ P a) (k : ∀ a, P a → ExE (fun n => f n a) R) : ExE (fun n => g.bind (f n)) R := by
  obtain ⟨a, ha, hp⟩ := h
  obtain ⟨b, hb, hr⟩ := k a hp
  exact ⟨b, Ev.cbind ha hb, hr⟩
theorem ExE.ite {α : Type} {c : Prop} [Decidable c] {g f : Nat → Option α} {P : α → Prop} (h : c → ExE g P) (k : ¬ c → ExE f P) : ExE (fun n => if c then g n else f n) P := by
  by_cases hc : c
  · obtain ⟨r, hr, hp⟩ := h hc; exact ⟨r, Ev.ifp hc hr, hp⟩
  · obtain ⟨r, hr, hp⟩ := k hc; exact ⟨r, Ev.ifn hc hr, hp⟩
theorem ExE.ifp {α : Type} {c : Prop} [Decidable c] {g f : Nat → Option α} {P : α → Prop} (hc : c) (h : ExE g P) : ExE (fun n => if c then g n else f n) P := ExE.ite (fun _ => h) (fun k => absurd hc k)
theorem ExE.step {α : Type} {g f : Nat → Option α} {P : α → Prop} (h : ∀ k, g (k + 1) = f k) (k : ExE f P) : ExE g P := by
  obtain ⟨r, hr, hp⟩ := k
  exact ⟨r, Ev.step h hr, hp⟩
theorem ExE.imp {α : Type} {g : Nat → Option α} {P R : α → Prop} (h : ExE g P) (k : ∀ a, P a → R a) : ExE g R := by
  obtain ⟨r, hr, hp⟩ := h
  exact ⟨r, hr, k r hp⟩
theorem ExE.of {α : Type} {g : Nat → Option α} {r : α} {P : α → Prop} (h : Ev g r) (hp : P r) : ExE g P := ⟨r, h, hp⟩
theorem and255 (v : Int) : 0 ≤ Go.bits .and .i64 v 255 ∧ Go.bits .and .i64 v 255 < 256 := by
  have h : ∀ n : Nat, n ≤ 255 → IntKind.i64.wrap (n : Int) = (n : Int) := fun n hn => i64_wrap_nat (by omega)
  simp only [Go.bits, BitVec.toNat_and]
  have hle : (BitVec.ofInt IntKind.i64.bits v).toNat &&& (BitVec.ofInt IntKind.i64.bits 255).toNat ≤ 255 := Nat.le_trans Nat.and_le_right (by decide)
  rw [h _ hle]
  omega
theorem l1Byte_ex {b : List Int} (hb : b.length ≤ 17592186044416) {p h : Int} (hp : 0 ≤ p) : ∃ r, spec_l1Byte.f b p h = some r ∧ 0 ≤ r.1 ∧ r.1 < 256 ∧ 0 ≤ r.2.1 := by
  unfold spec_l1Byte.f
  by_cases h1 : p < (b.length : Int)
  · rw [if_pos h1, if_pos hp]
    exact ⟨_, rfl, (and255 _).1, (and255 _).2, by show 0 ≤ wrap64 (p + 1); rw [wrap64_of (n := p + 1) (by omega) (by omega)]; omega⟩
  · rw [if_neg h1]
    exact ⟨_, rfl, (and255 _).1, (and255 _).2, hp⟩
theorem tmod_lt {x n : Int} (hx : 0 ≤ x) (hn : 0 < n) : 0 ≤ Int.tmod x n ∧ Int.tmod x n < n := by
  rw [Int.tmod_eq_emod_of_nonneg hx]
  exact ⟨Int.emod_nonneg _ (by omega), Int.emod_lt_of_pos _ hn⟩
theorem l1Below_ex {b : List Int} (hb : b.length ≤ 17592186044416) {p h : Int} (hp : 0 ≤ p) (n : Int) : ∃ r, spec_l1Below.f b p h n = some r ∧ 0 ≤ r.1 ∧ (0 < n → r.1 < n) ∧ (n ≤ 0 → r.1 = 0) ∧ 0 ≤ r.2.1 := by
  unfold spec_l1Below.f
  by_cases h1 : n ≤ 0
  · rw [if_pos h1]
    exact ⟨_, rfl, Int.le_refl _, fun h => by omega, fun _ => rfl, hp⟩
  rw [if_neg h1]
  have hn : ¬ n = 0 := by omega
  by_cases h2 : n ≤ 256
  · rw [if_pos h2]
    obtain ⟨r, e, r1, r2, r3⟩ := l1Byte_ex hb (h := h) hp
    rw [e, Option.bind_some, if_neg hn]
    have := tmod_lt r1 (show 0 < n by omega)
    exact ⟨_, rfl, this.1, fun _ => this.2, fun h => absurd h h1, r3⟩
  · rw [if_neg h2]
    obtain ⟨x, e, x1, x2, x3⟩ := l1Byte_ex hb (h := h) hp
    rw [e, Option.bind_some]
    obtain ⟨y, e, y1, y2, y3⟩ := l1Byte_ex hb (h := x.2.2) x3
    rw [e, Option.bind_some]
    obtain ⟨z, e, z1, z2, z3⟩ := l1Byte_ex hb (h := y.2.2) y3
    rw [e, Option.bind_some]
    obtain ⟨w, e, w1, w2, w3⟩ := l1Byte_ex hb (h := z.2.2) z3
    rw [e, Option.bind_some, if_neg hn]
    have e1 : 0 ≤ wrap64 ((wrap64 ((wrap64 ((wrap64 (x.1 * 16777216)) + (wrap64 (y.1 * 65536)))) + (wrap64 (z.1 * 256)))) + w.1) := by
      rw [wrap64_of (n := x.1 * 16777216) (by omega) (by omega), wrap64_of (n := y.1 * 65536) (by omega) (by omega), wrap64_of (n := z.1 * 256) (by omega) (by omega)]
      rw [wrap64_of (n := x.1 * 16777216 + y.1 * 65536) (by omega) (by omega), wrap64_of (n := x.1 * 16777216 + y.1 * 65536 + z.1 * 256) (by omega) (by omega), wrap64_of (by omega) (by omega)]
      omega
    have := tmod_lt e1 (show 0 < n by omega)
    exact ⟨_, rfl, this.1, fun _ => this.2, fun h => absurd h h1, w3⟩
theorem l1PickInt_ex {b : List Int} (hb : b.length ≤ 17592186044416) {p h : Int} (hp : 0 ≤ p) {l : List Int} (hl : l ≠ []) : ∃ r, spec_l1PickInt.f b p h l = some r ∧ r.1 ∈ l ∧ 0 ≤ r.2.1 := by
  unfold spec_l1PickInt.f
  obtain ⟨r, e, r1, r2, _, r3⟩ := l1Below_ex hb (h := h) hp (l.length : Int)
  have h0 : 0 < l.length := List.length_pos_iff.2 hl
  have hlt := r2 (by omega)
  rw [e, Option.bind_some, if_pos r1, if_pos hlt]
  exact ⟨_, rfl, rd_mem l r.1 r1 hlt, r3⟩
theorem l1New_ev (l : List Int) (hl : l.length ≤ 17592186044416) : ExE (fun k => spec_l1New.f k l) (fun r => r.1 = l ∧ r.2.1 = 0) := by
  unfold spec_l1New.f
  have hd := down (P := fun i => ∀ h : Int, ExE (fun k => spec_l1New.l0 k l h (i : Int)) (fun r => r.1 = l ∧ r.2.1 = 0)) l.length
    (by
      intro h
      apply ExE.step
      · intro k
        rw [spec_l1New.l0, if_neg (by omega)]
      · exact ExE.now ⟨rfl, rfl⟩)
    (by
      intro i hi ih h
      apply ExE.step
      · intro k
        rw [spec_l1New.l0, if_pos (by omega), w_succ hi hl]
      · refine ExE.ite (fun _ => ExE.ite (fun _ => ih _) (fun h => absurd (by omega) h)) (fun _ => ExE.now ⟨rfl, rfl⟩))
  exact hd _
end Go.Proofs.Ytimkekeaeojpkaa.Q
namespace Go.Proofs.Ytimkekeaeojpkaa.Q
open Go Go.RowKit Go.Proofs.Ytimkekeaeojpkaa.A Go.Proofs.YtimkekeaeojpkaaW.PrintWords Go.Proofs.YtimkekeaeojpkaaW.PrintLast Go.Proofs.YtimkekeaeojpkaaW.PrintMore Go.Proofs.Ytimkekeaeojpkaa.Z
set_option linter.unusedVariables false
set_option linter.unusedSimpArgs false
theorem l15Draw_ev {b : List Int} (hb : b.length ≤ 17592186044416) {p h : Int} (hp : 0 ≤ p) (n : Int) : ExE (fun k => spec_l15Draw.f k b p h n) (fun r => r.1.length ≤ 5 ∧ 0 ≤ r.2.1) := by
  unfold spec_l15Draw.f
  obtain ⟨c, e, c1, c2, _, c3⟩ := l1Below_ex hb (h := h) hp 5
  refine ExE.cbind (P := fun a => a = c) ⟨c, e, rfl⟩ ?_
  rintro a rfl
  obtain ⟨m, hm⟩ := Int.eq_ofNat_of_zero_le c1
  have hm5 : m < 5 := by have := c2 (by omega); omega
  rw [hm]
  have hd := down (P := fun i => ∀ (l : List Int) (p h : Int), 0 ≤ p → l.length ≤ i → ExE (fun k => spec_l15Draw.l0 k n l (m : Int) (i : Int) b p h) (fun r => r.1.length ≤ 5 ∧ 0 ≤ r.2.1)) m
    (by
      intro l p h hp hl
      apply ExE.step
      · intro k
        rw [spec_l15Draw.l0, if_neg (by omega)]
      · exact ExE.now ⟨by simp only []; omega, hp⟩)
    (by
      intro i hi ih l p h hp hl
      apply ExE.step
      · intro k
        rw [spec_l15Draw.l0, if_pos (by omega), if_pos (u64_nonneg _), w_succ hi (by omega)]
      · obtain ⟨x, ex, _, _, _, x3⟩ := l1Below_ex hb (h := h) hp (shl .i64 1 (IntKind.u64.wrap n))
        refine ExE.cbind (P := fun a => a = x) ⟨x, ex, rfl⟩ ?_
        rintro a rfl
        exact ExE.ifp (by omega) (ih _ _ _ x3 (by rw [List.length_append, List.length_singleton]; omega)))
  exact hd [] _ _ c3 (Nat.le_refl _)
theorem drawAreLists_ev (l : List Int) (hl : l.length ≤ 17592186044416) : ExE (fun k => spec_DrawAreLists.f k l) (fun r => r.2.length ≤ 10) := by
  unfold spec_DrawAreLists.f
  refine ExE.bind (l1New_ev l hl) ?_
  rintro ⟨b, p, h⟩ ⟨rfl, hp⟩
  simp only at hp
  subst hp
  obtain ⟨x, ex, _, _, _, x3⟩ := l1Below_ex hl (h := h) (Int.le_refl 0) 7
  refine ExE.cbind (P := fun a => a = x) ⟨x, ex, rfl⟩ ?_
  rintro a rfl
  refine ExE.bind (l15Draw_ev hl x3 _) ?_
  rintro y ⟨y1, y2⟩
  obtain ⟨z, ez, _, _, _, z3⟩ := l1Below_ex hl (h := y.2.2) y2 8
  refine ExE.cbind (P := fun a => a = z) ⟨z, ez, rfl⟩ ?_
  rintro a rfl
  refine ExE.ite (fun _ => ?_) (fun _ => ExE.ite (fun _ => ?_) (fun _ => ExE.now (by simp only []; omega)))
  · refine ExE.cbind (P := fun a => a = [0, 0, 0, 0, 0]) ⟨_, rfl, rfl⟩ ?_
    rintro a rfl
    exact ExE.ifp (by simp; omega) (ExE.now (by simp; omega))
  · obtain ⟨u, eu, _, _⟩ := l1PickInt_ex hl (h := a.2.2) z3 (l := [(-1), 1, 9]) (by simp)
    refine ExE.cbind (P := fun a => a = u) ⟨u, eu, rfl⟩ ?_
    rintro a rfl
    exact ExE.now (by simp only []; omega)
theorem drawFromSets_ev (l : List Int) (hl : l.length ≤ 17592186044416) : ExE (fun k => spec_DrawFromSets.f k l) (fun r => r.2.length ≤ 10) := by
  unfold spec_DrawFromSets.f
  exact ExE.bind (drawAreLists_ev l hl) (fun a ha => ExE.now ha)
theorem drawAssignmentOf_ev (l : List Int) (hl : l.length ≤ 17592186044416) : ExE (fun k => spec_DrawAssignmentOf.f k l) (fun r => r.2.1.length ≤ 10) := by
  unfold spec_DrawAssignmentOf.f
  refine ExE.bind (drawAreLists_ev l hl) ?_
  intro a ha
  refine ExE.bind (l1New_ev l hl) ?_
  rintro ⟨b, p, h⟩ ⟨rfl, hp⟩
  simp only at hp
  subst hp
  obtain ⟨x, ex, _, _, _, x3⟩ := l1Below_ex hl (h := h) (Int.le_refl 0) 64
  refine ExE.cbind (P := fun a => a = x) ⟨x, ex, rfl⟩ ?_
  rintro c rfl
  exact ExE.now ha
end Go.Proofs.Ytimkekeaeojpkaa.Q
namespace Go.Proofs.Ytimkekeaeojpkaa.Q
open Go Go.RowKit Go.Proofs.Ytimkekeaeojpkaa.A Go.Proofs.YtimkekeaeojpkaaW.PrintWords Go.Proofs.YtimkekeaeojpkaaW.PrintLast Go.Proofs.YtimkekeaeojpkaaW.PrintMore Go.Proofs.Ytimkekeaeojpkaa.Z
set_option linter.unusedVariables false
set_option linter.unusedSimpArgs false
theorem sameInts_self (l : List Int) (hl : l.length ≤ 17592186044416) : Ev (fun k => laws_sameInts.f k l l) true := by
  unfold laws_sameInts.f
  have hd := down (P := fun i => Ev (fun k => laws_sameInts.l0 k l l (i : Int)) true) l.length
    (by
      apply Ev.step
      · intro k
        rw [laws_sameInts.l0, if_neg (by omega)]
      · exact Ev.now _)
    (by
      intro i hi ih
      apply Ev.step
      · intro k
        rw [laws_sameInts.l0, if_pos (by omega), if_pos (by omega), if_pos (by omega), if_pos rfl, w_succ hi hl]
      · exact ih)
  exact Ev.ifp rfl hd
end Go.Proofs.Ytimkekeaeojpkaa.Q
namespace Go.Proofs.Ytimkekeaeojpkaa.Q
open Go Go.RowKit Go.Proofs.Ytimkekeaeojpkaa.A Go.Proofs.YtimkekeaeojpkaaW.PrintWords Go.Proofs.YtimkekeaeojpkaaW.PrintLast Go.Proofs.YtimkekeaeojpkaaW.PrintMore Go.Proofs.Ytimkekeaeojpkaa.Z
set_option linter.unusedVariables false
set_option linter.unusedSimpArgs false
theorem specEqMat_self (n : Int) (l : List Int) (hl : l.length ≤ 17592186044416) : Ev (fun k => spec_EqualMatroid.f k n l n l) true := by
  unfold spec_EqualMatroid.f
  have hd := down (P := fun i => Ev (fun k => spec_EqualMatroid.l0 k (i : Int) n l n l) true) l.length
    (by
      apply Ev.step
      · intro k
        rw [spec_EqualMatroid.l0, if_neg (by omega)]
      · exact Ev.now _)
    (by
      intro i hi ih
      apply Ev.step
      · intro k
        rw [spec_EqualMatroid.l0, if_pos (by omega), if_pos (by omega), if_pos (by omega), if_pos rfl, w_succ hi hl]
      · exact ih)
  refine Ev.ifp rfl ?_
  apply Ev.step
  · intro k
    rw [spec_EqualMatroid.j0]
  · exact Ev.ifn (by simp) hd
end Go.Proofs.Ytimkekeaeojpkaa.Q
namespace Go.Proofs.Ytimkekeaeojpkaa.Q
open Go Go.RowKit Go.Proofs.Ytimkekeaeojpkaa.A Go.Proofs.YtimkekeaeojpkaaW.PrintWords Go.Proofs.YtimkekeaeojpkaaW.PrintLast Go.Proofs.YtimkekeaeojpkaaW.PrintMore Go.Proofs.Ytimkekeaeojpkaa.Z
set_option linter.unusedVariables false
set_option linter.unusedSimpArgs false
def famG (n : Int) : Option Int → List Int → Bool
  | _, [] => decide (0 ≤ n) && decide (n ≤ 8)
  | p, x :: xs => isSetB n x && ((match p with | none => true | some q => decide (q < x)) && famG n (some x) xs)
/-- A family: sets of n elements, strictly ascending. -/
def famB (n : Int) (l : List Int) : Bool := famG n none l
def prevO (l : List Int) (i : Nat) : Option Int := if i = 0 then none else some (rd l ((i - 1 : Nat) : Int))
theorem prevO_succ (l : List Int) (i : Nat) (hi : i < l.length) : prevO l (i + 1) = some l[i] := by
  unfold prevO
  rw [if_neg (by omega), Nat.add_sub_cancel, rd_getElem l i hi]
theorem specFam_ev (n : Int) (l : List Int) (hl : l.length ≤ 17592186044416) : Ev (fun k => spec_IsFamily.f k n l) (famB n l) := by
  have h := down (P := fun i => Ev (fun k => spec_IsFamily.l0 k n l (i : Int)) (famG n (prevO l i) (l.drop i))) l.length
    (by
      apply Ev.step
      · intro k
        simp only [spec_IsFamily.l0, l1In_eq, Option.bind_some]
        rw [if_neg (by omega)]
      · rw [drop_end]; exact Ev.now _)
    (by
      intro i hi ih
      apply Ev.step
      · intro k
        simp only [spec_IsFamily.l0, specIsSet_eq, Option.bind_some]
        rw [if_pos (by omega), if_pos (by omega), rd_getElem l i hi, w_succ hi hl]
      · rw [drop_cons l i hi]
        rw [prevO_succ l i hi] at ih
        simp only [famG]
        by_cases hx : isSetB n l[i] = true
        · refine Ev.ifp hx ?_
          rw [hx, Bool.true_and]
          by_cases h0 : (i : Int) > 0
          · refine Ev.ifp h0 ?_
            rw [wrap64_of (by omega) (by omega), show (i : Int) - 1 = ((i - 1 : Nat) : Int) from by omega]
            refine Ev.ifp (by omega) (Ev.ifp (by omega) ?_)
            unfold prevO
            rw [if_neg (by omega)]
            by_cases hq : rd l ((i - 1 : Nat) : Int) ≥ l[i]
            · refine Ev.ifp hq ?_
              simp only []
              rw [show decide (rd l ((i - 1 : Nat) : Int) < l[i]) = false from by simpa using hq, Bool.false_and]
              exact Ev.now _
            · refine Ev.ifn hq ?_
              simp only []
              rw [show decide (rd l ((i - 1 : Nat) : Int) < l[i]) = true from by simpa using hq, Bool.true_and]
              exact ih
          · refine Ev.ifn h0 ?_
            unfold prevO
            rw [if_pos (by omega)]
            simp only [Bool.true_and]
            exact ih
        · refine Ev.ifn hx ?_
          rw [Bool.eq_false_iff.2 hx, Bool.false_and]; exact Ev.now _)
  exact h
theorem implFam_ev (n : Int) (l : List Int) (hl : l.length ≤ 17592186044416) : Ev (fun k => impl_IsFamily.f k n l) (famB n l) := by
  have h := down (P := fun i => Ev (fun k => impl_IsFamily.l0 k n l l (l.length : Int) (i : Int)) (famG n (prevO l i) (l.drop i))) l.length
    (by
      apply Ev.step
      · intro k
        simp only [impl_IsFamily.l0, isSize_eq, Option.bind_some]
        rw [if_neg (by omega)]
      · rw [drop_end]; exact Ev.now _)
    (by
      intro i hi ih
      apply Ev.step
      · intro k
        simp only [impl_IsFamily.l0, implIsSet_eq, Option.bind_some]
        rw [if_pos (by omega), if_pos (by omega), if_pos (by omega), rd_getElem l i hi, w_succ hi hl]
      · rw [drop_cons l i hi]
        rw [prevO_succ l i hi] at ih
        simp only [famG]
        by_cases hx : isSetB n l[i] = true
        · refine Ev.ifp hx ?_
          rw [hx, Bool.true_and]
          by_cases h0 : (i : Int) > 0
          · refine Ev.ifp h0 ?_
            rw [wrap64_of (by omega) (by omega), show (i : Int) - 1 = ((i - 1 : Nat) : Int) from by omega]
            refine Ev.ifp (by omega) (Ev.ifp (by omega) ?_)
            unfold prevO
            rw [if_neg (by omega)]
            by_cases hq : l[i] ≤ rd l ((i - 1 : Nat) : Int)
            · refine Ev.ifp hq ?_
              simp only []
              rw [show decide (rd l ((i - 1 : Nat) : Int) < l[i]) = false from by simpa using hq, Bool.false_and]
              exact Ev.now _
            · refine Ev.ifn hq ?_
              simp only []
              rw [show decide (rd l ((i - 1 : Nat) : Int) < l[i]) = true from by simpa using hq, Bool.true_and]
              exact ih
          · refine Ev.ifn h0 ?_
            unfold prevO
            rw [if_pos (by omega)]
            simp only [Bool.true_and]
            exact ih
        · refine Ev.ifn hx ?_
          rw [Bool.eq_false_iff.2 hx, Bool.false_and]; exact Ev.now _)
  exact h
theorem famG_facts (n : Int) : ∀ (l : List Int) (p : Option Int), famG n p l = true → (0 ≤ n ∧ n ≤ 8) ∧ (∀ x ∈ l, isSetB n x = true) ∧ l.Pairwise (· < ·) ∧ (∀ q, p = some q → ∀ x ∈ l, q < x) := by
  intro l
  induction l with
  | nil =>
    intro p h
    simp only [famG, Bool.and_eq_true, decide_eq_true_eq] at h
    exact ⟨h, fun x hx => by simp at hx, List.Pairwise.nil, fun q _ x hx => by simp at hx⟩
  | cons y l ih =>
    intro p h
    simp only [famG, Bool.and_eq_true] at h
    obtain ⟨h1, h2, h3⟩ := h
    obtain ⟨i1, i2, i3, i4⟩ := ih _ h3
    refine ⟨i1, fun x hx => ?_, List.pairwise_cons.2 ⟨fun x hx => i4 y rfl x hx, i3⟩, fun q hq x hx => ?_⟩
    · rcases List.mem_cons.1 hx with rfl | hx
      · exact h1
      · exact i2 x hx
    · subst hq
      simp only [decide_eq_true_eq] at h2
      rcases List.mem_cons.1 hx with rfl | hx
      · exact h2
      · exact Int.lt_trans h2 (i4 y rfl x hx)
/-- A family as numbers: its size, its sets. -/
theorem famB_nat {n : Int} {l : List Int} (h : famB n l = true) : ∃ (m : Nat) (L : List Nat), n = m ∧ m ≤ 8 ∧ l = L.map (fun x : Nat => (x : Int)) ∧ (∀ x ∈ L, x < 2 ^ m) ∧ L.Pairwise (· < ·) := by
  obtain ⟨h1, h2, h3, _⟩ := famG_facts n l none h
  obtain ⟨m, rfl⟩ := Int.eq_ofNat_of_zero_le h1.1
  have hnn : ∀ x ∈ l, 0 ≤ x := fun x hx => by
    obtain ⟨_, t, _, rfl, _⟩ := isSetB_lt (h2 x hx)
    omega
  have hl : l = (l.map Int.toNat).map (fun x : Nat => (x : Int)) := by
    rw [List.map_map]
    conv => lhs; rw [← List.map_id l]
    apply List.map_congr_left
    intro x hx
    have := hnn x hx
    simp only [id, Function.comp]
    omega
  refine ⟨m, l.map Int.toNat, rfl, by omega, hl, fun x hx => ?_, ?_⟩
  · obtain ⟨y, hy, rfl⟩ := List.mem_map.1 hx
    obtain ⟨m', t, hm, rfl, _, ht, _⟩ := isSetB_lt (h2 y hy)
    have : m = m' := by omega
    subst this
    rw [Int.toNat_natCast]; exact ht
  · rw [List.pairwise_map]
    exact h3.imp_of_mem (fun {a b} ha hb hab => by
      have := hnn a ha
      have := hnn b hb
      omega)
end Go.Proofs.Ytimkekeaeojpkaa.Q
namespace Go.Proofs.Ytimkekeaeojpkaa.Q
open Go Go.RowKit Go.Proofs.Ytimkekeaeojpkaa.A Go.Proofs.YtimkekeaeojpkaaW.PrintWords Go.Proofs.YtimkekeaeojpkaaW.PrintLast Go.Proofs.YtimkekeaeojpkaaW.PrintMore Go.Proofs.Ytimkekeaeojpkaa.Z
set_option linter.unusedVariables false
set_option linter.unusedSimpArgs false
/-- The elements of a set, as whole numbers; none where it is no set. -/
def elsB (s : Int) : List Int := ((List.range 8).filter (fun e : Nat => hasB s (e : Int))).map (fun e : Nat => (e : Int))
theorem range'_cons {i n : Nat} (h : i < n) : List.range' i (n - i) = i :: List.range' (i + 1) (n - (i + 1)) := by
  rw [show n - i = (n - (i + 1)) + 1 from by omega, List.range'_succ]
theorem filter_cons_map {s : Int} {i : Nat} (l : List Nat) : ((i :: l).filter (fun e : Nat => hasB s (e : Int))).map (fun e : Nat => (e : Int)) = (if hasB s (i : Int) = true then [(i : Int)] else []) ++ (l.filter (fun e : Nat => hasB s (e : Int))).map (fun e : Nat => (e : Int)) := by
  rw [List.filter_cons]
  by_cases h : hasB s (i : Int) = true
  · rw [if_pos h, if_pos h]; rfl
  · rw [if_neg h, if_neg h]; rfl
theorem implElements_ev (s : Int) : Ev (fun k => impl_ElementsOf.f k s) (elsB s) := by
  have h := down (P := fun i => ∀ acc : List Int, acc.length ≤ i → Ev (fun k => impl_ElementsOf.l0 k s acc (i : Int)) (acc ++ ((List.range' i (8 - i)).filter (fun e : Nat => hasB s (e : Int))).map (fun e : Nat => (e : Int)))) 8
    (by
      intro acc ha
      apply Ev.step
      · intro k
        simp only [impl_ElementsOf.l0, implHas_eq, Option.bind_some]
        rw [if_neg (by omega)]
      · simpa using Ev.now _)
    (by
      intro i hi ih acc ha
      apply Ev.step
      · intro k
        simp only [impl_ElementsOf.l0, implHas_eq, Option.bind_some]
        rw [if_pos (by omega), w_succ hi (by omega)]
      · rw [range'_cons hi, filter_cons_map]
        by_cases hx : hasB s (i : Int) = true
        · refine Ev.ifp hx (Ev.ifp (by omega) ?_)
          rw [if_pos hx, ← List.append_assoc]
          exact ih (acc ++ [(i : Int)]) (by simp; omega)
        · refine Ev.ifn hx ?_
          rw [if_neg hx]
          exact ih acc (by omega))
  have h0 := h [] (Nat.le_refl 0)
  rw [show ((0 : Nat) : Int) = 0 from rfl] at h0
  have e : elsB s = [] ++ ((List.range' 0 (8 - 0)).filter (fun e : Nat => hasB s (e : Int))).map (fun e : Nat => (e : Int)) := by
    unfold elsB
    rw [List.nil_append, List.range_eq_range']
  rw [e]
  unfold impl_ElementsOf.f
  exact h0
theorem elsB_mem {s x : Int} (h : x ∈ elsB s) : ∃ e : Nat, x = e ∧ e < 8 ∧ hasB s (e : Int) = true := by
  simp only [elsB, List.mem_map, List.mem_filter, List.mem_range] at h
  obtain ⟨e, ⟨h1, h2⟩, rfl⟩ := h
  exact ⟨e, rfl, h1, h2⟩
theorem elsB_len (s : Int) : (elsB s).length ≤ 8 := by
  unfold elsB
  rw [List.length_map]
  exact Nat.le_trans (List.length_filter_le _ _) (by simp)
theorem elsB_nat {s : Nat} (h : s < 256) : elsB (s : Int) = (els s).map (fun e : Nat => (e : Int)) := by
  have e : (List.range 8).filter (fun e : Nat => hasB (s : Int) (e : Int)) = (List.range 8).filter (fun e : Nat => s.testBit e) :=
    List.filter_congr (fun e he => by
      rw [List.mem_range] at he
      rw [hasB_nat]
      simp [h, he])
  unfold elsB els
  rw [e]
end Go.Proofs.Ytimkekeaeojpkaa.Q
namespace Go.Proofs.Ytimkekeaeojpkaa.Q
open Go Go.RowKit Go.Proofs.Ytimkekeaeojpkaa.A Go.Proofs.YtimkekeaeojpkaaW.PrintWords Go.Proofs.YtimkekeaeojpkaaW.PrintLast Go.Proofs.YtimkekeaeojpkaaW.PrintMore Go.Proofs.Ytimkekeaeojpkaa.Z
set_option linter.unusedVariables false
set_option linter.unusedSimpArgs false
theorem contains_cons (x : Int) (l : List Int) (a : Int) : (x :: l).contains a = (decide (x = a) || l.contains a) := by
  rw [Bool.eq_iff_iff]
  simp only [List.contains_iff_mem, List.mem_cons, Bool.or_eq_true, decide_eq_true_eq]
  constructor
  · rintro (h | h)
    · exact .inl h.symm
    · exact .inr h
  · rintro (h | h)
    · exact .inl h.symm
    · exact .inr h
theorem specHasSet_ev (l : List Int) (a : Int) (hl : l.length ≤ 17592186044416) : Ev (fun k => spec_HasSet.f k l a) (l.contains a) := by
  have h := down (P := fun i => Ev (fun k => spec_HasSet.l0 k l a (i : Int)) ((l.drop i).contains a)) l.length
    (by
      apply Ev.step
      · intro k
        simp only [spec_HasSet.l0]
        rw [if_neg (by omega)]
      · rw [drop_end]; exact Ev.now _)
    (by
      intro i hi ih
      apply Ev.step
      · intro k
        simp only [spec_HasSet.l0]
        rw [if_pos (by omega), if_pos (by omega), rd_getElem l i hi, w_succ hi hl]
      · rw [drop_cons l i hi, contains_cons]
        by_cases hx : l[i] = a
        · refine Ev.ifp hx ?_
          rw [show decide (l[i] = a) = true from by simpa using hx, Bool.true_or]; exact Ev.now _
        · refine Ev.ifn hx ?_
          rw [show decide (l[i] = a) = false from by simpa using hx, Bool.false_or]; exact ih)
  exact h
end Go.Proofs.Ytimkekeaeojpkaa.Q
namespace Go.Proofs.Ytimkekeaeojpkaa.Q
open Go Go.RowKit Go.Proofs.Ytimkekeaeojpkaa.A Go.Proofs.YtimkekeaeojpkaaW.PrintWords Go.Proofs.YtimkekeaeojpkaaW.PrintLast Go.Proofs.YtimkekeaeojpkaaW.PrintMore Go.Proofs.Ytimkekeaeojpkaa.Z
set_option linter.unusedVariables false
set_option linter.unusedSimpArgs false
theorem index_l0 (l : List Int) (a : Int) (hl : l.length ≤ 17592186044416) : ∃ r : Int, Ev (fun k => slices_Index_int_int.f k l a) r ∧ (decide (r ≥ 0) = l.contains a) := by
  have h := down (P := fun i => ∃ r : Int, Ev (fun k => slices_Index_int_int.l0 k l a (l.length : Int) (i : Int)) r ∧ (decide (r ≥ 0) = (l.drop i).contains a)) l.length
    (by
      refine ⟨-1, ?_, by rw [drop_end]; rfl⟩
      apply Ev.step
      · intro k
        simp only [slices_Index_int_int.l0]
        rw [if_neg (by omega)]
      · exact Ev.now _)
    (by
      intro i hi ih
      rw [drop_cons l i hi, contains_cons]
      by_cases hx : l[i] = a
      · refine ⟨(i : Int), ?_, ?_⟩
        · apply Ev.step
          · intro k
            simp only [slices_Index_int_int.l0]
            rw [if_pos (by omega), if_pos (by omega), if_pos (by omega), rd_getElem l i hi, if_pos hx.symm]
          · exact Ev.now _
        · rw [show decide (l[i] = a) = true from by simpa using hx, Bool.true_or]
          simp
      · obtain ⟨r, hr, hd⟩ := ih
        refine ⟨r, ?_, ?_⟩
        · apply Ev.step
          · intro k
            simp only [slices_Index_int_int.l0]
            rw [if_pos (by omega), if_pos (by omega), if_pos (by omega), rd_getElem l i hi, if_neg (fun hc => hx hc.symm), w_succ hi hl]
          · exact hr
        · rw [show decide (l[i] = a) = false from by simpa using hx, Bool.false_or]; exact hd)
  exact h
theorem contains_ev (l : List Int) (a : Int) (hl : l.length ≤ 17592186044416) : Ev (fun k => slices_Contains_int_int.f k l a) (l.contains a) := by
  obtain ⟨r, hr, hd⟩ := index_l0 l a hl
  unfold slices_Contains_int_int.f
  refine Ev.bind hr ?_
  rw [hd]; exact Ev.now _
end Go.Proofs.Ytimkekeaeojpkaa.Q
namespace Go.Proofs.Ytimkekeaeojpkaa.Q
open Go Go.RowKit Go.Proofs.YtimkekeaeojpkaaW.PrintWords Go.Proofs.YtimkekeaeojpkaaW.PrintLast Go.Proofs.YtimkekeaeojpkaaW.PrintMore Go.Proofs.Ytimkekeaeojpkaa.Z
set_option linter.unusedVariables false
set_option linter.unusedSimpArgs false
/-- Can e be exchanged for an element of b? -/
def hasEx (l : List Int) (a b e : Nat) : Bool := (els (dif b a)).any (fun f => l.contains ((dif a (2 ^ e) ||| 2 ^ f : Nat) : Int))
def failE (l : List Int) (a b : Nat) : List Nat → Option Nat
  | [] => none
  | e :: es => if hasEx l a b e = true then failE l a b es else some e
def failB (l : List Int) (a : Nat) : List Nat → Option (Nat × Nat)
  | [] => none
  | b :: bs => match failE l a b (els (dif a b)) with
    | none => failB l a bs
    | some e => some (b, e)
def failA (l : List Int) (L : List Nat) : List Nat → Option (Nat × Nat × Nat)
  | [] => none
  | a :: la => match failB l a L with
    | none => failA l L la
    | some (b, e) => some (a, b, e)
def told : Option (Nat × Nat × Nat) → Int × Int × Int × Bool
  | none => (0, 0, 0, false)
  | some (a, b, e) => ((a : Int), (b : Int), (e : Int), true)
/-- What FirstFailure hands back. -/
def failT (n : Int) (l : List Int) : Int × Int × Int × Bool := if famB n l = true then told (failA l (l.map Int.toNat) (l.map Int.toNat)) else (0, 0, 0, false)
theorem els_dif {a b n : Nat} (ha : a < 2 ^ n) (hn : n ≤ 8) : els (dif a b) = (List.range n).filter (fun e => a.testBit e && !b.testBit e) := by
  have h1 : (List.range 8).filter (fun e => (dif a b).testBit e) = (List.range 8).filter (fun e => decide (e < n) && (a.testBit e && !b.testBit e)) :=
    List.filter_congr (fun e _ => by
      rw [dif_bit]
      by_cases h : e < n
      · simp [h]
      · have : a.testBit e = false := Nat.testBit_lt_two_pow (Nat.lt_of_lt_of_le ha (Nat.pow_le_pow_right (by decide) (by omega)))
        simp [this])
  unfold els
  rw [h1]
  have h2 : ∀ (p : Nat → Bool) (a b : Nat), (List.range a).filter (fun e => decide (e < b) && p e) = (List.range (min a b)).filter p := by
    intro p a b
    induction a with
    | zero => simp
    | succ a ih =>
      rw [List.range_succ, List.filter_append, ih]
      by_cases h : a < b
      · rw [show min (a + 1) b = min a b + 1 from by omega, List.range_succ, List.filter_append]
        have e : min a b = a := by omega
        rw [e]
        congr 1
        simp [List.filter_cons, h]
      · rw [show min (a + 1) b = min a b from by omega]
        simp [List.filter_cons, h]
  rw [h2, Nat.min_eq_right hn]
end Go.Proofs.Ytimkekeaeojpkaa.Q
namespace Go.Proofs.Ytimkekeaeojpkaa.Q
open Go Go.RowKit Go.Proofs.Ytimkekeaeojpkaa.A Go.Proofs.YtimkekeaeojpkaaW.PrintWords Go.Proofs.YtimkekeaeojpkaaW.PrintLast Go.Proofs.YtimkekeaeojpkaaW.PrintMore Go.Proofs.Ytimkekeaeojpkaa.Z
set_option linter.unusedVariables false
set_option linter.unusedSimpArgs false
theorem specEx_ev (n : Nat) (hn : n ≤ 8) (l : List Int) (hl : l.length ≤ 17592186044416) (a b e : Nat) (ha : a < 256) (hb : b < 2 ^ n) (he : e < 8) (hae : a.testBit e = true) :
    Ev (fun k => spec_l4Exchange.f k (n : Int) l (a : Int) (b : Int) (e : Int)) (hasEx l a b e) := by
  have hb256 : b < 256 := Nat.lt_of_lt_of_le hb (pow_le_256 hn)
  have h := down (P := fun f => Ev (fun k => spec_l4Exchange.l0 k (a : Int) (b : Int) (e : Int) (f : Int) (n : Int) l) (((List.range' f (n - f)).filter (fun f => b.testBit f && !a.testBit f)).any (fun f => l.contains ((dif a (2 ^ e) ||| 2 ^ f : Nat) : Int)))) n
    (by
      apply Ev.step
      · intro k
        simp only [spec_l4Exchange.l0]
        rw [if_neg (by omega)]
      · rw [Nat.sub_self]; exact Ev.now _)
    (by
      intro f hf ih
      have hih : Ev (fun k => spec_l4Exchange.l0 k (a : Int) (b : Int) (e : Int) (wrap64 ((f : Int) + 1)) (n : Int) l) (((List.range' (f + 1) (n - (f + 1))).filter (fun f => b.testBit f && !a.testBit f)).any (fun f => l.contains ((dif a (2 ^ e) ||| 2 ^ f : Nat) : Int))) := by
        rw [w_succ hf (by omega)]; exact ih
      apply Ev.step
      · intro k
        simp only [spec_l4Exchange.l0, l2Has_eq (lt256_63 hb256) (show f < 2 ^ 63 by omega), l2Has_eq (lt256_63 ha) (show f < 2 ^ 63 by omega), Option.bind_some]
        rw [if_pos (by omega)]
      · rw [range'_cons hf, List.filter_cons]
        by_cases hbf : b.testBit f = true
        · refine Ev.ifp hbf ?_
          by_cases haf : a.testBit f = true
          · refine Ev.ifp haf ?_
            rw [if_neg (by rw [haf]; simp)]
            exact hih
          · refine Ev.ifn haf (Ev.ifp (u64_nonneg _) (Ev.ifp (u64_nonneg _) ?_))
            have haf' := Bool.eq_false_iff.2 haf
            rw [if_pos (by rw [hbf, haf']; rfl), List.any_cons]
            obtain ⟨x1, x2, x3⟩ := exch_arith ha he (show f < 8 by omega) hae haf'
            have hp : 2 ^ f < 256 := Nat.pow_lt_pow_right (a := 2) (m := f) (n := 8) (by decide) (by omega)
            have ex : wrap64 (wrap64 ((a : Int) - shl .i64 1 (IntKind.u64.wrap (e : Int))) + shl .i64 1 (IntKind.u64.wrap (f : Int))) = ((dif a (2 ^ e) ||| 2 ^ f : Nat) : Int) := by
              rw [u64_of (by omega) (by omega), u64_of (by omega) (by omega), shl_one (by omega), shl_one (by omega), ← x1]
              generalize 2 ^ e = p at *
              generalize 2 ^ f = q at *
              rw [wrap64_of (n := (a : Int) - (p : Int)) (by omega) (by omega), wrap64_of (by omega) (by omega)]
              omega
            rw [ex]
            refine Ev.bind (specHasSet_ev l _ hl) ?_
            by_cases hc : l.contains ((dif a (2 ^ e) ||| 2 ^ f : Nat) : Int) = true
            · refine Ev.ifp hc ?_
              rw [hc, Bool.true_or]; exact Ev.now _
            · refine Ev.ifn hc ?_
              rw [Bool.eq_false_iff.2 hc, Bool.false_or]; exact hih
        · refine Ev.ifn hbf ?_
          rw [if_neg (by rw [Bool.eq_false_iff.2 hbf]; simp)]
          exact hih)
  rw [Nat.sub_zero, ← List.range_eq_range', ← els_dif hb hn] at h
  exact h
theorem specFail_l2 (n : Nat) (hn : n ≤ 8) (l : List Int) (hl : l.length ≤ 17592186044416) (i j : Nat) (hi : i < l.length) (hj : j < l.length) (a b : Nat) (hai : rd l (i : Int) = a) (hbj : rd l (j : Int) = b) (ha : a < 2 ^ n) (hb : b < 2 ^ n) (K : Int × Int × Int × Bool)
    (hK : Ev (fun k => spec_FirstFailure.l1 k (i : Int) (wrap64 ((j : Int) + 1)) (n : Int) l) K) :
    Ev (fun k => spec_FirstFailure.l2 k (i : Int) (j : Int) 0 (n : Int) l) (match failE l a b (els (dif a b)) with | none => K | some e => ((a : Int), (b : Int), (e : Int), true)) := by
  have ha256 : a < 256 := Nat.lt_of_lt_of_le ha (pow_le_256 hn)
  have hb256 : b < 256 := Nat.lt_of_lt_of_le hb (pow_le_256 hn)
  have h := down (P := fun e => Ev (fun k => spec_FirstFailure.l2 k (i : Int) (j : Int) (e : Int) (n : Int) l) (match failE l a b ((List.range' e (n - e)).filter (fun e => a.testBit e && !b.testBit e)) with | none => K | some e => ((a : Int), (b : Int), (e : Int), true))) n
    (by
      apply Ev.step
      · intro k
        simp only [spec_FirstFailure.l2]
        rw [if_neg (by omega)]
      · rw [Nat.sub_self]; exact hK)
    (by
      intro e he ih
      have hih : Ev (fun k => spec_FirstFailure.l2 k (i : Int) (j : Int) (wrap64 ((e : Int) + 1)) (n : Int) l) (match failE l a b ((List.range' (e + 1) (n - (e + 1))).filter (fun e => a.testBit e && !b.testBit e)) with | none => K | some e => ((a : Int), (b : Int), (e : Int), true)) := by
        rw [w_succ he (by omega)]; exact ih
      apply Ev.step
      · intro k
        simp only [spec_FirstFailure.l2]
        rw [if_pos (by omega), if_pos (by omega), if_pos (by omega), if_pos (by omega), if_pos (by omega), hai, hbj, l2Has_eq (lt256_63 ha256) (show e < 2 ^ 63 by omega), l2Has_eq (lt256_63 hb256) (show e < 2 ^ 63 by omega), Option.bind_some, Option.bind_some]
      · rw [range'_cons he, List.filter_cons]
        by_cases hae : a.testBit e = true
        · refine Ev.ifp hae ?_
          by_cases hbe : b.testBit e = true
          · refine Ev.ifp hbe ?_
            rw [if_neg (by rw [hbe]; simp)]
            exact hih
          · refine Ev.ifn hbe (Ev.bind (specEx_ev n hn l hl a b e ha256 hb (by omega) hae) ?_)
            rw [if_pos (by rw [hae, Bool.eq_false_iff.2 hbe]; rfl)]
            simp only [failE]
            by_cases hx : hasEx l a b e = true
            · refine Ev.ifp hx ?_
              rw [if_pos hx]; exact hih
            · refine Ev.ifn hx ?_
              rw [if_neg hx]; exact Ev.now _
        · refine Ev.ifn hae ?_
          rw [if_neg (by rw [Bool.eq_false_iff.2 hae]; simp)]
          exact hih)
  rw [Nat.sub_zero, ← List.range_eq_range', ← els_dif ha hn] at h
  exact h
theorem specFail_ev (n : Int) (l : List Int) (hl : l.length ≤ 17592186044416) : Ev (fun k => spec_FirstFailure.f k n l) (failT n l) := by
  unfold spec_FirstFailure.f failT
  refine Ev.bind (specFam_ev n l hl) ?_
  by_cases hf : famB n l = true
  · refine Ev.ifp hf ?_
    rw [if_pos hf]
    obtain ⟨m, L, rfl, hm, rfl, hL, _⟩ := famB_nat hf
    rw [toNat_map]
    have hlen : (L.map (fun x : Nat => (x : Int))).length = L.length := List.length_map _
    rw [hlen] at hl
    have hrd : ∀ i, (h : i < L.length) → rd (L.map (fun x : Nat => (x : Int))) (i : Int) = (L[i] : Int) := fun i h => by
      rw [rd_getElem _ i (by rw [hlen]; exact h), List.getElem_map]
    have hl' : (L.map (fun x : Nat => (x : Int))).length ≤ 17592186044416 := by rw [hlen]; exact hl
    generalize L.map (fun x : Nat => (x : Int)) = l at hlen hrd hl'
    have h := down (P := fun i => Ev (fun k => spec_FirstFailure.l0 k (i : Int) (m : Int) l) (told (failA l L (L.drop i)))) L.length
      (by
        apply Ev.step
        · intro k
          simp only [spec_FirstFailure.l0]
          rw [if_neg (by omega)]
        · rw [drop_end]; exact Ev.now _)
      (by
        intro i hi ih
        have hia := hL _ (List.getElem_mem hi)
        have hih : Ev (fun k => spec_FirstFailure.l0 k (wrap64 ((i : Int) + 1)) (m : Int) l) (told (failA l L (L.drop (i + 1)))) := by
          rw [w_succ hi hl]; exact ih
        apply Ev.step
        · intro k
          simp only [spec_FirstFailure.l0]
          rw [if_pos (by omega)]
        · have h1 := down (P := fun j => Ev (fun k => spec_FirstFailure.l1 k (i : Int) (j : Int) (m : Int) l) (match failB l L[i] (L.drop j) with | none => told (failA l L (L.drop (i + 1))) | some (b, e) => ((L[i] : Int), (b : Int), (e : Int), true))) L.length
            (by
              apply Ev.step
              · intro k
                simp only [spec_FirstFailure.l1]
                rw [if_neg (by omega)]
              · rw [drop_end]; exact hih)
            (by
              intro j hj ihj
              have hjb := hL _ (List.getElem_mem hj)
              apply Ev.step
              · intro k
                simp only [spec_FirstFailure.l1]
                rw [if_pos (by omega)]
              · have h2 := specFail_l2 m hm l hl' i j (by omega) (by omega) L[i] L[j] (hrd i hi) (hrd j hj) hia hjb _ (by rw [w_succ hj hl]; exact ihj)
                rw [drop_cons L j hj]
                simp only [failB]
                generalize failE l L[i] L[j] (els (dif L[i] L[j])) = q at h2
                cases q with
                | none => exact h2
                | some e => exact h2)
          rw [drop_cons L i hi]
          simp only [failA]
          rw [List.drop_zero] at h1
          generalize failB l L[i] L = q at h1
          cases q with
          | none => exact h1
          | some x => exact h1)
    exact h
  · refine Ev.ifn hf ?_
    rw [if_neg hf]
    exact Ev.now _
end Go.Proofs.Ytimkekeaeojpkaa.Q
namespace Go.Proofs.Ytimkekeaeojpkaa.Q
open Go Go.RowKit Go.Proofs.Ytimkekeaeojpkaa.A Go.Proofs.YtimkekeaeojpkaaW.PrintWords Go.Proofs.YtimkekeaeojpkaaW.PrintLast Go.Proofs.YtimkekeaeojpkaaW.PrintMore Go.Proofs.Ytimkekeaeojpkaa.Z
set_option linter.unusedVariables false
set_option linter.unusedSimpArgs false
/-- A matroid: a family, not empty, without a failure of the exchange. -/
def matB (n : Int) (l : List Int) : Bool := famB n l && (decide ((l.length : Int) > 0) && !(failT n l).2.2.2)
theorem specMat_ev (n : Int) (l : List Int) (hl : l.length ≤ 17592186044416) : Ev (fun k => spec_IsMatroid.f k n l) (matB n l) := by
  unfold spec_IsMatroid.f matB
  refine Ev.bind (specFail_ev n l hl) (Ev.bind (specFam_ev n l hl) ?_)
  by_cases hf : famB n l = true
  · refine Ev.ifp hf ?_
    rw [hf, Bool.true_and]
    by_cases h0 : (l.length : Int) > 0
    · refine Ev.ifp h0 ?_
      rw [show decide ((l.length : Int) > 0) = true from by simpa using h0, Bool.true_and]
      exact Ev.now _
    · refine Ev.ifn h0 ?_
      rw [show decide ((l.length : Int) > 0) = false from by simpa using h0, Bool.false_and]
      exact Ev.now _
  · refine Ev.ifn hf ?_
    rw [Bool.eq_false_iff.2 hf, Bool.false_and]
    exact Ev.now _
end Go.Proofs.Ytimkekeaeojpkaa.Q
namespace Go.Proofs.Ytimkekeaeojpkaa.Q
open Go Go.RowKit Go.Proofs.YtimkekeaeojpkaaW.PrintWords Go.Proofs.YtimkekeaeojpkaaW.PrintLast Go.Proofs.YtimkekeaeojpkaaW.PrintMore Go.Proofs.Ytimkekeaeojpkaa.Z
set_option linter.unusedVariables false
set_option linter.unusedSimpArgs false
theorem ints_len (L : List Nat) : (ints L).length = L.length := List.length_map _
theorem ints_rd (L : List Nat) (i : Nat) (h : i < L.length) : rd (ints L) (i : Int) = (L[i] : Int) := by
  rw [rd_getElem _ i (by rw [ints_len]; exact h)]
  simp [ints]
end Go.Proofs.Ytimkekeaeojpkaa.Q
namespace Go.Proofs.Ytimkekeaeojpkaa.Q
open Go Go.RowKit Go.Proofs.Ytimkekeaeojpkaa.A Go.Proofs.YtimkekeaeojpkaaW.PrintWords Go.Proofs.YtimkekeaeojpkaaW.PrintLast Go.Proofs.YtimkekeaeojpkaaW.PrintMore Go.Proofs.Ytimkekeaeojpkaa.Z
set_option linter.unusedVariables false
set_option linter.unusedSimpArgs false
theorem specCount_l0 : ∀ (d x : Nat), x ≤ d → x < 256 → ∀ acc : Int, 0 ≤ acc → acc + (d : Int) ≤ 1000 → Ev (fun k => spec_CountOf.l0 k (x : Int) acc) (acc + (pc x : Int)) := by
  intro d
  induction d with
  | zero =>
    intro x hx _ acc h0 h1
    obtain rfl : x = 0 := by omega
    apply Ev.step
    · intro k
      simp only [spec_CountOf.l0]
      rw [if_neg (by decide)]
    · rw [pc_zero, show acc + ((0 : Nat) : Int) = acc from by omega]
      exact Ev.now _
  | succ d ih =>
    intro x hx h256 acc h0 h1
    by_cases hz : x = 0
    · subst hz
      exact ih 0 (by omega) h256 acc h0 (by omega)
    · have hb : Go.bits .and .i64 (x : Int) 1 = ((x % 2 : Nat) : Int) := by
        have := and_nat (a := x) (b := 1) (lt256_63 h256) (by decide)
        rw [Nat.and_one_is_mod] at this
        exact this
      apply Ev.step
      · intro k
        simp only [spec_CountOf.l0]
        rw [if_pos (by omega), hb, wrap64_of (by omega) (by omega), show (x : Int) / 2 = ((x / 2 : Nat) : Int) from by omega]
      · have hp := pc_step x h256
        have hl := pc_le (x / 2)
        have := ih (x / 2) (by omega) (by omega) (acc + ((x % 2 : Nat) : Int)) (by omega) (by omega)
        rw [show acc + ((x % 2 : Nat) : Int) + (pc (x / 2) : Int) = acc + (pc x : Int) from by omega] at this
        exact this
theorem specCount_ev (s : Nat) (h : s < 256) : Ev (fun k => spec_CountOf.f k (s : Int)) (pc s : Int) := by
  unfold spec_CountOf.f
  refine Ev.cbind (specIsSet_eq _ _) (Ev.ifp ?_ ?_)
  · rw [isSet8, isAnyB_nat]; simpa using h
  · have := specCount_l0 s s (Nat.le_refl _) h 0 (by omega) (by omega)
    rw [Int.zero_add] at this
    exact this
end Go.Proofs.Ytimkekeaeojpkaa.Q
namespace Go.Proofs.Ytimkekeaeojpkaa.Q
open Go Go.RowKit Go.Proofs.Ytimkekeaeojpkaa.A Go.Proofs.YtimkekeaeojpkaaW.PrintWords Go.Proofs.YtimkekeaeojpkaaW.PrintLast Go.Proofs.YtimkekeaeojpkaaW.PrintMore Go.Proofs.Ytimkekeaeojpkaa.Z
set_option linter.unusedVariables false
set_option linter.unusedSimpArgs false
set_option maxRecDepth 100000 in
theorem ones64 : ∀ s < 256, bits_OnesCount64.f ((s : Nat) : Int) = some ((pc s : Nat) : Int) := by decide +kernel
theorem implCount_eq (s : Nat) (h : s < 256) : impl_CountOf.f (s : Int) = some (pc s : Int) := by
  unfold impl_CountOf.f
  rw [isAny_eq, Option.bind_some, if_pos (by rw [isAnyB_nat]; simpa using h), u64_of (by omega) (by omega)]
  unfold bits_OnesCount.f
  rw [ones64 s h]
  rfl
end Go.Proofs.Ytimkekeaeojpkaa.Q
namespace Go.Proofs.Ytimkekeaeojpkaa.Q
open Go Go.RowKit Go.Proofs.Ytimkekeaeojpkaa.A Go.Proofs.YtimkekeaeojpkaaW.PrintWords Go.Proofs.YtimkekeaeojpkaaW.PrintLast Go.Proofs.YtimkekeaeojpkaaW.PrintMore Go.Proofs.Ytimkekeaeojpkaa.Z
set_option linter.unusedVariables false
set_option linter.unusedSimpArgs false
def fullN (m : Nat) : Nat := 2 ^ m - 1
theorem full_sub_all : ∀ m < 9, ∀ u < 256, (!decide (u < 2 ^ m) || (decide (fullN m - u = dif (fullN m) u) && decide (fullN m < 2 ^ m))) = true := by decide +kernel
theorem full_sub {m u : Nat} (hm : m ≤ 8) (hu : u < 2 ^ m) : fullN m - u = dif (fullN m) u ∧ fullN m < 2 ^ m ∧ fullN m < 256 := by
  have h256 := Nat.lt_of_lt_of_le hu (pow_le_256 hm)
  have h := full_sub_all m (by omega) u h256
  rw [show decide (u < 2 ^ m) = true from by simpa using hu] at h
  simp only [Bool.not_true, Bool.false_or, Bool.and_eq_true, decide_eq_true_eq] at h
  exact ⟨h.1, h.2, Nat.lt_of_lt_of_le h.2 (pow_le_256 hm)⟩
theorem full_lt {m : Nat} (hm : m ≤ 8) : fullN m < 2 ^ m ∧ fullN m < 256 := (full_sub hm (Nat.two_pow_pos m)).2
theorem specFull_eq {m : Nat} (hm : m ≤ 8) : spec_FullSet.f (m : Int) = some ((fullN m : Nat) : Int) := by
  unfold spec_FullSet.f fullN
  have hp := pow_le_256 hm
  have h0 := Nat.two_pow_pos m
  rw [l1In_eq, Option.bind_some, if_pos (by simp; omega), if_pos (u64_nonneg _), u64_of (by omega) (by omega), shl_one (by omega)]
  generalize 2 ^ m = q at *
  rw [wrap64_of (by omega) (by omega)]
  congr 1
  omega
theorem implFull_eq {m : Nat} (hm : m ≤ 8) : impl_FullSet.f (m : Int) = some ((fullN m : Nat) : Int) := by
  unfold impl_FullSet.f fullN
  have hp := pow_le_256 hm
  have h0 := Nat.two_pow_pos m
  rw [isSize_eq, Option.bind_some, if_pos (by simp; omega), if_pos (by omega), shl_one (by omega)]
  generalize 2 ^ m = q at *
  rw [wrap64_of (by omega) (by omega)]
  congr 1
  omega
end Go.Proofs.Ytimkekeaeojpkaa.Q
namespace Go.Proofs.Ytimkekeaeojpkaa.Q
open Go Go.RowKit Go.Proofs.YtimkekeaeojpkaaW.PrintWords Go.Proofs.YtimkekeaeojpkaaW.PrintLast Go.Proofs.YtimkekeaeojpkaaW.PrintMore Go.Proofs.Ytimkekeaeojpkaa.Z
set_option linter.unusedVariables false
set_option linter.unusedSimpArgs false
theorem rk_ge {L : List Nat} {b : Nat} (hb : b ∈ L) (s : Nat) : pc (b &&& s) ≤ rkN L s := maxN_mem _ 0 _ (List.mem_map.2 ⟨b, hb, rfl⟩)
theorem rk_attain {L : List Nat} (hne : L ≠ []) (s : Nat) : ∃ b ∈ L, pc (b &&& s) = rkN L s := by
  rcases maxN_cases (L.map (fun b => pc (b &&& s))) 0 with h | h
  · obtain ⟨b, hb⟩ := List.exists_mem_of_ne_nil L hne
    have := rk_ge hb s
    refine ⟨b, hb, ?_⟩
    unfold rkN at this ⊢
    omega
  · obtain ⟨b, hb, e⟩ := List.mem_map.1 h
    exact ⟨b, hb, e⟩
theorem rk_mono {L : List Nat} (hne : L ≠ []) {X Y : Nat} (h : ∀ i, X.testBit i = true → Y.testBit i = true) : rkN L X ≤ rkN L Y := by
  obtain ⟨b, hb, e⟩ := rk_attain hne X
  rw [← e]
  refine Nat.le_trans (pc_mono fun i _ hi => ?_) (rk_ge hb Y)
  rw [Nat.testBit_and, Bool.and_eq_true] at hi ⊢
  exact ⟨hi.1, h i hi.2⟩
theorem Mat.both_step {m : Nat} {L : List Nat} (h : Mat m L) {S T c : Nat} (hST : ∀ i, S.testBit i = true → T.testBit i = true) (hc : c ∈ L) (hcT : pc (c &&& T) = rkN L T) : ∀ (d b : Nat), b ∈ L → pc (b &&& S) = rkN L S → pc (dif b c) = d → ∃ b ∈ L, pc (b &&& S) = rkN L S ∧ pc (b &&& T) = rkN L T := by
  intro d
  induction d with
  | zero =>
    intro b hb hS hd
    refine ⟨b, hb, hS, Nat.le_antisymm (rk_ge hb T) ?_⟩
    rw [← hcT]
    have hcard := h.card hb hc
    refine pc_mono fun i hi hbi => ?_
    rw [Nat.testBit_and, Bool.and_eq_true] at hbi ⊢
    refine ⟨?_, hbi.2⟩
    cases hb' : b.testBit i
    · have h1 : pc b < pc c := by
        have e1 := pc_dif_and c (2 ^ i)
        have hle : pc b ≤ pc (dif c (2 ^ i)) := pc_mono fun j hj hbj => by
          rw [del_bit]
          have : c.testBit j = true := by
            cases hcj : c.testBit j
            · have : 0 < pc (dif b c) := pc_pos hj (by rw [dif_bit, hbj, hcj]; rfl)
              omega
            · rfl
          rw [this]
          have hne : ¬ i = j := by rintro rfl; rw [hb'] at hbj; cases hbj
          simp [hne]
        have := pc_del hi hbi.1
        omega
      omega
    · rfl
  | succ d ih =>
    intro b hb hS hd
    by_cases hT : pc (b &&& T) = rkN L T
    · exact ⟨b, hb, hS, hT⟩
    · have hlt : pc (b &&& T) < pc (c &&& T) := by
        have := rk_ge hb T
        omega
      have hcard := h.card hb hc
      have e1 := pc_dif_and b T
      have e2 := pc_dif_and c T
      obtain ⟨e, he, hbe, hce⟩ := exists_new (a := dif c T) (b := dif b T) (by omega)
      rw [dif_bit, Bool.and_eq_true, Bool.not_eq_true'] at hbe
      have hce' : c.testBit e = false := by
        rw [dif_bit, hbe.2] at hce
        simpa using hce
      obtain ⟨f, hf, h1, h2, hm⟩ := h.exch b hb c hc e he hbe.1 hce'
      refine ih (swp b e f) hm ?_ ?_
      · refine Nat.le_antisymm (rk_ge hm S) ?_
        rw [← hS]
        refine pc_mono fun i _ hi => ?_
        rw [Nat.testBit_and, Bool.and_eq_true] at hi ⊢
        refine ⟨?_, hi.2⟩
        have hie : ¬ e = i := by rintro rfl; have := hST _ hi.2; rw [hbe.2] at this; cases this
        rw [swp_bit, hi.1]
        simp [hie]
      · have e3 : dif (swp b e f) c = dif (dif b c) (2 ^ e) := by
          apply Nat.eq_of_testBit_eq
          intro i
          rw [dif_bit, swp_bit, del_bit, dif_bit]
          by_cases hi : f = i
          · subst hi; rw [h1, h2]; simp
          · simp [hi]
            cases b.testBit i <;> cases c.testBit i <;> simp
        rw [e3]
        have := pc_del (a := dif b c) he (by rw [dif_bit, hbe.1, hce']; rfl)
        omega
theorem Mat.both {m : Nat} {L : List Nat} (h : Mat m L) {S T : Nat} (hST : ∀ i, S.testBit i = true → T.testBit i = true) : ∃ b ∈ L, pc (b &&& S) = rkN L S ∧ pc (b &&& T) = rkN L T := by
  obtain ⟨c, hc, hcT⟩ := rk_attain h.some T
  obtain ⟨b, hb, hbS⟩ := rk_attain h.some S
  exact Mat.both_step h hST hc hcT _ b hb hbS rfl
theorem Mat.rk_sub {m : Nat} {L : List Nat} (h : Mat m L) (X Y : Nat) : rkN L (X ||| Y) + rkN L (X &&& Y) ≤ rkN L X + rkN L Y := by
  obtain ⟨b, hb, h1, h2⟩ := Mat.both h (S := X &&& Y) (T := X ||| Y) (fun i hi => by rw [Nat.testBit_and, Bool.and_eq_true] at hi; rw [Nat.testBit_or, hi.1]; rfl)
  have e := pc_or_and (b &&& X) (b &&& Y)
  have e1 : (b &&& X) ||| (b &&& Y) = b &&& (X ||| Y) := by
    apply Nat.eq_of_testBit_eq
    intro i
    simp only [Nat.testBit_or, Nat.testBit_and]
    cases b.testBit i <;> cases X.testBit i <;> cases Y.testBit i <;> rfl
  have e2 : (b &&& X) &&& (b &&& Y) = b &&& (X &&& Y) := by
    apply Nat.eq_of_testBit_eq
    intro i
    simp only [Nat.testBit_and]
    cases b.testBit i <;> cases X.testBit i <;> cases Y.testBit i <;> rfl
  rw [e1, e2, h1, h2] at e
  have k1 := rk_ge hb X
  have k2 := rk_ge hb Y
  omega
theorem bit_out {m A i : Nat} (h : A < 2 ^ m) (hi : m ≤ i) : A.testBit i = false := Nat.testBit_lt_two_pow (Nat.lt_of_lt_of_le h (Nat.pow_le_pow_right (by omega) hi))
end Go.Proofs.Ytimkekeaeojpkaa.Q
namespace Go.Proofs.Ytimkekeaeojpkaa.Q
open Go Go.RowKit Go.Proofs.YtimkekeaeojpkaaW.PrintWords Go.Proofs.YtimkekeaeojpkaaW.PrintLast Go.Proofs.YtimkekeaeojpkaaW.PrintMore Go.Proofs.Ytimkekeaeojpkaa.Z
set_option linter.unusedVariables false
set_option linter.unusedSimpArgs false
theorem or_ltP {m a b : Nat} (ha : a < 2 ^ m) (hb : b < 2 ^ m) : a ||| b < 2 ^ m := Nat.or_lt_two_pow ha hb
theorem bit_lt {m s i : Nat} (hs : s < 2 ^ m) (h : s.testBit i = true) : i < m := by
  refine Classical.byContradiction fun hc => ?_
  rw [bit_out hs (by omega)] at h; cases h
theorem pow_lt_of {m i : Nat} (h : i < m) : 2 ^ i < 2 ^ m := Nat.pow_lt_pow_right (by omega) h
/-- Sets of m elements, closed downward, and a smaller one can be filled up from a greater one. -/
structure Ind (m : Nat) (I : Nat → Prop) : Prop where
  size : m ≤ 8
  sets : ∀ s, I s → s < 2 ^ m
  zero : I 0
  down : ∀ s t, I t → subN s t → I s
  aug : ∀ a b, I a → I b → pc a < pc b → ∃ e, e < 8 ∧ b.testBit e = true ∧ a.testBit e = false ∧ I (a ||| 2 ^ e)
def orL (a : Nat) : List Nat → Nat
  | [] => a
  | e :: es => orL a es ||| 2 ^ e
theorem orL_bit (a i : Nat) : ∀ es : List Nat, (orL a es).testBit i = (a.testBit i || decide (i ∈ es)) := by
  intro es
  induction es with
  | nil => simp [orL]
  | cons e es ih =>
    simp only [orL]
    rw [add_bit, ih]
    by_cases h : e = i
    · subst h; simp
    · have : ¬ i = e := fun x => h x.symm
      simp [h, this]
theorem Mat.aug {m : Nat} {L : List Nat} (h : Mat m L) {a b : Nat} (ha : indN L a = true) (hb : indN L b = true) (hlt : pc a < pc b) : ∃ e, e < 8 ∧ b.testBit e = true ∧ a.testBit e = false ∧ indN L (a ||| 2 ^ e) = true := by
  refine Classical.byContradiction fun hc => ?_
  have hlt256 : ∀ s, indN L s = true → s < 256 := fun s hs => by
    obtain ⟨x, hx, hsub⟩ := indN_iff.1 hs
    exact Nat.lt_of_le_of_lt (subN_le hsub) (h.lt x hx)
  have ra := (rk_eq_iff (hlt256 a ha) h.some).2 ha
  have rb := (rk_eq_iff (hlt256 b hb) h.some).2 hb
  have h1 : ∀ e, e < 8 → b.testBit e = true → rkN L (a ||| 2 ^ e) ≤ rkN L a := by
    intro e he hbe
    cases hae : a.testBit e
    · have hn : ¬ indN L (a ||| 2 ^ e) = true := fun x => hc ⟨e, he, hbe, hae, x⟩
      have hl : a ||| 2 ^ e < 256 := Nat.or_lt_two_pow (n := 8) (hlt256 a ha) (pow_lt_of he)
      have hne := mt (rk_eq_iff hl h.some).1 hn
      have hle := rkN_le L (a ||| 2 ^ e)
      rw [pc_add he hae] at hle hne
      omega
    · refine rk_mono h.some fun i hi => ?_
      rw [add_bit, Bool.or_eq_true] at hi
      rcases hi with hi | hi
      · exact hi
      · rw [← of_decide_eq_true hi]; exact hae
  have h2 : ∀ es : List Nat, (∀ e ∈ es, e < 8 ∧ b.testBit e = true) → rkN L (orL a es) ≤ rkN L a := by
    intro es
    induction es with
    | nil => intro _; exact Nat.le_refl _
    | cons e es ih =>
      intro hes
      have ih' := ih (fun x hx => hes x (List.mem_cons_of_mem _ hx))
      have he := hes e (List.mem_cons_self ..)
      have hs := Mat.rk_sub h (orL a es) (a ||| 2 ^ e)
      have k1 : rkN L a ≤ rkN L (orL a es &&& (a ||| 2 ^ e)) := rk_mono h.some fun i hi => by
        rw [Nat.testBit_and, orL_bit, add_bit, hi]; rfl
      have k2 : rkN L (orL a es ||| 2 ^ e) ≤ rkN L (orL a es ||| (a ||| 2 ^ e)) := rk_mono h.some fun i hi => by
        rw [Nat.testBit_or, Bool.or_eq_true] at hi ⊢
        rcases hi with hi | hi
        · exact .inl hi
        · right; rw [Nat.testBit_or, hi, Bool.or_true]
      have k3 := h1 e he.1 he.2
      simp only [orL]
      omega
  have h3 := h2 (els b) (fun e he => mem_els.1 he)
  have h4 : rkN L b ≤ rkN L (orL a (els b)) := rk_mono h.some fun i hi => by
    rw [orL_bit, Bool.or_eq_true]
    right
    refine decide_eq_true (mem_els.2 ⟨?_, hi⟩)
    refine Classical.byContradiction fun hc => ?_
    rw [bit_ge (hlt256 b hb) hc] at hi; cases hi
  omega
variable {m : Nat} {I : Nat → Prop}
theorem Ind.lt (h : Ind m I) {s : Nat} (hs : I s) : s < 256 := Nat.lt_of_lt_of_le (h.sets s hs) (pow_le_256 h.size)
/-- The greatest size of an independent set. -/
theorem Ind.max (h : Ind m I) : ∃ r, (∃ b, I b ∧ pc b = r) ∧ ∀ s, I s → pc s ≤ r := by
  have key : ∀ d b, I b → 8 - pc b ≤ d → ∃ r, (∃ b, I b ∧ pc b = r) ∧ ∀ s, I s → pc s ≤ r := by
    intro d
    induction d with
    | zero =>
      intro b hb hd
      refine ⟨pc b, ⟨b, hb, rfl⟩, fun s _ => ?_⟩
      have := pc_le s
      have := pc_le b
      omega
    | succ d ih =>
      intro b hb hd
      by_cases hx : ∃ s, I s ∧ pc b < pc s
      · obtain ⟨s, hs, hlt⟩ := hx
        exact ih s hs (by omega)
      · refine ⟨pc b, ⟨b, hb, rfl⟩, fun s hs => ?_⟩
        have : ¬ pc b < pc s := fun hl => hx ⟨s, hs, hl⟩
        omega
  exact key 8 0 h.zero (by omega)
theorem Ind.mat (h : Ind m I) {L : List Nat} {r : Nat} (hL : ∀ b, b ∈ L ↔ I b ∧ pc b = r) (hne : ∃ b, I b ∧ pc b = r) : Mat m L := by
  refine ⟨h.size, fun b hb => h.sets b ((hL b).1 hb).1, ?_, ?_⟩
  · obtain ⟨b, hb⟩ := hne
    intro e
    have := (hL b).2 hb
    rw [e] at this; simp at this
  · intro a ha b hb e he hae hbe
    obtain ⟨ia, pa⟩ := (hL a).1 ha
    obtain ⟨ib, pb⟩ := (hL b).1 hb
    have hd := pc_del he hae
    obtain ⟨f, hf, h1, h2, h3⟩ := h.aug (dif a (2 ^ e)) b (h.down _ a ia (subN_bit.2 fun i hi => by
      rw [dif_bit, Bool.and_eq_true] at hi; exact hi.1)) ib (by omega)
    have hfe : ¬ e = f := by rintro rfl; rw [hbe] at h1; cases h1
    have haf : a.testBit f = false := by
      rw [del_bit] at h2
      simpa [hfe] using h2
    refine ⟨f, hf, h1, haf, (hL _).2 ⟨h3, ?_⟩⟩
    rw [pc_swp he hf hae haf]; exact pa
/-- The independent sets are those within its bases. -/
theorem Ind.indN_iff (h : Ind m I) {L : List Nat} {r : Nat} (hL : ∀ b, b ∈ L ↔ I b ∧ pc b = r) (hne : ∃ b, I b ∧ pc b = r) (hmax : ∀ s, I s → pc s ≤ r) (s : Nat) : indN L s = true ↔ I s := by
  constructor
  · intro hs
    obtain ⟨x, hx, hsub⟩ := Z.indN_iff.1 hs
    exact h.down s x ((hL x).1 hx).1 hsub
  · obtain ⟨b, ib, pb⟩ := hne
    have key : ∀ d s, I s → r - pc s ≤ d → ∃ x, x ∈ L ∧ subN s x := by
      intro d
      induction d with
      | zero =>
        intro s hs hd
        have := hmax s hs
        exact ⟨s, (hL s).2 ⟨hs, by omega⟩, subN_refl s⟩
      | succ d ih =>
        intro s hs hd
        by_cases he : pc s = r
        · exact ⟨s, (hL s).2 ⟨hs, he⟩, subN_refl s⟩
        · have := hmax s hs
          obtain ⟨e, he8, h1, h2, h3⟩ := h.aug s b hs ib (by omega)
          obtain ⟨x, hx, hsub⟩ := ih _ h3 (by rw [pc_add he8 h2]; omega)
          refine ⟨x, hx, subN_trans (subN_bit.2 fun i hi => ?_) hsub⟩
          rw [add_bit, hi, Bool.true_or]
    intro hs
    obtain ⟨x, hx, hsub⟩ := key _ s hs (Nat.le_refl _)
    exact Z.indN_iff.2 ⟨x, hx, hsub⟩
theorem pc_or_disj {x y : Nat} (h : x &&& y = 0) : pc (x ||| y) = pc x + pc y := by
  have := pc_or_and x y
  rw [h, pc_zero] at this
  omega
theorem disj_bit {x y i : Nat} (h : x &&& y = 0) (hx : x.testBit i = true) : y.testBit i = false := by
  have := congrArg (fun z => Nat.testBit z i) h
  simp only [Nat.testBit_and, hx, Bool.true_and, Nat.zero_testBit] at this
  exact this
/-- Unions of an independent set of one kind and one of another. -/
def Uni (I J : Nat → Prop) (s : Nat) : Prop := ∃ x y, I x ∧ J y ∧ s = x ||| y
theorem Uni.disj {I J : Nat → Prop} (hJ : ∀ s t, J t → subN s t → J s) {s : Nat} (h : Uni I J s) : ∃ x y, I x ∧ J y ∧ s = x ||| y ∧ x &&& y = 0 := by
  obtain ⟨x, y, hx, hy, rfl⟩ := h
  refine ⟨x, dif y x, hx, hJ _ y hy (subN_bit.2 fun i hi => by rw [dif_bit, Bool.and_eq_true] at hi; exact hi.1), ?_, ?_⟩
  · apply Nat.eq_of_testBit_eq
    intro i
    rw [Nat.testBit_or, Nat.testBit_or, dif_bit]
    cases x.testBit i <;> cases y.testBit i <;> rfl
  · apply Nat.eq_of_testBit_eq
    intro i
    rw [Nat.testBit_and, dif_bit, Nat.zero_testBit]
    cases x.testBit i <;> cases y.testBit i <;> rfl
theorem union_step {I J : Nat → Prop} (hI : Ind m I) (hJ : Ind m J) {b1 b2 : Nat} (ib1 : I b1) (ib2 : J b2) (hb : b1 &&& b2 = 0) : ∀ (n a1 a2 : Nat), I a1 → J a2 → a1 &&& a2 = 0 → pc (a1 ||| a2) < pc (b1 ||| b2) → 16 ≤ n + (pc (a1 &&& b1) + pc (a2 &&& b2)) → ∃ e, e < 8 ∧ (b1 ||| b2).testBit e = true ∧ (a1 ||| a2).testBit e = false ∧ Uni I J ((a1 ||| a2) ||| 2 ^ e) := by
  intro n
  induction n with
  | zero =>
    intro a1 a2 i1 i2 hd hlt hn
    have k1 := pc_and_le b1 a1
    have k2 := pc_and_le b2 a2
    rw [Nat.and_comm] at k1 k2
    have := pc_or_disj hd
    have := pc_or_disj hb
    have h8 := pc_le (b1 ||| b2)
    omega
  | succ n ih =>
    intro a1 a2 i1 i2 hd hlt hn
    have ea := pc_or_disj hd
    have eb := pc_or_disj hb
    by_cases hc : pc a1 < pc b1
    · obtain ⟨e, he, h1, h2, h3⟩ := hI.aug a1 b1 i1 ib1 hc
      cases h4 : a2.testBit e
      · refine ⟨e, he, by rw [Nat.testBit_or, h1, Bool.true_or], by rw [Nat.testBit_or, h2, h4]; rfl, a1 ||| 2 ^ e, a2, h3, i2, ?_⟩
        apply Nat.eq_of_testBit_eq
        intro i
        simp only [Nat.testBit_or]
        cases a1.testBit i <;> cases a2.testBit i <;> cases (2 ^ e).testBit i <;> rfl
      · have eu : (a1 ||| 2 ^ e) ||| dif a2 (2 ^ e) = a1 ||| a2 := by
          apply Nat.eq_of_testBit_eq
          intro i
          rw [Nat.testBit_or, add_bit, del_bit, Nat.testBit_or]
          by_cases hi : e = i
          · subst hi; rw [h4]; simp
          · simp [hi]
        have := ih (a1 ||| 2 ^ e) (dif a2 (2 ^ e)) h3 (hJ.down _ a2 i2 (subN_bit.2 fun i hi => by rw [del_bit, Bool.and_eq_true] at hi; exact hi.1)) (by
            apply Nat.eq_of_testBit_eq
            intro i
            rw [Nat.testBit_and, add_bit, del_bit, Nat.zero_testBit]
            by_cases hi : e = i
            · subst hi; simp
            · have hx := congrArg (fun z => Nat.testBit z i) hd
              simp only [Nat.testBit_and, Nat.zero_testBit] at hx
              simp [hi, hx]) (by rw [eu]; exact hlt) (by
            have k1 : pc ((a1 ||| 2 ^ e) &&& b1) = pc (a1 &&& b1) + 1 := by
              rw [← pc_add (a := a1 &&& b1) he (by rw [Nat.testBit_and, h2]; rfl)]
              congr 1
              apply Nat.eq_of_testBit_eq
              intro i
              rw [Nat.testBit_and, add_bit, add_bit, Nat.testBit_and]
              by_cases hi : e = i
              · subst hi; rw [h1]; simp
              · simp [hi]
            have k2 : dif a2 (2 ^ e) &&& b2 = a2 &&& b2 := by
              apply Nat.eq_of_testBit_eq
              intro i
              rw [Nat.testBit_and, del_bit, Nat.testBit_and]
              by_cases hi : e = i
              · subst hi; rw [disj_bit hb h1]; simp
              · simp [hi]
            rw [k1, k2]; omega)
        rw [eu] at this
        exact this
    · have hc2 : pc a2 < pc b2 := by omega
      obtain ⟨e, he, h1, h2, h3⟩ := hJ.aug a2 b2 i2 ib2 hc2
      have hb' : b2 &&& b1 = 0 := by rw [Nat.and_comm]; exact hb
      cases h4 : a1.testBit e
      · refine ⟨e, he, by rw [Nat.testBit_or, h1, Bool.or_true], by rw [Nat.testBit_or, h2, h4]; rfl, a1, a2 ||| 2 ^ e, i1, h3, ?_⟩
        apply Nat.eq_of_testBit_eq
        intro i
        simp only [Nat.testBit_or]
        cases a1.testBit i <;> cases a2.testBit i <;> cases (2 ^ e).testBit i <;> rfl
      · have eu : dif a1 (2 ^ e) ||| (a2 ||| 2 ^ e) = a1 ||| a2 := by
          apply Nat.eq_of_testBit_eq
          intro i
          rw [Nat.testBit_or, add_bit, del_bit, Nat.testBit_or]
          by_cases hi : e = i
          · subst hi; rw [h4]; simp
          · simp [hi]
        have := ih (dif a1 (2 ^ e)) (a2 ||| 2 ^ e) (hI.down _ a1 i1 (subN_bit.2 fun i hi => by rw [del_bit, Bool.and_eq_true] at hi; exact hi.1)) h3 (by
            apply Nat.eq_of_testBit_eq
            intro i
            rw [Nat.testBit_and, add_bit, del_bit, Nat.zero_testBit]
            by_cases hi : e = i
            · subst hi; simp
            · have hx := congrArg (fun z => Nat.testBit z i) hd
              simp only [Nat.testBit_and, Nat.zero_testBit] at hx
              simp [hi, hx]) (by rw [eu]; exact hlt) (by
            have k1 : pc ((a2 ||| 2 ^ e) &&& b2) = pc (a2 &&& b2) + 1 := by
              rw [← pc_add (a := a2 &&& b2) he (by rw [Nat.testBit_and, h2]; rfl)]
              congr 1
              apply Nat.eq_of_testBit_eq
              intro i
              rw [Nat.testBit_and, add_bit, add_bit, Nat.testBit_and]
              by_cases hi : e = i
              · subst hi; rw [h1]; simp
              · simp [hi]
            have k2 : dif a1 (2 ^ e) &&& b1 = a1 &&& b1 := by
              apply Nat.eq_of_testBit_eq
              intro i
              rw [Nat.testBit_and, del_bit, Nat.testBit_and]
              by_cases hi : e = i
              · subst hi; rw [disj_bit hb' h1]; simp
              · simp [hi]
            rw [k1, k2]; omega)
        rw [eu] at this
        exact this
theorem Ind.union {I J : Nat → Prop} (hI : Ind m I) (hJ : Ind m J) : Ind m (Uni I J) := by
  refine ⟨hI.size, ?_, ?_, ?_, ?_⟩
  · rintro s ⟨x, y, hx, hy, rfl⟩
    exact or_ltP (hI.sets x hx) (hJ.sets y hy)
  · exact ⟨0, 0, hI.zero, hJ.zero, rfl⟩
  · rintro s t ⟨x, y, hx, hy, rfl⟩ hst
    refine ⟨x &&& s, y &&& s, hI.down _ x hx (subN_bit.2 fun i hi => by rw [Nat.testBit_and, Bool.and_eq_true] at hi; exact hi.1), hJ.down _ y hy (subN_bit.2 fun i hi => by rw [Nat.testBit_and, Bool.and_eq_true] at hi; exact hi.1), ?_⟩
    apply Nat.eq_of_testBit_eq
    intro i
    have h1 := subN_bit.1 hst i
    rw [Nat.testBit_or] at h1
    rw [Nat.testBit_or, Nat.testBit_and, Nat.testBit_and]
    cases hs : s.testBit i
    · simp
    · rw [hs] at h1; simpa using (h1 rfl).symm
  · intro a b ha hb hlt
    obtain ⟨a1, a2, i1, i2, rfl, hd⟩ := Uni.disj hJ.down ha
    obtain ⟨b1, b2, j1, j2, rfl, hd'⟩ := Uni.disj hJ.down hb
    exact union_step hI hJ j1 j2 hd' 16 a1 a2 i1 i2 hd hlt (by omega)
/-- At most one element, and of S. -/
def One (S s : Nat) : Prop := s = 0 ∨ ∃ e, e < 8 ∧ S.testBit e = true ∧ s = 2 ^ e
theorem Ind.one {S : Nat} (hm : m ≤ 8) (hS : S < 2 ^ m) : Ind m (One S) := by
  refine ⟨hm, ?_, .inl rfl, ?_, ?_⟩
  · rintro s (rfl | ⟨e, he, h1, rfl⟩)
    · exact Nat.two_pow_pos _
    · exact pow_lt_of (bit_lt hS h1)
  · rintro s t (rfl | ⟨e, he, h1, rfl⟩) hst
    · left
      have := subN_le hst
      omega
    · cases hb : s.testBit e
      · left
        apply Nat.eq_of_testBit_eq
        intro i
        rw [Nat.zero_testBit]
        cases hi : s.testBit i
        · rfl
        · have := subN_bit.1 hst i hi
          rw [Nat.testBit_two_pow] at this
          rw [of_decide_eq_true this, hi] at hb; cases hb
      · right
        refine ⟨e, he, h1, ?_⟩
        apply Nat.eq_of_testBit_eq
        intro i
        rw [Nat.testBit_two_pow]
        by_cases hi : e = i
        · subst hi; rw [hb]; simp
        · rw [decide_eq_false hi]
          cases hs : s.testBit i
          · rfl
          · have := subN_bit.1 hst i hs
            rw [Nat.testBit_two_pow] at this
            exact absurd (of_decide_eq_true this) hi
  · rintro a b (rfl | ⟨e, he, h1, rfl⟩) hb hlt
    · rcases hb with rfl | ⟨f, hf, h2, rfl⟩
      · omega
      · exact ⟨f, hf, by rw [Nat.testBit_two_pow]; simp, Nat.zero_testBit _, by rw [Nat.zero_or]; exact .inr ⟨f, hf, h2, rfl⟩⟩
    · rw [pc_pow he] at hlt
      rcases hb with rfl | ⟨f, hf, h2, rfl⟩
      · rw [pc_zero] at hlt; omega
      · rw [pc_pow hf] at hlt; omega
end Go.Proofs.Ytimkekeaeojpkaa.Q
namespace Go.Proofs.Ytimkekeaeojpkaa.Q
open Go Go.RowKit Go.Proofs.YtimkekeaeojpkaaW.PrintWords Go.Proofs.YtimkekeaeojpkaaW.PrintLast Go.Proofs.YtimkekeaeojpkaaW.PrintMore Go.Proofs.Ytimkekeaeojpkaa.Z
set_option linter.unusedVariables false
set_option linter.unusedSimpArgs false
theorem ints_mem {L : List Nat} {x : Nat} : (ints L).contains (x : Int) = true ↔ x ∈ L := by
  rw [List.contains_iff_mem]
  unfold ints
  rw [List.mem_map]
  constructor
  · rintro ⟨y, hy, he⟩
    have : y = x := by omega
    subst this; exact hy
  · intro h; exact ⟨x, h, rfl⟩
/-- And every matroid, listed in order, is told. -/
theorem mat_matB {m : Nat} {L : List Nat} (h : Mat m L) (hp : L.Pairwise (· < ·)) : matB (m : Int) (ints L) = true := by
  have hfam : ∀ (L : List Nat) (p : Option Int), (∀ b ∈ L, b < 2 ^ m) → L.Pairwise (· < ·) → (∀ q, p = some q → ∀ b ∈ L, q < (b : Int)) → famG (m : Int) p (ints L) = true := by
    intro L
    induction L with
    | nil =>
      intro p _ _ _
      have := h.size
      simp only [ints, List.map_nil, famG, Bool.and_eq_true, decide_eq_true_eq]
      omega
    | cons x L ih =>
      intro p hs hp hq
      have hx := hs x (List.mem_cons_self ..)
      rw [List.pairwise_cons] at hp
      simp only [ints, List.map_cons, famG, Bool.and_eq_true]
      refine ⟨?_, ?_, ih (some (x : Int)) (fun b hb => hs b (List.mem_cons_of_mem _ hb)) hp.2 (fun q hq b hb => ?_)⟩
      · rw [isSetB_nat]
        simp [h.size, hx]
      · cases p with
        | none => rfl
        | some q => simpa using hq q rfl x (List.mem_cons_self ..)
      · have := hp.1 b hb
        injection hq with hq
        omega
  have h1 : famB (m : Int) (ints L) = true := hfam L none h.sets hp (fun q hq => by cases hq)
  simp only [matB, Bool.and_eq_true]
  refine ⟨h1, ?_, ?_⟩
  · have : 0 < L.length := List.length_pos_iff.2 h.some
    rw [ints_len]
    exact decide_eq_true (by omega)
  · unfold failT
    rw [if_pos h1, show (ints L).map Int.toNat = L from toNat_map L]
    have hE : ∀ a ∈ L, ∀ b ∈ L, ∀ es : List Nat, (∀ e ∈ es, e ∈ els (dif a b)) → failE (ints L) a b es = none := by
      intro a ha b hb es
      induction es with
      | nil => intro _; rfl
      | cons e es ih =>
        intro hes
        simp only [failE]
        have he := mem_els.1 (hes e (List.mem_cons_self ..))
        rw [dif_bit] at he
        simp only [Bool.and_eq_true, Bool.not_eq_true'] at he
        obtain ⟨f, hf, h1, h2, h3⟩ := h.exch a ha b hb e he.1 he.2.1 he.2.2
        have : hasEx (ints L) a b e = true := by
          unfold hasEx
          rw [List.any_eq_true]
          exact ⟨f, mem_els.2 ⟨hf, by rw [dif_bit, h1, h2]; rfl⟩, ints_mem.2 h3⟩
        rw [if_pos this]
        exact ih (fun e' he' => hes e' (List.mem_cons_of_mem _ he'))
    have hB : ∀ a ∈ L, ∀ bs : List Nat, (∀ b ∈ bs, b ∈ L) → failB (ints L) a bs = none := by
      intro a ha bs
      induction bs with
      | nil => intro _; rfl
      | cons b bs ih =>
        intro hbs
        simp only [failB]
        rw [hE a ha b (hbs b (List.mem_cons_self ..)) _ (fun e he => he)]
        exact ih (fun b' hb' => hbs b' (List.mem_cons_of_mem _ hb'))
    have hA : ∀ la : List Nat, (∀ a ∈ la, a ∈ L) → failA (ints L) L la = none := by
      intro la
      induction la with
      | nil => intro _; rfl
      | cons a la ih =>
        intro hla
        simp only [failA]
        rw [hB a (hla a (List.mem_cons_self ..)) L (fun b hb => hb)]
        exact ih (fun a' ha' => hla a' (List.mem_cons_of_mem _ ha'))
    rw [hA L (fun a ha => ha)]
    rfl
end Go.Proofs.Ytimkekeaeojpkaa.Q
namespace Go.Proofs.Ytimkekeaeojpkaa.Q
open Go Go.RowKit Go.Proofs.YtimkekeaeojpkaaW.PrintWords Go.Proofs.YtimkekeaeojpkaaW.PrintLast Go.Proofs.YtimkekeaeojpkaaW.PrintMore Go.Proofs.Ytimkekeaeojpkaa.Z
set_option linter.unusedVariables false
set_option linter.unusedSimpArgs false
theorem ints_pair {L : List Nat} (h : L.Pairwise (· < ·)) : (ints L).Pairwise (· < ·) := by
  unfold ints
  rw [List.pairwise_map]
  exact h.imp (fun hab => by omega)
theorem sub_card {a b : Nat} (ha : a < 256) (hb : b < 256) (h : subN a b) (hc : pc b ≤ pc a) : a = b := by
  apply set_ext ha hb
  intro i hi
  cases hbi : b.testBit i
  · cases hai : a.testBit i
    · rfl
    · rw [subN_bit.1 h i hai] at hbi; cases hbi
  · cases hai : a.testBit i
    · have h1 : pc a ≤ pc (dif b (2 ^ i)) := pc_mono fun j _ hj => by
        rw [del_bit, subN_bit.1 h j hj]
        have : ¬ i = j := by rintro rfl; rw [hai] at hj; cases hj
        simp [this]
      have := pc_del hi hbi
      omega
    · rfl
end Go.Proofs.Ytimkekeaeojpkaa.Q
namespace Go.Proofs.Ytimkekeaeojpkaa.Q
open Go Go.RowKit Go.Proofs.YtimkekeaeojpkaaW.PrintWords Go.Proofs.YtimkekeaeojpkaaW.PrintLast Go.Proofs.YtimkekeaeojpkaaW.PrintMore Go.Proofs.Ytimkekeaeojpkaa.Z
set_option linter.unusedVariables false
set_option linter.unusedSimpArgs false
/-- The sets of a list that lie in no other one. -/
def topN (F : List Nat) : List Nat := F.filter (fun s => !F.any (fun t => decide (t ≠ s) && decide (subN s t)))
variable {m : Nat} {I : Nat → Prop} {p : Nat → Bool}
theorem top_ind (hI : Ind m I) (hp : ∀ s, p s = true ↔ I s) {r : Nat} (hex : ∃ b, I b ∧ pc b = r) (hmax : ∀ s, I s → pc s ≤ r) : topN ((List.range (2 ^ m)).filter p) = (List.range (2 ^ m)).filter (fun s => p s && decide (pc s = r)) := by
  unfold topN
  rw [List.filter_filter]
  apply List.filter_congr
  intro s hs
  rw [Bool.eq_iff_iff, Bool.and_eq_true, Bool.and_eq_true, Bool.not_eq_true', decide_eq_true_eq]
  constructor
  · rintro ⟨h1, h2⟩
    have hIs := (hp s).1 h2
    refine ⟨h2, ?_⟩
    refine Classical.byContradiction fun hne => ?_
    obtain ⟨b, hb, hr⟩ := hex
    have := hmax s hIs
    obtain ⟨e, he, k1, k2, k3⟩ := hI.aug s b hIs hb (by omega)
    rw [Bool.eq_false_iff] at h1
    apply h1
    rw [List.any_eq_true]
    refine ⟨s ||| 2 ^ e, List.mem_filter.2 ⟨List.mem_range.2 (hI.sets _ k3), (hp _).2 k3⟩, ?_⟩
    rw [Bool.and_eq_true, decide_eq_true_eq, decide_eq_true_eq]
    refine ⟨fun he' => ?_, subN_bit.2 fun i hi => by rw [add_bit, hi]; rfl⟩
    have := congrArg (fun x => Nat.testBit x e) he'
    simp only [add_bit, k2] at this
    simp at this
  · rintro ⟨h1, h2⟩
    refine ⟨?_, h1⟩
    rw [Bool.eq_false_iff]
    intro hany
    obtain ⟨t, ht, hc⟩ := List.any_eq_true.1 hany
    obtain ⟨ht1, ht2⟩ := List.mem_filter.1 ht
    rw [Bool.and_eq_true, decide_eq_true_eq, decide_eq_true_eq] at hc
    have hIt := (hp t).1 ht2
    have hIs := (hp s).1 h1
    have hle := hmax t hIt
    exact hc.1 (sub_card (hI.lt hIs) (hI.lt hIt) hc.2 (by omega)).symm
theorem base_mem (hI : Ind m I) (hp : ∀ s, p s = true ↔ I s) {r : Nat} (b : Nat) : b ∈ (List.range (2 ^ m)).filter (fun s => p s && decide (pc s = r)) ↔ I b ∧ pc b = r := by
  rw [List.mem_filter, List.mem_range, Bool.and_eq_true, decide_eq_true_eq, hp]
  exact ⟨fun h => h.2, fun h => ⟨hI.sets b h.1, h⟩⟩
theorem base_mat (hI : Ind m I) (hp : ∀ s, p s = true ↔ I s) {r : Nat} (hex : ∃ b, I b ∧ pc b = r) : Mat m ((List.range (2 ^ m)).filter (fun s => p s && decide (pc s = r))) := hI.mat (base_mem hI hp) hex
theorem base_matB (hI : Ind m I) (hp : ∀ s, p s = true ↔ I s) {r : Nat} (hex : ∃ b, I b ∧ pc b = r) : matB (m : Int) (ints ((List.range (2 ^ m)).filter (fun s => p s && decide (pc s = r)))) = true :=
  mat_matB (base_mat hI hp hex) (List.Pairwise.filter _ List.pairwise_lt_range)
end Go.Proofs.Ytimkekeaeojpkaa.Q
namespace Go.Proofs.Ytimkekeaeojpkaa.Q
open Go Go.RowKit Go.Proofs.Ytimkekeaeojpkaa.A Go.Proofs.YtimkekeaeojpkaaW.PrintWords Go.Proofs.YtimkekeaeojpkaaW.PrintLast Go.Proofs.YtimkekeaeojpkaaW.PrintMore Go.Proofs.Ytimkekeaeojpkaa.Z
set_option linter.unusedVariables false
set_option linter.unusedSimpArgs false
/-- All sets of a list are sets of n elements. -/
def setsB (n : Int) (l : List Int) : Bool := l.all (isSetB n)
def areListsB (n : Int) (l : List Int) : Bool := (decide (0 ≤ n) && decide (n ≤ 8)) && (decide (l.length ≤ 6) && setsB n l)
theorem specSets_ev (n : Int) (l : List Int) (hl : l.length ≤ 17592186044416) : Ev (fun k => spec_l3Sets.f k n l) (setsB n l) := by
  have h := down (P := fun i => Ev (fun k => spec_l3Sets.l0 k n l (i : Int)) (setsB n (l.drop i))) l.length
    (by
      apply Ev.step
      · intro k
        simp only [spec_l3Sets.l0, specIsSet_eq, Option.bind_some]
        rw [if_neg (by omega)]
      · rw [drop_end]; exact Ev.now _)
    (by
      intro i hi ih
      apply Ev.step
      · intro k
        simp only [spec_l3Sets.l0, specIsSet_eq, Option.bind_some]
        rw [if_pos (by omega), if_pos (by omega), rd_getElem l i hi, w_succ hi hl]
      · rw [drop_cons l i hi]
        simp only [setsB, List.all_cons]
        by_cases hx : isSetB n l[i] = true
        · refine Ev.ifp hx ?_
          rw [hx, Bool.true_and]; exact ih
        · refine Ev.ifn hx ?_
          rw [Bool.eq_false_iff.2 hx, Bool.false_and]; exact Ev.now _)
  exact h
theorem specAreLists_ev (n : Int) (l : List Int) (hl : l.length ≤ 17592186044416) : Ev (fun k => spec_AreLists.f k n l) (areListsB n l) := by
  unfold spec_AreLists.f areListsB
  refine Ev.cbind (l1In_eq _ _ _) ?_
  by_cases h : (decide (0 ≤ n) && decide (n ≤ 8)) = true
  · refine Ev.ifp h ?_
    rw [h, Bool.true_and]
    by_cases h6 : (l.length : Int) ≤ 6
    · refine Ev.ifp h6 ?_
      rw [show decide (l.length ≤ 6) = true from by simp; omega, Bool.true_and]
      exact Ev.bind (specSets_ev n l hl) (Ev.now _)
    · refine Ev.ifn h6 ?_
      rw [show decide (l.length ≤ 6) = false from by simp; omega, Bool.false_and]
      exact Ev.now _
  · refine Ev.ifn h ?_
    rw [Bool.eq_false_iff.2 h, Bool.false_and]
    exact Ev.now _
theorem implSets_ev (n : Int) (l : List Int) (hl : l.length ≤ 17592186044416) : Ev (fun k => impl_areSetsOf.f k n l) (setsB n l && (decide (0 ≤ n) && decide (n ≤ 8))) := by
  have h := down (P := fun i => Ev (fun k => impl_areSetsOf.l0 k n l (l.length : Int) (i : Int)) (setsB n (l.drop i) && (decide (0 ≤ n) && decide (n ≤ 8)))) l.length
    (by
      apply Ev.step
      · intro k
        simp only [impl_areSetsOf.l0, implIsSet_eq, isSize_eq, Option.bind_some]
        rw [if_neg (by omega)]
      · rw [drop_end]; exact Ev.now _)
    (by
      intro i hi ih
      apply Ev.step
      · intro k
        simp only [impl_areSetsOf.l0, implIsSet_eq, isSize_eq, Option.bind_some]
        rw [if_pos (by omega), if_pos (by omega), if_pos (by omega), rd_getElem l i hi, w_succ hi hl]
      · rw [drop_cons l i hi]
        simp only [setsB, List.all_cons]
        by_cases hx : isSetB n l[i] = true
        · refine Ev.ifp hx ?_
          rw [hx, Bool.true_and]; exact ih
        · refine Ev.ifn hx ?_
          rw [Bool.eq_false_iff.2 hx, Bool.false_and, Bool.false_and]; exact Ev.now _)
  exact h
theorem implAreLists_ev (n : Int) (l : List Int) (hl : l.length ≤ 17592186044416) : Ev (fun k => impl_AreLists.f k n l) (areListsB n l) := by
  unfold impl_AreLists.f areListsB
  refine Ev.bind (implSets_ev n l hl) ?_
  by_cases h : (setsB n l && (decide (0 ≤ n) && decide (n ≤ 8))) = true
  · refine Ev.ifp h ?_
    simp only [Bool.and_eq_true] at h
    rw [h.1, show (decide (0 ≤ n) && decide (n ≤ 8)) = true from by simpa using h.2, Bool.true_and, Bool.and_true]
    have : decide ((l.length : Int) ≤ 6) = decide (l.length ≤ 6) := by
      rw [Bool.eq_iff_iff]; simp only [decide_eq_true_eq]; omega
    rw [this]
    exact Ev.now _
  · refine Ev.ifn h ?_
    have : ((decide (0 ≤ n) && decide (n ≤ 8)) && (decide (l.length ≤ 6) && setsB n l)) = false := by
      rw [Bool.eq_false_iff]
      intro hc
      apply h
      simp only [Bool.and_eq_true] at *
      exact ⟨hc.2.2, hc.1⟩
    rw [this]
    exact Ev.now _
end Go.Proofs.Ytimkekeaeojpkaa.Q
namespace Go.Proofs.Ytimkekeaeojpkaa.Q
open Go Go.RowKit Go.Proofs.Ytimkekeaeojpkaa.A Go.Proofs.YtimkekeaeojpkaaW.PrintWords Go.Proofs.YtimkekeaeojpkaaW.PrintLast Go.Proofs.YtimkekeaeojpkaaW.PrintMore Go.Proofs.Ytimkekeaeojpkaa.Z
set_option linter.unusedVariables false
set_option linter.unusedSimpArgs false
/-- May list k stand for the next element? -/
def asgT (sets list : List Int) (used : List Int) (k : Nat) : Bool := !(used.contains (k : Int)) && (rd sets (k : Int)).toNat.testBit (rd list (used.length : Int)).toNat
def asgL (rec : List Int → List Int × Bool) (sets list : List Int) (used : List Int) : List Nat → List Int × Bool
  | [] => ([], false)
  | k :: ks => if asgT sets list used k = true then (if (rec (used ++ [(k : Int)])).2 = true then ((rec (used ++ [(k : Int)])).1, true) else asgL rec sets list used ks) else asgL rec sets list used ks
def asg (sets list : List Int) : Nat → List Int → List Int × Bool
  | 0, used => (used, true)
  | d + 1, used => asgL (asg sets list d) sets list used (List.range sets.length)
theorem asgL_no (rec : List Int → List Int × Bool) (sets list used : List Int) (ks : List Nat) (h : (asgL rec sets list used ks).2 = false) : (asgL rec sets list used ks).1 = [] := by
  induction ks with
  | nil => rfl
  | cons k ks ih =>
    simp only [asgL] at h ⊢
    by_cases h1 : asgT sets list used k = true
    · rw [if_pos h1] at h ⊢
      by_cases h2 : (rec (used ++ [(k : Int)])).2 = true
      · rw [if_pos h2] at h; cases h
      · rw [if_neg h2] at h ⊢; exact ih h
    · rw [if_neg h1] at h ⊢; exact ih h
theorem asg_no (sets list : List Int) (d : Nat) (used : List Int) (h : (asg sets list d used).2 = false) : (asg sets list d used).1 = [] := by
  cases d with
  | zero => cases h
  | succ d => exact asgL_no _ _ _ _ _ h
theorem asgL_len (rec : List Int → List Int × Bool) (sets list used : List Int) (m : Nat) (hr : ∀ k : Nat, (rec (used ++ [(k : Int)])).1.length ≤ m) (ks : List Nat) : (asgL rec sets list used ks).1.length ≤ m := by
  induction ks with
  | nil => simp [asgL]
  | cons k ks ih =>
    simp only [asgL]
    by_cases h1 : asgT sets list used k = true
    · rw [if_pos h1]
      by_cases h2 : (rec (used ++ [(k : Int)])).2 = true
      · rw [if_pos h2]; exact hr k
      · rw [if_neg h2]; exact ih
    · rw [if_neg h1]; exact ih
theorem asg_len (sets list : List Int) (d : Nat) : ∀ used : List Int, (asg sets list d used).1.length ≤ used.length + d := by
  induction d with
  | zero => intro used; simp [asg]
  | succ d ih =>
    intro used
    refine asgL_len _ _ _ _ _ (fun k => ?_) _
    have := ih (used ++ [(k : Int)])
    simp at this
    omega
theorem range_get {sets : List Int} (hm : ∀ x ∈ sets, ∃ t : Nat, x = t ∧ t < 256) {i : Nat} (hi : i < sets.length) : ∃ t : Nat, rd sets (i : Int) = t ∧ t < 256 := by
  rw [rd_getElem sets i hi]
  exact hm _ (List.getElem_mem hi)
theorem el_get {list : List Int} (hm : ∀ x ∈ list, ∃ e : Nat, x = e ∧ e < 8) {i : Nat} (hi : i < list.length) : ∃ e : Nat, rd list (i : Int) = e ∧ e < 8 := by
  rw [rd_getElem list i hi]
  exact hm _ (List.getElem_mem hi)
theorem specAssign_ev (sets list : List Int) (hs : sets.length ≤ 6) (hsm : ∀ x ∈ sets, ∃ t : Nat, x = t ∧ t < 256) (hll : list.length ≤ 8) (hlm : ∀ x ∈ list, ∃ e : Nat, x = e ∧ e < 8) :
    ∀ (d : Nat) (used : List Int), used.length + d = list.length → Ev (fun k => spec_l15Assign.f k sets list used) (asg sets list d used) := by
  intro d
  induction d with
  | zero =>
    intro used hu
    apply Ev.step
    · intro k
      simp only [spec_l15Assign.f]
      rw [if_pos (by omega)]
    · exact Ev.now _
  | succ d ihd =>
    intro used hu
    apply Ev.step
    · intro k
      simp only [spec_l15Assign.f]
      rw [if_neg (by omega)]
    · have h := down (P := fun i => Ev (fun k => spec_l15Assign.l0 k sets list used (i : Int)) (asgL (asg sets list d) sets list used (List.range' i (sets.length - i)))) sets.length
        (by
          apply Ev.step
          · intro k
            simp only [spec_l15Assign.l0]
            rw [if_neg (by omega)]
          · rw [Nat.sub_self]; exact Ev.now _)
        (by
          intro i hi ih
          rw [range'_cons hi]
          obtain ⟨t, ht, ht256⟩ := range_get hsm hi
          obtain ⟨e, he, he8⟩ := el_get hlm (show used.length < list.length by omega)
          have hT : asgT sets list used i = (!(used.contains (i : Int)) && t.testBit e) := by
            unfold asgT; rw [ht, he, Int.toNat_natCast, Int.toNat_natCast]
          have hih : Ev (fun k => spec_l15Assign.l0 k sets list used (wrap64 ((i : Int) + 1))) (asgL (asg sets list d) sets list used (List.range' (i + 1) (sets.length - (i + 1)))) := by
            rw [w_succ hi (by omega)]; exact ih
          apply Ev.step
          · intro k
            simp only [spec_l15Assign.l0]
            rw [if_pos (by omega)]
          · refine Ev.bind (specHasSet_ev used _ (by omega)) ?_
            by_cases hc : used.contains (i : Int) = true
            · refine Ev.ifp hc ?_
              simp only [asgL]
              rw [hT, hc, if_neg (by simp)]
              apply Ev.step
              · intro k
                rw [spec_l15Assign.j1]
              · exact Ev.ifp rfl hih
            · refine Ev.ifn hc (Ev.ifp (by omega) (Ev.ifp (by omega) (Ev.ifp (by omega) ?_)))
              refine Ev.cbind (a := t.testBit e) (by rw [ht, he]; exact l2Has_eq (lt256_63 ht256) (by omega)) ?_
              simp only [asgL]
              rw [hT, Bool.eq_false_iff.2 hc]
              cases hb : t.testBit e with
              | false =>
                rw [if_neg (by simp)]
                apply Ev.step
                · intro k
                  rw [spec_l15Assign.j1]
                · exact Ev.ifp rfl hih
              | true =>
                rw [if_pos (by simp)]
                apply Ev.step
                · intro k
                  rw [spec_l15Assign.j1]
                · refine Ev.ifn (by simp) (Ev.cbind rfl (Ev.ifp (by simp; omega) (Ev.cbind rfl (Ev.ifp (by simp; omega) ?_))))
                  refine Ev.bind (ihd (used ++ [(i : Int)]) (by simp; omega)) ?_
                  by_cases h2 : (asg sets list d (used ++ [(i : Int)])).2 = true
                  · rw [if_pos h2]; exact Ev.ifp h2 (Ev.now _)
                  · rw [if_neg h2]; exact Ev.ifn h2 hih)
      rw [Nat.sub_zero, ← List.range_eq_range'] at h
      exact h
theorem implAssign_ev (sets list : List Int) (hs : sets.length ≤ 6) (hsm : ∀ x ∈ sets, ∃ t : Nat, x = t ∧ t < 256) (hll : list.length ≤ 8) (hlm : ∀ x ∈ list, ∃ e : Nat, x = e ∧ e < 8) :
    ∀ (d : Nat) (used : List Int), used.length + d = list.length → Ev (fun k => impl_assign.f k sets list used) (asg sets list d used) := by
  intro d
  induction d with
  | zero =>
    intro used hu
    apply Ev.step
    · intro k
      simp only [impl_assign.f]
      rw [if_pos (by omega)]
    · exact Ev.now _
  | succ d ihd =>
    intro used hu
    apply Ev.step
    · intro k
      simp only [impl_assign.f]
      rw [if_neg (by omega)]
    · have h := down (P := fun i => Ev (fun k => impl_assign.l0 k sets list used sets (sets.length : Int) (i : Int)) (asgL (asg sets list d) sets list used (List.range' i (sets.length - i)))) sets.length
        (by
          apply Ev.step
          · intro k
            simp only [impl_assign.l0]
            rw [if_neg (by omega)]
          · rw [Nat.sub_self]; exact Ev.now _)
        (by
          intro i hi ih
          rw [range'_cons hi]
          obtain ⟨t, ht, ht256⟩ := range_get hsm hi
          obtain ⟨e, he, he8⟩ := el_get hlm (show used.length < list.length by omega)
          have hT : asgT sets list used i = (!(used.contains (i : Int)) && t.testBit e) := by
            unfold asgT; rw [ht, he, Int.toNat_natCast, Int.toNat_natCast]
          have hih : Ev (fun k => impl_assign.l0 k sets list used sets (sets.length : Int) (wrap64 ((i : Int) + 1))) (asgL (asg sets list d) sets list used (List.range' (i + 1) (sets.length - (i + 1)))) := by
            rw [w_succ hi (by omega)]; exact ih
          apply Ev.step
          · intro k
            simp only [impl_assign.l0]
            rw [if_pos (by omega), if_pos (by omega), if_pos (by omega)]
          · refine Ev.bind (contains_ev used _ (by omega)) ?_
            by_cases hc : used.contains (i : Int) = true
            · refine Ev.ifp hc ?_
              simp only [asgL]
              rw [hT, hc, if_neg (by simp)]
              apply Ev.step
              · intro k
                rw [impl_assign.j1]
              · exact Ev.ifp rfl hih
            · refine Ev.ifn hc (Ev.ifp (by omega) (Ev.ifp (by omega) ?_))
              refine Ev.cbind (a := t.testBit e) (by rw [ht, he, implHas_eq, hasB_nat]; simp [ht256, he8]) ?_
              simp only [asgL]
              rw [hT, Bool.eq_false_iff.2 hc]
              cases hb : t.testBit e with
              | false =>
                rw [if_neg (by simp)]
                apply Ev.step
                · intro k
                  rw [impl_assign.j1]
                · exact Ev.ifp rfl hih
              | true =>
                rw [if_pos (by simp)]
                apply Ev.step
                · intro k
                  rw [impl_assign.j1]
                · refine Ev.ifn (by simp) (Ev.cbind rfl (Ev.ifp (by simp; omega) (Ev.cbind rfl (Ev.ifp (by simp; omega) ?_))))
                  refine Ev.bind (ihd (used ++ [(i : Int)]) (by simp; omega)) ?_
                  by_cases h2 : (asg sets list d (used ++ [(i : Int)])).2 = true
                  · rw [if_pos h2]; exact Ev.ifp h2 (Ev.now _)
                  · rw [if_neg h2]; exact Ev.ifn h2 hih)
      rw [Nat.sub_zero, ← List.range_eq_range'] at h
      exact h
theorem elsB_facts (s : Int) : ∀ x ∈ elsB s, ∃ e : Nat, x = e ∧ e < 8 := fun x hx => by
  obtain ⟨e, h1, h2, _⟩ := elsB_mem hx
  exact ⟨e, h1, h2⟩
end Go.Proofs.Ytimkekeaeojpkaa.Q
namespace Go.Proofs.Ytimkekeaeojpkaa.Q
open Go Go.RowKit Go.Proofs.YtimkekeaeojpkaaW.PrintWords Go.Proofs.YtimkekeaeojpkaaW.PrintLast Go.Proofs.YtimkekeaeojpkaaW.PrintMore Go.Proofs.Ytimkekeaeojpkaa.Z
set_option linter.unusedVariables false
set_option linter.unusedSimpArgs false
def TP : List Nat → Nat → Prop
  | [], s => s = 0
  | x :: S, s => Uni (TP S) (One x) s
theorem nil_ind {m : Nat} (hm : m ≤ 8) : Ind m (fun s => s = 0) := by
  refine ⟨hm, ?_, rfl, ?_, ?_⟩
  · rintro s rfl; exact Nat.two_pow_pos _
  · rintro s t rfl h; have := subN_le h; omega
  · rintro a b rfl rfl h; omega
theorem Ind.trans {m : Nat} (hm : m ≤ 8) : ∀ S : List Nat, (∀ x ∈ S, x < 2 ^ m) → Ind m (TP S) := by
  intro S
  induction S with
  | nil => intro _; exact nil_ind hm
  | cons x S ih => intro h; exact (ih (fun y hy => h y (List.mem_cons_of_mem _ hy))).union (Ind.one hm (h x (List.mem_cons_self ..)))
def MTz : List Nat → List Nat → Prop
  | _, [] => True
  | S, e :: es => ∃ k, k < S.length ∧ (S.getD k 0).testBit e = true ∧ MTz (S.set k 0) es
theorem One.zero {s : Nat} : One 0 s ↔ s = 0 := by
  constructor
  · rintro (h | ⟨e, _, h, _⟩)
    · exact h
    · rw [Nat.zero_testBit] at h; cases h
  · intro h; exact .inl h
theorem tp_put {e : Nat} (he : e < 8) : ∀ (S : List Nat) (k t : Nat), k < S.length → (S.getD k 0).testBit e = true → TP (S.set k 0) t → TP S (t ||| 2 ^ e) := by
  intro S
  induction S with
  | nil => intro k t hk; simp at hk
  | cons x S ih =>
    intro k t hk hb ht
    cases k with
    | zero =>
      rw [List.set_cons_zero] at ht
      obtain ⟨y, z, hy, hz, rfl⟩ := ht
      have := One.zero.1 hz
      subst this
      exact ⟨y, 2 ^ e, hy, .inr ⟨e, he, hb, rfl⟩, by rw [Nat.or_zero]⟩
    | succ k =>
      rw [List.set_cons_succ] at ht
      obtain ⟨y, z, hy, hz, rfl⟩ := ht
      refine ⟨y ||| 2 ^ e, z, ih k y (by simpa using hk) hb hy, hz, ?_⟩
      apply Nat.eq_of_testBit_eq
      intro i
      simp only [Nat.testBit_or]
      cases y.testBit i <;> cases z.testBit i <;> cases (2 ^ e).testBit i <;> rfl
theorem tp_down : ∀ (S : List Nat) (s t : Nat), TP S t → subN s t → TP S s := by
  intro S
  induction S with
  | nil => rintro s t rfl h; exact Nat.le_zero.1 (subN_le h)
  | cons x S ih =>
    rintro s t ⟨y, z, hy, hz, rfl⟩ h
    refine ⟨y &&& s, z &&& s, ih _ y hy (subN_bit.2 fun i hi => by rw [Nat.testBit_and, Bool.and_eq_true] at hi; exact hi.1), ?_, ?_⟩
    · rcases hz with rfl | ⟨e, he, hb, rfl⟩
      · left; exact Nat.zero_and _
      · cases hs : s.testBit e
        · left
          apply Nat.eq_of_testBit_eq
          intro i
          rw [Nat.testBit_and, Nat.testBit_two_pow, Nat.zero_testBit]
          by_cases hi : e = i
          · subst hi; rw [hs]; simp
          · simp [hi]
        · right
          refine ⟨e, he, hb, ?_⟩
          apply Nat.eq_of_testBit_eq
          intro i
          rw [Nat.testBit_and, Nat.testBit_two_pow]
          by_cases hi : e = i
          · subst hi; rw [hs]; simp
          · simp [hi]
    · apply Nat.eq_of_testBit_eq
      intro i
      have h1 := subN_bit.1 h i
      rw [Nat.testBit_or] at h1
      rw [Nat.testBit_or, Nat.testBit_and, Nat.testBit_and]
      cases hs : s.testBit i
      · simp
      · rw [hs] at h1; simpa using (h1 rfl).symm
theorem tp_take {e : Nat} : ∀ (S : List Nat) (u : Nat), TP S u → u.testBit e = true → ∃ k, k < S.length ∧ (S.getD k 0).testBit e = true ∧ TP (S.set k 0) (dif u (2 ^ e)) := by
  intro S
  induction S with
  | nil => rintro u rfl h; rw [Nat.zero_testBit] at h; cases h
  | cons x S ih =>
    rintro u ⟨y, z, hy, hz, rfl⟩ h
    by_cases hze : z.testBit e = true
    · have hzz : z = 2 ^ e ∧ x.testBit e = true := by
        rcases hz with rfl | ⟨f, hf, hb, rfl⟩
        · rw [Nat.zero_testBit] at hze; cases hze
        · rw [Nat.testBit_two_pow] at hze
          have := of_decide_eq_true hze
          subst this; exact ⟨rfl, hb⟩
      refine ⟨0, by simp, hzz.2, ?_⟩
      rw [List.set_cons_zero]
      refine ⟨dif y (2 ^ e), 0, tp_down S _ y hy (subN_bit.2 fun i hi => by rw [del_bit, Bool.and_eq_true] at hi; exact hi.1), .inl rfl, ?_⟩
      rw [hzz.1]
      apply Nat.eq_of_testBit_eq
      intro i
      simp only [dif_bit, Nat.testBit_or, Nat.zero_testBit]
      cases y.testBit i <;> cases (2 ^ e).testBit i <;> rfl
    · have hze' := Bool.eq_false_iff.2 hze
      rw [Nat.testBit_or, hze', Bool.or_false] at h
      obtain ⟨k, hk, hb, ht⟩ := ih y hy h
      refine ⟨k + 1, by simpa using hk, by simpa using hb, ?_⟩
      rw [List.set_cons_succ]
      refine ⟨dif y (2 ^ e), z, ht, hz, ?_⟩
      apply Nat.eq_of_testBit_eq
      intro i
      rw [del_bit, Nat.testBit_or, Nat.testBit_or, del_bit]
      by_cases hi : e = i
      · subst hi; rw [hze']; simp
      · simp [hi]
theorem mt_tp : ∀ (es S : List Nat), es.Nodup → (∀ e ∈ es, e < 8) → (MTz S es ↔ TP S (orL 0 es)) := by
  intro es
  induction es with
  | nil =>
    intro S _ _
    refine ⟨fun _ => ?_, fun _ => trivial⟩
    have : ∀ S : List Nat, TP S 0 := by
      intro S
      induction S with
      | nil => rfl
      | cons x S ih => exact ⟨0, 0, ih, .inl rfl, rfl⟩
    exact this S
  | cons e es ih =>
    intro S hnd h8
    rw [List.nodup_cons] at hnd
    have ihS := fun S => ih S hnd.2 (fun x hx => h8 x (List.mem_cons_of_mem _ hx))
    have he := h8 e (List.mem_cons_self ..)
    simp only [MTz, orL]
    constructor
    · rintro ⟨k, hk, hb, hm⟩
      exact tp_put he S k _ hk hb ((ihS _).1 hm)
    · intro ht
      obtain ⟨k, hk, hb, h2⟩ := tp_take (e := e) S _ ht (by rw [add_bit]; simp)
      refine ⟨k, hk, hb, (ihS _).2 ?_⟩
      have : dif (orL 0 es ||| 2 ^ e) (2 ^ e) = orL 0 es := by
        apply Nat.eq_of_testBit_eq
        intro i
        rw [del_bit, add_bit, orL_bit]
        by_cases hi : e = i
        · subst hi; simp [hnd.1]
        · simp [hi]
      rw [this] at h2; exact h2
theorem asgL_ok (rec : List Int → List Int × Bool) (sets list used : List Int) : ∀ ks : List Nat, (asgL rec sets list used ks).2 = true ↔ ∃ k ∈ ks, asgT sets list used k = true ∧ (rec (used ++ [(k : Int)])).2 = true := by
  intro ks
  induction ks with
  | nil => simp [asgL]
  | cons k ks ih =>
    simp only [asgL]
    by_cases h1 : asgT sets list used k = true
    · rw [if_pos h1]
      by_cases h2 : (rec (used ++ [(k : Int)])).2 = true
      · rw [if_pos h2]
        exact ⟨fun _ => ⟨k, List.mem_cons_self .., h1, h2⟩, fun _ => rfl⟩
      · rw [if_neg h2, ih]
        constructor
        · rintro ⟨x, hx, h⟩; exact ⟨x, List.mem_cons_of_mem _ hx, h⟩
        · rintro ⟨x, hx, h3, h4⟩
          rcases List.mem_cons.1 hx with rfl | hx
          · exact absurd h4 h2
          · exact ⟨x, hx, h3, h4⟩
    · rw [if_neg h1, ih]
      constructor
      · rintro ⟨x, hx, h⟩; exact ⟨x, List.mem_cons_of_mem _ hx, h⟩
      · rintro ⟨x, hx, h3, h4⟩
        rcases List.mem_cons.1 hx with rfl | hx
        · exact absurd h3 h1
        · exact ⟨x, hx, h3, h4⟩
def zer (S U : List Nat) : List Nat := (List.range S.length).map (fun i => if i ∈ U then 0 else S.getD i 0)
theorem zer_len (S U : List Nat) : (zer S U).length = S.length := by unfold zer; simp
theorem zer_get (S U : List Nat) (k : Nat) (hk : k < S.length) : (zer S U).getD k 0 = if k ∈ U then 0 else S.getD k 0 := by
  unfold zer
  rw [List.getD, List.getElem?_map, List.getElem?_range hk]; rfl
theorem zer_nil (S : List Nat) : zer S [] = S := by
  apply List.ext_getElem
  · exact zer_len S []
  · intro i h1 h2
    unfold zer
    simp [List.getD, h2]
theorem zer_set (S U : List Nat) (k : Nat) : (zer S U).set k 0 = zer S (U ++ [k]) := by
  apply List.ext_getElem
  · rw [List.length_set, zer_len, zer_len]
  · intro i h1 h2
    rw [List.getElem_set]
    unfold zer
    simp only [List.getElem_map, List.getElem_range, List.mem_append, List.mem_singleton]
    by_cases h : k = i
    · subst h; simp
    · have : ¬ i = k := fun x => h x.symm
      simp [h, this]
theorem ints_getD (S : List Nat) (k : Nat) : (rd (ints S) (k : Int)).toNat = S.getD k 0 := by
  rw [rd_nat]
  unfold ints
  rw [List.getD, List.getD, List.getElem?_map]
  cases S[k]? <;> rfl
theorem asg_ok (S es : List Nat) : ∀ (d : Nat) (U : List Nat), U.length + d = es.length → ((asg (ints S) (ints es) d (ints U)).2 = true ↔ MTz (zer S U) (es.drop U.length)) := by
  intro d
  induction d with
  | zero =>
    intro U hU
    rw [List.drop_eq_nil_of_le (by omega)]
    simp only [asg, MTz]
  | succ d ih =>
    intro U hU
    have hlt : U.length < es.length := by omega
    rw [drop_cons es U.length hlt]
    simp only [asg, MTz]
    rw [asgL_ok]
    constructor
    · rintro ⟨k, hk, h1, h2⟩
      rw [List.mem_range, ints_len] at hk
      unfold asgT at h1
      rw [Bool.and_eq_true, Bool.not_eq_true', ints_getD, ints_len, ints_getD] at h1
      have hkU : ¬ k ∈ U := fun h => by
        have := h1.1
        rw [Bool.eq_false_iff] at this
        exact this (ints_mem.2 h)
      refine ⟨k, by rw [zer_len]; exact hk, ?_, ?_⟩
      · rw [zer_get S U k hk, if_neg hkU]
        have := h1.2
        rw [show es.getD U.length 0 = es[U.length] from by rw [List.getD, List.getElem?_eq_getElem hlt]; rfl] at this
        exact this
      · rw [zer_set]
        have := (ih (U ++ [k]) (by simp; omega)).1 (by unfold ints at h2 ⊢; simpa using h2)
        simpa using this
    · rintro ⟨k, hk, h1, h2⟩
      rw [zer_len] at hk
      rw [zer_get S U k hk] at h1
      have hkU : ¬ k ∈ U := fun h => by rw [if_pos h, Nat.zero_testBit] at h1; cases h1
      rw [if_neg hkU] at h1
      refine ⟨k, List.mem_range.2 (by rw [ints_len]; exact hk), ?_, ?_⟩
      · unfold asgT
        rw [Bool.and_eq_true, Bool.not_eq_true', ints_getD, ints_len, ints_getD, Bool.eq_false_iff]
        refine ⟨fun h => hkU (ints_mem.1 h), ?_⟩
        rw [show es.getD U.length 0 = es[U.length] from by rw [List.getD, List.getElem?_eq_getElem hlt]; rfl]
        exact h1
      · rw [zer_set] at h2
        have := (ih (U ++ [k]) (by simp; omega)).2 (by simpa using h2)
        unfold ints at this ⊢
        simpa using this
theorem orL_els {s : Nat} (hs : s < 256) : orL 0 (els s) = s := by
  apply Nat.eq_of_testBit_eq
  intro i
  rw [orL_bit, Nat.zero_testBit, Bool.false_or, Bool.eq_iff_iff, decide_eq_true_eq, mem_els]
  refine ⟨fun h => h.2, fun h => ⟨?_, h⟩⟩
  refine Classical.byContradiction fun hc => ?_
  rw [bit_ge hs hc] at h; cases h
/-- A set has representatives exactly if it is such a union. -/
theorem asg_tp {S : List Nat} {s : Nat} (hs : s < 256) : (asg (ints S) (ints (els s)) (els s).length []).2 = true ↔ TP S s := by
  have h1 := asg_ok S (els s) (els s).length [] (by simp)
  have h2 := mt_tp (els s) S (List.Nodup.sublist List.filter_sublist List.nodup_range) (fun e he => (mem_els.1 he).1)
  rw [orL_els hs] at h2
  rw [zer_nil, List.length_nil, List.drop_zero] at h1
  exact h1.trans h2
end Go.Proofs.Ytimkekeaeojpkaa.Q
namespace Go.Proofs.Ytimkekeaeojpkaa.Q
open Go Go.RowKit Go.Proofs.YtimkekeaeojpkaaW.PrintWords Go.Proofs.YtimkekeaeojpkaaW.PrintLast Go.Proofs.YtimkekeaeojpkaaW.PrintMore Go.Proofs.Ytimkekeaeojpkaa.Z
set_option linter.unusedVariables false
set_option linter.unusedSimpArgs false
def mtN (S : List Nat) (t : Nat) : Nat := (S.map (fun x => if x &&& t = 0 then 0 else 1)).sum
theorem mtN_cons (x : Nat) (S : List Nat) (t : Nat) : mtN (x :: S) t = (if x &&& t = 0 then 0 else 1) + mtN S t := by
  unfold mtN; rw [List.map_cons, List.sum_cons]
theorem meet_ne {x t : Nat} : x &&& t ≠ 0 ↔ ∃ i, x.testBit i = true ∧ t.testBit i = true := by
  constructor
  · intro h
    refine Classical.byContradiction fun hc => h ?_
    apply Nat.eq_of_testBit_eq
    intro i
    rw [Nat.testBit_and, Nat.zero_testBit]
    cases h1 : x.testBit i
    · rfl
    · cases h2 : t.testBit i
      · rfl
      · exact absurd ⟨i, h1, h2⟩ hc
  · rintro ⟨i, h1, h2⟩ h
    have := congrArg (fun z => Nat.testBit z i) h
    simp only [Nat.testBit_and, h1, h2, Nat.zero_testBit] at this
    cases this
theorem mtN_mono {t u : Nat} (h : subN t u) : ∀ S : List Nat, mtN S t ≤ mtN S u := by
  intro S
  induction S with
  | nil => exact Nat.le_refl _
  | cons x S ih =>
    rw [mtN_cons, mtN_cons]
    by_cases h1 : x &&& t = 0
    · rw [if_pos h1]; omega
    · have h2 : ¬ x &&& u = 0 := by
        obtain ⟨i, a, b⟩ := meet_ne.1 h1
        exact meet_ne.2 ⟨i, a, subN_bit.1 h i b⟩
      rw [if_neg h1, if_neg h2]; omega
theorem mtN_sub (T t : Nat) : ∀ S : List Nat, mtN S (T ||| t) + mtN S (T &&& t) ≤ mtN S T + mtN S t := by
  intro S
  induction S with
  | nil => exact Nat.le_refl _
  | cons x S ih =>
    simp only [mtN_cons]
    have k1 : x &&& (T ||| t) ≠ 0 → x &&& T ≠ 0 ∨ x &&& t ≠ 0 := by
      intro h
      obtain ⟨i, a, b⟩ := meet_ne.1 h
      rw [Nat.testBit_or, Bool.or_eq_true] at b
      exact b.imp (fun b => meet_ne.2 ⟨i, a, b⟩) (fun b => meet_ne.2 ⟨i, a, b⟩)
    have k2 : x &&& (T &&& t) ≠ 0 → x &&& T ≠ 0 ∧ x &&& t ≠ 0 := by
      intro h
      obtain ⟨i, a, b⟩ := meet_ne.1 h
      rw [Nat.testBit_and, Bool.and_eq_true] at b
      exact ⟨meet_ne.2 ⟨i, a, b.1⟩, meet_ne.2 ⟨i, a, b.2⟩⟩
    by_cases h1 : x &&& T = 0 <;> by_cases h2 : x &&& t = 0
    · have a1 : x &&& (T ||| t) = 0 := Classical.byContradiction fun h => (k1 h).elim (fun z => z h1) (fun z => z h2)
      have a2 : x &&& (T &&& t) = 0 := Classical.byContradiction fun h => (k2 h).1 h1
      rw [if_pos a1, if_pos a2, if_pos h1, if_pos h2]; omega
    · have a2 : x &&& (T &&& t) = 0 := Classical.byContradiction fun h => (k2 h).1 h1
      rw [if_pos a2, if_pos h1, if_neg h2]
      split <;> omega
    · have a2 : x &&& (T &&& t) = 0 := Classical.byContradiction fun h => (k2 h).2 h2
      rw [if_pos a2, if_neg h1, if_pos h2]
      split <;> omega
    · rw [if_neg h1, if_neg h2]
      split <;> split <;> omega
theorem tp_meet : ∀ (S : List Nat) (t : Nat), TP S t → pc t ≤ mtN S t := by
  intro S
  induction S with
  | nil => rintro t rfl; rw [pc_zero]; exact Nat.zero_le _
  | cons x S ih =>
    rintro t ⟨y, z, hy, hz, rfl⟩
    rw [mtN_cons]
    have h1 := ih y hy
    have h2 : mtN S y ≤ mtN S (y ||| z) := mtN_mono (subN_bit.2 fun i hi => by rw [Nat.testBit_or, hi]; rfl) S
    have h3 := pc_or_and y z
    rcases hz with rfl | ⟨e, he, hb, rfl⟩
    · rw [Nat.or_zero] at h2 ⊢; omega
    · have : ¬ x &&& (y ||| 2 ^ e) = 0 := meet_ne.2 ⟨e, hb, by rw [add_bit]; simp⟩
      rw [if_neg this]
      rw [pc_pow he] at h3
      omega
theorem least_pc {P : Nat → Prop} : ∀ n t, P t → pc t ≤ n → ∃ T, P T ∧ ∀ u, P u → pc T ≤ pc u := by
  intro n
  induction n with
  | zero => intro t ht hn; exact ⟨t, ht, fun u _ => by omega⟩
  | succ n ih =>
    intro t ht hn
    by_cases h : ∃ u, P u ∧ pc u < pc t
    · obtain ⟨u, hu, hlt⟩ := h
      exact ih u hu (by omega)
    · exact ⟨t, ht, fun u hu => by
        have : ¬ pc u < pc t := fun hl => h ⟨u, hu, hl⟩
        omega⟩
theorem hall : ∀ (S : List Nat) (s : Nat), s < 256 → (∀ t, subN t s → pc t ≤ mtN S t) → TP S s := by
  intro S
  induction S with
  | nil =>
    intro s hs h
    have := h s (subN_refl s)
    unfold mtN at this
    exact (pc_zero_iff hs).1 (by simpa using this)
  | cons x S ih =>
    intro s hs h
    by_cases hv : ∃ t, subN t s ∧ mtN S t < pc t
    · obtain ⟨t0, ht0⟩ := hv
      obtain ⟨T, ⟨hTs, hT⟩, hmin⟩ := least_pc (P := fun t => subN t s ∧ mtN S t < pc t) 8 t0 ht0 (pc_le t0)
      have hT1 := h T hTs
      rw [mtN_cons] at hT1
      have hx : x &&& T ≠ 0 := fun hx => by rw [if_pos hx] at hT1; omega
      obtain ⟨e, hxe, hTe⟩ := meet_ne.1 hx
      have hse := subN_bit.1 hTs e hTe
      have he : e < 8 := bit_lt (m := 8) hs hse
      have hsub : ∀ t, subN t (dif s (2 ^ e)) → pc t ≤ mtN S t := by
        intro t ht
        refine Classical.byContradiction fun hc => ?_
        have hts : subN t s := subN_trans ht (subN_bit.2 fun i hi => by rw [del_bit, Bool.and_eq_true] at hi; exact hi.1)
        have k1 := h (T ||| t) (subN_bit.2 fun i hi => by
          rw [Nat.testBit_or, Bool.or_eq_true] at hi
          exact hi.elim (subN_bit.1 hTs i) (subN_bit.1 hts i))
        rw [mtN_cons] at k1
        have k2 : (if x &&& (T ||| t) = 0 then 0 else 1) ≤ 1 := by split <;> omega
        have k3 := mtN_sub T t S
        have k4 := pc_or_and T t
        have k5 := hmin (T &&& t) ⟨subN_bit.2 fun i hi => by
          rw [Nat.testBit_and, Bool.and_eq_true] at hi; exact subN_bit.1 hTs i hi.1, by omega⟩
        have k6 : T &&& t = T := sub_card (Nat.lt_of_le_of_lt Nat.and_le_left (Nat.lt_of_le_of_lt (subN_le hTs) hs)) (Nat.lt_of_le_of_lt (subN_le hTs) hs) (subN_bit.2 fun i hi => by
          rw [Nat.testBit_and, Bool.and_eq_true] at hi; exact hi.1) k5
        have k7 : t.testBit e = true := by
          have := congrArg (fun z => Nat.testBit z e) k6
          simp only [Nat.testBit_and, hTe, Bool.true_and] at this
          exact this
        have := subN_bit.1 ht e k7
        rw [del_bit] at this
        simp at this
      refine ⟨dif s (2 ^ e), 2 ^ e, ih _ (dif_lt hs) hsub, .inr ⟨e, he, hxe, rfl⟩, ?_⟩
      apply Nat.eq_of_testBit_eq
      intro i
      rw [add_bit, del_bit]
      by_cases hi : e = i
      · subst hi; rw [hse]; simp
      · simp [hi]
    · refine ⟨s, 0, ih s hs (fun t ht => ?_), .inl rfl, (Nat.or_zero s).symm⟩
      have : ¬ mtN S t < pc t := fun hl => hv ⟨t, ht, hl⟩
      omega
end Go.Proofs.Ytimkekeaeojpkaa.Q
namespace Go.Proofs.Ytimkekeaeojpkaa.Q
open Go Go.RowKit Go.Proofs.Ytimkekeaeojpkaa.A Go.Proofs.YtimkekeaeojpkaaW.PrintWords Go.Proofs.YtimkekeaeojpkaaW.PrintLast Go.Proofs.YtimkekeaeojpkaaW.PrintMore Go.Proofs.Ytimkekeaeojpkaa.Z
set_option linter.unusedVariables false
set_option linter.unusedSimpArgs false
def assignB (n : Int) (l : List Int) (s : Int) : List Int × Bool := if areListsB n l = true then (if isSetB n s = true then asg l (elsB s) (elsB s).length [] else ([], false)) else ([], false)
theorem areListsB_facts {n : Int} {l : List Int} (h : areListsB n l = true) : l.length ≤ 6 ∧ ∀ x ∈ l, ∃ t : Nat, x = t ∧ t < 256 := by
  simp only [areListsB, Bool.and_eq_true, decide_eq_true_eq] at h
  refine ⟨h.2.1, fun x hx => ?_⟩
  have := List.all_eq_true.1 h.2.2 x hx
  obtain ⟨_, t, _, rfl, _, _, ht⟩ := isSetB_lt this
  exact ⟨t, rfl, ht⟩
theorem implAssignment_ev (n : Int) (l : List Int) (s : Int) (hl : l.length ≤ 17592186044416) : Ev (fun k => impl_AssignmentOf.f k n l s) (assignB n l s) := by
  unfold impl_AssignmentOf.f assignB
  refine Ev.bind (implAreLists_ev n l hl) ?_
  by_cases h : areListsB n l = true
  · refine Ev.ifp h (Ev.cbind (implIsSet_eq _ _) ?_)
    rw [if_pos h]
    obtain ⟨h6, hm⟩ := areListsB_facts h
    by_cases hs : isSetB n s = true
    · rw [if_pos hs, hs]
      apply Ev.step
      · intro k
        rw [impl_AssignmentOf.j0]
      · refine Ev.ifn (by decide) (Ev.bind (implElements_ev s) ?_)
        exact Ev.bind (implAssign_ev l (elsB s) h6 hm (elsB_len s) (elsB_facts s) (elsB s).length [] (by simp)) (Ev.now _)
    · rw [if_neg hs, Bool.eq_false_iff.2 hs]
      apply Ev.step
      · intro k
        rw [impl_AssignmentOf.j0]
      · exact Ev.ifp rfl (Ev.now _)
  · refine Ev.ifn h ?_
    rw [if_neg h]
    apply Ev.step
    · intro k
      rw [impl_AssignmentOf.j0]
    · exact Ev.ifp rfl (Ev.now _)
theorem assignB_len (n : Int) (l : List Int) (s : Int) : (assignB n l s).1.length ≤ 8 := by
  unfold assignB
  by_cases h : areListsB n l = true
  · rw [if_pos h]
    by_cases hs : isSetB n s = true
    · rw [if_pos hs]
      have hlen := asg_len l (elsB s) (elsB s).length []
      have h8 := elsB_len s
      simp only [List.length_nil] at hlen
      omega
    · rw [if_neg hs]; simp
  · rw [if_neg h]; simp
end Go.Proofs.Ytimkekeaeojpkaa.Q
namespace Go.Proofs.Ytimkekeaeojpkaa.Q
open Go Go.RowKit Go.Proofs.Ytimkekeaeojpkaa.A Go.Proofs.YtimkekeaeojpkaaW.PrintWords Go.Proofs.YtimkekeaeojpkaaW.PrintLast Go.Proofs.YtimkekeaeojpkaaW.PrintMore Go.Proofs.Ytimkekeaeojpkaa.Z
set_option linter.unusedVariables false
set_option linter.unusedSimpArgs false
theorem specElements_ev (s : Int) : Ev (fun k => spec_ElementsOf.f k s) (elsB s) := by
  have h := down (P := fun i => ∀ acc : List Int, acc.length ≤ i → Ev (fun k => spec_ElementsOf.l0 k s acc (i : Int)) (acc ++ ((List.range' i (8 - i)).filter (fun e : Nat => hasB s (e : Int))).map (fun e : Nat => (e : Int)))) 8
    (by
      intro acc ha
      apply Ev.step
      · intro k
        simp only [spec_ElementsOf.l0, specHas_eq, Option.bind_some]
        rw [if_neg (by omega)]
      · simpa using Ev.now _)
    (by
      intro i hi ih acc ha
      apply Ev.step
      · intro k
        simp only [spec_ElementsOf.l0, specHas_eq, Option.bind_some]
        rw [if_pos (by omega), w_succ hi (by omega)]
      · rw [range'_cons hi, filter_cons_map]
        by_cases hx : hasB s (i : Int) = true
        · refine Ev.ifp hx (Ev.ifp (by omega) ?_)
          rw [if_pos hx, ← List.append_assoc]
          exact ih (acc ++ [(i : Int)]) (by simp; omega)
        · refine Ev.ifn hx ?_
          rw [if_neg hx]
          exact ih acc (by omega))
  have h0 := h [] (Nat.le_refl 0)
  rw [show ((0 : Nat) : Int) = 0 from rfl] at h0
  have e : elsB s = [] ++ ((List.range' 0 (8 - 0)).filter (fun e : Nat => hasB s (e : Int))).map (fun e : Nat => (e : Int)) := by
    unfold elsB
    rw [List.nil_append, List.range_eq_range']
  rw [e]
  unfold spec_ElementsOf.f
  exact h0
end Go.Proofs.Ytimkekeaeojpkaa.Q
namespace Go.Proofs.Ytimkekeaeojpkaa.Q
open Go Go.RowKit Go.Proofs.Ytimkekeaeojpkaa.A Go.Proofs.YtimkekeaeojpkaaW.PrintWords Go.Proofs.YtimkekeaeojpkaaW.PrintLast Go.Proofs.YtimkekeaeojpkaaW.PrintMore Go.Proofs.Ytimkekeaeojpkaa.Z
set_option linter.unusedVariables false
set_option linter.unusedSimpArgs false
/-- A number put into a list in order, once. -/
def insO (x : Int) : List Int → List Int
  | [] => [x]
  | y :: ys => if y < x then y :: insO x ys else (if y = x then y :: ys else x :: y :: ys)
def sortO (acc X : List Int) : List Int := X.foldl (fun a x => insO x a) acc
theorem insO_len (x : Int) (l : List Int) : (insO x l).length ≤ l.length + 1 := by
  induction l with
  | nil => exact Nat.le_refl _
  | cons y l ih =>
    simp only [insO]
    by_cases h : y < x
    · rw [if_pos h, List.length_cons, List.length_cons]; omega
    · rw [if_neg h]
      by_cases h2 : y = x
      · rw [if_pos h2]; omega
      · rw [if_neg h2]; simp only [List.length_cons]; omega
theorem insO_mem (x a : Int) (l : List Int) : a ∈ insO x l ↔ a = x ∨ a ∈ l := by
  induction l with
  | nil => simp [insO]
  | cons y l ih =>
    simp only [insO]
    by_cases h : y < x
    · rw [if_pos h, List.mem_cons, ih, List.mem_cons]
      constructor
      · rintro (h' | h' | h')
        · exact .inr (.inl h')
        · exact .inl h'
        · exact .inr (.inr h')
      · rintro (h' | h' | h')
        · exact .inr (.inl h')
        · exact .inl h'
        · exact .inr (.inr h')
    · rw [if_neg h]
      by_cases h2 : y = x
      · rw [if_pos h2]
        subst h2
        constructor
        · exact .inr
        · rintro (rfl | h')
          · exact List.mem_cons_self ..
          · exact h'
      · rw [if_neg h2, List.mem_cons]
theorem insO_pair (x : Int) (l : List Int) (hl : l.Pairwise (· < ·)) : (insO x l).Pairwise (· < ·) := by
  induction l with
  | nil => simp [insO]
  | cons y l ih =>
    rw [List.pairwise_cons] at hl
    simp only [insO]
    by_cases h : y < x
    · rw [if_pos h, List.pairwise_cons]
      refine ⟨fun a ha => ?_, ih hl.2⟩
      rcases (insO_mem x a l).1 ha with rfl | ha
      · exact h
      · exact hl.1 a ha
    · rw [if_neg h]
      by_cases h2 : y = x
      · rw [if_pos h2, List.pairwise_cons]; exact hl
      · rw [if_neg h2, List.pairwise_cons, List.pairwise_cons]
        refine ⟨fun a ha => ?_, hl⟩
        rcases List.mem_cons.1 ha with rfl | ha
        · omega
        · have := hl.1 a ha; omega
theorem sortO_mem (X : List Int) (a : Int) : ∀ acc : List Int, a ∈ sortO acc X ↔ a ∈ X ∨ a ∈ acc := by
  induction X with
  | nil => intro acc; simp [sortO]
  | cons x X ih =>
    intro acc
    have := ih (insO x acc)
    unfold sortO at this ⊢
    rw [List.foldl_cons, this, insO_mem, List.mem_cons]
    constructor
    · rintro (h | h | h)
      · exact .inl (.inr h)
      · exact .inl (.inl h)
      · exact .inr h
    · rintro ((h | h) | h)
      · exact .inr (.inl h)
      · exact .inl h
      · exact .inr (.inr h)
theorem sortO_pair (X : List Int) : ∀ acc : List Int, acc.Pairwise (· < ·) → (sortO acc X).Pairwise (· < ·) := by
  induction X with
  | nil => intro acc h; exact h
  | cons x X ih => intro acc h; exact ih _ (insO_pair x acc h)
/-- Two lists in order with the same members are one. -/
theorem pair_unique : ∀ {X Y : List Int}, X.Pairwise (· < ·) → Y.Pairwise (· < ·) → (∀ a, a ∈ X ↔ a ∈ Y) → X = Y := by
  intro X
  induction X with
  | nil =>
    intro Y _ _ h
    cases Y with
    | nil => rfl
    | cons y Y => exact absurd ((h y).2 (List.mem_cons_self ..)) (by simp)
  | cons x X ih =>
    intro Y hX hY h
    cases Y with
    | nil => exact absurd ((h x).1 (List.mem_cons_self ..)) (by simp)
    | cons y Y =>
      rw [List.pairwise_cons] at hX hY
      have hxy : x = y := by
        rcases List.mem_cons.1 ((h x).1 (List.mem_cons_self ..)) with e | hx
        · exact e
        · rcases List.mem_cons.1 ((h y).2 (List.mem_cons_self ..)) with e | hy
          · exact e.symm
          · have h1 := hX.1 y hy
            have h2 := hY.1 x hx
            omega
      subst hxy
      rw [ih hX.2 hY.2 (fun a => ?_)]
      constructor
      · intro ha
        rcases List.mem_cons.1 ((h a).1 (List.mem_cons_of_mem _ ha)) with e | h'
        · have := hX.1 a ha; omega
        · exact h'
      · intro ha
        rcases List.mem_cons.1 ((h a).2 (List.mem_cons_of_mem _ ha)) with e | h'
        · have := hY.1 a ha; omega
        · exact h'
theorem specSort_ev (X : List Int) (hx : X.length ≤ 8796093022208) : Ev (fun k => spec_SortSets.f k X) (sortO [] X) := by
  have hd := down (P := fun i => ∀ acc : List Int, acc.length ≤ i → Ev (fun k => spec_SortSets.l0 k X acc (i : Int)) (sortO acc (X.drop i))) X.length
    (by
      intro acc _
      apply Ev.step
      · intro k
        rw [spec_SortSets.l0, if_neg (by omega)]
      · rw [drop_end]; exact Ev.now _)
    (by
      intro i hi ih acc ha
      have ihs := fun y (hy : y = insO X[i] acc) => ih y (by subst hy; have := insO_len X[i] acc; omega)
      rw [drop_cons X i hi]
      have h1 := down (P := fun j => Ev (fun k => spec_SortSets.l1 k X acc (i : Int) (j : Int)) (sortO (acc.take j ++ insO X[i] (acc.drop j)) (X.drop (i + 1)))) acc.length
        (by
          rw [List.take_length, drop_end]
          have hr := ih (acc ++ [X[i]]) (by rw [List.length_append, List.length_singleton]; omega)
          apply Ev.step
          · intro k
            rw [spec_SortSets.l1, if_neg (by omega), w_succ hi (by omega)]
          · simp only [Option.bind_some, Int.toNat_natCast, List.drop_length, List.take_length, List.nil_append, List.append_nil, List.length_nil, List.length_append, List.length_singleton]
            refine Ev.ifp (by omega) (Ev.ifp (by omega) (Ev.ifp (by omega) (Ev.ifp (by omega) (Ev.ifp (by omega) (Ev.ifp (by omega) (Ev.ifp (by omega) ?_))))))
            rw [rd_getElem X i hi]
            exact hr)
        (by
          intro j hj ihj
          apply Ev.step
          · intro k
            rw [spec_SortSets.l1, if_pos (by omega), if_pos (by omega), if_pos (by omega), if_pos (by omega), rd_getElem acc j hj, rd_getElem X i hi, w_succ hi (by omega), w_succ hj (by omega)]
          · rw [drop_cons acc j hj]
            simp only [insO]
            by_cases hlt : acc[j] < X[i]
            · rw [if_pos hlt]
              refine Ev.ifp hlt ?_
              rw [take_snoc acc j hj, List.append_assoc, List.singleton_append] at ihj
              exact ihj
            · rw [if_neg hlt]
              refine Ev.ifn hlt ?_
              by_cases heq : acc[j] = X[i]
              · rw [if_pos heq]
                refine Ev.ifp heq ?_
                rw [← drop_cons acc j hj, List.take_append_drop]
                exact ih acc (by omega)
              · rw [if_neg heq]
                refine Ev.ifn heq ?_
                have hr := ih (acc.take j ++ X[i] :: acc[j] :: acc.drop (j + 1)) (by
                  rw [List.length_append, List.length_cons, List.length_cons, List.length_take, List.length_drop]; omega)
                simp only [Option.bind_some, Int.toNat_natCast, List.nil_append, List.length_nil]
                refine Ev.ifp (by omega) (Ev.ifp (by rw [List.length_drop]; omega) (Ev.ifp (by rw [List.length_take]; omega) (Ev.ifp (by rw [List.length_append, List.length_singleton, List.length_take, List.length_drop]; omega) ?_)))
                rw [drop_cons acc j hj, List.append_assoc, List.singleton_append]
                exact hr)
      apply Ev.step
      · intro k
        rw [spec_SortSets.l0, if_pos (by omega)]
      · have h0 := h1
        rw [List.take_zero, List.drop_zero, List.nil_append] at h0
        show Ev _ (sortO acc (X[i] :: X.drop (i + 1)))
        exact h0)
  exact hd [] (Nat.zero_le _)
end Go.Proofs.Ytimkekeaeojpkaa.Q
namespace Go.Proofs.Ytimkekeaeojpkaa.Q
open Go Go.RowKit Go.Proofs.Ytimkekeaeojpkaa.A Go.Proofs.YtimkekeaeojpkaaW.PrintWords Go.Proofs.YtimkekeaeojpkaaW.PrintLast Go.Proofs.YtimkekeaeojpkaaW.PrintMore Go.Proofs.Ytimkekeaeojpkaa.Z
set_option linter.unusedVariables false
set_option linter.unusedSimpArgs false
theorem subset_eq (t s : Int) : impl_IsSubset.f t s = some (isAnyB t && (isAnyB s && decide (subN t.toNat s.toNat))) := by
  unfold impl_IsSubset.f
  rw [isAny_eq, isAny_eq, Option.bind_some, Option.bind_some]
  by_cases h1 : isAnyB t = true
  · rw [if_pos h1, h1, Bool.true_and]
    by_cases h2 : isAnyB s = true
    · rw [if_pos h2, h2, Bool.true_and]
      obtain ⟨a, rfl, ha⟩ := isAnyB_lt h1
      obtain ⟨b, rfl, hb⟩ := isAnyB_lt h2
      rw [andNot_nat (lt256_63 ha) (lt256_63 hb), Int.toNat_natCast, Int.toNat_natCast]
      have e : (((dif a b : Nat) : Int) == 0) = decide (subN a b) := by
        rw [Bool.eq_iff_iff, beq_iff_eq, decide_eq_true_eq]
        have h := @dif_zero a b
        constructor
        · intro h0; exact h.1 (by omega)
        · intro h0; have := h.2 h0; omega
      rw [e]
    · rw [if_neg h2, Bool.eq_false_iff.2 h2, Bool.false_and]
  · rw [if_neg h1, Bool.eq_false_iff.2 h1, Bool.false_and]
end Go.Proofs.Ytimkekeaeojpkaa.Q
namespace Go.Proofs.Ytimkekeaeojpkaa.Q
open Go Go.RowKit Go.Proofs.Ytimkekeaeojpkaa.A Go.Proofs.YtimkekeaeojpkaaW.PrintWords Go.Proofs.YtimkekeaeojpkaaW.PrintLast Go.Proofs.YtimkekeaeojpkaaW.PrintMore Go.Proofs.Ytimkekeaeojpkaa.Z
set_option linter.unusedVariables false
set_option linter.unusedSimpArgs false
theorem areSets_ev (l : List Int) (hl : l.length ≤ 17592186044416) : Ev (fun k => impl_areSets.f k l) (l.all isAnyB) := by
  have h := down (P := fun i => Ev (fun k => impl_areSets.l0 k l (l.length : Int) (i : Int)) ((l.drop i).all isAnyB)) l.length
    (by
      apply Ev.step
      · intro k
        simp only [impl_areSets.l0, isAny_eq, Option.bind_some]
        rw [if_neg (by omega)]
      · rw [drop_end]; exact Ev.now _)
    (by
      intro i hi ih
      apply Ev.step
      · intro k
        simp only [impl_areSets.l0, isAny_eq, Option.bind_some]
        rw [if_pos (by omega), if_pos (by omega), if_pos (by omega), rd_getElem l i hi, w_succ hi hl]
      · rw [drop_cons l i hi, List.all_cons]
        by_cases hx : isAnyB l[i] = true
        · refine Ev.ifp hx ?_
          rw [hx, Bool.true_and]; exact ih
        · refine Ev.ifn hx ?_
          rw [Bool.eq_false_iff.2 hx, Bool.false_and]; exact Ev.now _)
  exact h
theorem sortC_ints {X : List Int} {D : List Nat} (hD : D.Pairwise (· < ·)) (h : ∀ a, a ∈ X ↔ a ∈ ints D) : sortC X = ints D :=
  pair_unique (sortC_spec X).1 (ints_pair hD) (fun a => ((sortC_spec X).2 a).trans (h a))
theorem implSort_eq {F : List Nat} (hp : F.Pairwise (· < ·)) (hl : F.length < 17592186044416) : impl_SortSets.f (ints F) = some (ints F) := by
  unfold impl_SortSets.f
  rw [if_pos (by rw [ints_len]; exact hl), sortC_ints hp (fun a => Iff.rfl)]
theorem sortO_intsB {X : List Int} {D : List Nat} (hD : D.Pairwise (· < ·)) (h : ∀ a, a ∈ X ↔ a ∈ ints D) : sortO [] X = ints D :=
  pair_unique (sortO_pair X [] List.Pairwise.nil) (ints_pair hD) (fun a => by rw [sortO_mem, h]; simp)
end Go.Proofs.Ytimkekeaeojpkaa.Q
namespace Go.Proofs.Ytimkekeaeojpkaa.Q
open Go Go.RowKit Go.Proofs.Ytimkekeaeojpkaa.A Go.Proofs.YtimkekeaeojpkaaW.PrintWords Go.Proofs.YtimkekeaeojpkaaW.PrintLast Go.Proofs.YtimkekeaeojpkaaW.PrintMore Go.Proofs.Ytimkekeaeojpkaa.Z
set_option linter.unusedVariables false
set_option linter.unusedSimpArgs false
def okMaximalSets (t s : Nat) : Bool := decide (t = s) || !decide (subN s t)
theorem okMaximalSets_all (F : List Nat) (s : Nat) : F.all (fun t => okMaximalSets t s) = !F.any (fun t => decide (t ≠ s) && decide (subN s t)) := by
  induction F with
  | nil => rfl
  | cons x F ih =>
    rw [List.all_cons, List.any_cons, ih, Bool.not_or]
    congr 1
    unfold okMaximalSets
    by_cases h : x = s
    · simp [h]
    · simp [h]
theorem specMaximalSets_ev {F : List Nat} (hF : ∀ x ∈ F, x < 256) (hp : F.Pairwise (· < ·)) (hl : F.length ≤ 65536) : Ev (fun k => spec_MaximalSets.f k (ints F)) (ints (topN F)) := by
  have hset : setsB 8 (ints F) = true := by
    unfold setsB
    rw [List.all_eq_true]
    intro x hx
    obtain ⟨t, ht, rfl⟩ := List.mem_map.1 hx
    rw [isSet8, isAnyB_nat]
    exact decide_eq_true (hF t ht)
  have hd := down (P := fun i => ∀ acc : List Nat, acc.length ≤ i → Ev (fun k => spec_MaximalSets.l0 k (ints F) (ints acc) (i : Int)) (sortO [] (ints (acc ++ (F.drop i).filter (fun s => F.all (fun t => okMaximalSets t s)))))) F.length
    (by
      intro acc ha
      apply Ev.step
      · intro k
        rw [spec_MaximalSets.l0, if_neg (by rw [ints_len]; omega)]
      · rw [drop_end, List.filter_nil, List.append_nil]
        exact Ev.bind (specSort_ev _ (by rw [ints_len]; omega)) (Ev.now _))
    (by
      intro i hi ih acc ha
      rw [drop_cons F i hi, List.filter_cons]
      have hs := hF _ (List.getElem_mem hi)
      have h1 := down (P := fun j => ∀ fine : Bool, Ev (fun k => spec_MaximalSets.l1 k (ints F) (ints acc) (i : Int) fine (j : Int)) (sortO [] (ints ((if (fine && (F.drop j).all (fun t => okMaximalSets t F[i])) = true then acc ++ [F[i]] else acc) ++ (F.drop (i + 1)).filter (fun s => F.all (fun t => okMaximalSets t s)))))) F.length
        (by
          intro fine
          apply Ev.step
          · intro k
            rw [spec_MaximalSets.l1, if_neg (by rw [ints_len]; omega)]
          · rw [drop_end]
            cases fine with
            | true =>
              refine Ev.ifp rfl (Ev.ifp (by omega) (Ev.ifp (by rw [ints_len]; omega) (Ev.ifp (by rw [ints_len]; omega) ?_)))
              rw [ints_rd F i hi, w_succ hi (by omega), if_pos (by rfl)]
              have := ih (acc ++ [F[i]]) (by rw [List.length_append, List.length_singleton]; omega)
              rw [show ints acc ++ [(F[i] : Int)] = ints (acc ++ [F[i]]) from by simp [ints]]
              exact this
            | false =>
              refine Ev.ifn (by decide) ?_
              rw [w_succ hi (by omega), if_neg (by simp)]
              exact ih acc (by omega))
        (by
          intro j hj ihj fine
          have ht := hF _ (List.getElem_mem hj)
          apply Ev.step
          · intro k
            rw [spec_MaximalSets.l1, if_pos (by rw [ints_len]; omega)]
          · rw [drop_cons F j hj, List.all_cons]
            cases fine with
            | true =>
              refine Ev.ifp rfl (Ev.ifp (by omega) (Ev.ifp (by omega) (Ev.ifp (by rw [ints_len]; omega) ?_)))
              rw [ints_rd F i hi, ints_rd F j hj, w_succ hj (by omega)]
              by_cases he : F[j] = F[i]
              · refine Ev.ifp (by rw [he]) ?_
                have := ihj true
                rw [show okMaximalSets F[j] F[i] = true from by unfold okMaximalSets; simp [he], Bool.true_and]
                exact this
              · refine Ev.ifn (fun h => he (by omega)) ?_
                have := ihj (okMaximalSets F[j] F[i])
                rw [Bool.true_and]
                have e : ((Go.bits .and .i64 (F[j] : Int) (F[i] : Int)) != (F[i] : Int)) = okMaximalSets F[j] F[i] := by
                  rw [and_nat (lt256_63 ht) (lt256_63 hs), Bool.eq_iff_iff, bne_iff_ne]
                  unfold okMaximalSets
                  rw [show decide (F[j] = F[i]) = false from decide_eq_false he, Bool.false_or, Bool.not_eq_true', decide_eq_false_iff_not]
                  unfold subN
                  rw [Nat.and_comm]
                  constructor
                  · intro h1 h2; exact h1 (by rw [h2])
                  · intro h1 h2; exact h1 (by omega)
                rw [e]
                exact this
            | false =>
              refine Ev.ifn (by decide) ?_
              have := ihj false
              rw [w_succ hj (by omega)]
              simpa using this)
      have h0 := h1 true
      rw [List.drop_zero, Bool.true_and] at h0
      apply Ev.step
      · intro k
        rw [spec_MaximalSets.l0, if_pos (by rw [ints_len]; omega)]
      · by_cases hg : F.all (fun t => okMaximalSets t F[i]) = true
        · rw [if_pos hg]
          rw [if_pos hg, List.append_assoc, List.singleton_append] at h0
          exact h0
        · rw [if_neg hg]
          rw [if_neg hg] at h0
          exact h0)
  have h0 := hd [] (Nat.zero_le _)
  rw [List.drop_zero, List.nil_append] at h0
  have e : topN F = F.filter (fun s => F.all (fun t => okMaximalSets t s)) := by
    unfold topN
    apply List.filter_congr
    intro s _
    rw [okMaximalSets_all]
  rw [← e, sortO_intsB (D := topN F) (List.Pairwise.filter _ hp) (fun a => Iff.rfl)] at h0
  unfold spec_MaximalSets.f
  simp only [Option.bind_some]
  refine Ev.bind (specSets_ev 8 (ints F) (by rw [ints_len]; omega)) ?_
  rw [hset]
  exact Ev.ifp rfl h0
end Go.Proofs.Ytimkekeaeojpkaa.Q
namespace Go.Proofs.Ytimkekeaeojpkaa.Q
open Go Go.RowKit Go.Proofs.Ytimkekeaeojpkaa.A Go.Proofs.YtimkekeaeojpkaaW.PrintWords Go.Proofs.YtimkekeaeojpkaaW.PrintLast Go.Proofs.YtimkekeaeojpkaaW.PrintMore Go.Proofs.Ytimkekeaeojpkaa.Z
set_option linter.unusedVariables false
set_option linter.unusedSimpArgs false
theorem implMaximalSets_ev {F : List Nat} (hF : ∀ x ∈ F, x < 256) (hp : F.Pairwise (· < ·)) (hl : F.length ≤ 65536) : Ev (fun k => impl_MaximalSets.f k (ints F)) (ints (topN F)) := by
  unfold impl_MaximalSets.f
  have hset : (ints F).all isAnyB = true := by
    rw [List.all_eq_true]
    intro x hx
    obtain ⟨t, ht, rfl⟩ := List.mem_map.1 hx
    rw [isAnyB_nat]
    exact decide_eq_true (hF t ht)
  refine Ev.bind (areSets_ev (ints F) (by rw [ints_len]; omega)) ?_
  rw [hset]
  refine Ev.ifp rfl ?_
  refine Ev.cbind (implSort_eq hp (by omega)) ?_
  have e : (ints F).filter (fun x : Int => !F.any (fun t => decide (t ≠ x.toNat) && decide (subN x.toNat t))) = ints (topN F) := by
    unfold ints topN
    rw [List.filter_map]
    congr 1
  rw [← e]
  refine Ev_filterO (g := fun _ s => impl_MaximalSets.p (ints F) s) (p := fun x : Int => !F.any (fun t => decide (t ≠ x.toNat) && decide (subN x.toNat t))) ?_
  intro x hx
  obtain ⟨s, hs, rfl⟩ := List.mem_map.1 hx
  unfold impl_MaximalSets.p
  have h := Ev_anyO (g := fun _ t => impl_MaximalSets.c (s : Int) t) (p := fun y : Int => decide (y.toNat ≠ s) && decide (subN s y.toNat)) (l := ints F) (fun y hy => by
    obtain ⟨t, ht, rfl⟩ := List.mem_map.1 hy
    unfold impl_MaximalSets.c
    by_cases he : t = s
    · rw [if_pos (by rw [he])]
      have : (decide ((t : Int).toNat ≠ s) && decide (subN s (t : Int).toNat)) = false := by simp [he]
      rw [this]; exact Ev.now _
    · rw [if_neg (by omega), subset_eq, isAnyB_nat, isAnyB_nat, decide_eq_true (hF t ht), decide_eq_true (hF s hs), Int.toNat_natCast, Int.toNat_natCast]
      have : decide (t ≠ s) = true := decide_eq_true he
      rw [this]
      exact Ev.now _)
  have e2 : (ints F).any (fun y : Int => decide (y.toNat ≠ s) && decide (subN s y.toNat)) = F.any (fun t => decide (t ≠ (s : Int).toNat) && decide (subN (s : Int).toNat t)) := by
    unfold ints
    rw [List.any_map]
    rfl
  rw [e2] at h
  exact Ev.bind h (Ev.now _)
end Go.Proofs.Ytimkekeaeojpkaa.Q
namespace Go.Proofs.Ytimkekeaeojpkaa.Q
open Go Go.RowKit Go.Proofs.Ytimkekeaeojpkaa.A Go.Proofs.YtimkekeaeojpkaaW.PrintWords Go.Proofs.YtimkekeaeojpkaaW.PrintLast Go.Proofs.YtimkekeaeojpkaaW.PrintMore Go.Proofs.Ytimkekeaeojpkaa.Z
set_option linter.unusedVariables false
set_option linter.unusedSimpArgs false
theorem pow_wrap {e : Nat} (he : e < 8) : IntKind.i64.wrap (2 ^ e) = ((2 ^ e : Nat) : Int) := by
  have h2 : (2 ^ e : Nat) < 9223372036854775808 := by
    have := Nat.pow_lt_pow_right (a := 2) (by decide) (show e < 63 by omega)
    simpa using this
  have h3 : (2 : Int) ^ e = ((2 ^ e : Nat) : Int) := by simp
  rw [h3]
  exact i64_wrap_nat h2
theorem implC_ev (l : List Int) (hl : l.length ≤ 17592186044416) (a e f : Nat) (ha : a < 256) (he : e < 8) (hf : f < 8) : Ev (fun k => impl_FirstFailure.c k l (a : Int) (e : Int) (f : Int)) (l.contains ((dif a (2 ^ e) ||| 2 ^ f : Nat) : Int)) := by
  unfold impl_FirstFailure.c impl_HasSet.f
  refine Ev.ifp (by omega) (Ev.ifp (by omega) ?_)
  have hp : ∀ x < 8, 2 ^ x < 2 ^ 63 := fun x hx => Nat.pow_lt_pow_right (by decide) (by omega)
  rw [Int.toNat_natCast, Int.toNat_natCast, pow_wrap he, pow_wrap hf, andNot_nat (lt256_63 ha) (hp e he), or_nat (lt256_63 (dif_lt ha)) (hp f hf)]
  exact Ev.bind (contains_ev l _ hl) (Ev.now _)
theorem els_lt {s e : Nat} (h : e ∈ els s) : e < 8 := (mem_els.1 h).1
theorem any_map (p : Int → Bool) (L : List Nat) : (L.map (fun x : Nat => (x : Int))).any p = L.any (fun x => p (x : Int)) := by
  rw [List.any_map]; rfl
theorem implFail_l2 (l : List Int) (hl : l.length ≤ 17592186044416) (a b : Nat) (ha : a < 256) (hb : b < 256) : ∀ es : List Nat, (∀ e ∈ es, e < 8) → Ev (fun k => impl_FirstFailure.l2 k l (a : Int) (b : Int) (es.map (fun x : Nat => (x : Int)))) ((failE l a b es).map (fun x : Nat => (x : Int))) := by
  intro es
  induction es with
  | nil => intro _; exact Ev.now _
  | cons e es ih =>
    intro hm
    have he := hm e (List.mem_cons_self ..)
    simp only [List.map_cons, impl_FirstFailure.l2]
    rw [andNot_nat (lt256_63 hb) (lt256_63 ha)]
    refine Ev.bind (implElements_ev _) ?_
    rw [elsB_nat (dif_lt hb)]
    refine Ev.bind (a := hasEx l a b e) ?_ ?_
    · have h := Ev_anyO (g := fun k f => impl_FirstFailure.c k l (a : Int) (e : Int) f) (p := fun f => l.contains ((dif a (2 ^ e) ||| 2 ^ f.toNat : Nat) : Int)) (l := (els (dif b a)).map (fun x : Nat => (x : Int)))
        (fun x hx => by
          obtain ⟨f, hf, rfl⟩ := List.mem_map.1 hx
          have := implC_ev l hl a e f ha he (els_lt hf)
          rw [Int.toNat_natCast]
          exact this)
      rw [any_map] at h
      simp only [Int.toNat_natCast] at h
      exact h
    · simp only [failE]
      by_cases hx : hasEx l a b e = true
      · refine Ev.ifp hx ?_
        rw [if_pos hx]
        exact ih (fun e' he' => hm e' (List.mem_cons_of_mem _ he'))
      · refine Ev.ifn hx ?_
        rw [if_neg hx]
        exact Ev.now _
theorem implFail_l1 (l : List Int) (hl : l.length ≤ 17592186044416) (a : Nat) (ha : a < 256) : ∀ bs : List Nat, (∀ b ∈ bs, b < 256) → Ev (fun k => impl_FirstFailure.l1 k l (a : Int) (bs.map (fun x : Nat => (x : Int)))) ((failB l a bs).map (fun x : Nat × Nat => ((x.1 : Int), (x.2 : Int)))) := by
  intro bs
  induction bs with
  | nil => intro _; exact Ev.now _
  | cons b bs ih =>
    intro hm
    have hb := hm b (List.mem_cons_self ..)
    simp only [List.map_cons, impl_FirstFailure.l1]
    rw [andNot_nat (lt256_63 ha) (lt256_63 hb)]
    refine Ev.bind (implElements_ev _) ?_
    rw [elsB_nat (dif_lt ha)]
    refine Ev.bind (implFail_l2 l hl a b ha hb _ (fun e he => els_lt he)) ?_
    simp only [failB]
    cases failE l a b (els (dif a b)) with
    | none => exact ih (fun b' hb' => hm b' (List.mem_cons_of_mem _ hb'))
    | some e => exact Ev.now _
theorem implFail_l0 (l : List Int) (L : List Nat) (hlL : l = L.map (fun x : Nat => (x : Int))) (hl : l.length ≤ 17592186044416) (hL : ∀ b ∈ L, b < 256) : ∀ la : List Nat, (∀ a ∈ la, a < 256) → Ev (fun k => impl_FirstFailure.l0 k l (la.map (fun x : Nat => (x : Int)))) ((failA l L la).map (fun x : Nat × Nat × Nat => ((x.1 : Int), (x.2.1 : Int), (x.2.2 : Int)))) := by
  intro la
  induction la with
  | nil => intro _; exact Ev.now _
  | cons a la ih =>
    intro hm
    have ha := hm a (List.mem_cons_self ..)
    simp only [List.map_cons, impl_FirstFailure.l0]
    refine Ev.bind (a := (failB l a L).map (fun x : Nat × Nat => ((x.1 : Int), (x.2 : Int)))) (by
      have := implFail_l1 l hl a ha L hL
      rw [← hlL] at this
      exact this) ?_
    simp only [failA]
    cases failB l a L with
    | none => exact ih (fun a' ha' => hm a' (List.mem_cons_of_mem _ ha'))
    | some x => exact Ev.now _
theorem implFail_ev (n : Int) (l : List Int) (hl : l.length ≤ 17592186044416) : Ev (fun k => impl_FirstFailure.f k n l) (failT n l) := by
  unfold impl_FirstFailure.f failT
  refine Ev.bind (implFam_ev n l hl) ?_
  by_cases hf : famB n l = true
  · refine Ev.ifp hf ?_
    rw [if_pos hf]
    obtain ⟨m, L, rfl, hm, hlL, hL, _⟩ := famB_nat hf
    have hmap : l.map Int.toNat = L := by rw [hlL, toNat_map]
    have h256 : ∀ b ∈ L, b < 256 := fun b hb => Nat.lt_of_lt_of_le (hL b hb) (pow_le_256 hm)
    have h := implFail_l0 l L hlL hl h256 L h256
    rw [← hlL] at h
    refine Ev.bind h ?_
    rw [hmap]
    cases failA l L L with
    | none => exact Ev.now _
    | some x => exact Ev.now _
  · refine Ev.ifn hf ?_
    rw [if_neg hf]
    exact Ev.now _
end Go.Proofs.Ytimkekeaeojpkaa.Q
namespace Go.Proofs.Ytimkekeaeojpkaa.Q
open Go Go.RowKit Go.Proofs.Ytimkekeaeojpkaa.A Go.Proofs.YtimkekeaeojpkaaW.PrintWords Go.Proofs.YtimkekeaeojpkaaW.PrintLast Go.Proofs.YtimkekeaeojpkaaW.PrintMore Go.Proofs.Ytimkekeaeojpkaa.Z
set_option linter.unusedVariables false
set_option linter.unusedSimpArgs false
theorem implMat_ev (n : Int) (l : List Int) (hl : l.length ≤ 17592186044416) : Ev (fun k => impl_IsMatroid.f k n l) (matB n l) := by
  unfold impl_IsMatroid.f matB
  refine Ev.bind (implFail_ev n l hl) (Ev.bind (implFam_ev n l hl) ?_)
  by_cases hf : famB n l = true
  · refine Ev.ifp hf ?_
    rw [hf, Bool.true_and]
    by_cases h0 : (l.length : Int) > 0
    · refine Ev.ifp h0 ?_
      rw [show decide ((l.length : Int) > 0) = true from by simpa using h0, Bool.true_and]
      exact Ev.now _
    · refine Ev.ifn h0 ?_
      rw [show decide ((l.length : Int) > 0) = false from by simpa using h0, Bool.false_and]
      exact Ev.now _
  · refine Ev.ifn hf ?_
    rw [Bool.eq_false_iff.2 hf, Bool.false_and]
    exact Ev.now _
end Go.Proofs.Ytimkekeaeojpkaa.Q
namespace Go.Proofs.Ytimkekeaeojpkaa.Q
open Go Go.RowKit Go.Proofs.Ytimkekeaeojpkaa.A Go.Proofs.YtimkekeaeojpkaaW.PrintWords Go.Proofs.YtimkekeaeojpkaaW.PrintLast Go.Proofs.YtimkekeaeojpkaaW.PrintMore Go.Proofs.Ytimkekeaeojpkaa.Z
set_option linter.unusedVariables false
set_option linter.unusedSimpArgs false
variable {m : Nat} {I : Nat → Prop} {p : Nat → Bool}
/-- The size of the greatest of the sets at which p answers yes. -/
def rkI (m : Nat) (p : Nat → Bool) : Nat := maxN 0 (((List.range (2 ^ m)).filter p).map pc)
/-- The greatest of them. -/
def bsI (m : Nat) (p : Nat → Bool) : List Nat := (List.range (2 ^ m)).filter (fun s => p s && decide (pc s = rkI m p))
theorem rkI_facts (hI : Ind m I) (hp : ∀ s, p s = true ↔ I s) : (∃ b, I b ∧ pc b = rkI m p) ∧ (∀ s, I s → pc s ≤ rkI m p) := by
  obtain ⟨r, ⟨b, hb, hr⟩, hmax⟩ := hI.max
  have hle : ∀ s, I s → pc s ≤ rkI m p := fun s hs => maxN_mem _ 0 _ (List.mem_map.2 ⟨s, List.mem_filter.2 ⟨List.mem_range.2 (hI.sets s hs), (hp s).2 hs⟩, rfl⟩)
  have hge : rkI m p ≤ r := by
    apply maxN_le (Nat.zero_le _)
    intro x hx
    obtain ⟨s, hs, rfl⟩ := List.mem_map.1 hx
    exact hmax s ((hp s).1 (List.mem_filter.1 hs).2)
  have := hle b hb
  exact ⟨⟨b, hb, by omega⟩, hle⟩
theorem fil_len (hm : m ≤ 8) (q : Nat → Bool) : ((List.range (2 ^ m)).filter q).length ≤ 256 := by
  have h1 := List.length_filter_le q (List.range (2 ^ m))
  rw [List.length_range] at h1
  exact Nat.le_trans h1 (pow_le_256 hm)
theorem bsI_len (hm : m ≤ 8) (p : Nat → Bool) : (bsI m p).length ≤ 256 := fil_len hm _
theorem fil_lt (hm : m ≤ 8) (q : Nat → Bool) : ∀ x ∈ (List.range (2 ^ m)).filter q, x < 256 := fun x hx => by
  have := List.mem_range.1 (List.mem_filter.1 hx).1
  have := pow_le_256 hm
  omega
theorem bsI_matB (hI : Ind m I) (hp : ∀ s, p s = true ↔ I s) : matB (m : Int) (ints (bsI m p)) = true := base_matB hI hp (rkI_facts hI hp).1
theorem implFromInd_ev (hI : Ind m I) (hp : ∀ s, p s = true ↔ I s) : Ev (fun k => impl_fromIndependent.f k (m : Int) (ints ((List.range (2 ^ m)).filter p))) ((m : Int), ints (bsI m p), true) := by
  obtain ⟨hex, hmax⟩ := rkI_facts hI hp
  have htop := top_ind hI hp hex hmax
  have hmat := bsI_matB hI hp
  unfold impl_fromIndependent.f
  have hmx := implMaximalSets_ev (F := (List.range (2 ^ m)).filter p) (fil_lt hI.size p) (List.Pairwise.filter _ List.pairwise_lt_range) (Nat.le_trans (fil_len hI.size p) (by decide))
  rw [htop] at hmx
  have hb : (ints (bsI m p)).length ≤ 17592186044416 := by
    rw [ints_len]
    exact Nat.le_trans (bsI_len hI.size p) (by decide)
  exact Ev.bind hmx (Ev.bind (implMat_ev _ _ hb) (Ev.ifp hmat (Ev.now _)))
theorem specMaxInd_ev (hI : Ind m I) (hp : ∀ s, p s = true ↔ I s) : Ev (fun k => spec_MaximalSets.f k (ints ((List.range (2 ^ m)).filter p))) (ints (bsI m p)) := by
  obtain ⟨hex, hmax⟩ := rkI_facts hI hp
  have htop := top_ind hI hp hex hmax
  have hmx := specMaximalSets_ev (F := (List.range (2 ^ m)).filter p) (fil_lt hI.size p) (List.Pairwise.filter _ List.pairwise_lt_range) (Nat.le_trans (fil_len hI.size p) (by decide))
  rw [htop] at hmx
  exact hmx
end Go.Proofs.Ytimkekeaeojpkaa.Q
namespace Go.Proofs.Ytimkekeaeojpkaa.Q
open Go Go.RowKit Go.Proofs.YtimkekeaeojpkaaW.PrintWords Go.Proofs.YtimkekeaeojpkaaW.PrintLast Go.Proofs.YtimkekeaeojpkaaW.PrintMore Go.Proofs.Ytimkekeaeojpkaa.Z
set_option linter.unusedVariables false
set_option linter.unusedSimpArgs false
theorem fromTo_full {m : Nat} : fromTo 0 ((fullN m : Nat) : Int) = ints (List.range (2 ^ m)) := by
  have := Nat.two_pow_pos m
  unfold fromTo ints fullN
  rw [List.range_eq_range', show (((2 ^ m - 1 : Nat) : Int) + 1).toNat - (0 : Int).toNat = 2 ^ m from by omega]
  rfl
/-- What the program's setsOf computes. -/
theorem setsOf_ev {m : Nat} (hm : m ≤ 8) {g : Nat → Int → Option Bool} {p : Nat → Bool} (h : ∀ t : Nat, t < 2 ^ m → Ev (fun k => g k (t : Int)) (p t)) : Ev (fun k => setsO (g k) ((fullN m : Nat) : Int)) (ints ((List.range (2 ^ m)).filter p)) := by
  unfold setsO
  rw [fromTo_full]
  have hf : (ints (List.range (2 ^ m))).filter (fun x : Int => p x.toNat) = ints ((List.range (2 ^ m)).filter p) := by
    unfold ints
    rw [List.filter_map]
    congr 1
  rw [← hf]
  refine Ev_filterO (p := fun x : Int => p x.toNat) ?_
  intro x hx
  obtain ⟨t, ht, rfl⟩ := List.mem_map.1 hx
  rw [Int.toNat_natCast]
  exact h t (List.mem_range.1 ht)
theorem full_small {m : Nat} (hm : m ≤ 8) : 0 ≤ ((fullN m : Nat) : Int) ∧ ((fullN m : Nat) : Int) ≤ 1000 := by
  have := (full_lt hm).2
  omega
end Go.Proofs.Ytimkekeaeojpkaa.Q
namespace Go.Proofs.Ytimkekeaeojpkaa.Q
open Go Go.RowKit Go.Proofs.Ytimkekeaeojpkaa.A Go.Proofs.YtimkekeaeojpkaaW.PrintWords Go.Proofs.YtimkekeaeojpkaaW.PrintLast Go.Proofs.YtimkekeaeojpkaaW.PrintMore Go.Proofs.Ytimkekeaeojpkaa.Z
set_option linter.unusedVariables false
set_option linter.unusedSimpArgs false
theorem areListsB_nat {n : Int} {l : List Int} (h : areListsB n l = true) : ∃ (m : Nat) (S : List Nat), n = m ∧ m ≤ 8 ∧ l = ints S ∧ S.length ≤ 6 ∧ (∀ x ∈ S, x < 2 ^ m) := by
  have h2 := h
  simp only [areListsB, Bool.and_eq_true, decide_eq_true_eq] at h2
  obtain ⟨⟨h0, h8⟩, h6, hs⟩ := h2
  obtain ⟨m, rfl⟩ := Int.eq_ofNat_of_zero_le h0
  have hall : ∀ x ∈ l, ∃ t : Nat, x = t ∧ t < 2 ^ m := fun x hx => by
    have := List.all_eq_true.1 hs x hx
    obtain ⟨m', t, hm', rfl, _, ht, _⟩ := isSetB_lt this
    have : m = m' := by omega
    subst this
    exact ⟨t, rfl, ht⟩
  refine ⟨m, l.map Int.toNat, rfl, by omega, ?_, by rw [List.length_map]; exact h6, ?_⟩
  · unfold ints
    rw [List.map_map]
    conv => lhs; rw [← List.map_id l]
    apply List.map_congr_left
    intro x hx
    obtain ⟨t, rfl, _⟩ := hall x hx
    rfl
  · intro x hx
    obtain ⟨y, hy, rfl⟩ := List.mem_map.1 hx
    obtain ⟨t, rfl, ht⟩ := hall y hy
    rw [Int.toNat_natCast]; exact ht
/-- Has s representatives? -/
def tpB (m : Nat) (S : List Nat) (s : Nat) : Bool := decide (s < 2 ^ m) && (asg (ints S) (ints (els s)) (els s).length []).2
theorem tpB_iff {m : Nat} (hm : m ≤ 8) {S : List Nat} (hS : ∀ x ∈ S, x < 2 ^ m) (s : Nat) : tpB m S s = true ↔ TP S s := by
  have h2m := pow_le_256 hm
  unfold tpB
  rw [Bool.and_eq_true, decide_eq_true_eq]
  constructor
  · rintro ⟨h1, h2⟩; exact (asg_tp (by omega)).1 h2
  · intro h
    have hs := (Ind.trans hm S hS).sets s h
    exact ⟨hs, (asg_tp (by omega)).2 h⟩
def fsB (n : Int) (l : List Int) : Int × List Int := if areListsB n l = true then (n, ints (bsI n.toNat (tpB n.toNat (l.map Int.toNat)))) else (0, [])
theorem fsB_len (n : Int) (l : List Int) : (fsB n l).2.length ≤ 256 := by
  unfold fsB
  by_cases h : areListsB n l = true
  · rw [if_pos h]
    obtain ⟨m, S, rfl, hm, rfl, _⟩ := areListsB_nat h
    simp only [ints_len]
    rw [Int.toNat_natCast]
    exact bsI_len hm _
  · rw [if_neg h]; exact Nat.zero_le _
theorem specFromSets_ev (n : Int) (l : List Int) (hl : l.length ≤ 17592186044416) : Ev (fun k => spec_FromSets.f k n l) (fsB n l) := by
  unfold spec_FromSets.f fsB
  refine Ev.bind (specAreLists_ev n l hl) ?_
  by_cases h : areListsB n l = true
  rotate_left
  · rw [if_neg h]; exact Ev.ifn h (Ev.now _)
  rw [if_pos h]
  refine Ev.ifp h ?_
  have hfc := areListsB_facts h
  obtain ⟨m, S, rfl, hm, rfl, h6, hS⟩ := areListsB_nat h
  rw [show (ints S).map Int.toNat = S from toNat_map S, Int.toNat_natCast]
  have h2m := pow_le_256 hm
  have hp2 := Nat.two_pow_pos m
  have hmx := specMaxInd_ev (Ind.trans hm S hS) (tpB_iff hm hS)
  have hd := down (P := fun i => ∀ acc : List Nat, acc.length ≤ i → acc ++ (List.range' i (2 ^ m - i)).filter (tpB m S) = (List.range (2 ^ m)).filter (tpB m S) → Ev (fun k => spec_FromSets.l0 k (m : Int) (ints S) (ints acc) (i : Int)) ((m : Int), ints (bsI m (tpB m S)))) (2 ^ m)
    (by
      intro acc _ he
      rw [Nat.sub_self, List.range'_zero, List.filter_nil, List.append_nil] at he
      apply Ev.step
      · intro k
        simp only [spec_FromSets.l0, specFull_eq hm, Option.bind_some]
        rw [if_neg (by unfold fullN; omega), he]
      · exact Ev.bind hmx (Ev.now _))
    (by
      intro i hi ih acc ha he
      rw [range'_cons' hi, List.filter_cons] at he
      have h256 : i < 256 := by omega
      apply Ev.step
      · intro k
        simp only [spec_FromSets.l0, specFull_eq hm, Option.bind_some]
        rw [if_pos (by unfold fullN; omega), w_succ hi (by omega)]
      · refine Ev.bind (specElements_ev _) ?_
        refine Ev.bind (specAssign_ev (ints S) (elsB (i : Int)) hfc.1 hfc.2 (elsB_len _) (elsB_facts _) (elsB (i : Int)).length [] (by simp)) ?_
        have e : (asg (ints S) (elsB (i : Int)) (elsB (i : Int)).length []).2 = tpB m S i := by
          unfold tpB
          rw [elsB_nat h256, decide_eq_true hi, Bool.true_and, List.length_map]
          rfl
        by_cases hc : tpB m S i = true
        · rw [if_pos hc] at he
          refine Ev.ifp (by rw [e]; exact hc) (Ev.ifp (by rw [ints_len]; omega) ?_)
          rw [show ints acc ++ [(i : Int)] = ints (acc ++ [i]) from by simp [ints]]
          exact ih (acc ++ [i]) (by rw [List.length_append, List.length_singleton]; omega) (by rw [List.append_assoc, List.singleton_append]; exact he)
        · rw [if_neg hc] at he
          exact Ev.ifn (by rw [e]; exact hc) (ih acc (by omega) he))
  exact hd [] (Nat.zero_le _) (by rw [Nat.sub_zero, ← List.range_eq_range', List.nil_append])
theorem implFromSets_ev (n : Int) (l : List Int) (hl : l.length ≤ 17592186044416) : Ev (fun k => impl_FromSets.f k n l) (fsB n l) := by
  unfold impl_FromSets.f fsB
  refine Ev.bind (implAreLists_ev n l hl) ?_
  by_cases h : areListsB n l = true
  rotate_left
  · rw [if_neg h]; exact Ev.ifn h (Ev.now _)
  rw [if_pos h]
  refine Ev.ifp h ?_
  have h' := h
  obtain ⟨m, S, rfl, hm, rfl, h6, hS⟩ := areListsB_nat h
  rw [show (ints S).map Int.toNat = S from toNat_map S, Int.toNat_natCast]
  have h2m := pow_le_256 hm
  have hset := setsOf_ev hm (g := fun k s => impl_FromSets.c k (m : Int) (ints S) s) (p := tpB m S) (fun t ht => by
    have h256 : t < 256 := by omega
    unfold impl_FromSets.c
    refine Ev.bind (implAssignment_ev _ _ _ hl) ?_
    have e : (assignB (m : Int) (ints S) (t : Int)).2 = tpB m S t := by
      unfold assignB tpB
      rw [if_pos h', if_pos (by rw [isSetB_nat, decide_eq_true hm, decide_eq_true ht]; rfl), elsB_nat h256, decide_eq_true ht, Bool.true_and, List.length_map]
      rfl
    rw [← e]
    exact Ev.now _)
  exact Ev.cbind (implFull_eq hm) (Ev.ifp (full_small hm) (Ev.bind hset (Ev.bind (implFromInd_ev (Ind.trans hm S hS) (tpB_iff hm hS)) (Ev.now _))))
end Go.Proofs.Ytimkekeaeojpkaa.Q
namespace Go.Proofs.Ytimkekeaeojpkaa.Q
open Go Go.RowKit Go.Proofs.Ytimkekeaeojpkaa.A Go.Proofs.YtimkekeaeojpkaaW.PrintWords Go.Proofs.YtimkekeaeojpkaaW.PrintLast Go.Proofs.YtimkekeaeojpkaaW.PrintMore Go.Proofs.Ytimkekeaeojpkaa.Z
set_option linter.unusedVariables false
set_option linter.unusedSimpArgs false
theorem specAssignment_ev (n : Int) (l : List Int) (s : Int) (hl : l.length ≤ 17592186044416) : Ev (fun k => spec_AssignmentOf.f k n l s) (assignB n l s) := by
  unfold spec_AssignmentOf.f assignB
  refine Ev.bind (specAreLists_ev n l hl) ?_
  by_cases h : areListsB n l = true
  · refine Ev.ifp h (Ev.cbind (specIsSet_eq _ _) ?_)
    rw [if_pos h]
    obtain ⟨h6, hm⟩ := areListsB_facts h
    by_cases hs : isSetB n s = true
    · rw [if_pos hs, hs]
      apply Ev.step
      · intro k
        rw [spec_AssignmentOf.j0]
      · refine Ev.ifn (by decide) (Ev.bind (specElements_ev s) ?_)
        refine Ev.bind (specAssign_ev l (elsB s) h6 hm (elsB_len s) (elsB_facts s) (elsB s).length [] (by simp)) ?_
        have hlen := asg_len l (elsB s) (elsB s).length []
        have h8 := elsB_len s
        have hno := asg_no l (elsB s) (elsB s).length []
        generalize asg l (elsB s) (elsB s).length [] = r at hlen hno
        obtain ⟨r1, r2⟩ := r
        cases r2 with
        | true =>
          refine Ev.ifp rfl (Ev.cbind rfl (Ev.ifp ?_ ?_))
          · simp only [List.length_nil] at hlen ⊢; omega
          · exact Ev.now _
        | false =>
          refine Ev.ifn (by simp) ?_
          have : r1 = [] := hno rfl
          subst this
          exact Ev.now _
    · rw [if_neg hs, Bool.eq_false_iff.2 hs]
      apply Ev.step
      · intro k
        rw [spec_AssignmentOf.j0]
      · exact Ev.ifp rfl (Ev.now _)
  · refine Ev.ifn h ?_
    rw [if_neg h]
    apply Ev.step
    · intro k
      rw [spec_AssignmentOf.j0]
    · exact Ev.ifp rfl (Ev.now _)
end Go.Proofs.Ytimkekeaeojpkaa.Q
namespace Go.Proofs.Ytimkekeaeojpkaa.Q
open Go Go.RowKit Go.Proofs.Ytimkekeaeojpkaa.A Go.Proofs.YtimkekeaeojpkaaW.PrintWords Go.Proofs.YtimkekeaeojpkaaW.PrintLast Go.Proofs.YtimkekeaeojpkaaW.PrintMore Go.Proofs.Ytimkekeaeojpkaa.Z
set_option linter.unusedVariables false
set_option linter.unusedSimpArgs false
/-- How many sets of a list meet a set. -/
def meetN (l : List Int) (t : Nat) : Nat := (l.filter (fun x => decide (x.toNat &&& t ≠ 0))).length
/-- The first of some sets that is a crowd within s. -/
def crowdG (l : List Int) (s : Nat) : List Nat → Int × Bool
  | [] => (0, false)
  | t :: ts => if t &&& s = t ∧ meetN l t < pc t then ((t : Int), true) else crowdG l s ts
def crowdB (n : Int) (l : List Int) (s : Int) : Int × Bool := if areListsB n l = true then (if isSetB n s = true then crowdG l s.toNat (List.range' 1 s.toNat) else (0, false)) else (0, false)
theorem meet_cons (x : Nat) (l : List Int) (t : Nat) : meetN ((x : Int) :: l) t = (if x &&& t = 0 then 0 else 1) + meetN l t := by
  unfold meetN
  rw [List.filter_cons, Int.toNat_natCast]
  by_cases h : x &&& t = 0
  · rw [if_neg (by simpa using h), if_pos h]; omega
  · rw [if_pos (by simpa using h), if_neg h, List.length_cons]; omega
theorem setsB_mem {n : Int} {l : List Int} (h : setsB n l = true) : ∀ x ∈ l, ∃ t : Nat, x = t ∧ t < 256 := by
  intro x hx
  have := List.all_eq_true.1 h x hx
  obtain ⟨_, t, _, rfl, _, _, ht⟩ := isSetB_lt this
  exact ⟨t, rfl, ht⟩
theorem crowdG_no {l : List Int} {s t : Nat} {ts : List Nat} (h : ¬ (t &&& s = t ∧ meetN l t < pc t)) : crowdG l s (t :: ts) = crowdG l s ts := by
  simp only [crowdG]; rw [if_neg h]
theorem crowdG_yes {l : List Int} {s t : Nat} {ts : List Nat} (h : t &&& s = t ∧ meetN l t < pc t) : crowdG l s (t :: ts) = ((t : Int), true) := by
  simp only [crowdG]; rw [if_pos h]
theorem and_zero_iff {x t : Nat} (hx : x < 256) (ht : t < 256) : (Go.bits .and .i64 (x : Int) (t : Int) = 0) ↔ x &&& t = 0 := by
  rw [and_nat (lt256_63 hx) (lt256_63 ht)]
  omega
theorem specCrowd_l0 (l : List Int) (hl : l.length ≤ 6) (hm : ∀ x ∈ l, ∃ t : Nat, x = t ∧ t < 256) (s : Nat) (hs : s < 256) : Ev (fun k => spec_CrowdOf.l0 k l (s : Int) 1) (crowdG l s (List.range' 1 s)) := by
  have h := down (P := fun j => Ev (fun k => spec_CrowdOf.l0 k l (s : Int) ((1 + j : Nat) : Int)) (crowdG l s (List.range' (1 + j) (s - j)))) s
    (by
      apply Ev.step
      · intro k
        simp only [spec_CrowdOf.l0]
        rw [if_neg (by omega)]
      · rw [Nat.sub_self]; exact Ev.now _)
    (by
      intro j hj ih
      have e : List.range' (1 + j) (s - j) = (1 + j) :: List.range' (1 + (j + 1)) (s - (j + 1)) := by
        rw [show s - j = (s - (j + 1)) + 1 from by omega, List.range'_succ]; rfl
      rw [e]
      have ht : 1 + j < 256 := by omega
      generalize hte : 1 + j = t at ht
      have hih : Ev (fun k => spec_CrowdOf.l0 k l (s : Int) (wrap64 ((t : Int) + 1))) (crowdG l s (List.range' (1 + (j + 1)) (s - (j + 1)))) := by
        rw [wrap64_of (by omega) (by omega), show (t : Int) + 1 = ((1 + (j + 1) : Nat) : Int) from by omega]
        exact ih
      have hsub : (Go.bits .and .i64 (t : Int) (s : Int) = (t : Int)) ↔ t &&& s = t := by
        rw [and_nat (lt256_63 ht) (lt256_63 hs)]; omega
      apply Ev.step
      · intro k
        simp only [spec_CrowdOf.l0]
        rw [if_pos (by omega)]
      · by_cases hc : t &&& s = t
        · refine Ev.ifp (hsub.2 hc) ?_
          have h1 := down (P := fun i => ∀ c : Nat, c ≤ i → Ev (fun k => spec_CrowdOf.l1 k l (s : Int) (t : Int) (c : Int) (i : Int)) (if c + meetN (l.drop i) t < pc t then ((t : Int), true) else crowdG l s (List.range' (1 + (j + 1)) (s - (j + 1))))) l.length
            (by
              intro c hcl
              apply Ev.step
              · intro k
                simp only [spec_CrowdOf.l1]
                rw [if_neg (by omega)]
              · refine Ev.bind (specCount_ev t ht) ?_
                rw [drop_end]
                by_cases hp : c + meetN [] t < pc t
                · rw [if_pos hp]
                  have : meetN [] t = 0 := rfl
                  exact Ev.ifp (by omega) (Ev.now _)
                · rw [if_neg hp]
                  have : meetN [] t = 0 := rfl
                  exact Ev.ifn (by omega) hih)
            (by
              intro i hi ih1 c hcl
              obtain ⟨x, hx, hx256⟩ := hm _ (List.getElem_mem hi)
              apply Ev.step
              · intro k
                simp only [spec_CrowdOf.l1, spec_l1Bit.f]
                rw [if_pos (by omega), if_pos (by omega), rd_getElem l i hi, w_succ hi (by omega), hx]
              · rw [drop_cons l i hi, hx, meet_cons]
                by_cases hz : x &&& t = 0
                · have hq : ((Go.bits .and .i64 (x : Int) (t : Int)) != 0) = false := by
                    rw [bne_eq_false_iff_eq]; exact (and_zero_iff hx256 ht).2 hz
                  refine Ev.cbind (a := 0) (by rw [hq]; rfl) ?_
                  rw [if_pos hz, wrap64_of (by omega) (by omega), show (c : Int) + 0 = (c : Int) from by omega, Nat.zero_add]
                  exact ih1 c (by omega)
                · have hq : ((Go.bits .and .i64 (x : Int) (t : Int)) != 0) = true := by
                    rw [bne_iff_ne]; exact fun hc => hz ((and_zero_iff hx256 ht).1 hc)
                  refine Ev.cbind (a := 1) (by rw [hq]; rfl) ?_
                  rw [if_neg hz, wrap64_of (by omega) (by omega), show (c : Int) + 1 = ((c + 1 : Nat) : Int) from by omega, ← Nat.add_assoc]
                  exact ih1 (c + 1) (by omega))
          have h2 := h1 0 (by omega)
          rw [Nat.zero_add, List.drop_zero] at h2
          by_cases hp : meetN l t < pc t
          · rw [crowdG_yes ⟨hc, hp⟩]
            rw [if_pos hp] at h2; exact h2
          · rw [crowdG_no (fun hq => hp hq.2)]
            rw [if_neg hp] at h2; exact h2
        · refine Ev.ifn (fun hq => hc (hsub.1 hq)) ?_
          rw [crowdG_no (fun hq => hc hq.1)]
          exact hih)
  exact h
theorem specCrowd_ev (n : Int) (l : List Int) (s : Int) (hl : l.length ≤ 17592186044416) : Ev (fun k => spec_CrowdOf.f k n l s) (crowdB n l s) := by
  unfold spec_CrowdOf.f crowdB
  refine Ev.bind (specAreLists_ev n l hl) ?_
  by_cases h : areListsB n l = true
  · refine Ev.ifp h (Ev.cbind (specIsSet_eq _ _) ?_)
    rw [if_pos h]
    by_cases hs : isSetB n s = true
    · rw [if_pos hs, hs]
      obtain ⟨_, t, _, rfl, _, _, ht⟩ := isSetB_lt hs
      rw [Int.toNat_natCast]
      apply Ev.step
      · intro k
        rw [spec_CrowdOf.j0]
      · refine Ev.ifn (by decide) ?_
        simp only [areListsB, Bool.and_eq_true, decide_eq_true_eq] at h
        exact specCrowd_l0 l h.2.1 (setsB_mem h.2.2) t ht
    · rw [if_neg hs, Bool.eq_false_iff.2 hs]
      apply Ev.step
      · intro k
        rw [spec_CrowdOf.j0]
      · exact Ev.ifp rfl (Ev.now _)
  · refine Ev.ifn h ?_
    rw [if_neg h]
    apply Ev.step
    · intro k
      rw [spec_CrowdOf.j0]
    · exact Ev.ifp rfl (Ev.now _)
theorem subset_iff {t s : Nat} (ht : t < 256) (hs : s < 256) : impl_IsSubset.f (t : Int) (s : Int) = some (decide (t &&& s = t)) := by
  unfold impl_IsSubset.f
  rw [isAny_eq, isAny_eq, Option.bind_some, Option.bind_some, isAnyB_nat, isAnyB_nat, if_pos (by simpa using ht), if_pos (by simpa using hs), andNot_nat (lt256_63 ht) (lt256_63 hs)]
  congr 1
  rw [Bool.eq_iff_iff]
  simp only [beq_iff_eq, decide_eq_true_eq]
  rw [← dif_zero]
  omega
theorem implCrowd_l0 (l : List Int) (hl : l.length ≤ 6) (hm : ∀ x ∈ l, ∃ t : Nat, x = t ∧ t < 256) (s : Nat) (hs : s < 256) : Ev (fun k => impl_CrowdOf.l0 k l (s : Int) 0) (crowdG l s (List.range' 0 (s + 1))) := by
  have h := down (P := fun t => Ev (fun k => impl_CrowdOf.l0 k l (s : Int) (t : Int)) (crowdG l s (List.range' t (s + 1 - t)))) (s + 1)
    (by
      apply Ev.step
      · intro k
        simp only [impl_CrowdOf.l0]
        rw [if_neg (by omega)]
      · rw [Nat.sub_self]; exact Ev.now _)
    (by
      intro t hj ih
      have e : List.range' t (s + 1 - t) = t :: List.range' (t + 1) (s + 1 - (t + 1)) := by
        rw [show s + 1 - t = (s + 1 - (t + 1)) + 1 from by omega, List.range'_succ]
      rw [e]
      have ht : t < 256 := by omega
      have hih : Ev (fun k => impl_CrowdOf.l0 k l (s : Int) (wrap64 ((t : Int) + 1))) (crowdG l s (List.range' (t + 1) (s + 1 - (t + 1)))) := by
        rw [wrap64_of (by omega) (by omega)]
        exact ih
      apply Ev.step
      · intro k
        simp only [impl_CrowdOf.l0, subset_iff ht hs, Option.bind_some]
        rw [if_pos (by omega)]
      · by_cases hc : t &&& s = t
        · refine Ev.ifp (by simpa using hc) ?_
          have h1 := down (P := fun i => ∀ c : Nat, c ≤ i → Ev (fun k => impl_CrowdOf.l1 k l (s : Int) (t : Int) (c : Int) l (l.length : Int) (i : Int)) (if c + meetN (l.drop i) t < pc t then ((t : Int), true) else crowdG l s (List.range' (t + 1) (s + 1 - (t + 1))))) l.length
            (by
              intro c hcl
              apply Ev.step
              · intro k
                simp only [impl_CrowdOf.l1, implCount_eq t ht, Option.bind_some]
                rw [if_neg (by omega)]
              · rw [drop_end]
                by_cases hp : c + meetN [] t < pc t
                · rw [if_pos hp]
                  have : meetN [] t = 0 := rfl
                  exact Ev.ifp (by omega) (Ev.now _)
                · rw [if_neg hp]
                  have : meetN [] t = 0 := rfl
                  exact Ev.ifn (by omega) hih)
            (by
              intro i hi ih1 c hcl
              obtain ⟨x, hx, hx256⟩ := hm _ (List.getElem_mem hi)
              apply Ev.step
              · intro k
                simp only [impl_CrowdOf.l1]
                rw [if_pos (by omega), if_pos (by omega), if_pos (by omega), rd_getElem l i hi, w_succ hi (by omega), hx]
              · rw [drop_cons l i hi, hx, meet_cons]
                by_cases hz : x &&& t = 0
                · refine Ev.ifp ((and_zero_iff hx256 ht).2 hz) ?_
                  rw [if_pos hz, Nat.zero_add]
                  exact ih1 c (by omega)
                · refine Ev.ifn (fun hc => hz ((and_zero_iff hx256 ht).1 hc)) ?_
                  rw [if_neg hz, wrap64_of (by omega) (by omega), show (c : Int) + 1 = ((c + 1 : Nat) : Int) from by omega, ← Nat.add_assoc]
                  exact ih1 (c + 1) (by omega))
          have h2 := h1 0 (by omega)
          rw [Nat.zero_add, List.drop_zero] at h2
          by_cases hp : meetN l t < pc t
          · rw [crowdG_yes ⟨hc, hp⟩]
            rw [if_pos hp] at h2; exact h2
          · rw [crowdG_no (fun hq => hp hq.2)]
            rw [if_neg hp] at h2; exact h2
        · refine Ev.ifn (by simpa using hc) ?_
          rw [crowdG_no (fun hq => hc hq.1)]
          exact hih)
  exact h
theorem implCrowd_ev (n : Int) (l : List Int) (s : Int) (hl : l.length ≤ 17592186044416) : Ev (fun k => impl_CrowdOf.f k n l s) (crowdB n l s) := by
  unfold impl_CrowdOf.f crowdB
  refine Ev.bind (implAreLists_ev n l hl) ?_
  by_cases h : areListsB n l = true
  · refine Ev.ifp h (Ev.cbind (implIsSet_eq _ _) ?_)
    rw [if_pos h]
    by_cases hs : isSetB n s = true
    · rw [if_pos hs, hs]
      obtain ⟨_, t, _, rfl, _, _, ht⟩ := isSetB_lt hs
      rw [Int.toNat_natCast]
      apply Ev.step
      · intro k
        rw [impl_CrowdOf.j0]
      · refine Ev.ifn (by decide) ?_
        simp only [areListsB, Bool.and_eq_true, decide_eq_true_eq] at h
        have h0 := implCrowd_l0 l h.2.1 (setsB_mem h.2.2) t ht
        rw [List.range'_succ, crowdG_no (fun hq => by rw [pc_zero] at hq; omega)] at h0
        exact h0
    · rw [if_neg hs, Bool.eq_false_iff.2 hs]
      apply Ev.step
      · intro k
        rw [impl_CrowdOf.j0]
      · exact Ev.ifp rfl (Ev.now _)
  · refine Ev.ifn h ?_
    rw [if_neg h]
    apply Ev.step
    · intro k
      rw [impl_CrowdOf.j0]
    · exact Ev.ifp rfl (Ev.now _)
end Go.Proofs.Ytimkekeaeojpkaa.Q
namespace Go.Proofs.Ytimkekeaeojpkaa.Q
open Go Go.RowKit Go.Proofs.YtimkekeaeojpkaaW.PrintWords Go.Proofs.YtimkekeaeojpkaaW.PrintLast Go.Proofs.YtimkekeaeojpkaaW.PrintMore Go.Proofs.Ytimkekeaeojpkaa.Z
set_option linter.unusedVariables false
set_option linter.unusedSimpArgs false
/-- The k-th of the list is the place of a set that has the k-th element. -/
def okA (sets list r : List Int) (k : Nat) : Prop := ∃ j : Nat, j < sets.length ∧ rd r (k : Int) = j ∧ (rd sets (j : Int)).toNat.testBit (rd list (k : Int)).toNat = true
theorem rd_app {a b : List Int} {k : Nat} (h : k < a.length) : rd (a ++ b) (k : Int) = rd a (k : Int) := by
  rw [rd_nat, rd_nat, List.getD_eq_getElem?_getD, List.getD_eq_getElem?_getD, List.getElem?_append_left h]
theorem asg_valid (sets list : List Int) : ∀ (d : Nat) (used : List Int), used.length + d = list.length → (∀ k, k < used.length → okA sets list used k) → (asg sets list d used).2 = true → (asg sets list d used).1.length = list.length ∧ ∀ k, k < list.length → okA sets list (asg sets list d used).1 k := by
  intro d
  induction d with
  | zero => intro used hu ho _; exact ⟨hu, fun k hk => ho k (by omega)⟩
  | succ d ih =>
    intro used hu ho
    have key : ∀ ks : List Nat, (∀ k ∈ ks, k < sets.length) → (asgL (asg sets list d) sets list used ks).2 = true → (asgL (asg sets list d) sets list used ks).1.length = list.length ∧ ∀ k, k < list.length → okA sets list (asgL (asg sets list d) sets list used ks).1 k := by
      intro ks
      induction ks with
      | nil => intro _ h; cases h
      | cons x ks ihk =>
        intro hks h
        simp only [asgL] at h ⊢
        by_cases h1 : asgT sets list used x = true
        · rw [if_pos h1] at h ⊢
          by_cases h2 : (asg sets list d (used ++ [(x : Int)])).2 = true
          · rw [if_pos h2]
            refine ih (used ++ [(x : Int)]) (by rw [List.length_append, List.length_singleton]; omega) (fun k hk => ?_) h2
            rw [List.length_append, List.length_singleton] at hk
            by_cases hku : k < used.length
            · obtain ⟨j, j1, j2, j3⟩ := ho k hku
              exact ⟨j, j1, by rw [rd_app hku]; exact j2, j3⟩
            · obtain rfl : k = used.length := by omega
              refine ⟨x, hks x (List.mem_cons_self ..), ?_, ?_⟩
              · exact rd_mid used (x : Int) []
              · unfold asgT at h1
                rw [Bool.and_eq_true] at h1
                exact h1.2
          · rw [if_neg h2] at h ⊢
            exact ihk (fun k hk => hks k (List.mem_cons_of_mem _ hk)) h
        · rw [if_neg h1] at h ⊢
          exact ihk (fun k hk => hks k (List.mem_cons_of_mem _ hk)) h
    exact key (List.range sets.length) (fun k hk => List.mem_range.1 hk)
theorem meetN_ints (S : List Nat) (t : Nat) : meetN (ints S) t = mtN S t := by
  induction S with
  | nil => rfl
  | cons x S ih =>
    rw [show ints (x :: S) = (x : Int) :: ints S from rfl, meet_cons, ih, mtN_cons]
theorem crowdG_iff (l : List Int) (s : Nat) : ∀ ts : List Nat, (crowdG l s ts).2 = true ↔ ∃ t ∈ ts, t &&& s = t ∧ meetN l t < pc t := by
  intro ts
  induction ts with
  | nil => simp [crowdG]
  | cons t ts ih =>
    by_cases h : t &&& s = t ∧ meetN l t < pc t
    · rw [crowdG_yes h]
      exact ⟨fun _ => ⟨t, List.mem_cons_self .., h⟩, fun _ => rfl⟩
    · rw [crowdG_no h, ih]
      constructor
      · rintro ⟨u, hu, h1⟩; exact ⟨u, List.mem_cons_of_mem _ hu, h1⟩
      · rintro ⟨u, hu, h1⟩
        rcases List.mem_cons.1 hu with rfl | hu
        · exact absurd h1 h
        · exact ⟨u, hu, h1⟩
/-- There are representatives exactly if there is no crowd. -/
theorem assign_crowd {n : Int} {l : List Int} {s : Int} (h : areListsB n l = true) (hs : isSetB n s = true) : (assignB n l s).2 = !(crowdB n l s).2 := by
  obtain ⟨m, S, rfl, hm, rfl, h6, hS⟩ := areListsB_nat h
  obtain ⟨m', t, hm', rfl, _, ht, ht256⟩ := isSetB_lt hs
  have : m = m' := by omega
  subst this
  unfold assignB crowdB
  rw [if_pos h, if_pos hs, if_pos h, if_pos hs, elsB_nat ht256, List.length_map, Int.toNat_natCast]
  have h1 : (asg (ints S) (ints (els t)) (els t).length []).2 = true ↔ TP S t := asg_tp ht256
  have h2 := crowdG_iff (ints S) t (List.range' 1 t)
  have h3 : (crowdG (ints S) t (List.range' 1 t)).2 = true ↔ ¬ TP S t := by
    rw [h2]
    constructor
    · rintro ⟨u, _, hu, hlt⟩ hT
      have := tp_meet S u (tp_down S u t hT hu)
      rw [meetN_ints] at hlt
      omega
    · intro hT
      refine Classical.byContradiction fun hn => hT (hall S t ht256 (fun u hu => ?_))
      refine Classical.byContradiction fun hc => hn ⟨u, ?_, hu, by rw [meetN_ints]; omega⟩
      have hle := subN_le hu
      have h0 : ¬ u = 0 := by rintro rfl; rw [pc_zero] at hc; omega
      rw [List.mem_range'_1]
      omega
  show (asg (ints S) (ints (els t)) (els t).length []).2 = _
  rw [Bool.eq_iff_iff, h1, Bool.not_eq_true', ← Bool.not_eq_true, h3]
  exact ⟨fun h => fun k => k h, fun h => Classical.byContradiction h⟩
theorem fsB_matB {n : Int} {l : List Int} (h : areListsB n l = true) : matB (fsB n l).1 (fsB n l).2 = true := by
  unfold fsB
  rw [if_pos h]
  obtain ⟨m, S, rfl, hm, rfl, h6, hS⟩ := areListsB_nat h
  rw [show (ints S).map Int.toNat = S from toNat_map S, Int.toNat_natCast]
  exact bsI_matB (Ind.trans hm S hS) (tpB_iff hm hS)
/-- What is told is a system of representatives. -/
theorem assign_ok {n : Int} {l : List Int} {s : Int} (h : (assignB n l s).2 = true) : (∀ x ∈ l, ∃ t : Nat, x = t ∧ t < 256) ∧ (assignB n l s).1.length = (elsB s).length ∧ ∀ k, k < (elsB s).length → okA l (elsB s) (assignB n l s).1 k := by
  unfold assignB at h ⊢
  by_cases h1 : areListsB n l = true
  · rw [if_pos h1] at h ⊢
    by_cases h2 : isSetB n s = true
    · rw [if_pos h2] at h ⊢
      exact ⟨(areListsB_facts h1).2, asg_valid l (elsB s) (elsB s).length [] (by simp) (fun k hk => absurd hk (by simp)) h⟩
    · rw [if_neg h2] at h; cases h
  · rw [if_neg h1] at h; cases h
theorem assign_no {n : Int} {l : List Int} {s : Int} (h : ¬ (assignB n l s).2 = true) : (assignB n l s).1 = [] := by
  unfold assignB at h ⊢
  by_cases h1 : areListsB n l = true
  · rw [if_pos h1] at h ⊢
    by_cases h2 : isSetB n s = true
    · rw [if_pos h2] at h ⊢
      exact asg_no _ _ _ _ (Bool.eq_false_iff.2 h)
    · rw [if_neg h2]
  · rw [if_neg h1]
end Go.Proofs.Ytimkekeaeojpkaa.Q
namespace Go.Proofs.Ytimkekeaeojpkaa.Pure
open Go Go.RowKit Go.Proofs.Ytimkekeaeojpkaa.A Go.Proofs.YtimkekeaeojpkaaW.PrintWords Go.Proofs.YtimkekeaeojpkaaW.PrintLast Go.Proofs.YtimkekeaeojpkaaW.PrintMore Go.Proofs.Ytimkekeaeojpkaa.Z Go.Proofs.Ytimkekeaeojpkaa.Q
set_option linter.unusedVariables false
set_option linter.unusedSimpArgs false
theorem FnTransversals : laws_FnTransversals.Pure := by
  intro l0 hm hm1 hw
  unfold laws_FnTransversals.f
  refine Ev.rounds ?_
  refine Ev.cbind rfl ?_
  by_cases hb : (l0.length : Int) > 1048576
  · exact Ev.ifp (decide_eq_true hb) (Ev.now _)
  refine Ev.ifn (by simpa using hb) ?_
  have hl0 : l0.length ≤ 17592186044416 := by omega
  obtain ⟨⟨n, w⟩, hd, hwl⟩ := drawFromSets_ev l0 hl0
  simp only at hwl
  obtain ⟨⟨a, b, s⟩, hd2, hbl⟩ := drawAssignmentOf_ev l0 hl0
  simp only at hbl
  have hw' : w.length ≤ 17592186044416 := by omega
  have hb' : b.length ≤ 17592186044416 := by omega
  have hg : (fsB n w).2.length ≤ 17592186044416 := Nat.le_trans (fsB_len n w) (by decide)
  have hal : (assignB a b s).1.length ≤ 17592186044416 := Nat.le_trans (assignB_len a b s) (by decide)
  refine Ev.bind hd (Ev.bind (implFromSets_ev n w hw') (Ev.bind hd2 (Ev.bind (implAssignment_ev a b s hb') (Ev.bind (specAssignment_ev a b s hb') (Ev.bind (implCrowd_ev a b s hb') (Ev.bind (specCrowd_ev a b s hb') (Ev.bind (specFromSets_ev n w hw') (Ev.bind (specEqMat_self _ _ hg) (Ev.ifp rfl (Ev.ifn (by simp) (Ev.bind (sameInts_self _ hal) (Ev.ifp rfl (Ev.ifp rfl (Ev.ifn (by simp) (Ev.bind (implAreLists_ev n w hw') (Ev.bind (specAreLists_ev n w hw') ?_))))))))))))))))
  have hend : Ev (fun k => laws_FnTransversals.j1 k a b s (assignB a b s).1 (assignB a b s).2 (crowdB a b s).2 false) true := by
    apply Ev.step
    · intro k
      rw [laws_FnTransversals.j1]
    refine Ev.ifn (by simp) (Ev.bind (specElements_ev s) ?_)
    have hfin : Ev (fun k => (spec_AreLists.f k a b).bind fun t8045 => (if t8045 = true then ((spec_IsSet.f a s).bind fun t8046 => (if t8046 = true then (some ((assignB a b s).2 != (crowdB a b s).2)) else (some true))) else (some true))) true := by
      refine Ev.bind (specAreLists_ev a b hb') ?_
      by_cases h1 : areListsB a b = true
      · refine Ev.ifp h1 (Ev.cbind (specIsSet_eq a s) ?_)
        by_cases h2 : isSetB a s = true
        · refine Ev.ifp h2 ?_
          rw [assign_crowd h1 h2]
          cases (crowdB a b s).2 <;> exact Ev.now _
        · exact Ev.ifn h2 (Ev.now _)
      · exact Ev.ifn h1 (Ev.now _)
    have hd3 := down (P := fun i => Ev (fun k => laws_FnTransversals.l0 k a b s (assignB a b s).1 (assignB a b s).2 (crowdB a b s).2 (elsB s) (i : Int)) true) (assignB a b s).1.length
      (by
        apply Ev.step
        · intro k
          rw [laws_FnTransversals.l0, if_neg (by omega)]
        · exact hfin)
      (by
        intro i hi ih
        by_cases hok : (assignB a b s).2 = true
        · obtain ⟨o1, o2, o3⟩ := assign_ok hok
          obtain ⟨j, j1, j2, j3⟩ := o3 i (by omega)
          obtain ⟨t, ht, ht256⟩ := o1 _ (List.getElem_mem j1)
          have hel : i < (elsB s).length := by omega
          obtain ⟨e, he, he8⟩ := el_get (elsB_facts s) hel
          have hhas : spec_HasElement.f (rd b (j : Int)) (rd (elsB s) (i : Int)) = some true := by
            rw [specHas_eq, rd_getElem b j j1, ht, he, hasB_nat, decide_eq_true ht256, decide_eq_true he8]
            rw [rd_getElem b j j1, ht, he, Int.toNat_natCast, Int.toNat_natCast] at j3
            rw [j3]; rfl
          apply Ev.step
          · intro k
            rw [laws_FnTransversals.l0, if_pos (by omega), if_pos (by omega), j2, if_pos (by omega), if_pos (by omega), if_pos (by omega), hhas, Option.bind_some, if_pos rfl, w_succ hi hal]
          · exact ih
        · rw [assign_no hok] at hi; simp at hi)
    exact hd3
  apply Ev.step
  · intro k
    rw [laws_FnTransversals.j0]
  refine Ev.ifn (by simp) (Ev.bind (specAreLists_ev n w hw') ?_)
  by_cases h1 : areListsB n w = true
  · refine Ev.ifp h1 (Ev.bind (specMat_ev _ _ hg) ?_)
    rw [fsB_matB h1]
    exact hend
  · exact Ev.ifn h1 hend
end Go.Proofs.Ytimkekeaeojpkaa.Pure
