/- The pure side of the law FnCommon: what the Lean functions of the print compute, and that the law holds of them. Conditions: those in each lemma. -/
import Derived.Test.YtimkekeaeojpkaaMFnCommon1
import Derived.Test.YtimkekeaeojpkaaMFnCommon2
import Derived.Test.YtimkekeaeojpkaaMFnCommon3
import Derived.Test.YtimkekeaeojpkaaMFnCommon4
import Derived.Test.YtimkekeaeojpkaaMFnCommon5
import Derived.Test.YtimkekeaeojpkaaMFnCommon6
import Derived.Test.YtimkekeaeojpkaaMFnCommonq0
namespace Go.Proofs.Ytimkekeaeojpkaa.Q
open Go Go.RowKit Go.Proofs.Ytimkekeaeojpkaa.A Go.Proofs.YtimkekeaeojpkaaW.PrintWords Go.Proofs.YtimkekeaeojpkaaW.PrintLast Go.Proofs.YtimkekeaeojpkaaW.PrintMore Go.Proofs.Ytimkekeaeojpkaa.Z
set_option linter.unusedVariables false
set_option linter.unusedSimpArgs false
theorem l1In_eq (a b c : Int) : yaf.f a b c = some (decide (b ≤ a) && decide (a ≤ c)) := by
 unfold yaf.f
 by_cases h : a ≥ b
 ·rw [if_pos h]; simp [h]
 ·rw [if_neg h]; simp only [ge_iff_le] at h; simp [h]
theorem isSize_eq (a : Int) : ya5.f a = some (decide (0 ≤ a) && decide (a ≤ 8)) := by
 unfold ya5.f
 by_cases h : a ≥ 0
 ·rw [if_pos h]; simp [h]
 ·rw [if_neg h]; simp only [ge_iff_le] at h; simp [h]
theorem specIsSet_eq (n s : Int) : yJ.f n s = some (ybw n s) := by
 unfold yJ.f
 rw [l1In_eq, Option.bind_some]
 unfold ybw
 by_cases h : (decide (0 ≤ n) && decide (n ≤ 8)) = true
 ·rw [if_pos h, if_pos (ybz _), l1In_eq, Option.bind_some, h, Bool.true_and]
  simp only [Bool.and_eq_true, decide_eq_true_eq] at h
  obtain ⟨m, rfl⟩ := Int.eq_ofNat_of_zero_le h.1
  have h8 : m ≤ 8 := by omega
  rw [ycP (by omega) (by omega), ycv (by omega)]
  have hp := yal h8
  rw [Int.toNat_natCast]
  have e : (2 : Int) ^ m = ((2 ^ m : Nat) : Int) := by simp
  rw [e]
  generalize 2 ^ m = q at hp
  rw [yak (by omega) (by omega)]
  congr 2
  rw [Bool.eq_iff_iff]
  simp only [decide_eq_true_eq]
  omega
 ·rw [if_neg h, Bool.eq_false_iff.2 h, Bool.false_and]
theorem implIsSet_eq (n s : Int) : ybj.f n s = some (ybw n s) := by
 unfold ybj.f
 rw [isSize_eq, Option.bind_some]
 unfold ybw
 by_cases h : (decide (0 ≤ n) && decide (n ≤ 8)) = true
 ·rw [if_pos h, h, Bool.true_and]
  simp only [Bool.and_eq_true, decide_eq_true_eq] at h
  by_cases hs : s ≥ 0
  ·rw [if_pos hs, if_pos h.1]
   obtain ⟨m, rfl⟩ := Int.eq_ofNat_of_zero_le h.1
   rw [ycv (by omega), Int.toNat_natCast]
   have e : ((2 ^ m : Nat) : Int) = 2 ^ m := by simp
   rw [e]
   have : decide (0 ≤ s) = true := by simpa using hs
   rw [this, Bool.true_and]
  ·rw [if_neg hs]
   have : decide (0 ≤ s) = false := by simpa using hs
   rw [this, Bool.false_and]
 ·rw [if_neg h, Bool.eq_false_iff.2 h, Bool.false_and]
theorem yga (s : Int) : ybw 8 s = ybv s := by
 unfold ybw ybv
 rw [Bool.eq_iff_iff]
 simp
theorem isAny_eq (s : Int) : yaL.f s = some (ybv s) := by
 unfold yaL.f ybv
 by_cases h : s ≥ 0
 ·rw [if_pos h]; simp [h]
 ·rw [if_neg h]; simp only [ge_iff_le] at h; simp [h]
theorem ycA {s : Int} (h : ybv s = true) : ∃ t : Nat, s = t ∧ t < 256 := by
 simp only [ybv, Bool.and_eq_true, decide_eq_true_eq] at h
 obtain ⟨t, rfl⟩ := Int.eq_ofNat_of_zero_le h.1
 exact ⟨t, rfl, by omega⟩
theorem implHas_eq (s e : Int) : ybd.f s e = some (hasB s e) := by
 unfold ybd.f hasB
 rw [isAny_eq, Option.bind_some]
 by_cases h : ybv s = true
 ·rw [if_pos h, h, Bool.true_and]
  obtain ⟨t, rfl, ht⟩ := ycA h
  by_cases h0 : e ≥ 0
  ·rw [if_pos h0]
   obtain ⟨m, rfl⟩ := Int.eq_ofNat_of_zero_le h0
   by_cases h8 : (m : Int) < 8
   ·rw [if_pos h8, if_pos h0, ygJ (yas ht)]
    simp [h8]
   ·rw [if_neg h8]; simp [h8]
  ·rw [if_neg h0]; simp only [ge_iff_le] at h0; simp [h0]
 ·rw [if_neg h, Bool.eq_false_iff.2 h]; simp
theorem yb2 {s e : Nat} (hs : s < 2 ^ 63) (he : e < 2 ^ 63) : yU.f (s : Int) (e : Int) = some (s.testBit e) := by
 unfold yU.f
 rw [if_pos (ybz _), ycP (by omega) (by omega), ygJ hs]
theorem specHas_eq (s e : Int) : ybc.f s e = some (hasB s e) := by
 unfold ybc.f hasB
 rw [specIsSet_eq, Option.bind_some, yga]
 by_cases h : ybv s = true
 ·rw [if_pos h, h, Bool.true_and, l1In_eq, Option.bind_some]
  obtain ⟨t, rfl, ht⟩ := ycA h
  by_cases h0 : (decide (0 ≤ e) && decide (e ≤ 7)) = true
  ·rw [if_pos h0]
   simp only [Bool.and_eq_true, decide_eq_true_eq] at h0
   obtain ⟨m, rfl⟩ := Int.eq_ofNat_of_zero_le h0.1
   rw [yb2 (yas ht) (by omega), Option.bind_some]
   have : decide ((m : Int) < 8) = true := by simp; omega
   simp [this]
  ·rw [if_neg h0]
   have : (decide (0 ≤ e) && decide (e < 8)) = false := by
    rw [Bool.eq_false_iff]
    intro hc
    apply h0
    simp only [Bool.and_eq_true, decide_eq_true_eq] at *
    omega
   rw [this, Bool.false_and]
 ·rw [if_neg h, Bool.eq_false_iff.2 h]; simp
end Go.Proofs.Ytimkekeaeojpkaa.Q
namespace Go.Proofs.Ytimkekeaeojpkaa.Q
open Go Go.RowKit Go.Proofs.Ytimkekeaeojpkaa.A Go.Proofs.YtimkekeaeojpkaaW.PrintWords Go.Proofs.YtimkekeaeojpkaaW.PrintLast Go.Proofs.YtimkekeaeojpkaaW.PrintMore Go.Proofs.Ytimkekeaeojpkaa.Z
set_option linter.unusedVariables false
set_option linter.unusedSimpArgs false
def ExE {α : Type} (g : Nat → Option α) (P : α → Prop) : Prop := ∃ r, Ev g r ∧ P r
theorem ExE.now {α : Type} {r : α} {P : α → Prop} (h : P r) : ExE (fun _ => some r) P := ⟨r, Ev.now _, h⟩
theorem ExE.bind {α β : Type} {g : Nat → Option α} {f : Nat → α → Option β} {P : α → Prop} {R : β → Prop} (h : ExE g P) (k : ∀ a, P a → ExE (fun n => f n a) R) : ExE (fun n => (g n).bind (f n)) R := by
 obtain ⟨a, ha, hp⟩ := h
 obtain ⟨b, hb, hr⟩ := k a hp
 exact ⟨b, Ev.bind ha hb, hr⟩
theorem ExE.cbind {α β : Type} {g : Option α} {f : Nat → α → Option β} {P : α → Prop} {R : β → Prop} (h : ∃ a, g = some a ∧ P a) (k : ∀ a, P a → ExE (fun n => f n a) R) : ExE (fun n => g.bind (f n)) R := by
 obtain ⟨a, ha, hp⟩ := h
 obtain ⟨b, hb, hr⟩ := k a hp
 exact ⟨b, Ev.cbind ha hb, hr⟩
theorem ExE.ev {α β : Type} {g : Nat → Option α} {f : Nat → α → Option β} {a : α} {R : β → Prop} (h : Ev g a) (k : ExE (fun n => f n a) R) : ExE (fun n => (g n).bind (f n)) R := by
 obtain ⟨b, hb, hr⟩ := k
 exact ⟨b, Ev.bind h hb, hr⟩
theorem ExE.ite {α : Type} {c : Prop} [Decidable c] {g f : Nat → Option α} {P : α → Prop} (h : c → ExE g P) (k : ¬ c → ExE f P) : ExE (fun n => if c then g n else f n) P := by
 by_cases hc : c
 ·obtain ⟨r, hr, hp⟩ := h hc; exact ⟨r, Ev.ifp hc hr, hp⟩
 ·obtain ⟨r, hr, hp⟩ := k hc; exact ⟨r, Ev.ifn hc hr, hp⟩
theorem ExE.ifp {α : Type} {c : Prop} [Decidable c] {g f : Nat → Option α} {P : α → Prop} (hc : c) (h : ExE g P) : ExE (fun n => if c then g n else f n) P := ExE.ite (fun _ => h) (fun k => absurd hc k)
theorem ExE.step {α : Type} {g f : Nat → Option α} {P : α → Prop} (h : ∀ k, g (k + 1) = f k) (k : ExE f P) : ExE g P := by
 obtain ⟨r, hr, hp⟩ := k
 exact ⟨r, Ev.step h hr, hp⟩
theorem ExE.imp {α : Type} {g : Nat → Option α} {P R : α → Prop} (h : ExE g P) (k : ∀ a, P a → R a) : ExE g R := by
 obtain ⟨r, hr, hp⟩ := h
 exact ⟨r, hr, k r hp⟩
theorem ExE.of {α : Type} {g : Nat → Option α} {r : α} {P : α → Prop} (h : Ev g r) (hp : P r) : ExE g P := ⟨r, h, hp⟩
theorem ye9 (v : Int) : 0 ≤ Go.bits .and .i64 v 255 ∧ Go.bits .and .i64 v 255 < 256 := by
 have h : ∀ n : Nat, n ≤ 255 → IntKind.i64.wrap (n : Int) = (n : Int) := fun n hn => ycb (by omega)
 simp only [Go.bits, BitVec.toNat_and]
 have hle : (BitVec.ofInt IntKind.i64.bits v).toNat &&& (BitVec.ofInt IntKind.i64.bits 255).toNat ≤ 255 := Nat.le_trans Nat.and_le_right (by decide)
 rw [h _ hle]
 omega
theorem ycz {b : List Int} (hb : b.length ≤ 17592186044416) {p h : Int} (hp : 0 ≤ p) : ∃ r, yaT.f b p h = some r ∧ 0 ≤ r.1 ∧ r.1 < 256 ∧ 0 ≤ r.2.1 := by
 unfold yaT.f
 by_cases h1 : p < (b.length : Int)
 ·rw [if_pos h1, if_pos hp]
  exact ⟨_, rfl, (ye9 _).1, (ye9 _).2, by show 0 ≤ wrap64 (p + 1); rw [yak (n := p + 1) (by omega) (by omega)]; omega⟩
 ·rw [if_neg h1]
  exact ⟨_, rfl, (ye9 _).1, (ye9 _).2, hp⟩
theorem ygw {x n : Int} (hx : 0 ≤ x) (hn : 0 < n) : 0 ≤ Int.tmod x n ∧ Int.tmod x n < n := by
 rw [Int.tmod_eq_emod_of_nonneg hx]
 exact ⟨Int.emod_nonneg _ (by omega), Int.emod_lt_of_pos _ hn⟩
theorem yaM {b : List Int} (hb : b.length ≤ 17592186044416) {p h : Int} (hp : 0 ≤ p) (n : Int) : ∃ r, yk.f b p h n = some r ∧ 0 ≤ r.1 ∧ (0 < n → r.1 < n) ∧ (n ≤ 0 → r.1 = 0) ∧ 0 ≤ r.2.1 := by
 unfold yk.f
 by_cases h1 : n ≤ 0
 ·rw [if_pos h1]
  exact ⟨_, rfl, Int.le_refl _, fun h => by omega, fun _ => rfl, hp⟩
 rw [if_neg h1]
 have hn : ¬ n = 0 := by omega
 by_cases h2 : n ≤ 256
 ·rw [if_pos h2]
  obtain ⟨r, e, r1, r2, r3⟩ := ycz hb (h := h) hp
  rw [e, Option.bind_some, if_neg hn]
  have := ygw r1 (show 0 < n by omega)
  exact ⟨_, rfl, this.1, fun _ => this.2, fun h => absurd h h1, r3⟩
 ·rw [if_neg h2]
  obtain ⟨x, e, x1, x2, x3⟩ := ycz hb (h := h) hp
  rw [e, Option.bind_some]
  obtain ⟨y, e, y1, y2, y3⟩ := ycz hb (h := x.2.2) x3
  rw [e, Option.bind_some]
  obtain ⟨z, e, z1, z2, z3⟩ := ycz hb (h := y.2.2) y3
  rw [e, Option.bind_some]
  obtain ⟨w, e, w1, w2, w3⟩ := ycz hb (h := z.2.2) z3
  rw [e, Option.bind_some, if_neg hn]
  have e1 : 0 ≤ wrap64 ((wrap64 ((wrap64 ((wrap64 (x.1 * 16777216)) + (wrap64 (y.1 * 65536)))) + (wrap64 (z.1 * 256)))) + w.1) := by
   rw [yak (n := x.1 * 16777216) (by omega) (by omega), yak (n := y.1 * 65536) (by omega) (by omega), yak (n := z.1 * 256) (by omega) (by omega)]
   rw [yak (n := x.1 * 16777216 + y.1 * 65536) (by omega) (by omega), yak (n := x.1 * 16777216 + y.1 * 65536 + z.1 * 256) (by omega) (by omega), yak (by omega) (by omega)]
   omega
  have := ygw e1 (show 0 < n by omega)
  exact ⟨_, rfl, this.1, fun _ => this.2, fun h => absurd h h1, w3⟩
theorem yeQ {b : List Int} (hb : b.length ≤ 17592186044416) {p h : Int} (hp : 0 ≤ p) (n : Int) : ∃ r, ya3.f b p h n = some r ∧ 0 ≤ r.2.1 := by
 unfold ya3.f
 obtain ⟨r, e, _, _, _, r3⟩ := yaM hb (h := h) hp n
 rw [e, Option.bind_some]
 exact ⟨_, rfl, r3⟩
theorem ycF {b : List Int} (hb : b.length ≤ 17592186044416) {p h : Int} (hp : 0 ≤ p) {l : List Int} (hl : l ≠ []) : ∃ r, yaB.f b p h l = some r ∧ r.1 ∈ l ∧ 0 ≤ r.2.1 := by
 unfold yaB.f
 obtain ⟨r, e, r1, r2, _, r3⟩ := yaM hb (h := h) hp (l.length : Int)
 have h0 : 0 < l.length := List.length_pos_iff.2 hl
 have hlt := r2 (by omega)
 rw [e, Option.bind_some, if_pos r1, if_pos hlt]
 exact ⟨_, rfl, yib l r.1 r1 hlt, r3⟩
theorem yfo (l : List Int) (hl : l.length ≤ 17592186044416) : ExE (fun k => yaQ.f k l) (fun r => r.1 = l ∧ r.2.1 = 0) := by
 unfold yaQ.f
 have hd := down (P := fun i => ∀ h : Int, ExE (fun k => yaQ.l0 k l h (i : Int)) (fun r => r.1 = l ∧ r.2.1 = 0)) l.length
  (by
   intro h
   apply ExE.step
   ·intro k
    rw [yaQ.l0, if_neg (by omega)]
   ·exact ExE.now ⟨rfl, rfl⟩)
  (by
   intro i hi ih h
   apply ExE.step
   ·intro k
    rw [yaQ.l0, if_pos (by omega), yay hi hl]
   ·refine ExE.ite (fun _ => ExE.ite (fun _ => ih _) (fun h => absurd (by omega) h)) (fun _ => ExE.now ⟨rfl, rfl⟩))
 exact hd _
end Go.Proofs.Ytimkekeaeojpkaa.Q
namespace Go.Proofs.Ytimkekeaeojpkaa.Q
open Go Go.RowKit Go.Proofs.Ytimkekeaeojpkaa.A Go.Proofs.YtimkekeaeojpkaaW.PrintWords Go.Proofs.YtimkekeaeojpkaaW.PrintLast Go.Proofs.YtimkekeaeojpkaaW.PrintMore Go.Proofs.Ytimkekeaeojpkaa.Z
set_option linter.unusedVariables false
set_option linter.unusedSimpArgs false
def yax (m : Nat) : Nat := 2 ^ m - 1
theorem yfn : ∀ m < 9, ∀ u < 256, (!decide (u < 2 ^ m) || (decide (yax m - u = dif (yax m) u) && decide (yax m < 2 ^ m))) = true := by decide +kernel
theorem ydp {m u : Nat} (hm : m ≤ 8) (hu : u < 2 ^ m) : yax m - u = dif (yax m) u ∧ yax m < 2 ^ m ∧ yax m < 256 := by
 have h256 := Nat.lt_of_lt_of_le hu (yal hm)
 have h := yfn m (by omega) u h256
 rw [show decide (u < 2 ^ m) = true from by simpa using hu] at h
 simp only [Bool.not_true, Bool.false_or, Bool.and_eq_true, decide_eq_true_eq] at h
 exact ⟨h.1, h.2, Nat.lt_of_lt_of_le h.2 (yal hm)⟩
theorem full_bit (m i : Nat) : (yax m).testBit i = decide (i < m) := Nat.testBit_two_pow_sub_one m i
theorem ybg {m : Nat} (hm : m ≤ 8) : yT.f (m : Int) = some ((yax m : Nat) : Int) := by
 unfold yT.f yax
 have hp := yal hm
 have h0 := Nat.two_pow_pos m
 rw [l1In_eq, Option.bind_some, if_pos (by simp; omega), if_pos (ybz _), ycP (by omega) (by omega), ycv (by omega)]
 generalize 2 ^ m = q at *
 rw [yak (by omega) (by omega)]
 congr 1
 omega
theorem ycu {m : Nat} (hm : m ≤ 8) : yaF.f (m : Int) = some ((yax m : Nat) : Int) := by
 unfold yaF.f yax
 have hp := yal hm
 have h0 := Nat.two_pow_pos m
 rw [isSize_eq, Option.bind_some, if_pos (by simp; omega), if_pos (by omega), ycv (by omega)]
 generalize 2 ^ m = q at *
 rw [yak (by omega) (by omega)]
 congr 1
 omega
end Go.Proofs.Ytimkekeaeojpkaa.Q
namespace Go.Proofs.Ytimkekeaeojpkaa.Q
open Go Go.RowKit Go.Proofs.Ytimkekeaeojpkaa.A Go.Proofs.YtimkekeaeojpkaaW.PrintWords Go.Proofs.YtimkekeaeojpkaaW.PrintLast Go.Proofs.YtimkekeaeojpkaaW.PrintMore Go.Proofs.Ytimkekeaeojpkaa.Z
set_option linter.unusedVariables false
set_option linter.unusedSimpArgs false
theorem yfd : ∀ (d x : Nat), x ≤ d → x < 256 → ∀ acc : Int, 0 ≤ acc → acc + (d : Int) ≤ 1000 → Ev (fun k => yD.l0 k (x : Int) acc) (acc + (pc x : Int)) := by
 intro d
 induction d with
 | zero =>
  intro x hx _ acc h0 h1
  obtain rfl : x = 0 := by omega
  apply Ev.step
  ·intro k
   simp only [yD.l0]
   rw [if_neg (by decide)]
  ·rw [pc_zero, show acc + ((0 : Nat) : Int) = acc from by omega]
   exact Ev.now _
 | succ d ih =>
  intro x hx h256 acc h0 h1
  by_cases hz : x = 0
  ·subst hz
   exact ih 0 (by omega) h256 acc h0 (by omega)
  ·have hb : Go.bits .and .i64 (x : Int) 1 = ((x % 2 : Nat) : Int) := by
    have := ydo (a := x) (b := 1) (yas h256) (by decide)
    rw [Nat.and_one_is_mod] at this
    exact this
   apply Ev.step
   ·intro k
    simp only [yD.l0]
    rw [if_pos (by omega), hb, yak (by omega) (by omega), show (x : Int) / 2 = ((x / 2 : Nat) : Int) from by omega]
   ·have hp := yhY x h256
    have hl := ydm (x / 2)
    have := ih (x / 2) (by omega) (by omega) (acc + ((x % 2 : Nat) : Int)) (by omega) (by omega)
    rw [show acc + ((x % 2 : Nat) : Int) + (pc (x / 2) : Int) = acc + (pc x : Int) from by omega] at this
    exact this
theorem ybp (s : Nat) (h : s < 256) : Ev (fun k => yD.f k (s : Int)) (pc s : Int) := by
 unfold yD.f
 refine Ev.cbind (specIsSet_eq _ _) (Ev.ifp ?_ ?_)
 ·rw [yga, ybV]; simpa using h
 ·have := yfd s s (Nat.le_refl _) h 0 (by omega) (by omega)
  rw [Int.zero_add] at this
  exact this
end Go.Proofs.Ytimkekeaeojpkaa.Q
namespace Go.Proofs.Ytimkekeaeojpkaa.Q
open Go Go.RowKit Go.Proofs.Ytimkekeaeojpkaa.A Go.Proofs.YtimkekeaeojpkaaW.PrintWords Go.Proofs.YtimkekeaeojpkaaW.PrintLast Go.Proofs.YtimkekeaeojpkaaW.PrintMore Go.Proofs.Ytimkekeaeojpkaa.Z
set_option linter.unusedVariables false
set_option linter.unusedSimpArgs false
theorem yf6 (r n : Int) : ExE (fun k => yY.f k r n) (fun q => 0 ≤ q.1 ∧ q.1 ≤ 8 ∧ (0 ≤ n → q.1 ≤ n) ∧ q.2.length ≤ 256) := by
 unfold yY.f
 refine ExE.cbind (P := fun a => a = (decide (0 ≤ n) && decide (n ≤ 8))) ⟨_, l1In_eq n 0 8, rfl⟩ ?_
 rintro a rfl
 have hno : ExE (fun k => yY.j0 k r n true) (fun q => 0 ≤ q.1 ∧ q.1 ≤ 8 ∧ (0 ≤ n → q.1 ≤ n) ∧ q.2.length ≤ 256) := by
  apply ExE.step
  ·intro k; rw [yY.j0]
  ·exact ExE.ifp rfl (ExE.now ⟨by simp, by simp, fun h => h, by simp⟩)
 refine ExE.ite (fun hn => ?_) (fun _ => hno)
 rw [Bool.and_eq_true, decide_eq_true_eq, decide_eq_true_eq] at hn
 refine ExE.cbind (P := fun _ => True) ⟨_, l1In_eq r 0 n, trivial⟩ ?_
 rintro a -
 cases a
 ·exact hno
 obtain ⟨m, rfl⟩ := Int.eq_ofNat_of_zero_le hn.1
 have hm : m ≤ 8 := by omega
 have h256 := yal hm
 have hp := Nat.two_pow_pos m
 have hd := down (P := fun i => ∀ l : List Int, l.length ≤ i → ExE (fun k => yY.l0 k r (m : Int) (i : Int) (m : Int) l) (fun q => 0 ≤ q.1 ∧ q.1 ≤ 8 ∧ (0 ≤ (m : Int) → q.1 ≤ (m : Int)) ∧ q.2.length ≤ 256)) (2 ^ m)
  (by
   intro l hl
   apply ExE.step
   ·intro k; rw [yY.l0, ybg hm, Option.bind_some, if_neg (by unfold yax; omega)]
   ·exact ExE.now ⟨by simp only []; omega, by simp only []; omega, fun _ => Int.le_refl _, by simp only []; omega⟩)
  (by
   intro i hi ih l hl
   apply ExE.step
   ·intro k; rw [yY.l0, ybg hm, Option.bind_some, if_pos (by unfold yax; omega), yay hi (by omega)]
   ·refine ExE.ev (ybp i (by omega)) (ExE.ite (fun _ => ExE.ifp (by omega) (ih _ (by rw [List.length_append, List.length_singleton]; omega))) (fun _ => ih _ (by omega))))
 apply ExE.step
 ·intro k; rw [yY.j0]
 ·exact ExE.ite (fun h => absurd h (by decide)) (fun _ => hd [] (Nat.zero_le _))
section
variable {P : Int} {R N s : Nat}
theorem ix {x y : Nat} {a : List Int} (ha : a.length = R * N) (hx : x < R) (hy : y < N) (hR : R ≤ 8) (hN : N ≤ 8) : wrap64 ((wrap64 ((x : Int) * (N : Int))) + (y : Int)) = ((x * N + y : Nat) : Int) ∧ 0 ≤ ((x * N + y : Nat) : Int) ∧ ((x * N + y : Nat) : Int) < (a.length : Int) := by
 have h1 : x * N ≤ 7 * 8 := Nat.mul_le_mul (by omega) hN
 have h2 : (x + 1) * N ≤ R * N := Nat.mul_le_mul (by omega) (Nat.le_refl N)
 rw [Nat.add_mul] at h2
 rw [show (x : Int) * (N : Int) = ((x * N : Nat) : Int) from by simp, ha]
 generalize x * N = q at *
 generalize R * N = u at *
 rw [yak (n := (q : Int)) (by omega) (by omega), yak (by omega) (by omega)]
 exact ⟨by omega, by omega, by omega⟩
theorem ltc {x y : Nat} (h : x < y) : (x : Int) < (y : Int) := by omega
theorem gec {x y : Nat} (h : y ≤ x) : ¬ (x : Int) < (y : Int) := by omega
section
variable (hR : R ≤ 8) (hN : N ≤ 8) (hP : P ≠ 0) (j : Nat) (hj : j < N)
  (hnext : ∀ (a : List Int) (q : Nat), a.length = R * N → ExE (fun k => yg.l0 k P (R : Int) (N : Int) (s : Int) a (q : Int) (wrap64 ((j : Int) + 1))) (fun _ => True))
include hR hN hP hj hnext
theorem yhu {q : Nat} (hq : q < R) : ∀ (c i : Nat), i + c = R → ∀ a : List Int, a.length = R * N → ExE (fun k => yg.l3 k P (R : Int) (N : Int) (s : Int) a (q : Int) (j : Int) (i : Int)) (fun _ => True) := by
 have hR' : R ≤ 17592186044416 := Nat.le_trans hR (by decide)
 have hN' : N ≤ 17592186044416 := Nat.le_trans hN (by decide)
 intro c
 induction c with
 | zero =>
  intro i hi a ha
  apply ExE.step
  ·intro k; rw [yg.l3, if_neg (gec (by omega)), yay hq hR']
  ·exact hnext a (q + 1) ha
 | succ c ih3 =>
  intro i hi a ha
  have hiR : i < R := by omega
  have hnxt : i + 1 + c = R := by omega
  obtain ⟨e1, p1, l1⟩ := ix ha hiR hj hR hN
  obtain ⟨e2, p2, l2⟩ := ix ha hq hj hR hN
  apply ExE.step
  ·intro k; rw [yg.l3, if_pos (ltc hiR), e1, e2, if_pos p1, if_pos l1, if_pos p2, if_pos l2]
  ·clear e1 e2 p1 p2 l1 l2
   generalize rd a ((i * N + j : Nat) : Int) = x
   generalize rd a ((q * N + j : Nat) : Int) = y
   have hd := down (P := fun t => ∀ a : List Int, a.length = R * N → ExE (fun k => yg.l4 k P (R : Int) (N : Int) (s : Int) a (q : Int) (j : Int) (i : Int) x y (t : Int)) (fun _ => True)) N
    (by
     intro a ha
     apply ExE.step
     ·intro k; rw [yg.l4, if_neg (gec (Nat.le_refl N)), yay hiR hR']
     ·exact ih3 (i + 1) hnxt a ha)
    (by
     intro t ht ih4 a ha
     obtain ⟨e3, p3, l3⟩ := ix ha hiR ht hR hN
     obtain ⟨e4, p4, l4⟩ := ix ha hq ht hR hN
     apply ExE.step
     ·intro k; rw [yg.l4, if_pos (ltc ht), e3, e4, if_pos p3, if_pos l3, if_pos p4, if_pos l4, if_neg hP, yay ht hN']
     ·exact ih4 _ (by rw [List.length_set]; exact ha))
   exact hd a ha
theorem yhO {q at_ : Nat} (hq : q < R) (hat : at_ < R) (a : List Int) (ha : a.length = R * N) : ExE (fun k => yg.l2 k P (R : Int) (N : Int) (s : Int) a (q : Int) (j : Int) (at_ : Int) 0) (fun _ => True) := by
 have hR' : R ≤ 17592186044416 := Nat.le_trans hR (by decide)
 have hN' : N ≤ 17592186044416 := Nat.le_trans hN (by decide)
 have hb := yhu hR hN hP j hj hnext hq (R - (q + 1)) (q + 1) (by omega)
 have hd := down (P := fun t => ∀ a : List Int, a.length = R * N → ExE (fun k => yg.l2 k P (R : Int) (N : Int) (s : Int) a (q : Int) (j : Int) (at_ : Int) (t : Int)) (fun _ => True)) N
  (by
   intro a ha
   apply ExE.step
   ·intro k; rw [yg.l2, if_neg (gec (Nat.le_refl N)), yay hq hR']
   ·exact hb a ha)
  (by
   intro t ht ih2 a ha
   obtain ⟨e3, p3, l3⟩ := ix ha hat ht hR hN
   obtain ⟨e4, p4, l4⟩ := ix ha hq ht hR hN
   apply ExE.step
   ·intro k; rw [yg.l2, if_pos (ltc ht), e3, e4, if_pos p3, if_pos l3, if_pos p4, if_pos l4, yay ht hN']
   ·exact ih2 _ (by rw [List.length_set, List.length_set]; exact ha))
 exact hd a ha
theorem yfB {q : Nat} (a : List Int) (ha : a.length = R * N) (at_ : Nat) (h1 : q ≤ at_) : ExE (fun k => yg.j2 k P (R : Int) (N : Int) (s : Int) a (q : Int) (j : Int) (at_ : Int)) (fun _ => True) := by
 apply ExE.step
 ·intro k; rw [yg.j2]
 ·exact ExE.ite (fun _ => hnext a q ha) (fun h => yhO hR hN hP j hj hnext (by omega) (by omega) a ha)
theorem yh5 {q : Nat} (a : List Int) (ha : a.length = R * N) : ∀ (c at_ : Nat), R - at_ = c → q ≤ at_ → ExE (fun k => yg.l1 k P (R : Int) (N : Int) (s : Int) a (q : Int) (j : Int) (at_ : Int)) (fun _ => True) := by
 have hR' : R ≤ 17592186044416 := Nat.le_trans hR (by decide)
 intro c
 induction c with
 | zero =>
  intro at_ h1 h4
  apply ExE.step
  ·intro k; rw [yg.l1, if_neg (gec (by omega))]
  ·exact yfB hR hN hP j hj hnext a ha at_ h4
 | succ c ih1 =>
  intro at_ h1 h4
  have hatR : at_ < R := by omega
  have hn1 : R - (at_ + 1) = c := by omega
  have hn2 : q ≤ at_ + 1 := by omega
  obtain ⟨e1, p1, l1⟩ := ix ha hatR hj hR hN
  apply ExE.step
  ·intro k; rw [yg.l1, if_pos (ltc hatR), e1, if_pos p1, if_pos l1, yay hatR hR']
  ·exact ExE.ite (fun _ => ih1 (at_ + 1) hn1 hn2) (fun _ => yfB hR hN hP j hj hnext a ha at_ h4)
end
theorem yg3 (hR : R ≤ 8) (hN : N ≤ 8) (hP : P ≠ 0) : ∀ (d j : Nat), j + d = N → ∀ (a : List Int) (q : Nat), a.length = R * N → ExE (fun k => yg.l0 k P (R : Int) (N : Int) (s : Int) a (q : Int) (j : Int)) (fun _ => True) := by
 have hN' : N ≤ 17592186044416 := Nat.le_trans hN (by decide)
 intro d
 induction d with
 | zero =>
  intro j hj a q ha
  apply ExE.step
  ·intro k; rw [yg.l0, if_neg (gec (by omega))]
  ·exact ExE.now trivial
 | succ d ih =>
  intro j hj a q ha
  have hj8 : j < N := by omega
  have hj1 : j + 1 + d = N := by omega
  have hnext : ∀ (a : List Int) (q : Nat), a.length = R * N → ExE (fun k => yg.l0 k P (R : Int) (N : Int) (s : Int) a (q : Int) (wrap64 ((j : Int) + 1))) (fun _ => True) := by
   intro a q ha
   rw [yay hj8 hN']
   exact ih (j + 1) hj1 a q ha
  apply ExE.step
  ·intro k; rw [yg.l0, if_pos (ltc hj8)]
  ·refine ExE.cbind (P := fun _ => True) ⟨_, by unfold yU.f; rw [if_pos (ybz _)], trivial⟩ ?_
   rintro b -
   exact ExE.ite (fun _ => yh5 hR hN hP j hj8 hnext a ha (R - q) q rfl (Nat.le_refl _)) (fun _ => hnext a q ha)
theorem yeR (hR : R ≤ 8) (hN : N ≤ 8) (hP : P ≠ 0) {a : List Int} (ha : a.length = R * N) : ExE (fun k => yg.f k P (R : Int) (N : Int) a (s : Int)) (fun _ => True) := by
 unfold yg.f
 refine ExE.cbind (P := fun y => y = []) ⟨_, rfl, rfl⟩ ?_
 rintro y rfl
 have h64 : R * N ≤ 8 * 8 := Nat.mul_le_mul hR hN
 refine ExE.ifp (by rw [ha]; simp; omega) ?_
 rw [List.nil_append]
 exact yg3 hR hN hP N 0 (by omega) a 0 ha
theorem yfR (hR : R ≤ 8) (hN : N ≤ 8) (hP : P ≠ 0) {a : List Int} (ha : a.length = R * N) : ExE (fun k => yap.f k P (R : Int) (N : Int) a) (fun q => q.1 = (N : Int) ∧ q.2.length ≤ 256) := by
 unfold yap.f
 have h256 := yal hN
 have hp := Nat.two_pow_pos N
 refine ExE.cbind (P := fun x => x = ((yax N : Nat) : Int)) ⟨_, ybg hN, rfl⟩ ?_
 rintro x rfl
 refine ExE.bind (yeR hR hN hP ha) ?_
 rintro r -
 have hd := down (P := fun i => ∀ l : List Int, l.length ≤ i → ExE (fun k => yap.l0 k P (R : Int) (N : Int) a r (i : Int) (N : Int) l) (fun q => q.1 = (N : Int) ∧ q.2.length ≤ 256)) (2 ^ N)
  (by
   intro l hl
   apply ExE.step
   ·intro k; rw [yap.l0, ybg hN, Option.bind_some, if_neg (by unfold yax; omega)]
   ·exact ExE.now ⟨rfl, by simp only []; omega⟩)
  (by
   intro i hi ih l hl
   apply ExE.step
   ·intro k; rw [yap.l0, ybg hN, Option.bind_some, if_pos (by unfold yax; omega), yay hi (by omega)]
   ·refine ExE.ev (ybp i (by omega)) (ExE.ite (fun _ => ?_) (fun _ => ih _ (by omega)))
    refine ExE.bind (yeR hR hN hP ha) ?_
    rintro c -
    exact ExE.ite (fun _ => ExE.ifp (by omega) (ih _ (by rw [List.length_append, List.length_singleton]; omega))) (fun _ => ih _ (by omega)))
 exact hd [] (Nat.zero_le _)
end
theorem ydw {b : List Int} (hb : b.length ≤ 17592186044416) {p h : Int} (hp : 0 ≤ p) {n : Nat} (hn : n ≤ 8) : ExE (fun k => yX.f k b p h (n : Int)) (fun q => q.1 = (n : Int) ∧ q.2.1.length ≤ 256 ∧ 0 ≤ q.2.2.1) := by
 unfold yX.f
 obtain ⟨u, eu, u1, u2⟩ := ycF hb (h := h) hp (l := [2, 3, 5, 2]) (by simp)
 refine ExE.cbind (P := fun a => a = u) ⟨u, eu, rfl⟩ ?_
 intro u' e
 subst e
 obtain ⟨v, ev, v1, v2, _, v3⟩ := yaM hb (h := u'.2.2) u2 3
 refine ExE.cbind (P := fun a => a = v) ⟨v, ev, rfl⟩ ?_
 intro v' e
 subst e
 have v2 := v2 (by omega)
 obtain ⟨R, hR⟩ : ∃ R : Nat, wrap64 (1 + v'.1) = (R : Int) ∧ R ≤ 3 := by
  rw [yak (by omega) (by omega)]
  exact ⟨(1 + v'.1).toNat, by omega, by omega⟩
 rw [hR.1]
 have hRn : R * n ≤ 3 * 8 := Nat.mul_le_mul hR.2 hn
 have hP : u'.1 ≠ 0 := by
  intro h0; rw [h0] at u1; simp at u1
 have hmul : wrap64 ((R : Int) * (n : Int)) = ((R * n : Nat) : Int) := by
  rw [show (R : Int) * (n : Int) = ((R * n : Nat) : Int) from by simp, yak (by omega) (by omega)]
 have hd := down (P := fun i => ∀ (l : List Int) (p h : Int), 0 ≤ p → l.length = i → ExE (fun k => yX.l0 k (n : Int) u'.1 (R : Int) l (i : Int) b p h) (fun q => q.1 = (n : Int) ∧ q.2.1.length ≤ 256 ∧ 0 ≤ q.2.2.1)) (R * n)
  (by
   intro l p h hp hl
   apply ExE.step
   ·intro k; rw [yX.l0, hmul, if_neg (by omega)]
   ·refine ExE.bind (yfR (by omega) hn hP hl) ?_
    rintro q ⟨q1, q2⟩
    exact ExE.now ⟨q1, q2, hp⟩)
  (by
   intro i hi ih l p h hp hl
   obtain ⟨x, ex, _, _, _, x3⟩ := yaM hb (h := h) hp u'.1
   apply ExE.step
   ·intro k; rw [yX.l0, hmul, if_pos (by omega), yay hi (by omega)]
   ·refine ExE.cbind (P := fun a => a = x) ⟨x, ex, rfl⟩ ?_
    rintro _ rfl
    exact ExE.ifp (by omega) (ih _ _ _ x3 (by rw [List.length_append, List.length_singleton]; omega)))
 exact hd [] _ _ v3 rfl
end Go.Proofs.Ytimkekeaeojpkaa.Q
namespace Go.Proofs.Ytimkekeaeojpkaa.Q
open Go Go.RowKit Go.Proofs.Ytimkekeaeojpkaa.A Go.Proofs.YtimkekeaeojpkaaW.PrintWords Go.Proofs.YtimkekeaeojpkaaW.PrintLast Go.Proofs.YtimkekeaeojpkaaW.PrintMore Go.Proofs.Ytimkekeaeojpkaa.Z
set_option linter.unusedVariables false
set_option linter.unusedSimpArgs false
theorem Ev.ofMono {α : Type} {g : Nat → Option α} (h : ∀ k, LeO (g k) (g (k + 1))) {K : Nat} {r : α} (e : g K = some r) : Ev g r := by
 refine ⟨K, fun k hk => ?_⟩
 obtain ⟨d, rfl⟩ : ∃ d, k = K + d := ⟨k - K, by omega⟩
 clear hk
 induction d with
 | zero => exact e
 | succ d ih => exact h (K + d) r ih
theorem ybS {s : ByteArray} {r : Int × List Int × Bool} (h : yam.f 300 s = some r) {P : Int × List Int × Bool → Prop} (hp : P r) : ExE (fun k => yam.f k s) P := ⟨r, Ev.ofMono (g := fun k => yam.f k s) (fun k => yam.mono s k) h, hp⟩
theorem yg4 {b : List Int} (hb : b.length ≤ 17592186044416) {p h : Int} (hp : 0 ≤ p) {l : List ByteArray} (hl : l ≠ []) : ∃ r, ybC.f b p h l = some r ∧ (∃ i, i < l.length ∧ r.1 = l.getD i ByteArray.empty) ∧ 0 ≤ r.2.1 := by
 unfold ybC.f
 obtain ⟨r, e, r1, r2, _, r3⟩ := yaM hb (h := h) hp (l.length : Int)
 have h0 : 0 < l.length := List.length_pos_iff.2 hl
 have hlt := r2 (by omega)
 rw [e, Option.bind_some, if_pos r1, if_pos hlt]
 refine ⟨_, rfl, ⟨r.1.toNat, by omega, ?_⟩, r3⟩
 unfold rdOf
 rfl
def NmP (r : Int × List Int × Bool) : Prop := 0 ≤ r.1 ∧ r.1 ≤ 8 ∧ r.2.1.length ≤ 256
theorem yf0 {b : List Int} (hb : b.length ≤ 17592186044416) {p h : Int} (hp : 0 ≤ p) : ExE (fun k => yby.f k b p h) (fun q => 0 ≤ q.1 ∧ q.1 ≤ 8 ∧ q.2.1.length ≤ 256 ∧ 0 ≤ q.2.2.1) := by
 unfold yby.f
 obtain ⟨u, eu, ⟨i, hi, u1⟩, u2⟩ := yg4 hb (h := h) hp (l := [(⟨#[48, 32, 45]⟩ : ByteArray), (⟨#[49, 32, 45]⟩ : ByteArray), (⟨#[49, 32, 97]⟩ : ByteArray), (⟨#[52, 32, 97, 98, 44, 97, 99, 44, 98, 99, 44, 97, 100, 44, 98, 100, 44, 99, 100]⟩ : ByteArray), (⟨#[52, 32, 97, 98, 44, 97, 99, 44, 97, 100, 44, 98, 100, 44, 99, 100]⟩ : ByteArray), (⟨#[51, 32, 97, 44, 98]⟩ : ByteArray), (⟨#[53, 32, 97, 98, 44, 97, 99, 44, 98, 99, 44, 97, 100, 44, 98, 100]⟩ : ByteArray), (⟨#[50, 32, 45]⟩ : ByteArray), (⟨#[51, 32, 97, 98, 99]⟩ : ByteArray)]) (by simp)
 refine ExE.cbind (P := fun a => a = u) ⟨u, eu, rfl⟩ ?_
 intro u' e
 subst e
 have key : ExE (fun k => yam.f k u'.1) NmP := by
  rw [u1]
  simp only [List.length_cons, List.length_nil] at hi
  match i, hi with
  | 0, _ => exact ybS (r := (0, [0], true)) (by decide +kernel) (by unfold NmP; decide)
  | 1, _ => exact ybS (r := (1, [0], true)) (by decide +kernel) (by unfold NmP; decide)
  | 2, _ => exact ybS (r := (1, [1], true)) (by decide +kernel) (by unfold NmP; decide)
  | 3, _ => exact ybS (r := (4, [3, 5, 6, 9, 10, 12], true)) (by decide +kernel) (by unfold NmP; decide)
  | 4, _ => exact ybS (r := (4, [3, 5, 9, 10, 12], true)) (by decide +kernel) (by unfold NmP; decide)
  | 5, _ => exact ybS (r := (3, [1, 2], true)) (by decide +kernel) (by unfold NmP; decide)
  | 6, _ => exact ybS (r := (5, [3, 5, 6, 9, 10], true)) (by decide +kernel) (by unfold NmP; decide)
  | 7, _ => exact ybS (r := (2, [0], true)) (by decide +kernel) (by unfold NmP; decide)
  | 8, _ => exact ybS (r := (3, [7], true)) (by decide +kernel) (by unfold NmP; decide)
  | n + 9, h => omega
 refine ExE.bind key ?_
 rintro q ⟨q1, q2, q3⟩
 exact ExE.now ⟨q1, q2, q3, u2⟩
end Go.Proofs.Ytimkekeaeojpkaa.Q
namespace Go.Proofs.Ytimkekeaeojpkaa.Q
open Go Go.RowKit Go.Proofs.Ytimkekeaeojpkaa.A Go.Proofs.YtimkekeaeojpkaaW.PrintWords Go.Proofs.YtimkekeaeojpkaaW.PrintLast Go.Proofs.YtimkekeaeojpkaaW.PrintMore Go.Proofs.Ytimkekeaeojpkaa.Z
set_option linter.unusedVariables false
set_option linter.unusedSimpArgs false
theorem ye5 {b : List Int} (hb : b.length ≤ 17592186044416) {p h : Int} (hp : 0 ≤ p) {n : Int} (h0 : 0 ≤ n) (h8 : n ≤ 8) : ExE (fun k => yaK.f k b p h n) (fun q => 0 ≤ q.1 ∧ q.1 ≤ 8 ∧ q.2.1.length ≤ 256 ∧ 0 ≤ q.2.2.1) := by
 unfold yaK.f
 rw [yak (n := n + 1) (by omega) (by omega)]
 obtain ⟨u, eu, u1, u2, _, u3⟩ := yaM hb (h := h) hp 6
 refine ExE.cbind (P := fun a => a = u) ⟨u, eu, rfl⟩ ?_
 intro u' e
 subst e
 have hcol : ∀ (p h : Int), 0 ≤ p → ExE (fun k => (yk.f b p h (n + 1)).bind fun x => ((yX.f k b x.2.1 x.2.2 x.1).bind fun y => (some (y.1, y.2.1, y.2.2.1, y.2.2.2)))) (fun q => 0 ≤ q.1 ∧ q.1 ≤ 8 ∧ q.2.1.length ≤ 256 ∧ 0 ≤ q.2.2.1) := by
  intro p h hp
  obtain ⟨v, ev, v1, v2, _, v3⟩ := yaM hb (h := h) hp (n + 1)
  refine ExE.cbind (P := fun a => a = v) ⟨v, ev, rfl⟩ ?_
  intro v' e
  subst e
  have v2 := v2 (by omega)
  obtain ⟨m, hm⟩ := Int.eq_ofNat_of_zero_le v1
  rw [hm]
  refine ExE.bind (ydw hb v3 (n := m) (by omega)) ?_
  rintro q ⟨q1, q2, q3⟩
  exact ExE.now ⟨by simp only []; omega, by simp only []; omega, q2, q3⟩
 refine ExE.ite (fun _ => ?_) (fun _ => ExE.ite (fun _ => ?_) (fun _ => hcol _ _ u3))
 ·obtain ⟨v, ev, v1, v2, _, v3⟩ := yaM hb (h := u'.2.2) u3 (n + 1)
  refine ExE.cbind (P := fun a => a = v) ⟨v, ev, rfl⟩ ?_
  intro v' e
  subst e
  obtain ⟨w, ew, w1, w2, _, w3⟩ := yaM hb (h := v'.2.2) v3 (wrap64 (v'.1 + 1))
  refine ExE.cbind (P := fun a => a = w) ⟨w, ew, rfl⟩ ?_
  intro w' e
  subst e
  refine ExE.bind (yf6 w'.1 v'.1) ?_
  rintro q ⟨q1, q2, q3, q4⟩
  exact ExE.now ⟨q1, q2, q4, w3⟩
 ·refine ExE.bind (yf0 hb u3) ?_
  rintro q ⟨q1, q2, q3, q4⟩
  exact ExE.ite (fun _ => ExE.now ⟨q1, q2, q3, q4⟩) (fun _ => hcol _ _ q4)
end Go.Proofs.Ytimkekeaeojpkaa.Q
namespace Go.Proofs.Ytimkekeaeojpkaa.Q
open Go Go.RowKit Go.Proofs.Ytimkekeaeojpkaa.A Go.Proofs.YtimkekeaeojpkaaW.PrintWords Go.Proofs.YtimkekeaeojpkaaW.PrintLast Go.Proofs.YtimkekeaeojpkaaW.PrintMore Go.Proofs.Ytimkekeaeojpkaa.Z
set_option linter.unusedVariables false
set_option linter.unusedSimpArgs false
def famG (n : Int) : Option Int → List Int → Bool
 | _, [] => decide (0 ≤ n) && decide (n ≤ 8)
 | p, x :: xs => ybw n x && ((match p with | none => true | some q => decide (q < x)) && famG n (some x) xs)
def famB (n : Int) (l : List Int) : Bool := famG n none l
def ydR (l : List Int) (i : Nat) : Option Int := if i = 0 then none else some (rd l ((i - 1 : Nat) : Int))
theorem yek (l : List Int) (i : Nat) (hi : i < l.length) : ydR l (i + 1) = some l[i] := by
 unfold ydR
 rw [if_neg (by omega), Nat.add_sub_cancel, yaR l i hi]
theorem yd6 (n : Int) (l : List Int) (hl : l.length ≤ 17592186044416) : Ev (fun k => yr.f k n l) (famB n l) := by
 have h := down (P := fun i => Ev (fun k => yr.l0 k n l (i : Int)) (famG n (ydR l i) (l.drop i))) l.length
  (by
   apply Ev.step
   ·intro k
    simp only [yr.l0, l1In_eq, Option.bind_some]
    rw [if_neg (by omega)]
   ·rw [ybl]; exact Ev.now _)
  (by
   intro i hi ih
   apply Ev.step
   ·intro k
    simp only [yr.l0, specIsSet_eq, Option.bind_some]
    rw [if_pos (by omega), if_pos (by omega), yaR l i hi, yay hi hl]
   ·rw [yaS l i hi]
    rw [yek l i hi] at ih
    simp only [famG]
    by_cases hx : ybw n l[i] = true
    ·refine Ev.ifp hx ?_
     rw [hx, Bool.true_and]
     by_cases h0 : (i : Int) > 0
     ·refine Ev.ifp h0 ?_
      rw [yak (by omega) (by omega), show (i : Int) - 1 = ((i - 1 : Nat) : Int) from by omega]
      refine Ev.ifp (by omega) (Ev.ifp (by omega) ?_)
      unfold ydR
      rw [if_neg (by omega)]
      by_cases hq : rd l ((i - 1 : Nat) : Int) ≥ l[i]
      ·refine Ev.ifp hq ?_
       simp only []
       rw [show decide (rd l ((i - 1 : Nat) : Int) < l[i]) = false from by simpa using hq, Bool.false_and]
       exact Ev.now _
      ·refine Ev.ifn hq ?_
       simp only []
       rw [show decide (rd l ((i - 1 : Nat) : Int) < l[i]) = true from by simpa using hq, Bool.true_and]
       exact ih
     ·refine Ev.ifn h0 ?_
      unfold ydR
      rw [if_pos (by omega)]
      simp only [Bool.true_and]
      exact ih
    ·refine Ev.ifn hx ?_
     rw [Bool.eq_false_iff.2 hx, Bool.false_and]; exact Ev.now _)
 exact h
theorem yel (n : Int) (l : List Int) (hl : l.length ≤ 17592186044416) : Ev (fun k => yah.f k n l) (famB n l) := by
 have h := down (P := fun i => Ev (fun k => yah.l0 k n l l (l.length : Int) (i : Int)) (famG n (ydR l i) (l.drop i))) l.length
  (by
   apply Ev.step
   ·intro k
    simp only [yah.l0, isSize_eq, Option.bind_some]
    rw [if_neg (by omega)]
   ·rw [ybl]; exact Ev.now _)
  (by
   intro i hi ih
   apply Ev.step
   ·intro k
    simp only [yah.l0, implIsSet_eq, Option.bind_some]
    rw [if_pos (by omega), if_pos (by omega), if_pos (by omega), yaR l i hi, yay hi hl]
   ·rw [yaS l i hi]
    rw [yek l i hi] at ih
    simp only [famG]
    by_cases hx : ybw n l[i] = true
    ·refine Ev.ifp hx ?_
     rw [hx, Bool.true_and]
     by_cases h0 : (i : Int) > 0
     ·refine Ev.ifp h0 ?_
      rw [yak (by omega) (by omega), show (i : Int) - 1 = ((i - 1 : Nat) : Int) from by omega]
      refine Ev.ifp (by omega) (Ev.ifp (by omega) ?_)
      unfold ydR
      rw [if_neg (by omega)]
      by_cases hq : l[i] ≤ rd l ((i - 1 : Nat) : Int)
      ·refine Ev.ifp hq ?_
       simp only []
       rw [show decide (rd l ((i - 1 : Nat) : Int) < l[i]) = false from by simpa using hq, Bool.false_and]
       exact Ev.now _
      ·refine Ev.ifn hq ?_
       simp only []
       rw [show decide (rd l ((i - 1 : Nat) : Int) < l[i]) = true from by simpa using hq, Bool.true_and]
       exact ih
     ·refine Ev.ifn h0 ?_
      unfold ydR
      rw [if_pos (by omega)]
      simp only [Bool.true_and]
      exact ih
    ·refine Ev.ifn hx ?_
     rw [Bool.eq_false_iff.2 hx, Bool.false_and]; exact Ev.now _)
 exact h
theorem ygb (n : Int) : ∀ (l : List Int) (p : Option Int), famG n p l = true → (0 ≤ n ∧ n ≤ 8) ∧ (∀ x ∈ l, ybw n x = true) ∧ l.Pairwise (· < ·) ∧ (∀ q, p = some q → ∀ x ∈ l, q < x) := by
 intro l
 induction l with
 | nil =>
  intro p h
  simp only [famG, Bool.and_eq_true, decide_eq_true_eq] at h
  exact ⟨h, fun x hx => by simp at hx, List.Pairwise.nil, fun q _ x hx => by simp at hx⟩
 | cons y l ih =>
  intro p h
  simp only [famG, Bool.and_eq_true] at h
  obtain ⟨h1, h2, h3⟩ := h
  obtain ⟨i1, i2, i3, i4⟩ := ih _ h3
  refine ⟨i1, fun x hx => ?_, List.pairwise_cons.2 ⟨fun x hx => i4 y rfl x hx, i3⟩, fun q hq x hx => ?_⟩
  ·rcases List.mem_cons.1 hx with rfl | hx
   ·exact h1
   ·exact i2 x hx
  ·subst hq
   simp only [decide_eq_true_eq] at h2
   rcases List.mem_cons.1 hx with rfl | hx
   ·exact h2
   ·exact Int.lt_trans h2 (i4 y rfl x hx)
theorem yec {n : Int} {l : List Int} (h : famB n l = true) : ∃ (m : Nat) (L : List Nat), n = m ∧ m ≤ 8 ∧ l = L.map (fun x : Nat => (x : Int)) ∧ (∀ x ∈ L, x < 2 ^ m) ∧ L.Pairwise (· < ·) := by
 obtain ⟨h1, h2, h3, _⟩ := ygb n l none h
 obtain ⟨m, rfl⟩ := Int.eq_ofNat_of_zero_le h1.1
 have hnn : ∀ x ∈ l, 0 ≤ x := fun x hx => by
  obtain ⟨_, t, _, rfl, _⟩ := ybW (h2 x hx)
  omega
 have hl : l = (l.map Int.toNat).map (fun x : Nat => (x : Int)) := by
  rw [List.map_map]
  conv => lhs; rw [← List.map_id l]
  apply List.map_congr_left
  intro x hx
  have := hnn x hx
  simp only [id, Function.comp]
  omega
 refine ⟨m, l.map Int.toNat, rfl, by omega, hl, fun x hx => ?_, ?_⟩
 ·obtain ⟨y, hy, rfl⟩ := List.mem_map.1 hx
  obtain ⟨m', t, hm, rfl, _, ht, _⟩ := ybW (h2 y hy)
  have : m = m' := by omega
  subst this
  rw [Int.toNat_natCast]; exact ht
 ·rw [List.pairwise_map]
  exact h3.imp_of_mem (fun {a b} ha hb hab => by
   have := hnn a ha
   have := hnn b hb
   omega)
end Go.Proofs.Ytimkekeaeojpkaa.Q
namespace Go.Proofs.Ytimkekeaeojpkaa.Q
open Go Go.RowKit Go.Proofs.Ytimkekeaeojpkaa.A Go.Proofs.YtimkekeaeojpkaaW.PrintWords Go.Proofs.YtimkekeaeojpkaaW.PrintLast Go.Proofs.YtimkekeaeojpkaaW.PrintMore Go.Proofs.Ytimkekeaeojpkaa.Z
set_option linter.unusedVariables false
set_option linter.unusedSimpArgs false
def elsB (s : Int) : List Int := ((List.range 8).filter (fun e : Nat => hasB s (e : Int))).map (fun e : Nat => (e : Int))
theorem ybR {i n : Nat} (h : i < n) : List.range' i (n - i) = i :: List.range' (i + 1) (n - (i + 1)) := by
 rw [show n - i = (n - (i + 1)) + 1 from by omega, List.range'_succ]
theorem ycH {s : Int} {i : Nat} (l : List Nat) : ((i :: l).filter (fun e : Nat => hasB s (e : Int))).map (fun e : Nat => (e : Int)) = (if hasB s (i : Int) = true then [(i : Int)] else []) ++ (l.filter (fun e : Nat => hasB s (e : Int))).map (fun e : Nat => (e : Int)) := by
 rw [List.filter_cons]
 by_cases h : hasB s (i : Int) = true
 ·rw [if_pos h, if_pos h]; rfl
 ·rw [if_neg h, if_neg h]; rfl
theorem ycI (s : Int) : Ev (fun k => yz.f k s) (elsB s) := by
 have h := down (P := fun i => ∀ acc : List Int, acc.length ≤ i → Ev (fun k => yz.l0 k s acc (i : Int)) (acc ++ ((List.range' i (8 - i)).filter (fun e : Nat => hasB s (e : Int))).map (fun e : Nat => (e : Int)))) 8
  (by
   intro acc ha
   apply Ev.step
   ·intro k
    simp only [yz.l0, implHas_eq, Option.bind_some]
    rw [if_neg (by omega)]
   ·simpa using Ev.now _)
  (by
   intro i hi ih acc ha
   apply Ev.step
   ·intro k
    simp only [yz.l0, implHas_eq, Option.bind_some]
    rw [if_pos (by omega), yay hi (by omega)]
   ·rw [ybR hi, ycH]
    by_cases hx : hasB s (i : Int) = true
    ·refine Ev.ifp hx (Ev.ifp (by omega) ?_)
     rw [if_pos hx, ← List.append_assoc]
     exact ih (acc ++ [(i : Int)]) (by simp; omega)
    ·refine Ev.ifn hx ?_
     rw [if_neg hx]
     exact ih acc (by omega))
 have h0 := h [] (Nat.le_refl 0)
 rw [show ((0 : Nat) : Int) = 0 from rfl] at h0
 have e : elsB s = [] ++ ((List.range' 0 (8 - 0)).filter (fun e : Nat => hasB s (e : Int))).map (fun e : Nat => (e : Int)) := by
  unfold elsB
  rw [List.nil_append, List.range_eq_range']
 rw [e]
 unfold yz.f
 exact h0
theorem yhq {s x : Int} (h : x ∈ elsB s) : ∃ e : Nat, x = e ∧ e < 8 ∧ hasB s (e : Int) = true := by
 simp only [elsB, List.mem_map, List.mem_filter, List.mem_range] at h
 obtain ⟨e, ⟨h1, h2⟩, rfl⟩ := h
 exact ⟨e, rfl, h1, h2⟩
theorem yhi (s : Int) : (elsB s).length ≤ 8 := by
 unfold elsB
 rw [List.length_map]
 exact Nat.le_trans (List.length_filter_le _ _) (by simp)
theorem yei {s : Nat} (h : s < 256) : elsB (s : Int) = (els s).map (fun e : Nat => (e : Int)) := by
 have e : (List.range 8).filter (fun e : Nat => hasB (s : Int) (e : Int)) = (List.range 8).filter (fun e : Nat => s.testBit e) :=
  List.filter_congr (fun e he => by
   rw [List.mem_range] at he
   rw [yhm]
   simp [h, he])
 unfold elsB els
 rw [e]
end Go.Proofs.Ytimkekeaeojpkaa.Q
namespace Go.Proofs.Ytimkekeaeojpkaa.Q
open Go Go.RowKit Go.Proofs.Ytimkekeaeojpkaa.A Go.Proofs.YtimkekeaeojpkaaW.PrintWords Go.Proofs.YtimkekeaeojpkaaW.PrintLast Go.Proofs.YtimkekeaeojpkaaW.PrintMore Go.Proofs.Ytimkekeaeojpkaa.Z
set_option linter.unusedVariables false
set_option linter.unusedSimpArgs false
theorem ycZ (x : Int) (l : List Int) (a : Int) : (x :: l).contains a = (decide (x = a) || l.contains a) := by
 rw [Bool.eq_iff_iff]
 simp only [List.contains_iff_mem, List.mem_cons, Bool.or_eq_true, decide_eq_true_eq]
 constructor
 ·rintro (h | h)
  ·exact .inl h.symm
  ·exact .inr h
 ·rintro (h | h)
  ·exact .inl h.symm
  ·exact .inr h
theorem yc3 (l : List Int) (a : Int) (hl : l.length ≤ 17592186044416) : Ev (fun k => yL.f k l a) (l.contains a) := by
 have h := down (P := fun i => Ev (fun k => yL.l0 k l a (i : Int)) ((l.drop i).contains a)) l.length
  (by
   apply Ev.step
   ·intro k
    simp only [yL.l0]
    rw [if_neg (by omega)]
   ·rw [ybl]; exact Ev.now _)
  (by
   intro i hi ih
   apply Ev.step
   ·intro k
    simp only [yL.l0]
    rw [if_pos (by omega), if_pos (by omega), yaR l i hi, yay hi hl]
   ·rw [yaS l i hi, ycZ]
    by_cases hx : l[i] = a
    ·refine Ev.ifp hx ?_
     rw [show decide (l[i] = a) = true from by simpa using hx, Bool.true_or]; exact Ev.now _
    ·refine Ev.ifn hx ?_
     rw [show decide (l[i] = a) = false from by simpa using hx, Bool.false_or]; exact ih)
 exact h
end Go.Proofs.Ytimkekeaeojpkaa.Q
namespace Go.Proofs.Ytimkekeaeojpkaa.Q
open Go Go.RowKit Go.Proofs.Ytimkekeaeojpkaa.A Go.Proofs.YtimkekeaeojpkaaW.PrintWords Go.Proofs.YtimkekeaeojpkaaW.PrintLast Go.Proofs.YtimkekeaeojpkaaW.PrintMore Go.Proofs.Ytimkekeaeojpkaa.Z
set_option linter.unusedVariables false
set_option linter.unusedSimpArgs false
theorem yhg (l : List Int) (a : Int) (hl : l.length ≤ 17592186044416) : ∃ r : Int, Ev (fun k => yq.f k l a) r ∧ (decide (r ≥ 0) = l.contains a) := by
 have h := down (P := fun i => ∃ r : Int, Ev (fun k => yq.l0 k l a (l.length : Int) (i : Int)) r ∧ (decide (r ≥ 0) = (l.drop i).contains a)) l.length
  (by
   refine ⟨-1, ?_, by rw [ybl]; rfl⟩
   apply Ev.step
   ·intro k
    simp only [yq.l0]
    rw [if_neg (by omega)]
   ·exact Ev.now _)
  (by
   intro i hi ih
   rw [yaS l i hi, ycZ]
   by_cases hx : l[i] = a
   ·refine ⟨(i : Int), ?_, ?_⟩
    ·apply Ev.step
     ·intro k
      simp only [yq.l0]
      rw [if_pos (by omega), if_pos (by omega), if_pos (by omega), yaR l i hi, if_pos hx.symm]
     ·exact Ev.now _
    ·rw [show decide (l[i] = a) = true from by simpa using hx, Bool.true_or]
     simp
   ·obtain ⟨r, hr, hd⟩ := ih
    refine ⟨r, ?_, ?_⟩
    ·apply Ev.step
     ·intro k
      simp only [yq.l0]
      rw [if_pos (by omega), if_pos (by omega), if_pos (by omega), yaR l i hi, if_neg (fun hc => hx hc.symm), yay hi hl]
     ·exact hr
    ·rw [show decide (l[i] = a) = false from by simpa using hx, Bool.false_or]; exact hd)
 exact h
theorem yfN (l : List Int) (a : Int) (hl : l.length ≤ 17592186044416) : Ev (fun k => yac.f k l a) (l.contains a) := by
 obtain ⟨r, hr, hd⟩ := yhg l a hl
 unfold yac.f
 refine Ev.bind hr ?_
 rw [hd]; exact Ev.now _
end Go.Proofs.Ytimkekeaeojpkaa.Q
namespace Go.Proofs.Ytimkekeaeojpkaa.Q
open Go Go.RowKit Go.Proofs.YtimkekeaeojpkaaW.PrintWords Go.Proofs.YtimkekeaeojpkaaW.PrintLast Go.Proofs.YtimkekeaeojpkaaW.PrintMore Go.Proofs.Ytimkekeaeojpkaa.Z
set_option linter.unusedVariables false
set_option linter.unusedSimpArgs false
def ydT (l : List Int) (a b e : Nat) : Bool := (els (dif b a)).any (fun f => l.contains ((dif a (2 ^ e) ||| 2 ^ f : Nat) : Int))
def ycs (l : List Int) (a b : Nat) : List Nat → Option Nat
 | [] => none
 | e :: es => if ydT l a b e = true then ycs l a b es else some e
def ycy (l : List Int) (a : Nat) : List Nat → Option (Nat × Nat)
 | [] => none
 | b :: bs => match ycs l a b (els (dif a b)) with
  | none => ycy l a bs
  | some e => some (b, e)
def ycJ (l : List Int) (L : List Nat) : List Nat → Option (Nat × Nat × Nat)
 | [] => none
 | a :: la => match ycy l a L with
  | none => ycJ l L la
  | some (b, e) => some (a, b, e)
def told : Option (Nat × Nat × Nat) → Int × Int × Int × Bool
 | none => (0, 0, 0, false)
 | some (a, b, e) => ((a : Int), (b : Int), (e : Int), true)
def yeX (n : Int) (l : List Int) : Int × Int × Int × Bool := if famB n l = true then told (ycJ l (l.map Int.toNat) (l.map Int.toNat)) else (0, 0, 0, false)
theorem ygG {a b n : Nat} (ha : a < 2 ^ n) (hn : n ≤ 8) : els (dif a b) = (List.range n).filter (fun e => a.testBit e && !b.testBit e) := by
 have h1 : (List.range 8).filter (fun e => (dif a b).testBit e) = (List.range 8).filter (fun e => decide (e < n) && (a.testBit e && !b.testBit e)) :=
  List.filter_congr (fun e _ => by
   rw [dif_bit]
   by_cases h : e < n
   ·simp [h]
   ·have : a.testBit e = false := Nat.testBit_lt_two_pow (Nat.lt_of_lt_of_le ha (Nat.pow_le_pow_right (by decide) (by omega)))
    simp [this])
 unfold els
 rw [h1]
 have h2 : ∀ (p : Nat → Bool) (a b : Nat), (List.range a).filter (fun e => decide (e < b) && p e) = (List.range (min a b)).filter p := by
  intro p a b
  induction a with
  | zero => simp
  | succ a ih =>
   rw [List.range_succ, List.filter_append, ih]
   by_cases h : a < b
   ·rw [show min (a + 1) b = min a b + 1 from by omega, List.range_succ, List.filter_append]
    have e : min a b = a := by omega
    rw [e]
    congr 1
    simp [List.filter_cons, h]
   ·rw [show min (a + 1) b = min a b from by omega]
    simp [List.filter_cons, h]
 rw [h2, Nat.min_eq_right hn]
end Go.Proofs.Ytimkekeaeojpkaa.Q
namespace Go.Proofs.Ytimkekeaeojpkaa.Q
open Go Go.RowKit Go.Proofs.Ytimkekeaeojpkaa.A Go.Proofs.YtimkekeaeojpkaaW.PrintWords Go.Proofs.YtimkekeaeojpkaaW.PrintLast Go.Proofs.YtimkekeaeojpkaaW.PrintMore Go.Proofs.Ytimkekeaeojpkaa.Z
set_option linter.unusedVariables false
set_option linter.unusedSimpArgs false
theorem ygW (n : Nat) (hn : n ≤ 8) (l : List Int) (hl : l.length ≤ 17592186044416) (a b e : Nat) (ha : a < 256) (hb : b < 2 ^ n) (he : e < 8) (hae : a.testBit e = true) :
  Ev (fun k => yn.f k (n : Int) l (a : Int) (b : Int) (e : Int)) (ydT l a b e) := by
 have hb256 : b < 256 := Nat.lt_of_lt_of_le hb (yal hn)
 have h := down (P := fun f => Ev (fun k => yn.l0 k (a : Int) (b : Int) (e : Int) (f : Int) (n : Int) l) (((List.range' f (n - f)).filter (fun f => b.testBit f && !a.testBit f)).any (fun f => l.contains ((dif a (2 ^ e) ||| 2 ^ f : Nat) : Int)))) n
  (by
   apply Ev.step
   ·intro k
    simp only [yn.l0]
    rw [if_neg (by omega)]
   ·rw [Nat.sub_self]; exact Ev.now _)
  (by
   intro f hf ih
   have hih : Ev (fun k => yn.l0 k (a : Int) (b : Int) (e : Int) (wrap64 ((f : Int) + 1)) (n : Int) l) (((List.range' (f + 1) (n - (f + 1))).filter (fun f => b.testBit f && !a.testBit f)).any (fun f => l.contains ((dif a (2 ^ e) ||| 2 ^ f : Nat) : Int))) := by
    rw [yay hf (by omega)]; exact ih
   apply Ev.step
   ·intro k
    simp only [yn.l0, yb2 (yas hb256) (show f < 2 ^ 63 by omega), yb2 (yas ha) (show f < 2 ^ 63 by omega), Option.bind_some]
    rw [if_pos (by omega)]
   ·rw [ybR hf, List.filter_cons]
    by_cases hbf : b.testBit f = true
    ·refine Ev.ifp hbf ?_
     by_cases haf : a.testBit f = true
     ·refine Ev.ifp haf ?_
      rw [if_neg (by rw [haf]; simp)]
      exact hih
     ·refine Ev.ifn haf (Ev.ifp (ybz _) (Ev.ifp (ybz _) ?_))
      have haf' := Bool.eq_false_iff.2 haf
      rw [if_pos (by rw [hbf, haf']; rfl), List.any_cons]
      obtain ⟨x1, x2, x3⟩ := ygf ha he (show f < 8 by omega) hae haf'
      have hp : 2 ^ f < 256 := Nat.pow_lt_pow_right (a := 2) (m := f) (n := 8) (by decide) (by omega)
      have ex : wrap64 (wrap64 ((a : Int) - shl .i64 1 (IntKind.u64.wrap (e : Int))) + shl .i64 1 (IntKind.u64.wrap (f : Int))) = ((dif a (2 ^ e) ||| 2 ^ f : Nat) : Int) := by
       rw [ycP (by omega) (by omega), ycP (by omega) (by omega), ycv (by omega), ycv (by omega), ← x1]
       generalize 2 ^ e = p at *
       generalize 2 ^ f = q at *
       rw [yak (n := (a : Int) - (p : Int)) (by omega) (by omega), yak (by omega) (by omega)]
       omega
      rw [ex]
      refine Ev.bind (yc3 l _ hl) ?_
      by_cases hc : l.contains ((dif a (2 ^ e) ||| 2 ^ f : Nat) : Int) = true
      ·refine Ev.ifp hc ?_
       rw [hc, Bool.true_or]; exact Ev.now _
      ·refine Ev.ifn hc ?_
       rw [Bool.eq_false_iff.2 hc, Bool.false_or]; exact hih
    ·refine Ev.ifn hbf ?_
     rw [if_neg (by rw [Bool.eq_false_iff.2 hbf]; simp)]
     exact hih)
 rw [Nat.sub_zero, ← List.range_eq_range', ← ygG hb hn] at h
 exact h
theorem yfv (n : Nat) (hn : n ≤ 8) (l : List Int) (hl : l.length ≤ 17592186044416) (i j : Nat) (hi : i < l.length) (hj : j < l.length) (a b : Nat) (hai : rd l (i : Int) = a) (hbj : rd l (j : Int) = b) (ha : a < 2 ^ n) (hb : b < 2 ^ n) (K : Int × Int × Int × Bool)
  (hK : Ev (fun k => yd.l1 k (i : Int) (wrap64 ((j : Int) + 1)) (n : Int) l) K) :
  Ev (fun k => yd.l2 k (i : Int) (j : Int) 0 (n : Int) l) (match ycs l a b (els (dif a b)) with | none => K | some e => ((a : Int), (b : Int), (e : Int), true)) := by
 have ha256 : a < 256 := Nat.lt_of_lt_of_le ha (yal hn)
 have hb256 : b < 256 := Nat.lt_of_lt_of_le hb (yal hn)
 have h := down (P := fun e => Ev (fun k => yd.l2 k (i : Int) (j : Int) (e : Int) (n : Int) l) (match ycs l a b ((List.range' e (n - e)).filter (fun e => a.testBit e && !b.testBit e)) with | none => K | some e => ((a : Int), (b : Int), (e : Int), true))) n
  (by
   apply Ev.step
   ·intro k
    simp only [yd.l2]
    rw [if_neg (by omega)]
   ·rw [Nat.sub_self]; exact hK)
  (by
   intro e he ih
   have hih : Ev (fun k => yd.l2 k (i : Int) (j : Int) (wrap64 ((e : Int) + 1)) (n : Int) l) (match ycs l a b ((List.range' (e + 1) (n - (e + 1))).filter (fun e => a.testBit e && !b.testBit e)) with | none => K | some e => ((a : Int), (b : Int), (e : Int), true)) := by
    rw [yay he (by omega)]; exact ih
   apply Ev.step
   ·intro k
    simp only [yd.l2]
    rw [if_pos (by omega), if_pos (by omega), if_pos (by omega), if_pos (by omega), if_pos (by omega), hai, hbj, yb2 (yas ha256) (show e < 2 ^ 63 by omega), yb2 (yas hb256) (show e < 2 ^ 63 by omega), Option.bind_some, Option.bind_some]
   ·rw [ybR he, List.filter_cons]
    by_cases hae : a.testBit e = true
    ·refine Ev.ifp hae ?_
     by_cases hbe : b.testBit e = true
     ·refine Ev.ifp hbe ?_
      rw [if_neg (by rw [hbe]; simp)]
      exact hih
     ·refine Ev.ifn hbe (Ev.bind (ygW n hn l hl a b e ha256 hb (by omega) hae) ?_)
      rw [if_pos (by rw [hae, Bool.eq_false_iff.2 hbe]; rfl)]
      simp only [ycs]
      by_cases hx : ydT l a b e = true
      ·refine Ev.ifp hx ?_
       rw [if_pos hx]; exact hih
      ·refine Ev.ifn hx ?_
       rw [if_neg hx]; exact Ev.now _
    ·refine Ev.ifn hae ?_
     rw [if_neg (by rw [Bool.eq_false_iff.2 hae]; simp)]
     exact hih)
 rw [Nat.sub_zero, ← List.range_eq_range', ← ygG ha hn] at h
 exact h
theorem yfp (n : Int) (l : List Int) (hl : l.length ≤ 17592186044416) : Ev (fun k => yd.f k n l) (yeX n l) := by
 unfold yd.f yeX
 refine Ev.bind (yd6 n l hl) ?_
 by_cases hf : famB n l = true
 ·refine Ev.ifp hf ?_
  rw [if_pos hf]
  obtain ⟨m, L, rfl, hm, rfl, hL, _⟩ := yec hf
  rw [yat]
  have hlen : (L.map (fun x : Nat => (x : Int))).length = L.length := List.length_map _
  rw [hlen] at hl
  have hrd : ∀ i, (h : i < L.length) → rd (L.map (fun x : Nat => (x : Int))) (i : Int) = (L[i] : Int) := fun i h => by
   rw [yaR _ i (by rw [hlen]; exact h), List.getElem_map]
  have hl' : (L.map (fun x : Nat => (x : Int))).length ≤ 17592186044416 := by rw [hlen]; exact hl
  generalize L.map (fun x : Nat => (x : Int)) = l at hlen hrd hl'
  have h := down (P := fun i => Ev (fun k => yd.l0 k (i : Int) (m : Int) l) (told (ycJ l L (L.drop i)))) L.length
   (by
    apply Ev.step
    ·intro k
     simp only [yd.l0]
     rw [if_neg (by omega)]
    ·rw [ybl]; exact Ev.now _)
   (by
    intro i hi ih
    have hia := hL _ (List.getElem_mem hi)
    have hih : Ev (fun k => yd.l0 k (wrap64 ((i : Int) + 1)) (m : Int) l) (told (ycJ l L (L.drop (i + 1)))) := by
     rw [yay hi hl]; exact ih
    apply Ev.step
    ·intro k
     simp only [yd.l0]
     rw [if_pos (by omega)]
    ·have h1 := down (P := fun j => Ev (fun k => yd.l1 k (i : Int) (j : Int) (m : Int) l) (match ycy l L[i] (L.drop j) with | none => told (ycJ l L (L.drop (i + 1))) | some (b, e) => ((L[i] : Int), (b : Int), (e : Int), true))) L.length
      (by
       apply Ev.step
       ·intro k
        simp only [yd.l1]
        rw [if_neg (by omega)]
       ·rw [ybl]; exact hih)
      (by
       intro j hj ihj
       have hjb := hL _ (List.getElem_mem hj)
       apply Ev.step
       ·intro k
        simp only [yd.l1]
        rw [if_pos (by omega)]
       ·have h2 := yfv m hm l hl' i j (by omega) (by omega) L[i] L[j] (hrd i hi) (hrd j hj) hia hjb _ (by rw [yay hj hl]; exact ihj)
        rw [yaS L j hj]
        simp only [ycy]
        generalize ycs l L[i] L[j] (els (dif L[i] L[j])) = q at h2
        cases q with
        | none => exact h2
        | some e => exact h2)
     rw [yaS L i hi]
     simp only [ycJ]
     rw [List.drop_zero] at h1
     generalize ycy l L[i] L = q at h1
     cases q with
     | none => exact h1
     | some x => exact h1)
  exact h
 ·refine Ev.ifn hf ?_
  rw [if_neg hf]
  exact Ev.now _
end Go.Proofs.Ytimkekeaeojpkaa.Q
namespace Go.Proofs.Ytimkekeaeojpkaa.Q
open Go Go.RowKit Go.Proofs.Ytimkekeaeojpkaa.A Go.Proofs.YtimkekeaeojpkaaW.PrintWords Go.Proofs.YtimkekeaeojpkaaW.PrintLast Go.Proofs.YtimkekeaeojpkaaW.PrintMore Go.Proofs.Ytimkekeaeojpkaa.Z
set_option linter.unusedVariables false
set_option linter.unusedSimpArgs false
def matB (n : Int) (l : List Int) : Bool := famB n l && (decide ((l.length : Int) > 0) && !(yeX n l).2.2.2)
theorem yc6 (n : Int) (l : List Int) (hl : l.length ≤ 17592186044416) : Ev (fun k => yM.f k n l) (matB n l) := by
 unfold yM.f matB
 refine Ev.bind (yfp n l hl) (Ev.bind (yd6 n l hl) ?_)
 by_cases hf : famB n l = true
 ·refine Ev.ifp hf ?_
  rw [hf, Bool.true_and]
  by_cases h0 : (l.length : Int) > 0
  ·refine Ev.ifp h0 ?_
   rw [show decide ((l.length : Int) > 0) = true from by simpa using h0, Bool.true_and]
   exact Ev.now _
  ·refine Ev.ifn h0 ?_
   rw [show decide ((l.length : Int) > 0) = false from by simpa using h0, Bool.false_and]
   exact Ev.now _
 ·refine Ev.ifn hf ?_
  rw [Bool.eq_false_iff.2 hf, Bool.false_and]
  exact Ev.now _
end Go.Proofs.Ytimkekeaeojpkaa.Q
namespace Go.Proofs.Ytimkekeaeojpkaa.Q
open Go Go.RowKit Go.Proofs.YtimkekeaeojpkaaW.PrintWords Go.Proofs.YtimkekeaeojpkaaW.PrintLast Go.Proofs.YtimkekeaeojpkaaW.PrintMore Go.Proofs.Ytimkekeaeojpkaa.Z
set_option linter.unusedVariables false
set_option linter.unusedSimpArgs false
theorem yb4 {n : Int} {l : List Int} (h : matB n l = true) : ∃ (m : Nat) (L : List Nat), n = m ∧ m ≤ 8 ∧ l = ints L ∧ (∀ x ∈ L, x < 2 ^ m) ∧ (∀ x ∈ L, x < 256) ∧ L.Pairwise (· < ·) ∧ L ≠ [] := by
 simp only [matB, Bool.and_eq_true, decide_eq_true_eq] at h
 obtain ⟨m, L, rfl, hm, rfl, hL, hp⟩ := yec h.1
 refine ⟨m, L, rfl, hm, rfl, hL, fun x hx => Nat.lt_of_lt_of_le (hL x hx) (yal hm), hp, ?_⟩
 rintro rfl
 simp at h
theorem ints_len (L : List Nat) : (ints L).length = L.length := List.length_map _
theorem ycp (L : List Nat) (i : Nat) (h : i < L.length) : rd (ints L) (i : Int) = (L[i] : Int) := by
 rw [yaR _ i (by rw [ints_len]; exact h)]
 simp [ints]
end Go.Proofs.Ytimkekeaeojpkaa.Q
namespace Go.Proofs.Ytimkekeaeojpkaa.Q
open Go Go.RowKit Go.Proofs.Ytimkekeaeojpkaa.A Go.Proofs.YtimkekeaeojpkaaW.PrintWords Go.Proofs.YtimkekeaeojpkaaW.PrintLast Go.Proofs.YtimkekeaeojpkaaW.PrintMore Go.Proofs.Ytimkekeaeojpkaa.Z
set_option linter.unusedVariables false
set_option linter.unusedSimpArgs false
def insO (x : Int) : List Int → List Int
 | [] => [x]
 | y :: ys => if y < x then y :: insO x ys else (if y = x then y :: ys else x :: y :: ys)
def yb6 (acc X : List Int) : List Int := X.foldl (fun a x => insO x a) acc
theorem yfC (x : Int) (l : List Int) : (insO x l).length ≤ l.length + 1 := by
 induction l with
 | nil => exact Nat.le_refl _
 | cons y l ih =>
  simp only [insO]
  by_cases h : y < x
  ·rw [if_pos h, List.length_cons, List.length_cons]; omega
  ·rw [if_neg h]
   by_cases h2 : y = x
   ·rw [if_pos h2]; omega
   ·rw [if_neg h2]; simp only [List.length_cons]; omega
theorem insO_mem (x a : Int) (l : List Int) : a ∈ insO x l ↔ a = x ∨ a ∈ l := by
 induction l with
 | nil => simp [insO]
 | cons y l ih =>
  simp only [insO]
  by_cases h : y < x
  ·rw [if_pos h, List.mem_cons, ih, List.mem_cons]
   constructor
   ·rintro (h' | h' | h')
    ·exact .inr (.inl h')
    ·exact .inl h'
    ·exact .inr (.inr h')
   ·rintro (h' | h' | h')
    ·exact .inr (.inl h')
    ·exact .inl h'
    ·exact .inr (.inr h')
  ·rw [if_neg h]
   by_cases h2 : y = x
   ·rw [if_pos h2]
    subst h2
    constructor
    ·exact .inr
    ·rintro (rfl | h')
     ·exact List.mem_cons_self ..
     ·exact h'
   ·rw [if_neg h2, List.mem_cons]
theorem ygS (x : Int) (l : List Int) (hl : l.Pairwise (· < ·)) : (insO x l).Pairwise (· < ·) := by
 induction l with
 | nil => simp [insO]
 | cons y l ih =>
  rw [List.pairwise_cons] at hl
  simp only [insO]
  by_cases h : y < x
  ·rw [if_pos h, List.pairwise_cons]
   refine ⟨fun a ha => ?_, ih hl.2⟩
   rcases (insO_mem x a l).1 ha with rfl | ha
   ·exact h
   ·exact hl.1 a ha
  ·rw [if_neg h]
   by_cases h2 : y = x
   ·rw [if_pos h2, List.pairwise_cons]; exact hl
   ·rw [if_neg h2, List.pairwise_cons, List.pairwise_cons]
    refine ⟨fun a ha => ?_, hl⟩
    rcases List.mem_cons.1 ha with rfl | ha
    ·omega
    ·have := hl.1 a ha; omega
theorem ygQ (X : List Int) (a : Int) : ∀ acc : List Int, a ∈ yb6 acc X ↔ a ∈ X ∨ a ∈ acc := by
 induction X with
 | nil => intro acc; simp [yb6]
 | cons x X ih =>
  intro acc
  have := ih (insO x acc)
  unfold yb6 at this ⊢
  rw [List.foldl_cons, this, insO_mem, List.mem_cons]
  constructor
  ·rintro (h | h | h)
   ·exact .inl (.inr h)
   ·exact .inl (.inl h)
   ·exact .inr h
  ·rintro ((h | h) | h)
   ·exact .inr (.inl h)
   ·exact .inl h
   ·exact .inr (.inr h)
theorem yf1 (X : List Int) : ∀ acc : List Int, acc.Pairwise (· < ·) → (yb6 acc X).Pairwise (· < ·) := by
 induction X with
 | nil => intro acc h; exact h
 | cons x X ih => intro acc h; exact ih _ (ygS x acc h)
theorem yfE : ∀ {X Y : List Int}, X.Pairwise (· < ·) → Y.Pairwise (· < ·) → (∀ a, a ∈ X ↔ a ∈ Y) → X = Y := by
 intro X
 induction X with
 | nil =>
  intro Y _ _ h
  cases Y with
  | nil => rfl
  | cons y Y => exact absurd ((h y).2 (List.mem_cons_self ..)) (by simp)
 | cons x X ih =>
  intro Y hX hY h
  cases Y with
  | nil => exact absurd ((h x).1 (List.mem_cons_self ..)) (by simp)
  | cons y Y =>
   rw [List.pairwise_cons] at hX hY
   have hxy : x = y := by
    rcases List.mem_cons.1 ((h x).1 (List.mem_cons_self ..)) with e | hx
    ·exact e
    ·rcases List.mem_cons.1 ((h y).2 (List.mem_cons_self ..)) with e | hy
     ·exact e.symm
     ·have h1 := hX.1 y hy
      have h2 := hY.1 x hx
      omega
   subst hxy
   rw [ih hX.2 hY.2 (fun a => ?_)]
   constructor
   ·intro ha
    rcases List.mem_cons.1 ((h a).1 (List.mem_cons_of_mem _ ha)) with e | h'
    ·have := hX.1 a ha; omega
    ·exact h'
   ·intro ha
    rcases List.mem_cons.1 ((h a).2 (List.mem_cons_of_mem _ ha)) with e | h'
    ·have := hY.1 a ha; omega
    ·exact h'
theorem ycK (X : List Int) (hx : X.length ≤ 8796093022208) : Ev (fun k => yf.f k X) (yb6 [] X) := by
 have hd := down (P := fun i => ∀ acc : List Int, acc.length ≤ i → Ev (fun k => yf.l0 k X acc (i : Int)) (yb6 acc (X.drop i))) X.length
  (by
   intro acc _
   apply Ev.step
   ·intro k
    rw [yf.l0, if_neg (by omega)]
   ·rw [ybl]; exact Ev.now _)
  (by
   intro i hi ih acc ha
   have ihs := fun y (hy : y = insO X[i] acc) => ih y (by subst hy; have := yfC X[i] acc; omega)
   rw [yaS X i hi]
   have h1 := down (P := fun j => Ev (fun k => yf.l1 k X acc (i : Int) (j : Int)) (yb6 (acc.take j ++ insO X[i] (acc.drop j)) (X.drop (i + 1)))) acc.length
    (by
     rw [List.take_length, ybl]
     have hr := ih (acc ++ [X[i]]) (by rw [List.length_append, List.length_singleton]; omega)
     apply Ev.step
     ·intro k
      rw [yf.l1, if_neg (by omega), yay hi (by omega)]
     ·simp only [Option.bind_some, Int.toNat_natCast, List.drop_length, List.take_length, List.nil_append, List.append_nil, List.length_nil, List.length_append, List.length_singleton]
      refine Ev.ifp (by omega) (Ev.ifp (by omega) (Ev.ifp (by omega) (Ev.ifp (by omega) (Ev.ifp (by omega) (Ev.ifp (by omega) (Ev.ifp (by omega) ?_))))))
      rw [yaR X i hi]
      exact hr)
    (by
     intro j hj ihj
     apply Ev.step
     ·intro k
      rw [yf.l1, if_pos (by omega), if_pos (by omega), if_pos (by omega), if_pos (by omega), yaR acc j hj, yaR X i hi, yay hi (by omega), yay hj (by omega)]
     ·rw [yaS acc j hj]
      simp only [insO]
      by_cases hlt : acc[j] < X[i]
      ·rw [if_pos hlt]
       refine Ev.ifp hlt ?_
       rw [ye4 acc j hj, List.append_assoc, List.singleton_append] at ihj
       exact ihj
      ·rw [if_neg hlt]
       refine Ev.ifn hlt ?_
       by_cases heq : acc[j] = X[i]
       ·rw [if_pos heq]
        refine Ev.ifp heq ?_
        rw [← yaS acc j hj, List.take_append_drop]
        exact ih acc (by omega)
       ·rw [if_neg heq]
        refine Ev.ifn heq ?_
        have hr := ih (acc.take j ++ X[i] :: acc[j] :: acc.drop (j + 1)) (by
         rw [List.length_append, List.length_cons, List.length_cons, List.length_take, List.length_drop]; omega)
        simp only [Option.bind_some, Int.toNat_natCast, List.nil_append, List.length_nil]
        refine Ev.ifp (by omega) (Ev.ifp (by rw [List.length_drop]; omega) (Ev.ifp (by rw [List.length_take]; omega) (Ev.ifp (by rw [List.length_append, List.length_singleton, List.length_take, List.length_drop]; omega) ?_)))
        rw [yaS acc j hj, List.append_assoc, List.singleton_append]
        exact hr)
   apply Ev.step
   ·intro k
    rw [yf.l0, if_pos (by omega)]
   ·have h0 := h1
    rw [List.take_zero, List.drop_zero, List.nil_append] at h0
    show Ev _ (yb6 acc (X[i] :: X.drop (i + 1)))
    exact h0)
 exact hd [] (Nat.zero_le _)
end Go.Proofs.Ytimkekeaeojpkaa.Q
namespace Go.Proofs.Ytimkekeaeojpkaa.Q
open Go Go.RowKit Go.Proofs.YtimkekeaeojpkaaW.PrintWords Go.Proofs.YtimkekeaeojpkaaW.PrintLast Go.Proofs.YtimkekeaeojpkaaW.PrintMore Go.Proofs.Ytimkekeaeojpkaa.Z
set_option linter.unusedVariables false
set_option linter.unusedSimpArgs false
theorem yh7 {a x : Nat} (ha : a < 256) (hx : x < 8) : a ||| 2 ^ x < 256 := by
 have h1 : a < 2 ^ 8 := ha
 have h2 : 2 ^ x < 2 ^ 8 := Nat.pow_lt_pow_right (by decide) hx
 exact Nat.or_lt_two_pow h1 h2
theorem yet {x : Nat} (hx : x < 8) : 2 ^ x < 256 := Nat.pow_lt_pow_right (a := 2) (m := x) (n := 8) (by decide) hx
end Go.Proofs.Ytimkekeaeojpkaa.Q
namespace Go.Proofs.Ytimkekeaeojpkaa.Q
open Go Go.RowKit Go.Proofs.Ytimkekeaeojpkaa.A Go.Proofs.YtimkekeaeojpkaaW.PrintWords Go.Proofs.YtimkekeaeojpkaaW.PrintLast Go.Proofs.YtimkekeaeojpkaaW.PrintMore Go.Proofs.Ytimkekeaeojpkaa.Z
set_option linter.unusedVariables false
set_option linter.unusedSimpArgs false
def yeC (l : List Int) (acc : Nat) (es : List Nat) : Nat := es.foldl (fun (a : Nat) (e : Nat) => a ||| 2 ^ (rd l (e : Int)).toNat) acc
def yb0 (l : List Int) (s : Nat) : Nat := yeC l 0 ((List.range l.length).filter (fun e => s.testBit e))
theorem yhE {l : List Int} (hm : ∀ x ∈ l, 0 ≤ x ∧ x < 8) {i : Nat} (hi : i < l.length) : ∃ x : Nat, rd l (i : Int) = x ∧ x < 8 := by
 have h := hm _ (List.getElem_mem hi)
 obtain ⟨x, hx⟩ := Int.eq_ofNat_of_zero_le h.1
 exact ⟨x, by rw [yaR l i hi, hx], by omega⟩
theorem yfb (l : List Int) (s : Nat) (hl : l.length ≤ 17592186044416) (hm : ∀ x ∈ l, 0 ≤ x ∧ x < 8) (hs : s < 256) : Ev (fun k => yaC.f k l (s : Int)) ((yb0 l s : Nat) : Int) := by
 have h := down (P := fun i => ∀ acc : Nat, acc < 256 → Ev (fun k => yaC.l0 k l (s : Int) (acc : Int) (i : Int)) ((yeC l acc ((List.range' i (l.length - i)).filter (fun e => s.testBit e)) : Nat) : Int)) l.length
  (by
   intro acc ha
   apply Ev.step
   ·intro k
    simp only [yaC.l0]
    rw [if_neg (by omega)]
   ·rw [Nat.sub_self]
    exact Ev.now _)
  (by
   intro i hi ih acc ha
   obtain ⟨x, hx, hx8⟩ := yhE hm hi
   apply Ev.step
   ·intro k
    simp only [yaC.l0, yb2 (yas hs) (show i < 2 ^ 63 by omega), Option.bind_some]
    rw [if_pos (by omega), yay hi hl]
   ·rw [ybR hi, List.filter_cons]
    by_cases hb : s.testBit i = true
    ·refine Ev.ifp hb (Ev.ifp (by omega) (Ev.ifp (ybz _) ?_))
     rw [if_pos hb, hx, ycP (by omega) (by omega), ycv (by omega), ygo (yas ha) (yas (yet hx8))]
     have := ih _ (yh7 ha hx8)
     have e : yeC l acc (i :: (List.range' (i + 1) (l.length - (i + 1))).filter (fun e => s.testBit e)) = yeC l (acc ||| 2 ^ x) ((List.range' (i + 1) (l.length - (i + 1))).filter (fun e => s.testBit e)) := by
      simp only [yeC, List.foldl_cons, hx, Int.toNat_natCast]
     rw [e]; exact this
    ·refine Ev.ifn hb ?_
     rw [if_neg hb]
     exact ih acc ha)
 have h0 := h 0 (by omega)
 rw [Nat.sub_zero, ← List.range_eq_range'] at h0
 exact h0
end Go.Proofs.Ytimkekeaeojpkaa.Q
namespace Go.Proofs.Ytimkekeaeojpkaa.Q
open Go Go.RowKit Go.Proofs.YtimkekeaeojpkaaW.PrintWords Go.Proofs.YtimkekeaeojpkaaW.PrintLast Go.Proofs.YtimkekeaeojpkaaW.PrintMore Go.Proofs.Ytimkekeaeojpkaa.Z
set_option linter.unusedVariables false
set_option linter.unusedSimpArgs false
theorem yg8 {L : List Nat} (h : L.Pairwise (· < ·)) : (ints L).Pairwise (· < ·) := by
 unfold ints
 rw [List.pairwise_map]
 exact h.imp (fun hab => by omega)
theorem yhr {a b : Nat} (ha : a < 256) (hb : b < 256) (h : subN a b) (hc : pc b ≤ pc a) : a = b := by
 apply ygD ha hb
 intro i hi
 cases hbi : b.testBit i
 ·cases hai : a.testBit i
  ·rfl
  ·rw [ya4.1 h i hai] at hbi; cases hbi
 ·cases hai : a.testBit i
  ·have h1 : pc a ≤ pc (dif b (2 ^ i)) := ybT fun j _ hj => by
    rw [del_bit, ya4.1 h j hj]
    have : ¬ i = j := by rintro rfl; rw [hai] at hj; cases hj
    simp [this]
   have := yd9 hi hbi
   omega
  ·rfl
end Go.Proofs.Ytimkekeaeojpkaa.Q
namespace Go.Proofs.Ytimkekeaeojpkaa.Q
open Go Go.RowKit Go.Proofs.Ytimkekeaeojpkaa.A Go.Proofs.YtimkekeaeojpkaaW.PrintWords Go.Proofs.YtimkekeaeojpkaaW.PrintLast Go.Proofs.YtimkekeaeojpkaaW.PrintMore Go.Proofs.Ytimkekeaeojpkaa.Z
set_option linter.unusedVariables false
set_option linter.unusedSimpArgs false
theorem yfq {X : List Int} {D : List Nat} (hD : D.Pairwise (· < ·)) (h : ∀ a, a ∈ X ↔ a ∈ ints D) : yb6 [] X = ints D :=
 yfE (yf1 X [] List.Pairwise.nil) (yg8 hD) (fun a => by rw [ygQ, h]; simp)
end Go.Proofs.Ytimkekeaeojpkaa.Q
namespace Go.Proofs.Ytimkekeaeojpkaa.Q
open Go Go.RowKit Go.Proofs.Ytimkekeaeojpkaa.A Go.Proofs.YtimkekeaeojpkaaW.PrintWords Go.Proofs.YtimkekeaeojpkaaW.PrintLast Go.Proofs.YtimkekeaeojpkaaW.PrintMore Go.Proofs.Ytimkekeaeojpkaa.Z
set_option linter.unusedVariables false
set_option linter.unusedSimpArgs false
theorem ye2 (X : List Int) : ∀ acc : List Int, (yb6 acc X).length ≤ acc.length + X.length := by
 induction X with
 | nil => intro acc; exact Nat.le_refl _
 | cons x X ih =>
  intro acc
  have h1 := ih (insO x acc)
  have h2 := yfC x acc
  rw [List.length_cons]
  show (yb6 (insO x acc) X).length ≤ _
  omega
theorem yev (w : List Int) (L : List Nat) (hw : w.length ≤ 17592186044416) (hl : L.length ≤ 8796093022208) (hm : ∀ x ∈ w, 0 ≤ x ∧ x < 8) (hL : ∀ b ∈ L, b < 256) : Ev (fun k => yaz.f k w (ints L)) (yb6 [] (ints (L.map (yb0 w)))) := by
 have hd := down (P := fun i => Ev (fun k => yaz.l0 k w (ints L) (ints ((L.take i).map (yb0 w))) (i : Int)) (yb6 [] (ints (L.map (yb0 w))))) L.length
  (by
   apply Ev.step
   ·intro k
    rw [yaz.l0, if_neg (by rw [ints_len]; omega)]
   ·rw [List.take_length]
    exact Ev.bind (ycK _ (by rw [ints_len, List.length_map]; exact hl)) (Ev.now _))
  (by
   intro i hi ih
   have hb := hL _ (List.getElem_mem hi)
   apply Ev.step
   ·intro k
    rw [yaz.l0, if_pos (by rw [ints_len]; omega), if_pos (by omega), ycp L i hi, yay hi (by omega)]
   ·refine Ev.bind (yfb w _ hw hm hb) (Ev.ifp ?_ ?_)
    ·rw [ints_len, List.length_map, List.length_take]; omega
    ·rw [ye4 L i hi, List.map_append] at ih
     rw [show ints ((L.take i).map (yb0 w)) ++ [((yb0 w L[i] : Nat) : Int)] = ints ((L.take i).map (yb0 w) ++ [L[i]].map (yb0 w)) from by simp [ints]]
     exact ih)
 exact hd
end Go.Proofs.Ytimkekeaeojpkaa.Q
namespace Go.Proofs.Ytimkekeaeojpkaa.Q
open Go Go.RowKit Go.Proofs.Ytimkekeaeojpkaa.A Go.Proofs.YtimkekeaeojpkaaW.PrintWords Go.Proofs.YtimkekeaeojpkaaW.PrintLast Go.Proofs.YtimkekeaeojpkaaW.PrintMore Go.Proofs.Ytimkekeaeojpkaa.Z
set_option linter.unusedVariables false
set_option linter.unusedSimpArgs false
theorem ygV {b : List Int} (hb : b.length ≤ 17592186044416) {p h : Int} (hp : 0 ≤ p) : ∃ r, ybF.f b p h = some r ∧ 0 ≤ r.2.1 := by
 unfold ybF.f
 obtain ⟨u, eu, u1⟩ := yeQ hb (h := h) hp 8
 rw [eu, Option.bind_some]
 by_cases hc : u.1 = true
 ·rw [if_pos hc]
  obtain ⟨v, ev, _, v2⟩ := ycF hb (h := u.2.2) u1 (l := [(-1), 256, 1000, (-9223372036854775808)]) (by simp)
  rw [ev, Option.bind_some]
  exact ⟨_, rfl, v2⟩
 ·rw [if_neg hc]
  unfold ybG.f
  obtain ⟨v, ev, _, _, _, v3⟩ := yaM hb (h := u.2.2) u1 256
  rw [ev, Option.bind_some, Option.bind_some]
  exact ⟨_, rfl, v3⟩
theorem ygZ {b : List Int} (hb : b.length ≤ 17592186044416) {p h : Int} (hp : 0 ≤ p) (n : Int) : ExE (fun k => yau.f k b p h n) (fun r => r.1.length ≤ 6 ∧ 0 ≤ r.2.1) := by
 unfold yau.f
 obtain ⟨c, e, c1, c2, _, c3⟩ := yaM hb (h := h) hp 6
 refine ExE.cbind (P := fun a => a = c) ⟨c, e, rfl⟩ ?_
 rintro a rfl
 obtain ⟨m, hm⟩ := Int.eq_ofNat_of_zero_le c1
 have hm5 : m < 6 := by have := c2 (by omega); omega
 rw [hm]
 have hd := down (P := fun i => ∀ (l : List Int) (p h : Int), 0 ≤ p → l.length ≤ i → ExE (fun k => yau.l0 k n l (m : Int) (i : Int) b p h) (fun r => r.1.length ≤ 6 ∧ 0 ≤ r.2.1)) m
  (by
   intro l p h hp hl
   apply ExE.step
   ·intro k
    rw [yau.l0, if_neg (by omega)]
   ·exact ExE.now ⟨by simp only []; omega, hp⟩)
  (by
   intro i hi ih l p h hp hl
   apply ExE.step
   ·intro k
    rw [yau.l0, if_pos (by omega), if_pos (ybz _), yay hi (by omega)]
   ·obtain ⟨x, ex, _, _, _, x3⟩ := yaM hb (h := h) hp (shl .i64 1 (IntKind.u64.wrap n))
    refine ExE.cbind (P := fun a => a = x) ⟨x, ex, rfl⟩ ?_
    rintro a rfl
    exact ExE.ifp (by omega) (ih _ _ _ x3 (by rw [List.length_append, List.length_singleton]; omega)))
 exact hd [] _ _ c3 (Nat.le_refl _)
theorem yg6 {b : List Int} (hb : b.length ≤ 17592186044416) {p h : Int} (hp : 0 ≤ p) {n : Int} (h0 : 0 ≤ n) (h8 : n ≤ 8) : ExE (fun k => yan.f k b p h n) (fun q => -1 ≤ q.1 ∧ q.1 ≤ 9 ∧ q.2.1.length ≤ 300 ∧ 0 ≤ q.2.2.1) := by
 unfold yan.f
 refine ExE.bind (ye5 hb hp h0 h8) ?_
 rintro m ⟨m1, m2, m3, m4⟩
 obtain ⟨u, eu, u1, u2, _, u3⟩ := yaM hb (h := m.2.2.2) m4 10
 refine ExE.cbind (P := fun a => a = u) ⟨u, eu, rfl⟩ ?_
 intro u' e
 subst e
 refine ExE.ite (fun _ => ?_) (fun _ => ExE.ite (fun _ => ?_) (fun _ => ExE.ite (fun _ => ?_) (fun _ => ExE.ite (fun _ => ?_) (fun _ => ExE.now ⟨by simp only []; omega, by simp only []; omega, by simp only []; omega, u3⟩))))
 ·obtain ⟨v, ev, v1, v2⟩ := ycF hb (h := u'.2.2) u3 (l := [(-1), 0, 2, 9]) (by simp)
  refine ExE.cbind (P := fun a => a = v) ⟨v, ev, rfl⟩ ?_
  intro v' e
  subst e
  have hv : -1 ≤ v'.1 ∧ v'.1 ≤ 9 := by
   simp only [List.mem_cons, List.not_mem_nil, or_false] at v1
   omega
  exact ExE.now ⟨hv.1, hv.2, by simp only []; omega, v2⟩
 ·obtain ⟨v, ev, v1⟩ := ygV hb (h := u'.2.2) u3
  refine ExE.cbind (P := fun a => a = v) ⟨v, ev, rfl⟩ ?_
  intro v' e
  subst e
  exact ExE.ifp (by omega) (ExE.now ⟨by simp only []; omega, by simp only []; omega, by simp only [List.length_append, List.length_singleton]; omega, v1⟩)
 ·refine ExE.ite (fun hlen => ?_) (fun _ => ExE.now ⟨by simp only []; omega, by simp only []; omega, by simp only []; omega, u3⟩)
  obtain ⟨v, ev, v1, v2, _, v3⟩ := yaM hb (h := u'.2.2) u3 (m.2.1.length : Int)
  refine ExE.cbind (P := fun a => a = v) ⟨v, ev, rfl⟩ ?_
  intro v' e
  subst e
  have v2 := v2 (by omega)
  have hw : wrap64 (v'.1 + 1) = v'.1 + 1 := yak (by omega) (by omega)
  rw [hw]
  have ht1 : (m.2.1.take v'.1.toNat).length ≤ m.2.1.length := by rw [List.length_take]; omega
  have ht2 : (m.2.1.drop (v'.1 + 1).toNat).length ≤ m.2.1.length := by rw [List.length_drop]; omega
  have ht3 : (m.2.1.take v'.1.toNat).length + (m.2.1.drop (v'.1 + 1).toNat).length ≤ 300 := by rw [List.length_take, List.length_drop]; omega
  refine ExE.cbind (P := fun y => y = []) ⟨_, rfl, rfl⟩ ?_
  rintro y rfl
  refine ExE.ifp v1 (ExE.ifp (by omega) ?_)
  refine ExE.cbind (P := fun y => y = m.2.1.take v'.1.toNat) ⟨_, rfl, rfl⟩ ?_
  rintro y rfl
  refine ExE.ifp (by simp only [List.length_nil]; omega) ?_
  refine ExE.cbind (P := fun y => y = m.2.1.take v'.1.toNat) ⟨_, rfl, by simp⟩ ?_
  rintro y rfl
  refine ExE.ifp (by omega) (ExE.ifp (by omega) ?_)
  refine ExE.cbind (P := fun y => y = m.2.1.drop (v'.1 + 1).toNat) ⟨_, rfl, rfl⟩ ?_
  rintro y rfl
  exact ExE.ifp (by omega) (ExE.now ⟨by simp only []; omega, by simp only []; omega, by simp only [List.length_append]; omega, v3⟩)
 ·refine ExE.cbind (P := fun _ => True) ⟨_, by unfold ycl.f; exact (apply_ite some _ _ _).symm, trivial⟩ ?_
  rintro x -
  refine ExE.cbind (P := fun _ => True) ⟨_, by unfold ybD.f; exact (apply_ite some _ _ _).symm, trivial⟩ ?_
  rintro y -
  refine ExE.bind (ygZ hb u3 y) ?_
  rintro q ⟨q1, q2⟩
  refine ExE.ev (ycK q.1 (by omega)) ?_
  have := ye2 q.1 []
  exact ExE.now ⟨by simp only []; omega, by simp only []; omega, by simp only [List.length_nil] at this ⊢; omega, q2⟩
end Go.Proofs.Ytimkekeaeojpkaa.Q
namespace Go.Proofs.Ytimkekeaeojpkaa.Q
open Go Go.RowKit Go.Proofs.Ytimkekeaeojpkaa.A Go.Proofs.YtimkekeaeojpkaaW.PrintWords Go.Proofs.YtimkekeaeojpkaaW.PrintLast Go.Proofs.YtimkekeaeojpkaaW.PrintMore Go.Proofs.Ytimkekeaeojpkaa.Z
set_option linter.unusedVariables false
set_option linter.unusedSimpArgs false
theorem ygm {b : List Int} (hb : b.length ≤ 17592186044416) {p h : Int} (hp : 0 ≤ p) (n : Int) : ExE (fun k => yaq.f k b p h n) (fun r => r.1.length ≤ 5 ∧ 0 ≤ r.2.1) := by
 unfold yaq.f
 obtain ⟨c, e, c1, c2, _, c3⟩ := yaM hb (h := h) hp 5
 refine ExE.cbind (P := fun a => a = c) ⟨c, e, rfl⟩ ?_
 rintro a rfl
 obtain ⟨m, hm⟩ := Int.eq_ofNat_of_zero_le c1
 have hm5 : m < 5 := by have := c2 (by omega); omega
 rw [hm]
 have hd := down (P := fun i => ∀ (l : List Int) (p h : Int), 0 ≤ p → l.length ≤ i → ExE (fun k => yaq.l0 k n l (m : Int) (i : Int) b p h) (fun r => r.1.length ≤ 5 ∧ 0 ≤ r.2.1)) m
  (by
   intro l p h hp hl
   apply ExE.step
   ·intro k
    rw [yaq.l0, if_neg (by omega)]
   ·exact ExE.now ⟨by simp only []; omega, hp⟩)
  (by
   intro i hi ih l p h hp hl
   apply ExE.step
   ·intro k
    rw [yaq.l0, if_pos (by omega), if_pos (ybz _), yay hi (by omega)]
   ·obtain ⟨x, ex, _, _, _, x3⟩ := yaM hb (h := h) hp (shl .i64 1 (IntKind.u64.wrap n))
    refine ExE.cbind (P := fun a => a = x) ⟨x, ex, rfl⟩ ?_
    rintro a rfl
    exact ExE.ifp (by omega) (ih _ _ _ x3 (by rw [List.length_append, List.length_singleton]; omega)))
 exact hd [] _ _ c3 (Nat.le_refl _)
end Go.Proofs.Ytimkekeaeojpkaa.Q
namespace Go.Proofs.Ytimkekeaeojpkaa.Q
open Go Go.RowKit Go.Proofs.Ytimkekeaeojpkaa.A Go.Proofs.YtimkekeaeojpkaaW.PrintWords Go.Proofs.YtimkekeaeojpkaaW.PrintLast Go.Proofs.YtimkekeaeojpkaaW.PrintMore Go.Proofs.Ytimkekeaeojpkaa.Z
set_option linter.unusedVariables false
set_option linter.unusedSimpArgs false
theorem l1Max_eq (a b : Int) : ybD.f a b = some (max a b) := by
 unfold ybD.f
 by_cases h : a > b
 ·rw [if_pos h]; congr 1; omega
 ·rw [if_neg h]; congr 1; omega
theorem yb3 (n : Int) (L : List Nat) (s : Nat) (hl : L.length ≤ 17592186044416) (hL : ∀ b ∈ L, b < 256) (hs : s < 256) : Ev (fun k => yaj.f k n (ints L) (s : Int)) (rkN L s : Int) := by
 have h := down (P := fun i => ∀ acc : Nat, Ev (fun k => yaj.l0 k (s : Int) (acc : Int) (i : Int) n (ints L)) ((maxN acc ((L.drop i).map (fun b => pc (b &&& s))) : Nat) : Int)) L.length
  (by
   intro acc
   apply Ev.step
   ·intro k
    simp only [yaj.l0]
    rw [if_neg (by rw [ints_len]; omega)]
   ·rw [ybl]; exact Ev.now _)
  (by
   intro i hi ih acc
   have hb := hL _ (List.getElem_mem hi)
   apply Ev.step
   ·intro k
    simp only [yaj.l0, l1Max_eq, Option.bind_some]
    rw [if_pos (by rw [ints_len]; omega), if_pos (by omega), ycp L i hi, yay hi hl, ydo (yas hb) (yas hs)]
   ·refine Ev.bind (ybp _ (yhc hb)) ?_
    rw [yaS L i hi, List.map_cons, ydM]
    have := ih (max acc (pc (L[i] &&& s)))
    rw [show ((max acc (pc (L[i] &&& s)) : Nat) : Int) = max (acc : Int) (pc (L[i] &&& s) : Int) from by omega] at this
    exact this)
 exact h 0
theorem ycm (n : Int) (L : List Nat) (s : Nat) (hl : L.length ≤ 17592186044416) (hL : ∀ b ∈ L, b < 256) (hne : L ≠ []) (hs : s < 256) : Ev (fun k => yaA.f k n (ints L) (s : Int)) (indN L s) := by
 unfold yaA.f
 refine Ev.bind (yb3 n L s hl hL hs) (Ev.bind (ybp s hs) ?_)
 have : ((rkN L s : Int) == (pc s : Int)) = indN L s := by
  rw [Bool.eq_iff_iff, ← ycd hs hne]
  simp only [beq_iff_eq]
  omega
 rw [this]
 exact Ev.now _
end Go.Proofs.Ytimkekeaeojpkaa.Q
namespace Go.Proofs.Ytimkekeaeojpkaa.Q
open Go Go.RowKit Go.Proofs.Ytimkekeaeojpkaa.A Go.Proofs.YtimkekeaeojpkaaW.PrintWords Go.Proofs.YtimkekeaeojpkaaW.PrintLast Go.Proofs.YtimkekeaeojpkaaW.PrintMore Go.Proofs.Ytimkekeaeojpkaa.Z
set_option linter.unusedVariables false
set_option linter.unusedSimpArgs false
set_option maxRecDepth 100000 in
theorem yil : ∀ s < 256, ybe.f ((s : Nat) : Int) = some ((pc s : Nat) : Int) := by decide +kernel
theorem yca (s : Nat) (h : s < 256) : yaG.f (s : Int) = some (pc s : Int) := by
 unfold yaG.f
 rw [isAny_eq, Option.bind_some, if_pos (by rw [ybV]; simpa using h), ycP (by omega) (by omega)]
 unfold ybH.f
 rw [yil s h]
 rfl
end Go.Proofs.Ytimkekeaeojpkaa.Q
namespace Go.Proofs.Ytimkekeaeojpkaa.Q
open Go Go.RowKit Go.Proofs.Ytimkekeaeojpkaa.A Go.Proofs.YtimkekeaeojpkaaW.PrintWords Go.Proofs.YtimkekeaeojpkaaW.PrintLast Go.Proofs.YtimkekeaeojpkaaW.PrintMore Go.Proofs.Ytimkekeaeojpkaa.Z
set_option linter.unusedVariables false
set_option linter.unusedSimpArgs false
theorem yiq (a b : Nat) : mx (a : Int) (b : Int) = ((max a b : Nat) : Int) := by
 unfold mx
 split <;> omega
theorem yct (n : Int) (L : List Nat) (s : Nat) (hl : L.length ≤ 17592186044416) (hL : ∀ b ∈ L, b < 256) (hs : s < 256) : Ev (fun k => yav.f k n (ints L) (s : Int)) (rkN L s : Int) := by
 have h := down (P := fun i => ∀ acc : Nat, Ev (fun k => yav.l0 k (s : Int) (acc : Int) (ints L) ((ints L).length : Int) (i : Int)) ((maxN acc ((L.drop i).map (fun b => pc (b &&& s))) : Nat) : Int)) L.length
  (by
   intro acc
   apply Ev.step
   ·intro k
    simp only [yav.l0]
    rw [if_neg (by rw [ints_len]; omega)]
   ·rw [ybl]; exact Ev.now _)
  (by
   intro i hi ih acc
   have hb := hL _ (List.getElem_mem hi)
   apply Ev.step
   ·intro k
    simp only [yav.l0]
    rw [if_pos (by rw [ints_len]; omega), if_pos (by omega), if_pos (by rw [ints_len]; omega), ycp L i hi, yay hi hl, ydo (yas hs) (yas hb), Nat.and_comm, yca _ (yhc hb), Option.bind_some, yiq]
   ·rw [yaS L i hi, List.map_cons, ydM]
    exact ih _)
 exact h 0
end Go.Proofs.Ytimkekeaeojpkaa.Q
namespace Go.Proofs.Ytimkekeaeojpkaa.Q
open Go Go.RowKit Go.Proofs.YtimkekeaeojpkaaW.PrintWords Go.Proofs.YtimkekeaeojpkaaW.PrintLast Go.Proofs.YtimkekeaeojpkaaW.PrintMore Go.Proofs.Ytimkekeaeojpkaa.Z
set_option linter.unusedVariables false
set_option linter.unusedSimpArgs false
theorem ydl {L : List Nat} {b : Nat} (hb : b ∈ L) (s : Nat) : pc (b &&& s) ≤ rkN L s := yen _ 0 _ (List.mem_map.2 ⟨b, hb, rfl⟩)
theorem ydJ {L : List Nat} (hne : L ≠ []) (s : Nat) : ∃ b ∈ L, pc (b &&& s) = rkN L s := by
 rcases yde (L.map (fun b => pc (b &&& s))) 0 with h | h
 ·obtain ⟨b, hb⟩ := List.exists_mem_of_ne_nil L hne
  have := ydl hb s
  refine ⟨b, hb, ?_⟩
  unfold rkN at this ⊢
  omega
 ·obtain ⟨b, hb, e⟩ := List.mem_map.1 h
  exact ⟨b, hb, e⟩
theorem ydB {L : List Nat} (hne : L ≠ []) {X Y : Nat} (h : ∀ i, X.testBit i = true → Y.testBit i = true) : rkN L X ≤ rkN L Y := by
 obtain ⟨b, hb, e⟩ := ydJ hne X
 rw [← e]
 refine Nat.le_trans (ybT fun i _ hi => ?_) (ydl hb Y)
 rw [Nat.testBit_and, Bool.and_eq_true] at hi ⊢
 exact ⟨hi.1, h i hi.2⟩
theorem Mat.both_step {m : Nat} {L : List Nat} (h : Mat m L) {S T c : Nat} (hST : ∀ i, S.testBit i = true → T.testBit i = true) (hc : c ∈ L) (hcT : pc (c &&& T) = rkN L T) : ∀ (d b : Nat), b ∈ L → pc (b &&& S) = rkN L S → pc (dif b c) = d → ∃ b ∈ L, pc (b &&& S) = rkN L S ∧ pc (b &&& T) = rkN L T := by
 intro d
 induction d with
 | zero =>
  intro b hb hS hd
  refine ⟨b, hb, hS, Nat.le_antisymm (ydl hb T) ?_⟩
  rw [← hcT]
  have hcard := h.card hb hc
  refine ybT fun i hi hbi => ?_
  rw [Nat.testBit_and, Bool.and_eq_true] at hbi ⊢
  refine ⟨?_, hbi.2⟩
  cases hb' : b.testBit i
  ·have h1 : pc b < pc c := by
    have e1 := ycg c (2 ^ i)
    have hle : pc b ≤ pc (dif c (2 ^ i)) := ybT fun j hj hbj => by
     rw [del_bit]
     have : c.testBit j = true := by
      cases hcj : c.testBit j
      ·have : 0 < pc (dif b c) := yhp hj (by rw [dif_bit, hbj, hcj]; rfl)
       omega
      ·rfl
     rw [this]
     have hne : ¬ i = j := by rintro rfl; rw [hb'] at hbj; cases hbj
     simp [hne]
    have := yd9 hi hbi.1
    omega
   omega
  ·rfl
 | succ d ih =>
  intro b hb hS hd
  by_cases hT : pc (b &&& T) = rkN L T
  ·exact ⟨b, hb, hS, hT⟩
  ·have hlt : pc (b &&& T) < pc (c &&& T) := by
    have := ydl hb T
    omega
   have hcard := h.card hb hc
   have e1 := ycg b T
   have e2 := ycg c T
   obtain ⟨e, he, hbe, hce⟩ := yej (a := dif c T) (b := dif b T) (by omega)
   rw [dif_bit, Bool.and_eq_true, Bool.not_eq_true'] at hbe
   have hce' : c.testBit e = false := by
    rw [dif_bit, hbe.2] at hce
    simpa using hce
   obtain ⟨f, hf, h1, h2, hm⟩ := h.exch b hb c hc e he hbe.1 hce'
   refine ih (swp b e f) hm ?_ ?_
   ·refine Nat.le_antisymm (ydl hm S) ?_
    rw [← hS]
    refine ybT fun i _ hi => ?_
    rw [Nat.testBit_and, Bool.and_eq_true] at hi ⊢
    refine ⟨?_, hi.2⟩
    have hie : ¬ e = i := by rintro rfl; have := hST _ hi.2; rw [hbe.2] at this; cases this
    rw [swp_bit, hi.1]
    simp [hie]
   ·have e3 : dif (swp b e f) c = dif (dif b c) (2 ^ e) := by
     apply Nat.eq_of_testBit_eq
     intro i
     rw [dif_bit, swp_bit, del_bit, dif_bit]
     by_cases hi : f = i
     ·subst hi; rw [h1, h2]; simp
     ·simp [hi]
      cases b.testBit i <;> cases c.testBit i <;> simp
    rw [e3]
    have := yd9 (a := dif b c) he (by rw [dif_bit, hbe.1, hce']; rfl)
    omega
theorem Mat.both {m : Nat} {L : List Nat} (h : Mat m L) {S T : Nat} (hST : ∀ i, S.testBit i = true → T.testBit i = true) : ∃ b ∈ L, pc (b &&& S) = rkN L S ∧ pc (b &&& T) = rkN L T := by
 obtain ⟨c, hc, hcT⟩ := ydJ h.some T
 obtain ⟨b, hb, hbS⟩ := ydJ h.some S
 exact Mat.both_step h hST hc hcT _ b hb hbS rfl
theorem Mat.rk_sub {m : Nat} {L : List Nat} (h : Mat m L) (X Y : Nat) : rkN L (X ||| Y) + rkN L (X &&& Y) ≤ rkN L X + rkN L Y := by
 obtain ⟨b, hb, h1, h2⟩ := Mat.both h (S := X &&& Y) (T := X ||| Y) (fun i hi => by rw [Nat.testBit_and, Bool.and_eq_true] at hi; rw [Nat.testBit_or, hi.1]; rfl)
 have e := ydF (b &&& X) (b &&& Y)
 have e1 : (b &&& X) ||| (b &&& Y) = b &&& (X ||| Y) := by
  apply Nat.eq_of_testBit_eq
  intro i
  simp only [Nat.testBit_or, Nat.testBit_and]
  cases b.testBit i <;> cases X.testBit i <;> cases Y.testBit i <;> rfl
 have e2 : (b &&& X) &&& (b &&& Y) = b &&& (X &&& Y) := by
  apply Nat.eq_of_testBit_eq
  intro i
  simp only [Nat.testBit_and]
  cases b.testBit i <;> cases X.testBit i <;> cases Y.testBit i <;> rfl
 rw [e1, e2, h1, h2] at e
 have k1 := ydl hb X
 have k2 := ydl hb Y
 omega
structure RkF (r : Nat → Nat) : Prop where
 zero : r 0 = 0
 one : ∀ i, r (2 ^ i) ≤ 1
 mono : ∀ X Y : Nat, (∀ i, X.testBit i = true → Y.testBit i = true) → r X ≤ r Y
 sub : ∀ X Y : Nat, r (X ||| Y) + r (X &&& Y) ≤ r X + r Y
theorem Mat.rkF {m : Nat} {L : List Nat} (h : Mat m L) : RkF (rkN L) := by
 refine ⟨?_, ?_, fun X Y hXY => ydB h.some hXY, Mat.rk_sub h⟩
 ·have := ych L 0
  rw [pc_zero] at this
  omega
 ·intro i
  have h1 := ych L (2 ^ i)
  by_cases hi : i < 8
  ·rw [yee hi] at h1; exact h1
  ·have : pc (2 ^ i) ≤ pc 0 := ybT fun j hj hb => by
    rw [Nat.testBit_two_pow] at hb
    have := of_decide_eq_true hb
    omega
   rw [pc_zero] at this
   omega
theorem RkF.con {r : Nat → Nat} (h : RkF r) {e : Nat} (he : r (2 ^ e) = 1) : RkF (fun X => r (X ||| 2 ^ e) - 1) := by
 have hge : ∀ X, 1 ≤ r (X ||| 2 ^ e) := fun X => by
  have := h.mono (2 ^ e) (X ||| 2 ^ e) (fun i hi => by rw [Nat.testBit_or, hi, Bool.or_true])
  omega
 refine ⟨?_, ?_, ?_, ?_⟩
 ·show r (0 ||| 2 ^ e) - 1 = 0
  rw [Nat.zero_or, he]
 ·intro i
  have h1 := h.sub (2 ^ i) (2 ^ e)
  have h2 := h.one i
  show r (2 ^ i ||| 2 ^ e) - 1 ≤ 1
  omega
 ·intro X Y hXY
  have := h.mono (X ||| 2 ^ e) (Y ||| 2 ^ e) (fun i hi => by
   rw [Nat.testBit_or, Bool.or_eq_true] at hi ⊢
   exact hi.imp (hXY i) id)
  show r (X ||| 2 ^ e) - 1 ≤ r (Y ||| 2 ^ e) - 1
  omega
 ·intro X Y
  have h1 := h.sub (X ||| 2 ^ e) (Y ||| 2 ^ e)
  have e1 : (X ||| 2 ^ e) ||| (Y ||| 2 ^ e) = (X ||| Y) ||| 2 ^ e := by
   apply Nat.eq_of_testBit_eq
   intro i
   simp only [Nat.testBit_or]
   cases X.testBit i <;> cases Y.testBit i <;> cases (2 ^ e).testBit i <;> rfl
  have e2 : (X ||| 2 ^ e) &&& (Y ||| 2 ^ e) = (X &&& Y) ||| 2 ^ e := by
   apply Nat.eq_of_testBit_eq
   intro i
   simp only [Nat.testBit_or, Nat.testBit_and]
   cases X.testBit i <;> cases Y.testBit i <;> cases (2 ^ e).testBit i <;> rfl
  rw [e1, e2] at h1
  have g1 := hge X
  have g2 := hge Y
  have g3 := hge (X ||| Y)
  have g4 := hge (X &&& Y)
  show r ((X ||| Y) ||| 2 ^ e) - 1 + (r ((X &&& Y) ||| 2 ^ e) - 1) ≤ r (X ||| 2 ^ e) - 1 + (r (Y ||| 2 ^ e) - 1)
  omega
theorem ydx {m A i : Nat} (h : A < 2 ^ m) (hi : m ≤ i) : A.testBit i = false := Nat.testBit_lt_two_pow (Nat.lt_of_lt_of_le h (Nat.pow_le_pow_right (by omega) hi))
theorem ygt {X Y m : Nat} (h1 : ∀ i, i < m → X.testBit i = Y.testBit i) (h2 : X.testBit m = Y.testBit m) (h3 : ∀ i, m < i → X.testBit i = Y.testBit i) : X = Y := by
 apply Nat.eq_of_testBit_eq
 intro i
 rcases Nat.lt_trichotomy i m with h | h | h
 ·exact h1 i h
 ·subst h; exact h2
 ·exact h3 i h
theorem yhx : ∀ (m : Nat), m ≤ 8 → ∀ (r1 r2 : Nat → Nat), RkF r1 → RkF r2 → ∀ k : Nat, (∀ u, u < 2 ^ m → k ≤ r1 u + r2 (dif (yax m) u)) → ∃ I, I < 2 ^ m ∧ pc I ≤ r1 I ∧ pc I ≤ r2 I ∧ pc I = k := by
 intro m
 induction m with
 | zero =>
  intro _ r1 r2 h1 h2 k hk
  have := hk 0 (by decide)
  rw [show dif (yax 0) 0 = 0 from by decide, h1.zero, h2.zero] at this
  exact ⟨0, by decide, by rw [pc_zero]; exact Nat.zero_le _, by rw [pc_zero]; exact Nat.zero_le _, by rw [pc_zero]; omega⟩
 | succ m ih =>
  intro hm r1 r2 h1 h2 k hk
  cases k with
  | zero => exact ⟨0, Nat.two_pow_pos _, by rw [pc_zero]; exact Nat.zero_le _, by rw [pc_zero]; exact Nat.zero_le _, pc_zero⟩
  | succ k =>
  have hpow : 2 ^ (m + 1) = 2 ^ m + 2 ^ m := by rw [Nat.pow_succ]; omega
  have hadd : ∀ u, u < 2 ^ m → u ||| 2 ^ m < 2 ^ (m + 1) := fun u hu => Nat.or_lt_two_pow (by omega) (Nat.pow_lt_pow_right (by omega) (by omega))
  by_cases hdel : ∀ u, u < 2 ^ m → k + 1 ≤ r1 u + r2 (dif (yax m) u)
  ·obtain ⟨I, hI, k1, k2, k3⟩ := ih (by omega) r1 r2 h1 h2 (k + 1) hdel
   exact ⟨I, by omega, k1, k2, k3⟩
  obtain ⟨A, hA⟩ := Classical.not_forall.1 hdel
  obtain ⟨hA, hAk⟩ := Classical.not_imp.1 hA
  have dA1 : dif (yax (m + 1)) (A ||| 2 ^ m) = dif (yax m) A := by
   refine ygt (m := m) (fun i hi => ?_) ?_ (fun i hi => ?_) <;> simp only [dif_bit, full_bit, Nat.testBit_or, Nat.testBit_two_pow]
   ·have : ¬ m = i := by omega
    simp [this, hi, show i < m + 1 by omega]
   ·simp
   ·simp [show ¬ i < m + 1 by omega, show ¬ i < m by omega]
  have dA2 : dif (yax (m + 1)) A = dif (yax m) A ||| 2 ^ m := by
   refine ygt (m := m) (fun i hi => ?_) ?_ (fun i hi => ?_) <;> simp only [dif_bit, full_bit, Nat.testBit_or, Nat.testBit_two_pow]
   ·have : ¬ m = i := by omega
    simp [this, hi, show i < m + 1 by omega]
   ·simp [ydx hA (Nat.le_refl m)]
   ·have : ¬ m = i := by omega
    simp [show ¬ i < m + 1 by omega, show ¬ i < m by omega, this]
  have e1 : r1 (2 ^ m) = 1 := by
   have ho := h1.one m
   rcases Nat.eq_zero_or_pos (r1 (2 ^ m)) with hz | hz
   ·have hs := h1.sub A (2 ^ m)
    have hb := hk (A ||| 2 ^ m) (hadd A hA)
    rw [dA1] at hb
    omega
   ·omega
  have e2 : r2 (2 ^ m) = 1 := by
   have ho := h2.one m
   rcases Nat.eq_zero_or_pos (r2 (2 ^ m)) with hz | hz
   ·have hs := h2.sub (dif (yax m) A) (2 ^ m)
    have hb := hk A (by omega)
    rw [dA2] at hb
    omega
   ·omega
  by_cases hcon : ∀ u, u < 2 ^ m → k ≤ (r1 (u ||| 2 ^ m) - 1) + (r2 (dif (yax m) u ||| 2 ^ m) - 1)
  ·obtain ⟨I, hI, k1, k2, k3⟩ := ih (by omega) _ _ (h1.con e1) (h2.con e2) k hcon
   have hp : pc (I ||| 2 ^ m) = pc I + 1 := ydL (by omega) (ydx hI (Nat.le_refl m))
   have g1 := h1.mono (2 ^ m) (I ||| 2 ^ m) (fun i hi => by rw [Nat.testBit_or, hi, Bool.or_true])
   have g2 := h2.mono (2 ^ m) (I ||| 2 ^ m) (fun i hi => by rw [Nat.testBit_or, hi, Bool.or_true])
   have k1' : pc I ≤ r1 (I ||| 2 ^ m) - 1 := k1
   have k2' : pc I ≤ r2 (I ||| 2 ^ m) - 1 := k2
   exact ⟨I ||| 2 ^ m, hadd I hI, by omega, by omega, by omega⟩
  obtain ⟨B, hB⟩ := Classical.not_forall.1 hcon
  obtain ⟨hB, hBk⟩ := Classical.not_imp.1 hB
  have g1 := h1.mono (2 ^ m) (B ||| 2 ^ m) (fun i hi => by rw [Nat.testBit_or, hi, Bool.or_true])
  have g2 := h2.mono (2 ^ m) (dif (yax m) B ||| 2 ^ m) (fun i hi => by rw [Nat.testBit_or, hi, Bool.or_true])
  have s1 := h1.sub A (B ||| 2 ^ m)
  have s2 := h2.sub (dif (yax m) A) (dif (yax m) B ||| 2 ^ m)
  have hab : A &&& (B ||| 2 ^ m) < 2 ^ (m + 1) := Nat.lt_of_le_of_lt Nat.and_le_left (by omega)
  have hob : A ||| (B ||| 2 ^ m) < 2 ^ (m + 1) := Nat.or_lt_two_pow (by omega) (hadd B hB)
  have b1 := hk _ hob
  have b2 := hk _ hab
  have d1 : dif (yax (m + 1)) (A ||| (B ||| 2 ^ m)) = dif (yax m) A &&& (dif (yax m) B ||| 2 ^ m) := by
   refine ygt (m := m) (fun i hi => ?_) ?_ (fun i hi => ?_) <;> simp only [dif_bit, full_bit, Nat.testBit_or, Nat.testBit_and, Nat.testBit_two_pow]
   ·have : ¬ m = i := by omega
    simp [this, hi, show i < m + 1 by omega]
   ·simp
   ·simp [show ¬ i < m + 1 by omega, show ¬ i < m by omega]
  have d2 : dif (yax (m + 1)) (A &&& (B ||| 2 ^ m)) = dif (yax m) A ||| (dif (yax m) B ||| 2 ^ m) := by
   refine ygt (m := m) (fun i hi => ?_) ?_ (fun i hi => ?_) <;> simp only [dif_bit, full_bit, Nat.testBit_or, Nat.testBit_and, Nat.testBit_two_pow]
   ·have : ¬ m = i := by omega
    simp [this, hi, show i < m + 1 by omega]
   ·simp [ydx hA (Nat.le_refl m)]
   ·have : ¬ m = i := by omega
    simp [show ¬ i < m + 1 by omega, show ¬ i < m by omega, this]
  rw [d1] at b1
  rw [d2] at b2
  omega
end Go.Proofs.Ytimkekeaeojpkaa.Q
namespace Go.Proofs.Ytimkekeaeojpkaa.Q
open Go Go.RowKit Go.Proofs.YtimkekeaeojpkaaW.PrintWords Go.Proofs.YtimkekeaeojpkaaW.PrintLast Go.Proofs.YtimkekeaeojpkaaW.PrintMore Go.Proofs.Ytimkekeaeojpkaa.Z
set_option linter.unusedVariables false
set_option linter.unusedSimpArgs false
theorem yif {m a b : Nat} (ha : a < 2 ^ m) (hb : b < 2 ^ m) : a ||| b < 2 ^ m := Nat.or_lt_two_pow ha hb
theorem yii {m s i : Nat} (hs : s < 2 ^ m) (h : s.testBit i = true) : i < m := by
 refine Classical.byContradiction fun hc => ?_
 rw [ydx hs (by omega)] at h; cases h
theorem yeZ {m i : Nat} (h : i < m) : 2 ^ i < 2 ^ m := Nat.pow_lt_pow_right (by omega) h
structure Ind (m : Nat) (I : Nat → Prop) : Prop where
 size : m ≤ 8
 sets : ∀ s, I s → s < 2 ^ m
 zero : I 0
 down : ∀ s t, I t → subN s t → I s
 aug : ∀ a b, I a → I b → pc a < pc b → ∃ e, e < 8 ∧ b.testBit e = true ∧ a.testBit e = false ∧ I (a ||| 2 ^ e)
def orL (a : Nat) : List Nat → Nat
 | [] => a
 | e :: es => orL a es ||| 2 ^ e
theorem orL_bit (a i : Nat) : ∀ es : List Nat, (orL a es).testBit i = (a.testBit i || decide (i ∈ es)) := by
 intro es
 induction es with
 | nil => simp [orL]
 | cons e es ih =>
  simp only [orL]
  rw [add_bit, ih]
  by_cases h : e = i
  ·subst h; simp
  ·have : ¬ i = e := fun x => h x.symm
   simp [h, this]
theorem Mat.aug {m : Nat} {L : List Nat} (h : Mat m L) {a b : Nat} (ha : indN L a = true) (hb : indN L b = true) (hlt : pc a < pc b) : ∃ e, e < 8 ∧ b.testBit e = true ∧ a.testBit e = false ∧ indN L (a ||| 2 ^ e) = true := by
 refine Classical.byContradiction fun hc => ?_
 have hlt256 : ∀ s, indN L s = true → s < 256 := fun s hs => by
  obtain ⟨x, hx, hsub⟩ := indN_iff.1 hs
  exact Nat.lt_of_le_of_lt (ycS hsub) (h.lt x hx)
 have ra := (ycd (hlt256 a ha) h.some).2 ha
 have rb := (ycd (hlt256 b hb) h.some).2 hb
 have h1 : ∀ e, e < 8 → b.testBit e = true → rkN L (a ||| 2 ^ e) ≤ rkN L a := by
  intro e he hbe
  cases hae : a.testBit e
  ·have hn : ¬ indN L (a ||| 2 ^ e) = true := fun x => hc ⟨e, he, hbe, hae, x⟩
   have hl : a ||| 2 ^ e < 256 := Nat.or_lt_two_pow (n := 8) (hlt256 a ha) (yeZ he)
   have hne := mt (ycd hl h.some).1 hn
   have hle := ych L (a ||| 2 ^ e)
   rw [ydL he hae] at hle hne
   omega
  ·refine ydB h.some fun i hi => ?_
   rw [add_bit, Bool.or_eq_true] at hi
   rcases hi with hi | hi
   ·exact hi
   ·rw [← of_decide_eq_true hi]; exact hae
 have h2 : ∀ es : List Nat, (∀ e ∈ es, e < 8 ∧ b.testBit e = true) → rkN L (orL a es) ≤ rkN L a := by
  intro es
  induction es with
  | nil => intro _; exact Nat.le_refl _
  | cons e es ih =>
   intro hes
   have ih' := ih (fun x hx => hes x (List.mem_cons_of_mem _ hx))
   have he := hes e (List.mem_cons_self ..)
   have hs := Mat.rk_sub h (orL a es) (a ||| 2 ^ e)
   have k1 : rkN L a ≤ rkN L (orL a es &&& (a ||| 2 ^ e)) := ydB h.some fun i hi => by
    rw [Nat.testBit_and, orL_bit, add_bit, hi]; rfl
   have k2 : rkN L (orL a es ||| 2 ^ e) ≤ rkN L (orL a es ||| (a ||| 2 ^ e)) := ydB h.some fun i hi => by
    rw [Nat.testBit_or, Bool.or_eq_true] at hi ⊢
    rcases hi with hi | hi
    ·exact .inl hi
    ·right; rw [Nat.testBit_or, hi, Bool.or_true]
   have k3 := h1 e he.1 he.2
   simp only [orL]
   omega
 have h3 := h2 (els b) (fun e he => yb7.1 he)
 have h4 : rkN L b ≤ rkN L (orL a (els b)) := ydB h.some fun i hi => by
  rw [orL_bit, Bool.or_eq_true]
  right
  refine decide_eq_true (yb7.2 ⟨?_, hi⟩)
  refine Classical.byContradiction fun hc => ?_
  rw [yfg (hlt256 b hb) hc] at hi; cases hi
 omega
variable {m : Nat} {I : Nat → Prop}
theorem Ind.lt (h : Ind m I) {s : Nat} (hs : I s) : s < 256 := Nat.lt_of_lt_of_le (h.sets s hs) (yal h.size)
theorem Ind.max (h : Ind m I) : ∃ r, (∃ b, I b ∧ pc b = r) ∧ ∀ s, I s → pc s ≤ r := by
 have key : ∀ d b, I b → 8 - pc b ≤ d → ∃ r, (∃ b, I b ∧ pc b = r) ∧ ∀ s, I s → pc s ≤ r := by
  intro d
  induction d with
  | zero =>
   intro b hb hd
   refine ⟨pc b, ⟨b, hb, rfl⟩, fun s _ => ?_⟩
   have := ydm s
   have := ydm b
   omega
  | succ d ih =>
   intro b hb hd
   by_cases hx : ∃ s, I s ∧ pc b < pc s
   ·obtain ⟨s, hs, hlt⟩ := hx
    exact ih s hs (by omega)
   ·refine ⟨pc b, ⟨b, hb, rfl⟩, fun s hs => ?_⟩
    have : ¬ pc b < pc s := fun hl => hx ⟨s, hs, hl⟩
    omega
 exact key 8 0 h.zero (by omega)
theorem Ind.indN_iff (h : Ind m I) {L : List Nat} {r : Nat} (hL : ∀ b, b ∈ L ↔ I b ∧ pc b = r) (hne : ∃ b, I b ∧ pc b = r) (hmax : ∀ s, I s → pc s ≤ r) (s : Nat) : indN L s = true ↔ I s := by
 constructor
 ·intro hs
  obtain ⟨x, hx, hsub⟩ := Z.indN_iff.1 hs
  exact h.down s x ((hL x).1 hx).1 hsub
 ·obtain ⟨b, ib, pb⟩ := hne
  have key : ∀ d s, I s → r - pc s ≤ d → ∃ x, x ∈ L ∧ subN s x := by
   intro d
   induction d with
   | zero =>
    intro s hs hd
    have := hmax s hs
    exact ⟨s, (hL s).2 ⟨hs, by omega⟩, yeT s⟩
   | succ d ih =>
    intro s hs hd
    by_cases he : pc s = r
    ·exact ⟨s, (hL s).2 ⟨hs, he⟩, yeT s⟩
    ·have := hmax s hs
     obtain ⟨e, he8, h1, h2, h3⟩ := h.aug s b hs ib (by omega)
     obtain ⟨x, hx, hsub⟩ := ih _ h3 (by rw [ydL he8 h2]; omega)
     refine ⟨x, hx, yf7 (ya4.2 fun i hi => ?_) hsub⟩
     rw [add_bit, hi, Bool.true_or]
  intro hs
  obtain ⟨x, hx, hsub⟩ := key _ s hs (Nat.le_refl _)
  exact Z.indN_iff.2 ⟨x, hx, hsub⟩
theorem ycD {x y : Nat} (h : x &&& y = 0) : pc (x ||| y) = pc x + pc y := by
 have := ydF x y
 rw [h, pc_zero] at this
 omega
theorem yfL {x y i : Nat} (h : x &&& y = 0) (hx : x.testBit i = true) : y.testBit i = false := by
 have := congrArg (fun z => Nat.testBit z i) h
 simp only [Nat.testBit_and, hx, Bool.true_and, Nat.zero_testBit] at this
 exact this
def Uni (I J : Nat → Prop) (s : Nat) : Prop := ∃ x y, I x ∧ J y ∧ s = x ||| y
theorem Uni.disj {I J : Nat → Prop} (hJ : ∀ s t, J t → subN s t → J s) {s : Nat} (h : Uni I J s) : ∃ x y, I x ∧ J y ∧ s = x ||| y ∧ x &&& y = 0 := by
 obtain ⟨x, y, hx, hy, rfl⟩ := h
 refine ⟨x, dif y x, hx, hJ _ y hy (ya4.2 fun i hi => by rw [dif_bit, Bool.and_eq_true] at hi; exact hi.1), ?_, ?_⟩
 ·apply Nat.eq_of_testBit_eq
  intro i
  rw [Nat.testBit_or, Nat.testBit_or, dif_bit]
  cases x.testBit i <;> cases y.testBit i <;> rfl
 ·apply Nat.eq_of_testBit_eq
  intro i
  rw [Nat.testBit_and, dif_bit, Nat.zero_testBit]
  cases x.testBit i <;> cases y.testBit i <;> rfl
theorem yf5 {I J : Nat → Prop} (hI : Ind m I) (hJ : Ind m J) {b1 b2 : Nat} (ib1 : I b1) (ib2 : J b2) (hb : b1 &&& b2 = 0) : ∀ (n a1 a2 : Nat), I a1 → J a2 → a1 &&& a2 = 0 → pc (a1 ||| a2) < pc (b1 ||| b2) → 16 ≤ n + (pc (a1 &&& b1) + pc (a2 &&& b2)) → ∃ e, e < 8 ∧ (b1 ||| b2).testBit e = true ∧ (a1 ||| a2).testBit e = false ∧ Uni I J ((a1 ||| a2) ||| 2 ^ e) := by
 intro n
 induction n with
 | zero =>
  intro a1 a2 i1 i2 hd hlt hn
  have k1 := ycR b1 a1
  have k2 := ycR b2 a2
  rw [Nat.and_comm] at k1 k2
  have := ycD hd
  have := ycD hb
  have h8 := ydm (b1 ||| b2)
  omega
 | succ n ih =>
  intro a1 a2 i1 i2 hd hlt hn
  have ea := ycD hd
  have eb := ycD hb
  by_cases hc : pc a1 < pc b1
  ·obtain ⟨e, he, h1, h2, h3⟩ := hI.aug a1 b1 i1 ib1 hc
   cases h4 : a2.testBit e
   ·refine ⟨e, he, by rw [Nat.testBit_or, h1, Bool.true_or], by rw [Nat.testBit_or, h2, h4]; rfl, a1 ||| 2 ^ e, a2, h3, i2, ?_⟩
    apply Nat.eq_of_testBit_eq
    intro i
    simp only [Nat.testBit_or]
    cases a1.testBit i <;> cases a2.testBit i <;> cases (2 ^ e).testBit i <;> rfl
   ·have eu : (a1 ||| 2 ^ e) ||| dif a2 (2 ^ e) = a1 ||| a2 := by
     apply Nat.eq_of_testBit_eq
     intro i
     rw [Nat.testBit_or, add_bit, del_bit, Nat.testBit_or]
     by_cases hi : e = i
     ·subst hi; rw [h4]; simp
     ·simp [hi]
    have := ih (a1 ||| 2 ^ e) (dif a2 (2 ^ e)) h3 (hJ.down _ a2 i2 (ya4.2 fun i hi => by rw [del_bit, Bool.and_eq_true] at hi; exact hi.1)) (by
      apply Nat.eq_of_testBit_eq
      intro i
      rw [Nat.testBit_and, add_bit, del_bit, Nat.zero_testBit]
      by_cases hi : e = i
      ·subst hi; simp
      ·have hx := congrArg (fun z => Nat.testBit z i) hd
       simp only [Nat.testBit_and, Nat.zero_testBit] at hx
       simp [hi, hx]) (by rw [eu]; exact hlt) (by
      have k1 : pc ((a1 ||| 2 ^ e) &&& b1) = pc (a1 &&& b1) + 1 := by
       rw [← ydL (a := a1 &&& b1) he (by rw [Nat.testBit_and, h2]; rfl)]
       congr 1
       apply Nat.eq_of_testBit_eq
       intro i
       rw [Nat.testBit_and, add_bit, add_bit, Nat.testBit_and]
       by_cases hi : e = i
       ·subst hi; rw [h1]; simp
       ·simp [hi]
      have k2 : dif a2 (2 ^ e) &&& b2 = a2 &&& b2 := by
       apply Nat.eq_of_testBit_eq
       intro i
       rw [Nat.testBit_and, del_bit, Nat.testBit_and]
       by_cases hi : e = i
       ·subst hi; rw [yfL hb h1]; simp
       ·simp [hi]
      rw [k1, k2]; omega)
    rw [eu] at this
    exact this
  ·have hc2 : pc a2 < pc b2 := by omega
   obtain ⟨e, he, h1, h2, h3⟩ := hJ.aug a2 b2 i2 ib2 hc2
   have hb' : b2 &&& b1 = 0 := by rw [Nat.and_comm]; exact hb
   cases h4 : a1.testBit e
   ·refine ⟨e, he, by rw [Nat.testBit_or, h1, Bool.or_true], by rw [Nat.testBit_or, h2, h4]; rfl, a1, a2 ||| 2 ^ e, i1, h3, ?_⟩
    apply Nat.eq_of_testBit_eq
    intro i
    simp only [Nat.testBit_or]
    cases a1.testBit i <;> cases a2.testBit i <;> cases (2 ^ e).testBit i <;> rfl
   ·have eu : dif a1 (2 ^ e) ||| (a2 ||| 2 ^ e) = a1 ||| a2 := by
     apply Nat.eq_of_testBit_eq
     intro i
     rw [Nat.testBit_or, add_bit, del_bit, Nat.testBit_or]
     by_cases hi : e = i
     ·subst hi; rw [h4]; simp
     ·simp [hi]
    have := ih (dif a1 (2 ^ e)) (a2 ||| 2 ^ e) (hI.down _ a1 i1 (ya4.2 fun i hi => by rw [del_bit, Bool.and_eq_true] at hi; exact hi.1)) h3 (by
      apply Nat.eq_of_testBit_eq
      intro i
      rw [Nat.testBit_and, add_bit, del_bit, Nat.zero_testBit]
      by_cases hi : e = i
      ·subst hi; simp
      ·have hx := congrArg (fun z => Nat.testBit z i) hd
       simp only [Nat.testBit_and, Nat.zero_testBit] at hx
       simp [hi, hx]) (by rw [eu]; exact hlt) (by
      have k1 : pc ((a2 ||| 2 ^ e) &&& b2) = pc (a2 &&& b2) + 1 := by
       rw [← ydL (a := a2 &&& b2) he (by rw [Nat.testBit_and, h2]; rfl)]
       congr 1
       apply Nat.eq_of_testBit_eq
       intro i
       rw [Nat.testBit_and, add_bit, add_bit, Nat.testBit_and]
       by_cases hi : e = i
       ·subst hi; rw [h1]; simp
       ·simp [hi]
      have k2 : dif a1 (2 ^ e) &&& b1 = a1 &&& b1 := by
       apply Nat.eq_of_testBit_eq
       intro i
       rw [Nat.testBit_and, del_bit, Nat.testBit_and]
       by_cases hi : e = i
       ·subst hi; rw [yfL hb' h1]; simp
       ·simp [hi]
      rw [k1, k2]; omega)
    rw [eu] at this
    exact this
theorem Ind.union {I J : Nat → Prop} (hI : Ind m I) (hJ : Ind m J) : Ind m (Uni I J) := by
 refine ⟨hI.size, ?_, ?_, ?_, ?_⟩
 ·rintro s ⟨x, y, hx, hy, rfl⟩
  exact yif (hI.sets x hx) (hJ.sets y hy)
 ·exact ⟨0, 0, hI.zero, hJ.zero, rfl⟩
 ·rintro s t ⟨x, y, hx, hy, rfl⟩ hst
  refine ⟨x &&& s, y &&& s, hI.down _ x hx (ya4.2 fun i hi => by rw [Nat.testBit_and, Bool.and_eq_true] at hi; exact hi.1), hJ.down _ y hy (ya4.2 fun i hi => by rw [Nat.testBit_and, Bool.and_eq_true] at hi; exact hi.1), ?_⟩
  apply Nat.eq_of_testBit_eq
  intro i
  have h1 := ya4.1 hst i
  rw [Nat.testBit_or] at h1
  rw [Nat.testBit_or, Nat.testBit_and, Nat.testBit_and]
  cases hs : s.testBit i
  ·simp
  ·rw [hs] at h1; simpa using (h1 rfl).symm
 ·intro a b ha hb hlt
  obtain ⟨a1, a2, i1, i2, rfl, hd⟩ := Uni.disj hJ.down ha
  obtain ⟨b1, b2, j1, j2, rfl, hd'⟩ := Uni.disj hJ.down hb
  exact yf5 hI hJ j1 j2 hd' 16 a1 a2 i1 i2 hd hlt (by omega)
def One (S s : Nat) : Prop := s = 0 ∨ ∃ e, e < 8 ∧ S.testBit e = true ∧ s = 2 ^ e
theorem Ind.one {S : Nat} (hm : m ≤ 8) (hS : S < 2 ^ m) : Ind m (One S) := by
 refine ⟨hm, ?_, .inl rfl, ?_, ?_⟩
 ·rintro s (rfl | ⟨e, he, h1, rfl⟩)
  ·exact Nat.two_pow_pos _
  ·exact yeZ (yii hS h1)
 ·rintro s t (rfl | ⟨e, he, h1, rfl⟩) hst
  ·left
   have := ycS hst
   omega
  ·cases hb : s.testBit e
   ·left
    apply Nat.eq_of_testBit_eq
    intro i
    rw [Nat.zero_testBit]
    cases hi : s.testBit i
    ·rfl
    ·have := ya4.1 hst i hi
     rw [Nat.testBit_two_pow] at this
     rw [of_decide_eq_true this, hi] at hb; cases hb
   ·right
    refine ⟨e, he, h1, ?_⟩
    apply Nat.eq_of_testBit_eq
    intro i
    rw [Nat.testBit_two_pow]
    by_cases hi : e = i
    ·subst hi; rw [hb]; simp
    ·rw [decide_eq_false hi]
     cases hs : s.testBit i
     ·rfl
     ·have := ya4.1 hst i hs
      rw [Nat.testBit_two_pow] at this
      exact absurd (of_decide_eq_true this) hi
 ·rintro a b (rfl | ⟨e, he, h1, rfl⟩) hb hlt
  ·rcases hb with rfl | ⟨f, hf, h2, rfl⟩
   ·omega
   ·exact ⟨f, hf, by rw [Nat.testBit_two_pow]; simp, Nat.zero_testBit _, by rw [Nat.zero_or]; exact .inr ⟨f, hf, h2, rfl⟩⟩
  ·rw [yee he] at hlt
   rcases hb with rfl | ⟨f, hf, h2, rfl⟩
   ·rw [pc_zero] at hlt; omega
   ·rw [yee hf] at hlt; omega
end Go.Proofs.Ytimkekeaeojpkaa.Q
namespace Go.Proofs.Ytimkekeaeojpkaa.Q
open Go Go.RowKit Go.Proofs.YtimkekeaeojpkaaW.PrintWords Go.Proofs.YtimkekeaeojpkaaW.PrintLast Go.Proofs.YtimkekeaeojpkaaW.PrintMore Go.Proofs.Ytimkekeaeojpkaa.Z
set_option linter.unusedVariables false
set_option linter.unusedSimpArgs false
theorem yf8 {l : List Int} {a b : Nat} : ∀ {es : List Nat}, ycs l a b es = none → ∀ e ∈ es, ydT l a b e = true := by
 intro es
 induction es with
 | nil => intro _ e he; simp at he
 | cons x es ih =>
  intro h e he
  simp only [ycs] at h
  by_cases hx : ydT l a b x = true
  ·rw [if_pos hx] at h
   rcases List.mem_cons.1 he with rfl | he
   ·exact hx
   ·exact ih h e he
  ·rw [if_neg hx] at h; cases h
theorem yfZ {l : List Int} {a : Nat} : ∀ {bs : List Nat}, ycy l a bs = none → ∀ b ∈ bs, ycs l a b (els (dif a b)) = none := by
 intro bs
 induction bs with
 | nil => intro _ e he; simp at he
 | cons x bs ih =>
  intro h b hb
  simp only [ycy] at h
  cases hx : ycs l a x (els (dif a x)) with
  | none =>
   rw [hx] at h
   rcases List.mem_cons.1 hb with rfl | hb
   ·exact hx
   ·exact ih h b hb
  | some e => rw [hx] at h; cases h
theorem yge {l : List Int} {L : List Nat} : ∀ {la : List Nat}, ycJ l L la = none → ∀ a ∈ la, ycy l a L = none := by
 intro la
 induction la with
 | nil => intro _ e he; simp at he
 | cons x la ih =>
  intro h b hb
  simp only [ycJ] at h
  cases hx : ycy l x L with
  | none =>
   rw [hx] at h
   rcases List.mem_cons.1 hb with rfl | hb
   ·exact hx
   ·exact ih h b hb
  | some e => rw [hx] at h; cases h
theorem yex {L : List Nat} {x : Nat} : (ints L).contains (x : Int) = true ↔ x ∈ L := by
 rw [List.contains_iff_mem]
 unfold ints
 rw [List.mem_map]
 constructor
 ·rintro ⟨y, hy, he⟩
  have : y = x := by omega
  subst this; exact hy
 ·intro h; exact ⟨x, h, rfl⟩
theorem yfW {n : Int} {l : List Int} (h : matB n l = true) : ∃ (m : Nat) (L : List Nat), n = m ∧ l = ints L ∧ Mat m L ∧ L.Pairwise (· < ·) := by
 have h0 := h
 obtain ⟨m, L, rfl, hm, rfl, hL, hL256, hp, hne⟩ := yb4 h
 refine ⟨m, L, rfl, rfl, ⟨hm, hL, hne, ?_⟩, hp⟩
 simp only [matB, Bool.and_eq_true] at h0
 obtain ⟨hf, _, hff⟩ := h0
 unfold yeX at hff
 rw [if_pos hf, show (ints L).map Int.toNat = L from yat L] at hff
 cases hA : ycJ (ints L) L L with
 | some x => rw [hA] at hff; simp [told] at hff
 | none =>
  intro a ha b hb e he hae hbe
  have h1 := yf8 (yfZ (yge hA a ha) b hb) e (yb7.2 ⟨he, by rw [dif_bit, hae, hbe]; rfl⟩)
  unfold ydT at h1
  obtain ⟨f, hf', hc⟩ := List.any_eq_true.1 h1
  obtain ⟨hf8, hfb⟩ := yb7.1 hf'
  rw [dif_bit] at hfb
  simp only [Bool.and_eq_true, Bool.not_eq_true'] at hfb
  exact ⟨f, hf8, hfb.1, hfb.2, yex.1 hc⟩
end Go.Proofs.Ytimkekeaeojpkaa.Q
namespace Go.Proofs.Ytimkekeaeojpkaa.Q
open Go Go.RowKit Go.Proofs.YtimkekeaeojpkaaW.PrintWords Go.Proofs.YtimkekeaeojpkaaW.PrintLast Go.Proofs.YtimkekeaeojpkaaW.PrintMore Go.Proofs.Ytimkekeaeojpkaa.Z
set_option linter.unusedVariables false
set_option linter.unusedSimpArgs false
def topN (F : List Nat) : List Nat := F.filter (fun s => !F.any (fun t => decide (t ≠ s) && decide (subN s t)))
variable {m : Nat} {I : Nat → Prop} {p : Nat → Bool}
theorem yhM (hI : Ind m I) (hp : ∀ s, p s = true ↔ I s) {r : Nat} (hex : ∃ b, I b ∧ pc b = r) (hmax : ∀ s, I s → pc s ≤ r) : topN ((List.range (2 ^ m)).filter p) = (List.range (2 ^ m)).filter (fun s => p s && decide (pc s = r)) := by
 unfold topN
 rw [List.filter_filter]
 apply List.filter_congr
 intro s hs
 rw [Bool.eq_iff_iff, Bool.and_eq_true, Bool.and_eq_true, Bool.not_eq_true', decide_eq_true_eq]
 constructor
 ·rintro ⟨h1, h2⟩
  have hIs := (hp s).1 h2
  refine ⟨h2, ?_⟩
  refine Classical.byContradiction fun hne => ?_
  obtain ⟨b, hb, hr⟩ := hex
  have := hmax s hIs
  obtain ⟨e, he, k1, k2, k3⟩ := hI.aug s b hIs hb (by omega)
  rw [Bool.eq_false_iff] at h1
  apply h1
  rw [List.any_eq_true]
  refine ⟨s ||| 2 ^ e, List.mem_filter.2 ⟨List.mem_range.2 (hI.sets _ k3), (hp _).2 k3⟩, ?_⟩
  rw [Bool.and_eq_true, decide_eq_true_eq, decide_eq_true_eq]
  refine ⟨fun he' => ?_, ya4.2 fun i hi => by rw [add_bit, hi]; rfl⟩
  have := congrArg (fun x => Nat.testBit x e) he'
  simp only [add_bit, k2] at this
  simp at this
 ·rintro ⟨h1, h2⟩
  refine ⟨?_, h1⟩
  rw [Bool.eq_false_iff]
  intro hany
  obtain ⟨t, ht, hc⟩ := List.any_eq_true.1 hany
  obtain ⟨ht1, ht2⟩ := List.mem_filter.1 ht
  rw [Bool.and_eq_true, decide_eq_true_eq, decide_eq_true_eq] at hc
  have hIt := (hp t).1 ht2
  have hIs := (hp s).1 h1
  have hle := hmax t hIt
  exact hc.1 (yhr (hI.lt hIs) (hI.lt hIt) hc.2 (by omega)).symm
end Go.Proofs.Ytimkekeaeojpkaa.Q
namespace Go.Proofs.Ytimkekeaeojpkaa.Q
open Go Go.RowKit Go.Proofs.Ytimkekeaeojpkaa.A Go.Proofs.YtimkekeaeojpkaaW.PrintWords Go.Proofs.YtimkekeaeojpkaaW.PrintLast Go.Proofs.YtimkekeaeojpkaaW.PrintMore Go.Proofs.Ytimkekeaeojpkaa.Z
set_option linter.unusedVariables false
set_option linter.unusedSimpArgs false
def ye1 (n : Int) (l : List Int) : Bool := l.all (ybw n)
def ybI (n : Int) (l : List Int) : Bool := (decide (0 ≤ n) && decide (n ≤ 8)) && (decide (l.length ≤ 6) && ye1 n l)
theorem ydU (n : Int) (l : List Int) (hl : l.length ≤ 17592186044416) : Ev (fun k => yP.f k n l) (ye1 n l) := by
 have h := down (P := fun i => Ev (fun k => yP.l0 k n l (i : Int)) (ye1 n (l.drop i))) l.length
  (by
   apply Ev.step
   ·intro k
    simp only [yP.l0, specIsSet_eq, Option.bind_some]
    rw [if_neg (by omega)]
   ·rw [ybl]; exact Ev.now _)
  (by
   intro i hi ih
   apply Ev.step
   ·intro k
    simp only [yP.l0, specIsSet_eq, Option.bind_some]
    rw [if_pos (by omega), if_pos (by omega), yaR l i hi, yay hi hl]
   ·rw [yaS l i hi]
    simp only [ye1, List.all_cons]
    by_cases hx : ybw n l[i] = true
    ·refine Ev.ifp hx ?_
     rw [hx, Bool.true_and]; exact ih
    ·refine Ev.ifn hx ?_
     rw [Bool.eq_false_iff.2 hx, Bool.false_and]; exact Ev.now _)
 exact h
theorem ydV (n : Int) (l : List Int) (hl : l.length ≤ 17592186044416) : Ev (fun k => ybt.f k n l) (ybI n l) := by
 unfold ybt.f ybI
 refine Ev.cbind (l1In_eq _ _ _) ?_
 by_cases h : (decide (0 ≤ n) && decide (n ≤ 8)) = true
 ·refine Ev.ifp h ?_
  rw [h, Bool.true_and]
  by_cases h6 : (l.length : Int) ≤ 6
  ·refine Ev.ifp h6 ?_
   rw [show decide (l.length ≤ 6) = true from by simp; omega, Bool.true_and]
   exact Ev.bind (ydU n l hl) (Ev.now _)
  ·refine Ev.ifn h6 ?_
   rw [show decide (l.length ≤ 6) = false from by simp; omega, Bool.false_and]
   exact Ev.now _
 ·refine Ev.ifn h ?_
  rw [Bool.eq_false_iff.2 h, Bool.false_and]
  exact Ev.now _
end Go.Proofs.Ytimkekeaeojpkaa.Q
namespace Go.Proofs.Ytimkekeaeojpkaa.Q
open Go Go.RowKit Go.Proofs.Ytimkekeaeojpkaa.A Go.Proofs.YtimkekeaeojpkaaW.PrintWords Go.Proofs.YtimkekeaeojpkaaW.PrintLast Go.Proofs.YtimkekeaeojpkaaW.PrintMore Go.Proofs.Ytimkekeaeojpkaa.Z
set_option linter.unusedVariables false
set_option linter.unusedSimpArgs false
def asgT (sets list : List Int) (used : List Int) (k : Nat) : Bool := !(used.contains (k : Int)) && (rd sets (k : Int)).toNat.testBit (rd list (used.length : Int)).toNat
def asgL (rec : List Int → List Int × Bool) (sets list : List Int) (used : List Int) : List Nat → List Int × Bool
 | [] => ([], false)
 | k :: ks => if asgT sets list used k = true then (if (rec (used ++ [(k : Int)])).2 = true then ((rec (used ++ [(k : Int)])).1, true) else asgL rec sets list used ks) else asgL rec sets list used ks
def asg (sets list : List Int) : Nat → List Int → List Int × Bool
 | 0, used => (used, true)
 | d + 1, used => asgL (asg sets list d) sets list used (List.range sets.length)
theorem ygO {sets : List Int} (hm : ∀ x ∈ sets, ∃ t : Nat, x = t ∧ t < 256) {i : Nat} (hi : i < sets.length) : ∃ t : Nat, rd sets (i : Int) = t ∧ t < 256 := by
 rw [yaR sets i hi]
 exact hm _ (List.getElem_mem hi)
theorem yih {list : List Int} (hm : ∀ x ∈ list, ∃ e : Nat, x = e ∧ e < 8) {i : Nat} (hi : i < list.length) : ∃ e : Nat, rd list (i : Int) = e ∧ e < 8 := by
 rw [yaR list i hi]
 exact hm _ (List.getElem_mem hi)
theorem yeI (sets list : List Int) (hs : sets.length ≤ 6) (hsm : ∀ x ∈ sets, ∃ t : Nat, x = t ∧ t < 256) (hll : list.length ≤ 8) (hlm : ∀ x ∈ list, ∃ e : Nat, x = e ∧ e < 8) :
  ∀ (d : Nat) (used : List Int), used.length + d = list.length → Ev (fun k => yv.f k sets list used) (asg sets list d used) := by
 intro d
 induction d with
 | zero =>
  intro used hu
  apply Ev.step
  ·intro k
   simp only [yv.f]
   rw [if_pos (by omega)]
  ·exact Ev.now _
 | succ d ihd =>
  intro used hu
  apply Ev.step
  ·intro k
   simp only [yv.f]
   rw [if_neg (by omega)]
  ·have h := down (P := fun i => Ev (fun k => yv.l0 k sets list used (i : Int)) (asgL (asg sets list d) sets list used (List.range' i (sets.length - i)))) sets.length
    (by
     apply Ev.step
     ·intro k
      simp only [yv.l0]
      rw [if_neg (by omega)]
     ·rw [Nat.sub_self]; exact Ev.now _)
    (by
     intro i hi ih
     rw [ybR hi]
     obtain ⟨t, ht, ht256⟩ := ygO hsm hi
     obtain ⟨e, he, he8⟩ := yih hlm (show used.length < list.length by omega)
     have hT : asgT sets list used i = (!(used.contains (i : Int)) && t.testBit e) := by
      unfold asgT; rw [ht, he, Int.toNat_natCast, Int.toNat_natCast]
     have hih : Ev (fun k => yv.l0 k sets list used (wrap64 ((i : Int) + 1))) (asgL (asg sets list d) sets list used (List.range' (i + 1) (sets.length - (i + 1)))) := by
      rw [yay hi (by omega)]; exact ih
     apply Ev.step
     ·intro k
      simp only [yv.l0]
      rw [if_pos (by omega)]
     ·refine Ev.bind (yc3 used _ (by omega)) ?_
      by_cases hc : used.contains (i : Int) = true
      ·refine Ev.ifp hc ?_
       simp only [asgL]
       rw [hT, hc, if_neg (by simp)]
       apply Ev.step
       ·intro k
        rw [yv.j1]
       ·exact Ev.ifp rfl hih
      ·refine Ev.ifn hc (Ev.ifp (by omega) (Ev.ifp (by omega) (Ev.ifp (by omega) ?_)))
       refine Ev.cbind (a := t.testBit e) (by rw [ht, he]; exact yb2 (yas ht256) (by omega)) ?_
       simp only [asgL]
       rw [hT, Bool.eq_false_iff.2 hc]
       cases hb : t.testBit e with
       | false =>
        rw [if_neg (by simp)]
        apply Ev.step
        ·intro k
         rw [yv.j1]
        ·exact Ev.ifp rfl hih
       | true =>
        rw [if_pos (by simp)]
        apply Ev.step
        ·intro k
         rw [yv.j1]
        ·refine Ev.ifn (by simp) (Ev.cbind rfl (Ev.ifp (by simp; omega) (Ev.cbind rfl (Ev.ifp (by simp; omega) ?_))))
         refine Ev.bind (ihd (used ++ [(i : Int)]) (by simp; omega)) ?_
         by_cases h2 : (asg sets list d (used ++ [(i : Int)])).2 = true
         ·rw [if_pos h2]; exact Ev.ifp h2 (Ev.now _)
         ·rw [if_neg h2]; exact Ev.ifn h2 hih)
   rw [Nat.sub_zero, ← List.range_eq_range'] at h
   exact h
theorem ygh (s : Int) : ∀ x ∈ elsB s, ∃ e : Nat, x = e ∧ e < 8 := fun x hx => by
 obtain ⟨e, h1, h2, _⟩ := yhq hx
 exact ⟨e, h1, h2⟩
end Go.Proofs.Ytimkekeaeojpkaa.Q
namespace Go.Proofs.Ytimkekeaeojpkaa.Q
open Go Go.RowKit Go.Proofs.YtimkekeaeojpkaaW.PrintWords Go.Proofs.YtimkekeaeojpkaaW.PrintLast Go.Proofs.YtimkekeaeojpkaaW.PrintMore Go.Proofs.Ytimkekeaeojpkaa.Z
set_option linter.unusedVariables false
set_option linter.unusedSimpArgs false
def TP : List Nat → Nat → Prop
 | [], s => s = 0
 | x :: S, s => Uni (TP S) (One x) s
theorem yhP {m : Nat} (hm : m ≤ 8) : Ind m (fun s => s = 0) := by
 refine ⟨hm, ?_, rfl, ?_, ?_⟩
 ·rintro s rfl; exact Nat.two_pow_pos _
 ·rintro s t rfl h; have := ycS h; omega
 ·rintro a b rfl rfl h; omega
theorem Ind.trans {m : Nat} (hm : m ≤ 8) : ∀ S : List Nat, (∀ x ∈ S, x < 2 ^ m) → Ind m (TP S) := by
 intro S
 induction S with
 | nil => intro _; exact yhP hm
 | cons x S ih => intro h; exact (ih (fun y hy => h y (List.mem_cons_of_mem _ hy))).union (Ind.one hm (h x (List.mem_cons_self ..)))
def MTz : List Nat → List Nat → Prop
 | _, [] => True
 | S, e :: es => ∃ k, k < S.length ∧ (S.getD k 0).testBit e = true ∧ MTz (S.set k 0) es
theorem One.zero {s : Nat} : One 0 s ↔ s = 0 := by
 constructor
 ·rintro (h | ⟨e, _, h, _⟩)
  ·exact h
  ·rw [Nat.zero_testBit] at h; cases h
 ·intro h; exact .inl h
theorem yin {e : Nat} (he : e < 8) : ∀ (S : List Nat) (k t : Nat), k < S.length → (S.getD k 0).testBit e = true → TP (S.set k 0) t → TP S (t ||| 2 ^ e) := by
 intro S
 induction S with
 | nil => intro k t hk; simp at hk
 | cons x S ih =>
  intro k t hk hb ht
  cases k with
  | zero =>
   rw [List.set_cons_zero] at ht
   obtain ⟨y, z, hy, hz, rfl⟩ := ht
   have := One.zero.1 hz
   subst this
   exact ⟨y, 2 ^ e, hy, .inr ⟨e, he, hb, rfl⟩, by rw [Nat.or_zero]⟩
  | succ k =>
   rw [List.set_cons_succ] at ht
   obtain ⟨y, z, hy, hz, rfl⟩ := ht
   refine ⟨y ||| 2 ^ e, z, ih k y (by simpa using hk) hb hy, hz, ?_⟩
   apply Nat.eq_of_testBit_eq
   intro i
   simp only [Nat.testBit_or]
   cases y.testBit i <;> cases z.testBit i <;> cases (2 ^ e).testBit i <;> rfl
theorem yhU : ∀ (S : List Nat) (s t : Nat), TP S t → subN s t → TP S s := by
 intro S
 induction S with
 | nil => rintro s t rfl h; exact Nat.le_zero.1 (ycS h)
 | cons x S ih =>
  rintro s t ⟨y, z, hy, hz, rfl⟩ h
  refine ⟨y &&& s, z &&& s, ih _ y hy (ya4.2 fun i hi => by rw [Nat.testBit_and, Bool.and_eq_true] at hi; exact hi.1), ?_, ?_⟩
  ·rcases hz with rfl | ⟨e, he, hb, rfl⟩
   ·left; exact Nat.zero_and _
   ·cases hs : s.testBit e
    ·left
     apply Nat.eq_of_testBit_eq
     intro i
     rw [Nat.testBit_and, Nat.testBit_two_pow, Nat.zero_testBit]
     by_cases hi : e = i
     ·subst hi; rw [hs]; simp
     ·simp [hi]
    ·right
     refine ⟨e, he, hb, ?_⟩
     apply Nat.eq_of_testBit_eq
     intro i
     rw [Nat.testBit_and, Nat.testBit_two_pow]
     by_cases hi : e = i
     ·subst hi; rw [hs]; simp
     ·simp [hi]
  ·apply Nat.eq_of_testBit_eq
   intro i
   have h1 := ya4.1 h i
   rw [Nat.testBit_or] at h1
   rw [Nat.testBit_or, Nat.testBit_and, Nat.testBit_and]
   cases hs : s.testBit i
   ·simp
   ·rw [hs] at h1; simpa using (h1 rfl).symm
theorem yhN {e : Nat} : ∀ (S : List Nat) (u : Nat), TP S u → u.testBit e = true → ∃ k, k < S.length ∧ (S.getD k 0).testBit e = true ∧ TP (S.set k 0) (dif u (2 ^ e)) := by
 intro S
 induction S with
 | nil => rintro u rfl h; rw [Nat.zero_testBit] at h; cases h
 | cons x S ih =>
  rintro u ⟨y, z, hy, hz, rfl⟩ h
  by_cases hze : z.testBit e = true
  ·have hzz : z = 2 ^ e ∧ x.testBit e = true := by
    rcases hz with rfl | ⟨f, hf, hb, rfl⟩
    ·rw [Nat.zero_testBit] at hze; cases hze
    ·rw [Nat.testBit_two_pow] at hze
     have := of_decide_eq_true hze
     subst this; exact ⟨rfl, hb⟩
   refine ⟨0, by simp, hzz.2, ?_⟩
   rw [List.set_cons_zero]
   refine ⟨dif y (2 ^ e), 0, yhU S _ y hy (ya4.2 fun i hi => by rw [del_bit, Bool.and_eq_true] at hi; exact hi.1), .inl rfl, ?_⟩
   rw [hzz.1]
   apply Nat.eq_of_testBit_eq
   intro i
   simp only [dif_bit, Nat.testBit_or, Nat.zero_testBit]
   cases y.testBit i <;> cases (2 ^ e).testBit i <;> rfl
  ·have hze' := Bool.eq_false_iff.2 hze
   rw [Nat.testBit_or, hze', Bool.or_false] at h
   obtain ⟨k, hk, hb, ht⟩ := ih y hy h
   refine ⟨k + 1, by simpa using hk, by simpa using hb, ?_⟩
   rw [List.set_cons_succ]
   refine ⟨dif y (2 ^ e), z, ht, hz, ?_⟩
   apply Nat.eq_of_testBit_eq
   intro i
   rw [del_bit, Nat.testBit_or, Nat.testBit_or, del_bit]
   by_cases hi : e = i
   ·subst hi; rw [hze']; simp
   ·simp [hi]
theorem yix : ∀ (es S : List Nat), es.Nodup → (∀ e ∈ es, e < 8) → (MTz S es ↔ TP S (orL 0 es)) := by
 intro es
 induction es with
 | nil =>
  intro S _ _
  refine ⟨fun _ => ?_, fun _ => trivial⟩
  have : ∀ S : List Nat, TP S 0 := by
   intro S
   induction S with
   | nil => rfl
   | cons x S ih => exact ⟨0, 0, ih, .inl rfl, rfl⟩
  exact this S
 | cons e es ih =>
  intro S hnd h8
  rw [List.nodup_cons] at hnd
  have ihS := fun S => ih S hnd.2 (fun x hx => h8 x (List.mem_cons_of_mem _ hx))
  have he := h8 e (List.mem_cons_self ..)
  simp only [MTz, orL]
  constructor
  ·rintro ⟨k, hk, hb, hm⟩
   exact yin he S k _ hk hb ((ihS _).1 hm)
  ·intro ht
   obtain ⟨k, hk, hb, h2⟩ := yhN (e := e) S _ ht (by rw [add_bit]; simp)
   refine ⟨k, hk, hb, (ihS _).2 ?_⟩
   have : dif (orL 0 es ||| 2 ^ e) (2 ^ e) = orL 0 es := by
    apply Nat.eq_of_testBit_eq
    intro i
    rw [del_bit, add_bit, orL_bit]
    by_cases hi : e = i
    ·subst hi; simp [hnd.1]
    ·simp [hi]
   rw [this] at h2; exact h2
theorem yh4 (rec : List Int → List Int × Bool) (sets list used : List Int) : ∀ ks : List Nat, (asgL rec sets list used ks).2 = true ↔ ∃ k ∈ ks, asgT sets list used k = true ∧ (rec (used ++ [(k : Int)])).2 = true := by
 intro ks
 induction ks with
 | nil => simp [asgL]
 | cons k ks ih =>
  simp only [asgL]
  by_cases h1 : asgT sets list used k = true
  ·rw [if_pos h1]
   by_cases h2 : (rec (used ++ [(k : Int)])).2 = true
   ·rw [if_pos h2]
    exact ⟨fun _ => ⟨k, List.mem_cons_self .., h1, h2⟩, fun _ => rfl⟩
   ·rw [if_neg h2, ih]
    constructor
    ·rintro ⟨x, hx, h⟩; exact ⟨x, List.mem_cons_of_mem _ hx, h⟩
    ·rintro ⟨x, hx, h3, h4⟩
     rcases List.mem_cons.1 hx with rfl | hx
     ·exact absurd h4 h2
     ·exact ⟨x, hx, h3, h4⟩
  ·rw [if_neg h1, ih]
   constructor
   ·rintro ⟨x, hx, h⟩; exact ⟨x, List.mem_cons_of_mem _ hx, h⟩
   ·rintro ⟨x, hx, h3, h4⟩
    rcases List.mem_cons.1 hx with rfl | hx
    ·exact absurd h3 h1
    ·exact ⟨x, hx, h3, h4⟩
def zer (S U : List Nat) : List Nat := (List.range S.length).map (fun i => if i ∈ U then 0 else S.getD i 0)
theorem zer_len (S U : List Nat) : (zer S U).length = S.length := by unfold zer; simp
theorem ygI (S U : List Nat) (k : Nat) (hk : k < S.length) : (zer S U).getD k 0 = if k ∈ U then 0 else S.getD k 0 := by
 unfold zer
 rw [List.getD, List.getElem?_map, List.getElem?_range hk]; rfl
theorem yhW (S : List Nat) : zer S [] = S := by
 apply List.ext_getElem
 ·exact zer_len S []
 ·intro i h1 h2
  unfold zer
  simp [List.getD, h2]
theorem ygr (S U : List Nat) (k : Nat) : (zer S U).set k 0 = zer S (U ++ [k]) := by
 apply List.ext_getElem
 ·rw [List.length_set, zer_len, zer_len]
 ·intro i h1 h2
  rw [List.getElem_set]
  unfold zer
  simp only [List.getElem_map, List.getElem_range, List.mem_append, List.mem_singleton]
  by_cases h : k = i
  ·subst h; simp
  ·have : ¬ i = k := fun x => h x.symm
   simp [h, this]
theorem ints_getD (S : List Nat) (k : Nat) : (rd (ints S) (k : Int)).toNat = S.getD k 0 := by
 rw [yic]
 unfold ints
 rw [List.getD, List.getD, List.getElem?_map]
 cases S[k]? <;> rfl
theorem yio (S es : List Nat) : ∀ (d : Nat) (U : List Nat), U.length + d = es.length → ((asg (ints S) (ints es) d (ints U)).2 = true ↔ MTz (zer S U) (es.drop U.length)) := by
 intro d
 induction d with
 | zero =>
  intro U hU
  rw [List.drop_eq_nil_of_le (by omega)]
  simp only [asg, MTz]
 | succ d ih =>
  intro U hU
  have hlt : U.length < es.length := by omega
  rw [yaS es U.length hlt]
  simp only [asg, MTz]
  rw [yh4]
  constructor
  ·rintro ⟨k, hk, h1, h2⟩
   rw [List.mem_range, ints_len] at hk
   unfold asgT at h1
   rw [Bool.and_eq_true, Bool.not_eq_true', ints_getD, ints_len, ints_getD] at h1
   have hkU : ¬ k ∈ U := fun h => by
    have := h1.1
    rw [Bool.eq_false_iff] at this
    exact this (yex.2 h)
   refine ⟨k, by rw [zer_len]; exact hk, ?_, ?_⟩
   ·rw [ygI S U k hk, if_neg hkU]
    have := h1.2
    rw [show es.getD U.length 0 = es[U.length] from by rw [List.getD, List.getElem?_eq_getElem hlt]; rfl] at this
    exact this
   ·rw [ygr]
    have := (ih (U ++ [k]) (by simp; omega)).1 (by unfold ints at h2 ⊢; simpa using h2)
    simpa using this
  ·rintro ⟨k, hk, h1, h2⟩
   rw [zer_len] at hk
   rw [ygI S U k hk] at h1
   have hkU : ¬ k ∈ U := fun h => by rw [if_pos h, Nat.zero_testBit] at h1; cases h1
   rw [if_neg hkU] at h1
   refine ⟨k, List.mem_range.2 (by rw [ints_len]; exact hk), ?_, ?_⟩
   ·unfold asgT
    rw [Bool.and_eq_true, Bool.not_eq_true', ints_getD, ints_len, ints_getD, Bool.eq_false_iff]
    refine ⟨fun h => hkU (yex.1 h), ?_⟩
    rw [show es.getD U.length 0 = es[U.length] from by rw [List.getD, List.getElem?_eq_getElem hlt]; rfl]
    exact h1
   ·rw [ygr] at h2
    have := (ih (U ++ [k]) (by simp; omega)).2 (by simpa using h2)
    unfold ints at this ⊢
    simpa using this
theorem yhR {s : Nat} (hs : s < 256) : orL 0 (els s) = s := by
 apply Nat.eq_of_testBit_eq
 intro i
 rw [orL_bit, Nat.zero_testBit, Bool.false_or, Bool.eq_iff_iff, decide_eq_true_eq, yb7]
 refine ⟨fun h => h.2, fun h => ⟨?_, h⟩⟩
 refine Classical.byContradiction fun hc => ?_
 rw [yfg hs hc] at h; cases h
theorem yhF {S : List Nat} {s : Nat} (hs : s < 256) : (asg (ints S) (ints (els s)) (els s).length []).2 = true ↔ TP S s := by
 have h1 := yio S (els s) (els s).length [] (by simp)
 have h2 := yix (els s) S (List.Nodup.sublist List.filter_sublist List.nodup_range) (fun e he => (yb7.1 he).1)
 rw [yhR hs] at h2
 rw [yhW, List.length_nil, List.drop_zero] at h1
 exact h1.trans h2
end Go.Proofs.Ytimkekeaeojpkaa.Q
namespace Go.Proofs.Ytimkekeaeojpkaa.Q
open Go Go.RowKit Go.Proofs.Ytimkekeaeojpkaa.A Go.Proofs.YtimkekeaeojpkaaW.PrintWords Go.Proofs.YtimkekeaeojpkaaW.PrintLast Go.Proofs.YtimkekeaeojpkaaW.PrintMore Go.Proofs.Ytimkekeaeojpkaa.Z
set_option linter.unusedVariables false
set_option linter.unusedSimpArgs false
theorem ydX {n : Int} {l : List Int} (h : ybI n l = true) : l.length ≤ 6 ∧ ∀ x ∈ l, ∃ t : Nat, x = t ∧ t < 256 := by
 simp only [ybI, Bool.and_eq_true, decide_eq_true_eq] at h
 refine ⟨h.2.1, fun x hx => ?_⟩
 have := List.all_eq_true.1 h.2.2 x hx
 obtain ⟨_, t, _, rfl, _, _, ht⟩ := ybW this
 exact ⟨t, rfl, ht⟩
end Go.Proofs.Ytimkekeaeojpkaa.Q
namespace Go.Proofs.Ytimkekeaeojpkaa.Q
open Go Go.RowKit Go.Proofs.Ytimkekeaeojpkaa.A Go.Proofs.YtimkekeaeojpkaaW.PrintWords Go.Proofs.YtimkekeaeojpkaaW.PrintLast Go.Proofs.YtimkekeaeojpkaaW.PrintMore Go.Proofs.Ytimkekeaeojpkaa.Z
set_option linter.unusedVariables false
set_option linter.unusedSimpArgs false
theorem ydZ (s : Int) : Ev (fun k => yt.f k s) (elsB s) := by
 have h := down (P := fun i => ∀ acc : List Int, acc.length ≤ i → Ev (fun k => yt.l0 k s acc (i : Int)) (acc ++ ((List.range' i (8 - i)).filter (fun e : Nat => hasB s (e : Int))).map (fun e : Nat => (e : Int)))) 8
  (by
   intro acc ha
   apply Ev.step
   ·intro k
    simp only [yt.l0, specHas_eq, Option.bind_some]
    rw [if_neg (by omega)]
   ·simpa using Ev.now _)
  (by
   intro i hi ih acc ha
   apply Ev.step
   ·intro k
    simp only [yt.l0, specHas_eq, Option.bind_some]
    rw [if_pos (by omega), yay hi (by omega)]
   ·rw [ybR hi, ycH]
    by_cases hx : hasB s (i : Int) = true
    ·refine Ev.ifp hx (Ev.ifp (by omega) ?_)
     rw [if_pos hx, ← List.append_assoc]
     exact ih (acc ++ [(i : Int)]) (by simp; omega)
    ·refine Ev.ifn hx ?_
     rw [if_neg hx]
     exact ih acc (by omega))
 have h0 := h [] (Nat.le_refl 0)
 rw [show ((0 : Nat) : Int) = 0 from rfl] at h0
 have e : elsB s = [] ++ ((List.range' 0 (8 - 0)).filter (fun e : Nat => hasB s (e : Int))).map (fun e : Nat => (e : Int)) := by
  unfold elsB
  rw [List.nil_append, List.range_eq_range']
 rw [e]
 unfold yt.f
 exact h0
end Go.Proofs.Ytimkekeaeojpkaa.Q
namespace Go.Proofs.Ytimkekeaeojpkaa.Q
open Go Go.RowKit Go.Proofs.Ytimkekeaeojpkaa.A Go.Proofs.YtimkekeaeojpkaaW.PrintWords Go.Proofs.YtimkekeaeojpkaaW.PrintLast Go.Proofs.YtimkekeaeojpkaaW.PrintMore Go.Proofs.Ytimkekeaeojpkaa.Z
set_option linter.unusedVariables false
set_option linter.unusedSimpArgs false
theorem subset_eq (t s : Int) : ybr.f t s = some (ybv t && (ybv s && decide (subN t.toNat s.toNat))) := by
 unfold ybr.f
 rw [isAny_eq, isAny_eq, Option.bind_some, Option.bind_some]
 by_cases h1 : ybv t = true
 ·rw [if_pos h1, h1, Bool.true_and]
  by_cases h2 : ybv s = true
  ·rw [if_pos h2, h2, Bool.true_and]
   obtain ⟨a, rfl, ha⟩ := ycA h1
   obtain ⟨b, rfl, hb⟩ := ycA h2
   rw [ybZ (yas ha) (yas hb), Int.toNat_natCast, Int.toNat_natCast]
   have e : (((dif a b : Nat) : Int) == 0) = decide (subN a b) := by
    rw [Bool.eq_iff_iff, beq_iff_eq, decide_eq_true_eq]
    have h := @yhl a b
    constructor
    ·intro h0; exact h.1 (by omega)
    ·intro h0; have := h.2 h0; omega
   rw [e]
  ·rw [if_neg h2, Bool.eq_false_iff.2 h2, Bool.false_and]
 ·rw [if_neg h1, Bool.eq_false_iff.2 h1, Bool.false_and]
def indB (L : List Nat) (s : Int) : Bool := ybv s && indN L s.toNat
theorem ycE (n : Int) (L : List Nat) (s : Int) (hl : L.length ≤ 17592186044416) (hL : ∀ b ∈ L, b < 256) : Ev (fun k => yp.f k n (ints L) s) (indB L s) := by
 have h := down (P := fun i => Ev (fun k => yp.l0 k s (ints L) ((ints L).length : Int) (i : Int)) (ybv s && (L.drop i).any (fun b => decide (subN s.toNat b)))) L.length
  (by
   apply Ev.step
   ·intro k
    simp only [yp.l0]
    rw [if_neg (by rw [ints_len]; omega)]
   ·rw [ybl]
    simp only [List.any_nil, Bool.and_false]
    exact Ev.now _)
  (by
   intro i hi ih
   have hb := hL _ (List.getElem_mem hi)
   apply Ev.step
   ·intro k
    simp only [yp.l0, subset_eq, Option.bind_some]
    rw [if_pos (by rw [ints_len]; omega), if_pos (by omega), if_pos (by rw [ints_len]; omega), ycp L i hi, yay hi hl]
   ·rw [yaS L i hi, List.any_cons]
    rw [show ybv (L[i] : Int) = true from by rw [ybV]; simpa using hb, Bool.true_and, Int.toNat_natCast]
    by_cases hx : (ybv s && decide (subN s.toNat L[i])) = true
    ·refine Ev.ifp hx ?_
     simp only [Bool.and_eq_true] at hx
     rw [hx.1, hx.2]
     exact Ev.now _
    ·refine Ev.ifn hx ?_
     have : (ybv s && (decide (subN s.toNat L[i]) || (L.drop (i + 1)).any (fun b => decide (subN s.toNat b)))) = (ybv s && (L.drop (i + 1)).any (fun b => decide (subN s.toNat b))) := by
      cases h1 : ybv s
      ·rfl
      ·rw [h1] at hx
       simp only [Bool.true_and] at hx ⊢
       rw [Bool.eq_false_iff.2 hx, Bool.false_or]
     rw [this]
     exact ih)
 exact h
theorem ycB {L : List Nat} {s : Nat} (hs : s < 256) : indB L (s : Int) = indN L s := by
 unfold indB
 rw [ybV, show decide (s < 256) = true from by simpa using hs, Bool.true_and, Int.toNat_natCast]
theorem yhv {L : List Nat} {s : Int} {m : Nat} (hL : ∀ b ∈ L, b < 2 ^ m) (h : indB L s = true) : ∃ t : Nat, s = t ∧ t < 2 ^ m ∧ t < 256 ∧ indN L t = true := by
 unfold indB at h
 simp only [Bool.and_eq_true] at h
 obtain ⟨t, rfl, ht⟩ := ycA h.1
 rw [Int.toNat_natCast] at h
 obtain ⟨b, hb, hsub⟩ := indN_iff.1 h.2
 exact ⟨t, rfl, Nat.lt_of_le_of_lt (ycS hsub) (hL b hb), ht, h.2⟩
end Go.Proofs.Ytimkekeaeojpkaa.Q
namespace Go.Proofs.Ytimkekeaeojpkaa.Q
open Go Go.RowKit Go.Proofs.Ytimkekeaeojpkaa.A Go.Proofs.YtimkekeaeojpkaaW.PrintWords Go.Proofs.YtimkekeaeojpkaaW.PrintLast Go.Proofs.YtimkekeaeojpkaaW.PrintMore Go.Proofs.Ytimkekeaeojpkaa.Z
set_option linter.unusedVariables false
set_option linter.unusedSimpArgs false
def yaV (t s : Nat) : Bool := decide (t = s) || !decide (subN s t)
theorem ydn (F : List Nat) (s : Nat) : F.all (fun t => yaV t s) = !F.any (fun t => decide (t ≠ s) && decide (subN s t)) := by
 induction F with
 | nil => rfl
 | cons x F ih =>
  rw [List.all_cons, List.any_cons, ih, Bool.not_or]
  congr 1
  unfold yaV
  by_cases h : x = s
  ·simp [h]
  ·simp [h]
theorem yc9 {F : List Nat} (hF : ∀ x ∈ F, x < 256) (hp : F.Pairwise (· < ·)) (hl : F.length ≤ 65536) : Ev (fun k => yC.f k (ints F)) (ints (topN F)) := by
 have hset : ye1 8 (ints F) = true := by
  unfold ye1
  rw [List.all_eq_true]
  intro x hx
  obtain ⟨t, ht, rfl⟩ := List.mem_map.1 hx
  rw [yga, ybV]
  exact decide_eq_true (hF t ht)
 have hd := down (P := fun i => ∀ acc : List Nat, acc.length ≤ i → Ev (fun k => yC.l0 k (ints F) (ints acc) (i : Int)) (yb6 [] (ints (acc ++ (F.drop i).filter (fun s => F.all (fun t => yaV t s)))))) F.length
  (by
   intro acc ha
   apply Ev.step
   ·intro k
    rw [yC.l0, if_neg (by rw [ints_len]; omega)]
   ·rw [ybl, List.filter_nil, List.append_nil]
    exact Ev.bind (ycK _ (by rw [ints_len]; omega)) (Ev.now _))
  (by
   intro i hi ih acc ha
   rw [yaS F i hi, List.filter_cons]
   have hs := hF _ (List.getElem_mem hi)
   have h1 := down (P := fun j => ∀ fine : Bool, Ev (fun k => yC.l1 k (ints F) (ints acc) (i : Int) fine (j : Int)) (yb6 [] (ints ((if (fine && (F.drop j).all (fun t => yaV t F[i])) = true then acc ++ [F[i]] else acc) ++ (F.drop (i + 1)).filter (fun s => F.all (fun t => yaV t s)))))) F.length
    (by
     intro fine
     apply Ev.step
     ·intro k
      rw [yC.l1, if_neg (by rw [ints_len]; omega)]
     ·rw [ybl]
      cases fine with
      | true =>
       refine Ev.ifp rfl (Ev.ifp (by omega) (Ev.ifp (by rw [ints_len]; omega) (Ev.ifp (by rw [ints_len]; omega) ?_)))
       rw [ycp F i hi, yay hi (by omega), if_pos (by rfl)]
       have := ih (acc ++ [F[i]]) (by rw [List.length_append, List.length_singleton]; omega)
       rw [show ints acc ++ [(F[i] : Int)] = ints (acc ++ [F[i]]) from by simp [ints]]
       exact this
      | false =>
       refine Ev.ifn (by decide) ?_
       rw [yay hi (by omega), if_neg (by simp)]
       exact ih acc (by omega))
    (by
     intro j hj ihj fine
     have ht := hF _ (List.getElem_mem hj)
     apply Ev.step
     ·intro k
      rw [yC.l1, if_pos (by rw [ints_len]; omega)]
     ·rw [yaS F j hj, List.all_cons]
      cases fine with
      | true =>
       refine Ev.ifp rfl (Ev.ifp (by omega) (Ev.ifp (by omega) (Ev.ifp (by rw [ints_len]; omega) ?_)))
       rw [ycp F i hi, ycp F j hj, yay hj (by omega)]
       by_cases he : F[j] = F[i]
       ·refine Ev.ifp (by rw [he]) ?_
        have := ihj true
        rw [show yaV F[j] F[i] = true from by unfold yaV; simp [he], Bool.true_and]
        exact this
       ·refine Ev.ifn (fun h => he (by omega)) ?_
        have := ihj (yaV F[j] F[i])
        rw [Bool.true_and]
        have e : ((Go.bits .and .i64 (F[j] : Int) (F[i] : Int)) != (F[i] : Int)) = yaV F[j] F[i] := by
         rw [ydo (yas ht) (yas hs), Bool.eq_iff_iff, bne_iff_ne]
         unfold yaV
         rw [show decide (F[j] = F[i]) = false from decide_eq_false he, Bool.false_or, Bool.not_eq_true', decide_eq_false_iff_not]
         unfold subN
         rw [Nat.and_comm]
         constructor
         ·intro h1 h2; exact h1 (by rw [h2])
         ·intro h1 h2; exact h1 (by omega)
        rw [e]
        exact this
      | false =>
       refine Ev.ifn (by decide) ?_
       have := ihj false
       rw [yay hj (by omega)]
       simpa using this)
   have h0 := h1 true
   rw [List.drop_zero, Bool.true_and] at h0
   apply Ev.step
   ·intro k
    rw [yC.l0, if_pos (by rw [ints_len]; omega)]
   ·by_cases hg : F.all (fun t => yaV t F[i]) = true
    ·rw [if_pos hg]
     rw [if_pos hg, List.append_assoc, List.singleton_append] at h0
     exact h0
    ·rw [if_neg hg]
     rw [if_neg hg] at h0
     exact h0)
 have h0 := hd [] (Nat.zero_le _)
 rw [List.drop_zero, List.nil_append] at h0
 have e : topN F = F.filter (fun s => F.all (fun t => yaV t s)) := by
  unfold topN
  apply List.filter_congr
  intro s _
  rw [ydn]
 rw [← e, yfq (D := topN F) (List.Pairwise.filter _ hp) (fun a => Iff.rfl)] at h0
 unfold yC.f
 simp only [Option.bind_some]
 refine Ev.bind (ydU 8 (ints F) (by rw [ints_len]; omega)) ?_
 rw [hset]
 exact Ev.ifp rfl h0
end Go.Proofs.Ytimkekeaeojpkaa.Q
namespace Go.Proofs.Ytimkekeaeojpkaa.Q
open Go Go.RowKit Go.Proofs.Ytimkekeaeojpkaa.A Go.Proofs.YtimkekeaeojpkaaW.PrintWords Go.Proofs.YtimkekeaeojpkaaW.PrintLast Go.Proofs.YtimkekeaeojpkaaW.PrintMore Go.Proofs.Ytimkekeaeojpkaa.Z
set_option linter.unusedVariables false
set_option linter.unusedSimpArgs false
theorem yfT {e : Nat} (he : e < 8) : IntKind.i64.wrap (2 ^ e) = ((2 ^ e : Nat) : Int) := by
 have h2 : (2 ^ e : Nat) < 9223372036854775808 := by
  have := Nat.pow_lt_pow_right (a := 2) (by decide) (show e < 63 by omega)
  simpa using this
 have h3 : (2 : Int) ^ e = ((2 ^ e : Nat) : Int) := by simp
 rw [h3]
 exact ycb h2
theorem yhe (l : List Int) (hl : l.length ≤ 17592186044416) (a e f : Nat) (ha : a < 256) (he : e < 8) (hf : f < 8) : Ev (fun k => ye.c k l (a : Int) (e : Int) (f : Int)) (l.contains ((dif a (2 ^ e) ||| 2 ^ f : Nat) : Int)) := by
 unfold ye.c ybh.f
 refine Ev.ifp (by omega) (Ev.ifp (by omega) ?_)
 have hp : ∀ x < 8, 2 ^ x < 2 ^ 63 := fun x hx => Nat.pow_lt_pow_right (by decide) (by omega)
 rw [Int.toNat_natCast, Int.toNat_natCast, yfT he, yfT hf, ybZ (yas ha) (hp e he), ygo (yas (yc5 ha)) (hp f hf)]
 exact Ev.bind (yfN l _ hl) (Ev.now _)
theorem yhB {s e : Nat} (h : e ∈ els s) : e < 8 := (yb7.1 h).1
theorem any_map (p : Int → Bool) (L : List Nat) : (L.map (fun x : Nat => (x : Int))).any p = L.any (fun x => p (x : Int)) := by
 rw [List.any_map]; rfl
theorem yfP (l : List Int) (hl : l.length ≤ 17592186044416) (a b : Nat) (ha : a < 256) (hb : b < 256) : ∀ es : List Nat, (∀ e ∈ es, e < 8) → Ev (fun k => ye.l2 k l (a : Int) (b : Int) (es.map (fun x : Nat => (x : Int)))) ((ycs l a b es).map (fun x : Nat => (x : Int))) := by
 intro es
 induction es with
 | nil => intro _; exact Ev.now _
 | cons e es ih =>
  intro hm
  have he := hm e (List.mem_cons_self ..)
  simp only [List.map_cons, ye.l2]
  rw [ybZ (yas hb) (yas ha)]
  refine Ev.bind (ycI _) ?_
  rw [yei (yc5 hb)]
  refine Ev.bind (a := ydT l a b e) ?_ ?_
  ·have h := yh2 (g := fun k f => ye.c k l (a : Int) (e : Int) f) (p := fun f => l.contains ((dif a (2 ^ e) ||| 2 ^ f.toNat : Nat) : Int)) (l := (els (dif b a)).map (fun x : Nat => (x : Int)))
    (fun x hx => by
     obtain ⟨f, hf, rfl⟩ := List.mem_map.1 hx
     have := yhe l hl a e f ha he (yhB hf)
     rw [Int.toNat_natCast]
     exact this)
   rw [any_map] at h
   simp only [Int.toNat_natCast] at h
   exact h
  ·simp only [ycs]
   by_cases hx : ydT l a b e = true
   ·refine Ev.ifp hx ?_
    rw [if_pos hx]
    exact ih (fun e' he' => hm e' (List.mem_cons_of_mem _ he'))
   ·refine Ev.ifn hx ?_
    rw [if_neg hx]
    exact Ev.now _
theorem yfJ (l : List Int) (hl : l.length ≤ 17592186044416) (a : Nat) (ha : a < 256) : ∀ bs : List Nat, (∀ b ∈ bs, b < 256) → Ev (fun k => ye.l1 k l (a : Int) (bs.map (fun x : Nat => (x : Int)))) ((ycy l a bs).map (fun x : Nat × Nat => ((x.1 : Int), (x.2 : Int)))) := by
 intro bs
 induction bs with
 | nil => intro _; exact Ev.now _
 | cons b bs ih =>
  intro hm
  have hb := hm b (List.mem_cons_self ..)
  simp only [List.map_cons, ye.l1]
  rw [ybZ (yas ha) (yas hb)]
  refine Ev.bind (ycI _) ?_
  rw [yei (yc5 ha)]
  refine Ev.bind (yfP l hl a b ha hb _ (fun e he => yhB he)) ?_
  simp only [ycy]
  cases ycs l a b (els (dif a b)) with
  | none => exact ih (fun b' hb' => hm b' (List.mem_cons_of_mem _ hb'))
  | some e => exact Ev.now _
theorem yfs (l : List Int) (L : List Nat) (hlL : l = L.map (fun x : Nat => (x : Int))) (hl : l.length ≤ 17592186044416) (hL : ∀ b ∈ L, b < 256) : ∀ la : List Nat, (∀ a ∈ la, a < 256) → Ev (fun k => ye.l0 k l (la.map (fun x : Nat => (x : Int)))) ((ycJ l L la).map (fun x : Nat × Nat × Nat => ((x.1 : Int), (x.2.1 : Int), (x.2.2 : Int)))) := by
 intro la
 induction la with
 | nil => intro _; exact Ev.now _
 | cons a la ih =>
  intro hm
  have ha := hm a (List.mem_cons_self ..)
  simp only [List.map_cons, ye.l0]
  refine Ev.bind (a := (ycy l a L).map (fun x : Nat × Nat => ((x.1 : Int), (x.2 : Int)))) (by
   have := yfJ l hl a ha L hL
   rw [← hlL] at this
   exact this) ?_
  simp only [ycJ]
  cases ycy l a L with
  | none => exact ih (fun a' ha' => hm a' (List.mem_cons_of_mem _ ha'))
  | some x => exact Ev.now _
theorem yfS (n : Int) (l : List Int) (hl : l.length ≤ 17592186044416) : Ev (fun k => ye.f k n l) (yeX n l) := by
 unfold ye.f yeX
 refine Ev.bind (yel n l hl) ?_
 by_cases hf : famB n l = true
 ·refine Ev.ifp hf ?_
  rw [if_pos hf]
  obtain ⟨m, L, rfl, hm, hlL, hL, _⟩ := yec hf
  have hmap : l.map Int.toNat = L := by rw [hlL, yat]
  have h256 : ∀ b ∈ L, b < 256 := fun b hb => Nat.lt_of_lt_of_le (hL b hb) (yal hm)
  have h := yfs l L hlL hl h256 L h256
  rw [← hlL] at h
  refine Ev.bind h ?_
  rw [hmap]
  cases ycJ l L L with
  | none => exact Ev.now _
  | some x => exact Ev.now _
 ·refine Ev.ifn hf ?_
  rw [if_neg hf]
  exact Ev.now _
end Go.Proofs.Ytimkekeaeojpkaa.Q
namespace Go.Proofs.Ytimkekeaeojpkaa.Q
open Go Go.RowKit Go.Proofs.Ytimkekeaeojpkaa.A Go.Proofs.YtimkekeaeojpkaaW.PrintWords Go.Proofs.YtimkekeaeojpkaaW.PrintLast Go.Proofs.YtimkekeaeojpkaaW.PrintMore Go.Proofs.Ytimkekeaeojpkaa.Z
set_option linter.unusedVariables false
set_option linter.unusedSimpArgs false
theorem yeq (n : Int) (l : List Int) (hl : l.length ≤ 17592186044416) : Ev (fun k => yaN.f k n l) (matB n l) := by
 unfold yaN.f matB
 refine Ev.bind (yfS n l hl) (Ev.bind (yel n l hl) ?_)
 by_cases hf : famB n l = true
 ·refine Ev.ifp hf ?_
  rw [hf, Bool.true_and]
  by_cases h0 : (l.length : Int) > 0
  ·refine Ev.ifp h0 ?_
   rw [show decide ((l.length : Int) > 0) = true from by simpa using h0, Bool.true_and]
   exact Ev.now _
  ·refine Ev.ifn h0 ?_
   rw [show decide ((l.length : Int) > 0) = false from by simpa using h0, Bool.false_and]
   exact Ev.now _
 ·refine Ev.ifn hf ?_
  rw [Bool.eq_false_iff.2 hf, Bool.false_and]
  exact Ev.now _
end Go.Proofs.Ytimkekeaeojpkaa.Q
namespace Go.Proofs.Ytimkekeaeojpkaa.Q
open Go Go.RowKit Go.Proofs.Ytimkekeaeojpkaa.A Go.Proofs.YtimkekeaeojpkaaW.PrintWords Go.Proofs.YtimkekeaeojpkaaW.PrintLast Go.Proofs.YtimkekeaeojpkaaW.PrintMore Go.Proofs.Ytimkekeaeojpkaa.Z
set_option linter.unusedVariables false
set_option linter.unusedSimpArgs false
variable {m : Nat} {I : Nat → Prop} {p : Nat → Bool}
def rkI (m : Nat) (p : Nat → Bool) : Nat := maxN 0 (((List.range (2 ^ m)).filter p).map pc)
def bsI (m : Nat) (p : Nat → Bool) : List Nat := (List.range (2 ^ m)).filter (fun s => p s && decide (pc s = rkI m p))
theorem ygM (hI : Ind m I) (hp : ∀ s, p s = true ↔ I s) : (∃ b, I b ∧ pc b = rkI m p) ∧ (∀ s, I s → pc s ≤ rkI m p) := by
 obtain ⟨r, ⟨b, hb, hr⟩, hmax⟩ := hI.max
 have hle : ∀ s, I s → pc s ≤ rkI m p := fun s hs => yen _ 0 _ (List.mem_map.2 ⟨s, List.mem_filter.2 ⟨List.mem_range.2 (hI.sets s hs), (hp s).2 hs⟩, rfl⟩)
 have hge : rkI m p ≤ r := by
  apply ygx (Nat.zero_le _)
  intro x hx
  obtain ⟨s, hs, rfl⟩ := List.mem_map.1 hx
  exact hmax s ((hp s).1 (List.mem_filter.1 hs).2)
 have := hle b hb
 exact ⟨⟨b, hb, by omega⟩, hle⟩
theorem ygp (hm : m ≤ 8) (q : Nat → Bool) : ((List.range (2 ^ m)).filter q).length ≤ 256 := by
 have h1 := List.length_filter_le q (List.range (2 ^ m))
 rw [List.length_range] at h1
 exact Nat.le_trans h1 (yal hm)
theorem yh1 (hm : m ≤ 8) (p : Nat → Bool) : (bsI m p).length ≤ 256 := ygp hm _
theorem yij (hm : m ≤ 8) (q : Nat → Bool) : ∀ x ∈ (List.range (2 ^ m)).filter q, x < 256 := fun x hx => by
 have := List.mem_range.1 (List.mem_filter.1 hx).1
 have := yal hm
 omega
theorem yeL (hI : Ind m I) (hp : ∀ s, p s = true ↔ I s) : Ev (fun k => yC.f k (ints ((List.range (2 ^ m)).filter p))) (ints (bsI m p)) := by
 obtain ⟨hex, hmax⟩ := ygM hI hp
 have htop := yhM hI hp hex hmax
 have hmx := yc9 (F := (List.range (2 ^ m)).filter p) (yij hI.size p) (List.Pairwise.filter _ List.pairwise_lt_range) (Nat.le_trans (ygp hI.size p) (by decide))
 rw [htop] at hmx
 exact hmx
end Go.Proofs.Ytimkekeaeojpkaa.Q
namespace Go.Proofs.Ytimkekeaeojpkaa.Q
open Go Go.RowKit Go.Proofs.Ytimkekeaeojpkaa.A Go.Proofs.YtimkekeaeojpkaaW.PrintWords Go.Proofs.YtimkekeaeojpkaaW.PrintLast Go.Proofs.YtimkekeaeojpkaaW.PrintMore Go.Proofs.Ytimkekeaeojpkaa.Z
set_option linter.unusedVariables false
set_option linter.unusedSimpArgs false
theorem ycY {n : Int} {l : List Int} (h : ybI n l = true) : ∃ (m : Nat) (S : List Nat), n = m ∧ m ≤ 8 ∧ l = ints S ∧ S.length ≤ 6 ∧ (∀ x ∈ S, x < 2 ^ m) := by
 have h2 := h
 simp only [ybI, Bool.and_eq_true, decide_eq_true_eq] at h2
 obtain ⟨⟨h0, h8⟩, h6, hs⟩ := h2
 obtain ⟨m, rfl⟩ := Int.eq_ofNat_of_zero_le h0
 have hall : ∀ x ∈ l, ∃ t : Nat, x = t ∧ t < 2 ^ m := fun x hx => by
  have := List.all_eq_true.1 hs x hx
  obtain ⟨m', t, hm', rfl, _, ht, _⟩ := ybW this
  have : m = m' := by omega
  subst this
  exact ⟨t, rfl, ht⟩
 refine ⟨m, l.map Int.toNat, rfl, by omega, ?_, by rw [List.length_map]; exact h6, ?_⟩
 ·unfold ints
  rw [List.map_map]
  conv => lhs; rw [← List.map_id l]
  apply List.map_congr_left
  intro x hx
  obtain ⟨t, rfl, _⟩ := hall x hx
  rfl
 ·intro x hx
  obtain ⟨y, hy, rfl⟩ := List.mem_map.1 hx
  obtain ⟨t, rfl, ht⟩ := hall y hy
  rw [Int.toNat_natCast]; exact ht
def tpB (m : Nat) (S : List Nat) (s : Nat) : Bool := decide (s < 2 ^ m) && (asg (ints S) (ints (els s)) (els s).length []).2
theorem yhH {m : Nat} (hm : m ≤ 8) {S : List Nat} (hS : ∀ x ∈ S, x < 2 ^ m) (s : Nat) : tpB m S s = true ↔ TP S s := by
 have h2m := yal hm
 unfold tpB
 rw [Bool.and_eq_true, decide_eq_true_eq]
 constructor
 ·rintro ⟨h1, h2⟩; exact (yhF (by omega)).1 h2
 ·intro h
  have hs := (Ind.trans hm S hS).sets s h
  exact ⟨hs, (yhF (by omega)).2 h⟩
def fsB (n : Int) (l : List Int) : Int × List Int := if ybI n l = true then (n, ints (bsI n.toNat (tpB n.toNat (l.map Int.toNat)))) else (0, [])
theorem yhJ (n : Int) (l : List Int) : (fsB n l).2.length ≤ 256 := by
 unfold fsB
 by_cases h : ybI n l = true
 ·rw [if_pos h]
  obtain ⟨m, S, rfl, hm, rfl, _⟩ := ycY h
  simp only [ints_len]
  rw [Int.toNat_natCast]
  exact yh1 hm _
 ·rw [if_neg h]; exact Nat.zero_le _
theorem ydW (n : Int) (l : List Int) (hl : l.length ≤ 17592186044416) : Ev (fun k => yag.f k n l) (fsB n l) := by
 unfold yag.f fsB
 refine Ev.bind (ydV n l hl) ?_
 by_cases h : ybI n l = true
 rotate_left
 ·rw [if_neg h]; exact Ev.ifn h (Ev.now _)
 rw [if_pos h]
 refine Ev.ifp h ?_
 have hfc := ydX h
 obtain ⟨m, S, rfl, hm, rfl, h6, hS⟩ := ycY h
 rw [show (ints S).map Int.toNat = S from yat S, Int.toNat_natCast]
 have h2m := yal hm
 have hp2 := Nat.two_pow_pos m
 have hmx := yeL (Ind.trans hm S hS) (yhH hm hS)
 have hd := down (P := fun i => ∀ acc : List Nat, acc.length ≤ i → acc ++ (List.range' i (2 ^ m - i)).filter (tpB m S) = (List.range (2 ^ m)).filter (tpB m S) → Ev (fun k => yag.l0 k (m : Int) (ints S) (ints acc) (i : Int)) ((m : Int), ints (bsI m (tpB m S)))) (2 ^ m)
  (by
   intro acc _ he
   rw [Nat.sub_self, List.range'_zero, List.filter_nil, List.append_nil] at he
   apply Ev.step
   ·intro k
    simp only [yag.l0, ybg hm, Option.bind_some]
    rw [if_neg (by unfold yax; omega), he]
   ·exact Ev.bind hmx (Ev.now _))
  (by
   intro i hi ih acc ha he
   rw [ydk hi, List.filter_cons] at he
   have h256 : i < 256 := by omega
   apply Ev.step
   ·intro k
    simp only [yag.l0, ybg hm, Option.bind_some]
    rw [if_pos (by unfold yax; omega), yay hi (by omega)]
   ·refine Ev.bind (ydZ _) ?_
    refine Ev.bind (yeI (ints S) (elsB (i : Int)) hfc.1 hfc.2 (yhi _) (ygh _) (elsB (i : Int)).length [] (by simp)) ?_
    have e : (asg (ints S) (elsB (i : Int)) (elsB (i : Int)).length []).2 = tpB m S i := by
     unfold tpB
     rw [yei h256, decide_eq_true hi, Bool.true_and, List.length_map]
     rfl
    by_cases hc : tpB m S i = true
    ·rw [if_pos hc] at he
     refine Ev.ifp (by rw [e]; exact hc) (Ev.ifp (by rw [ints_len]; omega) ?_)
     rw [show ints acc ++ [(i : Int)] = ints (acc ++ [i]) from by simp [ints]]
     exact ih (acc ++ [i]) (by rw [List.length_append, List.length_singleton]; omega) (by rw [List.append_assoc, List.singleton_append]; exact he)
    ·rw [if_neg hc] at he
     exact Ev.ifn (by rw [e]; exact hc) (ih acc (by omega) he))
 exact hd [] (Nat.zero_le _) (by rw [Nat.sub_zero, ← List.range_eq_range', List.nil_append])
end Go.Proofs.Ytimkekeaeojpkaa.Q
namespace Go.Proofs.Ytimkekeaeojpkaa.Q
open Go Go.RowKit Go.Proofs.Ytimkekeaeojpkaa.A Go.Proofs.YtimkekeaeojpkaaW.PrintWords Go.Proofs.YtimkekeaeojpkaaW.PrintLast Go.Proofs.YtimkekeaeojpkaaW.PrintMore Go.Proofs.Ytimkekeaeojpkaa.Z
set_option linter.unusedVariables false
set_option linter.unusedSimpArgs false
def renG (n : Int) : List Int → Nat → Bool
 | [], _ => true
 | x :: xs, seen => (decide (0 ≤ x) && decide (x < n) && decide (x < 8) && !seen.testBit x.toNat) && renG n xs (seen ||| 2 ^ x.toNat)
def ycC (n : Int) (l : List Int) : Bool := decide ((l.length : Int) = n) && decide (n ≤ 8) && renG n l 0
theorem ygg (n : Int) (l : List Int) (hl : l.length ≤ 17592186044416) (hn : (l.length : Int) = n) (h8 : n ≤ 8) : ∀ seen : Nat, seen < 256 → Ev (fun k => yI.l0 k n l (seen : Int) 0) (renG n l seen) := by
 have h := down (P := fun i => ∀ seen : Nat, seen < 256 → Ev (fun k => yI.l0 k n l (seen : Int) (i : Int)) (renG n (l.drop i) seen)) l.length
  (by
   intro seen hs
   apply Ev.step
   ·intro k
    simp only [yI.l0]
    rw [if_neg (by omega)]
   ·rw [ybl]; exact Ev.now _)
  (by
   intro i hi ih seen hs
   apply Ev.step
   ·intro k
    simp only [yI.l0, l1In_eq, Option.bind_some]
    rw [if_pos (by omega), if_pos (by omega), if_pos (by omega), yaR l i hi, yay hi hl, yak (by omega) (by omega)]
   ·rw [yaS l i hi]
    simp only [renG]
    by_cases hx : (decide (0 ≤ l[i]) && decide (l[i] ≤ n - 1)) = true
    ·refine Ev.ifp hx ?_
     simp only [Bool.and_eq_true, decide_eq_true_eq] at hx
     obtain ⟨x, hxe⟩ := Int.eq_ofNat_of_zero_le hx.1
     rw [hxe] at hx ⊢
     have hx8 : x < 8 := by omega
     have c1 : (decide (0 ≤ (x : Int)) && decide ((x : Int) < n) && decide ((x : Int) < 8)) = true := by
      simp only [Bool.and_eq_true, decide_eq_true_eq]; omega
     rw [c1, Bool.true_and, Int.toNat_natCast]
     refine Ev.cbind (yb2 (yas hs) (by omega)) ?_
     by_cases hb : seen.testBit x = true
     ·refine Ev.ifp hb ?_
      rw [hb]; exact Ev.now _
     ·refine Ev.ifn hb (Ev.ifp (ybz _) ?_)
      rw [Bool.eq_false_iff.2 hb, ycP (by omega) (by omega), ycv (by omega), ygo (yas hs) (yas (yet hx8))]
      exact ih _ (yh7 hs hx8)
    ·refine Ev.ifn hx ?_
     have c1 : (decide (0 ≤ l[i]) && decide (l[i] < n)) = false := by
      rw [Bool.eq_false_iff]
      intro hc
      apply hx
      simp only [Bool.and_eq_true, decide_eq_true_eq] at *
      omega
     rw [c1]
     exact Ev.now _)
 exact h
theorem yf4 (n : Int) (l : List Int) (hl : l.length ≤ 17592186044416) : Ev (fun k => yI.f k n l) (ycC n l) := by
 unfold yI.f ycC
 by_cases hn : (l.length : Int) = n
 ·refine Ev.ifp hn ?_
  rw [show decide ((l.length : Int) = n) = true from by simpa using hn, Bool.true_and]
  apply Ev.step
  ·intro k
   rw [yI.j0]
  ·by_cases h8 : n > 8
   ·refine Ev.ifp (by simpa using h8) ?_
    rw [show decide (n ≤ 8) = false from by simpa using h8]
    exact Ev.now _
   ·refine Ev.ifn (by simpa using h8) ?_
    rw [show decide (n ≤ 8) = true from by simp; omega, Bool.true_and]
    exact ygg n l hl hn (by omega) 0 (by omega)
 ·refine Ev.ifn hn ?_
  rw [show decide ((l.length : Int) = n) = false from by simpa using hn]
  apply Ev.step
  ·intro k
   rw [yI.j0]
  ·refine Ev.ifp rfl ?_
   exact Ev.now _
end Go.Proofs.Ytimkekeaeojpkaa.Q
namespace Go.Proofs.Ytimkekeaeojpkaa.Q
open Go Go.RowKit Go.Proofs.YtimkekeaeojpkaaW.PrintWords Go.Proofs.YtimkekeaeojpkaaW.PrintLast Go.Proofs.YtimkekeaeojpkaaW.PrintMore Go.Proofs.Ytimkekeaeojpkaa.Z
set_option linter.unusedVariables false
set_option linter.unusedSimpArgs false
theorem yhs {n : Int} : ∀ {l : List Int} {seen : Nat}, renG n l seen = true → ∀ x ∈ l, 0 ≤ x ∧ x < n ∧ x < 8 := by
 intro l
 induction l with
 | nil => intro seen _ x hx; simp at hx
 | cons y ys ih =>
  intro seen h x hx
  simp only [renG, Bool.and_eq_true, decide_eq_true_eq] at h
  rcases List.mem_cons.1 hx with rfl | hx
  ·exact ⟨h.1.1.1.1, h.1.1.1.2, h.1.1.2⟩
  ·exact ih h.2 x hx
theorem yfk {l : List Int} (h : ycC (l.length : Int) l = true) : l.length ≤ 8 ∧ ∀ x ∈ l, 0 ≤ x ∧ x < 8 := by
 simp only [ycC, Bool.and_eq_true, decide_eq_true_eq] at h
 refine ⟨by omega, fun x hx => ?_⟩
 have := yhs h.2 x hx
 omega
end Go.Proofs.Ytimkekeaeojpkaa.Q
namespace Go.Proofs.Ytimkekeaeojpkaa.Q
open Go Go.RowKit Go.Proofs.Ytimkekeaeojpkaa.A Go.Proofs.YtimkekeaeojpkaaW.PrintWords Go.Proofs.YtimkekeaeojpkaaW.PrintLast Go.Proofs.YtimkekeaeojpkaaW.PrintMore Go.Proofs.Ytimkekeaeojpkaa.Z
set_option linter.unusedVariables false
set_option linter.unusedSimpArgs false
theorem ygd {n : Int} {w : List Int} (h : ycC n w = true) : (w.length : Int) = n := by
 simp only [ycC, Bool.and_eq_true, decide_eq_true_eq] at h
 exact h.1.1
def yd1 (n : Int) (l w : List Int) : Int × List Int × Bool := if (matB n l && ycC n w) = true then (n, yb6 [] (ints ((l.map Int.toNat).map (yb0 w))), true) else (0, [], false)
theorem yfU (n : Int) (l w : List Int) : (yd1 n l w).2.1.length ≤ l.length := by
 unfold yd1
 by_cases h : (matB n l && ycC n w) = true
 ·rw [if_pos h]
  have := ye2 (ints ((l.map Int.toNat).map (yb0 w))) []
  rw [ints_len, List.length_map, List.length_map, List.length_nil, Nat.zero_add] at this
  exact this
 ·rw [if_neg h]; exact Nat.zero_le _
theorem yeM (n : Int) (l w : List Int) (hl : l.length ≤ 8796093022208) (hw : w.length ≤ 17592186044416) : Ev (fun k => yV.f k n l w) (yd1 n l w) := by
 unfold yV.f yd1
 refine Ev.bind (yc6 n l (by omega)) ?_
 by_cases h : matB n l = true
 ·rw [h, Bool.true_and]
  refine Ev.ifp rfl (Ev.bind (yf4 n w hw) ?_)
  by_cases h2 : ycC n w = true
  ·rw [if_pos h2]
   obtain ⟨m, L, rfl, hm, rfl, _, h256, _⟩ := yb4 h
   rw [ints_len] at hl
   have hwm : (w.length : Int) = (m : Int) := ygd h2
   rw [← hwm] at h2
   obtain ⟨h8, hmem⟩ := yfk h2
   rw [show (ints L).map Int.toNat = L from yat L]
   rw [← hwm]
   exact Ev.ifp h2 (Ev.bind (yev w L hw hl hmem h256) (Ev.now _))
  ·rw [if_neg h2]; exact Ev.ifn h2 (Ev.now _)
 ·rw [Bool.eq_false_iff.2 h, Bool.false_and]
  exact Ev.ifn (by decide) (Ev.now _)
end Go.Proofs.Ytimkekeaeojpkaa.Q
namespace Go.Proofs.Ytimkekeaeojpkaa.Q
open Go Go.RowKit Go.Proofs.Ytimkekeaeojpkaa.A Go.Proofs.YtimkekeaeojpkaaW.PrintWords Go.Proofs.YtimkekeaeojpkaaW.PrintLast Go.Proofs.YtimkekeaeojpkaaW.PrintMore Go.Proofs.Ytimkekeaeojpkaa.Z
set_option linter.unusedVariables false
set_option linter.unusedSimpArgs false
theorem yer {b : List Int} (hb : b.length ≤ 17592186044416) {p h : Int} (hp : 0 ≤ p) {n : Nat} (hn : n ≤ 9) : ExE (fun k => yS.f k b p h (n : Int)) (fun r => r.1.length = n ∧ 0 ≤ r.2.1) := by
 unfold yS.f
 have hd := down (P := fun i => ∀ (l : List Int) (p h : Int), 0 ≤ p → l.length = i → ExE (fun k => yS.l0 k (n : Int) l (i : Int) b p h) (fun r => r.1.length = n ∧ 0 ≤ r.2.1)) n
  (by
   intro l p h hp hl
   apply ExE.step
   ·intro k; rw [yS.l0, if_neg (by omega)]
   ·exact ExE.now ⟨hl, hp⟩)
  (by
   intro i hi ih l p h hp hl
   apply ExE.step
   ·intro k; rw [yS.l0, if_pos (by omega), yay hi (by omega)]
   ·obtain ⟨v, ev, v1, v2, _, v3⟩ := yaM hb (h := h) hp (wrap64 ((l.length : Int) + 1))
    refine ExE.cbind (P := fun a => a = v) ⟨v, ev, rfl⟩ ?_
    intro v' e
    subst e
    rw [yak (n := (l.length : Int) + 1) (by omega) (by omega)] at v2
    have v2 := v2 (by omega)
    refine ExE.cbind (P := fun y => y = []) ⟨_, rfl, rfl⟩ ?_
    rintro y rfl
    refine ExE.ifp v1 (ExE.ifp (by omega) ?_)
    refine ExE.cbind (P := fun y => y = l.drop v'.1.toNat) ⟨_, rfl, rfl⟩ ?_
    rintro y rfl
    have h1 : (l.drop v'.1.toNat).length ≤ l.length := by rw [List.length_drop]; omega
    have h2 : (l.take v'.1.toNat).length ≤ l.length := by rw [List.length_take]; omega
    have h3 : (l.take v'.1.toNat).length + (l.drop v'.1.toNat).length = l.length := by rw [List.length_take, List.length_drop]; omega
    refine ExE.ifp (by simp only [List.length_nil]; omega) ?_
    refine ExE.cbind (P := fun y => y = l.drop v'.1.toNat) ⟨_, rfl, by simp⟩ ?_
    rintro y rfl
    refine ExE.cbind (P := fun y => y = l.take v'.1.toNat) ⟨_, rfl, rfl⟩ ?_
    rintro y rfl
    refine ExE.ifp (by omega) ?_
    refine ExE.cbind (P := fun y => y = l.take v'.1.toNat ++ [(i : Int)]) ⟨_, rfl, rfl⟩ ?_
    rintro y rfl
    refine ExE.ifp (by rw [List.length_append, List.length_singleton]; omega) (ih _ _ _ v3 ?_)
    rw [List.length_append, List.length_append, List.length_singleton]
    omega)
 exact hd [] _ _ hp rfl
def TwoP (q : Int × List Int × Int × List Int × Int × Int) : Prop := q.2.1.length ≤ 300 ∧ q.2.2.2.1.length ≤ 300 ∧ 0 ≤ q.2.2.2.2.1 ∧ 0 ≤ q.1 ∧ q.1 ≤ 8
theorem yeP {b : List Int} (hb : b.length ≤ 17592186044416) {p h : Int} (hp : 0 ≤ p) : ExE (fun k => yai.f k b p h) TwoP := by
 unfold yai.f
 refine ExE.bind (ye5 hb hp (by decide) (by decide)) ?_
 rintro m ⟨m1, m2, m3, m4⟩
 obtain ⟨u, eu, u1⟩ := yeQ hb (h := m.2.2.2) m4 12
 refine ExE.cbind (P := fun a => a = u) ⟨u, eu, rfl⟩ ?_
 intro u' e
 subst e
 refine ExE.ite (fun _ => ?_) (fun _ => ?_)
 ·refine ExE.bind (yg6 hb u1 (by decide) (by decide)) ?_
  rintro q ⟨_, _, q1, q2⟩
  exact ExE.now ⟨by simp only []; omega, q1, q2, m1, m2⟩
 obtain ⟨v, ev, v1, v2, _, v3⟩ := yaM hb (h := u'.2.2) u1 3
 refine ExE.cbind (P := fun a => a = v) ⟨v, ev, rfl⟩ ?_
 intro v' e
 subst e
 obtain ⟨mn, hmn⟩ := Int.eq_ofNat_of_zero_le m1
 refine ExE.ite (fun _ => ?_) (fun _ => ExE.ite (fun _ => ?_) (fun _ => ?_))
 ·rw [hmn]
  refine ExE.bind (yer hb v3 (n := mn) (by omega)) ?_
  rintro q ⟨q1, q2⟩
  refine ExE.ev (yeM _ _ _ (by omega) (by omega)) ?_
  have := yfU (mn : Int) m.2.1 q.1
  exact ExE.now ⟨by simp only []; omega, by simp only []; omega, q2, by simp only []; omega, by simp only []; omega⟩
 ·refine ExE.bind (ygm hb v3 m.1) ?_
  rintro q ⟨q1, q2⟩
  refine ExE.ev (ydW _ _ (by omega)) ?_
  have := yhJ m.1 q.1
  exact ExE.now ⟨by simp only []; omega, by simp only []; omega, q2, m1, m2⟩
 ·rw [hmn]
  refine ExE.bind (ydw hb v3 (n := mn) (by omega)) ?_
  rintro q ⟨q1, q2, q3⟩
  exact ExE.now ⟨by simp only []; omega, by simp only []; omega, q3, by simp only []; omega, by simp only []; omega⟩
end Go.Proofs.Ytimkekeaeojpkaa.Q
namespace Go.Proofs.Ytimkekeaeojpkaa.Q
open Go Go.RowKit Go.Proofs.Ytimkekeaeojpkaa.A Go.Proofs.YtimkekeaeojpkaaW.PrintWords Go.Proofs.YtimkekeaeojpkaaW.PrintLast Go.Proofs.YtimkekeaeojpkaaW.PrintMore Go.Proofs.Ytimkekeaeojpkaa.Z
set_option linter.unusedVariables false
set_option linter.unusedSimpArgs false
def togB (n : Int) (l : List Int) (n' : Int) (l' : List Int) : Bool := matB n l && (matB n' l' && decide (n = n'))
theorem yfl (n : Int) (l : List Int) (n' : Int) (l' : List Int) (hl : l.length ≤ 17592186044416) (hl' : l'.length ≤ 17592186044416) : Ev (fun k => yaE.f k n l n' l') (togB n l n' l') := by
 unfold yaE.f togB
 refine Ev.bind (yeq n l hl) ?_
 by_cases h1 : matB n l = true
 ·refine Ev.ifp h1 ?_
  rw [h1, Bool.true_and]
  refine Ev.bind (yeq n' l' hl') ?_
  by_cases h2 : matB n' l' = true
  ·refine Ev.ifp h2 ?_
   rw [h2, Bool.true_and]
   have : (n == n') = decide (n = n') := by rw [Bool.eq_iff_iff]; simp
   rw [this]
   exact Ev.now _
  ·refine Ev.ifn h2 ?_
   rw [Bool.eq_false_iff.2 h2, Bool.false_and]
   exact Ev.now _
 ·refine Ev.ifn h1 ?_
  rw [Bool.eq_false_iff.2 h1, Bool.false_and]
  exact Ev.now _
def ycn (n : Int) (l : List Int) (n' : Int) (l' : List Int) (s : Int) : Bool := togB n l n' l' && (indB (l.map Int.toNat) s && indB (l'.map Int.toNat) s)
theorem yc1 (n : Int) (l : List Int) (n' : Int) (l' : List Int) (s : Int) (hl : l.length ≤ 17592186044416) (hl' : l'.length ≤ 17592186044416) : Ev (fun k => yaW.f k n l n' l' s) (ycn n l n' l' s) := by
 unfold yaW.f ycn
 refine Ev.bind (yfl n l n' l' hl hl') ?_
 by_cases h : togB n l n' l' = true
 ·refine Ev.ifp h ?_
  rw [h, Bool.true_and]
  simp only [togB, Bool.and_eq_true, decide_eq_true_eq] at h
  obtain ⟨m, L, rfl, hm, rfl, hL, hL256, _, hne⟩ := yb4 h.1
  obtain ⟨m', L', rfl, hm', rfl, hL', hL256', _, hne'⟩ := yb4 h.2.1
  rw [ints_len] at hl hl'
  rw [show (ints L).map Int.toNat = L from yat L, show (ints L').map Int.toNat = L' from yat L']
  refine Ev.bind (ycE _ L s hl hL256) ?_
  by_cases h1 : indB L s = true
  ·refine Ev.ifp h1 ?_
   rw [h1, Bool.true_and]
   exact Ev.bind (ycE _ L' s hl' hL256') (Ev.now _)
  ·refine Ev.ifn h1 ?_
   rw [Bool.eq_false_iff.2 h1, Bool.false_and]
   exact Ev.now _
 ·refine Ev.ifn h ?_
  rw [Bool.eq_false_iff.2 h, Bool.false_and]
  exact Ev.now _
theorem ycw (n : Int) (l : List Int) (n' : Int) (l' : List Int) (s : Int) (hl : l.length ≤ 17592186044416) (hl' : l'.length ≤ 17592186044416) : Ev (fun k => yaH.f k n l n' l' s) (ycn n l n' l' s) := by
 unfold yaH.f ycn togB
 refine Ev.bind (yc6 n l hl) ?_
 by_cases h1 : matB n l = true
 ·refine Ev.ifp h1 (Ev.bind (yc6 n' l' hl') ?_)
  rw [h1, Bool.true_and]
  by_cases h2 : matB n' l' = true
  ·refine Ev.ifp h2 ?_
   rw [h2, Bool.true_and]
   by_cases hn : n = n'
   ·refine Ev.ifp hn ?_
    subst hn
    rw [show decide (n = n) = true from by simp, Bool.true_and]
    obtain ⟨m, L, rfl, hm, rfl, hL, hL256, _, hne⟩ := yb4 h1
    obtain ⟨m', L', hmm, hm', rfl, hL', hL256', _, hne'⟩ := yb4 h2
    rw [ints_len] at hl hl'
    rw [show (ints L).map Int.toNat = L from yat L, show (ints L').map Int.toNat = L' from yat L']
    refine Ev.cbind (specIsSet_eq _ _) ?_
    by_cases hs : ybw (m : Int) s = true
    ·refine Ev.ifp hs ?_
     obtain ⟨_, t, _, rfl, _, _, ht⟩ := ybW hs
     rw [ycB ht, ycB ht]
     refine Ev.bind (ycm _ L t hl hL256 hne ht) ?_
     by_cases hi : indN L t = true
     ·refine Ev.ifp hi ?_
      rw [hi, Bool.true_and]
      exact Ev.bind (ycm _ L' t hl' hL256' hne' ht) (Ev.now _)
     ·refine Ev.ifn hi ?_
      rw [Bool.eq_false_iff.2 hi, Bool.false_and]
      exact Ev.now _
    ·refine Ev.ifn hs ?_
     have : indB L s = false := by
      rw [Bool.eq_false_iff]
      intro hi
      obtain ⟨t, rfl, ht, _⟩ := yhv hL hi
      apply hs
      rw [yda]
      simp [hm, ht]
     rw [this, Bool.false_and]
     exact Ev.now _
   ·refine Ev.ifn hn ?_
    rw [show decide (n = n') = false from by simpa using hn, Bool.false_and]
    exact Ev.now _
  ·refine Ev.ifn h2 ?_
   rw [Bool.eq_false_iff.2 h2, Bool.false_and, Bool.false_and]
   exact Ev.now _
 ·refine Ev.ifn h1 ?_
  rw [Bool.eq_false_iff.2 h1, Bool.false_and, Bool.false_and]
  exact Ev.now _
end Go.Proofs.Ytimkekeaeojpkaa.Q
namespace Go.Proofs.Ytimkekeaeojpkaa.Q
open Go Go.RowKit Go.Proofs.YtimkekeaeojpkaaW.PrintWords Go.Proofs.YtimkekeaeojpkaaW.PrintLast Go.Proofs.YtimkekeaeojpkaaW.PrintMore Go.Proofs.Ytimkekeaeojpkaa.Z
set_option linter.unusedVariables false
set_option linter.unusedSimpArgs false
theorem ycN {n n' : Int} {l l' : List Int} (h : togB n l n' l' = true) : ∃ (m : Nat) (L L' : List Nat), n = m ∧ n' = m ∧ m ≤ 8 ∧ l = ints L ∧ l' = ints L' ∧ (∀ x ∈ L, x < 2 ^ m) ∧ (∀ x ∈ L', x < 2 ^ m) ∧ (∀ x ∈ L, x < 256) ∧ (∀ x ∈ L', x < 256) ∧ L ≠ [] ∧ L' ≠ [] := by
 simp only [togB, Bool.and_eq_true, decide_eq_true_eq] at h
 obtain ⟨h1, h2, h3⟩ := h
 obtain ⟨m, L, rfl, hm, rfl, hL, hL256, _, hne⟩ := yb4 h1
 obtain ⟨m', L', rfl, hm', rfl, hL', hL256', _, hne'⟩ := yb4 h2
 have : m = m' := by omega
 subst this
 exact ⟨m, L, L', rfl, rfl, hm, rfl, rfl, hL, hL', hL256, hL256', hne, hne'⟩
theorem ydu (n : Int) (l : List Int) (n' : Int) (l' : List Int) : ycn n l n' l' 0 = togB n l n' l' := by
 unfold ycn
 by_cases h : togB n l n' l' = true
 ·rw [h, Bool.true_and]
  obtain ⟨m, L, L', rfl, rfl, hm, rfl, rfl, hL, hL', hL256, hL256', hne, hne'⟩ := ycN h
  rw [show (ints L).map Int.toNat = L from yat L, show (ints L').map Int.toNat = L' from yat L']
  have hz : ∀ M : List Nat, M ≠ [] → indB M 0 = true := fun M hM => by
   have := @ycB M 0 (by omega)
   rw [show ((0 : Nat) : Int) = 0 from rfl] at this
   rw [this, indN_iff]
   obtain ⟨b, hb⟩ := List.exists_mem_of_ne_nil M hM
   exact ⟨b, hb, ydI b⟩
  rw [hz L hne, hz L' hne']
  rfl
 ·rw [Bool.eq_false_iff.2 h, Bool.false_and]
theorem yd4 (L : List Nat) (s : Nat) : rkN L s ≤ 8 := Nat.le_trans (ych L s) (ydm s)
end Go.Proofs.Ytimkekeaeojpkaa.Q
