/- The pure side of the law FnAugmented: what the Lean functions of the print compute, and that the law holds of them. Conditions: those in each lemma. -/
import Derived.Test.YtimkekeaeojpkaaMFnAugmented1
import Derived.Test.YtimkekeaeojpkaaMFnAugmented2
import Derived.Test.YtimkekeaeojpkaaMFnAugmented3
import Derived.Test.YtimkekeaeojpkaaMFnAugmented4
import Derived.Test.YtimkekeaeojpkaaMFnAugmented5
import Derived.Test.YtimkekeaeojpkaaMFnAugmented6
import Derived.Test.YtimkekeaeojpkaaMFnAugmentedq0
namespace Go.Proofs.Ytimkekeaeojpkaa.Q
open Go Go.RowKit Go.Proofs.Ytimkekeaeojpkaa.A Go.Proofs.YtimkekeaeojpkaaW.PrintWords Go.Proofs.YtimkekeaeojpkaaW.PrintLast Go.Proofs.YtimkekeaeojpkaaW.PrintMore Go.Proofs.Ytimkekeaeojpkaa.Z
set_option linter.unusedVariables false
set_option linter.unusedSimpArgs false
theorem l1In_eq (a b c : Int) : bv.f a b c = some (decide (b ≤ a) && decide (a ≤ c)) := by
 unfold bv.f; by_cases h : a ≥ b
 ·rw [if_pos h]; simp [h]
 ·rw [if_neg h]; simp only [ge_iff_le] at h; simp [h]
theorem isSize_eq (a : Int) : cT.f a = some (decide (0 ≤ a) && decide (a ≤ 8)) := by
 unfold cT.f; by_cases h : a ≥ 0
 ·rw [if_pos h]; simp [h]
 ·rw [if_neg h]; simp only [ge_iff_le] at h; simp [h]
theorem specIsSet_eq (n s : Int) : aY.f n s = some (du n s) := by
 unfold aY.f; rw [l1In_eq, Option.bind_some]; unfold du; by_cases h : (decide (0 ≤ n) && decide (n ≤ 8)) = true
 ·rw [if_pos h, if_pos (cI _), l1In_eq, Option.bind_some, h, Bool.true_and]; simp only [Bool.and_eq_true, decide_eq_true_eq] at h; obtain ⟨m, rfl⟩ := Int.eq_ofNat_of_zero_le h.1; have h8 : m ≤ 8 := by omega
  rw [dR (by omega) (by omega), cQ (by omega)]; have hp := cn h8; rw [Int.toNat_natCast]; have e : (2 : Int) ^ m = ((2 ^ m : Nat) : Int) := by simp
  rw [e]; generalize 2 ^ m = q at hp; rw [bF (by omega) (by omega)]
  congr 2
  rw [Bool.eq_iff_iff]; simp only [decide_eq_true_eq]; omega
 ·rw [if_neg h, Bool.eq_false_iff.2 h, Bool.false_and]
theorem implIsSet_eq (n s : Int) : dc.f n s = some (du n s) := by
 unfold dc.f; rw [isSize_eq, Option.bind_some]; unfold du; by_cases h : (decide (0 ≤ n) && decide (n ≤ 8)) = true
 ·rw [if_pos h, h, Bool.true_and]; simp only [Bool.and_eq_true, decide_eq_true_eq] at h; by_cases hs : s ≥ 0
  ·rw [if_pos hs, if_pos h.1]; obtain ⟨m, rfl⟩ := Int.eq_ofNat_of_zero_le h.1; rw [cQ (by omega), Int.toNat_natCast]; have e : ((2 ^ m : Nat) : Int) = 2 ^ m := by simp
   rw [e]; have : decide (0 ≤ s) = true := by simpa using hs
   rw [this, Bool.true_and]
  ·rw [if_neg hs]; have : decide (0 ≤ s) = false := by simpa using hs
   rw [this, Bool.false_and]
 ·rw [if_neg h, Bool.eq_false_iff.2 h, Bool.false_and]
theorem iR (s : Int) : du 8 s = cG s := by
 unfold du cG; rw [Bool.eq_iff_iff]; simp
theorem isAny_eq (s : Int) : bW.f s = some (cG s) := by
 unfold bW.f cG; by_cases h : s ≥ 0
 ·rw [if_pos h]; simp [h]
 ·rw [if_neg h]; simp only [ge_iff_le] at h; simp [h]
theorem dY {s : Int} (h : cG s = true) : ∃ t : Nat, s = t ∧ t < 256 := by
 simp only [cG, Bool.and_eq_true, decide_eq_true_eq] at h; obtain ⟨t, rfl⟩ := Int.eq_ofNat_of_zero_le h.1; exact ⟨t, rfl, by omega⟩
theorem implHas_eq (s e : Int) : aE.f s e = some (hasB s e) := by
 unfold aE.f hasB; rw [isAny_eq, Option.bind_some]; by_cases h : cG s = true
 ·rw [if_pos h, h, Bool.true_and]; obtain ⟨t, rfl, ht⟩ := dY h; by_cases h0 : e ≥ 0
  ·rw [if_pos h0]; obtain ⟨m, rfl⟩ := Int.eq_ofNat_of_zero_le h0; by_cases h8 : (m : Int) < 8
   ·rw [if_pos h8, if_pos h0, kz (aZ ht)]; simp [h8]
   ·rw [if_neg h8]; simp [h8]
  ·rw [if_neg h0]; simp only [ge_iff_le] at h0; simp [h0]
 ·rw [if_neg h, Bool.eq_false_iff.2 h]; simp
theorem cX {s e : Nat} (hs : s < 2 ^ 63) (he : e < 2 ^ 63) : az.f (s : Int) (e : Int) = some (s.testBit e) := by
 unfold az.f; rw [if_pos (cI _), dR (by omega) (by omega), kz hs]
theorem specHas_eq (s e : Int) : cj.f s e = some (hasB s e) := by
 unfold cj.f hasB; rw [specIsSet_eq, Option.bind_some, iR]; by_cases h : cG s = true
 ·rw [if_pos h, h, Bool.true_and, l1In_eq, Option.bind_some]; obtain ⟨t, rfl, ht⟩ := dY h; by_cases h0 : (decide (0 ≤ e) && decide (e ≤ 7)) = true
  ·rw [if_pos h0]; simp only [Bool.and_eq_true, decide_eq_true_eq] at h0; obtain ⟨m, rfl⟩ := Int.eq_ofNat_of_zero_le h0.1; rw [cX (aZ ht) (by omega), Option.bind_some]; have : decide ((m : Int) < 8) = true := by simp; omega
   simp [this]
  ·rw [if_neg h0]; have : (decide (0 ≤ e) && decide (e < 8)) = false := by
    rw [Bool.eq_false_iff]; intro hc
    apply h0
    simp only [Bool.and_eq_true, decide_eq_true_eq] at *; omega
   rw [this, Bool.false_and]
 ·rw [if_neg h, Bool.eq_false_iff.2 h]; simp
def ExE {α : Type} (g : Nat → Option α) (P : α → Prop) : Prop := ∃ r, Ev g r ∧ P r
theorem ExE.now {α : Type} {r : α} {P : α → Prop} (h : P r) : ExE (fun _ => some r) P := ⟨r, Ev.now _, h⟩
theorem ExE.bind {α β : Type} {g : Nat → Option α} {f : Nat → α → Option β} {P : α → Prop} {R : β → Prop} (h : ExE g P) (k : ∀ a, P a → ExE (fun n => f n a) R) : ExE (fun n => (g n).bind (f n)) R := by
 obtain ⟨a, ha, hp⟩ := h; obtain ⟨b, hb, hr⟩ := k a hp; exact ⟨b, Ev.bind ha hb, hr⟩
theorem ExE.cbind {α β : Type} {g : Option α} {f : Nat → α → Option β} {P : α → Prop} {R : β → Prop} (h : ∃ a, g = some a ∧ P a) (k : ∀ a, P a → ExE (fun n => f n a) R) : ExE (fun n => g.bind (f n)) R := by
 obtain ⟨a, ha, hp⟩ := h; obtain ⟨b, hb, hr⟩ := k a hp; exact ⟨b, Ev.cbind ha hb, hr⟩
theorem ExE.ev {α β : Type} {g : Nat → Option α} {f : Nat → α → Option β} {a : α} {R : β → Prop} (h : Ev g a) (k : ExE (fun n => f n a) R) : ExE (fun n => (g n).bind (f n)) R := by
 obtain ⟨b, hb, hr⟩ := k; exact ⟨b, Ev.bind h hb, hr⟩
theorem ExE.ite {α : Type} {c : Prop} [Decidable c] {g f : Nat → Option α} {P : α → Prop} (h : c → ExE g P) (k : ¬ c → ExE f P) : ExE (fun n => if c then g n else f n) P := by
 by_cases hc : c
 ·obtain ⟨r, hr, hp⟩ := h hc; exact ⟨r, Ev.ifp hc hr, hp⟩
 ·obtain ⟨r, hr, hp⟩ := k hc; exact ⟨r, Ev.ifn hc hr, hp⟩
theorem ExE.ifp {α : Type} {c : Prop} [Decidable c] {g f : Nat → Option α} {P : α → Prop} (hc : c) (h : ExE g P) : ExE (fun n => if c then g n else f n) P := ExE.ite (fun _ => h) (fun k => absurd hc k)
theorem ExE.step {α : Type} {g f : Nat → Option α} {P : α → Prop} (h : ∀ k, g (k + 1) = f k) (k : ExE f P) : ExE g P := by
 obtain ⟨r, hr, hp⟩ := k; exact ⟨r, Ev.step h hr, hp⟩
theorem ExE.imp {α : Type} {g : Nat → Option α} {P R : α → Prop} (h : ExE g P) (k : ∀ a, P a → R a) : ExE g R := by
 obtain ⟨r, hr, hp⟩ := h; exact ⟨r, hr, k r hp⟩
theorem ExE.of {α : Type} {g : Nat → Option α} {r : α} {P : α → Prop} (h : Ev g r) (hp : P r) : ExE g P := ⟨r, h, hp⟩
theorem iU (v : Int) : 0 ≤ Go.bits .and .i64 v 255 ∧ Go.bits .and .i64 v 255 < 256 := by
 have h : ∀ n : Nat, n ≤ 255 → IntKind.i64.wrap (n : Int) = (n : Int) := fun n hn => dF (by omega)
 simp only [Go.bits, BitVec.toNat_and]; have hle : (BitVec.ofInt IntKind.i64.bits v).toNat &&& (BitVec.ofInt IntKind.i64.bits 255).toNat ≤ 255 := Nat.le_trans Nat.and_le_right (by decide); rw [h _ hle]; omega
theorem et {b : List Int} (hb : b.length ≤ 17592186044416) {p h : Int} (hp : 0 ≤ p) : ∃ r, cr.f b p h = some r ∧ 0 ≤ r.1 ∧ r.1 < 256 ∧ 0 ≤ r.2.1 := by
 unfold cr.f; by_cases h1 : p < (b.length : Int)
 ·rw [if_pos h1, if_pos hp]; exact ⟨_, rfl, (iU _).1, (iU _).2, by show 0 ≤ wrap64 (p + 1); rw [bF (n := p + 1) (by omega) (by omega)]; omega⟩
 ·rw [if_neg h1]; exact ⟨_, rfl, (iU _).1, (iU _).2, hp⟩
theorem kL {x n : Int} (hx : 0 ≤ x) (hn : 0 < n) : 0 ≤ Int.tmod x n ∧ Int.tmod x n < n := by
 rw [Int.tmod_eq_emod_of_nonneg hx]; exact ⟨Int.emod_nonneg _ (by omega), Int.emod_lt_of_pos _ hn⟩
theorem ca {b : List Int} (hb : b.length ≤ 17592186044416) {p h : Int} (hp : 0 ≤ p) (n : Int) : ∃ r, ao.f b p h n = some r ∧ 0 ≤ r.1 ∧ (0 < n → r.1 < n) ∧ (n ≤ 0 → r.1 = 0) ∧ 0 ≤ r.2.1 := by
 unfold ao.f; by_cases h1 : n ≤ 0
 ·rw [if_pos h1]; exact ⟨_, rfl, Int.le_refl _, fun h => by omega, fun _ => rfl, hp⟩
 rw [if_neg h1]; have hn : ¬ n = 0 := by omega
 by_cases h2 : n ≤ 256
 ·rw [if_pos h2]; obtain ⟨r, e, r1, r2, r3⟩ := et hb (h := h) hp; rw [e, Option.bind_some, if_neg hn]; have := kL r1 (show 0 < n by omega); exact ⟨_, rfl, this.1, fun _ => this.2, fun h => absurd h h1, r3⟩
 ·rw [if_neg h2]; obtain ⟨x, e, x1, x2, x3⟩ := et hb (h := h) hp; rw [e, Option.bind_some]; obtain ⟨y, e, y1, y2, y3⟩ := et hb (h := x.2.2) x3; rw [e, Option.bind_some]; obtain ⟨z, e, z1, z2, z3⟩ := et hb (h := y.2.2) y3; rw [e, Option.bind_some]; obtain ⟨w, e, w1, w2, w3⟩ := et hb (h := z.2.2) z3; rw [e, Option.bind_some, if_neg hn]; have e1 : 0 ≤ wrap64 ((wrap64 ((wrap64 ((wrap64 (x.1 * 16777216)) + (wrap64 (y.1 * 65536)))) + (wrap64 (z.1 * 256)))) + w.1) := by
   rw [bF (n := x.1 * 16777216) (by omega) (by omega), bF (n := y.1 * 65536) (by omega) (by omega), bF (n := z.1 * 256) (by omega) (by omega)]; rw [bF (n := x.1 * 16777216 + y.1 * 65536) (by omega) (by omega), bF (n := x.1 * 16777216 + y.1 * 65536 + z.1 * 256) (by omega) (by omega), bF (by omega) (by omega)]; omega
  have := kL e1 (show 0 < n by omega); exact ⟨_, rfl, this.1, fun _ => this.2, fun h => absurd h h1, w3⟩
theorem fc {b : List Int} (hb : b.length ≤ 17592186044416) {p h : Int} (hp : 0 ≤ p) (n : Int) : ∃ r, b6.f b p h n = some r ∧ 0 ≤ r.2.1 := by
 unfold b6.f; obtain ⟨r, e, _, _, _, r3⟩ := ca hb (h := h) hp n; rw [e, Option.bind_some]; exact ⟨_, rfl, r3⟩
theorem eM {b : List Int} (hb : b.length ≤ 17592186044416) {p h : Int} (hp : 0 ≤ p) {l : List Int} (hl : l ≠ []) : ∃ r, bZ.f b p h l = some r ∧ r.1 ∈ l ∧ 0 ≤ r.2.1 := by
 unfold bZ.f; obtain ⟨r, e, r1, r2, _, r3⟩ := ca hb (h := h) hp (l.length : Int); have h0 : 0 < l.length := List.length_pos_iff.2 hl; have hlt := r2 (by omega); rw [e, Option.bind_some, if_pos r1, if_pos hlt]; exact ⟨_, rfl, m6 l r.1 r1 hlt, r3⟩
theorem jj (l : List Int) (hl : l.length ≤ 17592186044416) : ExE (fun k => cm.f k l) (fun r => r.1 = l ∧ r.2.1 = 0) := by
 unfold cm.f; have hd := down (P := fun i => ∀ h : Int, ExE (fun k => cm.l0 k l h (i : Int)) (fun r => r.1 = l ∧ r.2.1 = 0)) l.length
  (by
   intro h
   apply ExE.step
   ·intro k; rw [cm.l0, if_neg (by omega)]
   ·exact ExE.now ⟨rfl, rfl⟩)
  (by
   intro i hi ih h
   apply ExE.step
   ·intro k; rw [cm.l0, if_pos (by omega), bG hi hl]
   ·refine ExE.ite (fun _ => ExE.ite (fun _ => ih _) (fun h => absurd (by omega) h)) (fun _ => ExE.now ⟨rfl, rfl⟩))
 exact hd _
def eY (m : Nat) : Nat := 2 ^ m - 1
theorem db {m : Nat} (hm : m ≤ 8) : bC.f (m : Int) = some ((eY m : Nat) : Int) := by
 unfold bC.f eY; have hp := cn hm; have h0 := Nat.two_pow_pos m; rw [l1In_eq, Option.bind_some, if_pos (by simp; omega), if_pos (cI _), dR (by omega) (by omega), cQ (by omega)]; generalize 2 ^ m = q at *; rw [bF (by omega) (by omega)]
 congr 1
 omega
theorem iY : ∀ (d x : Nat), x ≤ d → x < 256 → ∀ acc : Int, 0 ≤ acc → acc + (d : Int) ≤ 1000 → Ev (fun k => aN.l0 k (x : Int) acc) (acc + (pc x : Int)) := by
 intro d
 induction d with
 | zero =>
  intro x hx _ acc h0 h1; obtain rfl : x = 0 := by omega
  apply Ev.step
  ·intro k; simp only [aN.l0]; rw [if_neg (by decide)]
  ·rw [pc_zero, show acc + ((0 : Nat) : Int) = acc from by omega]; exact Ev.now _
 | succ d ih =>
  intro x hx h256 acc h0 h1; by_cases hz : x = 0
  ·subst hz; exact ih 0 (by omega) h256 acc h0 (by omega)
  ·have hb : Go.bits .and .i64 (x : Int) 1 = ((x % 2 : Nat) : Int) := by
    have := gv (a := x) (b := 1) (aZ h256) (by decide); rw [Nat.and_one_is_mod] at this; exact this
   apply Ev.step
   ·intro k; simp only [aN.l0]; rw [if_pos (by omega), hb, bF (by omega) (by omega), show (x : Int) / 2 = ((x / 2 : Nat) : Int) from by omega]
   ·have hp := mi x h256; have hl := jq (x / 2); have := ih (x / 2) (by omega) (by omega) (acc + ((x % 2 : Nat) : Int)) (by omega) (by omega); rw [show acc + ((x % 2 : Nat) : Int) + (pc (x / 2) : Int) = acc + (pc x : Int) from by omega] at this; exact this
theorem cF (s : Nat) (h : s < 256) : Ev (fun k => aN.f k (s : Int)) (pc s : Int) := by
 unfold aN.f; refine Ev.cbind (specIsSet_eq _ _) (Ev.ifp ?_ ?_)
 ·rw [iR, isAnyB_nat]; simpa using h
 ·have := iY s s (Nat.le_refl _) h 0 (by omega) (by omega); rw [Int.zero_add] at this; exact this
theorem kj (r n : Int) : ExE (fun k => bu.f k r n) (fun q => 0 ≤ q.1 ∧ q.1 ≤ 8 ∧ (0 ≤ n → q.1 ≤ n) ∧ q.2.length ≤ 256) := by
 unfold bu.f; refine ExE.cbind (P := fun a => a = (decide (0 ≤ n) && decide (n ≤ 8))) ⟨_, l1In_eq n 0 8, rfl⟩ ?_; rintro a rfl; have hno : ExE (fun k => bu.j0 k r n true) (fun q => 0 ≤ q.1 ∧ q.1 ≤ 8 ∧ (0 ≤ n → q.1 ≤ n) ∧ q.2.length ≤ 256) := by
  apply ExE.step
  ·intro k; rw [bu.j0]
  ·exact ExE.ifp rfl (ExE.now ⟨by simp, by simp, fun h => h, by simp⟩)
 refine ExE.ite (fun hn => ?_) (fun _ => hno); rw [Bool.and_eq_true, decide_eq_true_eq, decide_eq_true_eq] at hn; refine ExE.cbind (P := fun _ => True) ⟨_, l1In_eq r 0 n, trivial⟩ ?_; rintro a -; cases a
 ·exact hno
 obtain ⟨m, rfl⟩ := Int.eq_ofNat_of_zero_le hn.1; have hm : m ≤ 8 := by omega
 have h256 := cn hm; have hp := Nat.two_pow_pos m; have hd := down (P := fun i => ∀ l : List Int, l.length ≤ i → ExE (fun k => bu.l0 k r (m : Int) (i : Int) (m : Int) l) (fun q => 0 ≤ q.1 ∧ q.1 ≤ 8 ∧ (0 ≤ (m : Int) → q.1 ≤ (m : Int)) ∧ q.2.length ≤ 256)) (2 ^ m)
  (by
   intro l hl
   apply ExE.step
   ·intro k; rw [bu.l0, db hm, Option.bind_some, if_neg (by unfold eY; omega)]
   ·exact ExE.now ⟨by simp only []; omega, by simp only []; omega, fun _ => Int.le_refl _, by simp only []; omega⟩)
  (by
   intro i hi ih l hl
   apply ExE.step
   ·intro k; rw [bu.l0, db hm, Option.bind_some, if_pos (by unfold eY; omega), bG hi (by omega)]
   ·refine ExE.ev (cF i (by omega)) (ExE.ite (fun _ => ExE.ifp (by omega) (ih _ (by rw [List.length_append, List.length_singleton]; omega))) (fun _ => ih _ (by omega))))
 apply ExE.step
 ·intro k; rw [bu.j0]
 ·exact ExE.ite (fun h => absurd h (by decide)) (fun _ => hd [] (Nat.zero_le _))
section
variable {P : Int} {R N s : Nat}
theorem ix {x y : Nat} {a : List Int} (ha : a.length = R * N) (hx : x < R) (hy : y < N) (hR : R ≤ 8) (hN : N ≤ 8) : wrap64 ((wrap64 ((x : Int) * (N : Int))) + (y : Int)) = ((x * N + y : Nat) : Int) ∧ 0 ≤ ((x * N + y : Nat) : Int) ∧ ((x * N + y : Nat) : Int) < (a.length : Int) := by
 have h1 : x * N ≤ 7 * 8 := Nat.mul_le_mul (by omega) hN; have h2 : (x + 1) * N ≤ R * N := Nat.mul_le_mul (by omega) (Nat.le_refl N); rw [Nat.add_mul] at h2; rw [show (x : Int) * (N : Int) = ((x * N : Nat) : Int) from by simp, ha]; generalize x * N = q at *; generalize R * N = u at *; rw [bF (n := (q : Int)) (by omega) (by omega), bF (by omega) (by omega)]; exact ⟨by omega, by omega, by omega⟩
theorem ltc {x y : Nat} (h : x < y) : (x : Int) < (y : Int) := by omega
theorem gec {x y : Nat} (h : y ≤ x) : ¬ (x : Int) < (y : Int) := by omega
section
variable (hR : R ≤ 8) (hN : N ≤ 8) (hP : P ≠ 0) (j : Nat) (hj : j < N)
  (hnext : ∀ (a : List Int) (q : Nat), a.length = R * N → ExE (fun k => ah.l0 k P (R : Int) (N : Int) (s : Int) a (q : Int) (wrap64 ((j : Int) + 1))) (fun _ => True))
include hR hN hP hj hnext
theorem lF {q : Nat} (hq : q < R) : ∀ (c i : Nat), i + c = R → ∀ a : List Int, a.length = R * N → ExE (fun k => ah.l3 k P (R : Int) (N : Int) (s : Int) a (q : Int) (j : Int) (i : Int)) (fun _ => True) := by
 have hR' : R ≤ 17592186044416 := Nat.le_trans hR (by decide); have hN' : N ≤ 17592186044416 := Nat.le_trans hN (by decide); intro c
 induction c with
 | zero =>
  intro i hi a ha
  apply ExE.step
  ·intro k; rw [ah.l3, if_neg (gec (by omega)), bG hq hR']
  ·exact hnext a (q + 1) ha
 | succ c ih3 =>
  intro i hi a ha; have hiR : i < R := by omega
  have hnxt : i + 1 + c = R := by omega
  obtain ⟨e1, p1, l1⟩ := ix ha hiR hj hR hN; obtain ⟨e2, p2, l2⟩ := ix ha hq hj hR hN
  apply ExE.step
  ·intro k; rw [ah.l3, if_pos (ltc hiR), e1, e2, if_pos p1, if_pos l1, if_pos p2, if_pos l2]
  ·clear e1 e2 p1 p2 l1 l2; generalize rd a ((i * N + j : Nat) : Int) = x; generalize rd a ((q * N + j : Nat) : Int) = y; have hd := down (P := fun t => ∀ a : List Int, a.length = R * N → ExE (fun k => ah.l4 k P (R : Int) (N : Int) (s : Int) a (q : Int) (j : Int) (i : Int) x y (t : Int)) (fun _ => True)) N
    (by
     intro a ha
     apply ExE.step
     ·intro k; rw [ah.l4, if_neg (gec (Nat.le_refl N)), bG hiR hR']
     ·exact ih3 (i + 1) hnxt a ha)
    (by
     intro t ht ih4 a ha; obtain ⟨e3, p3, l3⟩ := ix ha hiR ht hR hN; obtain ⟨e4, p4, l4⟩ := ix ha hq ht hR hN
     apply ExE.step
     ·intro k; rw [ah.l4, if_pos (ltc ht), e3, e4, if_pos p3, if_pos l3, if_pos p4, if_pos l4, if_neg hP, bG ht hN']
     ·exact ih4 _ (by rw [List.length_set]; exact ha))
   exact hd a ha
theorem my {q at_ : Nat} (hq : q < R) (hat : at_ < R) (a : List Int) (ha : a.length = R * N) : ExE (fun k => ah.l2 k P (R : Int) (N : Int) (s : Int) a (q : Int) (j : Int) (at_ : Int) 0) (fun _ => True) := by
 have hR' : R ≤ 17592186044416 := Nat.le_trans hR (by decide); have hN' : N ≤ 17592186044416 := Nat.le_trans hN (by decide); have hb := lF hR hN hP j hj hnext hq (R - (q + 1)) (q + 1) (by omega); have hd := down (P := fun t => ∀ a : List Int, a.length = R * N → ExE (fun k => ah.l2 k P (R : Int) (N : Int) (s : Int) a (q : Int) (j : Int) (at_ : Int) (t : Int)) (fun _ => True)) N
  (by
   intro a ha
   apply ExE.step
   ·intro k; rw [ah.l2, if_neg (gec (Nat.le_refl N)), bG hq hR']
   ·exact hb a ha)
  (by
   intro t ht ih2 a ha; obtain ⟨e3, p3, l3⟩ := ix ha hat ht hR hN; obtain ⟨e4, p4, l4⟩ := ix ha hq ht hR hN
   apply ExE.step
   ·intro k; rw [ah.l2, if_pos (ltc ht), e3, e4, if_pos p3, if_pos l3, if_pos p4, if_pos l4, bG ht hN']
   ·exact ih2 _ (by rw [List.length_set, List.length_set]; exact ha))
 exact hd a ha
theorem je {q : Nat} (a : List Int) (ha : a.length = R * N) (at_ : Nat) (h1 : q ≤ at_) : ExE (fun k => ah.j2 k P (R : Int) (N : Int) (s : Int) a (q : Int) (j : Int) (at_ : Int)) (fun _ => True) := by
 apply ExE.step
 ·intro k; rw [ah.j2]
 ·exact ExE.ite (fun _ => hnext a q ha) (fun h => my hR hN hP j hj hnext (by omega) (by omega) a ha)
theorem mu {q : Nat} (a : List Int) (ha : a.length = R * N) : ∀ (c at_ : Nat), R - at_ = c → q ≤ at_ → ExE (fun k => ah.l1 k P (R : Int) (N : Int) (s : Int) a (q : Int) (j : Int) (at_ : Int)) (fun _ => True) := by
 have hR' : R ≤ 17592186044416 := Nat.le_trans hR (by decide); intro c
 induction c with
 | zero =>
  intro at_ h1 h4
  apply ExE.step
  ·intro k; rw [ah.l1, if_neg (gec (by omega))]
  ·exact je hR hN hP j hj hnext a ha at_ h4
 | succ c ih1 =>
  intro at_ h1 h4; have hatR : at_ < R := by omega
  have hn1 : R - (at_ + 1) = c := by omega
  have hn2 : q ≤ at_ + 1 := by omega
  obtain ⟨e1, p1, l1⟩ := ix ha hatR hj hR hN
  apply ExE.step
  ·intro k; rw [ah.l1, if_pos (ltc hatR), e1, if_pos p1, if_pos l1, bG hatR hR']
  ·exact ExE.ite (fun _ => ih1 (at_ + 1) hn1 hn2) (fun _ => je hR hN hP j hj hnext a ha at_ h4)
end
theorem ls (hR : R ≤ 8) (hN : N ≤ 8) (hP : P ≠ 0) : ∀ (d j : Nat), j + d = N → ∀ (a : List Int) (q : Nat), a.length = R * N → ExE (fun k => ah.l0 k P (R : Int) (N : Int) (s : Int) a (q : Int) (j : Int)) (fun _ => True) := by
 have hN' : N ≤ 17592186044416 := Nat.le_trans hN (by decide); intro d
 induction d with
 | zero =>
  intro j hj a q ha
  apply ExE.step
  ·intro k; rw [ah.l0, if_neg (gec (by omega))]
  ·exact ExE.now trivial
 | succ d ih =>
  intro j hj a q ha; have hj8 : j < N := by omega
  have hj1 : j + 1 + d = N := by omega
  have hnext : ∀ (a : List Int) (q : Nat), a.length = R * N → ExE (fun k => ah.l0 k P (R : Int) (N : Int) (s : Int) a (q : Int) (wrap64 ((j : Int) + 1))) (fun _ => True) := by
   intro a q ha; rw [bG hj8 hN']; exact ih (j + 1) hj1 a q ha
  apply ExE.step
  ·intro k; rw [ah.l0, if_pos (ltc hj8)]
  ·refine ExE.cbind (P := fun _ => True) ⟨_, by unfold az.f; rw [if_pos (cI _)], trivial⟩ ?_; rintro b -; exact ExE.ite (fun _ => mu hR hN hP j hj8 hnext a ha (R - q) q rfl (Nat.le_refl _)) (fun _ => hnext a q ha)
theorem ir (hR : R ≤ 8) (hN : N ≤ 8) (hP : P ≠ 0) {a : List Int} (ha : a.length = R * N) : ExE (fun k => ah.f k P (R : Int) (N : Int) a (s : Int)) (fun _ => True) := by
 unfold ah.f; refine ExE.cbind (P := fun y => y = []) ⟨_, rfl, rfl⟩ ?_; rintro y rfl; have h64 : R * N ≤ 8 * 8 := Nat.mul_le_mul hR hN; refine ExE.ifp (by rw [ha]; simp; omega) ?_; rw [List.nil_append]; exact ls hR hN hP N 0 (by omega) a 0 ha
theorem jm (hR : R ≤ 8) (hN : N ≤ 8) (hP : P ≠ 0) {a : List Int} (ha : a.length = R * N) : ExE (fun k => bN.f k P (R : Int) (N : Int) a) (fun q => q.1 = (N : Int) ∧ q.2.length ≤ 256) := by
 unfold bN.f; have h256 := cn hN; have hp := Nat.two_pow_pos N; refine ExE.cbind (P := fun x => x = ((eY N : Nat) : Int)) ⟨_, db hN, rfl⟩ ?_; rintro x rfl; refine ExE.bind (ir hR hN hP ha) ?_; rintro r -; have hd := down (P := fun i => ∀ l : List Int, l.length ≤ i → ExE (fun k => bN.l0 k P (R : Int) (N : Int) a r (i : Int) (N : Int) l) (fun q => q.1 = (N : Int) ∧ q.2.length ≤ 256)) (2 ^ N)
  (by
   intro l hl
   apply ExE.step
   ·intro k; rw [bN.l0, db hN, Option.bind_some, if_neg (by unfold eY; omega)]
   ·exact ExE.now ⟨rfl, by simp only []; omega⟩)
  (by
   intro i hi ih l hl
   apply ExE.step
   ·intro k; rw [bN.l0, db hN, Option.bind_some, if_pos (by unfold eY; omega), bG hi (by omega)]
   ·refine ExE.ev (cF i (by omega)) (ExE.ite (fun _ => ?_) (fun _ => ih _ (by omega))); refine ExE.bind (ir hR hN hP ha) ?_; rintro c -; exact ExE.ite (fun _ => ExE.ifp (by omega) (ih _ (by rw [List.length_append, List.length_singleton]; omega))) (fun _ => ih _ (by omega)))
 exact hd [] (Nat.zero_le _)
end
theorem fz {b : List Int} (hb : b.length ≤ 17592186044416) {p h : Int} (hp : 0 ≤ p) {n : Nat} (hn : n ≤ 8) : ExE (fun k => bp.f k b p h (n : Int)) (fun q => q.1 = (n : Int) ∧ q.2.1.length ≤ 256 ∧ 0 ≤ q.2.2.1) := by
 unfold bp.f; obtain ⟨u, eu, u1, u2⟩ := eM hb (h := h) hp (l := [2, 3, 5, 2]) (by simp); refine ExE.cbind (P := fun a => a = u) ⟨u, eu, rfl⟩ ?_; intro u' e; subst e; obtain ⟨v, ev, v1, v2, _, v3⟩ := ca hb (h := u'.2.2) u2 3; refine ExE.cbind (P := fun a => a = v) ⟨v, ev, rfl⟩ ?_; intro v' e; subst e; have v2 := v2 (by omega); obtain ⟨R, hR⟩ : ∃ R : Nat, wrap64 (1 + v'.1) = (R : Int) ∧ R ≤ 3 := by
  rw [bF (by omega) (by omega)]; exact ⟨(1 + v'.1).toNat, by omega, by omega⟩
 rw [hR.1]; have hRn : R * n ≤ 3 * 8 := Nat.mul_le_mul hR.2 hn; have hP : u'.1 ≠ 0 := by
  intro h0; rw [h0] at u1; simp at u1
 have hmul : wrap64 ((R : Int) * (n : Int)) = ((R * n : Nat) : Int) := by
  rw [show (R : Int) * (n : Int) = ((R * n : Nat) : Int) from by simp, bF (by omega) (by omega)]
 have hd := down (P := fun i => ∀ (l : List Int) (p h : Int), 0 ≤ p → l.length = i → ExE (fun k => bp.l0 k (n : Int) u'.1 (R : Int) l (i : Int) b p h) (fun q => q.1 = (n : Int) ∧ q.2.1.length ≤ 256 ∧ 0 ≤ q.2.2.1)) (R * n)
  (by
   intro l p h hp hl
   apply ExE.step
   ·intro k; rw [bp.l0, hmul, if_neg (by omega)]
   ·refine ExE.bind (jm (by omega) hn hP hl) ?_; rintro q ⟨q1, q2⟩; exact ExE.now ⟨q1, q2, hp⟩)
  (by
   intro i hi ih l p h hp hl; obtain ⟨x, ex, _, _, _, x3⟩ := ca hb (h := h) hp u'.1
   apply ExE.step
   ·intro k; rw [bp.l0, hmul, if_pos (by omega), bG hi (by omega)]
   ·refine ExE.cbind (P := fun a => a = x) ⟨x, ex, rfl⟩ ?_; rintro _ rfl; exact ExE.ifp (by omega) (ih _ _ _ x3 (by rw [List.length_append, List.length_singleton]; omega)))
 exact hd [] _ _ v3 rfl
theorem Ev.ofMono {α : Type} {g : Nat → Option α} (h : ∀ k, LeO (g k) (g (k + 1))) {K : Nat} {r : α} (e : g K = some r) : Ev g r := by
 refine ⟨K, fun k hk => ?_⟩; obtain ⟨d, rfl⟩ : ∃ d, k = K + d := ⟨k - K, by omega⟩; clear hk
 induction d with
 | zero => exact e
 | succ d ih => exact h (K + d) r ih
theorem dD {s : ByteArray} {r : Int × List Int × Bool} (h : bi.f 300 s = some r) {P : Int × List Int × Bool → Prop} (hp : P r) : ExE (fun k => bi.f k s) P := ⟨r, Ev.ofMono (g := fun k => bi.f k s) (fun k => bi.mono s k) h, hp⟩
theorem lr {b : List Int} (hb : b.length ≤ 17592186044416) {p h : Int} (hp : 0 ≤ p) {l : List ByteArray} (hl : l ≠ []) : ∃ r, dh.f b p h l = some r ∧ (∃ i, i < l.length ∧ r.1 = l.getD i ByteArray.empty) ∧ 0 ≤ r.2.1 := by
 unfold dh.f; obtain ⟨r, e, r1, r2, _, r3⟩ := ca hb (h := h) hp (l.length : Int); have h0 : 0 < l.length := List.length_pos_iff.2 hl; have hlt := r2 (by omega); rw [e, Option.bind_some, if_pos r1, if_pos hlt]; refine ⟨_, rfl, ⟨r.1.toNat, by omega, ?_⟩, r3⟩; unfold rdOf
 rfl
def NmP (r : Int × List Int × Bool) : Prop := 0 ≤ r.1 ∧ r.1 ≤ 8 ∧ r.2.1.length ≤ 256
theorem jS {b : List Int} (hb : b.length ≤ 17592186044416) {p h : Int} (hp : 0 ≤ p) : ExE (fun k => dk.f k b p h) (fun q => 0 ≤ q.1 ∧ q.1 ≤ 8 ∧ q.2.1.length ≤ 256 ∧ 0 ≤ q.2.2.1) := by
 unfold dk.f; obtain ⟨u, eu, ⟨i, hi, u1⟩, u2⟩ := lr hb (h := h) hp (l := [(⟨#[48, 32, 45]⟩ : ByteArray), (⟨#[49, 32, 45]⟩ : ByteArray), (⟨#[49, 32, 97]⟩ : ByteArray), (⟨#[52, 32, 97, 98, 44, 97, 99, 44, 98, 99, 44, 97, 100, 44, 98, 100, 44, 99, 100]⟩ : ByteArray), (⟨#[52, 32, 97, 98, 44, 97, 99, 44, 97, 100, 44, 98, 100, 44, 99, 100]⟩ : ByteArray), (⟨#[51, 32, 97, 44, 98]⟩ : ByteArray), (⟨#[53, 32, 97, 98, 44, 97, 99, 44, 98, 99, 44, 97, 100, 44, 98, 100]⟩ : ByteArray), (⟨#[50, 32, 45]⟩ : ByteArray), (⟨#[51, 32, 97, 98, 99]⟩ : ByteArray)]) (by simp); refine ExE.cbind (P := fun a => a = u) ⟨u, eu, rfl⟩ ?_; intro u' e; subst e; have key : ExE (fun k => bi.f k u'.1) NmP := by
  rw [u1]; simp only [List.length_cons, List.length_nil] at hi
  match i, hi with
  | 0, _ => exact dD (r := (0, [0], true)) (by decide +kernel) (by unfold NmP; decide)
  | 1, _ => exact dD (r := (1, [0], true)) (by decide +kernel) (by unfold NmP; decide)
  | 2, _ => exact dD (r := (1, [1], true)) (by decide +kernel) (by unfold NmP; decide)
  | 3, _ => exact dD (r := (4, [3, 5, 6, 9, 10, 12], true)) (by decide +kernel) (by unfold NmP; decide)
  | 4, _ => exact dD (r := (4, [3, 5, 9, 10, 12], true)) (by decide +kernel) (by unfold NmP; decide)
  | 5, _ => exact dD (r := (3, [1, 2], true)) (by decide +kernel) (by unfold NmP; decide)
  | 6, _ => exact dD (r := (5, [3, 5, 6, 9, 10], true)) (by decide +kernel) (by unfold NmP; decide)
  | 7, _ => exact dD (r := (2, [0], true)) (by decide +kernel) (by unfold NmP; decide)
  | 8, _ => exact dD (r := (3, [7], true)) (by decide +kernel) (by unfold NmP; decide)
  | n + 9, h => omega
 refine ExE.bind key ?_; rintro q ⟨q1, q2, q3⟩; exact ExE.now ⟨q1, q2, q3, u2⟩
theorem iB {b : List Int} (hb : b.length ≤ 17592186044416) {p h : Int} (hp : 0 ≤ p) {n : Int} (h0 : 0 ≤ n) (h8 : n ≤ 8) : ExE (fun k => b7.f k b p h n) (fun q => 0 ≤ q.1 ∧ q.1 ≤ 8 ∧ q.2.1.length ≤ 256 ∧ 0 ≤ q.2.2.1) := by
 unfold b7.f; rw [bF (n := n + 1) (by omega) (by omega)]; obtain ⟨u, eu, u1, u2, _, u3⟩ := ca hb (h := h) hp 6; refine ExE.cbind (P := fun a => a = u) ⟨u, eu, rfl⟩ ?_; intro u' e; subst e; have hcol : ∀ (p h : Int), 0 ≤ p → ExE (fun k => (ao.f b p h (n + 1)).bind fun x => ((bp.f k b x.2.1 x.2.2 x.1).bind fun y => (some (y.1, y.2.1, y.2.2.1, y.2.2.2)))) (fun q => 0 ≤ q.1 ∧ q.1 ≤ 8 ∧ q.2.1.length ≤ 256 ∧ 0 ≤ q.2.2.1) := by
  intro p h hp; obtain ⟨v, ev, v1, v2, _, v3⟩ := ca hb (h := h) hp (n + 1); refine ExE.cbind (P := fun a => a = v) ⟨v, ev, rfl⟩ ?_; intro v' e; subst e; have v2 := v2 (by omega); obtain ⟨m, hm⟩ := Int.eq_ofNat_of_zero_le v1; rw [hm]; refine ExE.bind (fz hb v3 (n := m) (by omega)) ?_; rintro q ⟨q1, q2, q3⟩; exact ExE.now ⟨by simp only []; omega, by simp only []; omega, q2, q3⟩
 refine ExE.ite (fun _ => ?_) (fun _ => ExE.ite (fun _ => ?_) (fun _ => hcol _ _ u3))
 ·obtain ⟨v, ev, v1, v2, _, v3⟩ := ca hb (h := u'.2.2) u3 (n + 1); refine ExE.cbind (P := fun a => a = v) ⟨v, ev, rfl⟩ ?_; intro v' e; subst e; obtain ⟨w, ew, w1, w2, _, w3⟩ := ca hb (h := v'.2.2) v3 (wrap64 (v'.1 + 1)); refine ExE.cbind (P := fun a => a = w) ⟨w, ew, rfl⟩ ?_; intro w' e; subst e; refine ExE.bind (kj w'.1 v'.1) ?_; rintro q ⟨q1, q2, q3, q4⟩; exact ExE.now ⟨q1, q2, q4, w3⟩
 ·refine ExE.bind (jS hb u3) ?_; rintro q ⟨q1, q2, q3, q4⟩; exact ExE.ite (fun _ => ExE.now ⟨q1, q2, q3, q4⟩) (fun _ => hcol _ _ q4)
def famG (n : Int) : Option Int → List Int → Bool
 | _, [] => decide (0 ≤ n) && decide (n ≤ 8)
 | p, x :: xs => du n x && ((match p with | none => true | some q => decide (q < x)) && famG n (some x) xs)
def famB (n : Int) (l : List Int) : Bool := famG n none l
def gj (l : List Int) (i : Nat) : Option Int := if i = 0 then none else some (rd l ((i - 1 : Nat) : Int))
theorem gU (l : List Int) (i : Nat) (hi : i < l.length) : gj l (i + 1) = some l[i] := by
 unfold gj; rw [if_neg (by omega), Nat.add_sub_cancel, b9 l i hi]
theorem gP (n : Int) (l : List Int) (hl : l.length ≤ 17592186044416) : Ev (fun k => aA.f k n l) (famB n l) := by
 have h := down (P := fun i => Ev (fun k => aA.l0 k n l (i : Int)) (famG n (gj l i) (l.drop i))) l.length
  (by
   apply Ev.step
   ·intro k; simp only [aA.l0, l1In_eq, Option.bind_some]; rw [if_neg (by omega)]
   ·rw [cO]; exact Ev.now _)
  (by
   intro i hi ih
   apply Ev.step
   ·intro k; simp only [aA.l0, specIsSet_eq, Option.bind_some]; rw [if_pos (by omega), if_pos (by omega), b9 l i hi, bG hi hl]
   ·rw [cp l i hi]; rw [gU l i hi] at ih; simp only [famG]; by_cases hx : du n l[i] = true
    ·refine Ev.ifp hx ?_; rw [hx, Bool.true_and]; by_cases h0 : (i : Int) > 0
     ·refine Ev.ifp h0 ?_; rw [bF (by omega) (by omega), show (i : Int) - 1 = ((i - 1 : Nat) : Int) from by omega]; refine Ev.ifp (by omega) (Ev.ifp (by omega) ?_); unfold gj; rw [if_neg (by omega)]; by_cases hq : rd l ((i - 1 : Nat) : Int) ≥ l[i]
      ·refine Ev.ifp hq ?_; simp only []; rw [show decide (rd l ((i - 1 : Nat) : Int) < l[i]) = false from by simpa using hq, Bool.false_and]; exact Ev.now _
      ·refine Ev.ifn hq ?_; simp only []; rw [show decide (rd l ((i - 1 : Nat) : Int) < l[i]) = true from by simpa using hq, Bool.true_and]; exact ih
     ·refine Ev.ifn h0 ?_; unfold gj; rw [if_pos (by omega)]; simp only [Bool.true_and]; exact ih
    ·refine Ev.ifn hx ?_; rw [Bool.eq_false_iff.2 hx, Bool.false_and]; exact Ev.now _)
 exact h
theorem gK (n : Int) (l : List Int) (hl : l.length ≤ 17592186044416) : Ev (fun k => bJ.f k n l) (famB n l) := by
 have h := down (P := fun i => Ev (fun k => bJ.l0 k n l l (l.length : Int) (i : Int)) (famG n (gj l i) (l.drop i))) l.length
  (by
   apply Ev.step
   ·intro k; simp only [bJ.l0, isSize_eq, Option.bind_some]; rw [if_neg (by omega)]
   ·rw [cO]; exact Ev.now _)
  (by
   intro i hi ih
   apply Ev.step
   ·intro k; simp only [bJ.l0, implIsSet_eq, Option.bind_some]; rw [if_pos (by omega), if_pos (by omega), if_pos (by omega), b9 l i hi, bG hi hl]
   ·rw [cp l i hi]; rw [gU l i hi] at ih; simp only [famG]; by_cases hx : du n l[i] = true
    ·refine Ev.ifp hx ?_; rw [hx, Bool.true_and]; by_cases h0 : (i : Int) > 0
     ·refine Ev.ifp h0 ?_; rw [bF (by omega) (by omega), show (i : Int) - 1 = ((i - 1 : Nat) : Int) from by omega]; refine Ev.ifp (by omega) (Ev.ifp (by omega) ?_); unfold gj; rw [if_neg (by omega)]; by_cases hq : l[i] ≤ rd l ((i - 1 : Nat) : Int)
      ·refine Ev.ifp hq ?_; simp only []; rw [show decide (rd l ((i - 1 : Nat) : Int) < l[i]) = false from by simpa using hq, Bool.false_and]; exact Ev.now _
      ·refine Ev.ifn hq ?_; simp only []; rw [show decide (rd l ((i - 1 : Nat) : Int) < l[i]) = true from by simpa using hq, Bool.true_and]; exact ih
     ·refine Ev.ifn h0 ?_; unfold gj; rw [if_pos (by omega)]; simp only [Bool.true_and]; exact ih
    ·refine Ev.ifn hx ?_; rw [Bool.eq_false_iff.2 hx, Bool.false_and]; exact Ev.now _)
 exact h
theorem kg (n : Int) : ∀ (l : List Int) (p : Option Int), famG n p l = true → (0 ≤ n ∧ n ≤ 8) ∧ (∀ x ∈ l, du n x = true) ∧ l.Pairwise (· < ·) ∧ (∀ q, p = some q → ∀ x ∈ l, q < x) := by
 intro l
 induction l with
 | nil =>
  intro p h; simp only [famG, Bool.and_eq_true, decide_eq_true_eq] at h; exact ⟨h, fun x hx => by simp at hx, List.Pairwise.nil, fun q _ x hx => by simp at hx⟩
 | cons y l ih =>
  intro p h; simp only [famG, Bool.and_eq_true] at h; obtain ⟨h1, h2, h3⟩ := h; obtain ⟨i1, i2, i3, i4⟩ := ih _ h3; refine ⟨i1, fun x hx => ?_, List.pairwise_cons.2 ⟨fun x hx => i4 y rfl x hx, i3⟩, fun q hq x hx => ?_⟩
  ·rcases List.mem_cons.1 hx with rfl | hx
   ·exact h1
   ·exact i2 x hx
  ·subst hq; simp only [decide_eq_true_eq] at h2; rcases List.mem_cons.1 hx with rfl | hx
   ·exact h2
   ·exact Int.lt_trans h2 (i4 y rfl x hx)
theorem hH {n : Int} {l : List Int} (h : famB n l = true) : ∃ (m : Nat) (L : List Nat), n = m ∧ m ≤ 8 ∧ l = L.map (fun x : Nat => (x : Int)) ∧ (∀ x ∈ L, x < 2 ^ m) ∧ L.Pairwise (· < ·) := by
 obtain ⟨h1, h2, h3, _⟩ := kg n l none h; obtain ⟨m, rfl⟩ := Int.eq_ofNat_of_zero_le h1.1; have hnn : ∀ x ∈ l, 0 ≤ x := fun x hx => by
  obtain ⟨_, t, _, rfl, _⟩ := eE (h2 x hx); omega
 have hl : l = (l.map Int.toNat).map (fun x : Nat => (x : Int)) := by
  rw [List.map_map]
  conv => lhs; rw [← List.map_id l]
  apply List.map_congr_left
  intro x hx; have := hnn x hx; simp only [id, Function.comp]; omega
 refine ⟨m, l.map Int.toNat, rfl, by omega, hl, fun x hx => ?_, ?_⟩
 ·obtain ⟨y, hy, rfl⟩ := List.mem_map.1 hx; obtain ⟨m', t, hm, rfl, _, ht, _⟩ := eE (h2 y hy); have : m = m' := by omega
  subst this; rw [Int.toNat_natCast]; exact ht
 ·rw [List.pairwise_map]; exact h3.imp_of_mem (fun {a b} ha hb hab => by
   have := hnn a ha; have := hnn b hb; omega)
def elsB (s : Int) : List Int := ((List.range 8).filter (fun e : Nat => hasB s (e : Int))).map (fun e : Nat => (e : Int))
theorem dA {i n : Nat} (h : i < n) : List.range' i (n - i) = i :: List.range' (i + 1) (n - (i + 1)) := by
 rw [show n - i = (n - (i + 1)) + 1 from by omega, List.range'_succ]
theorem eQ {s : Int} {i : Nat} (l : List Nat) : ((i :: l).filter (fun e : Nat => hasB s (e : Int))).map (fun e : Nat => (e : Int)) = (if hasB s (i : Int) = true then [(i : Int)] else []) ++ (l.filter (fun e : Nat => hasB s (e : Int))).map (fun e : Nat => (e : Int)) := by
 rw [List.filter_cons]; by_cases h : hasB s (i : Int) = true
 ·rw [if_pos h, if_pos h]; rfl
 ·rw [if_neg h, if_neg h]; rfl
theorem eN (s : Int) : Ev (fun k => aV.f k s) (elsB s) := by
 have h := down (P := fun i => ∀ acc : List Int, acc.length ≤ i → Ev (fun k => aV.l0 k s acc (i : Int)) (acc ++ ((List.range' i (8 - i)).filter (fun e : Nat => hasB s (e : Int))).map (fun e : Nat => (e : Int)))) 8
  (by
   intro acc ha
   apply Ev.step
   ·intro k; simp only [aV.l0, implHas_eq, Option.bind_some]; rw [if_neg (by omega)]
   ·simpa using Ev.now _)
  (by
   intro i hi ih acc ha
   apply Ev.step
   ·intro k; simp only [aV.l0, implHas_eq, Option.bind_some]; rw [if_pos (by omega), bG hi (by omega)]
   ·rw [dA hi, eQ]; by_cases hx : hasB s (i : Int) = true
    ·refine Ev.ifp hx (Ev.ifp (by omega) ?_); rw [if_pos hx, ← List.append_assoc]; exact ih (acc ++ [(i : Int)]) (by simp; omega)
    ·refine Ev.ifn hx ?_; rw [if_neg hx]; exact ih acc (by omega))
 have h0 := h [] (Nat.le_refl 0); rw [show ((0 : Nat) : Int) = 0 from rfl] at h0; have e : elsB s = [] ++ ((List.range' 0 (8 - 0)).filter (fun e : Nat => hasB s (e : Int))).map (fun e : Nat => (e : Int)) := by
  unfold elsB; rw [List.nil_append, List.range_eq_range']
 rw [e]; unfold aV.f; exact h0
theorem lM {s x : Int} (h : x ∈ elsB s) : ∃ e : Nat, x = e ∧ e < 8 ∧ hasB s (e : Int) = true := by
 simp only [elsB, List.mem_map, List.mem_filter, List.mem_range] at h; obtain ⟨e, ⟨h1, h2⟩, rfl⟩ := h; exact ⟨e, rfl, h1, h2⟩
theorem jB (s : Int) : (elsB s).length ≤ 8 := by
 unfold elsB; rw [List.length_map]; exact Nat.le_trans (List.length_filter_le _ _) (by simp)
theorem g0 {s : Nat} (h : s < 256) : elsB (s : Int) = (els s).map (fun e : Nat => (e : Int)) := by
 have e : (List.range 8).filter (fun e : Nat => hasB (s : Int) (e : Int)) = (List.range 8).filter (fun e : Nat => s.testBit e) :=
  List.filter_congr (fun e he => by
   rw [List.mem_range] at he; rw [ey]; simp [h, he])
 unfold elsB els; rw [e]
theorem ff (x : Int) (l : List Int) (a : Int) : (x :: l).contains a = (decide (x = a) || l.contains a) := by
 rw [Bool.eq_iff_iff]; simp only [List.contains_iff_mem, List.mem_cons, Bool.or_eq_true, decide_eq_true_eq]
 constructor
 ·rintro (h | h)
  ·exact .inl h.symm
  ·exact .inr h
 ·rintro (h | h)
  ·exact .inl h.symm
  ·exact .inr h
theorem fj (l : List Int) (a : Int) (hl : l.length ≤ 17592186044416) : Ev (fun k => bh.f k l a) (l.contains a) := by
 have h := down (P := fun i => Ev (fun k => bh.l0 k l a (i : Int)) ((l.drop i).contains a)) l.length
  (by
   apply Ev.step
   ·intro k; simp only [bh.l0]; rw [if_neg (by omega)]
   ·rw [cO]; exact Ev.now _)
  (by
   intro i hi ih
   apply Ev.step
   ·intro k; simp only [bh.l0]; rw [if_pos (by omega), if_pos (by omega), b9 l i hi, bG hi hl]
   ·rw [cp l i hi, ff]; by_cases hx : l[i] = a
    ·refine Ev.ifp hx ?_; rw [show decide (l[i] = a) = true from by simpa using hx, Bool.true_or]; exact Ev.now _
    ·refine Ev.ifn hx ?_; rw [show decide (l[i] = a) = false from by simpa using hx, Bool.false_or]; exact ih)
 exact h
theorem lK (l : List Int) (a : Int) (hl : l.length ≤ 17592186044416) : ∃ r : Int, Ev (fun k => aw.f k l a) r ∧ (decide (r ≥ 0) = l.contains a) := by
 have h := down (P := fun i => ∃ r : Int, Ev (fun k => aw.l0 k l a (l.length : Int) (i : Int)) r ∧ (decide (r ≥ 0) = (l.drop i).contains a)) l.length
  (by
   refine ⟨-1, ?_, by rw [cO]; rfl⟩
   apply Ev.step
   ·intro k; simp only [aw.l0]; rw [if_neg (by omega)]
   ·exact Ev.now _)
  (by
   intro i hi ih; rw [cp l i hi, ff]; by_cases hx : l[i] = a
   ·refine ⟨(i : Int), ?_, ?_⟩
    ·apply Ev.step
     ·intro k; simp only [aw.l0]; rw [if_pos (by omega), if_pos (by omega), if_pos (by omega), b9 l i hi, if_pos hx.symm]
     ·exact Ev.now _
    ·rw [show decide (l[i] = a) = true from by simpa using hx, Bool.true_or]; simp
   ·obtain ⟨r, hr, hd⟩ := ih; refine ⟨r, ?_, ?_⟩
    ·apply Ev.step
     ·intro k; simp only [aw.l0]; rw [if_pos (by omega), if_pos (by omega), if_pos (by omega), b9 l i hi, if_neg (fun hc => hx hc.symm), bG hi hl]
     ·exact hr
    ·rw [show decide (l[i] = a) = false from by simpa using hx, Bool.false_or]; exact hd)
 exact h
theorem jf (l : List Int) (a : Int) (hl : l.length ≤ 17592186044416) : Ev (fun k => bA.f k l a) (l.contains a) := by
 obtain ⟨r, hr, hd⟩ := lK l a hl; unfold bA.f; refine Ev.bind hr ?_; rw [hd]; exact Ev.now _
end Go.Proofs.Ytimkekeaeojpkaa.Q
namespace Go.Proofs.Ytimkekeaeojpkaa.Q
open Go Go.RowKit Go.Proofs.YtimkekeaeojpkaaW.PrintWords Go.Proofs.YtimkekeaeojpkaaW.PrintLast Go.Proofs.YtimkekeaeojpkaaW.PrintMore Go.Proofs.Ytimkekeaeojpkaa.Z
set_option linter.unusedVariables false
set_option linter.unusedSimpArgs false
def gn (l : List Int) (a b e : Nat) : Bool := (els (dif b a)).any (fun f => l.contains ((dif a (2 ^ e) ||| 2 ^ f : Nat) : Int))
def ep (l : List Int) (a b : Nat) : List Nat → Option Nat
 | [] => none
 | e :: es => if gn l a b e = true then ep l a b es else some e
def eD (l : List Int) (a : Nat) : List Nat → Option (Nat × Nat)
 | [] => none
 | b :: bs => match ep l a b (els (dif a b)) with
  | none => eD l a bs
  | some e => some (b, e)
def eO (l : List Int) (L : List Nat) : List Nat → Option (Nat × Nat × Nat)
 | [] => none
 | a :: la => match eD l a L with
  | none => eO l L la
  | some (b, e) => some (a, b, e)
def told : Option (Nat × Nat × Nat) → Int × Int × Int × Bool
 | none => (0, 0, 0, false)
 | some (a, b, e) => ((a : Int), (b : Int), (e : Int), true)
def iw (n : Int) (l : List Int) : Int × Int × Int × Bool := if famB n l = true then told (eO l (l.map Int.toNat) (l.map Int.toNat)) else (0, 0, 0, false)
theorem kC {a b n : Nat} (ha : a < 2 ^ n) (hn : n ≤ 8) : els (dif a b) = (List.range n).filter (fun e => a.testBit e && !b.testBit e) := by
 have h1 : (List.range 8).filter (fun e => (dif a b).testBit e) = (List.range 8).filter (fun e => decide (e < n) && (a.testBit e && !b.testBit e)) :=
  List.filter_congr (fun e _ => by
   rw [dif_bit]; by_cases h : e < n
   ·simp [h]
   ·have : a.testBit e = false := Nat.testBit_lt_two_pow (Nat.lt_of_lt_of_le ha (Nat.pow_le_pow_right (by decide) (by omega))); simp [this])
 unfold els; rw [h1]; have h2 : ∀ (p : Nat → Bool) (a b : Nat), (List.range a).filter (fun e => decide (e < b) && p e) = (List.range (min a b)).filter p := by
  intro p a b
  induction a with
  | zero => simp
  | succ a ih =>
   rw [List.range_succ, List.filter_append, ih]; by_cases h : a < b
   ·rw [show min (a + 1) b = min a b + 1 from by omega, List.range_succ, List.filter_append]; have e : min a b = a := by omega
    rw [e]
    congr 1
    simp [List.filter_cons, h]
   ·rw [show min (a + 1) b = min a b from by omega]; simp [List.filter_cons, h]
 rw [h2, Nat.min_eq_right hn]
end Go.Proofs.Ytimkekeaeojpkaa.Q
namespace Go.Proofs.Ytimkekeaeojpkaa.Q
open Go Go.RowKit Go.Proofs.Ytimkekeaeojpkaa.A Go.Proofs.YtimkekeaeojpkaaW.PrintWords Go.Proofs.YtimkekeaeojpkaaW.PrintLast Go.Proofs.YtimkekeaeojpkaaW.PrintMore Go.Proofs.Ytimkekeaeojpkaa.Z
set_option linter.unusedVariables false
set_option linter.unusedSimpArgs false
theorem lc (n : Nat) (hn : n ≤ 8) (l : List Int) (hl : l.length ≤ 17592186044416) (a b e : Nat) (ha : a < 256) (hb : b < 2 ^ n) (he : e < 8) (hae : a.testBit e = true) :
  Ev (fun k => aM.f k (n : Int) l (a : Int) (b : Int) (e : Int)) (gn l a b e) := by
 have hb256 : b < 256 := Nat.lt_of_lt_of_le hb (cn hn); have h := down (P := fun f => Ev (fun k => aM.l0 k (a : Int) (b : Int) (e : Int) (f : Int) (n : Int) l) (((List.range' f (n - f)).filter (fun f => b.testBit f && !a.testBit f)).any (fun f => l.contains ((dif a (2 ^ e) ||| 2 ^ f : Nat) : Int)))) n
  (by
   apply Ev.step
   ·intro k; simp only [aM.l0]; rw [if_neg (by omega)]
   ·rw [Nat.sub_self]; exact Ev.now _)
  (by
   intro f hf ih; have hih : Ev (fun k => aM.l0 k (a : Int) (b : Int) (e : Int) (wrap64 ((f : Int) + 1)) (n : Int) l) (((List.range' (f + 1) (n - (f + 1))).filter (fun f => b.testBit f && !a.testBit f)).any (fun f => l.contains ((dif a (2 ^ e) ||| 2 ^ f : Nat) : Int))) := by
    rw [bG hf (by omega)]; exact ih
   apply Ev.step
   ·intro k; simp only [aM.l0, cX (aZ hb256) (show f < 2 ^ 63 by omega), cX (aZ ha) (show f < 2 ^ 63 by omega), Option.bind_some]; rw [if_pos (by omega)]
   ·rw [dA hf, List.filter_cons]; by_cases hbf : b.testBit f = true
    ·refine Ev.ifp hbf ?_; by_cases haf : a.testBit f = true
     ·refine Ev.ifp haf ?_; rw [if_neg (by rw [haf]; simp)]; exact hih
     ·refine Ev.ifn haf (Ev.ifp (cI _) (Ev.ifp (cI _) ?_)); have haf' := Bool.eq_false_iff.2 haf; rw [if_pos (by rw [hbf, haf']; rfl), List.any_cons]; obtain ⟨x1, x2, x3⟩ := kn ha he (show f < 8 by omega) hae haf'; have hp : 2 ^ f < 256 := Nat.pow_lt_pow_right (a := 2) (m := f) (n := 8) (by decide) (by omega); have ex : wrap64 (wrap64 ((a : Int) - shl .i64 1 (IntKind.u64.wrap (e : Int))) + shl .i64 1 (IntKind.u64.wrap (f : Int))) = ((dif a (2 ^ e) ||| 2 ^ f : Nat) : Int) := by
       rw [dR (by omega) (by omega), dR (by omega) (by omega), cQ (by omega), cQ (by omega), ← x1]; generalize 2 ^ e = p at *; generalize 2 ^ f = q at *; rw [bF (n := (a : Int) - (p : Int)) (by omega) (by omega), bF (by omega) (by omega)]; omega
      rw [ex]; refine Ev.bind (fj l _ hl) ?_; by_cases hc : l.contains ((dif a (2 ^ e) ||| 2 ^ f : Nat) : Int) = true
      ·refine Ev.ifp hc ?_; rw [hc, Bool.true_or]; exact Ev.now _
      ·refine Ev.ifn hc ?_; rw [Bool.eq_false_iff.2 hc, Bool.false_or]; exact hih
    ·refine Ev.ifn hbf ?_; rw [if_neg (by rw [Bool.eq_false_iff.2 hbf]; simp)]; exact hih)
 rw [Nat.sub_zero, ← List.range_eq_range', ← kC hb hn] at h; exact h
theorem i9 (n : Nat) (hn : n ≤ 8) (l : List Int) (hl : l.length ≤ 17592186044416) (i j : Nat) (hi : i < l.length) (hj : j < l.length) (a b : Nat) (hai : rd l (i : Int) = a) (hbj : rd l (j : Int) = b) (ha : a < 2 ^ n) (hb : b < 2 ^ n) (K : Int × Int × Int × Bool)
  (hK : Ev (fun k => ae.l1 k (i : Int) (wrap64 ((j : Int) + 1)) (n : Int) l) K) :
  Ev (fun k => ae.l2 k (i : Int) (j : Int) 0 (n : Int) l) (match ep l a b (els (dif a b)) with | none => K | some e => ((a : Int), (b : Int), (e : Int), true)) := by
 have ha256 : a < 256 := Nat.lt_of_lt_of_le ha (cn hn); have hb256 : b < 256 := Nat.lt_of_lt_of_le hb (cn hn); have h := down (P := fun e => Ev (fun k => ae.l2 k (i : Int) (j : Int) (e : Int) (n : Int) l) (match ep l a b ((List.range' e (n - e)).filter (fun e => a.testBit e && !b.testBit e)) with | none => K | some e => ((a : Int), (b : Int), (e : Int), true))) n
  (by
   apply Ev.step
   ·intro k; simp only [ae.l2]; rw [if_neg (by omega)]
   ·rw [Nat.sub_self]; exact hK)
  (by
   intro e he ih; have hih : Ev (fun k => ae.l2 k (i : Int) (j : Int) (wrap64 ((e : Int) + 1)) (n : Int) l) (match ep l a b ((List.range' (e + 1) (n - (e + 1))).filter (fun e => a.testBit e && !b.testBit e)) with | none => K | some e => ((a : Int), (b : Int), (e : Int), true)) := by
    rw [bG he (by omega)]; exact ih
   apply Ev.step
   ·intro k; simp only [ae.l2]; rw [if_pos (by omega), if_pos (by omega), if_pos (by omega), if_pos (by omega), if_pos (by omega), hai, hbj, cX (aZ ha256) (show e < 2 ^ 63 by omega), cX (aZ hb256) (show e < 2 ^ 63 by omega), Option.bind_some, Option.bind_some]
   ·rw [dA he, List.filter_cons]; by_cases hae : a.testBit e = true
    ·refine Ev.ifp hae ?_; by_cases hbe : b.testBit e = true
     ·refine Ev.ifp hbe ?_; rw [if_neg (by rw [hbe]; simp)]; exact hih
     ·refine Ev.ifn hbe (Ev.bind (lc n hn l hl a b e ha256 hb (by omega) hae) ?_); rw [if_pos (by rw [hae, Bool.eq_false_iff.2 hbe]; rfl)]; simp only [ep]; by_cases hx : gn l a b e = true
      ·refine Ev.ifp hx ?_; rw [if_pos hx]; exact hih
      ·refine Ev.ifn hx ?_; rw [if_neg hx]; exact Ev.now _
    ·refine Ev.ifn hae ?_; rw [if_neg (by rw [Bool.eq_false_iff.2 hae]; simp)]; exact hih)
 rw [Nat.sub_zero, ← List.range_eq_range', ← kC ha hn] at h; exact h
theorem jF (n : Int) (l : List Int) (hl : l.length ≤ 17592186044416) : Ev (fun k => ae.f k n l) (iw n l) := by
 unfold ae.f iw; refine Ev.bind (gP n l hl) ?_; by_cases hf : famB n l = true
 ·refine Ev.ifp hf ?_; rw [if_pos hf]; obtain ⟨m, L, rfl, hm, rfl, hL, _⟩ := hH hf; rw [bP]; have hlen : (L.map (fun x : Nat => (x : Int))).length = L.length := List.length_map _; rw [hlen] at hl; have hrd : ∀ i, (h : i < L.length) → rd (L.map (fun x : Nat => (x : Int))) (i : Int) = (L[i] : Int) := fun i h => by
   rw [b9 _ i (by rw [hlen]; exact h), List.getElem_map]
  have hl' : (L.map (fun x : Nat => (x : Int))).length ≤ 17592186044416 := by rw [hlen]; exact hl
  generalize L.map (fun x : Nat => (x : Int)) = l at hlen hrd hl'; have h := down (P := fun i => Ev (fun k => ae.l0 k (i : Int) (m : Int) l) (told (eO l L (L.drop i)))) L.length
   (by
    apply Ev.step
    ·intro k; simp only [ae.l0]; rw [if_neg (by omega)]
    ·rw [cO]; exact Ev.now _)
   (by
    intro i hi ih; have hia := hL _ (List.getElem_mem hi); have hih : Ev (fun k => ae.l0 k (wrap64 ((i : Int) + 1)) (m : Int) l) (told (eO l L (L.drop (i + 1)))) := by
     rw [bG hi hl]; exact ih
    apply Ev.step
    ·intro k; simp only [ae.l0]; rw [if_pos (by omega)]
    ·have h1 := down (P := fun j => Ev (fun k => ae.l1 k (i : Int) (j : Int) (m : Int) l) (match eD l L[i] (L.drop j) with | none => told (eO l L (L.drop (i + 1))) | some (b, e) => ((L[i] : Int), (b : Int), (e : Int), true))) L.length
      (by
       apply Ev.step
       ·intro k; simp only [ae.l1]; rw [if_neg (by omega)]
       ·rw [cO]; exact hih)
      (by
       intro j hj ihj; have hjb := hL _ (List.getElem_mem hj)
       apply Ev.step
       ·intro k; simp only [ae.l1]; rw [if_pos (by omega)]
       ·have h2 := i9 m hm l hl' i j (by omega) (by omega) L[i] L[j] (hrd i hi) (hrd j hj) hia hjb _ (by rw [bG hj hl]; exact ihj); rw [cp L j hj]; simp only [eD]; generalize ep l L[i] L[j] (els (dif L[i] L[j])) = q at h2; cases q with
        | none => exact h2
        | some e => exact h2)
     rw [cp L i hi]; simp only [eO]; rw [List.drop_zero] at h1; generalize eD l L[i] L = q at h1; cases q with
     | none => exact h1
     | some x => exact h1)
  exact h
 ·refine Ev.ifn hf ?_; rw [if_neg hf]; exact Ev.now _
def matB (n : Int) (l : List Int) : Bool := famB n l && (decide ((l.length : Int) > 0) && !(iw n l).2.2.2)
theorem fp (n : Int) (l : List Int) (hl : l.length ≤ 17592186044416) : Ev (fun k => a7.f k n l) (matB n l) := by
 unfold a7.f matB; refine Ev.bind (jF n l hl) (Ev.bind (gP n l hl) ?_); by_cases hf : famB n l = true
 ·refine Ev.ifp hf ?_; rw [hf, Bool.true_and]; by_cases h0 : (l.length : Int) > 0
  ·refine Ev.ifp h0 ?_; rw [show decide ((l.length : Int) > 0) = true from by simpa using h0, Bool.true_and]; exact Ev.now _
  ·refine Ev.ifn h0 ?_; rw [show decide ((l.length : Int) > 0) = false from by simpa using h0, Bool.false_and]; exact Ev.now _
 ·refine Ev.ifn hf ?_; rw [Bool.eq_false_iff.2 hf, Bool.false_and]; exact Ev.now _
end Go.Proofs.Ytimkekeaeojpkaa.Q
namespace Go.Proofs.Ytimkekeaeojpkaa.Q
open Go Go.RowKit Go.Proofs.YtimkekeaeojpkaaW.PrintWords Go.Proofs.YtimkekeaeojpkaaW.PrintLast Go.Proofs.YtimkekeaeojpkaaW.PrintMore Go.Proofs.Ytimkekeaeojpkaa.Z
set_option linter.unusedVariables false
set_option linter.unusedSimpArgs false
theorem dN {n : Int} {l : List Int} (h : matB n l = true) : ∃ (m : Nat) (L : List Nat), n = m ∧ m ≤ 8 ∧ l = ints L ∧ (∀ x ∈ L, x < 2 ^ m) ∧ (∀ x ∈ L, x < 256) ∧ L.Pairwise (· < ·) ∧ L ≠ [] := by
 simp only [matB, Bool.and_eq_true, decide_eq_true_eq] at h; obtain ⟨m, L, rfl, hm, rfl, hL, hp⟩ := hH h.1; refine ⟨m, L, rfl, hm, rfl, hL, fun x hx => Nat.lt_of_lt_of_le (hL x hx) (cn hm), hp, ?_⟩; rintro rfl; simp at h
theorem ints_len (L : List Nat) : (ints L).length = L.length := List.length_map _
theorem e6 (L : List Nat) (i : Nat) (h : i < L.length) : rd (ints L) (i : Int) = (L[i] : Int) := by
 rw [b9 _ i (by rw [ints_len]; exact h)]; simp [ints]
end Go.Proofs.Ytimkekeaeojpkaa.Q
namespace Go.Proofs.Ytimkekeaeojpkaa.Q
open Go Go.RowKit Go.Proofs.Ytimkekeaeojpkaa.A Go.Proofs.YtimkekeaeojpkaaW.PrintWords Go.Proofs.YtimkekeaeojpkaaW.PrintLast Go.Proofs.YtimkekeaeojpkaaW.PrintMore Go.Proofs.Ytimkekeaeojpkaa.Z
set_option linter.unusedVariables false
set_option linter.unusedSimpArgs false
def insO (x : Int) : List Int → List Int
 | [] => [x]
 | y :: ys => if y < x then y :: insO x ys else (if y = x then y :: ys else x :: y :: ys)
def dT (acc X : List Int) : List Int := X.foldl (fun a x => insO x a) acc
theorem jk (x : Int) (l : List Int) : (insO x l).length ≤ l.length + 1 := by
 induction l with
 | nil => exact Nat.le_refl _
 | cons y l ih =>
  simp only [insO]; by_cases h : y < x
  ·rw [if_pos h, List.length_cons, List.length_cons]; omega
  ·rw [if_neg h]; by_cases h2 : y = x
   ·rw [if_pos h2]; omega
   ·rw [if_neg h2]; simp only [List.length_cons]; omega
theorem insO_mem (x a : Int) (l : List Int) : a ∈ insO x l ↔ a = x ∨ a ∈ l := by
 induction l with
 | nil => simp [insO]
 | cons y l ih =>
  simp only [insO]; by_cases h : y < x
  ·rw [if_pos h, List.mem_cons, ih, List.mem_cons]
   constructor
   ·rintro (h' | h' | h')
    ·exact .inr (.inl h')
    ·exact .inl h'
    ·exact .inr (.inr h')
   ·rintro (h' | h' | h')
    ·exact .inr (.inl h')
    ·exact .inl h'
    ·exact .inr (.inr h')
  ·rw [if_neg h]; by_cases h2 : y = x
   ·rw [if_pos h2]; subst h2
    constructor
    ·exact .inr
    ·rintro (rfl | h')
     ·exact List.mem_cons_self ..
     ·exact h'
   ·rw [if_neg h2, List.mem_cons]
theorem kR (x : Int) (l : List Int) (hl : l.Pairwise (· < ·)) : (insO x l).Pairwise (· < ·) := by
 induction l with
 | nil => simp [insO]
 | cons y l ih =>
  rw [List.pairwise_cons] at hl; simp only [insO]; by_cases h : y < x
  ·rw [if_pos h, List.pairwise_cons]; refine ⟨fun a ha => ?_, ih hl.2⟩; rcases (insO_mem x a l).1 ha with rfl | ha
   ·exact h
   ·exact hl.1 a ha
  ·rw [if_neg h]; by_cases h2 : y = x
   ·rw [if_pos h2, List.pairwise_cons]; exact hl
   ·rw [if_neg h2, List.pairwise_cons, List.pairwise_cons]; refine ⟨fun a ha => ?_, hl⟩; rcases List.mem_cons.1 ha with rfl | ha
    ·omega
    ·have := hl.1 a ha; omega
theorem k8 (X : List Int) (a : Int) : ∀ acc : List Int, a ∈ dT acc X ↔ a ∈ X ∨ a ∈ acc := by
 induction X with
 | nil => intro acc; simp [dT]
 | cons x X ih =>
  intro acc; have := ih (insO x acc); unfold dT at this ⊢; rw [List.foldl_cons, this, insO_mem, List.mem_cons]
  constructor
  ·rintro (h | h | h)
   ·exact .inl (.inr h)
   ·exact .inl (.inl h)
   ·exact .inr h
  ·rintro ((h | h) | h)
   ·exact .inr (.inl h)
   ·exact .inl h
   ·exact .inr (.inr h)
theorem jX (X : List Int) : ∀ acc : List Int, acc.Pairwise (· < ·) → (dT acc X).Pairwise (· < ·) := by
 induction X with
 | nil => intro acc h; exact h
 | cons x X ih => intro acc h; exact ih _ (kR x acc h)
theorem jh : ∀ {X Y : List Int}, X.Pairwise (· < ·) → Y.Pairwise (· < ·) → (∀ a, a ∈ X ↔ a ∈ Y) → X = Y := by
 intro X
 induction X with
 | nil =>
  intro Y _ _ h; cases Y with
  | nil => rfl
  | cons y Y => exact absurd ((h y).2 (List.mem_cons_self ..)) (by simp)
 | cons x X ih =>
  intro Y hX hY h; cases Y with
  | nil => exact absurd ((h x).1 (List.mem_cons_self ..)) (by simp)
  | cons y Y =>
   rw [List.pairwise_cons] at hX hY; have hxy : x = y := by
    rcases List.mem_cons.1 ((h x).1 (List.mem_cons_self ..)) with e | hx
    ·exact e
    ·rcases List.mem_cons.1 ((h y).2 (List.mem_cons_self ..)) with e | hy
     ·exact e.symm
     ·have h1 := hX.1 y hy; have h2 := hY.1 x hx; omega
   subst hxy; rw [ih hX.2 hY.2 (fun a => ?_)]
   constructor
   ·intro ha; rcases List.mem_cons.1 ((h a).1 (List.mem_cons_of_mem _ ha)) with e | h'
    ·have := hX.1 a ha; omega
    ·exact h'
   ·intro ha; rcases List.mem_cons.1 ((h a).2 (List.mem_cons_of_mem _ ha)) with e | h'
    ·have := hY.1 a ha; omega
    ·exact h'
theorem eZ (X : List Int) (hx : X.length ≤ 8796093022208) : Ev (fun k => af.f k X) (dT [] X) := by
 have hd := down (P := fun i => ∀ acc : List Int, acc.length ≤ i → Ev (fun k => af.l0 k X acc (i : Int)) (dT acc (X.drop i))) X.length
  (by
   intro acc _
   apply Ev.step
   ·intro k; rw [af.l0, if_neg (by omega)]
   ·rw [cO]; exact Ev.now _)
  (by
   intro i hi ih acc ha; have ihs := fun y (hy : y = insO X[i] acc) => ih y (by subst hy; have := jk X[i] acc; omega)
   rw [cp X i hi]; have h1 := down (P := fun j => Ev (fun k => af.l1 k X acc (i : Int) (j : Int)) (dT (acc.take j ++ insO X[i] (acc.drop j)) (X.drop (i + 1)))) acc.length
    (by
     rw [List.take_length, cO]; have hr := ih (acc ++ [X[i]]) (by rw [List.length_append, List.length_singleton]; omega)
     apply Ev.step
     ·intro k; rw [af.l1, if_neg (by omega), bG hi (by omega)]
     ·simp only [Option.bind_some, Int.toNat_natCast, List.drop_length, List.take_length, List.nil_append, List.append_nil, List.length_nil, List.length_append, List.length_singleton]; refine Ev.ifp (by omega) (Ev.ifp (by omega) (Ev.ifp (by omega) (Ev.ifp (by omega) (Ev.ifp (by omega) (Ev.ifp (by omega) (Ev.ifp (by omega) ?_)))))); rw [b9 X i hi]; exact hr)
    (by
     intro j hj ihj
     apply Ev.step
     ·intro k; rw [af.l1, if_pos (by omega), if_pos (by omega), if_pos (by omega), if_pos (by omega), b9 acc j hj, b9 X i hi, bG hi (by omega), bG hj (by omega)]
     ·rw [cp acc j hj]; simp only [insO]; by_cases hlt : acc[j] < X[i]
      ·rw [if_pos hlt]; refine Ev.ifp hlt ?_; rw [iz acc j hj, List.append_assoc, List.singleton_append] at ihj; exact ihj
      ·rw [if_neg hlt]; refine Ev.ifn hlt ?_; by_cases heq : acc[j] = X[i]
       ·rw [if_pos heq]; refine Ev.ifp heq ?_; rw [← cp acc j hj, List.take_append_drop]; exact ih acc (by omega)
       ·rw [if_neg heq]; refine Ev.ifn heq ?_; have hr := ih (acc.take j ++ X[i] :: acc[j] :: acc.drop (j + 1)) (by
         rw [List.length_append, List.length_cons, List.length_cons, List.length_take, List.length_drop]; omega)
        simp only [Option.bind_some, Int.toNat_natCast, List.nil_append, List.length_nil]; refine Ev.ifp (by omega) (Ev.ifp (by rw [List.length_drop]; omega) (Ev.ifp (by rw [List.length_take]; omega) (Ev.ifp (by rw [List.length_append, List.length_singleton, List.length_take, List.length_drop]; omega) ?_))); rw [cp acc j hj, List.append_assoc, List.singleton_append]; exact hr)
   apply Ev.step
   ·intro k; rw [af.l0, if_pos (by omega)]
   ·have h0 := h1; rw [List.take_zero, List.drop_zero, List.nil_append] at h0
    show Ev _ (dT acc (X[i] :: X.drop (i + 1)))
    exact h0)
 exact hd [] (Nat.zero_le _)
end Go.Proofs.Ytimkekeaeojpkaa.Q
namespace Go.Proofs.Ytimkekeaeojpkaa.Q
open Go Go.RowKit Go.Proofs.YtimkekeaeojpkaaW.PrintWords Go.Proofs.YtimkekeaeojpkaaW.PrintLast Go.Proofs.YtimkekeaeojpkaaW.PrintMore Go.Proofs.Ytimkekeaeojpkaa.Z
set_option linter.unusedVariables false
set_option linter.unusedSimpArgs false
theorem fD {a x : Nat} (ha : a < 256) (hx : x < 8) : a ||| 2 ^ x < 256 := by
 have h1 : a < 2 ^ 8 := ha; have h2 : 2 ^ x < 2 ^ 8 := Nat.pow_lt_pow_right (by decide) hx; exact Nat.or_lt_two_pow h1 h2
theorem cx {x : Nat} (hx : x < 8) : 2 ^ x < 256 := Nat.pow_lt_pow_right (a := 2) (m := x) (n := 8) (by decide) hx
end Go.Proofs.Ytimkekeaeojpkaa.Q
namespace Go.Proofs.Ytimkekeaeojpkaa.Q
open Go Go.RowKit Go.Proofs.Ytimkekeaeojpkaa.A Go.Proofs.YtimkekeaeojpkaaW.PrintWords Go.Proofs.YtimkekeaeojpkaaW.PrintLast Go.Proofs.YtimkekeaeojpkaaW.PrintMore Go.Proofs.Ytimkekeaeojpkaa.Z
set_option linter.unusedVariables false
set_option linter.unusedSimpArgs false
def g8 (l : List Int) (acc : Nat) (es : List Nat) : Nat := es.foldl (fun (a : Nat) (e : Nat) => a ||| 2 ^ (rd l (e : Int)).toNat) acc
def dL (l : List Int) (s : Nat) : Nat := g8 l 0 ((List.range l.length).filter (fun e => s.testBit e))
theorem l8 {l : List Int} (hm : ∀ x ∈ l, 0 ≤ x ∧ x < 8) {i : Nat} (hi : i < l.length) : ∃ x : Nat, rd l (i : Int) = x ∧ x < 8 := by
 have h := hm _ (List.getElem_mem hi); obtain ⟨x, hx⟩ := Int.eq_ofNat_of_zero_le h.1; exact ⟨x, by rw [b9 l i hi, hx], by omega⟩
theorem i8 (l : List Int) (s : Nat) (hl : l.length ≤ 17592186044416) (hm : ∀ x ∈ l, 0 ≤ x ∧ x < 8) (hs : s < 256) : Ev (fun k => cl.f k l (s : Int)) ((dL l s : Nat) : Int) := by
 have h := down (P := fun i => ∀ acc : Nat, acc < 256 → Ev (fun k => cl.l0 k l (s : Int) (acc : Int) (i : Int)) ((g8 l acc ((List.range' i (l.length - i)).filter (fun e => s.testBit e)) : Nat) : Int)) l.length
  (by
   intro acc ha
   apply Ev.step
   ·intro k; simp only [cl.l0]; rw [if_neg (by omega)]
   ·rw [Nat.sub_self]; exact Ev.now _)
  (by
   intro i hi ih acc ha; obtain ⟨x, hx, hx8⟩ := l8 hm hi
   apply Ev.step
   ·intro k; simp only [cl.l0, cX (aZ hs) (show i < 2 ^ 63 by omega), Option.bind_some]; rw [if_pos (by omega), bG hi hl]
   ·rw [dA hi, List.filter_cons]; by_cases hb : s.testBit i = true
    ·refine Ev.ifp hb (Ev.ifp (by omega) (Ev.ifp (cI _) ?_)); rw [if_pos hb, hx, dR (by omega) (by omega), cQ (by omega), ef (aZ ha) (aZ (cx hx8))]; have := ih _ (fD ha hx8); have e : g8 l acc (i :: (List.range' (i + 1) (l.length - (i + 1))).filter (fun e => s.testBit e)) = g8 l (acc ||| 2 ^ x) ((List.range' (i + 1) (l.length - (i + 1))).filter (fun e => s.testBit e)) := by
      simp only [g8, List.foldl_cons, hx, Int.toNat_natCast]
     rw [e]; exact this
    ·refine Ev.ifn hb ?_; rw [if_neg hb]; exact ih acc ha)
 have h0 := h 0 (by omega); rw [Nat.sub_zero, ← List.range_eq_range'] at h0; exact h0
end Go.Proofs.Ytimkekeaeojpkaa.Q
namespace Go.Proofs.Ytimkekeaeojpkaa.Q
open Go Go.RowKit Go.Proofs.YtimkekeaeojpkaaW.PrintWords Go.Proofs.YtimkekeaeojpkaaW.PrintLast Go.Proofs.YtimkekeaeojpkaaW.PrintMore Go.Proofs.Ytimkekeaeojpkaa.Z
set_option linter.unusedVariables false
set_option linter.unusedSimpArgs false
theorem kZ {L : List Nat} (h : L.Pairwise (· < ·)) : (ints L).Pairwise (· < ·) := by
 unfold ints; rw [List.pairwise_map]; exact h.imp (fun hab => by omega)
theorem gN {a b : Nat} (ha : a < 256) (hb : b < 256) (h : subN a b) (hc : pc b ≤ pc a) : a = b := by
 apply kE ha hb
 intro i hi; cases hbi : b.testBit i
 ·cases hai : a.testBit i
  ·rfl
  ·rw [bS.1 h i hai] at hbi; cases hbi
 ·cases hai : a.testBit i
  ·have h1 : pc a ≤ pc (dif b (2 ^ i)) := dV fun j _ hj => by
    rw [del_bit, bS.1 h j hj]; have : ¬ i = j := by rintro rfl; rw [hai] at hj; cases hj
    simp [this]
   have := fV hi hbi; omega
  ·rfl
end Go.Proofs.Ytimkekeaeojpkaa.Q
namespace Go.Proofs.Ytimkekeaeojpkaa.Q
open Go Go.RowKit Go.Proofs.Ytimkekeaeojpkaa.A Go.Proofs.YtimkekeaeojpkaaW.PrintWords Go.Proofs.YtimkekeaeojpkaaW.PrintLast Go.Proofs.YtimkekeaeojpkaaW.PrintMore Go.Proofs.Ytimkekeaeojpkaa.Z
set_option linter.unusedVariables false
set_option linter.unusedSimpArgs false
theorem jd {X : List Int} {D : List Nat} (hD : D.Pairwise (· < ·)) (h : ∀ a, a ∈ X ↔ a ∈ ints D) : dT [] X = ints D :=
 jh (jX X [] List.Pairwise.nil) (kZ hD) (fun a => by rw [k8, h]; simp)
theorem iq (X : List Int) : ∀ acc : List Int, (dT acc X).length ≤ acc.length + X.length := by
 induction X with
 | nil => intro acc; exact Nat.le_refl _
 | cons x X ih =>
  intro acc; have h1 := ih (insO x acc); have h2 := jk x acc; rw [List.length_cons]
  show (dT (insO x acc) X).length ≤ _
  omega
theorem gR (w : List Int) (L : List Nat) (hw : w.length ≤ 17592186044416) (hl : L.length ≤ 8796093022208) (hm : ∀ x ∈ w, 0 ≤ x ∧ x < 8) (hL : ∀ b ∈ L, b < 256) : Ev (fun k => b0.f k w (ints L)) (dT [] (ints (L.map (dL w)))) := by
 have hd := down (P := fun i => Ev (fun k => b0.l0 k w (ints L) (ints ((L.take i).map (dL w))) (i : Int)) (dT [] (ints (L.map (dL w))))) L.length
  (by
   apply Ev.step
   ·intro k; rw [b0.l0, if_neg (by rw [ints_len]; omega)]
   ·rw [List.take_length]; exact Ev.bind (eZ _ (by rw [ints_len, List.length_map]; exact hl)) (Ev.now _))
  (by
   intro i hi ih; have hb := hL _ (List.getElem_mem hi)
   apply Ev.step
   ·intro k; rw [b0.l0, if_pos (by rw [ints_len]; omega), if_pos (by omega), e6 L i hi, bG hi (by omega)]
   ·refine Ev.bind (i8 w _ hw hm hb) (Ev.ifp ?_ ?_)
    ·rw [ints_len, List.length_map, List.length_take]; omega
    ·rw [iz L i hi, List.map_append] at ih; rw [show ints ((L.take i).map (dL w)) ++ [((dL w L[i] : Nat) : Int)] = ints ((L.take i).map (dL w) ++ [L[i]].map (dL w)) from by simp [ints]]; exact ih)
 exact hd
theorem iH {b : List Int} (hb : b.length ≤ 17592186044416) {p h : Int} (hp : 0 ≤ p) : ∃ r, da.f b p h = some r ∧ 0 ≤ r.2.1 := by
 unfold da.f; obtain ⟨u, eu, u1⟩ := fc hb (h := h) hp 8; rw [eu, Option.bind_some]; by_cases hc : u.1 = true
 ·rw [if_pos hc]; obtain ⟨v, ev, _, v2⟩ := eM hb (h := u.2.2) u1 (l := [(-1), 256, 1000, (-9223372036854775808)]) (by simp); rw [ev, Option.bind_some]; exact ⟨_, rfl, v2⟩
 ·rw [if_neg hc]; unfold dC.f; obtain ⟨v, ev, _, _, _, v3⟩ := ca hb (h := u.2.2) u1 256; rw [ev, Option.bind_some, Option.bind_some]; exact ⟨_, rfl, v3⟩
theorem kS {b : List Int} (hb : b.length ≤ 17592186044416) {p h : Int} (hp : 0 ≤ p) (n : Int) : ExE (fun k => cd.f k b p h n) (fun r => r.1.length ≤ 6 ∧ 0 ≤ r.2.1) := by
 unfold cd.f; obtain ⟨c, e, c1, c2, _, c3⟩ := ca hb (h := h) hp 6; refine ExE.cbind (P := fun a => a = c) ⟨c, e, rfl⟩ ?_; rintro a rfl; obtain ⟨m, hm⟩ := Int.eq_ofNat_of_zero_le c1; have hm5 : m < 6 := by have := c2 (by omega); omega
 rw [hm]; have hd := down (P := fun i => ∀ (l : List Int) (p h : Int), 0 ≤ p → l.length ≤ i → ExE (fun k => cd.l0 k n l (m : Int) (i : Int) b p h) (fun r => r.1.length ≤ 6 ∧ 0 ≤ r.2.1)) m
  (by
   intro l p h hp hl
   apply ExE.step
   ·intro k; rw [cd.l0, if_neg (by omega)]
   ·exact ExE.now ⟨by simp only []; omega, hp⟩)
  (by
   intro i hi ih l p h hp hl
   apply ExE.step
   ·intro k; rw [cd.l0, if_pos (by omega), if_pos (cI _), bG hi (by omega)]
   ·obtain ⟨x, ex, _, _, _, x3⟩ := ca hb (h := h) hp (shl .i64 1 (IntKind.u64.wrap n)); refine ExE.cbind (P := fun a => a = x) ⟨x, ex, rfl⟩ ?_; rintro a rfl; exact ExE.ifp (by omega) (ih _ _ _ x3 (by rw [List.length_append, List.length_singleton]; omega)))
 exact hd [] _ _ c3 (Nat.le_refl _)
theorem lm {b : List Int} (hb : b.length ≤ 17592186044416) {p h : Int} (hp : 0 ≤ p) {n : Int} (h0 : 0 ≤ n) (h8 : n ≤ 8) : ExE (fun k => bw.f k b p h n) (fun q => -1 ≤ q.1 ∧ q.1 ≤ 9 ∧ q.2.1.length ≤ 300 ∧ 0 ≤ q.2.2.1) := by
 unfold bw.f; refine ExE.bind (iB hb hp h0 h8) ?_; rintro m ⟨m1, m2, m3, m4⟩; obtain ⟨u, eu, u1, u2, _, u3⟩ := ca hb (h := m.2.2.2) m4 10; refine ExE.cbind (P := fun a => a = u) ⟨u, eu, rfl⟩ ?_; intro u' e; subst e; refine ExE.ite (fun _ => ?_) (fun _ => ExE.ite (fun _ => ?_) (fun _ => ExE.ite (fun _ => ?_) (fun _ => ExE.ite (fun _ => ?_) (fun _ => ExE.now ⟨by simp only []; omega, by simp only []; omega, by simp only []; omega, u3⟩))))
 ·obtain ⟨v, ev, v1, v2⟩ := eM hb (h := u'.2.2) u3 (l := [(-1), 0, 2, 9]) (by simp); refine ExE.cbind (P := fun a => a = v) ⟨v, ev, rfl⟩ ?_; intro v' e; subst e; have hv : -1 ≤ v'.1 ∧ v'.1 ≤ 9 := by
   simp only [List.mem_cons, List.not_mem_nil, or_false] at v1; omega
  exact ExE.now ⟨hv.1, hv.2, by simp only []; omega, v2⟩
 ·obtain ⟨v, ev, v1⟩ := iH hb (h := u'.2.2) u3; refine ExE.cbind (P := fun a => a = v) ⟨v, ev, rfl⟩ ?_; intro v' e; subst e; exact ExE.ifp (by omega) (ExE.now ⟨by simp only []; omega, by simp only []; omega, by simp only [List.length_append, List.length_singleton]; omega, v1⟩)
 ·refine ExE.ite (fun hlen => ?_) (fun _ => ExE.now ⟨by simp only []; omega, by simp only []; omega, by simp only []; omega, u3⟩); obtain ⟨v, ev, v1, v2, _, v3⟩ := ca hb (h := u'.2.2) u3 (m.2.1.length : Int); refine ExE.cbind (P := fun a => a = v) ⟨v, ev, rfl⟩ ?_; intro v' e; subst e; have v2 := v2 (by omega); have hw : wrap64 (v'.1 + 1) = v'.1 + 1 := bF (by omega) (by omega); rw [hw]; have ht1 : (m.2.1.take v'.1.toNat).length ≤ m.2.1.length := by rw [List.length_take]; omega
  have ht2 : (m.2.1.drop (v'.1 + 1).toNat).length ≤ m.2.1.length := by rw [List.length_drop]; omega
  have ht3 : (m.2.1.take v'.1.toNat).length + (m.2.1.drop (v'.1 + 1).toNat).length ≤ 300 := by rw [List.length_take, List.length_drop]; omega
  refine ExE.cbind (P := fun y => y = []) ⟨_, rfl, rfl⟩ ?_; rintro y rfl; refine ExE.ifp v1 (ExE.ifp (by omega) ?_); refine ExE.cbind (P := fun y => y = m.2.1.take v'.1.toNat) ⟨_, rfl, rfl⟩ ?_; rintro y rfl; refine ExE.ifp (by simp only [List.length_nil]; omega) ?_; refine ExE.cbind (P := fun y => y = m.2.1.take v'.1.toNat) ⟨_, rfl, by simp⟩ ?_; rintro y rfl; refine ExE.ifp (by omega) (ExE.ifp (by omega) ?_); refine ExE.cbind (P := fun y => y = m.2.1.drop (v'.1 + 1).toNat) ⟨_, rfl, rfl⟩ ?_; rintro y rfl; exact ExE.ifp (by omega) (ExE.now ⟨by simp only []; omega, by simp only []; omega, by simp only [List.length_append]; omega, v3⟩)
 ·refine ExE.cbind (P := fun _ => True) ⟨_, by unfold em.f; exact (apply_ite some _ _ _).symm, trivial⟩ ?_; rintro x -; refine ExE.cbind (P := fun _ => True) ⟨_, by unfold dj.f; exact (apply_ite some _ _ _).symm, trivial⟩ ?_; rintro y -; refine ExE.bind (kS hb u3 y) ?_; rintro q ⟨q1, q2⟩; refine ExE.ev (eZ q.1 (by omega)) ?_; have := iq q.1 []; exact ExE.now ⟨by simp only []; omega, by simp only []; omega, by simp only [List.length_nil] at this ⊢; omega, q2⟩
theorem jQ {b : List Int} (hb : b.length ≤ 17592186044416) {p h : Int} (hp : 0 ≤ p) (n : Int) : ExE (fun k => bU.f k b p h n) (fun r => r.1.length ≤ 5 ∧ 0 ≤ r.2.1) := by
 unfold bU.f; obtain ⟨c, e, c1, c2, _, c3⟩ := ca hb (h := h) hp 5; refine ExE.cbind (P := fun a => a = c) ⟨c, e, rfl⟩ ?_; rintro a rfl; obtain ⟨m, hm⟩ := Int.eq_ofNat_of_zero_le c1; have hm5 : m < 5 := by have := c2 (by omega); omega
 rw [hm]; have hd := down (P := fun i => ∀ (l : List Int) (p h : Int), 0 ≤ p → l.length ≤ i → ExE (fun k => bU.l0 k n l (m : Int) (i : Int) b p h) (fun r => r.1.length ≤ 5 ∧ 0 ≤ r.2.1)) m
  (by
   intro l p h hp hl
   apply ExE.step
   ·intro k; rw [bU.l0, if_neg (by omega)]
   ·exact ExE.now ⟨by simp only []; omega, hp⟩)
  (by
   intro i hi ih l p h hp hl
   apply ExE.step
   ·intro k; rw [bU.l0, if_pos (by omega), if_pos (cI _), bG hi (by omega)]
   ·obtain ⟨x, ex, _, _, _, x3⟩ := ca hb (h := h) hp (shl .i64 1 (IntKind.u64.wrap n)); refine ExE.cbind (P := fun a => a = x) ⟨x, ex, rfl⟩ ?_; rintro a rfl; exact ExE.ifp (by omega) (ih _ _ _ x3 (by rw [List.length_append, List.length_singleton]; omega)))
 exact hd [] _ _ c3 (Nat.le_refl _)
theorem l1Max_eq (a b : Int) : dj.f a b = some (max a b) := by
 unfold dj.f; by_cases h : a > b
 ·rw [if_pos h]; congr 1; omega
 ·rw [if_neg h]; congr 1; omega
theorem jo (n : Int) (L : List Nat) (s : Nat) (hl : L.length ≤ 17592186044416) (hL : ∀ b ∈ L, b < 256) (hs : s < 256) : Ev (fun k => ct.f k n (ints L) (s : Int)) (rkN L s : Int) := by
 have h := down (P := fun i => ∀ acc : Nat, Ev (fun k => ct.l0 k (s : Int) (acc : Int) (i : Int) n (ints L)) ((maxN acc ((L.drop i).map (fun b => pc (b &&& s))) : Nat) : Int)) L.length
  (by
   intro acc
   apply Ev.step
   ·intro k; simp only [ct.l0]; rw [if_neg (by rw [ints_len]; omega)]
   ·rw [cO]; exact Ev.now _)
  (by
   intro i hi ih acc; have hb := hL _ (List.getElem_mem hi)
   apply Ev.step
   ·intro k; simp only [ct.l0, l1Max_eq, Option.bind_some]; rw [if_pos (by rw [ints_len]; omega), if_pos (by omega), e6 L i hi, bG hi hl, gv (aZ hb) (aZ hs)]
   ·refine Ev.bind (cF _ (mY hb)) ?_; rw [cp L i hi, List.map_cons, iy]; have := ih (max acc (pc (L[i] &&& s))); rw [show ((max acc (pc (L[i] &&& s)) : Nat) : Int) = max (acc : Int) (pc (L[i] &&& s) : Int) from by omega] at this; exact this)
 exact h 0
theorem di (n : Int) (L : List Nat) (s : Nat) (hl : L.length ≤ 17592186044416) (hL : ∀ b ∈ L, b < 256) (hne : L ≠ []) (hs : s < 256) : Ev (fun k => bn.f k n (ints L) (s : Int)) (indN L s) := by
 unfold bn.f; refine Ev.bind (jo n L s hl hL hs) (Ev.bind (cF s hs) ?_); have : ((rkN L s : Int) == (pc s : Int)) = indN L s := by
  rw [Bool.eq_iff_iff, ← e7 hs hne]; simp only [beq_iff_eq]; omega
 rw [this]; exact Ev.now _
end Go.Proofs.Ytimkekeaeojpkaa.Q
namespace Go.Proofs.Ytimkekeaeojpkaa.Q
open Go Go.RowKit Go.Proofs.YtimkekeaeojpkaaW.PrintWords Go.Proofs.YtimkekeaeojpkaaW.PrintLast Go.Proofs.YtimkekeaeojpkaaW.PrintMore Go.Proofs.Ytimkekeaeojpkaa.Z
set_option linter.unusedVariables false
set_option linter.unusedSimpArgs false
theorem gY {L : List Nat} {b : Nat} (hb : b ∈ L) (s : Nat) : pc (b &&& s) ≤ rkN L s := gS _ 0 _ (List.mem_map.2 ⟨b, hb, rfl⟩)
theorem fQ {L : List Nat} (hne : L ≠ []) (s : Nat) : ∃ b ∈ L, pc (b &&& s) = rkN L s := by
 rcases fv (L.map (fun b => pc (b &&& s))) 0 with h | h
 ·obtain ⟨b, hb⟩ := List.exists_mem_of_ne_nil L hne; have := gY hb s; refine ⟨b, hb, ?_⟩; unfold rkN at this ⊢; omega
 ·obtain ⟨b, hb, e⟩ := List.mem_map.1 h; exact ⟨b, hb, e⟩
theorem gz {L : List Nat} (hne : L ≠ []) {X Y : Nat} (h : ∀ i, X.testBit i = true → Y.testBit i = true) : rkN L X ≤ rkN L Y := by
 obtain ⟨b, hb, e⟩ := fQ hne X; rw [← e]; refine Nat.le_trans (dV fun i _ hi => ?_) (gY hb Y); rw [Nat.testBit_and, Bool.and_eq_true] at hi ⊢; exact ⟨hi.1, h i hi.2⟩
theorem Mat.both_step {m : Nat} {L : List Nat} (h : Mat m L) {S T c : Nat} (hST : ∀ i, S.testBit i = true → T.testBit i = true) (hc : c ∈ L) (hcT : pc (c &&& T) = rkN L T) : ∀ (d b : Nat), b ∈ L → pc (b &&& S) = rkN L S → pc (dif b c) = d → ∃ b ∈ L, pc (b &&& S) = rkN L S ∧ pc (b &&& T) = rkN L T := by
 intro d
 induction d with
 | zero =>
  intro b hb hS hd; refine ⟨b, hb, hS, Nat.le_antisymm (gY hb T) ?_⟩; rw [← hcT]; have hcard := h.card hb hc; refine dV fun i hi hbi => ?_
  rw [Nat.testBit_and, Bool.and_eq_true] at hbi ⊢; refine ⟨?_, hbi.2⟩; cases hb' : b.testBit i
  ·have h1 : pc b < pc c := by
    have e1 := dI c (2 ^ i); have hle : pc b ≤ pc (dif c (2 ^ i)) := dV fun j hj hbj => by
     rw [del_bit]; have : c.testBit j = true := by
      cases hcj : c.testBit j
      ·have : 0 < pc (dif b c) := lu hj (by rw [dif_bit, hbj, hcj]; rfl); omega
      ·rfl
     rw [this]; have hne : ¬ i = j := by rintro rfl; rw [hb'] at hbj; cases hbj
     simp [hne]
    have := fV hi hbi.1; omega
   omega
  ·rfl
 | succ d ih =>
  intro b hb hS hd; by_cases hT : pc (b &&& T) = rkN L T
  ·exact ⟨b, hb, hS, hT⟩
  ·have hlt : pc (b &&& T) < pc (c &&& T) := by
    have := gY hb T; omega
   have hcard := h.card hb hc; have e1 := dI b T; have e2 := dI c T; obtain ⟨e, he, hbe, hce⟩ := gW (a := dif c T) (b := dif b T) (by omega); rw [dif_bit, Bool.and_eq_true, Bool.not_eq_true'] at hbe; have hce' : c.testBit e = false := by
    rw [dif_bit, hbe.2] at hce
    simpa using hce
   obtain ⟨f, hf, h1, h2, hm⟩ := h.exch b hb c hc e he hbe.1 hce'; refine ih (swp b e f) hm ?_ ?_
   ·refine Nat.le_antisymm (gY hm S) ?_; rw [← hS]; refine dV fun i _ hi => ?_
    rw [Nat.testBit_and, Bool.and_eq_true] at hi ⊢; refine ⟨?_, hi.2⟩; have hie : ¬ e = i := by rintro rfl; have := hST _ hi.2; rw [hbe.2] at this; cases this
    rw [swp_bit, hi.1]; simp [hie]
   ·have e3 : dif (swp b e f) c = dif (dif b c) (2 ^ e) := by
     apply Nat.eq_of_testBit_eq
     intro i; rw [dif_bit, swp_bit, del_bit, dif_bit]; by_cases hi : f = i
     ·subst hi; rw [h1, h2]; simp
     ·simp [hi]
      cases b.testBit i <;> cases c.testBit i <;> simp
    rw [e3]; have := fV (a := dif b c) he (by rw [dif_bit, hbe.1, hce']; rfl); omega
theorem Mat.both {m : Nat} {L : List Nat} (h : Mat m L) {S T : Nat} (hST : ∀ i, S.testBit i = true → T.testBit i = true) : ∃ b ∈ L, pc (b &&& S) = rkN L S ∧ pc (b &&& T) = rkN L T := by
 obtain ⟨c, hc, hcT⟩ := fQ h.some T; obtain ⟨b, hb, hbS⟩ := fQ h.some S; exact Mat.both_step h hST hc hcT _ b hb hbS rfl
theorem Mat.rk_sub {m : Nat} {L : List Nat} (h : Mat m L) (X Y : Nat) : rkN L (X ||| Y) + rkN L (X &&& Y) ≤ rkN L X + rkN L Y := by
 obtain ⟨b, hb, h1, h2⟩ := Mat.both h (S := X &&& Y) (T := X ||| Y) (fun i hi => by rw [Nat.testBit_and, Bool.and_eq_true] at hi; rw [Nat.testBit_or, hi.1]; rfl); have e := fT (b &&& X) (b &&& Y); have e1 : (b &&& X) ||| (b &&& Y) = b &&& (X ||| Y) := by
  apply Nat.eq_of_testBit_eq
  intro i; simp only [Nat.testBit_or, Nat.testBit_and]; cases b.testBit i <;> cases X.testBit i <;> cases Y.testBit i <;> rfl
 have e2 : (b &&& X) &&& (b &&& Y) = b &&& (X &&& Y) := by
  apply Nat.eq_of_testBit_eq
  intro i; simp only [Nat.testBit_and]; cases b.testBit i <;> cases X.testBit i <;> cases Y.testBit i <;> rfl
 rw [e1, e2, h1, h2] at e; have k1 := gY hb X; have k2 := gY hb Y; omega
theorem mG {m A i : Nat} (h : A < 2 ^ m) (hi : m ≤ i) : A.testBit i = false := Nat.testBit_lt_two_pow (Nat.lt_of_lt_of_le h (Nat.pow_le_pow_right (by omega) hi))
theorem lB {m a b : Nat} (ha : a < 2 ^ m) (hb : b < 2 ^ m) : a ||| b < 2 ^ m := Nat.or_lt_two_pow ha hb
theorem fP {m s i : Nat} (hs : s < 2 ^ m) (h : s.testBit i = true) : i < m := by
 refine Classical.byContradiction fun hc => ?_
 rw [mG hs (by omega)] at h; cases h
theorem ez {m i : Nat} (h : i < m) : 2 ^ i < 2 ^ m := Nat.pow_lt_pow_right (by omega) h
structure Ind (m : Nat) (I : Nat → Prop) : Prop where
 size : m ≤ 8
 sets : ∀ s, I s → s < 2 ^ m
 zero : I 0
 down : ∀ s t, I t → subN s t → I s
 aug : ∀ a b, I a → I b → pc a < pc b → ∃ e, e < 8 ∧ b.testBit e = true ∧ a.testBit e = false ∧ I (a ||| 2 ^ e)
def orL (a : Nat) : List Nat → Nat
 | [] => a
 | e :: es => orL a es ||| 2 ^ e
theorem orL_bit (a i : Nat) : ∀ es : List Nat, (orL a es).testBit i = (a.testBit i || decide (i ∈ es)) := by
 intro es
 induction es with
 | nil => simp [orL]
 | cons e es ih =>
  simp only [orL]; rw [add_bit, ih]; by_cases h : e = i
  ·subst h; simp
  ·have : ¬ i = e := fun x => h x.symm
   simp [h, this]
theorem Mat.aug {m : Nat} {L : List Nat} (h : Mat m L) {a b : Nat} (ha : indN L a = true) (hb : indN L b = true) (hlt : pc a < pc b) : ∃ e, e < 8 ∧ b.testBit e = true ∧ a.testBit e = false ∧ indN L (a ||| 2 ^ e) = true := by
 refine Classical.byContradiction fun hc => ?_
 have hlt256 : ∀ s, indN L s = true → s < 256 := fun s hs => by
  obtain ⟨x, hx, hsub⟩ := indN_iff.1 hs; exact Nat.lt_of_le_of_lt (eI hsub) (h.lt x hx)
 have ra := (e7 (hlt256 a ha) h.some).2 ha; have rb := (e7 (hlt256 b hb) h.some).2 hb; have h1 : ∀ e, e < 8 → b.testBit e = true → rkN L (a ||| 2 ^ e) ≤ rkN L a := by
  intro e he hbe; cases hae : a.testBit e
  ·have hn : ¬ indN L (a ||| 2 ^ e) = true := fun x => hc ⟨e, he, hbe, hae, x⟩
   have hl : a ||| 2 ^ e < 256 := Nat.or_lt_two_pow (n := 8) (hlt256 a ha) (ez he); have hne := mt (e7 hl h.some).1 hn; have hle := lT L (a ||| 2 ^ e); rw [ed he hae] at hle hne; omega
  ·refine gz h.some fun i hi => ?_
   rw [add_bit, Bool.or_eq_true] at hi; rcases hi with hi | hi
   ·exact hi
   ·rw [← of_decide_eq_true hi]; exact hae
 have h2 : ∀ es : List Nat, (∀ e ∈ es, e < 8 ∧ b.testBit e = true) → rkN L (orL a es) ≤ rkN L a := by
  intro es
  induction es with
  | nil => intro _; exact Nat.le_refl _
  | cons e es ih =>
   intro hes; have ih' := ih (fun x hx => hes x (List.mem_cons_of_mem _ hx)); have he := hes e (List.mem_cons_self ..); have hs := Mat.rk_sub h (orL a es) (a ||| 2 ^ e); have k1 : rkN L a ≤ rkN L (orL a es &&& (a ||| 2 ^ e)) := gz h.some fun i hi => by
    rw [Nat.testBit_and, orL_bit, add_bit, hi]; rfl
   have k2 : rkN L (orL a es ||| 2 ^ e) ≤ rkN L (orL a es ||| (a ||| 2 ^ e)) := gz h.some fun i hi => by
    rw [Nat.testBit_or, Bool.or_eq_true] at hi ⊢; rcases hi with hi | hi
    ·exact .inl hi
    ·right; rw [Nat.testBit_or, hi, Bool.or_true]
   have k3 := h1 e he.1 he.2; simp only [orL]; omega
 have h3 := h2 (els b) (fun e he => dW.1 he); have h4 : rkN L b ≤ rkN L (orL a (els b)) := gz h.some fun i hi => by
  rw [orL_bit, Bool.or_eq_true]
  right
  refine decide_eq_true (dW.2 ⟨?_, hi⟩); refine Classical.byContradiction fun hc => ?_
  rw [iM (hlt256 b hb) hc] at hi; cases hi
 omega
theorem Mat.ind {m : Nat} {L : List Nat} (h : Mat m L) : Ind m (fun s => indN L s = true) := by
 refine ⟨h.size, ?_, ?_, ?_, ?_⟩
 ·intro s hs; obtain ⟨x, hx, hsub⟩ := indN_iff.1 hs; exact Nat.lt_of_le_of_lt (eI hsub) (h.sets x hx)
 ·obtain ⟨x, hx⟩ := List.exists_mem_of_ne_nil L h.some; exact indN_iff.2 ⟨x, hx, e8 x⟩
 ·intro s t ht hst; obtain ⟨x, hx, hsub⟩ := indN_iff.1 ht; exact indN_iff.2 ⟨x, hx, fx hst hsub⟩
 ·intro a b ha hb hlt; exact Mat.aug h ha hb hlt
variable {m : Nat} {I : Nat → Prop}
theorem Ind.lt (h : Ind m I) {s : Nat} (hs : I s) : s < 256 := Nat.lt_of_lt_of_le (h.sets s hs) (cn h.size)
theorem Ind.max (h : Ind m I) : ∃ r, (∃ b, I b ∧ pc b = r) ∧ ∀ s, I s → pc s ≤ r := by
 have key : ∀ d b, I b → 8 - pc b ≤ d → ∃ r, (∃ b, I b ∧ pc b = r) ∧ ∀ s, I s → pc s ≤ r := by
  intro d
  induction d with
  | zero =>
   intro b hb hd; refine ⟨pc b, ⟨b, hb, rfl⟩, fun s _ => ?_⟩; have := jq s; have := jq b; omega
  | succ d ih =>
   intro b hb hd; by_cases hx : ∃ s, I s ∧ pc b < pc s
   ·obtain ⟨s, hs, hlt⟩ := hx; exact ih s hs (by omega)
   ·refine ⟨pc b, ⟨b, hb, rfl⟩, fun s hs => ?_⟩; have : ¬ pc b < pc s := fun hl => hx ⟨s, hs, hl⟩
    omega
 exact key 8 0 h.zero (by omega)
theorem Ind.indN_iff (h : Ind m I) {L : List Nat} {r : Nat} (hL : ∀ b, b ∈ L ↔ I b ∧ pc b = r) (hne : ∃ b, I b ∧ pc b = r) (hmax : ∀ s, I s → pc s ≤ r) (s : Nat) : indN L s = true ↔ I s := by
 constructor
 ·intro hs; obtain ⟨x, hx, hsub⟩ := Z.indN_iff.1 hs; exact h.down s x ((hL x).1 hx).1 hsub
 ·obtain ⟨b, ib, pb⟩ := hne; have key : ∀ d s, I s → r - pc s ≤ d → ∃ x, x ∈ L ∧ subN s x := by
   intro d
   induction d with
   | zero =>
    intro s hs hd; have := hmax s hs; exact ⟨s, (hL s).2 ⟨hs, by omega⟩, fS s⟩
   | succ d ih =>
    intro s hs hd; by_cases he : pc s = r
    ·exact ⟨s, (hL s).2 ⟨hs, he⟩, fS s⟩
    ·have := hmax s hs; obtain ⟨e, he8, h1, h2, h3⟩ := h.aug s b hs ib (by omega); obtain ⟨x, hx, hsub⟩ := ih _ h3 (by rw [ed he8 h2]; omega); refine ⟨x, hx, fx (bS.2 fun i hi => ?_) hsub⟩; rw [add_bit, hi, Bool.true_or]
  intro hs; obtain ⟨x, hx, hsub⟩ := key _ s hs (Nat.le_refl _); exact Z.indN_iff.2 ⟨x, hx, hsub⟩
theorem eH {x y : Nat} (h : x &&& y = 0) : pc (x ||| y) = pc x + pc y := by
 have := fT x y; rw [h, pc_zero] at this; omega
theorem jw {x y i : Nat} (h : x &&& y = 0) (hx : x.testBit i = true) : y.testBit i = false := by
 have := congrArg (fun z => Nat.testBit z i) h; simp only [Nat.testBit_and, hx, Bool.true_and, Nat.zero_testBit] at this; exact this
def Uni (I J : Nat → Prop) (s : Nat) : Prop := ∃ x y, I x ∧ J y ∧ s = x ||| y
theorem Uni.disj {I J : Nat → Prop} (hJ : ∀ s t, J t → subN s t → J s) {s : Nat} (h : Uni I J s) : ∃ x y, I x ∧ J y ∧ s = x ||| y ∧ x &&& y = 0 := by
 obtain ⟨x, y, hx, hy, rfl⟩ := h; refine ⟨x, dif y x, hx, hJ _ y hy (bS.2 fun i hi => by rw [dif_bit, Bool.and_eq_true] at hi; exact hi.1), ?_, ?_⟩
 ·apply Nat.eq_of_testBit_eq
  intro i; rw [Nat.testBit_or, Nat.testBit_or, dif_bit]; cases x.testBit i <;> cases y.testBit i <;> rfl
 ·apply Nat.eq_of_testBit_eq
  intro i; rw [Nat.testBit_and, dif_bit, Nat.zero_testBit]; cases x.testBit i <;> cases y.testBit i <;> rfl
theorem j8 {I J : Nat → Prop} (hI : Ind m I) (hJ : Ind m J) {b1 b2 : Nat} (ib1 : I b1) (ib2 : J b2) (hb : b1 &&& b2 = 0) : ∀ (n a1 a2 : Nat), I a1 → J a2 → a1 &&& a2 = 0 → pc (a1 ||| a2) < pc (b1 ||| b2) → 16 ≤ n + (pc (a1 &&& b1) + pc (a2 &&& b2)) → ∃ e, e < 8 ∧ (b1 ||| b2).testBit e = true ∧ (a1 ||| a2).testBit e = false ∧ Uni I J ((a1 ||| a2) ||| 2 ^ e) := by
 intro n
 induction n with
 | zero =>
  intro a1 a2 i1 i2 hd hlt hn; have k1 := fa b1 a1; have k2 := fa b2 a2; rw [Nat.and_comm] at k1 k2; have := eH hd; have := eH hb; have h8 := jq (b1 ||| b2); omega
 | succ n ih =>
  intro a1 a2 i1 i2 hd hlt hn; have ea := eH hd; have eb := eH hb; by_cases hc : pc a1 < pc b1
  ·obtain ⟨e, he, h1, h2, h3⟩ := hI.aug a1 b1 i1 ib1 hc; cases h4 : a2.testBit e
   ·refine ⟨e, he, by rw [Nat.testBit_or, h1, Bool.true_or], by rw [Nat.testBit_or, h2, h4]; rfl, a1 ||| 2 ^ e, a2, h3, i2, ?_⟩
    apply Nat.eq_of_testBit_eq
    intro i; simp only [Nat.testBit_or]; cases a1.testBit i <;> cases a2.testBit i <;> cases (2 ^ e).testBit i <;> rfl
   ·have eu : (a1 ||| 2 ^ e) ||| dif a2 (2 ^ e) = a1 ||| a2 := by
     apply Nat.eq_of_testBit_eq
     intro i; rw [Nat.testBit_or, add_bit, del_bit, Nat.testBit_or]; by_cases hi : e = i
     ·subst hi; rw [h4]; simp
     ·simp [hi]
    have := ih (a1 ||| 2 ^ e) (dif a2 (2 ^ e)) h3 (hJ.down _ a2 i2 (bS.2 fun i hi => by rw [del_bit, Bool.and_eq_true] at hi; exact hi.1)) (by
      apply Nat.eq_of_testBit_eq
      intro i; rw [Nat.testBit_and, add_bit, del_bit, Nat.zero_testBit]; by_cases hi : e = i
      ·subst hi; simp
      ·have hx := congrArg (fun z => Nat.testBit z i) hd; simp only [Nat.testBit_and, Nat.zero_testBit] at hx; simp [hi, hx]) (by rw [eu]; exact hlt) (by
      have k1 : pc ((a1 ||| 2 ^ e) &&& b1) = pc (a1 &&& b1) + 1 := by
       rw [← ed (a := a1 &&& b1) he (by rw [Nat.testBit_and, h2]; rfl)]
       congr 1
       apply Nat.eq_of_testBit_eq
       intro i; rw [Nat.testBit_and, add_bit, add_bit, Nat.testBit_and]; by_cases hi : e = i
       ·subst hi; rw [h1]; simp
       ·simp [hi]
      have k2 : dif a2 (2 ^ e) &&& b2 = a2 &&& b2 := by
       apply Nat.eq_of_testBit_eq
       intro i; rw [Nat.testBit_and, del_bit, Nat.testBit_and]; by_cases hi : e = i
       ·subst hi; rw [jw hb h1]; simp
       ·simp [hi]
      rw [k1, k2]; omega)
    rw [eu] at this; exact this
  ·have hc2 : pc a2 < pc b2 := by omega
   obtain ⟨e, he, h1, h2, h3⟩ := hJ.aug a2 b2 i2 ib2 hc2; have hb' : b2 &&& b1 = 0 := by rw [Nat.and_comm]; exact hb
   cases h4 : a1.testBit e
   ·refine ⟨e, he, by rw [Nat.testBit_or, h1, Bool.or_true], by rw [Nat.testBit_or, h2, h4]; rfl, a1, a2 ||| 2 ^ e, i1, h3, ?_⟩
    apply Nat.eq_of_testBit_eq
    intro i; simp only [Nat.testBit_or]; cases a1.testBit i <;> cases a2.testBit i <;> cases (2 ^ e).testBit i <;> rfl
   ·have eu : dif a1 (2 ^ e) ||| (a2 ||| 2 ^ e) = a1 ||| a2 := by
     apply Nat.eq_of_testBit_eq
     intro i; rw [Nat.testBit_or, add_bit, del_bit, Nat.testBit_or]; by_cases hi : e = i
     ·subst hi; rw [h4]; simp
     ·simp [hi]
    have := ih (dif a1 (2 ^ e)) (a2 ||| 2 ^ e) (hI.down _ a1 i1 (bS.2 fun i hi => by rw [del_bit, Bool.and_eq_true] at hi; exact hi.1)) h3 (by
      apply Nat.eq_of_testBit_eq
      intro i; rw [Nat.testBit_and, add_bit, del_bit, Nat.zero_testBit]; by_cases hi : e = i
      ·subst hi; simp
      ·have hx := congrArg (fun z => Nat.testBit z i) hd; simp only [Nat.testBit_and, Nat.zero_testBit] at hx; simp [hi, hx]) (by rw [eu]; exact hlt) (by
      have k1 : pc ((a2 ||| 2 ^ e) &&& b2) = pc (a2 &&& b2) + 1 := by
       rw [← ed (a := a2 &&& b2) he (by rw [Nat.testBit_and, h2]; rfl)]
       congr 1
       apply Nat.eq_of_testBit_eq
       intro i; rw [Nat.testBit_and, add_bit, add_bit, Nat.testBit_and]; by_cases hi : e = i
       ·subst hi; rw [h1]; simp
       ·simp [hi]
      have k2 : dif a1 (2 ^ e) &&& b1 = a1 &&& b1 := by
       apply Nat.eq_of_testBit_eq
       intro i; rw [Nat.testBit_and, del_bit, Nat.testBit_and]; by_cases hi : e = i
       ·subst hi; rw [jw hb' h1]; simp
       ·simp [hi]
      rw [k1, k2]; omega)
    rw [eu] at this; exact this
theorem Ind.union {I J : Nat → Prop} (hI : Ind m I) (hJ : Ind m J) : Ind m (Uni I J) := by
 refine ⟨hI.size, ?_, ?_, ?_, ?_⟩
 ·rintro s ⟨x, y, hx, hy, rfl⟩; exact lB (hI.sets x hx) (hJ.sets y hy)
 ·exact ⟨0, 0, hI.zero, hJ.zero, rfl⟩
 ·rintro s t ⟨x, y, hx, hy, rfl⟩ hst; refine ⟨x &&& s, y &&& s, hI.down _ x hx (bS.2 fun i hi => by rw [Nat.testBit_and, Bool.and_eq_true] at hi; exact hi.1), hJ.down _ y hy (bS.2 fun i hi => by rw [Nat.testBit_and, Bool.and_eq_true] at hi; exact hi.1), ?_⟩
  apply Nat.eq_of_testBit_eq
  intro i; have h1 := bS.1 hst i; rw [Nat.testBit_or] at h1; rw [Nat.testBit_or, Nat.testBit_and, Nat.testBit_and]; cases hs : s.testBit i
  ·simp
  ·rw [hs] at h1; simpa using (h1 rfl).symm
 ·intro a b ha hb hlt; obtain ⟨a1, a2, i1, i2, rfl, hd⟩ := Uni.disj hJ.down ha; obtain ⟨b1, b2, j1, j2, rfl, hd'⟩ := Uni.disj hJ.down hb; exact j8 hI hJ j1 j2 hd' 16 a1 a2 i1 i2 hd hlt (by omega)
def One (S s : Nat) : Prop := s = 0 ∨ ∃ e, e < 8 ∧ S.testBit e = true ∧ s = 2 ^ e
theorem Ind.one {S : Nat} (hm : m ≤ 8) (hS : S < 2 ^ m) : Ind m (One S) := by
 refine ⟨hm, ?_, .inl rfl, ?_, ?_⟩
 ·rintro s (rfl | ⟨e, he, h1, rfl⟩)
  ·exact Nat.two_pow_pos _
  ·exact ez (fP hS h1)
 ·rintro s t (rfl | ⟨e, he, h1, rfl⟩) hst
  ·left
   have := eI hst; omega
  ·cases hb : s.testBit e
   ·left
    apply Nat.eq_of_testBit_eq
    intro i; rw [Nat.zero_testBit]; cases hi : s.testBit i
    ·rfl
    ·have := bS.1 hst i hi; rw [Nat.testBit_two_pow] at this; rw [of_decide_eq_true this, hi] at hb; cases hb
   ·right
    refine ⟨e, he, h1, ?_⟩
    apply Nat.eq_of_testBit_eq
    intro i; rw [Nat.testBit_two_pow]; by_cases hi : e = i
    ·subst hi; rw [hb]; simp
    ·rw [decide_eq_false hi]; cases hs : s.testBit i
     ·rfl
     ·have := bS.1 hst i hs; rw [Nat.testBit_two_pow] at this; exact absurd (of_decide_eq_true this) hi
 ·rintro a b (rfl | ⟨e, he, h1, rfl⟩) hb hlt
  ·rcases hb with rfl | ⟨f, hf, h2, rfl⟩
   ·omega
   ·exact ⟨f, hf, by rw [Nat.testBit_two_pow]; simp, Nat.zero_testBit _, by rw [Nat.zero_or]; exact .inr ⟨f, hf, h2, rfl⟩⟩
  ·rw [iT he] at hlt; rcases hb with rfl | ⟨f, hf, h2, rfl⟩
   ·rw [pc_zero] at hlt; omega
   ·rw [iT hf] at hlt; omega
theorem ke {l : List Int} {a b : Nat} : ∀ {es : List Nat}, ep l a b es = none → ∀ e ∈ es, gn l a b e = true := by
 intro es
 induction es with
 | nil => intro _ e he; simp at he
 | cons x es ih =>
  intro h e he; simp only [ep] at h; by_cases hx : gn l a b x = true
  ·rw [if_pos hx] at h; rcases List.mem_cons.1 he with rfl | he
   ·exact hx
   ·exact ih h e he
  ·rw [if_neg hx] at h; cases h
theorem km {l : List Int} {a : Nat} : ∀ {bs : List Nat}, eD l a bs = none → ∀ b ∈ bs, ep l a b (els (dif a b)) = none := by
 intro bs
 induction bs with
 | nil => intro _ e he; simp at he
 | cons x bs ih =>
  intro h b hb; simp only [eD] at h; cases hx : ep l a x (els (dif a x)) with
  | none =>
   rw [hx] at h; rcases List.mem_cons.1 hb with rfl | hb
   ·exact hx
   ·exact ih h b hb
  | some e => rw [hx] at h; cases h
theorem jZ {l : List Int} {L : List Nat} : ∀ {la : List Nat}, eO l L la = none → ∀ a ∈ la, eD l a L = none := by
 intro la
 induction la with
 | nil => intro _ e he; simp at he
 | cons x la ih =>
  intro h b hb; simp only [eO] at h; cases hx : eD l x L with
  | none =>
   rw [hx] at h; rcases List.mem_cons.1 hb with rfl | hb
   ·exact hx
   ·exact ih h b hb
  | some e => rw [hx] at h; cases h
theorem g9 {L : List Nat} {x : Nat} : (ints L).contains (x : Int) = true ↔ x ∈ L := by
 rw [List.contains_iff_mem]; unfold ints; rw [List.mem_map]
 constructor
 ·rintro ⟨y, hy, he⟩; have : y = x := by omega
  subst this; exact hy
 ·intro h; exact ⟨x, h, rfl⟩
theorem jC {n : Int} {l : List Int} (h : matB n l = true) : ∃ (m : Nat) (L : List Nat), n = m ∧ l = ints L ∧ Mat m L ∧ L.Pairwise (· < ·) := by
 have h0 := h; obtain ⟨m, L, rfl, hm, rfl, hL, hL256, hp, hne⟩ := dN h; refine ⟨m, L, rfl, rfl, ⟨hm, hL, hne, ?_⟩, hp⟩; simp only [matB, Bool.and_eq_true] at h0; obtain ⟨hf, _, hff⟩ := h0; unfold iw at hff; rw [if_pos hf, show (ints L).map Int.toNat = L from bP L] at hff; cases hA : eO (ints L) L L with
 | some x => rw [hA] at hff; simp [told] at hff
 | none =>
  intro a ha b hb e he hae hbe; have h1 := ke (km (jZ hA a ha) b hb) e (dW.2 ⟨he, by rw [dif_bit, hae, hbe]; rfl⟩); unfold gn at h1; obtain ⟨f, hf', hc⟩ := List.any_eq_true.1 h1; obtain ⟨hf8, hfb⟩ := dW.1 hf'; rw [dif_bit] at hfb; simp only [Bool.and_eq_true, Bool.not_eq_true'] at hfb; exact ⟨f, hf8, hfb.1, hfb.2, g9.1 hc⟩
def topN (F : List Nat) : List Nat := F.filter (fun s => !F.any (fun t => decide (t ≠ s) && decide (subN s t)))
variable {m : Nat} {I : Nat → Prop} {p : Nat → Bool}
theorem mL (hI : Ind m I) (hp : ∀ s, p s = true ↔ I s) {r : Nat} (hex : ∃ b, I b ∧ pc b = r) (hmax : ∀ s, I s → pc s ≤ r) : topN ((List.range (2 ^ m)).filter p) = (List.range (2 ^ m)).filter (fun s => p s && decide (pc s = r)) := by
 unfold topN; rw [List.filter_filter]
 apply List.filter_congr
 intro s hs; rw [Bool.eq_iff_iff, Bool.and_eq_true, Bool.and_eq_true, Bool.not_eq_true', decide_eq_true_eq]
 constructor
 ·rintro ⟨h1, h2⟩; have hIs := (hp s).1 h2; refine ⟨h2, ?_⟩; refine Classical.byContradiction fun hne => ?_
  obtain ⟨b, hb, hr⟩ := hex; have := hmax s hIs; obtain ⟨e, he, k1, k2, k3⟩ := hI.aug s b hIs hb (by omega); rw [Bool.eq_false_iff] at h1
  apply h1
  rw [List.any_eq_true]; refine ⟨s ||| 2 ^ e, List.mem_filter.2 ⟨List.mem_range.2 (hI.sets _ k3), (hp _).2 k3⟩, ?_⟩; rw [Bool.and_eq_true, decide_eq_true_eq, decide_eq_true_eq]; refine ⟨fun he' => ?_, bS.2 fun i hi => by rw [add_bit, hi]; rfl⟩; have := congrArg (fun x => Nat.testBit x e) he'; simp only [add_bit, k2] at this; simp at this
 ·rintro ⟨h1, h2⟩; refine ⟨?_, h1⟩; rw [Bool.eq_false_iff]; intro hany; obtain ⟨t, ht, hc⟩ := List.any_eq_true.1 hany; obtain ⟨ht1, ht2⟩ := List.mem_filter.1 ht; rw [Bool.and_eq_true, decide_eq_true_eq, decide_eq_true_eq] at hc; have hIt := (hp t).1 ht2; have hIs := (hp s).1 h1; have hle := hmax t hIt; exact hc.1 (gN (hI.lt hIs) (hI.lt hIt) hc.2 (by omega)).symm
end Go.Proofs.Ytimkekeaeojpkaa.Q
namespace Go.Proofs.Ytimkekeaeojpkaa.Q
open Go Go.RowKit Go.Proofs.Ytimkekeaeojpkaa.A Go.Proofs.YtimkekeaeojpkaaW.PrintWords Go.Proofs.YtimkekeaeojpkaaW.PrintLast Go.Proofs.YtimkekeaeojpkaaW.PrintMore Go.Proofs.Ytimkekeaeojpkaa.Z
set_option linter.unusedVariables false
set_option linter.unusedSimpArgs false
def iD (n : Int) (l : List Int) : Bool := l.all (du n)
def dv (n : Int) (l : List Int) : Bool := (decide (0 ≤ n) && decide (n ≤ 8)) && (decide (l.length ≤ 6) && iD n l)
theorem fY (n : Int) (l : List Int) (hl : l.length ≤ 17592186044416) : Ev (fun k => a8.f k n l) (iD n l) := by
 have h := down (P := fun i => Ev (fun k => a8.l0 k n l (i : Int)) (iD n (l.drop i))) l.length
  (by
   apply Ev.step
   ·intro k; simp only [a8.l0, specIsSet_eq, Option.bind_some]; rw [if_neg (by omega)]
   ·rw [cO]; exact Ev.now _)
  (by
   intro i hi ih
   apply Ev.step
   ·intro k; simp only [a8.l0, specIsSet_eq, Option.bind_some]; rw [if_pos (by omega), if_pos (by omega), b9 l i hi, bG hi hl]
   ·rw [cp l i hi]; simp only [iD, List.all_cons]; by_cases hx : du n l[i] = true
    ·refine Ev.ifp hx ?_; rw [hx, Bool.true_and]; exact ih
    ·refine Ev.ifn hx ?_; rw [Bool.eq_false_iff.2 hx, Bool.false_and]; exact Ev.now _)
 exact h
theorem gp (n : Int) (l : List Int) (hl : l.length ≤ 17592186044416) : Ev (fun k => cS.f k n l) (dv n l) := by
 unfold cS.f dv; refine Ev.cbind (l1In_eq _ _ _) ?_; by_cases h : (decide (0 ≤ n) && decide (n ≤ 8)) = true
 ·refine Ev.ifp h ?_; rw [h, Bool.true_and]; by_cases h6 : (l.length : Int) ≤ 6
  ·refine Ev.ifp h6 ?_; rw [show decide (l.length ≤ 6) = true from by simp; omega, Bool.true_and]; exact Ev.bind (fY n l hl) (Ev.now _)
  ·refine Ev.ifn h6 ?_; rw [show decide (l.length ≤ 6) = false from by simp; omega, Bool.false_and]; exact Ev.now _
 ·refine Ev.ifn h ?_; rw [Bool.eq_false_iff.2 h, Bool.false_and]; exact Ev.now _
def asgT (sets list : List Int) (used : List Int) (k : Nat) : Bool := !(used.contains (k : Int)) && (rd sets (k : Int)).toNat.testBit (rd list (used.length : Int)).toNat
def asgL (rec : List Int → List Int × Bool) (sets list : List Int) (used : List Int) : List Nat → List Int × Bool
 | [] => ([], false)
 | k :: ks => if asgT sets list used k = true then (if (rec (used ++ [(k : Int)])).2 = true then ((rec (used ++ [(k : Int)])).1, true) else asgL rec sets list used ks) else asgL rec sets list used ks
def asg (sets list : List Int) : Nat → List Int → List Int × Bool
 | 0, used => (used, true)
 | d + 1, used => asgL (asg sets list d) sets list used (List.range sets.length)
theorem kP {sets : List Int} (hm : ∀ x ∈ sets, ∃ t : Nat, x = t ∧ t < 256) {i : Nat} (hi : i < sets.length) : ∃ t : Nat, rd sets (i : Int) = t ∧ t < 256 := by
 rw [b9 sets i hi]; exact hm _ (List.getElem_mem hi)
theorem mT {list : List Int} (hm : ∀ x ∈ list, ∃ e : Nat, x = e ∧ e < 8) {i : Nat} (hi : i < list.length) : ∃ e : Nat, rd list (i : Int) = e ∧ e < 8 := by
 rw [b9 list i hi]; exact hm _ (List.getElem_mem hi)
theorem ie (sets list : List Int) (hs : sets.length ≤ 6) (hsm : ∀ x ∈ sets, ∃ t : Nat, x = t ∧ t < 256) (hll : list.length ≤ 8) (hlm : ∀ x ∈ list, ∃ e : Nat, x = e ∧ e < 8) :
  ∀ (d : Nat) (used : List Int), used.length + d = list.length → Ev (fun k => aJ.f k sets list used) (asg sets list d used) := by
 intro d
 induction d with
 | zero =>
  intro used hu
  apply Ev.step
  ·intro k; simp only [aJ.f]; rw [if_pos (by omega)]
  ·exact Ev.now _
 | succ d ihd =>
  intro used hu
  apply Ev.step
  ·intro k; simp only [aJ.f]; rw [if_neg (by omega)]
  ·have h := down (P := fun i => Ev (fun k => aJ.l0 k sets list used (i : Int)) (asgL (asg sets list d) sets list used (List.range' i (sets.length - i)))) sets.length
    (by
     apply Ev.step
     ·intro k; simp only [aJ.l0]; rw [if_neg (by omega)]
     ·rw [Nat.sub_self]; exact Ev.now _)
    (by
     intro i hi ih; rw [dA hi]; obtain ⟨t, ht, ht256⟩ := kP hsm hi; obtain ⟨e, he, he8⟩ := mT hlm (show used.length < list.length by omega); have hT : asgT sets list used i = (!(used.contains (i : Int)) && t.testBit e) := by
      unfold asgT; rw [ht, he, Int.toNat_natCast, Int.toNat_natCast]
     have hih : Ev (fun k => aJ.l0 k sets list used (wrap64 ((i : Int) + 1))) (asgL (asg sets list d) sets list used (List.range' (i + 1) (sets.length - (i + 1)))) := by
      rw [bG hi (by omega)]; exact ih
     apply Ev.step
     ·intro k; simp only [aJ.l0]; rw [if_pos (by omega)]
     ·refine Ev.bind (fj used _ (by omega)) ?_; by_cases hc : used.contains (i : Int) = true
      ·refine Ev.ifp hc ?_; simp only [asgL]; rw [hT, hc, if_neg (by simp)]
       apply Ev.step
       ·intro k; rw [aJ.j1]
       ·exact Ev.ifp rfl hih
      ·refine Ev.ifn hc (Ev.ifp (by omega) (Ev.ifp (by omega) (Ev.ifp (by omega) ?_))); refine Ev.cbind (a := t.testBit e) (by rw [ht, he]; exact cX (aZ ht256) (by omega)) ?_; simp only [asgL]; rw [hT, Bool.eq_false_iff.2 hc]; cases hb : t.testBit e with
       | false =>
        rw [if_neg (by simp)]
        apply Ev.step
        ·intro k; rw [aJ.j1]
        ·exact Ev.ifp rfl hih
       | true =>
        rw [if_pos (by simp)]
        apply Ev.step
        ·intro k; rw [aJ.j1]
        ·refine Ev.ifn (by simp) (Ev.cbind rfl (Ev.ifp (by simp; omega) (Ev.cbind rfl (Ev.ifp (by simp; omega) ?_)))); refine Ev.bind (ihd (used ++ [(i : Int)]) (by simp; omega)) ?_; by_cases h2 : (asg sets list d (used ++ [(i : Int)])).2 = true
         ·rw [if_pos h2]; exact Ev.ifp h2 (Ev.now _)
         ·rw [if_neg h2]; exact Ev.ifn h2 hih)
   rw [Nat.sub_zero, ← List.range_eq_range'] at h; exact h
theorem j9 (s : Int) : ∀ x ∈ elsB s, ∃ e : Nat, x = e ∧ e < 8 := fun x hx => by
 obtain ⟨e, h1, h2, _⟩ := lM hx; exact ⟨e, h1, h2⟩
end Go.Proofs.Ytimkekeaeojpkaa.Q
namespace Go.Proofs.Ytimkekeaeojpkaa.Q
open Go Go.RowKit Go.Proofs.YtimkekeaeojpkaaW.PrintWords Go.Proofs.YtimkekeaeojpkaaW.PrintLast Go.Proofs.YtimkekeaeojpkaaW.PrintMore Go.Proofs.Ytimkekeaeojpkaa.Z
set_option linter.unusedVariables false
set_option linter.unusedSimpArgs false
def TP : List Nat → Nat → Prop
 | [], s => s = 0
 | x :: S, s => Uni (TP S) (One x) s
theorem mE {m : Nat} (hm : m ≤ 8) : Ind m (fun s => s = 0) := by
 refine ⟨hm, ?_, rfl, ?_, ?_⟩
 ·rintro s rfl; exact Nat.two_pow_pos _
 ·rintro s t rfl h; have := eI h; omega
 ·rintro a b rfl rfl h; omega
theorem Ind.trans {m : Nat} (hm : m ≤ 8) : ∀ S : List Nat, (∀ x ∈ S, x < 2 ^ m) → Ind m (TP S) := by
 intro S
 induction S with
 | nil => intro _; exact mE hm
 | cons x S ih => intro h; exact (ih (fun y hy => h y (List.mem_cons_of_mem _ hy))).union (Ind.one hm (h x (List.mem_cons_self ..)))
def MTz : List Nat → List Nat → Prop
 | _, [] => True
 | S, e :: es => ∃ k, k < S.length ∧ (S.getD k 0).testBit e = true ∧ MTz (S.set k 0) es
theorem One.zero {s : Nat} : One 0 s ↔ s = 0 := by
 constructor
 ·rintro (h | ⟨e, _, h, _⟩)
  ·exact h
  ·rw [Nat.zero_testBit] at h; cases h
 ·intro h; exact .inl h
theorem mZ {e : Nat} (he : e < 8) : ∀ (S : List Nat) (k t : Nat), k < S.length → (S.getD k 0).testBit e = true → TP (S.set k 0) t → TP S (t ||| 2 ^ e) := by
 intro S
 induction S with
 | nil => intro k t hk; simp at hk
 | cons x S ih =>
  intro k t hk hb ht; cases k with
  | zero =>
   rw [List.set_cons_zero] at ht; obtain ⟨y, z, hy, hz, rfl⟩ := ht; have := One.zero.1 hz; subst this; exact ⟨y, 2 ^ e, hy, .inr ⟨e, he, hb, rfl⟩, by rw [Nat.or_zero]⟩
  | succ k =>
   rw [List.set_cons_succ] at ht; obtain ⟨y, z, hy, hz, rfl⟩ := ht; refine ⟨y ||| 2 ^ e, z, ih k y (by simpa using hk) hb hy, hz, ?_⟩
   apply Nat.eq_of_testBit_eq
   intro i; simp only [Nat.testBit_or]; cases y.testBit i <;> cases z.testBit i <;> cases (2 ^ e).testBit i <;> rfl
theorem mA : ∀ (S : List Nat) (s t : Nat), TP S t → subN s t → TP S s := by
 intro S
 induction S with
 | nil => rintro s t rfl h; exact Nat.le_zero.1 (eI h)
 | cons x S ih =>
  rintro s t ⟨y, z, hy, hz, rfl⟩ h; refine ⟨y &&& s, z &&& s, ih _ y hy (bS.2 fun i hi => by rw [Nat.testBit_and, Bool.and_eq_true] at hi; exact hi.1), ?_, ?_⟩
  ·rcases hz with rfl | ⟨e, he, hb, rfl⟩
   ·left; exact Nat.zero_and _
   ·cases hs : s.testBit e
    ·left
     apply Nat.eq_of_testBit_eq
     intro i; rw [Nat.testBit_and, Nat.testBit_two_pow, Nat.zero_testBit]; by_cases hi : e = i
     ·subst hi; rw [hs]; simp
     ·simp [hi]
    ·right
     refine ⟨e, he, hb, ?_⟩
     apply Nat.eq_of_testBit_eq
     intro i; rw [Nat.testBit_and, Nat.testBit_two_pow]; by_cases hi : e = i
     ·subst hi; rw [hs]; simp
     ·simp [hi]
  ·apply Nat.eq_of_testBit_eq
   intro i; have h1 := bS.1 h i; rw [Nat.testBit_or] at h1; rw [Nat.testBit_or, Nat.testBit_and, Nat.testBit_and]; cases hs : s.testBit i
   ·simp
   ·rw [hs] at h1; simpa using (h1 rfl).symm
theorem ml {e : Nat} : ∀ (S : List Nat) (u : Nat), TP S u → u.testBit e = true → ∃ k, k < S.length ∧ (S.getD k 0).testBit e = true ∧ TP (S.set k 0) (dif u (2 ^ e)) := by
 intro S
 induction S with
 | nil => rintro u rfl h; rw [Nat.zero_testBit] at h; cases h
 | cons x S ih =>
  rintro u ⟨y, z, hy, hz, rfl⟩ h; by_cases hze : z.testBit e = true
  ·have hzz : z = 2 ^ e ∧ x.testBit e = true := by
    rcases hz with rfl | ⟨f, hf, hb, rfl⟩
    ·rw [Nat.zero_testBit] at hze; cases hze
    ·rw [Nat.testBit_two_pow] at hze; have := of_decide_eq_true hze; subst this; exact ⟨rfl, hb⟩
   refine ⟨0, by simp, hzz.2, ?_⟩; rw [List.set_cons_zero]; refine ⟨dif y (2 ^ e), 0, mA S _ y hy (bS.2 fun i hi => by rw [del_bit, Bool.and_eq_true] at hi; exact hi.1), .inl rfl, ?_⟩; rw [hzz.1]
   apply Nat.eq_of_testBit_eq
   intro i; simp only [dif_bit, Nat.testBit_or, Nat.zero_testBit]; cases y.testBit i <;> cases (2 ^ e).testBit i <;> rfl
  ·have hze' := Bool.eq_false_iff.2 hze; rw [Nat.testBit_or, hze', Bool.or_false] at h; obtain ⟨k, hk, hb, ht⟩ := ih y hy h; refine ⟨k + 1, by simpa using hk, by simpa using hb, ?_⟩; rw [List.set_cons_succ]; refine ⟨dif y (2 ^ e), z, ht, hz, ?_⟩
   apply Nat.eq_of_testBit_eq
   intro i; rw [del_bit, Nat.testBit_or, Nat.testBit_or, del_bit]; by_cases hi : e = i
   ·subst hi; rw [hze']; simp
   ·simp [hi]
theorem nc : ∀ (es S : List Nat), es.Nodup → (∀ e ∈ es, e < 8) → (MTz S es ↔ TP S (orL 0 es)) := by
 intro es
 induction es with
 | nil =>
  intro S _ _; refine ⟨fun _ => ?_, fun _ => trivial⟩; have : ∀ S : List Nat, TP S 0 := by
   intro S
   induction S with
   | nil => rfl
   | cons x S ih => exact ⟨0, 0, ih, .inl rfl, rfl⟩
  exact this S
 | cons e es ih =>
  intro S hnd h8; rw [List.nodup_cons] at hnd; have ihS := fun S => ih S hnd.2 (fun x hx => h8 x (List.mem_cons_of_mem _ hx))
  have he := h8 e (List.mem_cons_self ..); simp only [MTz, orL]
  constructor
  ·rintro ⟨k, hk, hb, hm⟩; exact mZ he S k _ hk hb ((ihS _).1 hm)
  ·intro ht; obtain ⟨k, hk, hb, h2⟩ := ml (e := e) S _ ht (by rw [add_bit]; simp); refine ⟨k, hk, hb, (ihS _).2 ?_⟩; have : dif (orL 0 es ||| 2 ^ e) (2 ^ e) = orL 0 es := by
    apply Nat.eq_of_testBit_eq
    intro i; rw [del_bit, add_bit, orL_bit]; by_cases hi : e = i
    ·subst hi; simp [hnd.1]
    ·simp [hi]
   rw [this] at h2; exact h2
theorem mj (rec : List Int → List Int × Bool) (sets list used : List Int) : ∀ ks : List Nat, (asgL rec sets list used ks).2 = true ↔ ∃ k ∈ ks, asgT sets list used k = true ∧ (rec (used ++ [(k : Int)])).2 = true := by
 intro ks
 induction ks with
 | nil => simp [asgL]
 | cons k ks ih =>
  simp only [asgL]; by_cases h1 : asgT sets list used k = true
  ·rw [if_pos h1]; by_cases h2 : (rec (used ++ [(k : Int)])).2 = true
   ·rw [if_pos h2]; exact ⟨fun _ => ⟨k, List.mem_cons_self .., h1, h2⟩, fun _ => rfl⟩
   ·rw [if_neg h2, ih]
    constructor
    ·rintro ⟨x, hx, h⟩; exact ⟨x, List.mem_cons_of_mem _ hx, h⟩
    ·rintro ⟨x, hx, h3, h4⟩; rcases List.mem_cons.1 hx with rfl | hx
     ·exact absurd h4 h2
     ·exact ⟨x, hx, h3, h4⟩
  ·rw [if_neg h1, ih]
   constructor
   ·rintro ⟨x, hx, h⟩; exact ⟨x, List.mem_cons_of_mem _ hx, h⟩
   ·rintro ⟨x, hx, h3, h4⟩; rcases List.mem_cons.1 hx with rfl | hx
    ·exact absurd h3 h1
    ·exact ⟨x, hx, h3, h4⟩
def zer (S U : List Nat) : List Nat := (List.range S.length).map (fun i => if i ∈ U then 0 else S.getD i 0)
theorem zer_len (S U : List Nat) : (zer S U).length = S.length := by unfold zer; simp
theorem kI (S U : List Nat) (k : Nat) (hk : k < S.length) : (zer S U).getD k 0 = if k ∈ U then 0 else S.getD k 0 := by
 unfold zer; rw [List.getD, List.getElem?_map, List.getElem?_range hk]; rfl
theorem mJ (S : List Nat) : zer S [] = S := by
 apply List.ext_getElem
 ·exact zer_len S []
 ·intro i h1 h2; unfold zer; simp [List.getD, h2]
theorem kB (S U : List Nat) (k : Nat) : (zer S U).set k 0 = zer S (U ++ [k]) := by
 apply List.ext_getElem
 ·rw [List.length_set, zer_len, zer_len]
 ·intro i h1 h2; rw [List.getElem_set]; unfold zer; simp only [List.getElem_map, List.getElem_range, List.mem_append, List.mem_singleton]; by_cases h : k = i
  ·subst h; simp
  ·have : ¬ i = k := fun x => h x.symm
   simp [h, this]
theorem ints_getD (S : List Nat) (k : Nat) : (rd (ints S) (k : Int)).toNat = S.getD k 0 := by
 rw [mS]; unfold ints; rw [List.getD, List.getD, List.getElem?_map]; cases S[k]? <;> rfl
theorem mU (S es : List Nat) : ∀ (d : Nat) (U : List Nat), U.length + d = es.length → ((asg (ints S) (ints es) d (ints U)).2 = true ↔ MTz (zer S U) (es.drop U.length)) := by
 intro d
 induction d with
 | zero =>
  intro U hU; rw [List.drop_eq_nil_of_le (by omega)]; simp only [asg, MTz]
 | succ d ih =>
  intro U hU; have hlt : U.length < es.length := by omega
  rw [cp es U.length hlt]; simp only [asg, MTz]; rw [mj]
  constructor
  ·rintro ⟨k, hk, h1, h2⟩; rw [List.mem_range, ints_len] at hk; unfold asgT at h1; rw [Bool.and_eq_true, Bool.not_eq_true', ints_getD, ints_len, ints_getD] at h1; have hkU : ¬ k ∈ U := fun h => by
    have := h1.1; rw [Bool.eq_false_iff] at this; exact this (g9.2 h)
   refine ⟨k, by rw [zer_len]; exact hk, ?_, ?_⟩
   ·rw [kI S U k hk, if_neg hkU]; have := h1.2; rw [show es.getD U.length 0 = es[U.length] from by rw [List.getD, List.getElem?_eq_getElem hlt]; rfl] at this; exact this
   ·rw [kB]; have := (ih (U ++ [k]) (by simp; omega)).1 (by unfold ints at h2 ⊢; simpa using h2)
    simpa using this
  ·rintro ⟨k, hk, h1, h2⟩; rw [zer_len] at hk; rw [kI S U k hk] at h1; have hkU : ¬ k ∈ U := fun h => by rw [if_pos h, Nat.zero_testBit] at h1; cases h1
   rw [if_neg hkU] at h1; refine ⟨k, List.mem_range.2 (by rw [ints_len]; exact hk), ?_, ?_⟩
   ·unfold asgT; rw [Bool.and_eq_true, Bool.not_eq_true', ints_getD, ints_len, ints_getD, Bool.eq_false_iff]; refine ⟨fun h => hkU (g9.1 h), ?_⟩; rw [show es.getD U.length 0 = es[U.length] from by rw [List.getD, List.getElem?_eq_getElem hlt]; rfl]; exact h1
   ·rw [kB] at h2; have := (ih (U ++ [k]) (by simp; omega)).2 (by simpa using h2); unfold ints at this ⊢
    simpa using this
theorem mx {s : Nat} (hs : s < 256) : orL 0 (els s) = s := by
 apply Nat.eq_of_testBit_eq
 intro i; rw [orL_bit, Nat.zero_testBit, Bool.false_or, Bool.eq_iff_iff, decide_eq_true_eq, dW]; refine ⟨fun h => h.2, fun h => ⟨?_, h⟩⟩; refine Classical.byContradiction fun hc => ?_
 rw [iM hs hc] at h; cases h
theorem lz {S : List Nat} {s : Nat} (hs : s < 256) : (asg (ints S) (ints (els s)) (els s).length []).2 = true ↔ TP S s := by
 have h1 := mU S (els s) (els s).length [] (by simp); have h2 := nc (els s) S (List.Nodup.sublist List.filter_sublist List.nodup_range) (fun e he => (dW.1 he).1); rw [mx hs] at h2; rw [mJ, List.length_nil, List.drop_zero] at h1; exact h1.trans h2
theorem go {n : Int} {l : List Int} (h : dv n l = true) : l.length ≤ 6 ∧ ∀ x ∈ l, ∃ t : Nat, x = t ∧ t < 256 := by
 simp only [dv, Bool.and_eq_true, decide_eq_true_eq] at h; refine ⟨h.2.1, fun x hx => ?_⟩; have := List.all_eq_true.1 h.2.2 x hx; obtain ⟨_, t, _, rfl, _, _, ht⟩ := eE this; exact ⟨t, rfl, ht⟩
end Go.Proofs.Ytimkekeaeojpkaa.Q
namespace Go.Proofs.Ytimkekeaeojpkaa.Q
open Go Go.RowKit Go.Proofs.Ytimkekeaeojpkaa.A Go.Proofs.YtimkekeaeojpkaaW.PrintWords Go.Proofs.YtimkekeaeojpkaaW.PrintLast Go.Proofs.YtimkekeaeojpkaaW.PrintMore Go.Proofs.Ytimkekeaeojpkaa.Z
set_option linter.unusedVariables false
set_option linter.unusedSimpArgs false
theorem eP (s : Int) : Ev (fun k => ax.f k s) (elsB s) := by
 have h := down (P := fun i => ∀ acc : List Int, acc.length ≤ i → Ev (fun k => ax.l0 k s acc (i : Int)) (acc ++ ((List.range' i (8 - i)).filter (fun e : Nat => hasB s (e : Int))).map (fun e : Nat => (e : Int)))) 8
  (by
   intro acc ha
   apply Ev.step
   ·intro k; simp only [ax.l0, specHas_eq, Option.bind_some]; rw [if_neg (by omega)]
   ·simpa using Ev.now _)
  (by
   intro i hi ih acc ha
   apply Ev.step
   ·intro k; simp only [ax.l0, specHas_eq, Option.bind_some]; rw [if_pos (by omega), bG hi (by omega)]
   ·rw [dA hi, eQ]; by_cases hx : hasB s (i : Int) = true
    ·refine Ev.ifp hx (Ev.ifp (by omega) ?_); rw [if_pos hx, ← List.append_assoc]; exact ih (acc ++ [(i : Int)]) (by simp; omega)
    ·refine Ev.ifn hx ?_; rw [if_neg hx]; exact ih acc (by omega))
 have h0 := h [] (Nat.le_refl 0); rw [show ((0 : Nat) : Int) = 0 from rfl] at h0; have e : elsB s = [] ++ ((List.range' 0 (8 - 0)).filter (fun e : Nat => hasB s (e : Int))).map (fun e : Nat => (e : Int)) := by
  unfold elsB; rw [List.nil_append, List.range_eq_range']
 rw [e]; unfold ax.f; exact h0
theorem subset_eq (t s : Int) : cW.f t s = some (cG t && (cG s && decide (subN t.toNat s.toNat))) := by
 unfold cW.f; rw [isAny_eq, isAny_eq, Option.bind_some, Option.bind_some]; by_cases h1 : cG t = true
 ·rw [if_pos h1, h1, Bool.true_and]; by_cases h2 : cG s = true
  ·rw [if_pos h2, h2, Bool.true_and]; obtain ⟨a, rfl, ha⟩ := dY h1; obtain ⟨b, rfl, hb⟩ := dY h2; rw [dG (aZ ha) (aZ hb), Int.toNat_natCast, Int.toNat_natCast]; have e : (((dif a b : Nat) : Int) == 0) = decide (subN a b) := by
    rw [Bool.eq_iff_iff, beq_iff_eq, decide_eq_true_eq]; have h := @lZ a b
    constructor
    ·intro h0; exact h.1 (by omega)
    ·intro h0; have := h.2 h0; omega
   rw [e]
  ·rw [if_neg h2, Bool.eq_false_iff.2 h2, Bool.false_and]
 ·rw [if_neg h1, Bool.eq_false_iff.2 h1, Bool.false_and]
def indB (L : List Nat) (s : Int) : Bool := cG s && indN L s.toNat
theorem dJ (n : Int) (L : List Nat) (s : Int) (hl : L.length ≤ 17592186044416) (hL : ∀ b ∈ L, b < 256) : Ev (fun k => aG.f k n (ints L) s) (indB L s) := by
 have h := down (P := fun i => Ev (fun k => aG.l0 k s (ints L) ((ints L).length : Int) (i : Int)) (cG s && (L.drop i).any (fun b => decide (subN s.toNat b)))) L.length
  (by
   apply Ev.step
   ·intro k; simp only [aG.l0]; rw [if_neg (by rw [ints_len]; omega)]
   ·rw [cO]; simp only [List.any_nil, Bool.and_false]; exact Ev.now _)
  (by
   intro i hi ih; have hb := hL _ (List.getElem_mem hi)
   apply Ev.step
   ·intro k; simp only [aG.l0, subset_eq, Option.bind_some]; rw [if_pos (by rw [ints_len]; omega), if_pos (by omega), if_pos (by rw [ints_len]; omega), e6 L i hi, bG hi hl]
   ·rw [cp L i hi, List.any_cons]; rw [show cG (L[i] : Int) = true from by rw [isAnyB_nat]; simpa using hb, Bool.true_and, Int.toNat_natCast]; by_cases hx : (cG s && decide (subN s.toNat L[i])) = true
    ·refine Ev.ifp hx ?_; simp only [Bool.and_eq_true] at hx; rw [hx.1, hx.2]; exact Ev.now _
    ·refine Ev.ifn hx ?_; have : (cG s && (decide (subN s.toNat L[i]) || (L.drop (i + 1)).any (fun b => decide (subN s.toNat b)))) = (cG s && (L.drop (i + 1)).any (fun b => decide (subN s.toNat b))) := by
      cases h1 : cG s
      ·rfl
      ·rw [h1] at hx; simp only [Bool.true_and] at hx ⊢; rw [Bool.eq_false_iff.2 hx, Bool.false_or]
     rw [this]; exact ih)
 exact h
theorem dx {L : List Nat} {s : Nat} (hs : s < 256) : indB L (s : Int) = indN L s := by
 unfold indB; rw [isAnyB_nat, show decide (s < 256) = true from by simpa using hs, Bool.true_and, Int.toNat_natCast]
theorem js {L : List Nat} {s : Int} {m : Nat} (hL : ∀ b ∈ L, b < 2 ^ m) (h : indB L s = true) : ∃ t : Nat, s = t ∧ t < 2 ^ m ∧ t < 256 ∧ indN L t = true := by
 unfold indB at h; simp only [Bool.and_eq_true] at h; obtain ⟨t, rfl, ht⟩ := dY h.1; rw [Int.toNat_natCast] at h; obtain ⟨b, hb, hsub⟩ := indN_iff.1 h.2; exact ⟨t, rfl, Nat.lt_of_le_of_lt (eI hsub) (hL b hb), ht, h.2⟩
def cu (t s : Nat) : Bool := decide (t = s) || !decide (subN s t)
theorem fL (F : List Nat) (s : Nat) : F.all (fun t => cu t s) = !F.any (fun t => decide (t ≠ s) && decide (subN s t)) := by
 induction F with
 | nil => rfl
 | cons x F ih =>
  rw [List.all_cons, List.any_cons, ih, Bool.not_or]
  congr 1
  unfold cu; by_cases h : x = s
  ·simp [h]
  ·simp [h]
theorem fw {F : List Nat} (hF : ∀ x ∈ F, x < 256) (hp : F.Pairwise (· < ·)) (hl : F.length ≤ 65536) : Ev (fun k => aT.f k (ints F)) (ints (topN F)) := by
 have hset : iD 8 (ints F) = true := by
  unfold iD; rw [List.all_eq_true]; intro x hx; obtain ⟨t, ht, rfl⟩ := List.mem_map.1 hx; rw [iR, isAnyB_nat]; exact decide_eq_true (hF t ht)
 have hd := down (P := fun i => ∀ acc : List Nat, acc.length ≤ i → Ev (fun k => aT.l0 k (ints F) (ints acc) (i : Int)) (dT [] (ints (acc ++ (F.drop i).filter (fun s => F.all (fun t => cu t s)))))) F.length
  (by
   intro acc ha
   apply Ev.step
   ·intro k; rw [aT.l0, if_neg (by rw [ints_len]; omega)]
   ·rw [cO, List.filter_nil, List.append_nil]; exact Ev.bind (eZ _ (by rw [ints_len]; omega)) (Ev.now _))
  (by
   intro i hi ih acc ha; rw [cp F i hi, List.filter_cons]; have hs := hF _ (List.getElem_mem hi); have h1 := down (P := fun j => ∀ fine : Bool, Ev (fun k => aT.l1 k (ints F) (ints acc) (i : Int) fine (j : Int)) (dT [] (ints ((if (fine && (F.drop j).all (fun t => cu t F[i])) = true then acc ++ [F[i]] else acc) ++ (F.drop (i + 1)).filter (fun s => F.all (fun t => cu t s)))))) F.length
    (by
     intro fine
     apply Ev.step
     ·intro k; rw [aT.l1, if_neg (by rw [ints_len]; omega)]
     ·rw [cO]; cases fine with
      | true =>
       refine Ev.ifp rfl (Ev.ifp (by omega) (Ev.ifp (by rw [ints_len]; omega) (Ev.ifp (by rw [ints_len]; omega) ?_))); rw [e6 F i hi, bG hi (by omega), if_pos (by rfl)]; have := ih (acc ++ [F[i]]) (by rw [List.length_append, List.length_singleton]; omega); rw [show ints acc ++ [(F[i] : Int)] = ints (acc ++ [F[i]]) from by simp [ints]]; exact this
      | false =>
       refine Ev.ifn (by decide) ?_; rw [bG hi (by omega), if_neg (by simp)]; exact ih acc (by omega))
    (by
     intro j hj ihj fine; have ht := hF _ (List.getElem_mem hj)
     apply Ev.step
     ·intro k; rw [aT.l1, if_pos (by rw [ints_len]; omega)]
     ·rw [cp F j hj, List.all_cons]; cases fine with
      | true =>
       refine Ev.ifp rfl (Ev.ifp (by omega) (Ev.ifp (by omega) (Ev.ifp (by rw [ints_len]; omega) ?_))); rw [e6 F i hi, e6 F j hj, bG hj (by omega)]; by_cases he : F[j] = F[i]
       ·refine Ev.ifp (by rw [he]) ?_; have := ihj true; rw [show cu F[j] F[i] = true from by unfold cu; simp [he], Bool.true_and]; exact this
       ·refine Ev.ifn (fun h => he (by omega)) ?_; have := ihj (cu F[j] F[i]); rw [Bool.true_and]; have e : ((Go.bits .and .i64 (F[j] : Int) (F[i] : Int)) != (F[i] : Int)) = cu F[j] F[i] := by
         rw [gv (aZ ht) (aZ hs), Bool.eq_iff_iff, bne_iff_ne]; unfold cu; rw [show decide (F[j] = F[i]) = false from decide_eq_false he, Bool.false_or, Bool.not_eq_true', decide_eq_false_iff_not]; unfold subN; rw [Nat.and_comm]
         constructor
         ·intro h1 h2; exact h1 (by rw [h2])
         ·intro h1 h2; exact h1 (by omega)
        rw [e]; exact this
      | false =>
       refine Ev.ifn (by decide) ?_; have := ihj false; rw [bG hj (by omega)]
       simpa using this)
   have h0 := h1 true; rw [List.drop_zero, Bool.true_and] at h0
   apply Ev.step
   ·intro k; rw [aT.l0, if_pos (by rw [ints_len]; omega)]
   ·by_cases hg : F.all (fun t => cu t F[i]) = true
    ·rw [if_pos hg]; rw [if_pos hg, List.append_assoc, List.singleton_append] at h0; exact h0
    ·rw [if_neg hg]; rw [if_neg hg] at h0; exact h0)
 have h0 := hd [] (Nat.zero_le _); rw [List.drop_zero, List.nil_append] at h0; have e : topN F = F.filter (fun s => F.all (fun t => cu t s)) := by
  unfold topN
  apply List.filter_congr
  intro s _; rw [fL]
 rw [← e, jd (D := topN F) (List.Pairwise.filter _ hp) (fun a => Iff.rfl)] at h0; unfold aT.f; simp only [Option.bind_some]; refine Ev.bind (fY 8 (ints F) (by rw [ints_len]; omega)) ?_; rw [hset]; exact Ev.ifp rfl h0
theorem jH {e : Nat} (he : e < 8) : IntKind.i64.wrap (2 ^ e) = ((2 ^ e : Nat) : Int) := by
 have h2 : (2 ^ e : Nat) < 9223372036854775808 := by
  have := Nat.pow_lt_pow_right (a := 2) (by decide) (show e < 63 by omega)
  simpa using this
 have h3 : (2 : Int) ^ e = ((2 ^ e : Nat) : Int) := by simp
 rw [h3]; exact dF h2
theorem lQ (l : List Int) (hl : l.length ≤ 17592186044416) (a e f : Nat) (ha : a < 256) (he : e < 8) (hf : f < 8) : Ev (fun k => ak.c k l (a : Int) (e : Int) (f : Int)) (l.contains ((dif a (2 ^ e) ||| 2 ^ f : Nat) : Int)) := by
 unfold ak.c cV.f; refine Ev.ifp (by omega) (Ev.ifp (by omega) ?_); have hp : ∀ x < 8, 2 ^ x < 2 ^ 63 := fun x hx => Nat.pow_lt_pow_right (by decide) (by omega)
 rw [Int.toNat_natCast, Int.toNat_natCast, jH he, jH hf, dG (aZ ha) (hp e he), ef (aZ (eS ha)) (hp f hf)]; exact Ev.bind (jf l _ hl) (Ev.now _)
theorem mb {s e : Nat} (h : e ∈ els s) : e < 8 := (dW.1 h).1
theorem any_map (p : Int → Bool) (L : List Nat) : (L.map (fun x : Nat => (x : Int))).any p = L.any (fun x => p (x : Int)) := by
 rw [List.any_map]; rfl
theorem jz (l : List Int) (hl : l.length ≤ 17592186044416) (a b : Nat) (ha : a < 256) (hb : b < 256) : ∀ es : List Nat, (∀ e ∈ es, e < 8) → Ev (fun k => ak.l2 k l (a : Int) (b : Int) (es.map (fun x : Nat => (x : Int)))) ((ep l a b es).map (fun x : Nat => (x : Int))) := by
 intro es
 induction es with
 | nil => intro _; exact Ev.now _
 | cons e es ih =>
  intro hm; have he := hm e (List.mem_cons_self ..); simp only [List.map_cons, ak.l2]; rw [dG (aZ hb) (aZ ha)]; refine Ev.bind (eN _) ?_; rw [g0 (eS hb)]; refine Ev.bind (a := gn l a b e) ?_ ?_
  ·have h := mr (g := fun k f => ak.c k l (a : Int) (e : Int) f) (p := fun f => l.contains ((dif a (2 ^ e) ||| 2 ^ f.toNat : Nat) : Int)) (l := (els (dif b a)).map (fun x : Nat => (x : Int)))
    (fun x hx => by
     obtain ⟨f, hf, rfl⟩ := List.mem_map.1 hx; have := lQ l hl a e f ha he (mb hf); rw [Int.toNat_natCast]; exact this)
   rw [any_map] at h; simp only [Int.toNat_natCast] at h; exact h
  ·simp only [ep]; by_cases hx : gn l a b e = true
   ·refine Ev.ifp hx ?_; rw [if_pos hx]; exact ih (fun e' he' => hm e' (List.mem_cons_of_mem _ he'))
   ·refine Ev.ifn hx ?_; rw [if_neg hx]; exact Ev.now _
theorem jl (l : List Int) (hl : l.length ≤ 17592186044416) (a : Nat) (ha : a < 256) : ∀ bs : List Nat, (∀ b ∈ bs, b < 256) → Ev (fun k => ak.l1 k l (a : Int) (bs.map (fun x : Nat => (x : Int)))) ((eD l a bs).map (fun x : Nat × Nat => ((x.1 : Int), (x.2 : Int)))) := by
 intro bs
 induction bs with
 | nil => intro _; exact Ev.now _
 | cons b bs ih =>
  intro hm; have hb := hm b (List.mem_cons_self ..); simp only [List.map_cons, ak.l1]; rw [dG (aZ ha) (aZ hb)]; refine Ev.bind (eN _) ?_; rw [g0 (eS ha)]; refine Ev.bind (jz l hl a b ha hb _ (fun e he => mb he)) ?_; simp only [eD]; cases ep l a b (els (dif a b)) with
  | none => exact ih (fun b' hb' => hm b' (List.mem_cons_of_mem _ hb'))
  | some e => exact Ev.now _
theorem ja (l : List Int) (L : List Nat) (hlL : l = L.map (fun x : Nat => (x : Int))) (hl : l.length ≤ 17592186044416) (hL : ∀ b ∈ L, b < 256) : ∀ la : List Nat, (∀ a ∈ la, a < 256) → Ev (fun k => ak.l0 k l (la.map (fun x : Nat => (x : Int)))) ((eO l L la).map (fun x : Nat × Nat × Nat => ((x.1 : Int), (x.2.1 : Int), (x.2.2 : Int)))) := by
 intro la
 induction la with
 | nil => intro _; exact Ev.now _
 | cons a la ih =>
  intro hm; have ha := hm a (List.mem_cons_self ..); simp only [List.map_cons, ak.l0]; refine Ev.bind (a := (eD l a L).map (fun x : Nat × Nat => ((x.1 : Int), (x.2 : Int)))) (by
   have := jl l hl a ha L hL; rw [← hlL] at this; exact this) ?_
  simp only [eO]; cases eD l a L with
  | none => exact ih (fun a' ha' => hm a' (List.mem_cons_of_mem _ ha'))
  | some x => exact Ev.now _
theorem jb (n : Int) (l : List Int) (hl : l.length ≤ 17592186044416) : Ev (fun k => ak.f k n l) (iw n l) := by
 unfold ak.f iw; refine Ev.bind (gK n l hl) ?_; by_cases hf : famB n l = true
 ·refine Ev.ifp hf ?_; rw [if_pos hf]; obtain ⟨m, L, rfl, hm, hlL, hL, _⟩ := hH hf; have hmap : l.map Int.toNat = L := by rw [hlL, bP]
  have h256 : ∀ b ∈ L, b < 256 := fun b hb => Nat.lt_of_lt_of_le (hL b hb) (cn hm)
  have h := ja l L hlL hl h256 L h256; rw [← hlL] at h; refine Ev.bind h ?_; rw [hmap]; cases eO l L L with
  | none => exact Ev.now _
  | some x => exact Ev.now _
 ·refine Ev.ifn hf ?_; rw [if_neg hf]; exact Ev.now _
theorem g7 (n : Int) (l : List Int) (hl : l.length ≤ 17592186044416) : Ev (fun k => ci.f k n l) (matB n l) := by
 unfold ci.f matB; refine Ev.bind (jb n l hl) (Ev.bind (gK n l hl) ?_); by_cases hf : famB n l = true
 ·refine Ev.ifp hf ?_; rw [hf, Bool.true_and]; by_cases h0 : (l.length : Int) > 0
  ·refine Ev.ifp h0 ?_; rw [show decide ((l.length : Int) > 0) = true from by simpa using h0, Bool.true_and]; exact Ev.now _
  ·refine Ev.ifn h0 ?_; rw [show decide ((l.length : Int) > 0) = false from by simpa using h0, Bool.false_and]; exact Ev.now _
 ·refine Ev.ifn hf ?_; rw [Bool.eq_false_iff.2 hf, Bool.false_and]; exact Ev.now _
variable {m : Nat} {I : Nat → Prop} {p : Nat → Bool}
def rkI (m : Nat) (p : Nat → Bool) : Nat := maxN 0 (((List.range (2 ^ m)).filter p).map pc)
def bsI (m : Nat) (p : Nat → Bool) : List Nat := (List.range (2 ^ m)).filter (fun s => p s && decide (pc s = rkI m p))
theorem k7 (hI : Ind m I) (hp : ∀ s, p s = true ↔ I s) : (∃ b, I b ∧ pc b = rkI m p) ∧ (∀ s, I s → pc s ≤ rkI m p) := by
 obtain ⟨r, ⟨b, hb, hr⟩, hmax⟩ := hI.max; have hle : ∀ s, I s → pc s ≤ rkI m p := fun s hs => gS _ 0 _ (List.mem_map.2 ⟨s, List.mem_filter.2 ⟨List.mem_range.2 (hI.sets s hs), (hp s).2 hs⟩, rfl⟩)
 have hge : rkI m p ≤ r := by
  apply kM (Nat.zero_le _)
  intro x hx; obtain ⟨s, hs, rfl⟩ := List.mem_map.1 hx; exact hmax s ((hp s).1 (List.mem_filter.1 hs).2)
 have := hle b hb; exact ⟨⟨b, hb, by omega⟩, hle⟩
theorem kD (hm : m ≤ 8) (q : Nat → Bool) : ((List.range (2 ^ m)).filter q).length ≤ 256 := by
 have h1 := List.length_filter_le q (List.range (2 ^ m)); rw [List.length_range] at h1; exact Nat.le_trans h1 (cn hm)
theorem mB (hm : m ≤ 8) (p : Nat → Bool) : (bsI m p).length ≤ 256 := kD hm _
theorem m5 (hm : m ≤ 8) (q : Nat → Bool) : ∀ x ∈ (List.range (2 ^ m)).filter q, x < 256 := fun x hx => by
 have := List.mem_range.1 (List.mem_filter.1 hx).1; have := cn hm; omega
theorem ip (hI : Ind m I) (hp : ∀ s, p s = true ↔ I s) : Ev (fun k => aT.f k (ints ((List.range (2 ^ m)).filter p))) (ints (bsI m p)) := by
 obtain ⟨hex, hmax⟩ := k7 hI hp; have htop := mL hI hp hex hmax; have hmx := fw (F := (List.range (2 ^ m)).filter p) (m5 hI.size p) (List.Pairwise.filter _ List.pairwise_lt_range) (Nat.le_trans (kD hI.size p) (by decide)); rw [htop] at hmx; exact hmx
theorem fh {n : Int} {l : List Int} (h : dv n l = true) : ∃ (m : Nat) (S : List Nat), n = m ∧ m ≤ 8 ∧ l = ints S ∧ S.length ≤ 6 ∧ (∀ x ∈ S, x < 2 ^ m) := by
 have h2 := h; simp only [dv, Bool.and_eq_true, decide_eq_true_eq] at h2; obtain ⟨⟨h0, h8⟩, h6, hs⟩ := h2; obtain ⟨m, rfl⟩ := Int.eq_ofNat_of_zero_le h0; have hall : ∀ x ∈ l, ∃ t : Nat, x = t ∧ t < 2 ^ m := fun x hx => by
  have := List.all_eq_true.1 hs x hx; obtain ⟨m', t, hm', rfl, _, ht, _⟩ := eE this; have : m = m' := by omega
  subst this; exact ⟨t, rfl, ht⟩
 refine ⟨m, l.map Int.toNat, rfl, by omega, ?_, by rw [List.length_map]; exact h6, ?_⟩
 ·unfold ints; rw [List.map_map]
  conv => lhs; rw [← List.map_id l]
  apply List.map_congr_left
  intro x hx; obtain ⟨t, rfl, _⟩ := hall x hx
  rfl
 ·intro x hx; obtain ⟨y, hy, rfl⟩ := List.mem_map.1 hx; obtain ⟨t, rfl, ht⟩ := hall y hy; rw [Int.toNat_natCast]; exact ht
def tpB (m : Nat) (S : List Nat) (s : Nat) : Bool := decide (s < 2 ^ m) && (asg (ints S) (ints (els s)) (els s).length []).2
theorem mz {m : Nat} (hm : m ≤ 8) {S : List Nat} (hS : ∀ x ∈ S, x < 2 ^ m) (s : Nat) : tpB m S s = true ↔ TP S s := by
 have h2m := cn hm; unfold tpB; rw [Bool.and_eq_true, decide_eq_true_eq]
 constructor
 ·rintro ⟨h1, h2⟩; exact (lz (by omega)).1 h2
 ·intro h; have hs := (Ind.trans hm S hS).sets s h; exact ⟨hs, (lz (by omega)).2 h⟩
def fsB (n : Int) (l : List Int) : Int × List Int := if dv n l = true then (n, ints (bsI n.toNat (tpB n.toNat (l.map Int.toNat)))) else (0, [])
theorem mK (n : Int) (l : List Int) : (fsB n l).2.length ≤ 256 := by
 unfold fsB; by_cases h : dv n l = true
 ·rw [if_pos h]; obtain ⟨m, S, rfl, hm, rfl, _⟩ := fh h; simp only [ints_len]; rw [Int.toNat_natCast]; exact mB hm _
 ·rw [if_neg h]; exact Nat.zero_le _
theorem gr (n : Int) (l : List Int) (hl : l.length ≤ 17592186044416) : Ev (fun k => bH.f k n l) (fsB n l) := by
 unfold bH.f fsB; refine Ev.bind (gp n l hl) ?_; by_cases h : dv n l = true
 rotate_left
 ·rw [if_neg h]; exact Ev.ifn h (Ev.now _)
 rw [if_pos h]; refine Ev.ifp h ?_; have hfc := go h; obtain ⟨m, S, rfl, hm, rfl, h6, hS⟩ := fh h; rw [show (ints S).map Int.toNat = S from bP S, Int.toNat_natCast]; have h2m := cn hm; have hp2 := Nat.two_pow_pos m; have hmx := ip (Ind.trans hm S hS) (mz hm hS); have hd := down (P := fun i => ∀ acc : List Nat, acc.length ≤ i → acc ++ (List.range' i (2 ^ m - i)).filter (tpB m S) = (List.range (2 ^ m)).filter (tpB m S) → Ev (fun k => bH.l0 k (m : Int) (ints S) (ints acc) (i : Int)) ((m : Int), ints (bsI m (tpB m S)))) (2 ^ m)
  (by
   intro acc _ he; rw [Nat.sub_self, List.range'_zero, List.filter_nil, List.append_nil] at he
   apply Ev.step
   ·intro k; simp only [bH.l0, db hm, Option.bind_some]; rw [if_neg (by unfold eY; omega), he]
   ·exact Ev.bind hmx (Ev.now _))
  (by
   intro i hi ih acc ha he; rw [dX hi, List.filter_cons] at he; have h256 : i < 256 := by omega
   apply Ev.step
   ·intro k; simp only [bH.l0, db hm, Option.bind_some]; rw [if_pos (by unfold eY; omega), bG hi (by omega)]
   ·refine Ev.bind (eP _) ?_; refine Ev.bind (ie (ints S) (elsB (i : Int)) hfc.1 hfc.2 (jB _) (j9 _) (elsB (i : Int)).length [] (by simp)) ?_; have e : (asg (ints S) (elsB (i : Int)) (elsB (i : Int)).length []).2 = tpB m S i := by
     unfold tpB; rw [g0 h256, decide_eq_true hi, Bool.true_and, List.length_map]
     rfl
    by_cases hc : tpB m S i = true
    ·rw [if_pos hc] at he; refine Ev.ifp (by rw [e]; exact hc) (Ev.ifp (by rw [ints_len]; omega) ?_); rw [show ints acc ++ [(i : Int)] = ints (acc ++ [i]) from by simp [ints]]; exact ih (acc ++ [i]) (by rw [List.length_append, List.length_singleton]; omega) (by rw [List.append_assoc, List.singleton_append]; exact he)
    ·rw [if_neg hc] at he; exact Ev.ifn (by rw [e]; exact hc) (ih acc (by omega) he))
 exact hd [] (Nat.zero_le _) (by rw [Nat.sub_zero, ← List.range_eq_range', List.nil_append])
def renG (n : Int) : List Int → Nat → Bool
 | [], _ => true
 | x :: xs, seen => (decide (0 ≤ x) && decide (x < n) && decide (x < 8) && !seen.testBit x.toNat) && renG n xs (seen ||| 2 ^ x.toNat)
def eK (n : Int) (l : List Int) : Bool := decide ((l.length : Int) = n) && decide (n ≤ 8) && renG n l 0
theorem jU (n : Int) (l : List Int) (hl : l.length ≤ 17592186044416) (hn : (l.length : Int) = n) (h8 : n ≤ 8) : ∀ seen : Nat, seen < 256 → Ev (fun k => bd.l0 k n l (seen : Int) 0) (renG n l seen) := by
 have h := down (P := fun i => ∀ seen : Nat, seen < 256 → Ev (fun k => bd.l0 k n l (seen : Int) (i : Int)) (renG n (l.drop i) seen)) l.length
  (by
   intro seen hs
   apply Ev.step
   ·intro k; simp only [bd.l0]; rw [if_neg (by omega)]
   ·rw [cO]; exact Ev.now _)
  (by
   intro i hi ih seen hs
   apply Ev.step
   ·intro k; simp only [bd.l0, l1In_eq, Option.bind_some]; rw [if_pos (by omega), if_pos (by omega), if_pos (by omega), b9 l i hi, bG hi hl, bF (by omega) (by omega)]
   ·rw [cp l i hi]; simp only [renG]; by_cases hx : (decide (0 ≤ l[i]) && decide (l[i] ≤ n - 1)) = true
    ·refine Ev.ifp hx ?_; simp only [Bool.and_eq_true, decide_eq_true_eq] at hx; obtain ⟨x, hxe⟩ := Int.eq_ofNat_of_zero_le hx.1; rw [hxe] at hx ⊢; have hx8 : x < 8 := by omega
     have c1 : (decide (0 ≤ (x : Int)) && decide ((x : Int) < n) && decide ((x : Int) < 8)) = true := by
      simp only [Bool.and_eq_true, decide_eq_true_eq]; omega
     rw [c1, Bool.true_and, Int.toNat_natCast]; refine Ev.cbind (cX (aZ hs) (by omega)) ?_; by_cases hb : seen.testBit x = true
     ·refine Ev.ifp hb ?_; rw [hb]; exact Ev.now _
     ·refine Ev.ifn hb (Ev.ifp (cI _) ?_); rw [Bool.eq_false_iff.2 hb, dR (by omega) (by omega), cQ (by omega), ef (aZ hs) (aZ (cx hx8))]; exact ih _ (fD hs hx8)
    ·refine Ev.ifn hx ?_; have c1 : (decide (0 ≤ l[i]) && decide (l[i] < n)) = false := by
      rw [Bool.eq_false_iff]; intro hc
      apply hx
      simp only [Bool.and_eq_true, decide_eq_true_eq] at *; omega
     rw [c1]; exact Ev.now _)
 exact h
theorem jO (n : Int) (l : List Int) (hl : l.length ≤ 17592186044416) : Ev (fun k => bd.f k n l) (eK n l) := by
 unfold bd.f eK; by_cases hn : (l.length : Int) = n
 ·refine Ev.ifp hn ?_; rw [show decide ((l.length : Int) = n) = true from by simpa using hn, Bool.true_and]
  apply Ev.step
  ·intro k; rw [bd.j0]
  ·by_cases h8 : n > 8
   ·refine Ev.ifp (by simpa using h8) ?_; rw [show decide (n ≤ 8) = false from by simpa using h8]; exact Ev.now _
   ·refine Ev.ifn (by simpa using h8) ?_; rw [show decide (n ≤ 8) = true from by simp; omega, Bool.true_and]; exact jU n l hl hn (by omega) 0 (by omega)
 ·refine Ev.ifn hn ?_; rw [show decide ((l.length : Int) = n) = false from by simpa using hn]
  apply Ev.step
  ·intro k; rw [bd.j0]
  ·refine Ev.ifp rfl ?_; exact Ev.now _
end Go.Proofs.Ytimkekeaeojpkaa.Q
namespace Go.Proofs.Ytimkekeaeojpkaa.Q
open Go Go.RowKit Go.Proofs.YtimkekeaeojpkaaW.PrintWords Go.Proofs.YtimkekeaeojpkaaW.PrintLast Go.Proofs.YtimkekeaeojpkaaW.PrintMore Go.Proofs.Ytimkekeaeojpkaa.Z
set_option linter.unusedVariables false
set_option linter.unusedSimpArgs false
theorem lD {n : Int} : ∀ {l : List Int} {seen : Nat}, renG n l seen = true → ∀ x ∈ l, 0 ≤ x ∧ x < n ∧ x < 8 := by
 intro l
 induction l with
 | nil => intro seen _ x hx; simp at hx
 | cons y ys ih =>
  intro seen h x hx; simp only [renG, Bool.and_eq_true, decide_eq_true_eq] at h; rcases List.mem_cons.1 hx with rfl | hx
  ·exact ⟨h.1.1.1.1, h.1.1.1.2, h.1.1.2⟩
  ·exact ih h.2 x hx
theorem iV {l : List Int} (h : eK (l.length : Int) l = true) : l.length ≤ 8 ∧ ∀ x ∈ l, 0 ≤ x ∧ x < 8 := by
 simp only [eK, Bool.and_eq_true, decide_eq_true_eq] at h; refine ⟨by omega, fun x hx => ?_⟩; have := lD h.2 x hx; omega
end Go.Proofs.Ytimkekeaeojpkaa.Q
namespace Go.Proofs.Ytimkekeaeojpkaa.Q
open Go Go.RowKit Go.Proofs.Ytimkekeaeojpkaa.A Go.Proofs.YtimkekeaeojpkaaW.PrintWords Go.Proofs.YtimkekeaeojpkaaW.PrintLast Go.Proofs.YtimkekeaeojpkaaW.PrintMore Go.Proofs.Ytimkekeaeojpkaa.Z
set_option linter.unusedVariables false
set_option linter.unusedSimpArgs false
theorem kc {n : Int} {w : List Int} (h : eK n w = true) : (w.length : Int) = n := by
 simp only [eK, Bool.and_eq_true, decide_eq_true_eq] at h; exact h.1.1
def gy (n : Int) (l w : List Int) : Int × List Int × Bool := if (matB n l && eK n w) = true then (n, dT [] (ints ((l.map Int.toNat).map (dL w))), true) else (0, [], false)
theorem jr (n : Int) (l w : List Int) : (gy n l w).2.1.length ≤ l.length := by
 unfold gy; by_cases h : (matB n l && eK n w) = true
 ·rw [if_pos h]; have := iq (ints ((l.map Int.toNat).map (dL w))) []; rw [ints_len, List.length_map, List.length_map, List.length_nil, Nat.zero_add] at this; exact this
 ·rw [if_neg h]; exact Nat.zero_le _
theorem ik (n : Int) (l w : List Int) (hl : l.length ≤ 8796093022208) (hw : w.length ≤ 17592186044416) : Ev (fun k => a9.f k n l w) (gy n l w) := by
 unfold a9.f gy; refine Ev.bind (fp n l (by omega)) ?_; by_cases h : matB n l = true
 ·rw [h, Bool.true_and]; refine Ev.ifp rfl (Ev.bind (jO n w hw) ?_); by_cases h2 : eK n w = true
  ·rw [if_pos h2]; obtain ⟨m, L, rfl, hm, rfl, _, h256, _⟩ := dN h; rw [ints_len] at hl; have hwm : (w.length : Int) = (m : Int) := kc h2; rw [← hwm] at h2; obtain ⟨h8, hmem⟩ := iV h2; rw [show (ints L).map Int.toNat = L from bP L]; rw [← hwm]; exact Ev.ifp h2 (Ev.bind (gR w L hw hl hmem h256) (Ev.now _))
  ·rw [if_neg h2]; exact Ev.ifn h2 (Ev.now _)
 ·rw [Bool.eq_false_iff.2 h, Bool.false_and]; exact Ev.ifn (by decide) (Ev.now _)
theorem gZ {b : List Int} (hb : b.length ≤ 17592186044416) {p h : Int} (hp : 0 ≤ p) {n : Nat} (hn : n ≤ 9) : ExE (fun k => bk.f k b p h (n : Int)) (fun r => r.1.length = n ∧ 0 ≤ r.2.1) := by
 unfold bk.f; have hd := down (P := fun i => ∀ (l : List Int) (p h : Int), 0 ≤ p → l.length = i → ExE (fun k => bk.l0 k (n : Int) l (i : Int) b p h) (fun r => r.1.length = n ∧ 0 ≤ r.2.1)) n
  (by
   intro l p h hp hl
   apply ExE.step
   ·intro k; rw [bk.l0, if_neg (by omega)]
   ·exact ExE.now ⟨hl, hp⟩)
  (by
   intro i hi ih l p h hp hl
   apply ExE.step
   ·intro k; rw [bk.l0, if_pos (by omega), bG hi (by omega)]
   ·obtain ⟨v, ev, v1, v2, _, v3⟩ := ca hb (h := h) hp (wrap64 ((l.length : Int) + 1)); refine ExE.cbind (P := fun a => a = v) ⟨v, ev, rfl⟩ ?_; intro v' e; subst e; rw [bF (n := (l.length : Int) + 1) (by omega) (by omega)] at v2; have v2 := v2 (by omega); refine ExE.cbind (P := fun y => y = []) ⟨_, rfl, rfl⟩ ?_; rintro y rfl; refine ExE.ifp v1 (ExE.ifp (by omega) ?_); refine ExE.cbind (P := fun y => y = l.drop v'.1.toNat) ⟨_, rfl, rfl⟩ ?_; rintro y rfl; have h1 : (l.drop v'.1.toNat).length ≤ l.length := by rw [List.length_drop]; omega
    have h2 : (l.take v'.1.toNat).length ≤ l.length := by rw [List.length_take]; omega
    have h3 : (l.take v'.1.toNat).length + (l.drop v'.1.toNat).length = l.length := by rw [List.length_take, List.length_drop]; omega
    refine ExE.ifp (by simp only [List.length_nil]; omega) ?_; refine ExE.cbind (P := fun y => y = l.drop v'.1.toNat) ⟨_, rfl, by simp⟩ ?_; rintro y rfl; refine ExE.cbind (P := fun y => y = l.take v'.1.toNat) ⟨_, rfl, rfl⟩ ?_; rintro y rfl; refine ExE.ifp (by omega) ?_; refine ExE.cbind (P := fun y => y = l.take v'.1.toNat ++ [(i : Int)]) ⟨_, rfl, rfl⟩ ?_; rintro y rfl; refine ExE.ifp (by rw [List.length_append, List.length_singleton]; omega) (ih _ _ _ v3 ?_); rw [List.length_append, List.length_append, List.length_singleton]; omega)
 exact hd [] _ _ hp rfl
def TwoP (q : Int × List Int × Int × List Int × Int × Int) : Prop := q.2.1.length ≤ 300 ∧ q.2.2.2.1.length ≤ 300 ∧ 0 ≤ q.2.2.2.2.1 ∧ 0 ≤ q.1 ∧ q.1 ≤ 8
theorem kQ {b : List Int} (hb : b.length ≤ 17592186044416) {p h : Int} (hp : 0 ≤ p) : ExE (fun k => bL.f k b p h) TwoP := by
 unfold bL.f; refine ExE.bind (iB hb hp (by decide) (by decide)) ?_; rintro m ⟨m1, m2, m3, m4⟩; obtain ⟨u, eu, u1⟩ := fc hb (h := m.2.2.2) m4 12; refine ExE.cbind (P := fun a => a = u) ⟨u, eu, rfl⟩ ?_; intro u' e; subst e; refine ExE.ite (fun _ => ?_) (fun _ => ?_)
 ·refine ExE.bind (lm hb u1 (by decide) (by decide)) ?_; rintro q ⟨_, _, q1, q2⟩; exact ExE.now ⟨by simp only []; omega, q1, q2, m1, m2⟩
 obtain ⟨v, ev, v1, v2, _, v3⟩ := ca hb (h := u'.2.2) u1 3; refine ExE.cbind (P := fun a => a = v) ⟨v, ev, rfl⟩ ?_; intro v' e; subst e; obtain ⟨mn, hmn⟩ := Int.eq_ofNat_of_zero_le m1; refine ExE.ite (fun _ => ?_) (fun _ => ExE.ite (fun _ => ?_) (fun _ => ?_))
 ·rw [hmn]; refine ExE.bind (gZ hb v3 (n := mn) (by omega)) ?_; rintro q ⟨q1, q2⟩; refine ExE.ev (ik _ _ _ (by omega) (by omega)) ?_; have := jr (mn : Int) m.2.1 q.1; exact ExE.now ⟨by simp only []; omega, by simp only []; omega, q2, by simp only []; omega, by simp only []; omega⟩
 ·refine ExE.bind (jQ hb v3 m.1) ?_; rintro q ⟨q1, q2⟩; refine ExE.ev (gr _ _ (by omega)) ?_; have := mK m.1 q.1; exact ExE.now ⟨by simp only []; omega, by simp only []; omega, q2, m1, m2⟩
 ·rw [hmn]; refine ExE.bind (fz hb v3 (n := mn) (by omega)) ?_; rintro q ⟨q1, q2, q3⟩; exact ExE.now ⟨by simp only []; omega, by simp only []; omega, q3, by simp only []; omega, by simp only []; omega⟩
end Go.Proofs.Ytimkekeaeojpkaa.Q
namespace Go.Proofs.Ytimkekeaeojpkaa.Q
open Go Go.RowKit Go.Proofs.YtimkekeaeojpkaaW.PrintWords Go.Proofs.YtimkekeaeojpkaaW.PrintLast Go.Proofs.YtimkekeaeojpkaaW.PrintMore Go.Proofs.Ytimkekeaeojpkaa.Z
set_option linter.unusedVariables false
set_option linter.unusedSimpArgs false
variable {m : Nat} {d1 : Nat → Bool} {st : Nat → Nat → Bool}
def lev (m : Nat) (d1 : Nat → Bool) (st : Nat → Nat → Bool) : Nat → Nat → Nat
 | 0, e => if d1 e = true then 1 else 0
 | j + 1, e => if lev m d1 st j e = 0 then (if (List.range m).any (fun f => decide (lev m d1 st j f = j + 1) && st e f) = true then j + 2 else 0) else lev m d1 st j e
theorem iQ : ∀ j e, lev m d1 st j e ≤ j + 1 := by
 intro j
 induction j with
 | zero => intro e; unfold lev; by_cases h : d1 e = true <;> simp [h]
 | succ j ih =>
  intro e; rw [lev]; have := ih e; by_cases h : lev m d1 st j e = 0
  ·rw [if_pos h]; by_cases h2 : (List.range m).any (fun f => decide (lev m d1 st j f = j + 1) && st e f) = true
   ·rw [if_pos h2]; omega
   ·rw [if_neg h2]; omega
  ·rw [if_neg h]; omega
theorem eF {j e : Nat} (h : lev m d1 st j e ≠ 0) : lev m d1 st (j + 1) e = lev m d1 st j e := by rw [lev, if_neg h]
theorem ji : ∀ j e i, lev m d1 st j e = i + 2 → ∃ f, f < m ∧ lev m d1 st j f = i + 1 ∧ st e f = true := by
 intro j
 induction j with
 | zero => intro e i h; have := iQ (m := m) (d1 := d1) (st := st) 0 e; omega
 | succ j ih =>
  intro e i h; rw [lev] at h; by_cases h0 : lev m d1 st j e = 0
  ·rw [if_pos h0] at h; by_cases h2 : (List.range m).any (fun f => decide (lev m d1 st j f = j + 1) && st e f) = true
   ·rw [if_pos h2] at h; obtain ⟨f, hf, hc⟩ := List.any_eq_true.1 h2; rw [Bool.and_eq_true, decide_eq_true_eq] at hc; have hij : i = j := by omega
    subst hij; exact ⟨f, List.mem_range.1 hf, by rw [eF (by omega)]; exact hc.1, hc.2⟩
   ·rw [if_neg h2] at h; omega
  ·rw [if_neg h0] at h; obtain ⟨f, hf, h1, h2⟩ := ih e i h; exact ⟨f, hf, by rw [eF (by omega)]; exact h1, h2⟩
theorem k9 (j : Nat) : ∀ i e, e < m → lev m d1 st j e = i + 1 → ∀ t, t ≤ i → ∃ f, f < m ∧ lev m d1 st j f = t + 1 := by
 intro i
 induction i with
 | zero => intro e he h t ht; exact ⟨e, he, by omega⟩
 | succ i ih =>
  intro e he h t ht; by_cases hti : t = i + 1
  ·exact ⟨e, he, by omega⟩
  ·obtain ⟨f, hf, h1, _⟩ := ji j e i h; exact ih f hf h1 t (by omega)
theorem im : ∀ (A B : List Nat), A.Nodup → (∀ x ∈ A, x ∈ B) → A.length ≤ B.length := by
 intro A
 induction A with
 | nil => intro B _ _; exact Nat.zero_le _
 | cons a A ih =>
  intro B hn hs; rw [List.nodup_cons] at hn; have ha := hs a (List.mem_cons_self ..); have h := ih (B.erase a) hn.2 (fun x hx => (List.mem_erase_of_ne (fun h => hn.1 (by rw [← h]; exact hx))).2 (hs x (List.mem_cons_of_mem _ hx))); rw [List.length_erase_of_mem ha] at h; have : 0 < B.length := List.length_pos_of_mem ha; rw [List.length_cons]; omega
theorem jE {e : Nat} (he : e < m) : lev m d1 st m e = lev m d1 st (m - 1) e := by
 obtain ⟨p, rfl⟩ : ∃ p, m = p + 1 := ⟨m - 1, by omega⟩; rw [Nat.add_sub_cancel]; by_cases h0 : lev (p + 1) d1 st p e = 0
 ·rw [lev, if_pos h0, h0]; by_cases h2 : (List.range (p + 1)).any (fun f => decide (lev (p + 1) d1 st p f = p + 1) && st e f) = true
  ·exfalso
   obtain ⟨f, hf, hc⟩ := List.any_eq_true.1 h2; rw [Bool.and_eq_true, decide_eq_true_eq] at hc; have hch := k9 (m := p + 1) (d1 := d1) (st := st) p p f (List.mem_range.1 hf) hc.1; have := im (List.range (p + 2)) ((List.range (p + 1)).map (lev (p + 1) d1 st p)) List.nodup_range (fun x hx => by
    have hx := List.mem_range.1 hx; rw [List.mem_map]; cases x with
    | zero => exact ⟨e, List.mem_range.2 he, h0⟩
    | succ t =>
     obtain ⟨g, hg, h⟩ := hch t (by omega); exact ⟨g, List.mem_range.2 hg, h⟩)
   rw [List.length_map, List.length_range, List.length_range] at this; omega
  ·rw [if_neg h2]
 ·exact eF h0
def dr (q : Nat → Bool) (lv : Nat → Nat) : Option Nat → List Nat → Option Nat
 | a, [] => a
 | a, e :: es => dr q lv (if q e && (decide (0 < lv e) && (match a with | none => true | some b => decide (lv e < lv b))) then some e else a) es
def cdO : Option Nat → Int
 | none => -1
 | some a => (a : Int)
theorem lf {q : Nat → Bool} {lv : Nat → Nat} {P : Nat → Prop} : ∀ (es : List Nat) (a : Option Nat), (∀ b, a = some b → P b) → (∀ e ∈ es, 0 < lv e → P e) → ∀ b, dr q lv a es = some b → P b := by
 intro es
 induction es with
 | nil => intro a ha _ b h; exact ha b h
 | cons e es ih =>
  intro a ha he b h; simp only [dr] at h; refine ih _ ?_ (fun x hx => he x (List.mem_cons_of_mem _ hx)) b h; intro c hc; cases a with
  | none =>
   by_cases hq : (q e && (decide (0 < lv e) && true)) = true
   ·rw [if_pos hq] at hc; obtain rfl := Option.some.inj hc; rw [Bool.and_eq_true, Bool.and_eq_true, decide_eq_true_eq] at hq; exact he _ (List.mem_cons_self ..) hq.2.1
   ·rw [if_neg hq] at hc; exact ha c hc
  | some b' =>
   by_cases hq : (q e && (decide (0 < lv e) && decide (lv e < lv b'))) = true
   ·rw [if_pos hq] at hc; obtain rfl := Option.some.inj hc; rw [Bool.and_eq_true, Bool.and_eq_true, decide_eq_true_eq] at hq; exact he _ (List.mem_cons_self ..) hq.2.1
   ·rw [if_neg hq] at hc; exact ha c hc
def nxtN (m : Nat) (lv : Nat → Nat) (st : Nat → Nat → Bool) (a : Nat) : Nat := ((List.range m).find? (fun y => decide (lv y + 1 = lv a) && st a y)).getD 0
def eh (m : Nat) (lv : Nat → Nat) (st : Nat → Nat → Bool) : Nat → Nat → List Nat
 | 0, _ => []
 | d + 1, a => nxtN m lv st a :: eh m lv st d (nxtN m lv st a)
theorem lq (m : Nat) (lv : Nat → Nat) (st : Nat → Nat → Bool) : ∀ d a, (eh m lv st d a).length = d := by
 intro d
 induction d with
 | zero => intro a; rfl
 | succ d ih => intro a; rw [eh, List.length_cons, ih]
theorem eC {m : Nat} {lv : Nat → Nat} {st : Nat → Nat → Bool} {a : Nat} (h : ∃ f, f < m ∧ lv f + 1 = lv a ∧ st a f = true) : nxtN m lv st a < m ∧ lv (nxtN m lv st a) + 1 = lv a ∧ st a (nxtN m lv st a) = true ∧ ∀ y, y < nxtN m lv st a → (decide (lv y + 1 = lv a) && st a y) = false := by
 obtain ⟨f, hf, h1, h2⟩ := h; unfold nxtN; cases hx : (List.range m).find? (fun y => decide (lv y + 1 = lv a) && st a y) with
 | none =>
  have := List.find?_eq_none.1 hx f (List.mem_range.2 hf); rw [decide_eq_true h1, h2] at this; exact absurd rfl this
 | some x =>
  rw [Option.getD_some]; have hp := List.find?_some hx; have hm := List.mem_of_find?_eq_some hx; rw [Bool.and_eq_true, decide_eq_true_eq] at hp; refine ⟨List.mem_range.1 hm, hp.1, hp.2, fun y hy => ?_⟩; rw [List.find?_range_eq_some] at hx; have := hx.2.2 y hy
  simpa only [Bool.not_eq_true'] using this
def labI (m : Nat) (f : Nat → Int) : List Int := (List.range m).map f
theorem labI_len (m : Nat) (f : Nat → Int) : (labI m f).length = m := by simp [labI]
theorem cH (m : Nat) (f : Nat → Int) (j : Nat) (hj : j < m) : rd (labI m f) (j : Int) = f j := by
 rw [b9 _ j (by rw [labI_len]; exact hj)]; simp [labI]
theorem labI_set (m : Nat) (f : Nat → Int) (j : Nat) (x : Int) : (labI m f).set j x = labI m (fun e => if e = j then x else f e) := by
 apply List.ext_getElem
 ·simp [labI]
 ·intro i h1 h2; rw [List.getElem_set]; by_cases h : j = i
  ·subst h; simp [labI]
  ·rw [if_neg h]; simp [labI, Ne.symm h]
theorem cq {m : Nat} {f g : Nat → Int} (h : ∀ v, v < m → f v = g v) : labI m f = labI m g := by
 unfold labI
 apply List.map_congr_left
 intro e he; rw [h e (List.mem_range.1 he)]
theorem it (m : Nat) : List.replicate m (0 : Int) = labI m (fun _ => 0) := by
 unfold labI; rw [List.map_const', List.length_range]
variable {m : Nat} {I : Nat → Prop}
theorem Ind.fill (h : Ind m I) : ∀ (d a b : Nat), I a → I b → pc a + d = pc b → ∃ c, I c ∧ subN a c ∧ (∀ i, c.testBit i = true → a.testBit i = true ∨ b.testBit i = true) ∧ pc c = pc b := by
 intro d
 induction d with
 | zero => intro a b ha hb hd; exact ⟨a, ha, fS a, fun i hi => .inl hi, by omega⟩
 | succ d ih =>
  intro a b ha hb hd; obtain ⟨e, he, h1, h2, h3⟩ := h.aug a b ha hb (by omega); obtain ⟨c, hc, hs, hi, hp⟩ := ih (a ||| 2 ^ e) b h3 hb (by rw [ed he h2]; omega); refine ⟨c, hc, fx (bS.2 fun i hi => by rw [add_bit, hi, Bool.true_or]) hs, fun i hci => ?_, hp⟩; rcases hi i hci with hi | hi
  ·rw [add_bit, Bool.or_eq_true] at hi; rcases hi with hi | hi
   ·exact .inl hi
   ·right; rw [← of_decide_eq_true hi]; exact h1
  ·exact .inr hi
theorem Ind.out_one (h : Ind m I) {s z Y : Nat} (hs : I s) (hz8 : z < 8) (hz : s.testBit z = false) (hd : ¬ I (s ||| 2 ^ z)) (hJ : I (dif s Y ||| 2 ^ z)) : ∃ y, y < 8 ∧ s.testBit y = true ∧ Y.testBit y = true ∧ I (swp s y z) := by
 have hs256 := h.lt hs; have hYz : (dif s Y).testBit z = false := by rw [dif_bit, hz]; rfl
 have hpJ := ed hz8 hYz; have hle : pc (dif s Y) ≤ pc s := mV (bS.2 fun i hi => by rw [dif_bit, Bool.and_eq_true] at hi; exact hi.1); have hlt : pc (dif s Y) < pc s := by
  refine Classical.byContradiction fun hc => ?_
  have e : dif s Y = s := gN (eS hs256) hs256 (bS.2 fun i hi => by rw [dif_bit, Bool.and_eq_true] at hi; exact hi.1) (by omega); rw [e] at hJ; exact hd hJ
 obtain ⟨c, hc, hsub, hin, hpc⟩ := h.fill (pc s - pc (dif s Y ||| 2 ^ z)) _ s hJ hs (by omega); have hcz : c.testBit z = true := bS.1 hsub z (by rw [add_bit]; simp); have hex : ∃ y, s.testBit y = true ∧ c.testBit y = false := by
  refine Classical.byContradiction fun hn => hd (h.down _ c hc (bS.2 fun i hi => ?_))
  rw [add_bit, Bool.or_eq_true] at hi; rcases hi with hi | hi
  ·cases hci : c.testBit i
   ·exact absurd ⟨i, hi, hci⟩ hn
   ·rfl
  ·rw [← of_decide_eq_true hi]; exact hcz
 obtain ⟨y, hy, hcy⟩ := hex; have hy8 : y < 8 := fP (m := 8) hs256 hy; have hYy : Y.testBit y = true := by
  cases hv : Y.testBit y
  ·have : c.testBit y = true := bS.1 hsub y (by rw [add_bit, dif_bit, hy, hv]; rfl); rw [hcy] at this; cases this
  ·rfl
 refine ⟨y, hy8, hy, hYy, ?_⟩; have e : c = swp s y z := by
  refine gN (h.lt hc) (Nat.or_lt_two_pow (n := 8) (eS hs256) (ez hz8)) (bS.2 fun i hi => ?_) ?_
  ·rw [swp_bit]; have hyi : ¬ y = i := by rintro rfl; rw [hcy] at hi; cases hi
   rcases hin i hi with h1 | h1
   ·rw [add_bit, Bool.or_eq_true] at h1; rcases h1 with h1 | h1
    ·rw [dif_bit, Bool.and_eq_true] at h1; simp [h1.1, hyi]
    ·simp [of_decide_eq_true h1]
   ·simp [h1, hyi]
  ·rw [lP hy8 hz8 hy hz, hpc]; exact Nat.le_refl _
 rw [← e]; exact hc
def exS : List (Nat × Nat) → Nat → Nat
 | [], A => A
 | p :: ps, A => exS ps (dif A (2 ^ p.1)) ||| 2 ^ p.2
theorem exS_bit (i : Nat) : ∀ (ps : List (Nat × Nat)) (A : Nat), (exS ps A).testBit i = true ↔ (A.testBit i = true ∧ ∀ p ∈ ps, p.1 ≠ i) ∨ ∃ p ∈ ps, p.2 = i := by
 intro ps
 induction ps with
 | nil => intro A; simp [exS]
 | cons p ps ih =>
  intro A; simp only [exS]; rw [add_bit, Bool.or_eq_true, ih, del_bit, decide_eq_true_eq]
  constructor
  ·rintro ((⟨h1, h2⟩ | ⟨q, hq, h2⟩) | h)
   ·rw [Bool.and_eq_true] at h1
    left
    refine ⟨h1.1, fun q hq => ?_⟩; rcases List.mem_cons.1 hq with rfl | hq
    ·simpa using h1.2
    ·exact h2 q hq
   ·exact .inr ⟨q, List.mem_cons_of_mem _ hq, h2⟩
   ·exact .inr ⟨p, List.mem_cons_self .., h⟩
  ·rintro (⟨h1, h2⟩ | ⟨q, hq, h2⟩)
   ·left; left
    refine ⟨?_, fun q hq => h2 q (List.mem_cons_of_mem _ hq)⟩; have := h2 p (List.mem_cons_self ..); simp [h1, this]
   ·rcases List.mem_cons.1 hq with rfl | hq
    ·exact .inr h2
    ·exact .inl (.inr ⟨q, hq, h2⟩)
theorem kx (h : Ind m I) : ∀ (ps : List (Nat × Nat)) (s : Nat), I s → (∀ p ∈ ps, p.1 < 8 ∧ p.2 < 8 ∧ s.testBit p.1 = true ∧ s.testBit p.2 = false ∧ I (swp s p.1 p.2) ∧ ¬ I (s ||| 2 ^ p.2)) → ps.Pairwise (fun p q => p.1 ≠ q.1 ∧ p.2 ≠ q.2 ∧ ¬ I (swp s p.1 q.2)) →
  I (exS ps s) ∧ pc (exS ps s) = pc s ∧ ∀ x, x < 8 → s.testBit x = false → I (s ||| 2 ^ x) → (exS ps s).testBit x = false ∧ I (exS ps s ||| 2 ^ x) := by
 intro ps
 induction ps with
 | nil => intro s hs _ _; exact ⟨hs, rfl, fun x _ h1 h2 => ⟨h1, h2⟩⟩
 | cons p ps ih =>
  intro s hs hps hpw; rw [List.pairwise_cons] at hpw; obtain ⟨hp1, hp2, hy, hz, hsw, hdep⟩ := hps p (List.mem_cons_self ..); have hA : I (dif s (2 ^ p.1)) := h.down _ s hs (bS.2 fun i hi => by rw [del_bit, Bool.and_eq_true] at hi; exact hi.1); have hdel := fV hp1 hy; obtain ⟨k1, k2, k3⟩ := ih (dif s (2 ^ p.1)) hA
   (fun q hq => by
    obtain ⟨g1, g2, g3, g4, g5, g6⟩ := hps q (List.mem_cons_of_mem _ hq); obtain ⟨n1, n2, n3⟩ := hpw.1 q hq; refine ⟨g1, g2, ?_, ?_, h.down _ _ g5 (bS.2 fun i hi => ?_), n3⟩
    ·rw [del_bit, g3]; simp [n1]
    ·rw [del_bit, g4]; rfl
    ·rw [swp_bit, del_bit] at hi; rw [swp_bit]; cases hsi : s.testBit i
     ·rw [hsi] at hi; simpa using hi
     ·rw [hsi] at hi; by_cases e1 : q.1 = i <;> by_cases e2 : q.2 = i <;> simp_all)
   (by
    refine List.Pairwise.imp_of_mem ?_ hpw.2; intro q r hq hr hqr; refine ⟨hqr.1, hqr.2.1, fun hI => ?_⟩; obtain ⟨g1, g2, g3, g4, g5, g6⟩ := hps r (List.mem_cons_of_mem _ hr); have e : swp (dif s (2 ^ p.1)) q.1 r.2 = dif s (2 ^ p.1 ||| 2 ^ q.1) ||| 2 ^ r.2 := by
     apply Nat.eq_of_testBit_eq
     intro i; rw [swp_bit, del_bit, add_bit, dif_bit, Nat.testBit_or, Nat.testBit_two_pow, Nat.testBit_two_pow]; cases s.testBit i <;> simp
    rw [e] at hI; obtain ⟨y, _, hys, hyY, hyI⟩ := h.out_one hs g2 g4 g6 hI; rw [Nat.testBit_or, Nat.testBit_two_pow, Nat.testBit_two_pow, Bool.or_eq_true, decide_eq_true_eq, decide_eq_true_eq] at hyY; rcases hyY with rfl | rfl
    ·exact (hpw.1 r hr).2.2 hyI
    ·exact hqr.2.2 hyI)
  have hz1 : (dif s (2 ^ p.1)).testBit p.2 = false := by rw [del_bit, hz]; rfl
  obtain ⟨k4, k5⟩ := k3 p.2 hp2 hz1 hsw; simp only [exS]; have hpc : pc (exS ps (dif s (2 ^ p.1)) ||| 2 ^ p.2) = pc s := by rw [ed hp2 k4]; omega
  refine ⟨k5, hpc, fun x hx hxs hxI => ?_⟩; have hxz : ¬ p.2 = x := by rintro rfl; exact hdep hxI
  obtain ⟨k6, _⟩ := k3 x hx (by rw [del_bit, hxs]; rfl) (h.down _ _ hxI (bS.2 fun i hi => by
   rw [add_bit, del_bit] at hi; rw [add_bit]; cases hsi : s.testBit i
   ·rw [hsi] at hi; simpa using hi
   ·rfl))
  have hJx : (exS ps (dif s (2 ^ p.1)) ||| 2 ^ p.2).testBit x = false := by rw [add_bit, k6]; simp [hxz]
  refine ⟨hJx, ?_⟩; obtain ⟨e, he, h1, h2, h3⟩ := h.aug _ _ k5 hxI (by rw [hpc, ed hx hxs]; omega); by_cases hex : x = e
  ·subst hex; exact h3
  ·have hse : s.testBit e = true := by
    rw [add_bit] at h1; simpa [hex] using h1
   obtain ⟨f, hf, f1, f2, f3⟩ := h.aug s _ hs h3 (by rw [ed he h2]; omega); have hfe : ¬ e = f := by rintro rfl; rw [hse] at f2; cases f2
   have hfJ : (exS (p :: ps) s).testBit f = true := by
    rw [add_bit] at f1; simp only [exS]
    simpa [hfe] using f1
   rcases (exS_bit f (p :: ps) s).1 hfJ with ⟨g, _⟩ | ⟨q, hq, rfl⟩
   ·rw [f2] at g; cases g
   ·exact absurd f3 (hps q hq).2.2.2.2.2
end Go.Proofs.Ytimkekeaeojpkaa.Q
