/- The pure side of the law FnRenamed: what the Lean functions of the print compute, and that the law holds of them. Conditions: those in each lemma. -/
import Derived.Test.YtbdloopelidneaaGreatMFnRenamed1
import Derived.Test.YtbdloopelidneaaGreatMFnRenamed2
import Derived.Test.YtbdloopelidneaaGreatMFnRenamed3
import Derived.Test.YtbdloopelidneaaGreatMFnRenamed4
import Derived.Test.YtbdloopelidneaaGreatMFnRenamed5
import Derived.Test.YtbdloopelidneaaGreatMFnRenamed6
import Derived.Test.YtbdloopelidneaaGreatMFnRenamed7
import Derived.Test.YtbdloopelidneaaGreatMFnRenamed8
import Derived.Test.YtbdloopelidneaaGreatMFnRenamed9
import Derived.Test.YtbdloopelidneaaGreatMFnRenamed10
import Derived.Test.YtbdloopelidneaaGreatMFnRenamed11
import Derived.Test.YtbdloopelidneaaGreatMFnRenamed12
import Derived.Test.YtbdloopelidneaaGreatMFnRenamedq0
namespace Go.Proofs.YtbdloopelidneaaGreat.Q
open Go Go.RowKit Go.Proofs.YtbdloopelidneaaGreat.A Go.Proofs.YtbdloopelidneaaGreatW.PrintWords Go.Proofs.YtbdloopelidneaaGreatW.PrintLast Go.Proofs.YtbdloopelidneaaGreatW.PrintMore Go.Proofs.YtbdloopelidneaaGreat.Z
set_option linter.unusedVariables false
set_option linter.unusedSimpArgs false
theorem l1In_eq (a b c : Int) : b3.f a b c = some (decide (b ≤ a) && decide (a ≤ c)) := by
 unfold b3.f; by_cases h : a ≥ b
 ·rw [if_pos h]; simp [h]
 ·rw [if_neg h]; simp only [ge_iff_le] at h; simp [h]
theorem isSize_eq (a : Int) : dd.f a = some (decide (0 ≤ a) && decide (a ≤ 8)) := by
 unfold dd.f; by_cases h : a ≥ 0
 ·rw [if_pos h]; simp [h]
 ·rw [if_neg h]; simp only [ge_iff_le] at h; simp [h]
theorem specIsSet_eq (n s : Int) : bg.f n s = some (dH n s) := by
 unfold bg.f; rw [l1In_eq, Option.bind_some]; unfold dH; by_cases h : (decide (0 ≤ n) && decide (n ≤ 8)) = true
 ·rw [if_pos h, if_pos (dt _), l1In_eq, Option.bind_some, h, Bool.true_and]; simp only [Bool.and_eq_true, decide_eq_true_eq] at h; obtain ⟨m, rfl⟩ := Int.eq_ofNat_of_zero_le h.1; have h8 : m ≤ 8 := by omega
  rw [fQ (by omega) (by omega), eo (by omega)]; have hp := cW h8; rw [Int.toNat_natCast]; have e : (2 : Int) ^ m = ((2 ^ m : Nat) : Int) := by simp
  rw [e]; generalize 2 ^ m = q at hp; rw [b4 (by omega) (by omega)]
  congr 2
  rw [Bool.eq_iff_iff]; simp only [decide_eq_true_eq]; omega
 ·rw [if_neg h, Bool.eq_false_iff.2 h, Bool.false_and]
theorem implIsSet_eq (n s : Int) : df.f n s = some (dH n s) := by
 unfold df.f; rw [isSize_eq, Option.bind_some]; unfold dH; by_cases h : (decide (0 ≤ n) && decide (n ≤ 8)) = true
 ·rw [if_pos h, h, Bool.true_and]; simp only [Bool.and_eq_true, decide_eq_true_eq] at h; by_cases hs : s ≥ 0
  ·rw [if_pos hs, if_pos h.1]; obtain ⟨m, rfl⟩ := Int.eq_ofNat_of_zero_le h.1; rw [eo (by omega), Int.toNat_natCast]; have e : ((2 ^ m : Nat) : Int) = 2 ^ m := by simp
   rw [e]; have : decide (0 ≤ s) = true := by simpa using hs
   rw [this, Bool.true_and]
  ·rw [if_neg hs]; have : decide (0 ≤ s) = false := by simpa using hs
   rw [this, Bool.false_and]
 ·rw [if_neg h, Bool.eq_false_iff.2 h, Bool.false_and]
theorem ne (s : Int) : dH 8 s = eZ s := by
 unfold dH eZ; rw [Bool.eq_iff_iff]; simp
theorem mw (s : Int) : dy.f s = some (eZ s) := by
 unfold dy.f eZ; by_cases h : s ≥ 0
 ·rw [if_pos h]; simp [h]
 ·rw [if_neg h]; simp only [ge_iff_le] at h; simp [h]
theorem lq {s : Int} (h : eZ s = true) : ∃ t : Nat, s = t ∧ t < 256 := by
 simp only [eZ, Bool.and_eq_true, decide_eq_true_eq] at h; obtain ⟨t, rfl⟩ := Int.eq_ofNat_of_zero_le h.1; exact ⟨t, rfl, by omega⟩
theorem implHas_eq (s e : Int) : de.f s e = some (hasB s e) := by
 unfold de.f hasB; rw [mw, Option.bind_some]; by_cases h : eZ s = true
 ·rw [if_pos h, h, Bool.true_and]; obtain ⟨t, rfl, ht⟩ := lq h; by_cases h0 : e ≥ 0
  ·rw [if_pos h0]; obtain ⟨m, rfl⟩ := Int.eq_ofNat_of_zero_le h0; by_cases h8 : (m : Int) < 8
   ·rw [if_pos h8, if_pos h0, jC (cG ht)]; simp [h8]
   ·rw [if_neg h8]; simp [h8]
  ·rw [if_neg h0]; simp only [ge_iff_le] at h0; simp [h0]
 ·rw [if_neg h, Bool.eq_false_iff.2 h]; simp
theorem eH {s e : Nat} (hs : s < 2 ^ 63) (he : e < 2 ^ 63) : bA.f (s : Int) (e : Int) = some (s.testBit e) := by
 unfold bA.f; rw [if_pos (dt _), fQ (by omega) (by omega), jC hs]
def ExE {α : Type} (g : Nat → Option α) (P : α → Prop) : Prop := ∃ r, Ev g r ∧ P r
theorem ExE.now {α : Type} {r : α} {P : α → Prop} (h : P r) : ExE (fun _ => some r) P := ⟨r, Ev.now _, h⟩
theorem ExE.bind {α β : Type} {g : Nat → Option α} {f : Nat → α → Option β} {P : α → Prop} {R : β → Prop} (h : ExE g P) (k : ∀ a, P a → ExE (fun n => f n a) R) : ExE (fun n => (g n).bind (f n)) R := by
 obtain ⟨a, ha, hp⟩ := h; obtain ⟨b, hb, hr⟩ := k a hp; exact ⟨b, Ev.bind ha hb, hr⟩
theorem ExE.cbind {α β : Type} {g : Option α} {f : Nat → α → Option β} {P : α → Prop} {R : β → Prop} (h : ∃ a, g = some a ∧ P a) (k : ∀ a, P a → ExE (fun n => f n a) R) : ExE (fun n => g.bind (f n)) R := by
 obtain ⟨a, ha, hp⟩ := h; obtain ⟨b, hb, hr⟩ := k a hp; exact ⟨b, Ev.cbind ha hb, hr⟩
theorem ExE.ev {α β : Type} {g : Nat → Option α} {f : Nat → α → Option β} {a : α} {R : β → Prop} (h : Ev g a) (k : ExE (fun n => f n a) R) : ExE (fun n => (g n).bind (f n)) R := by
 obtain ⟨b, hb, hr⟩ := k; exact ⟨b, Ev.bind h hb, hr⟩
theorem ExE.ite {α : Type} {c : Prop} [Decidable c] {g f : Nat → Option α} {P : α → Prop} (h : c → ExE g P) (k : ¬ c → ExE f P) : ExE (fun n => if c then g n else f n) P := by
 by_cases hc : c
 ·obtain ⟨r, hr, hp⟩ := h hc; exact ⟨r, Ev.ifp hc hr, hp⟩
 ·obtain ⟨r, hr, hp⟩ := k hc; exact ⟨r, Ev.ifn hc hr, hp⟩
theorem ExE.ifp {α : Type} {c : Prop} [Decidable c] {g f : Nat → Option α} {P : α → Prop} (hc : c) (h : ExE g P) : ExE (fun n => if c then g n else f n) P := ExE.ite (fun _ => h) (fun k => absurd hc k)
theorem ExE.step {α : Type} {g f : Nat → Option α} {P : α → Prop} (h : ∀ k, g (k + 1) = f k) (k : ExE f P) : ExE g P := by
 obtain ⟨r, hr, hp⟩ := k; exact ⟨r, Ev.step h hr, hp⟩
theorem ExE.imp {α : Type} {g : Nat → Option α} {P R : α → Prop} (h : ExE g P) (k : ∀ a, P a → R a) : ExE g R := by
 obtain ⟨r, hr, hp⟩ := h; exact ⟨r, hr, k r hp⟩
theorem ExE.of {α : Type} {g : Nat → Option α} {r : α} {P : α → Prop} (h : Ev g r) (hp : P r) : ExE g P := ⟨r, h, hp⟩
theorem ju (v : Int) : 0 ≤ Go.bits .and .i64 v 255 ∧ Go.bits .and .i64 v 255 < 256 := by
 have h : ∀ n : Nat, n ≤ 255 → IntKind.i64.wrap (n : Int) = (n : Int) := fun n hn => em (by omega)
 simp only [Go.bits, BitVec.toNat_and]; have hle : (BitVec.ofInt IntKind.i64.bits v).toNat &&& (BitVec.ofInt IntKind.i64.bits 255).toNat ≤ 255 := Nat.le_trans Nat.and_le_right (by decide); rw [h _ hle]; omega
theorem fc {b : List Int} (hb : b.length ≤ 17592186044416) {p h : Int} (hp : 0 ≤ p) : ∃ r, cR.f b p h = some r ∧ 0 ≤ r.1 ∧ r.1 < 256 ∧ 0 ≤ r.2.1 := by
 unfold cR.f; by_cases h1 : p < (b.length : Int)
 ·rw [if_pos h1, if_pos hp]; exact ⟨_, rfl, (ju _).1, (ju _).2, by show 0 ≤ wrap64 (p + 1); rw [b4 (n := p + 1) (by omega) (by omega)]; omega⟩
 ·rw [if_neg h1]; exact ⟨_, rfl, (ju _).1, (ju _).2, hp⟩
theorem lc {x n : Int} (hx : 0 ≤ x) (hn : 0 < n) : 0 ≤ Int.tmod x n ∧ Int.tmod x n < n := by
 rw [Int.tmod_eq_emod_of_nonneg hx]; exact ⟨Int.emod_nonneg _ (by omega), Int.emod_lt_of_pos _ hn⟩
theorem cI {b : List Int} (hb : b.length ≤ 17592186044416) {p h : Int} (hp : 0 ≤ p) (n : Int) : ∃ r, az.f b p h n = some r ∧ 0 ≤ r.1 ∧ (0 < n → r.1 < n) ∧ (n ≤ 0 → r.1 = 0) ∧ 0 ≤ r.2.1 := by
 unfold az.f; by_cases h1 : n ≤ 0
 ·rw [if_pos h1]; exact ⟨_, rfl, Int.le_refl _, fun h => by omega, fun _ => rfl, hp⟩
 rw [if_neg h1]; have hn : ¬ n = 0 := by omega
 by_cases h2 : n ≤ 256
 ·rw [if_pos h2]; obtain ⟨r, e, r1, r2, r3⟩ := fc hb (h := h) hp; rw [e, Option.bind_some, if_neg hn]; have := lc r1 (show 0 < n by omega); exact ⟨_, rfl, this.1, fun _ => this.2, fun h => absurd h h1, r3⟩
 ·rw [if_neg h2]; obtain ⟨x, e, x1, x2, x3⟩ := fc hb (h := h) hp; rw [e, Option.bind_some]; obtain ⟨y, e, y1, y2, y3⟩ := fc hb (h := x.2.2) x3; rw [e, Option.bind_some]; obtain ⟨z, e, z1, z2, z3⟩ := fc hb (h := y.2.2) y3; rw [e, Option.bind_some]; obtain ⟨w, e, w1, w2, w3⟩ := fc hb (h := z.2.2) z3; rw [e, Option.bind_some, if_neg hn]; have e1 : 0 ≤ wrap64 ((wrap64 ((wrap64 ((wrap64 (x.1 * 16777216)) + (wrap64 (y.1 * 65536)))) + (wrap64 (z.1 * 256)))) + w.1) := by
   rw [b4 (n := x.1 * 16777216) (by omega) (by omega), b4 (n := y.1 * 65536) (by omega) (by omega), b4 (n := z.1 * 256) (by omega) (by omega)]; rw [b4 (n := x.1 * 16777216 + y.1 * 65536) (by omega) (by omega), b4 (n := x.1 * 16777216 + y.1 * 65536 + z.1 * 256) (by omega) (by omega), b4 (by omega) (by omega)]; omega
  have := lc e1 (show 0 < n by omega); exact ⟨_, rfl, this.1, fun _ => this.2, fun h => absurd h h1, w3⟩
theorem gS {b : List Int} (hb : b.length ≤ 17592186044416) {p h : Int} (hp : 0 ≤ p) (n : Int) : ∃ r, cY.f b p h n = some r ∧ 0 ≤ r.2.1 := by
 unfold cY.f; obtain ⟨r, e, _, _, _, r3⟩ := cI hb (h := h) hp n; rw [e, Option.bind_some]; exact ⟨_, rfl, r3⟩
theorem dR {b : List Int} (hb : b.length ≤ 17592186044416) {p h : Int} (hp : 0 ≤ p) {l : List Int} (hl : l ≠ []) : ∃ r, ci.f b p h l = some r ∧ r.1 ∈ l ∧ 0 ≤ r.2.1 := by
 unfold ci.f; obtain ⟨r, e, r1, r2, _, r3⟩ := cI hb (h := h) hp (l.length : Int); have h0 : 0 < l.length := List.length_pos_iff.2 hl; have hlt := r2 (by omega); rw [e, Option.bind_some, if_pos r1, if_pos hlt]; exact ⟨_, rfl, m6 l r.1 r1 hlt, r3⟩
theorem fq (l : List Int) (hl : l.length ≤ 17592186044416) : ExE (fun k => b6.f k l) (fun r => r.1 = l ∧ r.2.1 = 0) := by
 unfold b6.f; have hd := down (P := fun i => ∀ h : Int, ExE (fun k => b6.l0 k l h (i : Int)) (fun r => r.1 = l ∧ r.2.1 = 0)) l.length
  (by
   intro h
   apply ExE.step
   ·intro k; rw [b6.l0, if_neg (by omega)]
   ·exact ExE.now ⟨rfl, rfl⟩)
  (by
   intro i hi ih h
   apply ExE.step
   ·intro k; rw [b6.l0, if_pos (by omega), ck hi hl]
   ·refine ExE.ite (fun _ => ExE.ite (fun _ => ih _) (fun h => absurd (by omega) h)) (fun _ => ExE.now ⟨rfl, rfl⟩))
 exact hd _
def iE (m : Nat) : Nat := 2 ^ m - 1
theorem ed {m : Nat} (hm : m ≤ 8) : cA.f (m : Int) = some ((iE m : Nat) : Int) := by
 unfold cA.f iE; have hp := cW hm; have h0 := Nat.two_pow_pos m; rw [l1In_eq, Option.bind_some, if_pos (by simp; omega), if_pos (dt _), fQ (by omega) (by omega), eo (by omega)]; generalize 2 ^ m = q at *; rw [b4 (by omega) (by omega)]
 congr 1
 omega
theorem jv : ∀ (d x : Nat), x ≤ d → x < 256 → ∀ acc : Int, 0 ≤ acc → acc + (d : Int) ≤ 1000 → Ev (fun k => b5.l0 k (x : Int) acc) (acc + (pc x : Int)) := by
 intro d
 induction d with
 | zero =>
  intro x hx _ acc h0 h1; obtain rfl : x = 0 := by omega
  apply Ev.step
  ·intro k; simp only [b5.l0]; rw [if_neg (by decide)]
  ·rw [mT, show acc + ((0 : Nat) : Int) = acc from by omega]; exact Ev.now _
 | succ d ih =>
  intro x hx h256 acc h0 h1; by_cases hz : x = 0
  ·subst hz; exact ih 0 (by omega) h256 acc h0 (by omega)
  ·have hb : Go.bits .and .i64 (x : Int) 1 = ((x % 2 : Nat) : Int) := by
    have := jr (a := x) (b := 1) (cG h256) (by decide); rw [Nat.and_one_is_mod] at this; exact this
   apply Ev.step
   ·intro k; simp only [b5.l0]; rw [if_pos (by omega), hb, b4 (by omega) (by omega), show (x : Int) / 2 = ((x / 2 : Nat) : Int) from by omega]
   ·have hp := mF x h256; have hl := nn (x / 2); have := ih (x / 2) (by omega) (by omega) (acc + ((x % 2 : Nat) : Int)) (by omega) (by omega); rw [show acc + ((x % 2 : Nat) : Int) + (pc (x / 2) : Int) = acc + (pc x : Int) from by omega] at this; exact this
theorem gG (s : Nat) (h : s < 256) : Ev (fun k => b5.f k (s : Int)) (pc s : Int) := by
 unfold b5.f; refine Ev.cbind (specIsSet_eq _ _) (Ev.ifp ?_ ?_)
 ·rw [ne, ii]; simpa using h
 ·have := jv s s (Nat.le_refl _) h 0 (by omega) (by omega); rw [Int.zero_add] at this; exact this
theorem kr (r n : Int) : ExE (fun k => bN.f k r n) (fun q => 0 ≤ q.1 ∧ q.1 ≤ 8 ∧ (0 ≤ n → q.1 ≤ n) ∧ q.2.length ≤ 256) := by
 unfold bN.f; refine ExE.cbind (P := fun a => a = (decide (0 ≤ n) && decide (n ≤ 8))) ⟨_, l1In_eq n 0 8, rfl⟩ ?_; rintro a rfl; have hno : ExE (fun k => bN.j0 k r n true) (fun q => 0 ≤ q.1 ∧ q.1 ≤ 8 ∧ (0 ≤ n → q.1 ≤ n) ∧ q.2.length ≤ 256) := by
  apply ExE.step
  ·intro k; rw [bN.j0]
  ·exact ExE.ifp rfl (ExE.now ⟨by simp, by simp, fun h => h, by simp⟩)
 refine ExE.ite (fun hn => ?_) (fun _ => hno); rw [Bool.and_eq_true, decide_eq_true_eq, decide_eq_true_eq] at hn; refine ExE.cbind (P := fun _ => True) ⟨_, l1In_eq r 0 n, trivial⟩ ?_; rintro a -; cases a
 ·exact hno
 obtain ⟨m, rfl⟩ := Int.eq_ofNat_of_zero_le hn.1; have hm : m ≤ 8 := by omega
 have h256 := cW hm; have hp := Nat.two_pow_pos m; have hd := down (P := fun i => ∀ l : List Int, l.length ≤ i → ExE (fun k => bN.l0 k r (m : Int) (i : Int) (m : Int) l) (fun q => 0 ≤ q.1 ∧ q.1 ≤ 8 ∧ (0 ≤ (m : Int) → q.1 ≤ (m : Int)) ∧ q.2.length ≤ 256)) (2 ^ m)
  (by
   intro l hl
   apply ExE.step
   ·intro k; rw [bN.l0, ed hm, Option.bind_some, if_neg (by unfold iE; omega)]
   ·exact ExE.now ⟨by simp only []; omega, by simp only []; omega, fun _ => Int.le_refl _, by simp only []; omega⟩)
  (by
   intro i hi ih l hl
   apply ExE.step
   ·intro k; rw [bN.l0, ed hm, Option.bind_some, if_pos (by unfold iE; omega), ck hi (by omega)]
   ·refine ExE.ev (gG i (by omega)) (ExE.ite (fun _ => ExE.ifp (by omega) (ih _ (by rw [List.length_append, List.length_singleton]; omega))) (fun _ => ih _ (by omega))))
 apply ExE.step
 ·intro k; rw [bN.j0]
 ·exact ExE.ite (fun h => absurd h (by decide)) (fun _ => hd [] (Nat.zero_le _))
section
variable {P : Int} {R N s : Nat}
theorem ix {x y : Nat} {a : List Int} (ha : a.length = R * N) (hx : x < R) (hy : y < N) (hR : R ≤ 8) (hN : N ≤ 8) : wrap64 ((wrap64 ((x : Int) * (N : Int))) + (y : Int)) = ((x * N + y : Nat) : Int) ∧ 0 ≤ ((x * N + y : Nat) : Int) ∧ ((x * N + y : Nat) : Int) < (a.length : Int) := by
 have h1 : x * N ≤ 7 * 8 := Nat.mul_le_mul (by omega) hN; have h2 : (x + 1) * N ≤ R * N := Nat.mul_le_mul (by omega) (Nat.le_refl N); rw [Nat.add_mul] at h2; rw [show (x : Int) * (N : Int) = ((x * N : Nat) : Int) from by simp, ha]; generalize x * N = q at *; generalize R * N = u at *; rw [b4 (n := (q : Int)) (by omega) (by omega), b4 (by omega) (by omega)]; exact ⟨by omega, by omega, by omega⟩
theorem ltc {x y : Nat} (h : x < y) : (x : Int) < (y : Int) := by omega
theorem gec {x y : Nat} (h : y ≤ x) : ¬ (x : Int) < (y : Int) := by omega
section
variable (hR : R ≤ 8) (hN : N ≤ 8) (hP : P ≠ 0) (j : Nat) (hj : j < N)
  (hnext : ∀ (a : List Int) (q : Nat), a.length = R * N → ExE (fun k => am.l0 k P (R : Int) (N : Int) (s : Int) a (q : Int) (wrap64 ((j : Int) + 1))) (fun _ => True))
include hR hN hP hj hnext
theorem mi {q : Nat} (hq : q < R) : ∀ (c i : Nat), i + c = R → ∀ a : List Int, a.length = R * N → ExE (fun k => am.l3 k P (R : Int) (N : Int) (s : Int) a (q : Int) (j : Int) (i : Int)) (fun _ => True) := by
 have hR' : R ≤ 17592186044416 := Nat.le_trans hR (by decide); have hN' : N ≤ 17592186044416 := Nat.le_trans hN (by decide); intro c
 induction c with
 | zero =>
  intro i hi a ha
  apply ExE.step
  ·intro k; rw [am.l3, if_neg (gec (by omega)), ck hq hR']
  ·exact hnext a (q + 1) ha
 | succ c ih3 =>
  intro i hi a ha; have hiR : i < R := by omega
  have hnxt : i + 1 + c = R := by omega
  obtain ⟨e1, p1, l1⟩ := ix ha hiR hj hR hN; obtain ⟨e2, p2, l2⟩ := ix ha hq hj hR hN
  apply ExE.step
  ·intro k; rw [am.l3, if_pos (ltc hiR), e1, e2, if_pos p1, if_pos l1, if_pos p2, if_pos l2]
  ·clear e1 e2 p1 p2 l1 l2; generalize rd a ((i * N + j : Nat) : Int) = x; generalize rd a ((q * N + j : Nat) : Int) = y; have hd := down (P := fun t => ∀ a : List Int, a.length = R * N → ExE (fun k => am.l4 k P (R : Int) (N : Int) (s : Int) a (q : Int) (j : Int) (i : Int) x y (t : Int)) (fun _ => True)) N
    (by
     intro a ha
     apply ExE.step
     ·intro k; rw [am.l4, if_neg (gec (Nat.le_refl N)), ck hiR hR']
     ·exact ih3 (i + 1) hnxt a ha)
    (by
     intro t ht ih4 a ha; obtain ⟨e3, p3, l3⟩ := ix ha hiR ht hR hN; obtain ⟨e4, p4, l4⟩ := ix ha hq ht hR hN
     apply ExE.step
     ·intro k; rw [am.l4, if_pos (ltc ht), e3, e4, if_pos p3, if_pos l3, if_pos p4, if_pos l4, if_neg hP, ck ht hN']
     ·exact ih4 _ (by rw [List.length_set]; exact ha))
   exact hd a ha
theorem mL {q at_ : Nat} (hq : q < R) (hat : at_ < R) (a : List Int) (ha : a.length = R * N) : ExE (fun k => am.l2 k P (R : Int) (N : Int) (s : Int) a (q : Int) (j : Int) (at_ : Int) 0) (fun _ => True) := by
 have hR' : R ≤ 17592186044416 := Nat.le_trans hR (by decide); have hN' : N ≤ 17592186044416 := Nat.le_trans hN (by decide); have hb := mi hR hN hP j hj hnext hq (R - (q + 1)) (q + 1) (by omega); have hd := down (P := fun t => ∀ a : List Int, a.length = R * N → ExE (fun k => am.l2 k P (R : Int) (N : Int) (s : Int) a (q : Int) (j : Int) (at_ : Int) (t : Int)) (fun _ => True)) N
  (by
   intro a ha
   apply ExE.step
   ·intro k; rw [am.l2, if_neg (gec (Nat.le_refl N)), ck hq hR']
   ·exact hb a ha)
  (by
   intro t ht ih2 a ha; obtain ⟨e3, p3, l3⟩ := ix ha hat ht hR hN; obtain ⟨e4, p4, l4⟩ := ix ha hq ht hR hN
   apply ExE.step
   ·intro k; rw [am.l2, if_pos (ltc ht), e3, e4, if_pos p3, if_pos l3, if_pos p4, if_pos l4, ck ht hN']
   ·exact ih2 _ (by rw [List.length_set, List.length_set]; exact ha))
 exact hd a ha
theorem jG {q : Nat} (a : List Int) (ha : a.length = R * N) (at_ : Nat) (h1 : q ≤ at_) : ExE (fun k => am.j2 k P (R : Int) (N : Int) (s : Int) a (q : Int) (j : Int) (at_ : Int)) (fun _ => True) := by
 apply ExE.step
 ·intro k; rw [am.j2]
 ·exact ExE.ite (fun _ => hnext a q ha) (fun h => mL hR hN hP j hj hnext (by omega) (by omega) a ha)
theorem mD {q : Nat} (a : List Int) (ha : a.length = R * N) : ∀ (c at_ : Nat), R - at_ = c → q ≤ at_ → ExE (fun k => am.l1 k P (R : Int) (N : Int) (s : Int) a (q : Int) (j : Int) (at_ : Int)) (fun _ => True) := by
 have hR' : R ≤ 17592186044416 := Nat.le_trans hR (by decide); intro c
 induction c with
 | zero =>
  intro at_ h1 h4
  apply ExE.step
  ·intro k; rw [am.l1, if_neg (gec (by omega))]
  ·exact jG hR hN hP j hj hnext a ha at_ h4
 | succ c ih1 =>
  intro at_ h1 h4; have hatR : at_ < R := by omega
  have hn1 : R - (at_ + 1) = c := by omega
  have hn2 : q ≤ at_ + 1 := by omega
  obtain ⟨e1, p1, l1⟩ := ix ha hatR hj hR hN
  apply ExE.step
  ·intro k; rw [am.l1, if_pos (ltc hatR), e1, if_pos p1, if_pos l1, ck hatR hR']
  ·exact ExE.ite (fun _ => ih1 (at_ + 1) hn1 hn2) (fun _ => jG hR hN hP j hj hnext a ha at_ h4)
end
theorem lG (hR : R ≤ 8) (hN : N ≤ 8) (hP : P ≠ 0) : ∀ (d j : Nat), j + d = N → ∀ (a : List Int) (q : Nat), a.length = R * N → ExE (fun k => am.l0 k P (R : Int) (N : Int) (s : Int) a (q : Int) (j : Int)) (fun _ => True) := by
 have hN' : N ≤ 17592186044416 := Nat.le_trans hN (by decide); intro d
 induction d with
 | zero =>
  intro j hj a q ha
  apply ExE.step
  ·intro k; rw [am.l0, if_neg (gec (by omega))]
  ·exact ExE.now trivial
 | succ d ih =>
  intro j hj a q ha; have hj8 : j < N := by omega
  have hj1 : j + 1 + d = N := by omega
  have hnext : ∀ (a : List Int) (q : Nat), a.length = R * N → ExE (fun k => am.l0 k P (R : Int) (N : Int) (s : Int) a (q : Int) (wrap64 ((j : Int) + 1))) (fun _ => True) := by
   intro a q ha; rw [ck hj8 hN']; exact ih (j + 1) hj1 a q ha
  apply ExE.step
  ·intro k; rw [am.l0, if_pos (ltc hj8)]
  ·refine ExE.cbind (P := fun _ => True) ⟨_, by unfold bA.f; rw [if_pos (dt _)], trivial⟩ ?_; rintro b -; exact ExE.ite (fun _ => mD hR hN hP j hj8 hnext a ha (R - q) q rfl (Nat.le_refl _)) (fun _ => hnext a q ha)
theorem i5 (hR : R ≤ 8) (hN : N ≤ 8) (hP : P ≠ 0) {a : List Int} (ha : a.length = R * N) : ExE (fun k => am.f k P (R : Int) (N : Int) a (s : Int)) (fun _ => True) := by
 unfold am.f; refine ExE.cbind (P := fun y => y = []) ⟨_, rfl, rfl⟩ ?_; rintro y rfl; have h64 : R * N ≤ 8 * 8 := Nat.mul_le_mul hR hN; refine ExE.ifp (by rw [ha]; simp; omega) ?_; rw [List.nil_append]; exact lG hR hN hP N 0 (by omega) a 0 ha
theorem jQ (hR : R ≤ 8) (hN : N ≤ 8) (hP : P ≠ 0) {a : List Int} (ha : a.length = R * N) : ExE (fun k => cd.f k P (R : Int) (N : Int) a) (fun q => q.1 = (N : Int) ∧ q.2.length ≤ 256) := by
 unfold cd.f; have h256 := cW hN; have hp := Nat.two_pow_pos N; refine ExE.cbind (P := fun x => x = ((iE N : Nat) : Int)) ⟨_, ed hN, rfl⟩ ?_; rintro x rfl; refine ExE.bind (i5 hR hN hP ha) ?_; rintro r -; have hd := down (P := fun i => ∀ l : List Int, l.length ≤ i → ExE (fun k => cd.l0 k P (R : Int) (N : Int) a r (i : Int) (N : Int) l) (fun q => q.1 = (N : Int) ∧ q.2.length ≤ 256)) (2 ^ N)
  (by
   intro l hl
   apply ExE.step
   ·intro k; rw [cd.l0, ed hN, Option.bind_some, if_neg (by unfold iE; omega)]
   ·exact ExE.now ⟨rfl, by simp only []; omega⟩)
  (by
   intro i hi ih l hl
   apply ExE.step
   ·intro k; rw [cd.l0, ed hN, Option.bind_some, if_pos (by unfold iE; omega), ck hi (by omega)]
   ·refine ExE.ev (gG i (by omega)) (ExE.ite (fun _ => ?_) (fun _ => ih _ (by omega))); refine ExE.bind (i5 hR hN hP ha) ?_; rintro c -; exact ExE.ite (fun _ => ExE.ifp (by omega) (ih _ (by rw [List.length_append, List.length_singleton]; omega))) (fun _ => ih _ (by omega)))
 exact hd [] (Nat.zero_le _)
end
theorem jA {b : List Int} (hb : b.length ≤ 17592186044416) {p h : Int} (hp : 0 ≤ p) {n : Nat} (hn : n ≤ 8) : ExE (fun k => bW.f k b p h (n : Int)) (fun q => q.1 = (n : Int) ∧ q.2.1.length ≤ 256 ∧ 0 ≤ q.2.2.1) := by
 unfold bW.f; obtain ⟨u, eu, u1, u2⟩ := dR hb (h := h) hp (l := [2, 3, 5, 2]) (by simp); refine ExE.cbind (P := fun a => a = u) ⟨u, eu, rfl⟩ ?_; intro u' e; subst e; obtain ⟨v, ev, v1, v2, _, v3⟩ := cI hb (h := u'.2.2) u2 3; refine ExE.cbind (P := fun a => a = v) ⟨v, ev, rfl⟩ ?_; intro v' e; subst e; have v2 := v2 (by omega); obtain ⟨R, hR⟩ : ∃ R : Nat, wrap64 (1 + v'.1) = (R : Int) ∧ R ≤ 3 := by
  rw [b4 (by omega) (by omega)]; exact ⟨(1 + v'.1).toNat, by omega, by omega⟩
 rw [hR.1]; have hRn : R * n ≤ 3 * 8 := Nat.mul_le_mul hR.2 hn; have hP : u'.1 ≠ 0 := by
  intro h0; rw [h0] at u1; simp at u1
 have hmul : wrap64 ((R : Int) * (n : Int)) = ((R * n : Nat) : Int) := by
  rw [show (R : Int) * (n : Int) = ((R * n : Nat) : Int) from by simp, b4 (by omega) (by omega)]
 have hd := down (P := fun i => ∀ (l : List Int) (p h : Int), 0 ≤ p → l.length = i → ExE (fun k => bW.l0 k (n : Int) u'.1 (R : Int) l (i : Int) b p h) (fun q => q.1 = (n : Int) ∧ q.2.1.length ≤ 256 ∧ 0 ≤ q.2.2.1)) (R * n)
  (by
   intro l p h hp hl
   apply ExE.step
   ·intro k; rw [bW.l0, hmul, if_neg (by omega)]
   ·refine ExE.bind (jQ (by omega) hn hP hl) ?_; rintro q ⟨q1, q2⟩; exact ExE.now ⟨q1, q2, hp⟩)
  (by
   intro i hi ih l p h hp hl; obtain ⟨x, ex, _, _, _, x3⟩ := cI hb (h := h) hp u'.1
   apply ExE.step
   ·intro k; rw [bW.l0, hmul, if_pos (by omega), ck hi (by omega)]
   ·refine ExE.cbind (P := fun a => a = x) ⟨x, ex, rfl⟩ ?_; rintro _ rfl; exact ExE.ifp (by omega) (ih _ _ _ x3 (by rw [List.length_append, List.length_singleton]; omega)))
 exact hd [] _ _ v3 rfl
theorem Ev.ofMono {α : Type} {g : Nat → Option α} (h : ∀ k, LeO (g k) (g (k + 1))) {K : Nat} {r : α} (e : g K = some r) : Ev g r := by
 refine ⟨K, fun k hk => ?_⟩; obtain ⟨d, rfl⟩ : ∃ d, k = K + d := ⟨k - K, by omega⟩; clear hk
 induction d with
 | zero => exact e
 | succ d ih => exact h (K + d) r ih
theorem dS {s : ByteArray} {r : Int × List Int × Bool} (h : bu.f 300 s = some r) {P : Int × List Int × Bool → Prop} (hp : P r) : ExE (fun k => bu.f k s) P := ⟨r, Ev.ofMono (g := fun k => bu.f k s) (fun k => bu.mono s k) h, hp⟩
theorem lm {b : List Int} (hb : b.length ≤ 17592186044416) {p h : Int} (hp : 0 ≤ p) {l : List ByteArray} (hl : l ≠ []) : ∃ r, dL.f b p h l = some r ∧ (∃ i, i < l.length ∧ r.1 = l.getD i ByteArray.empty) ∧ 0 ≤ r.2.1 := by
 unfold dL.f; obtain ⟨r, e, r1, r2, _, r3⟩ := cI hb (h := h) hp (l.length : Int); have h0 : 0 < l.length := List.length_pos_iff.2 hl; have hlt := r2 (by omega); rw [e, Option.bind_some, if_pos r1, if_pos hlt]; refine ⟨_, rfl, ⟨r.1.toNat, by omega, ?_⟩, r3⟩; unfold rdOf
 rfl
def NmP (r : Int × List Int × Bool) : Prop := 0 ≤ r.1 ∧ r.1 ≤ 8 ∧ r.2.1.length ≤ 256
theorem kG {b : List Int} (hb : b.length ≤ 17592186044416) {p h : Int} (hp : 0 ≤ p) : ExE (fun k => dA.f k b p h) (fun q => 0 ≤ q.1 ∧ q.1 ≤ 8 ∧ q.2.1.length ≤ 256 ∧ 0 ≤ q.2.2.1) := by
 unfold dA.f; obtain ⟨u, eu, ⟨i, hi, u1⟩, u2⟩ := lm hb (h := h) hp (l := [(⟨#[48, 32, 45]⟩ : ByteArray), (⟨#[49, 32, 45]⟩ : ByteArray), (⟨#[49, 32, 97]⟩ : ByteArray), (⟨#[52, 32, 97, 98, 44, 97, 99, 44, 98, 99, 44, 97, 100, 44, 98, 100, 44, 99, 100]⟩ : ByteArray), (⟨#[52, 32, 97, 98, 44, 97, 99, 44, 97, 100, 44, 98, 100, 44, 99, 100]⟩ : ByteArray), (⟨#[51, 32, 97, 44, 98]⟩ : ByteArray), (⟨#[53, 32, 97, 98, 44, 97, 99, 44, 98, 99, 44, 97, 100, 44, 98, 100]⟩ : ByteArray), (⟨#[50, 32, 45]⟩ : ByteArray), (⟨#[51, 32, 97, 98, 99]⟩ : ByteArray)]) (by simp); refine ExE.cbind (P := fun a => a = u) ⟨u, eu, rfl⟩ ?_; intro u' e; subst e; have key : ExE (fun k => bu.f k u'.1) NmP := by
  rw [u1]; simp only [List.length_cons, List.length_nil] at hi
  match i, hi with
  | 0, _ => exact dS (r := (0, [0], true)) (by decide +kernel) (by unfold NmP; decide)
  | 1, _ => exact dS (r := (1, [0], true)) (by decide +kernel) (by unfold NmP; decide)
  | 2, _ => exact dS (r := (1, [1], true)) (by decide +kernel) (by unfold NmP; decide)
  | 3, _ => exact dS (r := (4, [3, 5, 6, 9, 10, 12], true)) (by decide +kernel) (by unfold NmP; decide)
  | 4, _ => exact dS (r := (4, [3, 5, 9, 10, 12], true)) (by decide +kernel) (by unfold NmP; decide)
  | 5, _ => exact dS (r := (3, [1, 2], true)) (by decide +kernel) (by unfold NmP; decide)
  | 6, _ => exact dS (r := (5, [3, 5, 6, 9, 10], true)) (by decide +kernel) (by unfold NmP; decide)
  | 7, _ => exact dS (r := (2, [0], true)) (by decide +kernel) (by unfold NmP; decide)
  | 8, _ => exact dS (r := (3, [7], true)) (by decide +kernel) (by unfold NmP; decide)
  | n + 9, h => omega
 refine ExE.bind key ?_; rintro q ⟨q1, q2, q3⟩; exact ExE.now ⟨q1, q2, q3, u2⟩
theorem jh {b : List Int} (hb : b.length ≤ 17592186044416) {p h : Int} (hp : 0 ≤ p) {n : Int} (h0 : 0 ≤ n) (h8 : n ≤ 8) : ExE (fun k => cD.f k b p h n) (fun q => 0 ≤ q.1 ∧ q.1 ≤ 8 ∧ q.2.1.length ≤ 256 ∧ 0 ≤ q.2.2.1) := by
 unfold cD.f; rw [b4 (n := n + 1) (by omega) (by omega)]; obtain ⟨u, eu, u1, u2, _, u3⟩ := cI hb (h := h) hp 6; refine ExE.cbind (P := fun a => a = u) ⟨u, eu, rfl⟩ ?_; intro u' e; subst e; have hcol : ∀ (p h : Int), 0 ≤ p → ExE (fun k => (az.f b p h (n + 1)).bind fun x => ((bW.f k b x.2.1 x.2.2 x.1).bind fun y => (some (y.1, y.2.1, y.2.2.1, y.2.2.2)))) (fun q => 0 ≤ q.1 ∧ q.1 ≤ 8 ∧ q.2.1.length ≤ 256 ∧ 0 ≤ q.2.2.1) := by
  intro p h hp; obtain ⟨v, ev, v1, v2, _, v3⟩ := cI hb (h := h) hp (n + 1); refine ExE.cbind (P := fun a => a = v) ⟨v, ev, rfl⟩ ?_; intro v' e; subst e; have v2 := v2 (by omega); obtain ⟨m, hm⟩ := Int.eq_ofNat_of_zero_le v1; rw [hm]; refine ExE.bind (jA hb v3 (n := m) (by omega)) ?_; rintro q ⟨q1, q2, q3⟩; exact ExE.now ⟨by simp only []; omega, by simp only []; omega, q2, q3⟩
 refine ExE.ite (fun _ => ?_) (fun _ => ExE.ite (fun _ => ?_) (fun _ => hcol _ _ u3))
 ·obtain ⟨v, ev, v1, v2, _, v3⟩ := cI hb (h := u'.2.2) u3 (n + 1); refine ExE.cbind (P := fun a => a = v) ⟨v, ev, rfl⟩ ?_; intro v' e; subst e; obtain ⟨w, ew, w1, w2, _, w3⟩ := cI hb (h := v'.2.2) v3 (wrap64 (v'.1 + 1)); refine ExE.cbind (P := fun a => a = w) ⟨w, ew, rfl⟩ ?_; intro w' e; subst e; refine ExE.bind (kr w'.1 v'.1) ?_; rintro q ⟨q1, q2, q3, q4⟩; exact ExE.now ⟨q1, q2, q4, w3⟩
 ·refine ExE.bind (kG hb u3) ?_; rintro q ⟨q1, q2, q3, q4⟩; exact ExE.ite (fun _ => ExE.now ⟨q1, q2, q3, q4⟩) (fun _ => hcol _ _ q4)
def famG (n : Int) : Option Int → List Int → Bool
 | _, [] => decide (0 ≤ n) && decide (n ≤ 8)
 | p, x :: xs => dH n x && ((match p with | none => true | some q => decide (q < x)) && famG n (some x) xs)
def famB (n : Int) (l : List Int) : Bool := famG n none l
def gW (l : List Int) (i : Nat) : Option Int := if i = 0 then none else some (rd l ((i - 1 : Nat) : Int))
theorem im (l : List Int) (i : Nat) (hi : i < l.length) : gW l (i + 1) = some l[i] := by
 unfold gW; rw [if_neg (by omega), Nat.add_sub_cancel, bK l i hi]
theorem iI (n : Int) (l : List Int) (hl : l.length ≤ 17592186044416) : Ev (fun k => aG.f k n l) (famB n l) := by
 have h := down (P := fun i => Ev (fun k => aG.l0 k n l (i : Int)) (famG n (gW l i) (l.drop i))) l.length
  (by
   apply Ev.step
   ·intro k; simp only [aG.l0, l1In_eq, Option.bind_some]; rw [if_neg (by omega)]
   ·rw [dx]; exact Ev.now _)
  (by
   intro i hi ih
   apply Ev.step
   ·intro k; simp only [aG.l0, specIsSet_eq, Option.bind_some]; rw [if_pos (by omega), if_pos (by omega), bK l i hi, ck hi hl]
   ·rw [cH l i hi]; rw [im l i hi] at ih; simp only [famG]; by_cases hx : dH n l[i] = true
    ·refine Ev.ifp hx ?_; rw [hx, Bool.true_and]; by_cases h0 : (i : Int) > 0
     ·refine Ev.ifp h0 ?_; rw [b4 (by omega) (by omega), show (i : Int) - 1 = ((i - 1 : Nat) : Int) from by omega]; refine Ev.ifp (by omega) (Ev.ifp (by omega) ?_); unfold gW; rw [if_neg (by omega)]; by_cases hq : rd l ((i - 1 : Nat) : Int) ≥ l[i]
      ·refine Ev.ifp hq ?_; simp only []; rw [show decide (rd l ((i - 1 : Nat) : Int) < l[i]) = false from by simpa using hq, Bool.false_and]; exact Ev.now _
      ·refine Ev.ifn hq ?_; simp only []; rw [show decide (rd l ((i - 1 : Nat) : Int) < l[i]) = true from by simpa using hq, Bool.true_and]; exact ih
     ·refine Ev.ifn h0 ?_; unfold gW; rw [if_pos (by omega)]; simp only [Bool.true_and]; exact ih
    ·refine Ev.ifn hx ?_; rw [Bool.eq_false_iff.2 hx, Bool.false_and]; exact Ev.now _)
 exact h
theorem iw (n : Int) (l : List Int) (hl : l.length ≤ 17592186044416) : Ev (fun k => bU.f k n l) (famB n l) := by
 have h := down (P := fun i => Ev (fun k => bU.l0 k n l l (l.length : Int) (i : Int)) (famG n (gW l i) (l.drop i))) l.length
  (by
   apply Ev.step
   ·intro k; simp only [bU.l0, isSize_eq, Option.bind_some]; rw [if_neg (by omega)]
   ·rw [dx]; exact Ev.now _)
  (by
   intro i hi ih
   apply Ev.step
   ·intro k; simp only [bU.l0, implIsSet_eq, Option.bind_some]; rw [if_pos (by omega), if_pos (by omega), if_pos (by omega), bK l i hi, ck hi hl]
   ·rw [cH l i hi]; rw [im l i hi] at ih; simp only [famG]; by_cases hx : dH n l[i] = true
    ·refine Ev.ifp hx ?_; rw [hx, Bool.true_and]; by_cases h0 : (i : Int) > 0
     ·refine Ev.ifp h0 ?_; rw [b4 (by omega) (by omega), show (i : Int) - 1 = ((i - 1 : Nat) : Int) from by omega]; refine Ev.ifp (by omega) (Ev.ifp (by omega) ?_); unfold gW; rw [if_neg (by omega)]; by_cases hq : l[i] ≤ rd l ((i - 1 : Nat) : Int)
      ·refine Ev.ifp hq ?_; simp only []; rw [show decide (rd l ((i - 1 : Nat) : Int) < l[i]) = false from by simpa using hq, Bool.false_and]; exact Ev.now _
      ·refine Ev.ifn hq ?_; simp only []; rw [show decide (rd l ((i - 1 : Nat) : Int) < l[i]) = true from by simpa using hq, Bool.true_and]; exact ih
     ·refine Ev.ifn h0 ?_; unfold gW; rw [if_pos (by omega)]; simp only [Bool.true_and]; exact ih
    ·refine Ev.ifn hx ?_; rw [Bool.eq_false_iff.2 hx, Bool.false_and]; exact Ev.now _)
 exact h
theorem kH (n : Int) : ∀ (l : List Int) (p : Option Int), famG n p l = true → (0 ≤ n ∧ n ≤ 8) ∧ (∀ x ∈ l, dH n x = true) ∧ l.Pairwise (· < ·) ∧ (∀ q, p = some q → ∀ x ∈ l, q < x) := by
 intro l
 induction l with
 | nil =>
  intro p h; simp only [famG, Bool.and_eq_true, decide_eq_true_eq] at h; exact ⟨h, fun x hx => by simp at hx, List.Pairwise.nil, fun q _ x hx => by simp at hx⟩
 | cons y l ih =>
  intro p h; simp only [famG, Bool.and_eq_true] at h; obtain ⟨h1, h2, h3⟩ := h; obtain ⟨i1, i2, i3, i4⟩ := ih _ h3; refine ⟨i1, fun x hx => ?_, List.pairwise_cons.2 ⟨fun x hx => i4 y rfl x hx, i3⟩, fun q hq x hx => ?_⟩
  ·rcases List.mem_cons.1 hx with rfl | hx
   ·exact h1
   ·exact i2 x hx
  ·subst hq; simp only [decide_eq_true_eq] at h2; rcases List.mem_cons.1 hx with rfl | hx
   ·exact h2
   ·exact Int.lt_trans h2 (i4 y rfl x hx)
theorem it {n : Int} {l : List Int} (h : famB n l = true) : ∃ (m : Nat) (L : List Nat), n = m ∧ m ≤ 8 ∧ l = L.map (fun x : Nat => (x : Int)) ∧ (∀ x ∈ L, x < 2 ^ m) ∧ L.Pairwise (· < ·) := by
 obtain ⟨h1, h2, h3, _⟩ := kH n l none h; obtain ⟨m, rfl⟩ := Int.eq_ofNat_of_zero_le h1.1; have hnn : ∀ x ∈ l, 0 ≤ x := fun x hx => by
  obtain ⟨_, t, _, rfl, _⟩ := fB (h2 x hx); omega
 have hl : l = (l.map Int.toNat).map (fun x : Nat => (x : Int)) := by
  rw [List.map_map]
  conv => lhs; rw [← List.map_id l]
  apply List.map_congr_left
  intro x hx; have := hnn x hx; simp only [id, Function.comp]; omega
 refine ⟨m, l.map Int.toNat, rfl, by omega, hl, fun x hx => ?_, ?_⟩
 ·obtain ⟨y, hy, rfl⟩ := List.mem_map.1 hx; obtain ⟨m', t, hm, rfl, _, ht, _⟩ := fB (h2 y hy); have : m = m' := by omega
  subst this; rw [Int.toNat_natCast]; exact ht
 ·rw [List.pairwise_map]; exact h3.imp_of_mem (fun {a b} ha hb hab => by
   have := hnn a ha; have := hnn b hb; omega)
def elsB (s : Int) : List Int := ((List.range 8).filter (fun e : Nat => hasB s (e : Int))).map (fun e : Nat => (e : Int))
theorem eR {i n : Nat} (h : i < n) : List.range' i (n - i) = i :: List.range' (i + 1) (n - (i + 1)) := by
 rw [show n - i = (n - (i + 1)) + 1 from by omega, List.range'_succ]
theorem g7 {s : Int} {i : Nat} (l : List Nat) : ((i :: l).filter (fun e : Nat => hasB s (e : Int))).map (fun e : Nat => (e : Int)) = (if hasB s (i : Int) = true then [(i : Int)] else []) ++ (l.filter (fun e : Nat => hasB s (e : Int))).map (fun e : Nat => (e : Int)) := by
 rw [List.filter_cons]; by_cases h : hasB s (i : Int) = true
 ·rw [if_pos h, if_pos h]; rfl
 ·rw [if_neg h, if_neg h]; rfl
theorem eh (s : Int) : Ev (fun k => aT.f k s) (elsB s) := by
 have h := down (P := fun i => ∀ acc : List Int, acc.length ≤ i → Ev (fun k => aT.l0 k s acc (i : Int)) (acc ++ ((List.range' i (8 - i)).filter (fun e : Nat => hasB s (e : Int))).map (fun e : Nat => (e : Int)))) 8
  (by
   intro acc ha
   apply Ev.step
   ·intro k; simp only [aT.l0, implHas_eq, Option.bind_some]; rw [if_neg (by omega)]
   ·simpa using Ev.now _)
  (by
   intro i hi ih acc ha
   apply Ev.step
   ·intro k; simp only [aT.l0, implHas_eq, Option.bind_some]; rw [if_pos (by omega), ck hi (by omega)]
   ·rw [eR hi, g7]; by_cases hx : hasB s (i : Int) = true
    ·refine Ev.ifp hx (Ev.ifp (by omega) ?_); rw [if_pos hx, ← List.append_assoc]; exact ih (acc ++ [(i : Int)]) (by simp; omega)
    ·refine Ev.ifn hx ?_; rw [if_neg hx]; exact ih acc (by omega))
 have h0 := h [] (Nat.le_refl 0); rw [show ((0 : Nat) : Int) = 0 from rfl] at h0; have e : elsB s = [] ++ ((List.range' 0 (8 - 0)).filter (fun e : Nat => hasB s (e : Int))).map (fun e : Nat => (e : Int)) := by
  unfold elsB; rw [List.nil_append, List.range_eq_range']
 rw [e]; unfold aT.f; exact h0
theorem iM {s : Nat} (h : s < 256) : elsB (s : Int) = (els s).map (fun e : Nat => (e : Int)) := by
 have e : (List.range 8).filter (fun e : Nat => hasB (s : Int) (e : Int)) = (List.range 8).filter (fun e : Nat => s.testBit e) :=
  List.filter_congr (fun e he => by
   rw [List.mem_range] at he; rw [mf]; simp [h, he])
 unfold elsB els; rw [e]
theorem fI (x : Int) (l : List Int) (a : Int) : (x :: l).contains a = (decide (x = a) || l.contains a) := by
 rw [Bool.eq_iff_iff]; simp only [List.contains_iff_mem, List.mem_cons, Bool.or_eq_true, decide_eq_true_eq]
 constructor
 ·rintro (h | h)
  ·exact .inl h.symm
  ·exact .inr h
 ·rintro (h | h)
  ·exact .inl h.symm
  ·exact .inr h
theorem e8 (l : List Int) (a : Int) (hl : l.length ≤ 17592186044416) : Ev (fun k => bn.f k l a) (l.contains a) := by
 have h := down (P := fun i => Ev (fun k => bn.l0 k l a (i : Int)) ((l.drop i).contains a)) l.length
  (by
   apply Ev.step
   ·intro k; simp only [bn.l0]; rw [if_neg (by omega)]
   ·rw [dx]; exact Ev.now _)
  (by
   intro i hi ih
   apply Ev.step
   ·intro k; simp only [bn.l0]; rw [if_pos (by omega), if_pos (by omega), bK l i hi, ck hi hl]
   ·rw [cH l i hi, fI]; by_cases hx : l[i] = a
    ·refine Ev.ifp hx ?_; rw [show decide (l[i] = a) = true from by simpa using hx, Bool.true_or]; exact Ev.now _
    ·refine Ev.ifn hx ?_; rw [show decide (l[i] = a) = false from by simpa using hx, Bool.false_or]; exact ih)
 exact h
theorem mm (l : List Int) (a : Int) (hl : l.length ≤ 17592186044416) : ∃ r : Int, Ev (fun k => aD.f k l a) r ∧ (decide (r ≥ 0) = l.contains a) := by
 have h := down (P := fun i => ∃ r : Int, Ev (fun k => aD.l0 k l a (l.length : Int) (i : Int)) r ∧ (decide (r ≥ 0) = (l.drop i).contains a)) l.length
  (by
   refine ⟨-1, ?_, by rw [dx]; rfl⟩
   apply Ev.step
   ·intro k; simp only [aD.l0]; rw [if_neg (by omega)]
   ·exact Ev.now _)
  (by
   intro i hi ih; rw [cH l i hi, fI]; by_cases hx : l[i] = a
   ·refine ⟨(i : Int), ?_, ?_⟩
    ·apply Ev.step
     ·intro k; simp only [aD.l0]; rw [if_pos (by omega), if_pos (by omega), if_pos (by omega), bK l i hi, if_pos hx.symm]
     ·exact Ev.now _
    ·rw [show decide (l[i] = a) = true from by simpa using hx, Bool.true_or]; simp
   ·obtain ⟨r, hr, hd⟩ := ih; refine ⟨r, ?_, ?_⟩
    ·apply Ev.step
     ·intro k; simp only [aD.l0]; rw [if_pos (by omega), if_pos (by omega), if_pos (by omega), bK l i hi, if_neg (fun hc => hx hc.symm), ck hi hl]
     ·exact hr
    ·rw [show decide (l[i] = a) = false from by simpa using hx, Bool.false_or]; exact hd)
 exact h
theorem fv (l : List Int) (a : Int) (hl : l.length ≤ 17592186044416) : Ev (fun k => bj.f k l a) (l.contains a) := by
 obtain ⟨r, hr, hd⟩ := mm l a hl; unfold bj.f; refine Ev.bind hr ?_; rw [hd]; exact Ev.now _
end Go.Proofs.YtbdloopelidneaaGreat.Q
namespace Go.Proofs.YtbdloopelidneaaGreat.Q
open Go Go.RowKit Go.Proofs.YtbdloopelidneaaGreatW.PrintWords Go.Proofs.YtbdloopelidneaaGreatW.PrintLast Go.Proofs.YtbdloopelidneaaGreatW.PrintMore Go.Proofs.YtbdloopelidneaaGreat.Z
set_option linter.unusedVariables false
set_option linter.unusedSimpArgs false
def fL (l : List Int) (a b e : Nat) : Bool := (els (dif b a)).any (fun f => l.contains ((dif a (2 ^ e) ||| 2 ^ f : Nat) : Int))
def ej (l : List Int) (a b : Nat) : List Nat → Option Nat
 | [] => none
 | e :: es => if fL l a b e = true then ej l a b es else some e
def eJ (l : List Int) (a : Nat) : List Nat → Option (Nat × Nat)
 | [] => none
 | b :: bs => match ej l a b (els (dif a b)) with
  | none => eJ l a bs
  | some e => some (b, e)
def eX (l : List Int) (L : List Nat) : List Nat → Option (Nat × Nat × Nat)
 | [] => none
 | a :: la => match eJ l a L with
  | none => eX l L la
  | some (b, e) => some (a, b, e)
def told : Option (Nat × Nat × Nat) → Int × Int × Int × Bool
 | none => (0, 0, 0, false)
 | some (a, b, e) => ((a : Int), (b : Int), (e : Int), true)
def ib (n : Int) (l : List Int) : Int × Int × Int × Bool := if famB n l = true then told (eX l (l.map Int.toNat) (l.map Int.toNat)) else (0, 0, 0, false)
theorem k8 {a b n : Nat} (ha : a < 2 ^ n) (hn : n ≤ 8) : els (dif a b) = (List.range n).filter (fun e => a.testBit e && !b.testBit e) := by
 have h1 : (List.range 8).filter (fun e => (dif a b).testBit e) = (List.range 8).filter (fun e => decide (e < n) && (a.testBit e && !b.testBit e)) :=
  List.filter_congr (fun e _ => by
   rw [dif_bit]; by_cases h : e < n
   ·simp [h]
   ·have : a.testBit e = false := Nat.testBit_lt_two_pow (Nat.lt_of_lt_of_le ha (Nat.pow_le_pow_right (by decide) (by omega))); simp [this])
 unfold els; rw [h1]; have h2 : ∀ (p : Nat → Bool) (a b : Nat), (List.range a).filter (fun e => decide (e < b) && p e) = (List.range (min a b)).filter p := by
  intro p a b
  induction a with
  | zero => simp
  | succ a ih =>
   rw [List.range_succ, List.filter_append, ih]; by_cases h : a < b
   ·rw [show min (a + 1) b = min a b + 1 from by omega, List.range_succ, List.filter_append]; have e : min a b = a := by omega
    rw [e]
    congr 1
    simp [List.filter_cons, h]
   ·rw [show min (a + 1) b = min a b from by omega]; simp [List.filter_cons, h]
 rw [h2, Nat.min_eq_right hn]
end Go.Proofs.YtbdloopelidneaaGreat.Q
namespace Go.Proofs.YtbdloopelidneaaGreat.Q
open Go Go.RowKit Go.Proofs.YtbdloopelidneaaGreat.A Go.Proofs.YtbdloopelidneaaGreatW.PrintWords Go.Proofs.YtbdloopelidneaaGreatW.PrintLast Go.Proofs.YtbdloopelidneaaGreatW.PrintMore Go.Proofs.YtbdloopelidneaaGreat.Z
set_option linter.unusedVariables false
set_option linter.unusedSimpArgs false
theorem lp (n : Nat) (hn : n ≤ 8) (l : List Int) (hl : l.length ≤ 17592186044416) (a b e : Nat) (ha : a < 256) (hb : b < 2 ^ n) (he : e < 8) (hae : a.testBit e = true) :
  Ev (fun k => aU.f k (n : Int) l (a : Int) (b : Int) (e : Int)) (fL l a b e) := by
 have hb256 : b < 256 := Nat.lt_of_lt_of_le hb (cW hn); have h := down (P := fun f => Ev (fun k => aU.l0 k (a : Int) (b : Int) (e : Int) (f : Int) (n : Int) l) (((List.range' f (n - f)).filter (fun f => b.testBit f && !a.testBit f)).any (fun f => l.contains ((dif a (2 ^ e) ||| 2 ^ f : Nat) : Int)))) n
  (by
   apply Ev.step
   ·intro k; simp only [aU.l0]; rw [if_neg (by omega)]
   ·rw [Nat.sub_self]; exact Ev.now _)
  (by
   intro f hf ih; have hih : Ev (fun k => aU.l0 k (a : Int) (b : Int) (e : Int) (wrap64 ((f : Int) + 1)) (n : Int) l) (((List.range' (f + 1) (n - (f + 1))).filter (fun f => b.testBit f && !a.testBit f)).any (fun f => l.contains ((dif a (2 ^ e) ||| 2 ^ f : Nat) : Int))) := by
    rw [ck hf (by omega)]; exact ih
   apply Ev.step
   ·intro k; simp only [aU.l0, eH (cG hb256) (show f < 2 ^ 63 by omega), eH (cG ha) (show f < 2 ^ 63 by omega), Option.bind_some]; rw [if_pos (by omega)]
   ·rw [eR hf, List.filter_cons]; by_cases hbf : b.testBit f = true
    ·refine Ev.ifp hbf ?_; by_cases haf : a.testBit f = true
     ·refine Ev.ifp haf ?_; rw [if_neg (by rw [haf]; simp)]; exact hih
     ·refine Ev.ifn haf (Ev.ifp (dt _) (Ev.ifp (dt _) ?_)); have haf' := Bool.eq_false_iff.2 haf; rw [if_pos (by rw [hbf, haf']; rfl), List.any_cons]; obtain ⟨x1, x2, x3⟩ := kv ha he (show f < 8 by omega) hae haf'; have hp : 2 ^ f < 256 := Nat.pow_lt_pow_right (a := 2) (m := f) (n := 8) (by decide) (by omega); have ex : wrap64 (wrap64 ((a : Int) - shl .i64 1 (IntKind.u64.wrap (e : Int))) + shl .i64 1 (IntKind.u64.wrap (f : Int))) = ((dif a (2 ^ e) ||| 2 ^ f : Nat) : Int) := by
       rw [fQ (by omega) (by omega), fQ (by omega) (by omega), eo (by omega), eo (by omega), ← x1]; generalize 2 ^ e = p at *; generalize 2 ^ f = q at *; rw [b4 (n := (a : Int) - (p : Int)) (by omega) (by omega), b4 (by omega) (by omega)]; omega
      rw [ex]; refine Ev.bind (e8 l _ hl) ?_; by_cases hc : l.contains ((dif a (2 ^ e) ||| 2 ^ f : Nat) : Int) = true
      ·refine Ev.ifp hc ?_; rw [hc, Bool.true_or]; exact Ev.now _
      ·refine Ev.ifn hc ?_; rw [Bool.eq_false_iff.2 hc, Bool.false_or]; exact hih
    ·refine Ev.ifn hbf ?_; rw [if_neg (by rw [Bool.eq_false_iff.2 hbf]; simp)]; exact hih)
 rw [Nat.sub_zero, ← List.range_eq_range', ← k8 hb hn] at h; exact h
theorem j8 (n : Nat) (hn : n ≤ 8) (l : List Int) (hl : l.length ≤ 17592186044416) (i j : Nat) (hi : i < l.length) (hj : j < l.length) (a b : Nat) (hai : rd l (i : Int) = a) (hbj : rd l (j : Int) = b) (ha : a < 2 ^ n) (hb : b < 2 ^ n) (K : Int × Int × Int × Bool)
  (hK : Ev (fun k => af.l1 k (i : Int) (wrap64 ((j : Int) + 1)) (n : Int) l) K) :
  Ev (fun k => af.l2 k (i : Int) (j : Int) 0 (n : Int) l) (match ej l a b (els (dif a b)) with | none => K | some e => ((a : Int), (b : Int), (e : Int), true)) := by
 have ha256 : a < 256 := Nat.lt_of_lt_of_le ha (cW hn); have hb256 : b < 256 := Nat.lt_of_lt_of_le hb (cW hn); have h := down (P := fun e => Ev (fun k => af.l2 k (i : Int) (j : Int) (e : Int) (n : Int) l) (match ej l a b ((List.range' e (n - e)).filter (fun e => a.testBit e && !b.testBit e)) with | none => K | some e => ((a : Int), (b : Int), (e : Int), true))) n
  (by
   apply Ev.step
   ·intro k; simp only [af.l2]; rw [if_neg (by omega)]
   ·rw [Nat.sub_self]; exact hK)
  (by
   intro e he ih; have hih : Ev (fun k => af.l2 k (i : Int) (j : Int) (wrap64 ((e : Int) + 1)) (n : Int) l) (match ej l a b ((List.range' (e + 1) (n - (e + 1))).filter (fun e => a.testBit e && !b.testBit e)) with | none => K | some e => ((a : Int), (b : Int), (e : Int), true)) := by
    rw [ck he (by omega)]; exact ih
   apply Ev.step
   ·intro k; simp only [af.l2]; rw [if_pos (by omega), if_pos (by omega), if_pos (by omega), if_pos (by omega), if_pos (by omega), hai, hbj, eH (cG ha256) (show e < 2 ^ 63 by omega), eH (cG hb256) (show e < 2 ^ 63 by omega), Option.bind_some, Option.bind_some]
   ·rw [eR he, List.filter_cons]; by_cases hae : a.testBit e = true
    ·refine Ev.ifp hae ?_; by_cases hbe : b.testBit e = true
     ·refine Ev.ifp hbe ?_; rw [if_neg (by rw [hbe]; simp)]; exact hih
     ·refine Ev.ifn hbe (Ev.bind (lp n hn l hl a b e ha256 hb (by omega) hae) ?_); rw [if_pos (by rw [hae, Bool.eq_false_iff.2 hbe]; rfl)]; simp only [ej]; by_cases hx : fL l a b e = true
      ·refine Ev.ifp hx ?_; rw [if_pos hx]; exact hih
      ·refine Ev.ifn hx ?_; rw [if_neg hx]; exact Ev.now _
    ·refine Ev.ifn hae ?_; rw [if_neg (by rw [Bool.eq_false_iff.2 hae]; simp)]; exact hih)
 rw [Nat.sub_zero, ← List.range_eq_range', ← k8 ha hn] at h; exact h
theorem kc (n : Int) (l : List Int) (hl : l.length ≤ 17592186044416) : Ev (fun k => af.f k n l) (ib n l) := by
 unfold af.f ib; refine Ev.bind (iI n l hl) ?_; by_cases hf : famB n l = true
 ·refine Ev.ifp hf ?_; rw [if_pos hf]; obtain ⟨m, L, rfl, hm, rfl, hL, _⟩ := it hf; rw [cK]; have hlen : (L.map (fun x : Nat => (x : Int))).length = L.length := List.length_map _; rw [hlen] at hl; have hrd : ∀ i, (h : i < L.length) → rd (L.map (fun x : Nat => (x : Int))) (i : Int) = (L[i] : Int) := fun i h => by
   rw [bK _ i (by rw [hlen]; exact h), List.getElem_map]
  have hl' : (L.map (fun x : Nat => (x : Int))).length ≤ 17592186044416 := by rw [hlen]; exact hl
  generalize L.map (fun x : Nat => (x : Int)) = l at hlen hrd hl'; have h := down (P := fun i => Ev (fun k => af.l0 k (i : Int) (m : Int) l) (told (eX l L (L.drop i)))) L.length
   (by
    apply Ev.step
    ·intro k; simp only [af.l0]; rw [if_neg (by omega)]
    ·rw [dx]; exact Ev.now _)
   (by
    intro i hi ih; have hia := hL _ (List.getElem_mem hi); have hih : Ev (fun k => af.l0 k (wrap64 ((i : Int) + 1)) (m : Int) l) (told (eX l L (L.drop (i + 1)))) := by
     rw [ck hi hl]; exact ih
    apply Ev.step
    ·intro k; simp only [af.l0]; rw [if_pos (by omega)]
    ·have h1 := down (P := fun j => Ev (fun k => af.l1 k (i : Int) (j : Int) (m : Int) l) (match eJ l L[i] (L.drop j) with | none => told (eX l L (L.drop (i + 1))) | some (b, e) => ((L[i] : Int), (b : Int), (e : Int), true))) L.length
      (by
       apply Ev.step
       ·intro k; simp only [af.l1]; rw [if_neg (by omega)]
       ·rw [dx]; exact hih)
      (by
       intro j hj ihj; have hjb := hL _ (List.getElem_mem hj)
       apply Ev.step
       ·intro k; simp only [af.l1]; rw [if_pos (by omega)]
       ·have h2 := j8 m hm l hl' i j (by omega) (by omega) L[i] L[j] (hrd i hi) (hrd j hj) hia hjb _ (by rw [ck hj hl]; exact ihj); rw [cH L j hj]; simp only [eJ]; generalize ej l L[i] L[j] (els (dif L[i] L[j])) = q at h2; cases q with
        | none => exact h2
        | some e => exact h2)
     rw [cH L i hi]; simp only [eX]; rw [List.drop_zero] at h1; generalize eJ l L[i] L = q at h1; cases q with
     | none => exact h1
     | some x => exact h1)
  exact h
 ·refine Ev.ifn hf ?_; rw [if_neg hf]; exact Ev.now _
def matB (n : Int) (l : List Int) : Bool := famB n l && (decide ((l.length : Int) > 0) && !(ib n l).2.2.2)
theorem dW (n : Int) (l : List Int) (hl : l.length ≤ 17592186044416) : Ev (fun k => aN.f k n l) (matB n l) := by
 unfold aN.f matB; refine Ev.bind (kc n l hl) (Ev.bind (iI n l hl) ?_); by_cases hf : famB n l = true
 ·refine Ev.ifp hf ?_; rw [hf, Bool.true_and]; by_cases h0 : (l.length : Int) > 0
  ·refine Ev.ifp h0 ?_; rw [show decide ((l.length : Int) > 0) = true from by simpa using h0, Bool.true_and]; exact Ev.now _
  ·refine Ev.ifn h0 ?_; rw [show decide ((l.length : Int) > 0) = false from by simpa using h0, Bool.false_and]; exact Ev.now _
 ·refine Ev.ifn hf ?_; rw [Bool.eq_false_iff.2 hf, Bool.false_and]; exact Ev.now _
end Go.Proofs.YtbdloopelidneaaGreat.Q
namespace Go.Proofs.YtbdloopelidneaaGreat.Q
open Go Go.RowKit Go.Proofs.YtbdloopelidneaaGreatW.PrintWords Go.Proofs.YtbdloopelidneaaGreatW.PrintLast Go.Proofs.YtbdloopelidneaaGreatW.PrintMore Go.Proofs.YtbdloopelidneaaGreat.Z
set_option linter.unusedVariables false
set_option linter.unusedSimpArgs false
theorem eb {n : Int} {l : List Int} (h : matB n l = true) : ∃ (m : Nat) (L : List Nat), n = m ∧ m ≤ 8 ∧ l = ints L ∧ (∀ x ∈ L, x < 2 ^ m) ∧ (∀ x ∈ L, x < 256) ∧ L.Pairwise (· < ·) ∧ L ≠ [] := by
 simp only [matB, Bool.and_eq_true, decide_eq_true_eq] at h; obtain ⟨m, L, rfl, hm, rfl, hL, hp⟩ := it h.1; refine ⟨m, L, rfl, hm, rfl, hL, fun x hx => Nat.lt_of_lt_of_le (hL x hx) (cW hm), hp, ?_⟩; rintro rfl; simp at h
theorem aA (L : List Nat) : (ints L).length = L.length := List.length_map _
theorem fF (L : List Nat) (i : Nat) (h : i < L.length) : rd (ints L) (i : Int) = (L[i] : Int) := by
 rw [bK _ i (by rw [aA]; exact h)]; simp [ints]
end Go.Proofs.YtbdloopelidneaaGreat.Q
namespace Go.Proofs.YtbdloopelidneaaGreat.Q
open Go Go.RowKit Go.Proofs.YtbdloopelidneaaGreat.A Go.Proofs.YtbdloopelidneaaGreatW.PrintWords Go.Proofs.YtbdloopelidneaaGreatW.PrintLast Go.Proofs.YtbdloopelidneaaGreatW.PrintMore Go.Proofs.YtbdloopelidneaaGreat.Z
set_option linter.unusedVariables false
set_option linter.unusedSimpArgs false
def insO (x : Int) : List Int → List Int
 | [] => [x]
 | y :: ys => if y < x then y :: insO x ys else (if y = x then y :: ys else x :: y :: ys)
def dB (acc X : List Int) : List Int := X.foldl (fun a x => insO x a) acc
theorem ka (x : Int) (l : List Int) : (insO x l).length ≤ l.length + 1 := by
 induction l with
 | nil => exact Nat.le_refl _
 | cons y l ih =>
  simp only [insO]; by_cases h : y < x
  ·rw [if_pos h, List.length_cons, List.length_cons]; omega
  ·rw [if_neg h]; by_cases h2 : y = x
   ·rw [if_pos h2]; omega
   ·rw [if_neg h2]; simp only [List.length_cons]; omega
theorem insO_mem (x a : Int) (l : List Int) : a ∈ insO x l ↔ a = x ∨ a ∈ l := by
 induction l with
 | nil => simp [insO]
 | cons y l ih =>
  simp only [insO]; by_cases h : y < x
  ·rw [if_pos h, List.mem_cons, ih, List.mem_cons]
   constructor
   ·rintro (h' | h' | h')
    ·exact .inr (.inl h')
    ·exact .inl h'
    ·exact .inr (.inr h')
   ·rintro (h' | h' | h')
    ·exact .inr (.inl h')
    ·exact .inl h'
    ·exact .inr (.inr h')
  ·rw [if_neg h]; by_cases h2 : y = x
   ·rw [if_pos h2]; subst h2
    constructor
    ·exact .inr
    ·rintro (rfl | h')
     ·exact List.mem_cons_self ..
     ·exact h'
   ·rw [if_neg h2, List.mem_cons]
theorem lr (x : Int) (l : List Int) (hl : l.Pairwise (· < ·)) : (insO x l).Pairwise (· < ·) := by
 induction l with
 | nil => simp [insO]
 | cons y l ih =>
  rw [List.pairwise_cons] at hl; simp only [insO]; by_cases h : y < x
  ·rw [if_pos h, List.pairwise_cons]; refine ⟨fun a ha => ?_, ih hl.2⟩; rcases (insO_mem x a l).1 ha with rfl | ha
   ·exact h
   ·exact hl.1 a ha
  ·rw [if_neg h]; by_cases h2 : y = x
   ·rw [if_pos h2, List.pairwise_cons]; exact hl
   ·rw [if_neg h2, List.pairwise_cons, List.pairwise_cons]; refine ⟨fun a ha => ?_, hl⟩; rcases List.mem_cons.1 ha with rfl | ha
    ·omega
    ·have := hl.1 a ha; omega
theorem sortO_mem (X : List Int) (a : Int) : ∀ acc : List Int, a ∈ dB acc X ↔ a ∈ X ∨ a ∈ acc := by
 induction X with
 | nil => intro acc; simp [dB]
 | cons x X ih =>
  intro acc; have := ih (insO x acc); unfold dB at this ⊢; rw [List.foldl_cons, this, insO_mem, List.mem_cons]
  constructor
  ·rintro (h | h | h)
   ·exact .inl (.inr h)
   ·exact .inl (.inl h)
   ·exact .inr h
  ·rintro ((h | h) | h)
   ·exact .inr (.inl h)
   ·exact .inl h
   ·exact .inr (.inr h)
theorem dY (X : List Int) : ∀ acc : List Int, acc.Pairwise (· < ·) → (dB acc X).Pairwise (· < ·) := by
 induction X with
 | nil => intro acc h; exact h
 | cons x X ih => intro acc h; exact ih _ (lr x acc h)
theorem fw : ∀ {X Y : List Int}, X.Pairwise (· < ·) → Y.Pairwise (· < ·) → (∀ a, a ∈ X ↔ a ∈ Y) → X = Y := by
 intro X
 induction X with
 | nil =>
  intro Y _ _ h; cases Y with
  | nil => rfl
  | cons y Y => exact absurd ((h y).2 (List.mem_cons_self ..)) (by simp)
 | cons x X ih =>
  intro Y hX hY h; cases Y with
  | nil => exact absurd ((h x).1 (List.mem_cons_self ..)) (by simp)
  | cons y Y =>
   rw [List.pairwise_cons] at hX hY; have hxy : x = y := by
    rcases List.mem_cons.1 ((h x).1 (List.mem_cons_self ..)) with e | hx
    ·exact e
    ·rcases List.mem_cons.1 ((h y).2 (List.mem_cons_self ..)) with e | hy
     ·exact e.symm
     ·have h1 := hX.1 y hy; have h2 := hY.1 x hx; omega
   subst hxy; rw [ih hX.2 hY.2 (fun a => ?_)]
   constructor
   ·intro ha; rcases List.mem_cons.1 ((h a).1 (List.mem_cons_of_mem _ ha)) with e | h'
    ·have := hX.1 a ha; omega
    ·exact h'
   ·intro ha; rcases List.mem_cons.1 ((h a).2 (List.mem_cons_of_mem _ ha)) with e | h'
    ·have := hY.1 a ha; omega
    ·exact h'
theorem gZ (X : List Int) (hx : X.length ≤ 8796093022208) : Ev (fun k => ak.f k X) (dB [] X) := by
 have hd := down (P := fun i => ∀ acc : List Int, acc.length ≤ i → Ev (fun k => ak.l0 k X acc (i : Int)) (dB acc (X.drop i))) X.length
  (by
   intro acc _
   apply Ev.step
   ·intro k; rw [ak.l0, if_neg (by omega)]
   ·rw [dx]; exact Ev.now _)
  (by
   intro i hi ih acc ha; have ihs := fun y (hy : y = insO X[i] acc) => ih y (by subst hy; have := ka X[i] acc; omega)
   rw [cH X i hi]; have h1 := down (P := fun j => Ev (fun k => ak.l1 k X acc (i : Int) (j : Int)) (dB (acc.take j ++ insO X[i] (acc.drop j)) (X.drop (i + 1)))) acc.length
    (by
     rw [List.take_length, dx]; have hr := ih (acc ++ [X[i]]) (by rw [List.length_append, List.length_singleton]; omega)
     apply Ev.step
     ·intro k; rw [ak.l1, if_neg (by omega), ck hi (by omega)]
     ·simp only [Option.bind_some, Int.toNat_natCast, List.drop_length, List.take_length, List.nil_append, List.append_nil, List.length_nil, List.length_append, List.length_singleton]; refine Ev.ifp (by omega) (Ev.ifp (by omega) (Ev.ifp (by omega) (Ev.ifp (by omega) (Ev.ifp (by omega) (Ev.ifp (by omega) (Ev.ifp (by omega) ?_)))))); rw [bK X i hi]; exact hr)
    (by
     intro j hj ihj
     apply Ev.step
     ·intro k; rw [ak.l1, if_pos (by omega), if_pos (by omega), if_pos (by omega), if_pos (by omega), bK acc j hj, bK X i hi, ck hi (by omega), ck hj (by omega)]
     ·rw [cH acc j hj]; simp only [insO]; by_cases hlt : acc[j] < X[i]
      ·rw [if_pos hlt]; refine Ev.ifp hlt ?_; rw [fA acc j hj, List.append_assoc, List.singleton_append] at ihj; exact ihj
      ·rw [if_neg hlt]; refine Ev.ifn hlt ?_; by_cases heq : acc[j] = X[i]
       ·rw [if_pos heq]; refine Ev.ifp heq ?_; rw [← cH acc j hj, List.take_append_drop]; exact ih acc (by omega)
       ·rw [if_neg heq]; refine Ev.ifn heq ?_; have hr := ih (acc.take j ++ X[i] :: acc[j] :: acc.drop (j + 1)) (by
         rw [List.length_append, List.length_cons, List.length_cons, List.length_take, List.length_drop]; omega)
        simp only [Option.bind_some, Int.toNat_natCast, List.nil_append, List.length_nil]; refine Ev.ifp (by omega) (Ev.ifp (by rw [List.length_drop]; omega) (Ev.ifp (by rw [List.length_take]; omega) (Ev.ifp (by rw [List.length_append, List.length_singleton, List.length_take, List.length_drop]; omega) ?_))); rw [cH acc j hj, List.append_assoc, List.singleton_append]; exact hr)
   apply Ev.step
   ·intro k; rw [ak.l0, if_pos (by omega)]
   ·have h0 := h1; rw [List.take_zero, List.drop_zero, List.nil_append] at h0
    show Ev _ (dB acc (X[i] :: X.drop (i + 1)))
    exact h0)
 exact hd [] (Nat.zero_le _)
end Go.Proofs.YtbdloopelidneaaGreat.Q
namespace Go.Proofs.YtbdloopelidneaaGreat.Q
open Go Go.RowKit Go.Proofs.YtbdloopelidneaaGreatW.PrintWords Go.Proofs.YtbdloopelidneaaGreatW.PrintLast Go.Proofs.YtbdloopelidneaaGreatW.PrintMore Go.Proofs.YtbdloopelidneaaGreat.Z
set_option linter.unusedVariables false
set_option linter.unusedSimpArgs false
theorem filter_range_swap (p : Nat → Bool) (a b : Nat) : (List.range a).filter (fun e => decide (e < b) && p e) = (List.range (min a b)).filter p := by
 induction a with
 | zero => simp
 | succ a ih =>
  rw [List.range_succ, List.filter_append, ih]; by_cases h : a < b
  ·rw [show min (a + 1) b = min a b + 1 from by omega, List.range_succ, List.filter_append]; have e : min a b = a := by omega
   rw [e]
   congr 1
   simp [List.filter_cons, h]
  ·rw [show min (a + 1) b = min a b from by omega]; simp [List.filter_cons, h]
theorem kU {a x : Nat} (ha : a < 256) (hx : x < 8) : a ||| 2 ^ x < 256 := by
 have h1 : a < 2 ^ 8 := ha; have h2 : 2 ^ x < 2 ^ 8 := Nat.pow_lt_pow_right (by decide) hx; exact Nat.or_lt_two_pow h1 h2
theorem fl {x : Nat} (hx : x < 8) : 2 ^ x < 256 := Nat.pow_lt_pow_right (a := 2) (m := x) (n := 8) (by decide) hx
end Go.Proofs.YtbdloopelidneaaGreat.Q
namespace Go.Proofs.YtbdloopelidneaaGreat.Q
open Go Go.RowKit Go.Proofs.YtbdloopelidneaaGreat.A Go.Proofs.YtbdloopelidneaaGreatW.PrintWords Go.Proofs.YtbdloopelidneaaGreatW.PrintLast Go.Proofs.YtbdloopelidneaaGreatW.PrintMore Go.Proofs.YtbdloopelidneaaGreat.Z
set_option linter.unusedVariables false
set_option linter.unusedSimpArgs false
def ef (l : List Int) (acc : Nat) (es : List Nat) : Nat := es.foldl (fun (a : Nat) (e : Nat) => a ||| 2 ^ (rd l (e : Int)).toNat) acc
def bM (l : List Int) (s : Nat) : Nat := ef l 0 ((List.range l.length).filter (fun e => s.testBit e))
theorem jY {l : List Int} (hm : ∀ x ∈ l, 0 ≤ x ∧ x < 8) {i : Nat} (hi : i < l.length) : ∃ x : Nat, rd l (i : Int) = x ∧ x < 8 := by
 have h := hm _ (List.getElem_mem hi); obtain ⟨x, hx⟩ := Int.eq_ofNat_of_zero_le h.1; exact ⟨x, by rw [bK l i hi, hx], by omega⟩
theorem gF (l : List Int) (s : Nat) (hl : l.length ≤ 17592186044416) (hm : ∀ x ∈ l, 0 ≤ x ∧ x < 8) (hs : s < 256) : Ev (fun k => cz.f k l (s : Int)) ((bM l s : Nat) : Int) := by
 have h := down (P := fun i => ∀ acc : Nat, acc < 256 → Ev (fun k => cz.l0 k l (s : Int) (acc : Int) (i : Int)) ((ef l acc ((List.range' i (l.length - i)).filter (fun e => s.testBit e)) : Nat) : Int)) l.length
  (by
   intro acc ha
   apply Ev.step
   ·intro k; simp only [cz.l0]; rw [if_neg (by omega)]
   ·rw [Nat.sub_self]; exact Ev.now _)
  (by
   intro i hi ih acc ha; obtain ⟨x, hx, hx8⟩ := jY hm hi
   apply Ev.step
   ·intro k; simp only [cz.l0, eH (cG hs) (show i < 2 ^ 63 by omega), Option.bind_some]; rw [if_pos (by omega), ck hi hl]
   ·rw [eR hi, List.filter_cons]; by_cases hb : s.testBit i = true
    ·refine Ev.ifp hb (Ev.ifp (by omega) (Ev.ifp (dt _) ?_)); rw [if_pos hb, hx, fQ (by omega) (by omega), eo (by omega), iq (cG ha) (cG (fl hx8))]; have := ih _ (kU ha hx8); have e : ef l acc (i :: (List.range' (i + 1) (l.length - (i + 1))).filter (fun e => s.testBit e)) = ef l (acc ||| 2 ^ x) ((List.range' (i + 1) (l.length - (i + 1))).filter (fun e => s.testBit e)) := by
      simp only [ef, List.foldl_cons, hx, Int.toNat_natCast]
     rw [e]; exact this
    ·refine Ev.ifn hb ?_; rw [if_neg hb]; exact ih acc ha)
 have h0 := h 0 (by omega); rw [Nat.sub_zero, ← List.range_eq_range'] at h0; exact h0
theorem fK (l : List Int) (s : Nat) (h8 : l.length ≤ 8) (hm : ∀ x ∈ l, 0 ≤ x ∧ x < 8) (hs : s < 2 ^ l.length) : Ev (fun k => ba.f k l (s : Int)) ((bM l s : Nat) : Int) := by
 have hs256 : s < 256 := Nat.lt_of_lt_of_le hs (cW h8); unfold ba.f; refine Ev.bind (eh _) ?_; have he : elsB (s : Int) = ((List.range l.length).filter (fun e => s.testBit e)).map (fun e : Nat => (e : Int)) := by
  rw [iM hs256, els]; have h1 : (List.range 8).filter (fun e => s.testBit e) = (List.range 8).filter (fun e => decide (e < l.length) && s.testBit e) :=
   List.filter_congr (fun e _ => by
    by_cases hq : e < l.length
    ·simp [hq]
    ·have : s.testBit e = false := Nat.testBit_lt_two_pow (Nat.lt_of_lt_of_le hs (Nat.pow_le_pow_right (by decide) (by omega))); simp [this])
  rw [h1, filter_range_swap, Nat.min_eq_right h8]
 rw [he]; unfold bM; have hes : ∀ e ∈ (List.range l.length).filter (fun e => s.testBit e), e < l.length := by
  intro e hmem; simp at hmem
  exact hmem.1
 have hlen : ((List.range l.length).filter (fun e => s.testBit e)).length ≤ 8 := Nat.le_trans (List.length_filter_le _ _) (by simpa using h8); generalize (List.range l.length).filter (fun e => s.testBit e) = es at hes hlen; have h := down (P := fun i => ∀ acc : Nat, acc < 256 → Ev (fun k => ba.l0 k l (acc : Int) (es.map (fun e : Nat => (e : Int))) ((es.map (fun e : Nat => (e : Int))).length : Int) (i : Int)) ((ef l acc (es.drop i) : Nat) : Int)) es.length
  (by
   intro acc ha
   apply Ev.step
   ·intro k; simp only [ba.l0]; rw [if_neg (by rw [List.length_map]; omega)]
   ·rw [dx]; exact Ev.now _)
  (by
   intro i hi ih acc ha; have hi' : i < (es.map (fun e : Nat => (e : Int))).length := by rw [List.length_map]; exact hi
   have hr : rd (es.map (fun e : Nat => (e : Int))) (i : Int) = (es[i] : Int) := by rw [bK _ _ hi', List.getElem_map]
   have hei := hes _ (List.getElem_mem hi); obtain ⟨x, hx, hx8⟩ := jY hm hei
   apply Ev.step
   ·intro k; simp only [ba.l0]; rw [if_pos (by omega), if_pos (by omega), if_pos (by omega), hr, if_pos (by omega), if_pos (by omega), hx, if_pos (by omega), ck hi (by omega), eo (by omega), iq (cG ha) (cG (fl hx8))]
   ·have e : ef l acc (es.drop i) = ef l (acc ||| 2 ^ x) (es.drop (i + 1)) := by
     rw [cH es i hi]; simp only [ef, List.foldl_cons, hx, Int.toNat_natCast]
    rw [e]; exact ih _ (kU ha hx8))
 exact h 0 (by omega)
end Go.Proofs.YtbdloopelidneaaGreat.Q
namespace Go.Proofs.YtbdloopelidneaaGreat.Q
open Go Go.RowKit Go.Proofs.YtbdloopelidneaaGreatW.PrintWords Go.Proofs.YtbdloopelidneaaGreatW.PrintLast Go.Proofs.YtbdloopelidneaaGreatW.PrintMore Go.Proofs.YtbdloopelidneaaGreat.Z
set_option linter.unusedVariables false
set_option linter.unusedSimpArgs false
theorem lT {L : List Nat} (h : L.Pairwise (· < ·)) : (ints L).Pairwise (· < ·) := by
 unfold ints; rw [List.pairwise_map]; exact h.imp (fun hab => by omega)
end Go.Proofs.YtbdloopelidneaaGreat.Q
namespace Go.Proofs.YtbdloopelidneaaGreat.Q
open Go Go.RowKit Go.Proofs.YtbdloopelidneaaGreat.A Go.Proofs.YtbdloopelidneaaGreatW.PrintWords Go.Proofs.YtbdloopelidneaaGreatW.PrintLast Go.Proofs.YtbdloopelidneaaGreatW.PrintMore Go.Proofs.YtbdloopelidneaaGreat.Z
set_option linter.unusedVariables false
set_option linter.unusedSimpArgs false
theorem jS {X : List Int} {D : List Nat} (hD : D.Pairwise (· < ·)) (h : ∀ a, a ∈ X ↔ a ∈ ints D) : dB [] X = ints D :=
 fw (dY X [] List.Pairwise.nil) (lT hD) (fun a => by rw [sortO_mem, h]; simp)
theorem kg (X : List Int) : jf X = dB [] X :=
 fw (iy X).1 (dY X [] List.Pairwise.nil) (fun a => by rw [(iy X).2 a, sortO_mem]; simp)
theorem fd (X : List Int) : ∀ acc : List Int, (dB acc X).length ≤ acc.length + X.length := by
 induction X with
 | nil => intro acc; exact Nat.le_refl _
 | cons x X ih =>
  intro acc; have h1 := ih (insO x acc); have h2 := ka x acc; rw [List.length_cons]
  show (dB (insO x acc) X).length ≤ _
  omega
theorem eE (w : List Int) (L : List Nat) (hw : w.length ≤ 17592186044416) (hl : L.length ≤ 8796093022208) (hm : ∀ x ∈ w, 0 ≤ x ∧ x < 8) (hL : ∀ b ∈ L, b < 256) : Ev (fun k => bV.f k w (ints L)) (dB [] (ints (L.map (bM w)))) := by
 have hd := down (P := fun i => Ev (fun k => bV.l0 k w (ints L) (ints ((L.take i).map (bM w))) (i : Int)) (dB [] (ints (L.map (bM w))))) L.length
  (by
   apply Ev.step
   ·intro k; rw [bV.l0, if_neg (by rw [aA]; omega)]
   ·rw [List.take_length]; exact Ev.bind (gZ _ (by rw [aA, List.length_map]; exact hl)) (Ev.now _))
  (by
   intro i hi ih; have hb := hL _ (List.getElem_mem hi)
   apply Ev.step
   ·intro k; rw [bV.l0, if_pos (by rw [aA]; omega), if_pos (by omega), fF L i hi, ck hi (by omega)]
   ·refine Ev.bind (gF w _ hw hm hb) (Ev.ifp ?_ ?_)
    ·rw [aA, List.length_map, List.length_take]; omega
    ·rw [fA L i hi, List.map_append] at ih; rw [show ints ((L.take i).map (bM w)) ++ [((bM w L[i] : Nat) : Int)] = ints ((L.take i).map (bM w) ++ [L[i]].map (bM w)) from by simp [ints]]; exact ih)
 exact hd
theorem eL (n : Int) (w : List Int) (L : List Nat) (hl : L.length ≤ 8796093022208) (h8 : w.length ≤ 8) (hm : ∀ x ∈ w, 0 ≤ x ∧ x < 8) (hL : ∀ b ∈ L, b < 2 ^ w.length) : Ev (fun k => aZ.f k n (ints L) w) (n, dB [] (ints (L.map (bM w)))) := by
 have hd := down (P := fun i => Ev (fun k => aZ.l0 k w (ints L) ((ints L).length : Int) (i : Int) n (ints ((L.take i).map (bM w)))) (n, dB [] (ints (L.map (bM w))))) L.length
  (by
   apply Ev.step
   ·intro k; rw [aZ.l0, if_neg (by rw [aA]; omega)]
   ·rw [List.take_length]; refine Ev.cbind (a := dB [] (ints (L.map (bM w)))) ?_ (Ev.now _); unfold dD.f; rw [if_pos (by rw [aA, List.length_map]; omega), kg])
  (by
   intro i hi ih; have hb := hL _ (List.getElem_mem hi)
   apply Ev.step
   ·intro k; rw [aZ.l0, if_pos (by rw [aA]; omega), if_pos (by omega), if_pos (by rw [aA]; omega), fF L i hi, ck hi (by omega)]
   ·refine Ev.bind (fK w _ h8 hm hb) (Ev.ifp ?_ ?_)
    ·rw [aA, List.length_map, List.length_take]; omega
    ·rw [fA L i hi, List.map_append] at ih; rw [show ints ((L.take i).map (bM w)) ++ [((bM w L[i] : Nat) : Int)] = ints ((L.take i).map (bM w) ++ [L[i]].map (bM w)) from by simp [ints]]; exact ih)
 exact hd
theorem lK {b : List Int} (hb : b.length ≤ 17592186044416) {p h : Int} (hp : 0 ≤ p) : ∃ r, dK.f b p h = some r ∧ 0 ≤ r.2.1 := by
 unfold dK.f; obtain ⟨u, eu, u1⟩ := gS hb (h := h) hp 8; rw [eu, Option.bind_some]; by_cases hc : u.1 = true
 ·rw [if_pos hc]; obtain ⟨v, ev, _, v2⟩ := dR hb (h := u.2.2) u1 (l := [(-1), 256, 1000, (-9223372036854775808)]) (by simp); rw [ev, Option.bind_some]; exact ⟨_, rfl, v2⟩
 ·rw [if_neg hc]; unfold dO.f; obtain ⟨v, ev, _, _, _, v3⟩ := cI hb (h := u.2.2) u1 256; rw [ev, Option.bind_some, Option.bind_some]; exact ⟨_, rfl, v3⟩
theorem lx {b : List Int} (hb : b.length ≤ 17592186044416) {p h : Int} (hp : 0 ≤ p) (n : Int) : ExE (fun k => cM.f k b p h n) (fun r => r.1.length ≤ 6 ∧ 0 ≤ r.2.1) := by
 unfold cM.f; obtain ⟨c, e, c1, c2, _, c3⟩ := cI hb (h := h) hp 6; refine ExE.cbind (P := fun a => a = c) ⟨c, e, rfl⟩ ?_; rintro a rfl; obtain ⟨m, hm⟩ := Int.eq_ofNat_of_zero_le c1; have hm5 : m < 6 := by have := c2 (by omega); omega
 rw [hm]; have hd := down (P := fun i => ∀ (l : List Int) (p h : Int), 0 ≤ p → l.length ≤ i → ExE (fun k => cM.l0 k n l (m : Int) (i : Int) b p h) (fun r => r.1.length ≤ 6 ∧ 0 ≤ r.2.1)) m
  (by
   intro l p h hp hl
   apply ExE.step
   ·intro k; rw [cM.l0, if_neg (by omega)]
   ·exact ExE.now ⟨by simp only []; omega, hp⟩)
  (by
   intro i hi ih l p h hp hl
   apply ExE.step
   ·intro k; rw [cM.l0, if_pos (by omega), if_pos (dt _), ck hi (by omega)]
   ·obtain ⟨x, ex, _, _, _, x3⟩ := cI hb (h := h) hp (shl .i64 1 (IntKind.u64.wrap n)); refine ExE.cbind (P := fun a => a = x) ⟨x, ex, rfl⟩ ?_; rintro a rfl; exact ExE.ifp (by omega) (ih _ _ _ x3 (by rw [List.length_append, List.length_singleton]; omega)))
 exact hd [] _ _ c3 (Nat.le_refl _)
theorem gH {b : List Int} (hb : b.length ≤ 17592186044416) {p h : Int} (hp : 0 ≤ p) {n : Int} (h0 : 0 ≤ n) (h8 : n ≤ 8) : ExE (fun k => br.f k b p h n) (fun q => -1 ≤ q.1 ∧ q.1 ≤ 9 ∧ q.2.1.length ≤ 300 ∧ 0 ≤ q.2.2.1) := by
 unfold br.f; refine ExE.bind (jh hb hp h0 h8) ?_; rintro m ⟨m1, m2, m3, m4⟩; obtain ⟨u, eu, u1, u2, _, u3⟩ := cI hb (h := m.2.2.2) m4 10; refine ExE.cbind (P := fun a => a = u) ⟨u, eu, rfl⟩ ?_; intro u' e; subst e; refine ExE.ite (fun _ => ?_) (fun _ => ExE.ite (fun _ => ?_) (fun _ => ExE.ite (fun _ => ?_) (fun _ => ExE.ite (fun _ => ?_) (fun _ => ExE.now ⟨by simp only []; omega, by simp only []; omega, by simp only []; omega, u3⟩))))
 ·obtain ⟨v, ev, v1, v2⟩ := dR hb (h := u'.2.2) u3 (l := [(-1), 0, 2, 9]) (by simp); refine ExE.cbind (P := fun a => a = v) ⟨v, ev, rfl⟩ ?_; intro v' e; subst e; have hv : -1 ≤ v'.1 ∧ v'.1 ≤ 9 := by
   simp only [List.mem_cons, List.not_mem_nil, or_false] at v1; omega
  exact ExE.now ⟨hv.1, hv.2, by simp only []; omega, v2⟩
 ·obtain ⟨v, ev, v1⟩ := lK hb (h := u'.2.2) u3; refine ExE.cbind (P := fun a => a = v) ⟨v, ev, rfl⟩ ?_; intro v' e; subst e; exact ExE.ifp (by omega) (ExE.now ⟨by simp only []; omega, by simp only []; omega, by simp only [List.length_append, List.length_singleton]; omega, v1⟩)
 ·refine ExE.ite (fun hlen => ?_) (fun _ => ExE.now ⟨by simp only []; omega, by simp only []; omega, by simp only []; omega, u3⟩); obtain ⟨v, ev, v1, v2, _, v3⟩ := cI hb (h := u'.2.2) u3 (m.2.1.length : Int); refine ExE.cbind (P := fun a => a = v) ⟨v, ev, rfl⟩ ?_; intro v' e; subst e; have v2 := v2 (by omega); have hw : wrap64 (v'.1 + 1) = v'.1 + 1 := b4 (by omega) (by omega); rw [hw]; have ht1 : (m.2.1.take v'.1.toNat).length ≤ m.2.1.length := by rw [List.length_take]; omega
  have ht2 : (m.2.1.drop (v'.1 + 1).toNat).length ≤ m.2.1.length := by rw [List.length_drop]; omega
  have ht3 : (m.2.1.take v'.1.toNat).length + (m.2.1.drop (v'.1 + 1).toNat).length ≤ 300 := by rw [List.length_take, List.length_drop]; omega
  refine ExE.cbind (P := fun y => y = []) ⟨_, rfl, rfl⟩ ?_; rintro y rfl; refine ExE.ifp v1 (ExE.ifp (by omega) ?_); refine ExE.cbind (P := fun y => y = m.2.1.take v'.1.toNat) ⟨_, rfl, rfl⟩ ?_; rintro y rfl; refine ExE.ifp (by simp only [List.length_nil]; omega) ?_; refine ExE.cbind (P := fun y => y = m.2.1.take v'.1.toNat) ⟨_, rfl, by simp⟩ ?_; rintro y rfl; refine ExE.ifp (by omega) (ExE.ifp (by omega) ?_); refine ExE.cbind (P := fun y => y = m.2.1.drop (v'.1 + 1).toNat) ⟨_, rfl, rfl⟩ ?_; rintro y rfl; exact ExE.ifp (by omega) (ExE.now ⟨by simp only []; omega, by simp only []; omega, by simp only [List.length_append]; omega, v3⟩)
 ·refine ExE.cbind (P := fun _ => True) ⟨_, by unfold dJ.f; exact (apply_ite some _ _ _).symm, trivial⟩ ?_; rintro x -; refine ExE.cbind (P := fun _ => True) ⟨_, by unfold dI.f; exact (apply_ite some _ _ _).symm, trivial⟩ ?_; rintro y -; refine ExE.bind (lx hb u3 y) ?_; rintro q ⟨q1, q2⟩; refine ExE.ev (gZ q.1 (by omega)) ?_; have := fd q.1 []; exact ExE.now ⟨by simp only []; omega, by simp only []; omega, by simp only [List.length_nil] at this ⊢; omega, q2⟩
theorem jJ {e : Nat} (he : e < 8) : IntKind.i64.wrap (2 ^ e) = ((2 ^ e : Nat) : Int) := by
 have h2 : (2 ^ e : Nat) < 9223372036854775808 := by
  have := Nat.pow_lt_pow_right (a := 2) (by decide) (show e < 63 by omega)
  simpa using this
 have h3 : (2 : Int) ^ e = ((2 ^ e : Nat) : Int) := by simp
 rw [h3]; exact em h2
theorem ml (l : List Int) (hl : l.length ≤ 17592186044416) (a e f : Nat) (ha : a < 256) (he : e < 8) (hf : f < 8) : Ev (fun k => ao.c k l (a : Int) (e : Int) (f : Int)) (l.contains ((dif a (2 ^ e) ||| 2 ^ f : Nat) : Int)) := by
 unfold ao.c dm.f; refine Ev.ifp (by omega) (Ev.ifp (by omega) ?_); have hp : ∀ x < 8, 2 ^ x < 2 ^ 63 := fun x hx => Nat.pow_lt_pow_right (by decide) (by omega)
 rw [Int.toNat_natCast, Int.toNat_natCast, jJ he, jJ hf, fV (cG ha) (hp e he), iq (cG (kC ha)) (hp f hf)]; exact Ev.bind (fv l _ hl) (Ev.now _)
theorem mj {s e : Nat} (h : e ∈ els s) : e < 8 := (gy.1 h).1
theorem any_map (p : Int → Bool) (L : List Nat) : (L.map (fun x : Nat => (x : Int))).any p = L.any (fun x => p (x : Int)) := by
 rw [List.any_map]; rfl
theorem j3 (l : List Int) (hl : l.length ≤ 17592186044416) (a b : Nat) (ha : a < 256) (hb : b < 256) : ∀ es : List Nat, (∀ e ∈ es, e < 8) → Ev (fun k => ao.l2 k l (a : Int) (b : Int) (es.map (fun x : Nat => (x : Int)))) ((ej l a b es).map (fun x : Nat => (x : Int))) := by
 intro es
 induction es with
 | nil => intro _; exact Ev.now _
 | cons e es ih =>
  intro hm; have he := hm e (List.mem_cons_self ..); simp only [List.map_cons, ao.l2]; rw [fV (cG hb) (cG ha)]; refine Ev.bind (eh _) ?_; rw [iM (kC hb)]; refine Ev.bind (a := fL l a b e) ?_ ?_
  ·have h := mx (g := fun k f => ao.c k l (a : Int) (e : Int) f) (p := fun f => l.contains ((dif a (2 ^ e) ||| 2 ^ f.toNat : Nat) : Int)) (l := (els (dif b a)).map (fun x : Nat => (x : Int)))
    (fun x hx => by
     obtain ⟨f, hf, rfl⟩ := List.mem_map.1 hx; have := ml l hl a e f ha he (mj hf); rw [Int.toNat_natCast]; exact this)
   rw [any_map] at h; simp only [Int.toNat_natCast] at h; exact h
  ·simp only [ej]; by_cases hx : fL l a b e = true
   ·refine Ev.ifp hx ?_; rw [if_pos hx]; exact ih (fun e' he' => hm e' (List.mem_cons_of_mem _ he'))
   ·refine Ev.ifn hx ?_; rw [if_neg hx]; exact Ev.now _
theorem jN (l : List Int) (hl : l.length ≤ 17592186044416) (a : Nat) (ha : a < 256) : ∀ bs : List Nat, (∀ b ∈ bs, b < 256) → Ev (fun k => ao.l1 k l (a : Int) (bs.map (fun x : Nat => (x : Int)))) ((eJ l a bs).map (fun x : Nat × Nat => ((x.1 : Int), (x.2 : Int)))) := by
 intro bs
 induction bs with
 | nil => intro _; exact Ev.now _
 | cons b bs ih =>
  intro hm; have hb := hm b (List.mem_cons_self ..); simp only [List.map_cons, ao.l1]; rw [fV (cG ha) (cG hb)]; refine Ev.bind (eh _) ?_; rw [iM (kC ha)]; refine Ev.bind (j3 l hl a b ha hb _ (fun e he => mj he)) ?_; simp only [eJ]; cases ej l a b (els (dif a b)) with
  | none => exact ih (fun b' hb' => hm b' (List.mem_cons_of_mem _ hb'))
  | some e => exact Ev.now _
theorem jE (l : List Int) (L : List Nat) (hlL : l = L.map (fun x : Nat => (x : Int))) (hl : l.length ≤ 17592186044416) (hL : ∀ b ∈ L, b < 256) : ∀ la : List Nat, (∀ a ∈ la, a < 256) → Ev (fun k => ao.l0 k l (la.map (fun x : Nat => (x : Int)))) ((eX l L la).map (fun x : Nat × Nat × Nat => ((x.1 : Int), (x.2.1 : Int), (x.2.2 : Int)))) := by
 intro la
 induction la with
 | nil => intro _; exact Ev.now _
 | cons a la ih =>
  intro hm; have ha := hm a (List.mem_cons_self ..); simp only [List.map_cons, ao.l0]; refine Ev.bind (a := (eJ l a L).map (fun x : Nat × Nat => ((x.1 : Int), (x.2 : Int)))) (by
   have := jN l hl a ha L hL; rw [← hlL] at this; exact this) ?_
  simp only [eX]; cases eJ l a L with
  | none => exact ih (fun a' ha' => hm a' (List.mem_cons_of_mem _ ha'))
  | some x => exact Ev.now _
theorem j4 (n : Int) (l : List Int) (hl : l.length ≤ 17592186044416) : Ev (fun k => ao.f k n l) (ib n l) := by
 unfold ao.f ib; refine Ev.bind (iw n l hl) ?_; by_cases hf : famB n l = true
 ·refine Ev.ifp hf ?_; rw [if_pos hf]; obtain ⟨m, L, rfl, hm, hlL, hL, _⟩ := it hf; have hmap : l.map Int.toNat = L := by rw [hlL, cK]
  have h256 : ∀ b ∈ L, b < 256 := fun b hb => Nat.lt_of_lt_of_le (hL b hb) (cW hm)
  have h := jE l L hlL hl h256 L h256; rw [← hlL] at h; refine Ev.bind h ?_; rw [hmap]; cases eX l L L with
  | none => exact Ev.now _
  | some x => exact Ev.now _
 ·refine Ev.ifn hf ?_; rw [if_neg hf]; exact Ev.now _
theorem eD (n : Int) (l : List Int) (hl : l.length ≤ 17592186044416) : Ev (fun k => bk.f k n l) (matB n l) := by
 unfold bk.f matB; refine Ev.bind (j4 n l hl) (Ev.bind (iw n l hl) ?_); by_cases hf : famB n l = true
 ·refine Ev.ifp hf ?_; rw [hf, Bool.true_and]; by_cases h0 : (l.length : Int) > 0
  ·refine Ev.ifp h0 ?_; rw [show decide ((l.length : Int) > 0) = true from by simpa using h0, Bool.true_and]; exact Ev.now _
  ·refine Ev.ifn h0 ?_; rw [show decide ((l.length : Int) > 0) = false from by simpa using h0, Bool.false_and]; exact Ev.now _
 ·refine Ev.ifn hf ?_; rw [Bool.eq_false_iff.2 hf, Bool.false_and]; exact Ev.now _
def renG (n : Int) : List Int → Nat → Bool
 | [], _ => true
 | x :: xs, seen => (decide (0 ≤ x) && decide (x < n) && decide (x < 8) && !seen.testBit x.toNat) && renG n xs (seen ||| 2 ^ x.toNat)
def dv (n : Int) (l : List Int) : Bool := decide ((l.length : Int) = n) && decide (n ≤ 8) && renG n l 0
theorem kA (n : Int) (l : List Int) (hl : l.length ≤ 17592186044416) (hn : (l.length : Int) = n) (h8 : n ≤ 8) : ∀ seen : Nat, seen < 256 → Ev (fun k => aW.l0 k n l (seen : Int) 0) (renG n l seen) := by
 have h := down (P := fun i => ∀ seen : Nat, seen < 256 → Ev (fun k => aW.l0 k n l (seen : Int) (i : Int)) (renG n (l.drop i) seen)) l.length
  (by
   intro seen hs
   apply Ev.step
   ·intro k; simp only [aW.l0]; rw [if_neg (by omega)]
   ·rw [dx]; exact Ev.now _)
  (by
   intro i hi ih seen hs
   apply Ev.step
   ·intro k; simp only [aW.l0, l1In_eq, Option.bind_some]; rw [if_pos (by omega), if_pos (by omega), if_pos (by omega), bK l i hi, ck hi hl, b4 (by omega) (by omega)]
   ·rw [cH l i hi]; simp only [renG]; by_cases hx : (decide (0 ≤ l[i]) && decide (l[i] ≤ n - 1)) = true
    ·refine Ev.ifp hx ?_; simp only [Bool.and_eq_true, decide_eq_true_eq] at hx; obtain ⟨x, hxe⟩ := Int.eq_ofNat_of_zero_le hx.1; rw [hxe] at hx ⊢; have hx8 : x < 8 := by omega
     have c1 : (decide (0 ≤ (x : Int)) && decide ((x : Int) < n) && decide ((x : Int) < 8)) = true := by
      simp only [Bool.and_eq_true, decide_eq_true_eq]; omega
     rw [c1, Bool.true_and, Int.toNat_natCast]; refine Ev.cbind (eH (cG hs) (by omega)) ?_; by_cases hb : seen.testBit x = true
     ·refine Ev.ifp hb ?_; rw [hb]; exact Ev.now _
     ·refine Ev.ifn hb (Ev.ifp (dt _) ?_); rw [Bool.eq_false_iff.2 hb, fQ (by omega) (by omega), eo (by omega), iq (cG hs) (cG (fl hx8))]; exact ih _ (kU hs hx8)
    ·refine Ev.ifn hx ?_; have c1 : (decide (0 ≤ l[i]) && decide (l[i] < n)) = false := by
      rw [Bool.eq_false_iff]; intro hc
      apply hx
      simp only [Bool.and_eq_true, decide_eq_true_eq] at *; omega
     rw [c1]; exact Ev.now _)
 exact h
theorem fN (n : Int) (l : List Int) (hl : l.length ≤ 17592186044416) : Ev (fun k => aW.f k n l) (dv n l) := by
 unfold aW.f dv; by_cases hn : (l.length : Int) = n
 ·refine Ev.ifp hn ?_; rw [show decide ((l.length : Int) = n) = true from by simpa using hn, Bool.true_and]
  apply Ev.step
  ·intro k; rw [aW.j0]
  ·by_cases h8 : n > 8
   ·refine Ev.ifp (by simpa using h8) ?_; rw [show decide (n ≤ 8) = false from by simpa using h8]; exact Ev.now _
   ·refine Ev.ifn (by simpa using h8) ?_; rw [show decide (n ≤ 8) = true from by simp; omega, Bool.true_and]; exact kA n l hl hn (by omega) 0 (by omega)
 ·refine Ev.ifn hn ?_; rw [show decide ((l.length : Int) = n) = false from by simpa using hn]
  apply Ev.step
  ·intro k; rw [aW.j0]
  ·refine Ev.ifp rfl ?_; exact Ev.now _
theorem ks (n : Int) (l : List Int) (hl : l.length ≤ 17592186044416) : ∀ seen : Nat, seen < 256 → Ev (fun k => bm.l0 k n l (seen : Int) l (l.length : Int) 0) (renG n l seen && ((decide (0 ≤ n) && decide (n ≤ 8)) && decide ((l.length : Int) = n))) := by
 have h := down (P := fun i => ∀ seen : Nat, seen < 256 → Ev (fun k => bm.l0 k n l (seen : Int) l (l.length : Int) (i : Int)) (renG n (l.drop i) seen && ((decide (0 ≤ n) && decide (n ≤ 8)) && decide ((l.length : Int) = n)))) l.length
  (by
   intro seen hs
   apply Ev.step
   ·intro k; simp only [bm.l0, isSize_eq, Option.bind_some]; rw [if_neg (by omega)]
   ·rw [dx]; simp only [renG, Bool.true_and]; by_cases h8 : (decide (0 ≤ n) && decide (n ≤ 8)) = true
    ·refine Ev.ifp h8 ?_; rw [h8, Bool.true_and]; exact Ev.now _
    ·refine Ev.ifn h8 ?_; rw [Bool.eq_false_iff.2 h8, Bool.false_and]; exact Ev.now _)
  (by
   intro i hi ih seen hs
   apply Ev.step
   ·intro k; simp only [bm.l0]; rw [if_pos (by omega), if_pos (by omega), if_pos (by omega), bK l i hi, ck hi hl]
   ·rw [cH l i hi]; simp only [renG]; by_cases h0 : l[i] < 0
    ·refine Ev.ifp h0 ?_; rw [show decide (0 ≤ l[i]) = false from by simpa using h0]; exact Ev.now _
    ·refine Ev.ifn h0 ?_; by_cases hn : l[i] ≥ n
     ·refine Ev.ifp hn ?_; rw [show decide (l[i] < n) = false from by simpa using hn, Bool.and_false]; exact Ev.now _
     ·refine Ev.ifn hn ?_; by_cases h8 : l[i] ≥ 8
      ·refine Ev.ifp h8 ?_; rw [show decide (l[i] < 8) = false from by simpa using h8, Bool.and_false]; exact Ev.now _
      ·refine Ev.ifn h8 (Ev.ifp (by omega) ?_); obtain ⟨x, hxe⟩ := Int.eq_ofNat_of_zero_le (show 0 ≤ l[i] by omega); rw [hxe] at h0 hn h8 ⊢; have hx8 : x < 8 := by omega
       have c1 : (decide (0 ≤ (x : Int)) && decide ((x : Int) < n) && decide ((x : Int) < 8)) = true := by
        simp only [Bool.and_eq_true, decide_eq_true_eq]; omega
       rw [c1, Bool.true_and, Int.toNat_natCast]; by_cases hb : seen.testBit x = true
       ·refine Ev.ifp ((io (cG hs)).2 hb) ?_; rw [hb]; exact Ev.now _
       ·refine Ev.ifn (fun hc => hb ((io (cG hs)).1 hc)) ?_; rw [Bool.eq_false_iff.2 hb, eo (by omega), iq (cG hs) (cG (fl hx8))]; exact ih _ (kU hs hx8))
 exact h
theorem fX (n : Int) (l : List Int) (hl : l.length ≤ 17592186044416) : Ev (fun k => bm.f k n l) (dv n l) := by
 have h := ks n l hl 0 (by omega); have e : (renG n l 0 && ((decide (0 ≤ n) && decide (n ≤ 8)) && decide ((l.length : Int) = n))) = dv n l := by
  unfold dv; by_cases hn : (l.length : Int) = n
  ·have : decide (0 ≤ n) = true := by simp; omega
   rw [this, show decide ((l.length : Int) = n) = true from by simpa using hn]; cases renG n l 0 <;> cases decide (n ≤ 8) <;> rfl
  ·rw [show decide ((l.length : Int) = n) = false from by simpa using hn]; simp
 rw [e] at h; exact h
end Go.Proofs.YtbdloopelidneaaGreat.Q
namespace Go.Proofs.YtbdloopelidneaaGreat.Q
open Go Go.RowKit Go.Proofs.YtbdloopelidneaaGreatW.PrintWords Go.Proofs.YtbdloopelidneaaGreatW.PrintLast Go.Proofs.YtbdloopelidneaaGreatW.PrintMore Go.Proofs.YtbdloopelidneaaGreat.Z
set_option linter.unusedVariables false
set_option linter.unusedSimpArgs false
theorem jX {n : Int} : ∀ {l : List Int} {seen : Nat}, renG n l seen = true → ∀ x ∈ l, 0 ≤ x ∧ x < n ∧ x < 8 := by
 intro l
 induction l with
 | nil => intro seen _ x hx; simp at hx
 | cons y ys ih =>
  intro seen h x hx; simp only [renG, Bool.and_eq_true, decide_eq_true_eq] at h; rcases List.mem_cons.1 hx with rfl | hx
  ·exact ⟨h.1.1.1.1, h.1.1.1.2, h.1.1.2⟩
  ·exact ih h.2 x hx
theorem en {l : List Int} (h : dv (l.length : Int) l = true) : l.length ≤ 8 ∧ ∀ x ∈ l, 0 ≤ x ∧ x < 8 := by
 simp only [dv, Bool.and_eq_true, decide_eq_true_eq] at h; refine ⟨by omega, fun x hx => ?_⟩; have := jX h.2 x hx; omega
end Go.Proofs.YtbdloopelidneaaGreat.Q
