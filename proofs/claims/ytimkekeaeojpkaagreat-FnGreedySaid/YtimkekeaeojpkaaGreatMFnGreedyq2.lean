/- The pure side of the law FnGreedy: what the Lean functions of the print compute, and that the law holds of them. Conditions: those in each lemma. -/
import Derived.Test.YtimkekeaeojpkaaGreatMFnGreedy1
import Derived.Test.YtimkekeaeojpkaaGreatMFnGreedy2
import Derived.Test.YtimkekeaeojpkaaGreatMFnGreedy3
import Derived.Test.YtimkekeaeojpkaaGreatMFnGreedy4
import Derived.Test.YtimkekeaeojpkaaGreatMFnGreedy5
import Derived.Test.YtimkekeaeojpkaaGreatMFnGreedy6
import Derived.Test.YtimkekeaeojpkaaGreatMFnGreedyq0
import Derived.Test.YtimkekeaeojpkaaGreatMFnGreedyq1
namespace Go.Proofs.YtimkekeaeojpkaaGreat.Q
open Go Go.RowKit Go.Proofs.YtimkekeaeojpkaaGreat.A Go.Proofs.YtimkekeaeojpkaaGreatW.PrintWords Go.Proofs.YtimkekeaeojpkaaGreatW.PrintLast Go.Proofs.YtimkekeaeojpkaaGreatW.PrintMore Go.Proofs.YtimkekeaeojpkaaGreat.Z
set_option linter.unusedVariables false
set_option linter.unusedSimpArgs false
theorem kb (r n : Int) : ExE (fun k => bf.f k r n) (fun q => 0 ≤ q.1 ∧ q.1 ≤ 8 ∧ (0 ≤ n → q.1 ≤ n) ∧ q.2.length ≤ 256) := by
 unfold bf.f
 refine ExE.cbind (P := fun a => a = (decide (0 ≤ n) && decide (n ≤ 8))) ⟨_, l1In_eq n 0 8, rfl⟩ ?_
 rintro a rfl
 have hno : ExE (fun k => bf.j0 k r n true) (fun q => 0 ≤ q.1 ∧ q.1 ≤ 8 ∧ (0 ≤ n → q.1 ≤ n) ∧ q.2.length ≤ 256) := by
  apply ExE.step
  ·intro k; rw [bf.j0]
  ·exact ExE.ifp rfl (ExE.now ⟨by simp, by simp, fun h => h, by simp⟩)
 refine ExE.ite (fun hn => ?_) (fun _ => hno)
 rw [Bool.and_eq_true, decide_eq_true_eq, decide_eq_true_eq] at hn
 refine ExE.cbind (P := fun _ => True) ⟨_, l1In_eq r 0 n, trivial⟩ ?_
 rintro a -
 cases a
 ·exact hno
 obtain ⟨m, rfl⟩ := Int.eq_ofNat_of_zero_le hn.1
 have hm : m ≤ 8 := by omega
 have h256 := cj hm
 have hp := Nat.two_pow_pos m
 have hd := down (P := fun i => ∀ l : List Int, l.length ≤ i → ExE (fun k => bf.l0 k r (m : Int) (i : Int) (m : Int) l) (fun q => 0 ≤ q.1 ∧ q.1 ≤ 8 ∧ (0 ≤ (m : Int) → q.1 ≤ (m : Int)) ∧ q.2.length ≤ 256)) (2 ^ m)
  (by
   intro l hl
   apply ExE.step
   ·intro k; rw [bf.l0, du hm, Option.bind_some, if_neg (by unfold cr; omega)]
   ·exact ExE.now ⟨by simp only []; omega, by simp only []; omega, fun _ => Int.le_refl _, by simp only []; omega⟩)
  (by
   intro i hi ih l hl
   apply ExE.step
   ·intro k; rw [bf.l0, du hm, Option.bind_some, if_pos (by unfold cr; omega), bU hi (by omega)]
   ·refine ExE.ev (dz i (by omega)) (ExE.ite (fun _ => ExE.ifp (by omega) (ih _ (by rw [List.length_append, List.length_singleton]; omega))) (fun _ => ih _ (by omega))))
 apply ExE.step
 ·intro k; rw [bf.j0]
 ·exact ExE.ite (fun h => absurd h (by decide)) (fun _ => hd [] (Nat.zero_le _))
section
variable {P : Int} {R N s : Nat}
theorem ix {x y : Nat} {a : List Int} (ha : a.length = R * N) (hx : x < R) (hy : y < N) (hR : R ≤ 8) (hN : N ≤ 8) : wrap64 ((wrap64 ((x : Int) * (N : Int))) + (y : Int)) = ((x * N + y : Nat) : Int) ∧ 0 ≤ ((x * N + y : Nat) : Int) ∧ ((x * N + y : Nat) : Int) < (a.length : Int) := by
 have h1 : x * N ≤ 7 * 8 := Nat.mul_le_mul (by omega) hN
 have h2 : (x + 1) * N ≤ R * N := Nat.mul_le_mul (by omega) (Nat.le_refl N)
 rw [Nat.add_mul] at h2
 rw [show (x : Int) * (N : Int) = ((x * N : Nat) : Int) from by simp, ha]
 generalize x * N = q at *
 generalize R * N = u at *
 rw [be (n := (q : Int)) (by omega) (by omega), be (by omega) (by omega)]
 exact ⟨by omega, by omega, by omega⟩
theorem ltc {x y : Nat} (h : x < y) : (x : Int) < (y : Int) := by omega
theorem gec {x y : Nat} (h : y ≤ x) : ¬ (x : Int) < (y : Int) := by omega
section
variable (hR : R ≤ 8) (hN : N ≤ 8) (hP : P ≠ 0) (j : Nat) (hj : j < N)
  (hnext : ∀ (a : List Int) (q : Nat), a.length = R * N → ExE (fun k => ah.l0 k P (R : Int) (N : Int) (s : Int) a (q : Int) (wrap64 ((j : Int) + 1))) (fun _ => True))
include hR hN hP hj hnext
theorem lY {q : Nat} (hq : q < R) : ∀ (c i : Nat), i + c = R → ∀ a : List Int, a.length = R * N → ExE (fun k => ah.l3 k P (R : Int) (N : Int) (s : Int) a (q : Int) (j : Int) (i : Int)) (fun _ => True) := by
 have hR' : R ≤ 17592186044416 := Nat.le_trans hR (by decide)
 have hN' : N ≤ 17592186044416 := Nat.le_trans hN (by decide)
 intro c
 induction c with
 | zero =>
  intro i hi a ha
  apply ExE.step
  ·intro k; rw [ah.l3, if_neg (gec (by omega)), bU hq hR']
  ·exact hnext a (q + 1) ha
 | succ c ih3 =>
  intro i hi a ha
  have hiR : i < R := by omega
  have hnxt : i + 1 + c = R := by omega
  obtain ⟨e1, p1, l1⟩ := ix ha hiR hj hR hN
  obtain ⟨e2, p2, l2⟩ := ix ha hq hj hR hN
  apply ExE.step
  ·intro k; rw [ah.l3, if_pos (ltc hiR), e1, e2, if_pos p1, if_pos l1, if_pos p2, if_pos l2]
  ·clear e1 e2 p1 p2 l1 l2
   generalize rd a ((i * N + j : Nat) : Int) = x
   generalize rd a ((q * N + j : Nat) : Int) = y
   have hd := down (P := fun t => ∀ a : List Int, a.length = R * N → ExE (fun k => ah.l4 k P (R : Int) (N : Int) (s : Int) a (q : Int) (j : Int) (i : Int) x y (t : Int)) (fun _ => True)) N
    (by
     intro a ha
     apply ExE.step
     ·intro k; rw [ah.l4, if_neg (gec (Nat.le_refl N)), bU hiR hR']
     ·exact ih3 (i + 1) hnxt a ha)
    (by
     intro t ht ih4 a ha
     obtain ⟨e3, p3, l3⟩ := ix ha hiR ht hR hN
     obtain ⟨e4, p4, l4⟩ := ix ha hq ht hR hN
     apply ExE.step
     ·intro k; rw [ah.l4, if_pos (ltc ht), e3, e4, if_pos p3, if_pos l3, if_pos p4, if_pos l4, if_neg hP, bU ht hN']
     ·exact ih4 _ (by rw [List.length_set]; exact ha))
   exact hd a ha
theorem mE {q at_ : Nat} (hq : q < R) (hat : at_ < R) (a : List Int) (ha : a.length = R * N) : ExE (fun k => ah.l2 k P (R : Int) (N : Int) (s : Int) a (q : Int) (j : Int) (at_ : Int) 0) (fun _ => True) := by
 have hR' : R ≤ 17592186044416 := Nat.le_trans hR (by decide)
 have hN' : N ≤ 17592186044416 := Nat.le_trans hN (by decide)
 have hb := lY hR hN hP j hj hnext hq (R - (q + 1)) (q + 1) (by omega)
 have hd := down (P := fun t => ∀ a : List Int, a.length = R * N → ExE (fun k => ah.l2 k P (R : Int) (N : Int) (s : Int) a (q : Int) (j : Int) (at_ : Int) (t : Int)) (fun _ => True)) N
  (by
   intro a ha
   apply ExE.step
   ·intro k; rw [ah.l2, if_neg (gec (Nat.le_refl N)), bU hq hR']
   ·exact hb a ha)
  (by
   intro t ht ih2 a ha
   obtain ⟨e3, p3, l3⟩ := ix ha hat ht hR hN
   obtain ⟨e4, p4, l4⟩ := ix ha hq ht hR hN
   apply ExE.step
   ·intro k; rw [ah.l2, if_pos (ltc ht), e3, e4, if_pos p3, if_pos l3, if_pos p4, if_pos l4, bU ht hN']
   ·exact ih2 _ (by rw [List.length_set, List.length_set]; exact ha))
 exact hd a ha
theorem jv {q : Nat} (a : List Int) (ha : a.length = R * N) (at_ : Nat) (h1 : q ≤ at_) : ExE (fun k => ah.j2 k P (R : Int) (N : Int) (s : Int) a (q : Int) (j : Int) (at_ : Int)) (fun _ => True) := by
 apply ExE.step
 ·intro k; rw [ah.j2]
 ·exact ExE.ite (fun _ => hnext a q ha) (fun h => mE hR hN hP j hj hnext (by omega) (by omega) a ha)
theorem mD {q : Nat} (a : List Int) (ha : a.length = R * N) : ∀ (c at_ : Nat), R - at_ = c → q ≤ at_ → ExE (fun k => ah.l1 k P (R : Int) (N : Int) (s : Int) a (q : Int) (j : Int) (at_ : Int)) (fun _ => True) := by
 have hR' : R ≤ 17592186044416 := Nat.le_trans hR (by decide)
 intro c
 induction c with
 | zero =>
  intro at_ h1 h4
  apply ExE.step
  ·intro k; rw [ah.l1, if_neg (gec (by omega))]
  ·exact jv hR hN hP j hj hnext a ha at_ h4
 | succ c ih1 =>
  intro at_ h1 h4
  have hatR : at_ < R := by omega
  have hn1 : R - (at_ + 1) = c := by omega
  have hn2 : q ≤ at_ + 1 := by omega
  obtain ⟨e1, p1, l1⟩ := ix ha hatR hj hR hN
  apply ExE.step
  ·intro k; rw [ah.l1, if_pos (ltc hatR), e1, if_pos p1, if_pos l1, bU hatR hR']
  ·exact ExE.ite (fun _ => ih1 (at_ + 1) hn1 hn2) (fun _ => jv hR hN hP j hj hnext a ha at_ h4)
end
theorem lH (hR : R ≤ 8) (hN : N ≤ 8) (hP : P ≠ 0) : ∀ (d j : Nat), j + d = N → ∀ (a : List Int) (q : Nat), a.length = R * N → ExE (fun k => ah.l0 k P (R : Int) (N : Int) (s : Int) a (q : Int) (j : Int)) (fun _ => True) := by
 have hN' : N ≤ 17592186044416 := Nat.le_trans hN (by decide)
 intro d
 induction d with
 | zero =>
  intro j hj a q ha
  apply ExE.step
  ·intro k; rw [ah.l0, if_neg (gec (by omega))]
  ·exact ExE.now trivial
 | succ d ih =>
  intro j hj a q ha
  have hj8 : j < N := by omega
  have hj1 : j + 1 + d = N := by omega
  have hnext : ∀ (a : List Int) (q : Nat), a.length = R * N → ExE (fun k => ah.l0 k P (R : Int) (N : Int) (s : Int) a (q : Int) (wrap64 ((j : Int) + 1))) (fun _ => True) := by
   intro a q ha
   rw [bU hj8 hN']
   exact ih (j + 1) hj1 a q ha
  apply ExE.step
  ·intro k; rw [ah.l0, if_pos (ltc hj8)]
  ·refine ExE.cbind (P := fun _ => True) ⟨_, by unfold aT.f; rw [if_pos (dl _)], trivial⟩ ?_
   rintro b -
   exact ExE.ite (fun _ => mD hR hN hP j hj8 hnext a ha (R - q) q rfl (Nat.le_refl _)) (fun _ => hnext a q ha)
theorem iL (hR : R ≤ 8) (hN : N ≤ 8) (hP : P ≠ 0) {a : List Int} (ha : a.length = R * N) : ExE (fun k => ah.f k P (R : Int) (N : Int) a (s : Int)) (fun _ => True) := by
 unfold ah.f
 refine ExE.cbind (P := fun y => y = []) ⟨_, rfl, rfl⟩ ?_
 rintro y rfl
 have h64 : R * N ≤ 8 * 8 := Nat.mul_le_mul hR hN
 refine ExE.ifp (by rw [ha]; simp; omega) ?_
 rw [List.nil_append]
 exact lH hR hN hP N 0 (by omega) a 0 ha
theorem jE (hR : R ≤ 8) (hN : N ≤ 8) (hP : P ≠ 0) {a : List Int} (ha : a.length = R * N) : ExE (fun k => bC.f k P (R : Int) (N : Int) a) (fun q => q.1 = (N : Int) ∧ q.2.length ≤ 256) := by
 unfold bC.f
 have h256 := cj hN
 have hp := Nat.two_pow_pos N
 refine ExE.cbind (P := fun x => x = ((cr N : Nat) : Int)) ⟨_, du hN, rfl⟩ ?_
 rintro x rfl
 refine ExE.bind (iL hR hN hP ha) ?_
 rintro r -
 have hd := down (P := fun i => ∀ l : List Int, l.length ≤ i → ExE (fun k => bC.l0 k P (R : Int) (N : Int) a r (i : Int) (N : Int) l) (fun q => q.1 = (N : Int) ∧ q.2.length ≤ 256)) (2 ^ N)
  (by
   intro l hl
   apply ExE.step
   ·intro k; rw [bC.l0, du hN, Option.bind_some, if_neg (by unfold cr; omega)]
   ·exact ExE.now ⟨rfl, by simp only []; omega⟩)
  (by
   intro i hi ih l hl
   apply ExE.step
   ·intro k; rw [bC.l0, du hN, Option.bind_some, if_pos (by unfold cr; omega), bU hi (by omega)]
   ·refine ExE.ev (dz i (by omega)) (ExE.ite (fun _ => ?_) (fun _ => ih _ (by omega)))
    refine ExE.bind (iL hR hN hP ha) ?_
    rintro c -
    exact ExE.ite (fun _ => ExE.ifp (by omega) (ih _ (by rw [List.length_append, List.length_singleton]; omega))) (fun _ => ih _ (by omega)))
 exact hd [] (Nat.zero_le _)
end
theorem jd {b : List Int} (hb : b.length ≤ 17592186044416) {p h : Int} (hp : 0 ≤ p) {n : Nat} (hn : n ≤ 8) : ExE (fun k => bk.f k b p h (n : Int)) (fun q => q.1 = (n : Int) ∧ q.2.1.length ≤ 256 ∧ 0 ≤ q.2.2.1) := by
 unfold bk.f
 obtain ⟨u, eu, u1, u2⟩ := eb hb (h := h) hp (l := [2, 3, 5, 2]) (by simp)
 refine ExE.cbind (P := fun a => a = u) ⟨u, eu, rfl⟩ ?_
 intro u' e
 subst e
 obtain ⟨v, ev, v1, v2, _, v3⟩ := b5 hb (h := u'.2.2) u2 3
 refine ExE.cbind (P := fun a => a = v) ⟨v, ev, rfl⟩ ?_
 intro v' e
 subst e
 have v2 := v2 (by omega)
 obtain ⟨R, hR⟩ : ∃ R : Nat, wrap64 (1 + v'.1) = (R : Int) ∧ R ≤ 3 := by
  rw [be (by omega) (by omega)]
  exact ⟨(1 + v'.1).toNat, by omega, by omega⟩
 rw [hR.1]
 have hRn : R * n ≤ 3 * 8 := Nat.mul_le_mul hR.2 hn
 have hP : u'.1 ≠ 0 := by
  intro h0; rw [h0] at u1; simp at u1
 have hmul : wrap64 ((R : Int) * (n : Int)) = ((R * n : Nat) : Int) := by
  rw [show (R : Int) * (n : Int) = ((R * n : Nat) : Int) from by simp, be (by omega) (by omega)]
 have hd := down (P := fun i => ∀ (l : List Int) (p h : Int), 0 ≤ p → l.length = i → ExE (fun k => bk.l0 k (n : Int) u'.1 (R : Int) l (i : Int) b p h) (fun q => q.1 = (n : Int) ∧ q.2.1.length ≤ 256 ∧ 0 ≤ q.2.2.1)) (R * n)
  (by
   intro l p h hp hl
   apply ExE.step
   ·intro k; rw [bk.l0, hmul, if_neg (by omega)]
   ·refine ExE.bind (jE (by omega) hn hP hl) ?_
    rintro q ⟨q1, q2⟩
    exact ExE.now ⟨q1, q2, hp⟩)
  (by
   intro i hi ih l p h hp hl
   obtain ⟨x, ex, _, _, _, x3⟩ := b5 hb (h := h) hp u'.1
   apply ExE.step
   ·intro k; rw [bk.l0, hmul, if_pos (by omega), bU hi (by omega)]
   ·refine ExE.cbind (P := fun a => a = x) ⟨x, ex, rfl⟩ ?_
    rintro _ rfl
    exact ExE.ifp (by omega) (ih _ _ _ x3 (by rw [List.length_append, List.length_singleton]; omega)))
 exact hd [] _ _ v3 rfl
theorem Ev.ofMono {α : Type} {g : Nat → Option α} (h : ∀ k, LeO (g k) (g (k + 1))) {K : Nat} {r : α} (e : g K = some r) : Ev g r := by
 refine ⟨K, fun k hk => ?_⟩
 obtain ⟨d, rfl⟩ : ∃ d, k = K + d := ⟨k - K, by omega⟩
 clear hk
 induction d with
 | zero => exact e
 | succ d ih => exact h (K + d) r ih
theorem dL {s : ByteArray} {r : Int × List Int × Bool} (h : bw.f 300 s = some r) {P : Int × List Int × Bool → Prop} (hp : P r) : ExE (fun k => bw.f k s) P := ⟨r, Ev.ofMono (g := fun k => bw.f k s) (fun k => bw.mono s k) h, hp⟩
theorem lB {b : List Int} (hb : b.length ≤ 17592186044416) {p h : Int} (hp : 0 ≤ p) {l : List ByteArray} (hl : l ≠ []) : ∃ r, di.f b p h l = some r ∧ (∃ i, i < l.length ∧ r.1 = l.getD i ByteArray.empty) ∧ 0 ≤ r.2.1 := by
 unfold di.f
 obtain ⟨r, e, r1, r2, _, r3⟩ := b5 hb (h := h) hp (l.length : Int)
 have h0 : 0 < l.length := List.length_pos_iff.2 hl
 have hlt := r2 (by omega)
 rw [e, Option.bind_some, if_pos r1, if_pos hlt]
 refine ⟨_, rfl, ⟨r.1.toNat, by omega, ?_⟩, r3⟩
 unfold rdOf
 rfl
def NmP (r : Int × List Int × Bool) : Prop := 0 ≤ r.1 ∧ r.1 ≤ 8 ∧ r.2.1.length ≤ 256
theorem kE {b : List Int} (hb : b.length ≤ 17592186044416) {p h : Int} (hp : 0 ≤ p) : ExE (fun k => db.f k b p h) (fun q => 0 ≤ q.1 ∧ q.1 ≤ 8 ∧ q.2.1.length ≤ 256 ∧ 0 ≤ q.2.2.1) := by
 unfold db.f
 obtain ⟨u, eu, ⟨i, hi, u1⟩, u2⟩ := lB hb (h := h) hp (l := [(⟨#[48, 32, 45]⟩ : ByteArray), (⟨#[49, 32, 45]⟩ : ByteArray), (⟨#[49, 32, 97]⟩ : ByteArray), (⟨#[52, 32, 97, 98, 44, 97, 99, 44, 98, 99, 44, 97, 100, 44, 98, 100, 44, 99, 100]⟩ : ByteArray), (⟨#[52, 32, 97, 98, 44, 97, 99, 44, 97, 100, 44, 98, 100, 44, 99, 100]⟩ : ByteArray), (⟨#[51, 32, 97, 44, 98]⟩ : ByteArray), (⟨#[53, 32, 97, 98, 44, 97, 99, 44, 98, 99, 44, 97, 100, 44, 98, 100]⟩ : ByteArray), (⟨#[50, 32, 45]⟩ : ByteArray), (⟨#[51, 32, 97, 98, 99]⟩ : ByteArray)]) (by simp)
 refine ExE.cbind (P := fun a => a = u) ⟨u, eu, rfl⟩ ?_
 intro u' e
 subst e
 have key : ExE (fun k => bw.f k u'.1) NmP := by
  rw [u1]
  simp only [List.length_cons, List.length_nil] at hi
  match i, hi with
  | 0, _ => exact dL (r := (0, [0], true)) (by decide +kernel) (by unfold NmP; decide)
  | 1, _ => exact dL (r := (1, [0], true)) (by decide +kernel) (by unfold NmP; decide)
  | 2, _ => exact dL (r := (1, [1], true)) (by decide +kernel) (by unfold NmP; decide)
  | 3, _ => exact dL (r := (4, [3, 5, 6, 9, 10, 12], true)) (by decide +kernel) (by unfold NmP; decide)
  | 4, _ => exact dL (r := (4, [3, 5, 9, 10, 12], true)) (by decide +kernel) (by unfold NmP; decide)
  | 5, _ => exact dL (r := (3, [1, 2], true)) (by decide +kernel) (by unfold NmP; decide)
  | 6, _ => exact dL (r := (5, [3, 5, 6, 9, 10], true)) (by decide +kernel) (by unfold NmP; decide)
  | 7, _ => exact dL (r := (2, [0], true)) (by decide +kernel) (by unfold NmP; decide)
  | 8, _ => exact dL (r := (3, [7], true)) (by decide +kernel) (by unfold NmP; decide)
  | n + 9, h => omega
 refine ExE.bind key ?_
 rintro q ⟨q1, q2, q3⟩
 exact ExE.now ⟨q1, q2, q3, u2⟩
theorem iQ {b : List Int} (hb : b.length ≤ 17592186044416) {p h : Int} (hp : 0 ≤ p) {n : Int} (h0 : 0 ≤ n) (h8 : n ≤ 8) : ExE (fun k => ch.f k b p h n) (fun q => 0 ≤ q.1 ∧ q.1 ≤ 8 ∧ q.2.1.length ≤ 256 ∧ 0 ≤ q.2.2.1) := by
 unfold ch.f
 rw [be (n := n + 1) (by omega) (by omega)]
 obtain ⟨u, eu, u1, u2, _, u3⟩ := b5 hb (h := h) hp 6
 refine ExE.cbind (P := fun a => a = u) ⟨u, eu, rfl⟩ ?_
 intro u' e
 subst e
 have hcol : ∀ (p h : Int), 0 ≤ p → ExE (fun k => (ak.f b p h (n + 1)).bind fun x => ((bk.f k b x.2.1 x.2.2 x.1).bind fun y => (some (y.1, y.2.1, y.2.2.1, y.2.2.2)))) (fun q => 0 ≤ q.1 ∧ q.1 ≤ 8 ∧ q.2.1.length ≤ 256 ∧ 0 ≤ q.2.2.1) := by
  intro p h hp
  obtain ⟨v, ev, v1, v2, _, v3⟩ := b5 hb (h := h) hp (n + 1)
  refine ExE.cbind (P := fun a => a = v) ⟨v, ev, rfl⟩ ?_
  intro v' e
  subst e
  have v2 := v2 (by omega)
  obtain ⟨m, hm⟩ := Int.eq_ofNat_of_zero_le v1
  rw [hm]
  refine ExE.bind (jd hb v3 (n := m) (by omega)) ?_
  rintro q ⟨q1, q2, q3⟩
  exact ExE.now ⟨by simp only []; omega, by simp only []; omega, q2, q3⟩
 refine ExE.ite (fun _ => ?_) (fun _ => ExE.ite (fun _ => ?_) (fun _ => hcol _ _ u3))
 ·obtain ⟨v, ev, v1, v2, _, v3⟩ := b5 hb (h := u'.2.2) u3 (n + 1)
  refine ExE.cbind (P := fun a => a = v) ⟨v, ev, rfl⟩ ?_
  intro v' e
  subst e
  obtain ⟨w, ew, w1, w2, _, w3⟩ := b5 hb (h := v'.2.2) v3 (wrap64 (v'.1 + 1))
  refine ExE.cbind (P := fun a => a = w) ⟨w, ew, rfl⟩ ?_
  intro w' e
  subst e
  refine ExE.bind (kb w'.1 v'.1) ?_
  rintro q ⟨q1, q2, q3, q4⟩
  exact ExE.now ⟨q1, q2, q4, w3⟩
 ·refine ExE.bind (kE hb u3) ?_
  rintro q ⟨q1, q2, q3, q4⟩
  exact ExE.ite (fun _ => ExE.now ⟨q1, q2, q3, q4⟩) (fun _ => hcol _ _ q4)
def insO (x : Int) : List Int → List Int
 | [] => [x]
 | y :: ys => if y < x then y :: insO x ys else (if y = x then y :: ys else x :: y :: ys)
def iO (acc X : List Int) : List Int := X.foldl (fun a x => insO x a) acc
theorem jH (x : Int) (l : List Int) : (insO x l).length ≤ l.length + 1 := by
 induction l with
 | nil => exact Nat.le_refl _
 | cons y l ih =>
  simp only [insO]
  by_cases h : y < x
  ·rw [if_pos h, List.length_cons, List.length_cons]; omega
  ·rw [if_neg h]
   by_cases h2 : y = x
   ·rw [if_pos h2]; omega
   ·rw [if_neg h2]; simp only [List.length_cons]; omega
theorem j9 (X : List Int) (hx : X.length ≤ 8796093022208) : Ev (fun k => ag.f k X) (iO [] X) := by
 have hd := down (P := fun i => ∀ acc : List Int, acc.length ≤ i → Ev (fun k => ag.l0 k X acc (i : Int)) (iO acc (X.drop i))) X.length
  (by
   intro acc _
   apply Ev.step
   ·intro k
    rw [ag.l0, if_neg (by omega)]
   ·rw [cu]; exact Ev.now _)
  (by
   intro i hi ih acc ha
   have ihs := fun y (hy : y = insO X[i] acc) => ih y (by subst hy; have := jH X[i] acc; omega)
   rw [bQ X i hi]
   have h1 := down (P := fun j => Ev (fun k => ag.l1 k X acc (i : Int) (j : Int)) (iO (acc.take j ++ insO X[i] (acc.drop j)) (X.drop (i + 1)))) acc.length
    (by
     rw [List.take_length, cu]
     have hr := ih (acc ++ [X[i]]) (by rw [List.length_append, List.length_singleton]; omega)
     apply Ev.step
     ·intro k
      rw [ag.l1, if_neg (by omega), bU hi (by omega)]
     ·simp only [Option.bind_some, Int.toNat_natCast, List.drop_length, List.take_length, List.nil_append, List.append_nil, List.length_nil, List.length_append, List.length_singleton]
      refine Ev.ifp (by omega) (Ev.ifp (by omega) (Ev.ifp (by omega) (Ev.ifp (by omega) (Ev.ifp (by omega) (Ev.ifp (by omega) (Ev.ifp (by omega) ?_))))))
      rw [cf X i hi]
      exact hr)
    (by
     intro j hj ihj
     apply Ev.step
     ·intro k
      rw [ag.l1, if_pos (by omega), if_pos (by omega), if_pos (by omega), if_pos (by omega), cf acc j hj, cf X i hi, bU hi (by omega), bU hj (by omega)]
     ·rw [bQ acc j hj]
      simp only [insO]
      by_cases hlt : acc[j] < X[i]
      ·rw [if_pos hlt]
       refine Ev.ifp hlt ?_
       rw [dT acc j hj, List.append_assoc, List.singleton_append] at ihj
       exact ihj
      ·rw [if_neg hlt]
       refine Ev.ifn hlt ?_
       by_cases heq : acc[j] = X[i]
       ·rw [if_pos heq]
        refine Ev.ifp heq ?_
        rw [← bQ acc j hj, List.take_append_drop]
        exact ih acc (by omega)
       ·rw [if_neg heq]
        refine Ev.ifn heq ?_
        have hr := ih (acc.take j ++ X[i] :: acc[j] :: acc.drop (j + 1)) (by
         rw [List.length_append, List.length_cons, List.length_cons, List.length_take, List.length_drop]; omega)
        simp only [Option.bind_some, Int.toNat_natCast, List.nil_append, List.length_nil]
        refine Ev.ifp (by omega) (Ev.ifp (by rw [List.length_drop]; omega) (Ev.ifp (by rw [List.length_take]; omega) (Ev.ifp (by rw [List.length_append, List.length_singleton, List.length_take, List.length_drop]; omega) ?_)))
        rw [bQ acc j hj, List.append_assoc, List.singleton_append]
        exact hr)
   apply Ev.step
   ·intro k
    rw [ag.l0, if_pos (by omega)]
   ·have h0 := h1
    rw [List.take_zero, List.drop_zero, List.nil_append] at h0
    show Ev _ (iO acc (X[i] :: X.drop (i + 1)))
    exact h0)
 exact hd [] (Nat.zero_le _)
theorem ll (X : List Int) : ∀ acc : List Int, (iO acc X).length ≤ acc.length + X.length := by
 induction X with
 | nil => intro acc; exact Nat.le_refl _
 | cons x X ih =>
  intro acc
  have h1 := ih (insO x acc)
  have h2 := jH x acc
  rw [List.length_cons]
  show (iO (insO x acc) X).length ≤ _
  omega
theorem iS {b : List Int} (hb : b.length ≤ 17592186044416) {p h : Int} (hp : 0 ≤ p) : ∃ r, dc.f b p h = some r ∧ 0 ≤ r.2.1 := by
 unfold dc.f
 obtain ⟨u, eu, u1⟩ := iA hb (h := h) hp 8
 rw [eu, Option.bind_some]
 by_cases hc : u.1 = true
 ·rw [if_pos hc]
  obtain ⟨v, ev, _, v2⟩ := eb hb (h := u.2.2) u1 (l := [(-1), 256, 1000, (-9223372036854775808)]) (by simp)
  rw [ev, Option.bind_some]
  exact ⟨_, rfl, v2⟩
 ·rw [if_neg hc]
  unfold dt.f
  obtain ⟨v, ev, _, _, _, v3⟩ := b5 hb (h := u.2.2) u1 256
  rw [ev, Option.bind_some, Option.bind_some]
  exact ⟨_, rfl, v3⟩
theorem lm {b : List Int} (hb : b.length ≤ 17592186044416) {p h : Int} (hp : 0 ≤ p) (n : Int) : ExE (fun k => bO.f k b p h n) (fun r => r.1.length ≤ 6 ∧ 0 ≤ r.2.1) := by
 unfold bO.f
 obtain ⟨c, e, c1, c2, _, c3⟩ := b5 hb (h := h) hp 6
 refine ExE.cbind (P := fun a => a = c) ⟨c, e, rfl⟩ ?_
 rintro a rfl
 obtain ⟨m, hm⟩ := Int.eq_ofNat_of_zero_le c1
 have hm5 : m < 6 := by have := c2 (by omega); omega
 rw [hm]
 have hd := down (P := fun i => ∀ (l : List Int) (p h : Int), 0 ≤ p → l.length ≤ i → ExE (fun k => bO.l0 k n l (m : Int) (i : Int) b p h) (fun r => r.1.length ≤ 6 ∧ 0 ≤ r.2.1)) m
  (by
   intro l p h hp hl
   apply ExE.step
   ·intro k
    rw [bO.l0, if_neg (by omega)]
   ·exact ExE.now ⟨by simp only []; omega, hp⟩)
  (by
   intro i hi ih l p h hp hl
   apply ExE.step
   ·intro k
    rw [bO.l0, if_pos (by omega), if_pos (dl _), bU hi (by omega)]
   ·obtain ⟨x, ex, _, _, _, x3⟩ := b5 hb (h := h) hp (shl .i64 1 (IntKind.u64.wrap n))
    refine ExE.cbind (P := fun a => a = x) ⟨x, ex, rfl⟩ ?_
    rintro a rfl
    exact ExE.ifp (by omega) (ih _ _ _ x3 (by rw [List.length_append, List.length_singleton]; omega)))
 exact hd [] _ _ c3 (Nat.le_refl _)
theorem ly {b : List Int} (hb : b.length ≤ 17592186044416) {p h : Int} (hp : 0 ≤ p) {n : Int} (h0 : 0 ≤ n) (h8 : n ≤ 8) : ExE (fun k => bB.f k b p h n) (fun q => -1 ≤ q.1 ∧ q.1 ≤ 9 ∧ q.2.1.length ≤ 300 ∧ 0 ≤ q.2.2.1) := by
 unfold bB.f
 refine ExE.bind (iQ hb hp h0 h8) ?_
 rintro m ⟨m1, m2, m3, m4⟩
 obtain ⟨u, eu, u1, u2, _, u3⟩ := b5 hb (h := m.2.2.2) m4 10
 refine ExE.cbind (P := fun a => a = u) ⟨u, eu, rfl⟩ ?_
 intro u' e
 subst e
 refine ExE.ite (fun _ => ?_) (fun _ => ExE.ite (fun _ => ?_) (fun _ => ExE.ite (fun _ => ?_) (fun _ => ExE.ite (fun _ => ?_) (fun _ => ExE.now ⟨by simp only []; omega, by simp only []; omega, by simp only []; omega, u3⟩))))
 ·obtain ⟨v, ev, v1, v2⟩ := eb hb (h := u'.2.2) u3 (l := [(-1), 0, 2, 9]) (by simp)
  refine ExE.cbind (P := fun a => a = v) ⟨v, ev, rfl⟩ ?_
  intro v' e
  subst e
  have hv : -1 ≤ v'.1 ∧ v'.1 ≤ 9 := by
   simp only [List.mem_cons, List.not_mem_nil, or_false] at v1
   omega
  exact ExE.now ⟨hv.1, hv.2, by simp only []; omega, v2⟩
 ·obtain ⟨v, ev, v1⟩ := iS hb (h := u'.2.2) u3
  refine ExE.cbind (P := fun a => a = v) ⟨v, ev, rfl⟩ ?_
  intro v' e
  subst e
  exact ExE.ifp (by omega) (ExE.now ⟨by simp only []; omega, by simp only []; omega, by simp only [List.length_append, List.length_singleton]; omega, v1⟩)
 ·refine ExE.ite (fun hlen => ?_) (fun _ => ExE.now ⟨by simp only []; omega, by simp only []; omega, by simp only []; omega, u3⟩)
  obtain ⟨v, ev, v1, v2, _, v3⟩ := b5 hb (h := u'.2.2) u3 (m.2.1.length : Int)
  refine ExE.cbind (P := fun a => a = v) ⟨v, ev, rfl⟩ ?_
  intro v' e
  subst e
  have v2 := v2 (by omega)
  have hw : wrap64 (v'.1 + 1) = v'.1 + 1 := be (by omega) (by omega)
  rw [hw]
  have ht1 : (m.2.1.take v'.1.toNat).length ≤ m.2.1.length := by rw [List.length_take]; omega
  have ht2 : (m.2.1.drop (v'.1 + 1).toNat).length ≤ m.2.1.length := by rw [List.length_drop]; omega
  have ht3 : (m.2.1.take v'.1.toNat).length + (m.2.1.drop (v'.1 + 1).toNat).length ≤ 300 := by rw [List.length_take, List.length_drop]; omega
  refine ExE.cbind (P := fun y => y = []) ⟨_, rfl, rfl⟩ ?_
  rintro y rfl
  refine ExE.ifp v1 (ExE.ifp (by omega) ?_)
  refine ExE.cbind (P := fun y => y = m.2.1.take v'.1.toNat) ⟨_, rfl, rfl⟩ ?_
  rintro y rfl
  refine ExE.ifp (by simp only [List.length_nil]; omega) ?_
  refine ExE.cbind (P := fun y => y = m.2.1.take v'.1.toNat) ⟨_, rfl, by simp⟩ ?_
  rintro y rfl
  refine ExE.ifp (by omega) (ExE.ifp (by omega) ?_)
  refine ExE.cbind (P := fun y => y = m.2.1.drop (v'.1 + 1).toNat) ⟨_, rfl, rfl⟩ ?_
  rintro y rfl
  exact ExE.ifp (by omega) (ExE.now ⟨by simp only []; omega, by simp only []; omega, by simp only [List.length_append]; omega, v3⟩)
 ·refine ExE.cbind (P := fun _ => True) ⟨_, by unfold cV.f; exact (apply_ite some _ _ _).symm, trivial⟩ ?_
  rintro x -
  refine ExE.cbind (P := fun _ => True) ⟨_, by unfold bM.f; exact (apply_ite some _ _ _).symm, trivial⟩ ?_
  rintro y -
  refine ExE.bind (lm hb u3 y) ?_
  rintro q ⟨q1, q2⟩
  refine ExE.ev (j9 q.1 (by omega)) ?_
  have := ll q.1 []
  exact ExE.now ⟨by simp only []; omega, by simp only []; omega, by simp only [List.length_nil] at this ⊢; omega, q2⟩
theorem iu {b : List Int} (hb : b.length ≤ 17592186044416) {p h : Int} (hp : 0 ≤ p) (n : Int) (hn : n ≤ 9) : ExE (fun k => bh.f k b p h n) (fun r => r.1.length ≤ 9 ∧ 0 ≤ r.2.1) := by
 unfold bh.f
 by_cases h0 : n ≤ 0
 ·apply ExE.step
  ·intro k; rw [bh.l0, if_neg (by omega)]
  ·exact ExE.now ⟨by simp, hp⟩
 obtain ⟨m, rfl⟩ := Int.eq_ofNat_of_zero_le (show 0 ≤ n by omega)
 have hd := down (P := fun i => ∀ (l : List Int) (p h : Int), 0 ≤ p → l.length ≤ i → ExE (fun k => bh.l0 k (m : Int) l (i : Int) b p h) (fun r => r.1.length ≤ 9 ∧ 0 ≤ r.2.1)) m
  (by
   intro l p h hp hl
   apply ExE.step
   ·intro k; rw [bh.l0, if_neg (by omega)]
   ·exact ExE.now ⟨by simp only []; omega, hp⟩)
  (by
   intro i hi ih l p h hp hl
   apply ExE.step
   ·intro k; rw [bh.l0, if_pos (by omega), bU hi (by omega)]
   ·obtain ⟨x, ex, _, _, _, x3⟩ := b5 hb (h := h) hp 9
    refine ExE.cbind (P := fun a => a = x) ⟨x, ex, rfl⟩ ?_
    intro x' e
    subst e
    exact ExE.ifp (by omega) (ih _ _ _ x3 (by rw [List.length_append, List.length_singleton]; omega)))
 exact hd [] p h hp (Nat.zero_le _)
theorem fh {b : List Int} (hb : b.length ≤ 17592186044416) {p h : Int} (hp : 0 ≤ p) (n : Int) : ExE (fun k => b6.f k b p h n) (fun r => r.1.length ≤ 10 ∧ 0 ≤ r.2.1) := by
 unfold b6.f
 refine ExE.cbind (P := fun x => x ≤ 8) ⟨_, by unfold cV.f; exact (apply_ite some _ _ _).symm, by split <;> omega⟩ ?_
 intro x hx
 refine ExE.cbind (P := fun y => y ≤ 8) ⟨_, by unfold bM.f; exact (apply_ite some _ _ _).symm, by split <;> omega⟩ ?_
 intro y hy
 refine ExE.bind (iu hb hp y (by omega)) ?_
 rintro q ⟨q1, q2⟩
 obtain ⟨u, eu, u1, u2, _, u3⟩ := b5 hb (h := q.2.2) q2 12
 refine ExE.cbind (P := fun a => a = u) ⟨u, eu, rfl⟩ ?_
 intro u' e
 subst e
 refine ExE.ite (fun _ => ExE.ifp (by omega) (ExE.now ⟨by simp only [List.length_append, List.length_singleton]; omega, u3⟩)) (fun _ => ExE.ite (fun _ => ExE.ite (fun hl => ?_) (fun _ => ExE.now ⟨by simp only []; omega, u3⟩)) (fun _ => ExE.now ⟨by simp only []; omega, u3⟩))
 obtain ⟨v, ev, v1, v2⟩ := eb hb (h := u'.2.2) u3 (l := [1000, 1001, (-1000), (-1001)]) (by simp)
 refine ExE.cbind (P := fun a => a = v) ⟨v, ev, rfl⟩ ?_
 intro v' e
 subst e
 exact ExE.ifp (by omega) (ExE.now ⟨by simp only [List.length_set]; omega, v2⟩)
def m7 (q : Int × List Int × List Int × Int) : Prop := q.2.1.length ≤ 300 ∧ q.2.2.1.length ≤ 10 ∧ -1 ≤ q.2.2.2 ∧ q.2.2.2 ≤ 7
theorem eJ (l : List Int) (hl : l.length ≤ 17592186044416) : ExE (fun k => bn.f k l) m7 := by
 unfold bn.f
 refine ExE.bind (gI l hl) ?_
 rintro ⟨b, p, h⟩ ⟨rfl, hp⟩
 simp only at hp
 subst hp
 refine ExE.bind (iQ hl (Int.le_refl 0) (by decide) (by decide)) ?_
 rintro m ⟨m1, m2, m3, m4⟩
 obtain ⟨u, eu, u1⟩ := iA hl (h := m.2.2.2) m4 12
 refine ExE.cbind (P := fun a => a = u) ⟨u, eu, rfl⟩ ?_
 intro u' e
 subst e
 have hfin : ∀ (n : Int) (x : List Int) (p h : Int), 0 ≤ p → x.length ≤ 300 → ExE (fun k => (b6.f k b p h n).bind fun y => ((ak.f b y.2.1 y.2.2 8).bind fun z => (some (n, x, y.1, wrap64 (z.1 - 1))))) m7 := by
  intro n x p h hp hx
  refine ExE.bind (fh hl hp n) ?_
  rintro y ⟨y1, y2⟩
  obtain ⟨v, ev, v1, v2, _, v3⟩ := b5 hl (h := y.2.2) y2 8
  refine ExE.cbind (P := fun a => a = v) ⟨v, ev, rfl⟩ ?_
  intro v' e
  subst e
  have v2 := v2 (by omega)
  refine ExE.now ⟨hx, y1, ?_, ?_⟩
  ·show -1 ≤ wrap64 (v'.1 - 1)
   rw [be (by omega) (by omega)]; omega
  ·show wrap64 (v'.1 - 1) ≤ 7
   rw [be (by omega) (by omega)]; omega
 refine ExE.ite (fun _ => ?_) (fun _ => hfin _ _ _ _ u1 (by omega))
 refine ExE.bind (ly hl u1 (by decide) (by decide)) ?_
 rintro q ⟨_, _, q1, q2⟩
 exact hfin _ _ _ _ q2 q1
theorem kz {n : Int} {l w : List Int} (h : (gbB n l w).2 = true) : matB n l = true ∧ areW n w = true := by
 unfold gbB bosB at h
 split at h
 ·rename_i hc
  refine ⟨?_, hc.1⟩
  have h1 := hc.2.1
  unfold eG at h1
  split at h1
  ·assumption
  ·omega
 ·cases h
theorem fY {n3 b3 : Int} {l3 w3 : List Int} (h3 : l3.length ≤ 17592186044416) (h3w : w3.length ≤ 17592186044416) : Ev (fun k => laws_FnGreedy.j7 k w3 b3 (dY n3 l3 w3 b3) false n3 l3) true := by
 apply Ev.step
 ·intro k; rw [laws_FnGreedy.j7]
 refine Ev.ifn (by simp) (Ev.bind (iP n3 l3 w3 h3 h3w) ?_)
 by_cases hk : (gbB n3 l3 w3).2 = true
 ·refine Ev.ifp hk (Ev.bind (dU l3 b3 h3) ?_)
  by_cases hc : l3.contains b3 = true
  ·refine Ev.ifp hc (Ev.bind (cv w3 b3 h3w) (Ev.bind (cv w3 _ h3w) ?_))
   have hm : matB n3 l3 = true ∧ areW n3 w3 = true := kz hk
   obtain ⟨m, L, b, rfl, rfl, hM, hg, hb, hall⟩ := ik hm.1 hm.2
   obtain ⟨c, hcL, rfl⟩ : ∃ c ∈ L, b3 = (c : Int) := by
    have := List.contains_iff_mem.1 hc
    obtain ⟨c, hc, e⟩ := List.mem_map.1 this
    exact ⟨c, hc, e.symm⟩
   have hb3 := jV hM hm.2 hm.1 hcL
   have hwb := (cS hm.2).1
   rw [hg]
   simp only []
   rw [ct hwb (hM.lt c hcL), ct hwb (hM.lt b hb)]
   have hx : dY (m : Int) (ints L) w3 (c : Int) = (wS w3 c == wS w3 b) := by
    rw [Bool.eq_iff_iff, hb3, beq_iff_eq]
    constructor
    ·intro h; have := h b hb; have := hall c hcL; omega
    ·intro h x hx; rw [h]; exact hall x hx
   rw [hx]
   simp only [beq_self_eq_true]
   exact Ev.now _
  ·exact Ev.ifn hc (Ev.now _)
 ·exact Ev.ifn hk (Ev.now _)
theorem eD {n1 n3 b3 : Int} {l1 w1 l3 w3 : List Int} (h1 : l1.length ≤ 17592186044416) (h1w : w1.length ≤ 17592186044416) (h3 : l3.length ≤ 17592186044416) (h3w : w3.length ≤ 17592186044416) : Ev (fun k => if (gbB n1 l1 w1).2 = true then ((aG.f k l1 (gbB n1 l1 w1).1).bind fun t => (if t = true then ((ap.f k n1 l1 w1 (gbB n1 l1 w1).1).bind fun t2 => (laws_FnGreedy.j7 k w3 b3 (dY n3 l3 w3 b3) (!t2) n3 l3)) else (laws_FnGreedy.j7 k w3 b3 (dY n3 l3 w3 b3) true n3 l3))) else (laws_FnGreedy.j7 k w3 b3 (dY n3 l3 w3 b3) false n3 l3)) true := by
 by_cases hk : (gbB n1 l1 w1).2 = true
 ·refine Ev.ifp hk ?_
  have hm := kz hk
  have hm0 := hm.1
  obtain ⟨m, L, b, rfl, rfl, hM, hg, hb, hall⟩ := ik hm.1 hm.2
  have hbest := (jV hM hm.2 hm0 hb).2 hall
  rw [hg]
  refine Ev.bind (dU _ _ h1) (Ev.ifp (gQ.2 hb) (Ev.bind (fX _ _ _ _ h1 h1w) ?_))
  rw [hbest]
  exact fY h3 h3w
 ·exact Ev.ifn hk (fY h3 h3w)
theorem gi {n1 n3 n4 b3 e : Int} {l1 w1 l3 w3 l4 w4 : List Int} (h1 : l1.length ≤ 17592186044416) (h1w : w1.length ≤ 17592186044416) (h3 : l3.length ≤ 17592186044416) (h3w : w3.length ≤ 17592186044416) (h4 : l4.length ≤ 17592186044416) (h4w : w4.length ≤ 17592186044416) (q : Int) (hq : (thrB n4 l4 w4 e).2 = true → (∃ b ∈ l4, bN w4 b = q) ∧ ∀ b ∈ l4, bN w4 b ≤ q) : Ev (fun k => laws_FnGreedy.l2 k w1 (gbB n1 l1 w1).1 (gbB n1 l1 w1).2 w3 b3 (dY n3 l3 w3 b3) w4 e (thrB n4 l4 w4 e).1 (thrB n4 l4 w4 e).2 q false 0 n1 l1 n3 l3 n4 l4) true := by
 have hd := down (P := fun i => ∀ x : Bool, ((thrB n4 l4 w4 e).2 = true → (x = true ↔ ∃ b ∈ l4.take i, hasB b e = true ∧ bN w4 b = q)) → Ev (fun k => laws_FnGreedy.l2 k w1 (gbB n1 l1 w1).1 (gbB n1 l1 w1).2 w3 b3 (dY n3 l3 w3 b3) w4 e (thrB n4 l4 w4 e).1 (thrB n4 l4 w4 e).2 q x (i : Int) n1 l1 n3 l3 n4 l4) true) l4.length
  (by
   intro x hx
   apply Ev.step
   ·intro k; rw [laws_FnGreedy.l2, if_neg (by omega)]
   apply Ev.step
   ·intro k; rw [laws_FnGreedy.j6]
   refine Ev.ifn (by simp) ?_
   by_cases hk : (thrB n4 l4 w4 e).2 = true
   ·refine Ev.ifp hk ?_
    obtain ⟨⟨z, hz, hzq⟩, hmax⟩ := hq hk
    have hx0 := hx hk
    rw [List.take_length] at hx0
    obtain ⟨m, L, f, rfl, rfl, hM, rfl, hf, hw, hm, hiff⟩ := le (y := (thrB n4 l4 w4 e).1) (Prod.ext rfl hk)
    have hwl := (cS hw).2
    have hwb := (cS hw).1
    have hm8 := hM.size
    have hxe : x = decide (rd w4 (f : Int) ≥ (thrB (m : Int) (ints L) w4 (f : Int)).1) := by
     rw [Bool.eq_iff_iff, hx0, decide_eq_true_eq, ge_iff_le, hiff]
     constructor
     ·rintro ⟨b, hb, hb1, hb2⟩
      obtain ⟨c, hc, rfl⟩ := List.mem_map.1 hb
      have hc8 := hM.lt c hc
      rw [hasB_nat] at hb1
      simp only [Bool.and_eq_true] at hb1
      refine ⟨c, hc, hb1.2, fun d hd => ?_⟩
      have := hmax _ (List.mem_map_of_mem hd)
      rw [← hb2] at this
      have e1 := ct hwb (hM.lt d hd)
      have e2 := ct hwb hc8
      rw [← e1, ← e2]; exact this
     ·rintro ⟨c, hc, hcf, hall⟩
      refine ⟨(c : Int), List.mem_map_of_mem hc, ?_, ?_⟩
      ·rw [hasB_nat, decide_eq_true (hM.lt c hc), decide_eq_true (by omega : f < 8), hcf]; rfl
      ·obtain ⟨d, hd, rfl⟩ := List.mem_map.1 hz
       have h5 := hall d hd
       rw [← ct hwb (hM.lt d hd), ← ct hwb (hM.lt c hc)] at h5
       have h6 := hmax _ (List.mem_map_of_mem hc)
       change bN w4 (d : Int) = q at hzq
       change bN w4 (c : Int) ≤ q at h6
       omega
    refine Ev.ifp (by omega) (Ev.ifp (by omega) (Ev.ifn (by rw [hxe]; simp) (eD h1 h1w h3 h3w)))
   ·exact Ev.ifn hk (eD h1 h1w h3 h3w))
  (by
   intro i hi ih x hx
   apply Ev.step
   ·intro k; rw [laws_FnGreedy.l2, if_pos (by omega)]
   apply Ev.step
   ·intro k; rw [laws_FnGreedy.j6, bU hi h4]
   by_cases hk : (thrB n4 l4 w4 e).2 = true
   ·refine Ev.ifp hk ?_
    have hx := hx hk
    have htk : l4.take (i + 1) = l4.take i ++ [l4[i]] := List.take_succ_eq_append_getElem hi
    by_cases h : x = true
    ·refine Ev.ifp h (ih true (fun _ => ?_))
     obtain ⟨b, hb, h5⟩ := hx.1 h
     exact ⟨fun _ => ⟨b, by rw [htk]; exact List.mem_append_left _ hb, h5⟩, fun _ => rfl⟩
    ·have hno : ¬ ∃ b ∈ l4.take i, hasB b e = true ∧ bN w4 b = q := fun hc => h (hx.2 hc)
     refine Ev.ifn h (Ev.ifp (by omega) (Ev.ifp (by omega) (Ev.cbind (specHas_eq _ _) ?_)))
     rw [cf l4 i hi]
     by_cases hh : hasB l4[i] e = true
     ·refine Ev.ifp hh (Ev.bind (cv w4 _ h4w) (ih _ (fun _ => ?_)))
      rw [beq_iff_eq]
      constructor
      ·intro h5; exact ⟨l4[i], (by rw [htk]; exact List.mem_append_right _ (List.mem_singleton.2 rfl)), hh, h5⟩
      ·rintro ⟨b, hb, h5, h6⟩
       rw [htk] at hb
       rcases List.mem_append.1 hb with hb | hb
       ·exact absurd ⟨b, hb, h5, h6⟩ hno
       ·rw [List.mem_singleton.1 hb] at h6; exact h6
     ·refine Ev.ifn hh (ih false (fun _ => ⟨fun h => Bool.noConfusion h, ?_⟩))
      rintro ⟨b, hb, h5, h6⟩
      rw [htk] at hb
      rcases List.mem_append.1 hb with hb | hb
      ·exact absurd ⟨b, hb, h5, h6⟩ hno
      ·rw [List.mem_singleton.1 hb] at h5; exact absurd h5 hh
   ·-- without a threshold the loop ends at once
    refine Ev.ifn hk ?_
    exact Ev.ifn hk (eD h1 h1w h3 h3w))
 exact hd false (fun _ => by simp)
theorem gh {n1 n3 n4 b3 e : Int} {l1 w1 l3 w3 l4 w4 : List Int} (h1 : l1.length ≤ 17592186044416) (h1w : w1.length ≤ 17592186044416) (h3 : l3.length ≤ 17592186044416) (h3w : w3.length ≤ 17592186044416) (h4 : l4.length ≤ 17592186044416) (h4w : w4.length ≤ 17592186044416) : Ev (fun k => laws_FnGreedy.l1 k w1 (gbB n1 l1 w1).1 (gbB n1 l1 w1).2 w3 b3 (dY n3 l3 w3 b3) w4 e (thrB n4 l4 w4 e).1 (thrB n4 l4 w4 e).2 0 false 0 n1 l1 n3 l3 n4 l4) true := by
 have hd := down (P := fun i => ∀ q : Int, (0 < i → (∃ b ∈ l4.take i, bN w4 b = q) ∧ ∀ b ∈ l4.take i, bN w4 b ≤ q) → Ev (fun k => laws_FnGreedy.l1 k w1 (gbB n1 l1 w1).1 (gbB n1 l1 w1).2 w3 b3 (dY n3 l3 w3 b3) w4 e (thrB n4 l4 w4 e).1 (thrB n4 l4 w4 e).2 q false (i : Int) n1 l1 n3 l3 n4 l4) true) l4.length
  (by
   intro q hq
   apply Ev.step
   ·intro k; rw [laws_FnGreedy.l1, if_neg (by omega)]
   apply Ev.step
   ·intro k; rw [laws_FnGreedy.j4]
   refine Ev.ifn (by simp) (gi h1 h1w h3 h3w h4 h4w q (fun hk => ?_))
   obtain ⟨m, L, f, rfl, rfl, hM, rfl, hf, hw, hm, hiff⟩ := le (y := (thrB n4 l4 w4 e).1) (Prod.ext rfl hk)
   have := hq (by rw [aX]; exact List.length_pos_iff.2 hM.some)
   rwa [List.take_length] at this)
  (by
   intro i hi ih q hq
   apply Ev.step
   ·intro k; rw [laws_FnGreedy.l1, if_pos (by omega)]
   apply Ev.step
   ·intro k; rw [laws_FnGreedy.j4, bU hi h4]
   by_cases hk : (thrB n4 l4 w4 e).2 = true
   ·refine Ev.ifp hk (Ev.ifp (by omega) (Ev.ifp (by omega) ?_))
    rw [cf l4 i hi]
    refine Ev.bind (cv w4 _ h4w) ?_
    have htk : l4.take (i + 1) = l4.take i ++ [l4[i]] := List.take_succ_eq_append_getElem hi
    have hself : l4[i] ∈ l4.take (i + 1) := by rw [htk]; exact List.mem_append_right _ (List.mem_singleton.2 rfl)
    have hin : ∀ b ∈ l4.take (i + 1), b ∈ l4.take i ∨ b = l4[i] := by
     intro b hb
     rw [htk] at hb
     rcases List.mem_append.1 hb with hb | hb
     ·exact .inl hb
     ·exact .inr (List.mem_singleton.1 hb)
    by_cases h0 : i = 0
    ·refine Ev.ifp (by omega) (ih _ (fun _ => ⟨⟨_, hself, rfl⟩, ?_⟩))
     intro b hb
     rcases hin b hb with hb | rfl
     ·subst h0; exact absurd hb (List.not_mem_nil)
     ·exact Int.le_refl _
    ·refine Ev.ifn (by omega) ?_
     obtain ⟨⟨z, hz, hzq⟩, hmax⟩ := hq (by omega)
     by_cases hg : bN w4 l4[i] > q
     ·refine Ev.ifp hg (ih _ (fun _ => ⟨⟨_, hself, rfl⟩, ?_⟩))
      intro b hb
      rcases hin b hb with hb | rfl
      ·have := hmax b hb; omega
      ·exact Int.le_refl _
     ·refine Ev.ifn hg (ih _ (fun _ => ⟨⟨z, by rw [htk]; exact List.mem_append_left _ hz, hzq⟩, ?_⟩))
      intro b hb
      rcases hin b hb with hb | rfl
      ·exact hmax b hb
      ·omega
   ·exact Ev.ifn hk (gi h1 h1w h3 h3w h4 h4w q (fun h => absurd h hk)))
 exact hd 0 (fun h => absurd h (Nat.lt_irrefl 0))
theorem jw {n1 n3 n4 b3 e : Int} {l1 w1 l3 w3 l4 w4 : List Int} (h1 : l1.length ≤ 17592186044416) (h1w : w1.length ≤ 17592186044416) (h3 : l3.length ≤ 17592186044416) (h3w : w3.length ≤ 17592186044416) (h4 : l4.length ≤ 17592186044416) (h4w : w4.length ≤ 17592186044416) : Ev (fun k => laws_FnGreedy.j0 k w1 (gbB n1 l1 w1).1 (gbB n1 l1 w1).2 w3 b3 (dY n3 l3 w3 b3) w4 e (thrB n4 l4 w4 e).1 (thrB n4 l4 w4 e).2 false n1 l1 n3 l3 n4 l4) true := by
 have hd := down (P := fun i => Ev (fun k => laws_FnGreedy.l0 k w1 (gbB n1 l1 w1).1 (gbB n1 l1 w1).2 w3 b3 (dY n3 l3 w3 b3) w4 e (thrB n4 l4 w4 e).1 (thrB n4 l4 w4 e).2 0 false (i : Int) n1 l1 n3 l3 n4 l4) true) l1.length
  (by
   apply Ev.step
   ·intro k; rw [laws_FnGreedy.l0, if_neg (by omega)]
   apply Ev.step
   ·intro k; rw [laws_FnGreedy.j2]
   exact Ev.ifn (by simp) (gh h1 h1w h3 h3w h4 h4w))
  (by
   intro i hi ih
   apply Ev.step
   ·intro k; rw [laws_FnGreedy.l0, if_pos (by omega)]
   apply Ev.step
   ·intro k; rw [laws_FnGreedy.j2, bU hi h1]
   by_cases hk : (gbB n1 l1 w1).2 = true
   ·refine Ev.ifp hk (Ev.ifp (by omega) (Ev.ifp (by omega) ?_))
    rw [cf l1 i hi]
    refine Ev.bind (cv w1 _ h1w) (Ev.bind (cv w1 _ h1w) (Ev.ifn ?_ ih))
    have hm := kz hk
    have hi' : l1[i] ∈ l1 := List.getElem_mem hi
    generalize l1[i] = x at hi'
    clear ih
    obtain ⟨m, L, b, rfl, rfl, hM, hg, hb, hall⟩ := ik hm.1 hm.2
    obtain ⟨c, hc, rfl⟩ := List.mem_map.1 hi'
    have hwb := (cS hm.2).1
    have e1 := ct hwb (hM.lt c hc)
    have e2 := ct hwb (hM.lt b hb)
    have e3 := hall c hc
    rw [hg]
    change ¬ (bN w1 (c : Int) > bN w1 (b : Int))
    omega
   ·exact Ev.ifn hk (gh h1 h1w h3 h3w h4 h4w))
 apply Ev.step
 ·intro k; rw [laws_FnGreedy.j0]
 exact Ev.ifn (by simp) hd
end Go.Proofs.YtimkekeaeojpkaaGreat.Q
namespace Go.Proofs.YtimkekeaeojpkaaGreat.Pure
open Go Go.RowKit Go.Proofs.YtimkekeaeojpkaaGreat.A Go.Proofs.YtimkekeaeojpkaaGreatW.PrintWords Go.Proofs.YtimkekeaeojpkaaGreatW.PrintLast Go.Proofs.YtimkekeaeojpkaaGreatW.PrintMore Go.Proofs.YtimkekeaeojpkaaGreat.Z Go.Proofs.YtimkekeaeojpkaaGreat.Q
set_option linter.unusedVariables false
set_option linter.unusedSimpArgs false
theorem lE (l : List Int) (hl : l.length ≤ 17592186044416) : ExE (fun k => ca.f k l) (fun r => r.2.1.length ≤ 300 ∧ r.2.2.length ≤ 10) := by
 unfold ca.f
 exact ExE.bind (eJ l hl) (fun a ha => ExE.now ⟨ha.1, ha.2.1⟩)
theorem kv (l : List Int) (hl : l.length ≤ 17592186044416) : ExE (fun k => cb.f k l) (fun r => r.2.1.length ≤ 300 ∧ r.2.2.1.length ≤ 10) := by
 unfold cb.f
 exact ExE.bind (eJ l hl) (fun a ha => ExE.now ⟨ha.1, ha.2.1⟩)
theorem kj (l : List Int) (hl : l.length ≤ 17592186044416) : ExE (fun k => bY.f k l) (fun r => r.2.1.length ≤ 300 ∧ r.2.2.1.length ≤ 10 ∧ (Lit.int .i64 r.2.2.2).wf = true) := by
 unfold bY.f
 refine ExE.bind (eJ l hl) (fun a ha => ExE.now ⟨ha.1, ha.2.1, ?_⟩)
 have h1 := ha.2.2.1
 have h2 := ha.2.2.2
 exact mO (show -9223372036854775808 ≤ a.2.2.2 by omega) (show a.2.2.2 < 9223372036854775808 by omega)
theorem jS (l : List Int) (hl : l.length ≤ 17592186044416) : ExE (fun k => bd.f k l) (fun r => r.2.1.length ≤ 300 ∧ r.2.2.1.length ≤ 10) := by
 unfold bd.f
 refine ExE.bind (eJ l hl) (fun a ha => ?_)
 refine ExE.ite (fun h => ExE.ite (fun h2 => ?_) (fun _ => ExE.now ⟨ha.1, ha.2.1⟩)) (fun _ => ExE.now ⟨ha.1, ha.2.1⟩)
 have e1 := Int.tmod_nonneg (a.2.1.length : Int) h2
 have e2 := Int.tmod_lt_of_pos a.2.2.2 h
 exact ExE.ite (fun h3 => absurd h3 (by omega)) (fun _ => ExE.ifp e1 (ExE.ifp e2 (ExE.now ⟨ha.1, ha.2.1⟩)))
theorem jZ (l : List Int) (hl : l.length ≤ 17592186044416) : ExE (fun k => cd.f k l) (fun r => r.2.length ≤ 10) := by
 unfold cd.f
 refine ExE.bind (gI l hl) ?_
 rintro ⟨b, p, h⟩ ⟨rfl, hp⟩
 simp only at hp
 subst hp
 obtain ⟨x, ex, _, _, _, x3⟩ := b5 hl (h := h) (Int.le_refl 0) 10
 refine ExE.cbind (P := fun a => a = x) ⟨x, ex, rfl⟩ ?_
 rintro a rfl
 refine ExE.bind (fh hl x3 _) ?_
 rintro y ⟨y1, y2⟩
 exact ExE.now y1
theorem kG (l : List Int) (hl : l.length ≤ 17592186044416) : ExE (fun k => cl.f k l) (fun r => r.1.length ≤ 10) := by
 unfold cl.f
 refine ExE.bind (gI l hl) ?_
 rintro ⟨b, p, h⟩ ⟨rfl, hp⟩
 simp only at hp
 subst hp
 obtain ⟨x, ex, _, _, _, x3⟩ := b5 hl (h := h) (Int.le_refl 0) 8
 refine ExE.cbind (P := fun a => a = x) ⟨x, ex, rfl⟩ ?_
 rintro a rfl
 refine ExE.bind (fh hl x3 _) ?_
 rintro y ⟨y1, y2⟩
 obtain ⟨z, ez, _⟩ := iS hl (h := y.2.2) y2
 refine ExE.cbind (P := fun a => a = z) ⟨z, ez, rfl⟩ ?_
 rintro a rfl
 exact ExE.now y1
theorem FnGreedy : laws_FnGreedy.Pure := by
 intro l0 hm hm1 hw
 unfold laws_FnGreedy.f
 refine Ev.rounds ?_
 refine Ev.cbind rfl ?_
 by_cases hb : (l0.length : Int) > 1048576
 ·exact Ev.ifp (decide_eq_true hb) (Ev.now _)
 refine Ev.ifn (by simpa using hb) ?_
 have hl0 : l0.length ≤ 17592186044416 := by omega
 obtain ⟨⟨n1, l1, w1⟩, d1, p1, q1⟩ := lE l0 hl0
 obtain ⟨⟨n2, l2, w2, c2⟩, d2, p2, q2⟩ := kv l0 hl0
 obtain ⟨⟨n3, l3, w3, c3⟩, d3, p3, q3⟩ := jS l0 hl0
 obtain ⟨⟨n4, l4, w4, c4⟩, d4, p4, q4, r4⟩ := kj l0 hl0
 obtain ⟨⟨n5, w5⟩, d5, p5⟩ := jZ l0 hl0
 obtain ⟨⟨w6, s6⟩, d6, p6⟩ := kG l0 hl0
 simp only at p1 q1 p2 q2 p3 q3 p4 q4 r4 p5 p6
 have h : ∀ {a b : Nat}, a ≤ b → b ≤ 300 → a ≤ 17592186044416 := fun h1 h2 => by omega
 have h1 := h p1 (by decide)
 have h1w := h q1 (by decide)
 have h2 := h p2 (by decide)
 have h2w := h q2 (by decide)
 have h3 := h p3 (by decide)
 have h3w := h q3 (by decide)
 have h4 := h p4 (by decide)
 have h4w := h q4 (by decide)
 refine Ev.bind d1 (Ev.bind (lw n1 l1 w1 h1 h1w) (Ev.bind (iP n1 l1 w1 h1 h1w) (Ev.bind d2 (Ev.bind (kc n2 l2 w2 c2 h2 h2w) (Ev.bind (iq n2 l2 w2 c2 h2 h2w) (Ev.bind d3 (Ev.bind (fX n3 l3 w3 c3 h3 h3w) (Ev.bind d4 (Ev.bind (kL n4 l4 w4 c4 r4 h4 h4w) (Ev.bind (kI n4 l4 w4 c4 r4 h4 h4w) (Ev.bind d5 (Ev.bind d6 ?_))))))))))))
 refine Ev.ifn (by simp) (Ev.ifp rfl (Ev.ifn (by simp) (Ev.ifp rfl (Ev.bind (jR n3 l3 w3 c3 h3 h3w) (Ev.ifn (by simp) (Ev.ifn (by simp) (Ev.ifp rfl (Ev.bind (dq n5 w5 (h p5 (by decide))) (Ev.bind (dp n5 w5 (h p5 (by decide))) (Ev.ifn (by simp) (Ev.bind (dC w6 s6 (h p6 (by decide))) (Ev.bind (cv w6 s6 (h p6 (by decide))) ?_))))))))))))
 rw [show (bN w6 s6 != bN w6 s6) = false from by simp]
 exact jw h1 h1w h3 h3w h4 h4w
end Go.Proofs.YtimkekeaeojpkaaGreat.Pure
