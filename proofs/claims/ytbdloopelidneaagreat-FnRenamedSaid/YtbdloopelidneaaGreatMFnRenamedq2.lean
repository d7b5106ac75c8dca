/- The pure side of the law FnRenamed: what the Lean functions of the print compute, and that the law holds of them. Conditions: those in each lemma. -/
import Derived.Test.YtbdloopelidneaaGreatMFnRenamed1
import Derived.Test.YtbdloopelidneaaGreatMFnRenamed2
import Derived.Test.YtbdloopelidneaaGreatMFnRenamed3
import Derived.Test.YtbdloopelidneaaGreatMFnRenamed4
import Derived.Test.YtbdloopelidneaaGreatMFnRenamed5
import Derived.Test.YtbdloopelidneaaGreatMFnRenamed6
import Derived.Test.YtbdloopelidneaaGreatMFnRenamed7
import Derived.Test.YtbdloopelidneaaGreatMFnRenamed8
import Derived.Test.YtbdloopelidneaaGreatMFnRenamed9
import Derived.Test.YtbdloopelidneaaGreatMFnRenamed10
import Derived.Test.YtbdloopelidneaaGreatMFnRenamed11
import Derived.Test.YtbdloopelidneaaGreatMFnRenamed12
import Derived.Test.YtbdloopelidneaaGreatMFnRenamedq0
import Derived.Test.YtbdloopelidneaaGreatMFnRenamedq1
namespace Go.Proofs.YtbdloopelidneaaGreat.Q
open Go Go.RowKit Go.Proofs.YtbdloopelidneaaGreat.A Go.Proofs.YtbdloopelidneaaGreatW.PrintWords Go.Proofs.YtbdloopelidneaaGreatW.PrintLast Go.Proofs.YtbdloopelidneaaGreatW.PrintMore Go.Proofs.YtbdloopelidneaaGreat.Z
set_option linter.unusedVariables false
set_option linter.unusedSimpArgs false
theorem iF {n : Int} {w : List Int} (h : dv n w = true) : (w.length : Int) = n := by
 simp only [dv, Bool.and_eq_true, decide_eq_true_eq] at h; exact h.1.1
def dj (n : Int) (l w : List Int) : Int × List Int × Bool := if (matB n l && dv n w) = true then (n, dB [] (ints ((l.map Int.toNat).map (bM w))), true) else (0, [], false)
theorem eW (n : Int) (l w : List Int) : (dj n l w).2.1.length ≤ l.length := by
 unfold dj; by_cases h : (matB n l && dv n w) = true
 ·rw [if_pos h]; have := fd (ints ((l.map Int.toNat).map (bM w))) []; rw [aA, List.length_map, List.length_map, List.length_nil, Nat.zero_add] at this; exact this
 ·rw [if_neg h]; exact Nat.zero_le _
theorem e7 (n : Int) (l w : List Int) (hl : l.length ≤ 8796093022208) (hw : w.length ≤ 17592186044416) : Ev (fun k => aY.f k n l w) (dj n l w) := by
 unfold aY.f dj; refine Ev.bind (dW n l (by omega)) ?_; by_cases h : matB n l = true
 ·rw [h, Bool.true_and]; refine Ev.ifp rfl (Ev.bind (fN n w hw) ?_); by_cases h2 : dv n w = true
  ·rw [if_pos h2]; obtain ⟨m, L, rfl, hm, rfl, _, h256, _⟩ := eb h; rw [aA] at hl; have hwm : (w.length : Int) = (m : Int) := iF h2; rw [← hwm] at h2; obtain ⟨h8, hmem⟩ := en h2; rw [show (ints L).map Int.toNat = L from cK L]; rw [← hwm]; exact Ev.ifp h2 (Ev.bind (eE w L hw hl hmem h256) (Ev.now _))
  ·rw [if_neg h2]; exact Ev.ifn h2 (Ev.now _)
 ·rw [Bool.eq_false_iff.2 h, Bool.false_and]; exact Ev.ifn (by decide) (Ev.now _)
theorem iZ (n : Int) (l w : List Int) (hl : l.length ≤ 8796093022208) (hw : w.length ≤ 17592186044416) : Ev (fun k => ce.f k n l w) (dj n l w) := by
 unfold ce.f dj; refine Ev.bind (eD n l (by omega)) ?_; by_cases h : matB n l = true
 ·rw [h, Bool.true_and]; refine Ev.ifp rfl (Ev.bind (fX n w hw) ?_); by_cases h2 : dv n w = true
  ·rw [if_pos h2]; obtain ⟨m, L, rfl, hm, rfl, hlt, h256, _⟩ := eb h; rw [aA] at hl; have hwm : (w.length : Int) = (m : Int) := iF h2; rw [← hwm] at h2; obtain ⟨h8, hmem⟩ := en h2; have e : w.length = m := by omega
   rw [show (ints L).map Int.toNat = L from cK L]; rw [← hwm]; exact Ev.ifp h2 (Ev.bind (eL _ w L hl h8 hmem (by rw [e]; exact hlt)) (Ev.now _))
  ·rw [if_neg h2]; exact Ev.ifn h2 (Ev.now _)
 ·rw [Bool.eq_false_iff.2 h, Bool.false_and]; exact Ev.ifn (by decide) (Ev.now _)
theorem i9 {b : List Int} (hb : b.length ≤ 17592186044416) {p h : Int} (hp : 0 ≤ p) (m : Nat) (hm : m ≤ 9) : ExE (fun k => bp.f k b p h (m : Int)) (fun r => r.1.length = m ∧ 0 ≤ r.2.1) := by
 unfold bp.f; have hd := down (P := fun i => ∀ (l : List Int) (p h : Int), 0 ≤ p → l.length = i → ExE (fun k => bp.l0 k (m : Int) l (i : Int) b p h) (fun r => r.1.length = m ∧ 0 ≤ r.2.1)) m
  (by
   intro l p h hp hl
   apply ExE.step
   ·intro k; rw [bp.l0, if_neg (by omega)]
   ·exact ExE.now ⟨hl, hp⟩)
  (by
   intro i hi ih l p h hp hl; subst hl
   apply ExE.step
   ·intro k; rw [bp.l0, if_pos (by omega), ck hi (by omega)]
   ·obtain ⟨x, ex, x0, x1, _, x3⟩ := cI hb (h := h) hp ((l.length + 1 : Nat) : Int); refine ExE.cbind (P := fun a => a = x) ⟨x, ex, rfl⟩ ?_; intro x' e; subst e; have x1 := x1 (by omega); refine ExE.cbind (P := fun a => a = ([] : List Int)) ⟨[], rfl, rfl⟩ ?_; intro y e; subst e; refine ExE.ifp x0 (ExE.ifp (by omega) ?_); refine ExE.cbind (P := fun a => a = l.drop x'.1.toNat) ⟨_, rfl, rfl⟩ ?_; intro y e; subst e; refine ExE.ifp (by rw [List.length_drop]; simp; omega) ?_; refine ExE.cbind (P := fun a => a = [] ++ l.drop x'.1.toNat) ⟨_, rfl, rfl⟩ ?_; intro y e; subst e; refine ExE.cbind (P := fun a => a = l.take x'.1.toNat) ⟨_, rfl, rfl⟩ ?_; intro y e; subst e; refine ExE.ifp (by rw [List.length_take]; omega) ?_; refine ExE.cbind (P := fun a => a = l.take x'.1.toNat ++ [(l.length : Int)]) ⟨_, rfl, rfl⟩ ?_; intro y e; subst e; refine ExE.ifp (by simp only [List.length_append, List.length_take, List.length_drop, List.length_singleton, List.length_nil]; omega) ?_; exact ih _ _ _ x3 (by simp only [List.length_append, List.length_take, List.length_drop, List.length_singleton, List.length_nil]; omega))
 exact hd [] p h hp rfl
theorem gj {b : List Int} (hb : b.length ≤ 17592186044416) {p h : Int} (hp : 0 ≤ p) (n : Int) (hn : 0 ≤ n) (h9 : n ≤ 9) : ExE (fun k => db.f k b p h n) (fun r => r.1.length ≤ 10 ∧ 0 ≤ r.2.1) := by
 obtain ⟨m, rfl⟩ := Int.eq_ofNat_of_zero_le hn; unfold db.f; refine ExE.bind (i9 hb hp m (by omega)) ?_; rintro q ⟨q1, q2⟩; obtain ⟨u, eu, u1, u2, _, u3⟩ := cI hb (h := q.2.2) q2 8; refine ExE.cbind (P := fun a => a = u) ⟨u, eu, rfl⟩ ?_; intro u' e; subst e; refine ExE.ite (fun _ => ExE.ifp (by omega) (ExE.now ⟨by simp only [List.length_append, List.length_singleton]; omega, u3⟩)) (fun _ => ExE.ite (fun _ => ExE.ite (fun hl => ?_) (fun _ => ExE.now ⟨by simp only []; omega, u3⟩)) (fun _ => ExE.now ⟨by simp only []; omega, u3⟩)); obtain ⟨v, ev, v1, v2⟩ := dR hb (h := u'.2.2) u3 (l := [(-1), (m : Int), 0]) (by simp); refine ExE.cbind (P := fun a => a = v) ⟨v, ev, rfl⟩ ?_; intro v' e; subst e; exact ExE.ifp (by omega) (ExE.now ⟨by simp only [List.length_set]; omega, v2⟩)
theorem lN (l : List Int) (hl : l.length ≤ 17592186044416) : ExE (fun k => bi.f k l) (fun r => r.2.1.length ≤ 300 ∧ r.2.2.length ≤ 10) := by
 unfold bi.f; refine ExE.bind (fq l hl) ?_; rintro ⟨b, p, h⟩ ⟨rfl, hp⟩; simp only at hp; subst hp; refine ExE.bind (gH hl (Int.le_refl 0) (by decide) (by decide)) ?_; rintro q ⟨_, _, q3, q4⟩; refine ExE.cbind (P := fun x => x ≤ 8) ⟨_, by unfold dJ.f; exact (apply_ite some _ _ _).symm, by split <;> omega⟩ ?_; intro x hx; refine ExE.cbind (P := fun y => 0 ≤ y ∧ y ≤ 8) ⟨_, by unfold dI.f; exact (apply_ite some _ _ _).symm, by split <;> omega⟩ ?_; intro y hy; refine ExE.bind (gj hl q4 y hy.1 (by omega)) ?_; rintro z ⟨z1, z2⟩; exact ExE.now ⟨q3, z1⟩
theorem lC (l : List Int) (hl : l.length ≤ 17592186044416) : ExE (fun k => bl.f k l) (fun r => r.2.1.length ≤ 300 ∧ r.2.2.2.length ≤ 300) := by
 unfold bl.f; refine ExE.bind (fq l hl) ?_; rintro ⟨b, p, h⟩ ⟨rfl, hp⟩; simp only at hp; subst hp; refine ExE.bind (jh hl (Int.le_refl 0) (by decide) (by decide)) ?_; rintro q ⟨q1, q2, q3, q4⟩; obtain ⟨u, eu, u1⟩ := gS hl (h := q.2.2.2) q4 3; refine ExE.cbind (P := fun a => a = u) ⟨u, eu, rfl⟩ ?_; intro u' e; subst e; refine ExE.ite (fun _ => ?_) (fun _ => ?_)
 ·refine ExE.bind (gH hl u1 (by decide) (by decide)) ?_; rintro z ⟨_, _, z3, z4⟩; exact ExE.now ⟨by simp only []; omega, z3⟩
 ·obtain ⟨m, hm⟩ := Int.eq_ofNat_of_zero_le q1; rw [hm] at q2 ⊢; refine ExE.bind (i9 hl u1 m (by omega)) ?_; rintro z ⟨z1, z2⟩; refine ExE.ev (e7 _ _ _ (by omega) (by omega)) (ExE.now ⟨by simp only []; omega, ?_⟩); have := eW (m : Int) q.2.1 z.1; simp only []; omega
theorem lL (l : List Int) (hl : l.length ≤ 17592186044416) : ExE (fun k => cT.f k l) (fun r => r.1.length ≤ 10) := by
 unfold cT.f; refine ExE.bind (fq l hl) ?_; rintro ⟨b, p, h⟩ ⟨rfl, hp⟩; simp only at hp; subst hp; obtain ⟨u, eu, u1, u2, _, u3⟩ := cI hl (h := h) (Int.le_refl 0) 8; refine ExE.cbind (P := fun a => a = u) ⟨u, eu, rfl⟩ ?_; intro u' e; subst e; have u2 := u2 (by decide); refine ExE.bind (gj hl u3 _ u1 (by omega)) ?_; rintro z ⟨z1, z2⟩; refine ExE.ifp (dt _) ?_; obtain ⟨v, ev, _⟩ := cI hl (h := z.2.2) z2 (wrap64 ((shl .i64 1 (IntKind.u64.wrap (u'.1))) + 1)); refine ExE.cbind (P := fun a => a = v) ⟨v, ev, rfl⟩ ?_; intro v' e; subst e; exact ExE.now z1
theorem ly (l : List Int) (hl : l.length ≤ 17592186044416) : ExE (fun k => cL.f k l) (fun r => r.2.length ≤ 10) := by
 unfold cL.f; refine ExE.bind (fq l hl) ?_; rintro ⟨b, p, h⟩ ⟨rfl, hp⟩; simp only at hp; subst hp; obtain ⟨u, eu, u1, u2, _, u3⟩ := cI hl (h := h) (Int.le_refl 0) 9; refine ExE.cbind (P := fun a => a = u) ⟨u, eu, rfl⟩ ?_; intro u' e; subst e; have u2 := u2 (by decide); refine ExE.bind (gj hl u3 _ u1 (by omega)) ?_; rintro z ⟨z1, z2⟩; obtain ⟨v, ev, v1⟩ := gS hl (h := z.2.2) z2 8; refine ExE.cbind (P := fun a => a = v) ⟨v, ev, rfl⟩ ?_; intro v' e; subst e; refine ExE.ite (fun _ => ?_) (fun _ => ExE.now z1); obtain ⟨t, et, t1, t2⟩ := dR hl (h := v'.2.2) v1 (l := [(-1), 9, 3]) (by simp); refine ExE.cbind (P := fun a => a = t) ⟨t, et, rfl⟩ ?_; intro t' e; subst e; exact ExE.now z1
theorem lR (l : List Int) (hl : l.length ≤ 17592186044416) : ExE (fun k => dc.f k l) (fun r => r.2.length ≤ 300) := by
 unfold dc.f; refine ExE.bind (fq l hl) ?_; rintro ⟨b, p, h⟩ ⟨rfl, hp⟩; simp only at hp; subst hp; refine ExE.bind (gH hl (Int.le_refl 0) (by decide) (by decide)) ?_; rintro q ⟨_, _, q3, q4⟩; exact ExE.now q3
def lexB : List Int → List Int → Bool
 | x :: xs, y :: ys => if x = y then lexB xs ys else decide (x < y)
 | _, _ => false
theorem eq : ∀ X : List Int, lexB X X = false
 | [] => rfl
 | x :: xs => by
  unfold lexB; rw [if_pos rfl]; exact eq xs
def befB (X Y : List Int) : Bool := if X.length = Y.length then lexB X Y else decide (X.length < Y.length)
theorem iY (X Y : List Int) (hx : X.length ≤ 17592186044416) : Ev (fun k => b1.f k X Y) (befB X Y) := by
 unfold b1.f befB; by_cases h : X.length = Y.length
 rotate_left
 ·rw [if_neg h]; refine Ev.ifn (by omega) ?_; rw [show decide ((X.length : Int) < (Y.length : Int)) = decide (X.length < Y.length) from by rw [Bool.eq_iff_iff, decide_eq_true_eq, decide_eq_true_eq]; omega]; exact Ev.now _
 rw [if_pos h]; refine Ev.ifp (by omega) ?_; have hd := down (P := fun i => Ev (fun k => b1.l0 k X Y (i : Int)) (lexB (X.drop i) (Y.drop i))) X.length
  (by
   apply Ev.step
   ·intro k; rw [b1.l0, if_neg (by omega)]
   ·rw [List.drop_length]; exact Ev.now _)
  (by
   intro i hi ih; have hi2 : i < Y.length := by omega
   apply Ev.step
   ·intro k; rw [b1.l0, if_pos (by omega), if_pos (by omega), if_pos (by omega), bK X i hi, bK Y i hi2, ck hi hx]
   ·rw [cH X i hi, cH Y i hi2]; simp only [lexB]; by_cases he : X[i] = Y[i]
    ·rw [if_pos he]; exact Ev.ifp he ih
    ·rw [if_neg he]; exact Ev.ifn he (Ev.now _))
 exact hd
theorem jd (a b : Int) : cU.f a b = some (if a < b then -1 else if a > b then 1 else 0) := by
 have h : ∀ x : Int, ca.f x = some false := fun x => by unfold ca.f; simp
 unfold cU.f; rw [h, h, Option.bind_some, Option.bind_some, if_neg (by decide), if_neg (by decide)]; by_cases h1 : a < b
 ·rw [if_pos h1, if_pos h1]
 ·rw [if_neg h1, if_neg h1]; by_cases h2 : a > b
  ·rw [if_pos h2, if_pos h2]
  ·rw [if_neg h2, if_neg h2]
theorem ig (X Y : List Int) (h : X.length = Y.length) (hx : X.length ≤ 17592186044416) : ∃ c : Int, (c < 0 ↔ lexB X Y = true) ∧ Ev (fun k => ax.f k X Y) c := by
 have hd := down (P := fun i => ∃ c : Int, (c < 0 ↔ lexB (X.drop i) (Y.drop i) = true) ∧ Ev (fun k => ax.l0 k X Y X (X.length : Int) (i : Int)) c) X.length
  (by
   refine ⟨0, by rw [List.drop_length]; simp [lexB], ?_⟩
   apply Ev.step
   ·intro k; rw [ax.l0, if_neg (by omega), if_neg (by omega)]
   ·exact Ev.now _)
  (by
   intro i hi ih; obtain ⟨c, hc, ih⟩ := ih; have hi2 : i < Y.length := by omega
   by_cases he : X[i] = Y[i]
   ·refine ⟨c, by rw [hc, cH X i hi, cH Y i hi2]; simp only [lexB]; rw [if_pos he], ?_⟩; have e0 : cU.f X[i] Y[i] = some 0 := by rw [jd, if_neg (by omega), if_neg (by omega)]
    apply Ev.step
    ·intro k; rw [ax.l0, if_pos (by omega), if_pos (by omega), if_pos (by omega), if_neg (by omega), if_pos (by omega), bK X i hi, bK Y i hi2, e0, Option.bind_some, if_pos rfl, ck hi hx]
    ·exact ih
   ·refine ⟨if X[i] < Y[i] then -1 else 1, ?_, ?_⟩
    ·rw [cH X i hi, cH Y i hi2]; simp only [lexB]; rw [if_neg he]; by_cases hl : X[i] < Y[i]
     ·rw [if_pos hl, decide_eq_true hl]; simp
     ·rw [if_neg hl, decide_eq_false hl]; simp
    ·have e1 : cU.f X[i] Y[i] = some (if X[i] < Y[i] then -1 else 1) := by
      rw [jd]; by_cases hl : X[i] < Y[i]
      ·rw [if_pos hl, if_pos hl]
      ·rw [if_neg hl, if_neg hl, if_pos (by omega)]
     apply Ev.step
     ·intro k; rw [ax.l0, if_pos (by omega), if_pos (by omega), if_pos (by omega), if_neg (by omega), if_pos (by omega), bK X i hi, bK Y i hi2, e1, Option.bind_some]
     ·exact Ev.ifn (by split <;> decide) (Ev.now _))
 exact hd
end Go.Proofs.YtbdloopelidneaaGreat.Q
namespace Go.Proofs.YtbdloopelidneaaGreat.Q
open Go Go.RowKit Go.Proofs.YtbdloopelidneaaGreatW.PrintWords Go.Proofs.YtbdloopelidneaaGreatW.PrintLast Go.Proofs.YtbdloopelidneaaGreatW.PrintMore Go.Proofs.YtbdloopelidneaaGreat.Z
set_option linter.unusedVariables false
set_option linter.unusedSimpArgs false
theorem kM (l : List Int) (j : Nat) : ∀ (es : List Nat) (acc : Nat), (ef l acc es).testBit j = true ↔ acc.testBit j = true ∨ ∃ e ∈ es, (rd l (e : Int)).toNat = j := by
 intro es
 induction es with
 | nil => intro acc; simp [ef]
 | cons e es ih =>
  intro acc; have h := ih (acc ||| 2 ^ (rd l (e : Int)).toNat); unfold ef at h ⊢; rw [List.foldl_cons, h, Nat.testBit_or, Bool.or_eq_true, Nat.testBit_two_pow, decide_eq_true_eq]
  constructor
  ·rintro ((h1 | h1) | ⟨x, h1, h2⟩)
   ·exact .inl h1
   ·exact .inr ⟨e, List.mem_cons_self .., h1⟩
   ·exact .inr ⟨x, List.mem_cons_of_mem _ h1, h2⟩
  ·rintro (h1 | ⟨x, h1, h2⟩)
   ·exact .inl (.inl h1)
   ·rcases List.mem_cons.1 h1 with rfl | h1
    ·exact .inl (.inr h2)
    ·exact .inr ⟨x, h1, h2⟩
theorem renSetN_bit (l : List Int) (s j : Nat) : (bM l s).testBit j = true ↔ ∃ e, e < l.length ∧ s.testBit e = true ∧ (rd l (e : Int)).toNat = j := by
 unfold bM; rw [kM, Nat.zero_testBit]
 constructor
 ·rintro (h | ⟨e, h1, h2⟩)
  ·cases h
  ·rw [List.mem_filter, List.mem_range] at h1; exact ⟨e, h1.1, h1.2, h2⟩
 ·rintro ⟨e, h1, h2, h3⟩; exact .inr ⟨e, List.mem_filter.2 ⟨List.mem_range.2 h1, h2⟩, h3⟩
theorem fh {p : List Nat} {e : Nat} (h : e < p.length) : rd (ints p) (e : Int) = (p[e] : Int) := by
 unfold ints; rw [bK _ e (by rw [List.length_map]; exact h), List.getElem_map]
theorem g1 {p : List Nat} (hp : p.Nodup) {s t : Nat} (hs : s < 2 ^ p.length) (ht : t < 2 ^ p.length) (h : bM (ints p) s = bM (ints p) t) : s = t := by
 have hl : (ints p).length = p.length := by unfold ints; rw [List.length_map]
 have key : ∀ {a b : Nat}, bM (ints p) a = bM (ints p) b → a < 2 ^ p.length → ∀ i, a.testBit i = true → b.testBit i = true := by
  intro a b hab ha i hi; have hi2 : i < p.length := by
   refine Classical.byContradiction fun hc => ?_
   rw [Nat.testBit_lt_two_pow (Nat.lt_of_lt_of_le ha (Nat.pow_le_pow_right (by decide) (by omega)))] at hi; cases hi
  have h1 : (bM (ints p) a).testBit p[i] = true := (renSetN_bit _ _ _).2 ⟨i, by omega, hi, by rw [fh hi2]; rfl⟩; rw [hab] at h1; obtain ⟨e, h2, h3, h4⟩ := (renSetN_bit _ _ _).1 h1; rw [hl] at h2; rw [fh h2, Int.toNat_natCast] at h4; have hpw := List.pairwise_iff_getElem.1 hp; have : e = i := by
   rcases Nat.lt_trichotomy e i with hlt | he | hlt
   ·exact absurd h4 (hpw e i h2 hi2 hlt)
   ·exact he
   ·exact absurd h4.symm (hpw i e hi2 h2 hlt)
  rw [← this]; exact h3
 apply Nat.eq_of_testBit_eq
 intro i; rw [Bool.eq_iff_iff]; exact ⟨key h hs i, key h.symm ht i⟩
theorem hH {L : List Nat} (h : L.Nodup) : (dB [] (ints L)).length = L.length := by
 have hp := dY (ints L) [] List.Pairwise.nil; have h1 : (dB [] (ints L)).Nodup := hp.imp (fun hlt he => by omega); have h2 : (ints L).Nodup := by
  unfold ints; rw [List.nodup_iff_pairwise_ne, List.pairwise_map]; exact h.imp (fun hne he => hne (by omega))
 have hmem : ∀ a, a ∈ dB [] (ints L) ↔ a ∈ ints L := fun a => by rw [sortO_mem]; simp
 have h3 := ((List.perm_ext_iff_of_nodup h1 h2).2 hmem).length_eq; rw [h3, aA]
theorem mb {m : Nat} {L p : List Nat} (hL : ∀ b ∈ L, b < 2 ^ m) (hn : L.Nodup) (hp : p.Nodup) (hm : p.length = m) : (dB [] (ints (L.map (bM (ints p))))).length = L.length := by
 rw [hH, List.length_map]; rw [List.Nodup, List.pairwise_map]; refine List.Pairwise.imp_of_mem (fun {a b} ha hb hne he => ?_) hn; exact hne (g1 hp (by rw [hm]; exact hL a ha) (by rw [hm]; exact hL b hb) he)
theorem kL {l : List Int} {a b : Nat} : ∀ {es : List Nat}, ej l a b es = none → ∀ e ∈ es, fL l a b e = true := by
 intro es
 induction es with
 | nil => intro _ e he; simp at he
 | cons x es ih =>
  intro h e he; simp only [ej] at h; by_cases hx : fL l a b x = true
  ·rw [if_pos hx] at h; rcases List.mem_cons.1 he with rfl | he
   ·exact hx
   ·exact ih h e he
  ·rw [if_neg hx] at h; cases h
theorem kK {l : List Int} {a : Nat} : ∀ {bs : List Nat}, eJ l a bs = none → ∀ b ∈ bs, ej l a b (els (dif a b)) = none := by
 intro bs
 induction bs with
 | nil => intro _ e he; simp at he
 | cons x bs ih =>
  intro h b hb; simp only [eJ] at h; cases hx : ej l a x (els (dif a x)) with
  | none =>
   rw [hx] at h; rcases List.mem_cons.1 hb with rfl | hb
   ·exact hx
   ·exact ih h b hb
  | some e => rw [hx] at h; cases h
theorem kp {l : List Int} {L : List Nat} : ∀ {la : List Nat}, eX l L la = none → ∀ a ∈ la, eJ l a L = none := by
 intro la
 induction la with
 | nil => intro _ e he; simp at he
 | cons x la ih =>
  intro h b hb; simp only [eX] at h; cases hx : eJ l x L with
  | none =>
   rw [hx] at h; rcases List.mem_cons.1 hb with rfl | hb
   ·exact hx
   ·exact ih h b hb
  | some e => rw [hx] at h; cases h
theorem ints_mem {L : List Nat} {x : Nat} : (ints L).contains (x : Int) = true ↔ x ∈ L := by
 rw [List.contains_iff_mem]; unfold ints; rw [List.mem_map]
 constructor
 ·rintro ⟨y, hy, he⟩; have : y = x := by omega
  subst this; exact hy
 ·intro h; exact ⟨x, h, rfl⟩
theorem ee {n : Int} {l : List Int} (h : matB n l = true) : ∃ (m : Nat) (L : List Nat), n = m ∧ l = ints L ∧ Mat m L ∧ L.Pairwise (· < ·) := by
 have h0 := h; obtain ⟨m, L, rfl, hm, rfl, hL, hL256, hp, hne⟩ := eb h; refine ⟨m, L, rfl, rfl, ⟨hm, hL, hne, ?_⟩, hp⟩; simp only [matB, Bool.and_eq_true] at h0; obtain ⟨hf, _, hff⟩ := h0; unfold ib at hff; rw [if_pos hf, show (ints L).map Int.toNat = L from cK L] at hff; cases hA : eX (ints L) L L with
 | some x => rw [hA] at hff; simp [told] at hff
 | none =>
  intro a ha b hb e he hae hbe; have h1 := kL (kK (kp hA a ha) b hb) e (gy.2 ⟨he, by rw [dif_bit, hae, hbe]; rfl⟩); unfold fL at h1; obtain ⟨f, hf', hc⟩ := List.any_eq_true.1 h1; obtain ⟨hf8, hfb⟩ := gy.1 hf'; rw [dif_bit] at hfb; simp only [Bool.and_eq_true, Bool.not_eq_true'] at hfb; exact ⟨f, hf8, hfb.1, hfb.2, ints_mem.1 hc⟩
theorem jH {m : Nat} {L : List Nat} (h : Mat m L) (hp : L.Pairwise (· < ·)) : matB (m : Int) (ints L) = true := by
 have hfam : ∀ (L : List Nat) (p : Option Int), (∀ b ∈ L, b < 2 ^ m) → L.Pairwise (· < ·) → (∀ q, p = some q → ∀ b ∈ L, q < (b : Int)) → famG (m : Int) p (ints L) = true := by
  intro L
  induction L with
  | nil =>
   intro p _ _ _; have := h.size; simp only [ints, List.map_nil, famG, Bool.and_eq_true, decide_eq_true_eq]; omega
  | cons x L ih =>
   intro p hs hp hq; have hx := hs x (List.mem_cons_self ..); rw [List.pairwise_cons] at hp; simp only [ints, List.map_cons, famG, Bool.and_eq_true]; refine ⟨?_, ?_, ih (some (x : Int)) (fun b hb => hs b (List.mem_cons_of_mem _ hb)) hp.2 (fun q hq b hb => ?_)⟩
   ·rw [kB]; simp [h.size, hx]
   ·cases p with
    | none => rfl
    | some q => simpa using hq q rfl x (List.mem_cons_self ..)
   ·have := hp.1 b hb
    injection hq with hq
    omega
 have h1 : famB (m : Int) (ints L) = true := hfam L none h.sets hp (fun q hq => by cases hq); simp only [matB, Bool.and_eq_true]; refine ⟨h1, ?_, ?_⟩
 ·have : 0 < L.length := List.length_pos_iff.2 h.some; rw [aA]; exact decide_eq_true (by omega)
 ·unfold ib; rw [if_pos h1, show (ints L).map Int.toNat = L from cK L]; have hE : ∀ a ∈ L, ∀ b ∈ L, ∀ es : List Nat, (∀ e ∈ es, e ∈ els (dif a b)) → ej (ints L) a b es = none := by
   intro a ha b hb es
   induction es with
   | nil => intro _; rfl
   | cons e es ih =>
    intro hes; simp only [ej]; have he := gy.1 (hes e (List.mem_cons_self ..)); rw [dif_bit] at he; simp only [Bool.and_eq_true, Bool.not_eq_true'] at he; obtain ⟨f, hf, h1, h2, h3⟩ := h.exch a ha b hb e he.1 he.2.1 he.2.2; have : fL (ints L) a b e = true := by
     unfold fL; rw [List.any_eq_true]; exact ⟨f, gy.2 ⟨hf, by rw [dif_bit, h1, h2]; rfl⟩, ints_mem.2 h3⟩
    rw [if_pos this]; exact ih (fun e' he' => hes e' (List.mem_cons_of_mem _ he'))
  have hB : ∀ a ∈ L, ∀ bs : List Nat, (∀ b ∈ bs, b ∈ L) → eJ (ints L) a bs = none := by
   intro a ha bs
   induction bs with
   | nil => intro _; rfl
   | cons b bs ih =>
    intro hbs; simp only [eJ]; rw [hE a ha b (hbs b (List.mem_cons_self ..)) _ (fun e he => he)]; exact ih (fun b' hb' => hbs b' (List.mem_cons_of_mem _ hb'))
  have hA : ∀ la : List Nat, (∀ a ∈ la, a ∈ L) → eX (ints L) L la = none := by
   intro la
   induction la with
   | nil => intro _; rfl
   | cons a la ih =>
    intro hla; simp only [eX]; rw [hB a (hla a (List.mem_cons_self ..)) L (fun b hb => hb)]; exact ih (fun a' ha' => hla a' (List.mem_cons_of_mem _ ha'))
  rw [hA L (fun a ha => ha)]
  rfl
end Go.Proofs.YtbdloopelidneaaGreat.Q
namespace Go.Proofs.YtbdloopelidneaaGreat.Q
open Go Go.RowKit Go.Proofs.YtbdloopelidneaaGreat.A Go.Proofs.YtbdloopelidneaaGreatW.PrintWords Go.Proofs.YtbdloopelidneaaGreatW.PrintLast Go.Proofs.YtbdloopelidneaaGreatW.PrintMore Go.Proofs.YtbdloopelidneaaGreat.Z
set_option linter.unusedVariables false
set_option linter.unusedSimpArgs false
def canT (L p : List Nat) : List Int := dB [] (ints (L.map (bM (ints p))))
def canF {σ : Type} (F : List Nat → σ → σ) (m : Nat) : Nat → List Nat → σ → σ
 | 0, p, st => F p st
 | d + 1, p, st => (List.range m).foldl (fun st e => if e ∈ p then st else canF F m d (p ++ [e]) st) st
def canI (L p : List Nat) (bs : List Int) : List Int := if lexB (canT L p) bs = true then canT L p else bs
def canS (L p : List Nat) (bs : List Int) : List Int := if bs.length = 0 then canT L p else if befB (canT L p) bs = true then canT L p else bs
structure Part (m : Nat) (p : List Nat) (d : Nat) : Prop where
 nodup : p.Nodup
 lt : ∀ e ∈ p, e < m
 len : p.length + d = m
theorem Part.next {m d : Nat} {p : List Nat} (h : Part m p (d + 1)) {e : Nat} (he : e < m) (hn : ¬ e ∈ p) : Part m (p ++ [e]) d := by
 refine ⟨?_, ?_, ?_⟩
 ·rw [List.nodup_append]; refine ⟨h.nodup, by simp, ?_⟩; intro a ha b hb; rw [List.mem_singleton] at hb; subst hb; rintro rfl; exact hn ha
 ·intro x hx; rcases List.mem_append.1 hx with hx | hx
  ·exact h.lt x hx
  ·rw [List.mem_singleton.1 hx]; exact he
 ·have := h.len; rw [List.length_append, List.length_singleton]; omega
theorem eV {m : Nat} {L : List Nat} (hL : ∀ b ∈ L, b < 2 ^ m) (hn : L.Nodup) {p : List Nat} (h : Part m p 0) : (canT L p).length = L.length := mb hL hn h.nodup (by have := h.len; omega)
theorem gT {m : Nat} {L : List Nat} (hL : ∀ b ∈ L, b < 2 ^ m) (hn : L.Nodup) (h0 : L ≠ []) : ∀ (d : Nat) (p : List Nat) (st : List Int), Part m p d → st.length = L.length → canF (canS L) m d p st = canF (canI L) m d p st ∧ (canF (canI L) m d p st).length = L.length := by
 have hl0 : L.length ≠ 0 := fun h => h0 (List.length_eq_zero_iff.1 h)
 intro d
 induction d with
 | zero =>
  intro p st hp hst; have hT := eV hL hn hp; simp only [canF]; have e1 : befB (canT L p) st = lexB (canT L p) st := by unfold befB; rw [if_pos (by rw [hT, hst])]
  unfold canS canI; rw [if_neg (by omega), e1]; refine ⟨rfl, ?_⟩
  split
  ·exact hT
  ·exact hst
 | succ d ih =>
  intro p st hp hst; simp only [canF]; have hgo : ∀ (es : List Nat) (st : List Int), (∀ e ∈ es, e < m) → st.length = L.length →
    es.foldl (fun st e => if e ∈ p then st else canF (canS L) m d (p ++ [e]) st) st = es.foldl (fun st e => if e ∈ p then st else canF (canI L) m d (p ++ [e]) st) st ∧ (es.foldl (fun st e => if e ∈ p then st else canF (canI L) m d (p ++ [e]) st) st).length = L.length := by
   intro es
   induction es with
   | nil => intro st _ hst; exact ⟨rfl, hst⟩
   | cons e es ihe =>
    intro st hes hst; rw [List.foldl_cons, List.foldl_cons]; by_cases hc : e ∈ p
    ·rw [if_pos hc, if_pos hc]; exact ihe st (fun x hx => hes x (List.mem_cons_of_mem _ hx)) hst
    ·rw [if_neg hc, if_neg hc]; obtain ⟨h1, h2⟩ := ih (p ++ [e]) st (hp.next (hes e (List.mem_cons_self ..)) hc) hst; rw [h1]; exact ihe _ (fun x hx => hes x (List.mem_cons_of_mem _ hx)) h2
  exact hgo (List.range m) st (fun e he => List.mem_range.1 he) hst
theorem ky {m : Nat} {L : List Nat} (hm : m ≤ 8) (hL : ∀ b ∈ L, b < 2 ^ m) (hn : L.Nodup) (h0 : L ≠ []) (hl : L.length ≤ 8796093022208) : ∀ (d : Nat) (p : List Nat) (bs : List Int) (D : Nat), Part m p d → bs.length = L.length → d < D → Ev (fun k => renO k (cj.g k (m : Int) (ints L)) (m : Int) D (ints p) ((m : Int), bs)) (((m : Int), canF (canI L) m d p bs), true) := by
 have h8 : ∀ {d : Nat} {p : List Nat}, Part m p d → ∀ x ∈ ints p, 0 ≤ x ∧ x < 8 := by
  intro d p hp x hx; obtain ⟨y, hy, rfl⟩ := List.mem_map.1 hx; have := hp.lt y hy; omega
 intro d
 induction d with
 | zero =>
  intro p bs D hp hbs hD; obtain ⟨D, rfl⟩ : ∃ D', D = D' + 1 := ⟨D - 1, by omega⟩; have hlen := hp.len; have hT := eV hL hn hp; simp only [renO, canF]; refine Ev.ifp (by rw [aA]; omega) ?_; unfold cj.g canI; refine Ev.bind (eL (m : Int) (ints p) L hl (by rw [aA]; omega) (h8 hp) (by rw [aA, show p.length = m by omega]; exact hL)) ?_; obtain ⟨c, hc, hev⟩ := ig (canT L p) bs (by rw [hT, hbs]) (by rw [hT]; omega); refine Ev.bind hev ?_; by_cases hx : lexB (canT L p) bs = true
  ·rw [if_pos hx]; exact Ev.ifp (hc.2 hx) (Ev.now _)
  ·rw [if_neg hx]; exact Ev.ifn (fun h => hx (hc.1 h)) (Ev.now _)
 | succ d ih =>
  intro p bs D hp hbs hD; obtain ⟨D, rfl⟩ : ∃ D', D = D' + 1 := ⟨D - 1, by omega⟩; have hlen := hp.len; simp only [renO, canF]; refine Ev.ifn (by rw [aA]; omega) (Ev.ifp (by rw [aA]; omega) ?_); rw [Int.toNat_natCast]; have hd := down (P := fun i => ∀ bs : List Int, bs.length = L.length → Ev (fun k => renE k (renO k (cj.g k (m : Int) (ints L)) (m : Int) D) (ints p) (m - i) (i : Int) ((m : Int), bs)) (((m : Int), (List.range' i (m - i)).foldl (fun st e => if e ∈ p then st else canF (canI L) m d (p ++ [e]) st) bs), true)) m
   (by
    intro bs _; rw [Nat.sub_self]; simp only [renE, List.range'_zero, List.foldl_nil]; exact Ev.now _)
   (by
    intro i hi ih2 bs hbs; rw [dP hi, List.foldl_cons, show m - i = (m - (i + 1)) + 1 by omega]; simp only [renE]; refine Ev.bind (fv (ints p) (i : Int) (by rw [aA]; omega)) ?_; have ec : (ints p).contains (i : Int) = decide (i ∈ p) := by rw [Bool.eq_iff_iff, ints_mem, decide_eq_true_eq]
    rw [ec, show (i : Int) + 1 = ((i + 1 : Nat) : Int) from rfl]; by_cases hc : i ∈ p
    ·rw [if_pos hc]; exact Ev.ifp (decide_eq_true hc) (ih2 bs hbs)
    ·rw [if_neg hc]; refine Ev.ifn (by rw [decide_eq_false hc]; decide) ?_; rw [show ints p ++ [(i : Int)] = ints (p ++ [i]) from by simp [ints]]; have hp2 := hp.next hi hc; refine Ev.bind (ih (p ++ [i]) bs D hp2 hbs (by omega)) (Ev.ifp rfl ?_); exact ih2 _ (gT hL hn h0 d (p ++ [i]) bs hp2 hbs).2)
  have h1 := hd bs hbs; rw [Nat.sub_zero, ← List.range_eq_range'] at h1; exact h1
theorem kF {m : Nat} {L : List Nat} (hm : m ≤ 8) (hL : ∀ b ∈ L, b < 2 ^ m) (hl : L.length ≤ 8796093022208) : ∀ (d : Nat) (p : List Nat) (st : List Int), Part m p d → Ev (fun k => be.f k (m : Int) (ints L) (ints p) st) (canF (canS L) m d p st) := by
 have h256 := cW hm; intro d
 induction d with
 | zero =>
  intro p st hp; have hlen := hp.len; have h8 : ∀ x ∈ ints p, 0 ≤ x ∧ x < 8 := by
   intro x hx; obtain ⟨y, hy, rfl⟩ := List.mem_map.1 hx; have := hp.lt y hy; omega
  have hT : (canT L p).length ≤ L.length := by
   have := fd (ints (L.map (bM (ints p)))) []; rw [aA, List.length_map] at this; unfold canT
   simpa using this
  apply Ev.step
  ·intro k; rw [be.f]
  ·refine Ev.ifp (by rw [aA]; omega) (Ev.bind (eE (ints p) L (by rw [aA]; omega) hl h8 (fun b hb => by have := hL b hb; omega)) ?_); simp only [canF]; unfold canS; by_cases h1 : st.length = 0
   ·rw [if_pos h1]; exact Ev.ifp (by omega) (Ev.now _)
   ·rw [if_neg h1]; refine Ev.ifn (by omega) (Ev.bind (iY (canT L p) st (by omega)) ?_); by_cases h2 : befB (canT L p) st = true
    ·rw [show (if befB (canT L p) st = true then canT L p else st) = canT L p from if_pos h2]; exact Ev.ifp h2 (Ev.now _)
    ·rw [show (if befB (canT L p) st = true then canT L p else st) = st from if_neg h2]; exact Ev.ifn h2 (Ev.now _)
 | succ d ih =>
  intro p st hp; have hlen := hp.len; simp only [canF]
  apply Ev.step
  ·intro k; rw [be.f]
  ·refine Ev.ifn (by rw [aA]; omega) ?_; have hd := down (P := fun i => ∀ st : List Int, Ev (fun k => be.l0 k (ints p) st (i : Int) (m : Int) (ints L)) ((List.range' i (m - i)).foldl (fun st e => if e ∈ p then st else canF (canS L) m d (p ++ [e]) st) st)) m
    (by
     intro st; rw [Nat.sub_self, List.range'_zero, List.foldl_nil]
     apply Ev.step
     ·intro k; rw [be.l0, if_neg (by omega)]
     ·exact Ev.now _)
    (by
     intro i hi ih2 st; rw [dP hi, List.foldl_cons]
     apply Ev.step
     ·intro k; rw [be.l0, if_pos (by omega), ck hi (by omega)]
     ·refine Ev.bind (e8 (ints p) (i : Int) (by rw [aA]; omega)) ?_; have ec : (ints p).contains (i : Int) = decide (i ∈ p) := by rw [Bool.eq_iff_iff, ints_mem, decide_eq_true_eq]
      rw [ec]; by_cases hc : i ∈ p
      ·rw [if_pos hc]; exact Ev.ifp (decide_eq_true hc) (ih2 st)
      ·rw [if_neg hc]; refine Ev.ifn (by rw [decide_eq_false hc]; decide) (Ev.cbind rfl (Ev.ifp (by rw [aA]; simp; omega) (Ev.cbind rfl (Ev.cbind rfl (Ev.ifp (by rw [List.nil_append, aA]; simp; omega) ?_))))); rw [List.nil_append, show ints p ++ [(i : Int)] = ints (p ++ [i]) from by simp [ints]]; exact Ev.bind (ih (p ++ [i]) st (hp.next hi hc)) (ih2 _))
   have h1 := hd st; rw [Nat.sub_zero, ← List.range_eq_range'] at h1; exact h1
theorem ik {σ : Type} {p : List Nat} {F : σ → Nat → σ} {j : Nat} (hp : ∀ e, e < j → e ∈ p) : ∀ (es : List Nat) (st : σ), (∀ e ∈ es, e < j) → es.foldl (fun st e => if e ∈ p then st else F st e) st = st := by
 intro es
 induction es with
 | nil => intro st _; rfl
 | cons e es ih =>
  intro st h; rw [List.foldl_cons, if_pos (hp e (h e (List.mem_cons_self ..)))]; exact ih st (fun x hx => h x (List.mem_cons_of_mem _ hx))
theorem km {m d : Nat} {L : List Nat} (hL : ∀ b ∈ L, b < 2 ^ m) (hn : L.Nodup) (h0 : L ≠ []) {p : List Nat} (hp : Part m p (d + 1)) : ∀ (es : List Nat) (st : List Int), (∀ e ∈ es, e < m) → st.length = L.length →
  es.foldl (fun st e => if e ∈ p then st else canF (canS L) m d (p ++ [e]) st) st = es.foldl (fun st e => if e ∈ p then st else canF (canI L) m d (p ++ [e]) st) st := by
 intro es
 induction es with
 | nil => intro st _ _; rfl
 | cons e es ihe =>
  intro st hes hst; rw [List.foldl_cons, List.foldl_cons]; by_cases hc : e ∈ p
  ·rw [if_pos hc, if_pos hc]; exact ihe st (fun x hx => hes x (List.mem_cons_of_mem _ hx)) hst
  ·rw [if_neg hc, if_neg hc]; obtain ⟨h1, h2⟩ := gT hL hn h0 d (p ++ [e]) st (hp.next (hes e (List.mem_cons_self ..)) hc) hst; rw [h1]; exact ihe _ (fun x hx => hes x (List.mem_cons_of_mem _ hx)) h2
theorem iG {m j d : Nat} (h : j + d = m) : Part m (List.range j) d := ⟨List.nodup_range, fun e he => by have := List.mem_range.1 he; omega, by rw [List.length_range]; exact h⟩
theorem lW {m : Nat} {L : List Nat} (hL : ∀ b ∈ L, b < 2 ^ m) (hn : L.Nodup) (h0 : L ≠ []) (hid : canT L (List.range m) = ints L) : ∀ (d j : Nat), j + d = m → canF (canS L) m d (List.range j) [] = canF (canI L) m d (List.range j) (ints L) ∧ (canF (canI L) m d (List.range j) (ints L)).length = L.length := by
 intro d
 induction d with
 | zero =>
  intro j hj; obtain rfl : j = m := by omega
  simp only [canF]; unfold canS canI; rw [hid, eq]; exact ⟨rfl, by simp [aA]⟩
 | succ d ih =>
  intro j hj; have hp := iG hj; obtain ⟨h1, h2⟩ := ih (j + 1) (by omega); refine ⟨?_, (gT hL hn h0 (d + 1) (List.range j) (ints L) hp (aA L)).2⟩; simp only [canF]; have e : List.range m = List.range j ++ (j :: List.range' (j + 1) (m - (j + 1))) := by
   rw [← dP (show j < m by omega), List.range_eq_range', List.range_eq_range', show List.range' j (m - j) = List.range' (0 + j) (m - j) from by rw [Nat.zero_add]]; rw [List.range'_append_1]
   congr 1; omega
  have hj1 : ¬ j ∈ List.range j := by rw [List.mem_range]; omega
  rw [e, List.foldl_append, List.foldl_append, List.foldl_cons, List.foldl_cons, ik (j := j) (fun e he => List.mem_range.2 he) (List.range j) _ (fun e he => List.mem_range.1 he), ik (j := j) (fun e he => List.mem_range.2 he) (List.range j) _ (fun e he => List.mem_range.1 he), if_neg hj1, if_neg hj1, ← List.range_succ, h1]; exact km hL hn h0 hp _ _ (fun e he => by have := List.mem_range'_1.1 he; omega) h2
theorem m9 {m s : Nat} (hs : s < 2 ^ m) : bM (ints (List.range m)) s = s := by
 apply Nat.eq_of_testBit_eq
 intro j; rw [Bool.eq_iff_iff, renSetN_bit]
 constructor
 ·rintro ⟨e, h1, h2, h3⟩; rw [aA, List.length_range] at h1; rw [fh (by rw [List.length_range]; exact h1), List.getElem_range, Int.toNat_natCast] at h3; rw [← h3]; exact h2
 ·intro h; have hj : j < m := by
   refine Classical.byContradiction fun hc => ?_
   rw [Nat.testBit_lt_two_pow (Nat.lt_of_lt_of_le hs (Nat.pow_le_pow_right (by decide) (by omega)))] at h; cases h
  exact ⟨j, by rw [aA, List.length_range]; exact hj, h, by rw [fh (by rw [List.length_range]; exact hj), List.getElem_range, Int.toNat_natCast]⟩
theorem kR {m : Nat} {L : List Nat} (hL : ∀ b ∈ L, b < 2 ^ m) (hp : L.Pairwise (· < ·)) : canT L (List.range m) = ints L := by
 unfold canT; have e : L.map (bM (ints (List.range m))) = L := by
  have : ∀ l : List Nat, (∀ b ∈ l, b < 2 ^ m) → l.map (bM (ints (List.range m))) = l := by
   intro l
   induction l with
   | nil => intro _; rfl
   | cons b l ih =>
    intro h; rw [List.map_cons, m9 (h b (List.mem_cons_self ..)), ih (fun x hx => h x (List.mem_cons_of_mem _ hx))]
  exact this L hL
 rw [e]; exact jS hp (fun a => Iff.rfl)
def cZ (n : Int) (l : List Int) : Int × List Int × Bool := if matB n l = true ∧ n ≤ 6 then (n, canF (canI (l.map Int.toNat)) n.toNat n.toNat [] l, true) else (0, [], false)
theorem fm {n : Int} {l : List Int} (h : matB n l = true) : ∃ (m : Nat) (L : List Nat), n = m ∧ l = ints L ∧ m ≤ 8 ∧ (∀ b ∈ L, b < 2 ^ m) ∧ L.Nodup ∧ L ≠ [] ∧ L.length ≤ 256 ∧ canF (canS L) m m [] [] = canF (canI L) m m [] (ints L) ∧ (canF (canI L) m m [] (ints L)).length = L.length := by
 obtain ⟨m, L, rfl, hm, rfl, hL, _, hp, hne⟩ := eb h; have hn : L.Nodup := hp.imp (fun hlt he => by omega); have hlen : L.length ≤ 256 := by
  have h1 := List.Nodup.length_le_of_subset hn (l₂ := List.range (2 ^ m)) (fun b hb => List.mem_range.2 (hL b hb)); rw [List.length_range] at h1; exact Nat.le_trans h1 (cW hm)
 obtain ⟨h1, h2⟩ := lW hL hn hne (kR hL hp) m 0 (by omega); exact ⟨m, L, rfl, rfl, hm, hL, hn, hne, hlen, h1, h2⟩
theorem iD (n : Int) (l : List Int) : (cZ n l).2.1.length ≤ l.length := by
 unfold cZ; by_cases h : matB n l = true ∧ n ≤ 6
 ·rw [if_pos h]; obtain ⟨m, L, rfl, rfl, _, _, _, _, _, _, h2⟩ := fm h.1; rw [show (ints L).map Int.toNat = L from cK L, Int.toNat_natCast]; simp only [h2, aA]; exact Nat.le_refl _
 ·rw [if_neg h]; exact Nat.zero_le _
theorem jo (n : Int) (l : List Int) (hl : l.length ≤ 17592186044416) : Ev (fun k => b8.f k n l) (cZ n l) := by
 unfold b8.f cZ; refine Ev.bind (dW n l hl) ?_; by_cases h : matB n l = true
 rotate_left
 ·rw [if_neg (fun h2 => h h2.1)]; exact Ev.ifn h (Ev.now _)
 refine Ev.ifp h ?_; by_cases h6 : n > 6
 ·rw [if_neg (fun h2 => by omega)]; exact Ev.ifp h6 (Ev.now _)
 rw [if_pos ⟨h, by omega⟩]; obtain ⟨m, L, rfl, rfl, hm, hL, hn, hne, hlen, h1, h2⟩ := fm h; rw [show (ints L).map Int.toNat = L from cK L, Int.toNat_natCast]; refine Ev.ifn h6 (Ev.cbind rfl (Ev.bind (kF hm hL (by omega) m [] [] ⟨List.nodup_nil, fun _ h => absurd h List.not_mem_nil, by simp⟩) ?_)); rw [h1]; refine Ev.ifp (by rw [h2]; simp; omega) ?_; rw [List.nil_append]; exact Ev.now _
theorem gD (n : Int) (l : List Int) (hl : l.length ≤ 17592186044416) : Ev (fun k => cj.f k n l) (cZ n l) := by
 unfold cj.f cZ; refine Ev.bind (eD n l hl) ?_; by_cases h : matB n l = true
 rotate_left
 ·rw [if_neg (fun h2 => h h2.1)]; exact Ev.ifn h (Ev.now _)
 refine Ev.ifp h ?_; by_cases h6 : n > 6
 ·rw [if_neg (fun h2 => by omega)]; exact Ev.ifp h6 (Ev.now _)
 rw [if_pos ⟨h, by omega⟩]; obtain ⟨m, L, rfl, rfl, hm, hL, hn, hne, hlen, h1, h2⟩ := fm h; rw [show (ints L).map Int.toNat = L from cK L, Int.toNat_natCast]; have hc : bY.f (m : Int) (ints L) = some ((m : Int), ints L) := by
  unfold bY.f; rw [Option.bind_some, if_pos (by rw [aA]; simp; omega), List.nil_append]
 refine Ev.ifn h6 (Ev.ifp (by omega) (Ev.cbind hc (Ev.bind (ky hm hL hn hne (by omega) m [] (ints L) 16 ⟨List.nodup_nil, fun _ h => absurd h List.not_mem_nil, by simp⟩ (aA L) (by omega)) (Ev.now _))))
def degN (L : List Nat) (e : Nat) : Nat := (L.map (fun b => bt1 b e)).sum
def upI (X : List Int) : List Int := X.mergeSort (fun x y => decide (x ≤ y))
def degV (n : Nat) (f : Nat → Nat) : List Int := (List.range n).map (fun e => (f e : Int))
def sigB (n : Int) (l : List Int) : List Int := if matB n l = true then upI (degV n.toNat (degN (l.map Int.toNat))) else []
theorem gA (X : List Int) : (upI X).Perm X := List.mergeSort_perm _ _
theorem iO (X : List Int) : (upI X).Pairwise (fun a b => a ≤ b) := by
 have h := List.pairwise_mergeSort (le := fun x y : Int => decide (x ≤ y)) (fun a b c h1 h2 => by simp only [decide_eq_true_eq] at *; omega) (fun a b => by simp only [Bool.or_eq_true, decide_eq_true_eq]; omega) X; exact h.imp (fun h => of_decide_eq_true h)
theorem jj {X Y : List Int} (h : X.Perm Y) (hX : X.Pairwise (fun a b => a ≤ b)) (hY : Y.Pairwise (fun a b => a ≤ b)) : X = Y :=
 List.Perm.eq_of_pairwise (fun a b _ _ h1 h2 => by omega) hX hY h
theorem eA (n : Nat) (f : Nat → Nat) : (degV n f).length = n := by simp [degV]
theorem upI_len (X : List Int) : (upI X).length = X.length := (gA X).length_eq
theorem il (n : Int) (l : List Int) : (sigB n l).length ≤ 256 := by
 unfold sigB; by_cases h : matB n l = true
 ·rw [if_pos h, upI_len, eA]; obtain ⟨m, L, rfl, hm, _⟩ := eb h; omega
 ·rw [if_neg h]; exact Nat.zero_le _
theorem ku (b e : Nat) : bt1 b e ≤ 1 := by
 unfold bt1; by_cases h : b.testBit e = true
 ·rw [if_pos h]; omega
 ·rw [if_neg h]; omega
theorem mR (e : Nat) (L : List Nat) : degN L e ≤ L.length := by
 unfold degN
 induction L with
 | nil => exact Nat.le_refl _
 | cons b L ih =>
  rw [List.map_cons, List.sum_cons, List.length_cons]; have := ku b e; omega
theorem lw (L : List Nat) (b e : Nat) : degN (L ++ [b]) e = degN L e + bt1 b e := by
 simp [degN]
theorem mW {b e : Nat} (hb : b < 2 ^ 63) : Go.bits .and .i64 (shr .i64 (b : Int) (e : Int)) 1 = (bt1 b e : Int) := by
 have h := @io b e hb; rw [kS hb] at h ⊢; have hs : b >>> e < 2 ^ 63 := by
  rw [Nat.shiftRight_eq_div_pow]; exact Nat.lt_of_le_of_lt (Nat.div_le_self _ _) hb
 have e1 := jr (b := 1) hs (by decide); rw [show ((1 : Nat) : Int) = 1 from rfl] at e1; rw [e1] at h ⊢; rw [Nat.and_one_is_mod] at h ⊢; unfold bt1; by_cases hc : b.testBit e = true
 ·rw [if_pos hc]; have := h.2 hc; omega
 ·rw [if_neg hc]; have : ¬ (((b >>> e % 2 : Nat) : Int) = 1) := fun h' => hc (h.1 h')
  omega
theorem fk (n : Int) (L : List Nat) (e : Nat) (hl : L.length ≤ 17592186044416) (hL : ∀ b ∈ L, b < 256) : Ev (fun k => a7.f k n (ints L) (e : Int)) (degN L e : Int) := by
 have h := down (P := fun i => ∀ c : Nat, c ≤ i → Ev (fun k => a7.l0 k (e : Int) (c : Int) (ints L) ((ints L).length : Int) (i : Int)) ((c + degN (L.drop i) e : Nat) : Int)) L.length
  (by
   intro c _
   apply Ev.step
   ·intro k; simp only [a7.l0]; rw [if_neg (by rw [aA]; omega)]
   ·rw [dx]; exact Ev.now _)
  (by
   intro i hi ih c hc; have hb := hL _ (List.getElem_mem hi); have h1 := ku L[i] e
   apply Ev.step
   ·intro k; simp only [a7.l0]; rw [if_pos (by rw [aA]; omega), if_pos (by omega), if_pos (by rw [aA]; omega), if_pos (by omega), fF L i hi, mW (cG hb), b4 (by omega) (by omega), ck hi hl]
   ·rw [cH L i hi]; have := ih (c + bt1 L[i] e) (by omega); rw [show degN (L[i] :: L.drop (i + 1)) e = bt1 L[i] e + degN (L.drop (i + 1)) e from by unfold degN; rw [List.map_cons, List.sum_cons], ← Nat.add_assoc]; rw [show ((c + bt1 L[i] e : Nat) : Int) = (c : Int) + (bt1 L[i] e : Int) from by omega] at this; exact this)
 have := h 0 (Nat.le_refl _); rw [List.drop_zero, Nat.zero_add] at this; exact this
theorem ni (n : Int) (L : List Nat) (hl : L.length ≤ 17592186044416) (hL : ∀ b ∈ L, b < 256) (f : List Nat) : Ev (fun k => bE.g k n (ints L) (f.map (fun i : Nat => (i : Int)))) (f.map (fun e => (degN L e : Int))) := by
 induction f with
 | nil => exact Ev.now _
 | cons e f ih => exact Ev.bind (fk n L e hl hL) (Ev.bind ih (Ev.now _))
theorem jy (m : Nat) : fj 0 ((m : Int) - 1) = (List.range m).map (fun i : Nat => (i : Int)) := by
 unfold fj; rw [show (((m : Int) - 1 + 1).toNat - (0 : Int).toNat) = m from by omega, show (0 : Int).toNat = 0 from rfl, List.range_eq_range']
theorem fY (n : Int) (l : List Int) (hl : l.length ≤ 17592186044416) : Ev (fun k => bE.f k n l) (sigB n l) := by
 unfold bE.f sigB; refine Ev.bind (eD n l hl) ?_; by_cases h : matB n l = true
 ·rw [if_pos h]; obtain ⟨m, L, rfl, hm, rfl, _, h256, _⟩ := eb h; rw [aA] at hl; rw [show (ints L).map Int.toNat = L from cK L, Int.toNat_natCast, jy]; exact Ev.ifp h (Ev.ifp (by omega) (Ev.bind (ni _ L hl h256 _) (Ev.now _)))
 ·rw [if_neg h]; exact Ev.ifn h (Ev.now _)
theorem mG (n : Nat) (f : Nat → Nat) (j : Nat) (hj : j < n) : rd (degV n f) (j : Int) = (f j : Int) := by
 rw [bK _ j (by rw [eA]; exact hj)]; simp [degV]
theorem mc (n : Nat) (f : Nat → Nat) (j x : Nat) : (degV n f).set j (x : Int) = degV n (fun e => if e = j then x else f e) := by
 apply List.ext_getElem
 ·simp [degV]
 ·intro i h1 h2; rw [List.getElem_set]; by_cases h : j = i
  ·subst h; simp [degV]
  ·rw [if_neg h]; simp [degV, Ne.symm h]
theorem fR (n : Nat) (hn : n ≤ 8) (L : List Nat) (hl : L.length ≤ 8796093022208) (hL : ∀ b ∈ L, b < 256) : Ev (fun k => ay.f k (n : Int) (ints L)) (degV n (degN L)) := by
 have hd := down (P := fun i => Ev (fun k => ay.l0 k (degV n (degN (L.take i))) (i : Int) (n : Int) (ints L)) (degV n (degN L))) L.length
  (by
   apply Ev.step
   ·intro k; rw [ay.l0, if_neg (by rw [aA]; omega)]
   ·rw [List.take_length]; exact Ev.now _)
  (by
   intro i hi ih; have hb := hL _ (List.getElem_mem hi)
   apply Ev.step
   ·intro k; rw [ay.l0, if_pos (by rw [aA]; omega)]
   ·have h1 := down (P := fun j => Ev (fun k => ay.l1 k (degV n (fun e => degN (L.take i) e + (if e < j then bt1 L[i] e else 0))) (i : Int) (j : Int) (n : Int) (ints L)) (degV n (degN L))) n
     (by
      apply Ev.step
      ·intro k; rw [ay.l1, if_neg (by omega), ck hi (by omega)]
      ·have e1 : degV n (fun e => degN (L.take i) e + (if e < n then bt1 L[i] e else 0)) = degV n (degN (L.take (i + 1))) := by
        unfold degV
        apply List.map_congr_left
        intro e he
        dsimp only
        rw [if_pos (List.mem_range.1 he), fA L i hi, lw]
       rw [e1]; exact ih)
     (by
      intro j hj ihj; have hdl := mR j (L.take i); have htl : (L.take i).length ≤ L.length := by simp; omega
      have hbl := ku L[i] j
      apply Ev.step
      ·intro k; rw [ay.l1, if_pos (by omega), if_pos (by omega), if_pos (by rw [eA]; omega), if_pos (by omega), if_pos (by rw [aA]; omega), fF L i hi, eH (cG hb) (by omega), Option.bind_some, mG n _ j hj, ck hj (by omega)]
      ·refine Ev.cbind (a := (bt1 L[i] j : Int)) ?_ ?_
       ·unfold eB.f bt1; by_cases hc : L[i].testBit j = true
        ·rw [hc]; rfl
        ·rw [Bool.eq_false_iff.2 hc]; rfl
       ·rw [if_neg (Nat.lt_irrefl j), Nat.add_zero, b4 (by omega) (by omega), Int.toNat_natCast]; have e2 : ((degN (L.take i) j : Nat) : Int) + (bt1 L[i] j : Int) = ((degN (L.take i) j + bt1 L[i] j : Nat) : Int) := by omega
        rw [e2, mc]; have e3 : (fun e => if e = j then degN (L.take i) j + bt1 L[i] j else degN (L.take i) e + (if e < j then bt1 L[i] e else 0)) = (fun e => degN (L.take i) e + (if e < j + 1 then bt1 L[i] e else 0)) := by
         funext e
         by_cases h : e = j
         ·subst h; rw [if_pos rfl, if_pos (by omega)]
         ·rw [if_neg h]; by_cases h' : e < j
          ·rw [if_pos h', if_pos (by omega)]
          ·rw [if_neg h', if_neg (by omega)]
        rw [e3]; exact ihj)
    have e0 : degV n (fun e => degN (L.take i) e + (if e < 0 then bt1 L[i] e else 0)) = degV n (degN (L.take i)) := by
     unfold degV
     apply List.map_congr_left
     intro e _
     dsimp only
     rw [if_neg (Nat.not_lt_zero e), Nat.add_zero]
    rw [e0] at h1; exact h1)
 unfold ay.f; refine Ev.ifp (by omega) (Ev.ifp (by omega) ?_); have e0 : List.replicate ((n : Int)).toNat (0 : Int) = degV n (degN (L.take 0)) := by
  rw [Int.toNat_natCast]; unfold degV degN; simp only [List.take_zero, List.map_nil, List.sum_nil]; rw [List.map_const', List.length_range]
  rfl
 rw [e0]; exact hd
def putI (x : Int) (l : List Int) : Nat → List Int
 | 0 => x :: l
 | p + 1 => if l.getD p 0 > x then putI x l p else l.take (p + 1) ++ x :: l.drop (p + 1)
theorem lB (x : Int) (l : List Int) : ∀ p, (putI x l p).Perm (x :: l) := by
 intro p
 induction p with
 | zero => exact List.Perm.refl _
 | succ p ih =>
  rw [putI]; by_cases h : l.getD p 0 > x
  ·rw [if_pos h]; exact ih
  ·rw [if_neg h]; have := @List.perm_middle _ x (l.take (p + 1)) (l.drop (p + 1)); rw [List.take_append_drop] at this; exact this
theorem lM (x : Int) (l : List Int) (hl : l.Pairwise (fun a b => a ≤ b)) : ∀ p, p ≤ l.length → (∀ i (h : i < l.length), p ≤ i → x ≤ l[i]) → (putI x l p).Pairwise (fun a b => a ≤ b) := by
 intro p
 induction p with
 | zero =>
  intro _ h; rw [putI, List.pairwise_cons]; refine ⟨fun a ha => ?_, hl⟩; obtain ⟨i, hi, rfl⟩ := List.mem_iff_getElem.1 ha; exact h i hi (Nat.zero_le _)
 | succ p ih =>
  intro hp h; have hpl : p < l.length := by omega
  have hg : l.getD p 0 = l[p] := by simp [hpl]
  rw [putI, hg]; by_cases hc : l[p] > x
  ·rw [if_pos hc]; refine ih (by omega) (fun i hi hpi => ?_); by_cases he : i = p
   ·subst he; omega
   ·exact h i hi (by omega)
  ·rw [if_neg hc]; have hg := List.pairwise_iff_getElem.1 hl; have hl2 := hl; rw [← List.take_append_drop (p + 1) l, List.pairwise_append] at hl2; rw [List.pairwise_append, List.pairwise_cons]; refine ⟨hl2.1, ⟨fun a ha => ?_, hl2.2.1⟩, fun a ha b hb => ?_⟩
   ·obtain ⟨i, hi, rfl⟩ := List.mem_iff_getElem.1 ha; rw [List.getElem_drop]; exact h _ _ (by omega)
   ·have hax : a ≤ x := by
     obtain ⟨i, hi, rfl⟩ := List.mem_iff_getElem.1 ha; rw [List.length_take] at hi; rw [List.getElem_take]; by_cases he : i = p
     ·subst he; omega
     ·have := hg i p (by omega) hpl (by omega); omega
    rcases List.mem_cons.1 hb with rfl | hb
    ·exact hax
    ·exact hl2.2.2 a ha b hb
def ordI (acc X : List Int) : List Int := X.foldl (fun a x => putI x a a.length) acc
theorem lg (X : List Int) : ∀ acc, (ordI acc X).Perm (X ++ acc) := by
 induction X with
 | nil => intro acc; exact List.Perm.refl _
 | cons x X ih =>
  intro acc; refine (ih (putI x acc acc.length)).trans ?_; refine ((lB x acc acc.length).append_left X).trans ?_; rw [List.cons_append]; exact List.perm_middle
theorem lP (X : List Int) : ∀ acc, acc.Pairwise (fun a b => a ≤ b) → (ordI acc X).Pairwise (fun a b => a ≤ b) := by
 induction X with
 | nil => intro acc h; exact h
 | cons x X ih =>
  intro acc h; exact ih _ (lM x acc h _ (Nat.le_refl _) (fun i hi hge => by omega))
theorem mC (X : List Int) : ordI [] X = upI X := by
 refine jj ?_ (lP X [] List.Pairwise.nil) (iO X); have h := lg X []; rw [List.append_nil] at h; exact h.trans (gA X).symm
theorem iT (X : List Int) (hx : X.length ≤ 8796093022208) : Ev (fun k => av.f k X) (upI X) := by
 have hd := down (P := fun i => ∀ acc : List Int, acc.length ≤ i → Ev (fun k => av.l0 k X acc (i : Int)) (ordI acc (X.drop i))) X.length
  (by
   intro acc _
   apply Ev.step
   ·intro k; rw [av.l0, if_neg (by omega)]
   ·rw [dx]; exact Ev.now _)
  (by
   intro i hi ih acc ha; rw [cH X i hi]; have h1 : ∀ j : Nat, j ≤ acc.length → Ev (fun k => av.l1 k X acc (i : Int) (j : Int)) (ordI (putI X[i] acc j) (X.drop (i + 1))) := by
    intro j
    induction j with
    | zero =>
     intro _
     apply Ev.step
     ·intro k; rw [av.l1, if_neg (by omega), ck hi (by omega)]
     ·simp only [Option.bind_some, Int.toNat_natCast, List.drop_zero, List.take_zero, List.nil_append, List.length_nil, Int.ofNat_zero, Int.natCast_zero, Int.toNat_zero, List.length_singleton]; have hr := ih (X[i] :: acc) (by rw [List.length_cons]; omega); refine Ev.ifp (by omega) (Ev.ifp (by omega) (Ev.ifp (by omega) (Ev.ifp (by omega) (Ev.ifp (by omega) (Ev.ifp (by omega) (Ev.ifp (by omega) ?_)))))); rw [bK X i hi]; exact hr
    | succ j ihj =>
     intro hj; have hjl : j < acc.length := by omega
     have hw : wrap64 (((j + 1 : Nat) : Int) - 1) = (j : Int) := by rw [b4 (by omega) (by omega)]; omega
     apply Ev.step
     ·intro k; rw [av.l1, if_pos (by omega), hw, if_pos (by omega), if_pos (by omega), if_pos (by omega), if_pos (by omega), bK acc j hjl, bK X i hi, ck hi (by omega)]
     ·have hg : acc.getD j 0 = acc[j] := by simp [hjl]
      rw [putI, hg]; by_cases hc : acc[j] > X[i]
      ·rw [if_pos hc]; exact Ev.ifp hc (ihj (by omega))
      ·rw [if_neg hc]; refine Ev.ifn hc ?_; have hr := ih (acc.take (j + 1) ++ X[i] :: acc.drop (j + 1)) (by
        have := (@List.perm_middle _ X[i] (acc.take (j + 1)) (acc.drop (j + 1))).length_eq; rw [List.take_append_drop] at this; rw [this, List.length_cons]; omega)
       simp only [Option.bind_some, Int.toNat_natCast, List.nil_append, List.length_nil, List.length_append, List.length_take, List.length_drop, List.length_singleton]; refine Ev.ifp (by omega) (Ev.ifp (by omega) (Ev.ifp (by omega) (Ev.ifp (by omega) (Ev.ifp (by omega) ?_)))); rw [List.append_assoc, List.singleton_append]; exact hr
   apply Ev.step
   ·intro k; rw [av.l0, if_pos (by omega)]
   ·exact h1 acc.length (Nat.le_refl _))
 have := hd [] (Nat.le_refl _); rw [List.drop_zero, mC] at this; exact this
theorem fP (n : Int) (l : List Int) (hl : l.length ≤ 8796093022208) : Ev (fun k => cq.f k n l) (sigB n l) := by
 unfold cq.f sigB; refine Ev.bind (dW n l (by omega)) ?_; by_cases h : matB n l = true
 ·rw [if_pos h]; obtain ⟨m, L, rfl, hm, rfl, _, h256, _⟩ := eb h; rw [aA] at hl; rw [show (ints L).map Int.toNat = L from cK L, Int.toNat_natCast]; exact Ev.ifp h (Ev.bind (fR m hm L hl h256) (Ev.bind (iT _ (by rw [eA]; omega)) (Ev.now _)))
 ·rw [if_neg h]; exact Ev.ifn h (Ev.now _)
theorem gE (X Y : List Int) (hl : X.length = Y.length) (i : Nat) (hi : i < X.length) : (X.drop i = Y.drop i) ↔ (X[i] = Y[i]'(by omega) ∧ X.drop (i + 1) = Y.drop (i + 1)) := by
 rw [List.drop_eq_getElem_cons hi, List.drop_eq_getElem_cons (show i < Y.length by omega), List.cons.injEq]
theorem jD (X Y : List Int) (hl : X.length ≤ 17592186044416) : Ev (fun k => cx.f k X Y) (decide (X = Y)) := by
 unfold cx.f; by_cases h : X.length = Y.length
 rotate_left
 ·rw [decide_eq_false (fun e => h (by rw [e]))]; exact Ev.ifn (by omega) (Ev.now _)
 refine Ev.ifp (by omega) ?_; have hd := down (P := fun i => Ev (fun k => cx.l0 k X Y (i : Int)) (decide (X.drop i = Y.drop i))) X.length
  (by
   rw [List.drop_length, h, List.drop_length]
   apply Ev.step
   ·intro k; rw [cx.l0, if_neg (by omega)]
   ·exact Ev.now _)
  (by
   intro i hi ih
   apply Ev.step
   ·intro k; rw [cx.l0, if_pos (by omega), if_pos (by omega), if_pos (by omega), bK X i hi, bK Y i (by omega), ck hi hl]
   ·by_cases hc : X[i] = Y[i]'(by omega)
    ·refine Ev.ifp hc ?_; rw [show decide (X.drop i = Y.drop i) = decide (X.drop (i + 1) = Y.drop (i + 1)) from by simp only [gE X Y h i hi, hc, true_and]]; exact ih
    ·rw [decide_eq_false (fun e => hc ((gE X Y h i hi).1 e).1)]; exact Ev.ifn hc (Ev.now _))
 exact hd
theorem lA (X Y : List Int) (hl : X.length ≤ 17592186044416) : Ev (fun k => aC.f k X Y) (decide (X = Y)) := by
 unfold aC.f; by_cases h : X.length = Y.length
 rotate_left
 ·rw [decide_eq_false (fun e => h (by rw [e]))]; exact Ev.ifn (by omega) (Ev.now _)
 refine Ev.ifp (by omega) ?_; have hd := down (P := fun i => Ev (fun k => aC.l0 k X Y (X.length : Int) (i : Int)) (decide (X.drop i = Y.drop i))) X.length
  (by
   rw [List.drop_length, h, List.drop_length]
   apply Ev.step
   ·intro k; rw [aC.l0, if_neg (by omega)]
   ·exact Ev.now _)
  (by
   intro i hi ih
   apply Ev.step
   ·intro k; rw [aC.l0, if_pos (by omega), if_pos (by omega), if_pos (by omega), if_pos (by omega), bK X i hi, bK Y i (by omega), ck hi hl]
   ·by_cases hc : X[i] = Y[i]'(by omega)
    ·refine Ev.ifp hc ?_; rw [show decide (X.drop i = Y.drop i) = decide (X.drop (i + 1) = Y.drop (i + 1)) from by simp only [gE X Y h i hi, hc, true_and]]; exact ih
    ·rw [decide_eq_false (fun e => hc ((gE X Y h i hi).1 e).1)]; exact Ev.ifn hc (Ev.now _))
 exact hd
theorem iS {p : List Nat} {e j : Nat} (h : j < p.length) : (p ++ [e]).getD j 0 = p.getD j 0 := by
 rw [List.getD_eq_getElem?_getD, List.getElem?_append_left h, ← List.getD_eq_getElem?_getD]
theorem ie {p : List Nat} {e : Nat} : (p ++ [e]).getD p.length 0 = e := by
 rw [List.getD_eq_getElem?_getD, List.getElem?_append_right (Nat.le_refl _), Nat.sub_self]; rfl
def degA (L L2 p : List Nat) (i : Nat) : Bool := (List.range' i (p.length - i)).all (fun j => decide (degN L j = degN L2 (p.getD j 0)))
theorem mq (L L2 p : List Nat) : degA L L2 p p.length = true := by simp [degA]
theorem lz {L L2 p : List Nat} {i : Nat} (hi : i < p.length) : degA L L2 p i = (decide (degN L i = degN L2 (p.getD i 0)) && degA L L2 p (i + 1)) := by
 unfold degA; rw [show p.length - i = (p.length - (i + 1)) + 1 by omega, List.range'_succ, List.all_cons]
theorem degA_iff {L L2 p : List Nat} : degA L L2 p 0 = true ↔ ∀ j, j < p.length → degN L j = degN L2 (p.getD j 0) := by
 unfold degA; rw [List.all_eq_true, Nat.sub_zero]
 constructor
 ·intro h j hj; exact of_decide_eq_true (h j (List.mem_range'_1.2 ⟨Nat.zero_le _, by omega⟩))
 ·intro h j hj; have := (List.mem_range'_1.1 hj).2; exact decide_eq_true (h j (by omega))
theorem gJ {L L2 p : List Nat} {e : Nat} : degA L L2 (p ++ [e]) 0 = (degA L L2 p 0 && decide (degN L p.length = degN L2 e)) := by
 rw [Bool.eq_iff_iff, Bool.and_eq_true, degA_iff, degA_iff, decide_eq_true_eq, List.length_append, List.length_singleton]
 constructor
 ·intro h; refine ⟨fun j hj => ?_, ?_⟩
  ·have := h j (by omega)
   rwa [iS hj] at this
  ·have := h p.length (by omega)
   rwa [ie] at this
 ·rintro ⟨h1, h2⟩ j hj; by_cases hc : j < p.length
  ·rw [iS hc]; exact h1 j hc
  ·obtain rfl : j = p.length := by omega
   rw [ie]; exact h2
def finF (L L2 : List Nat) (m : Nat) : Nat → List Nat → Option (List Nat)
 | 0, p => if degA L L2 p 0 = true ∧ canT L p = ints L2 then some p else none
 | d + 1, p => (List.range m).findSome? (fun e => if e ∈ p then none else finF L L2 m d (p ++ [e]))
theorem mS {L L2 : List Nat} {m : Nat} : ∀ (d : Nat) (p : List Nat), ¬ degA L L2 p 0 = true → finF L L2 m d p = none := by
 intro d
 induction d with
 | zero => intro p h; simp only [finF]; rw [if_neg (fun hc => h hc.1)]
 | succ d ih =>
  intro p h; simp only [finF]; rw [List.findSome?_eq_none_iff]; intro e _
  split
  ·rfl
  ·refine ih _ (fun hc => h ?_); rw [gJ, Bool.and_eq_true] at hc; exact hc.1
theorem fC {L L2 : List Nat} {m : Nat} : ∀ (d : Nat) (p q : List Nat), Part m p d → finF L L2 m d p = some q → Part m q 0 ∧ degA L L2 q 0 = true ∧ canT L q = ints L2 := by
 intro d
 induction d with
 | zero =>
  intro p q hp h; simp only [finF] at h
  split at h
  ·cases h; exact ⟨hp, by assumption⟩
  ·cases h
 | succ d ih =>
  intro p q hp h; simp only [finF] at h; obtain ⟨e, he, h⟩ := List.exists_of_findSome?_eq_some h
  split at h
  ·cases h
  ·exact ih _ q (hp.next (List.mem_range.1 he) (by assumption)) h
end Go.Proofs.YtbdloopelidneaaGreat.Q
namespace Go.Proofs.YtbdloopelidneaaGreat.Q
open Go Go.RowKit Go.Proofs.YtbdloopelidneaaGreatW.PrintWords Go.Proofs.YtbdloopelidneaaGreatW.PrintLast Go.Proofs.YtbdloopelidneaaGreatW.PrintMore Go.Proofs.YtbdloopelidneaaGreat.Z
set_option linter.unusedVariables false
set_option linter.unusedSimpArgs false
theorem iU {L L2 : List Nat} {m : Nat} : ∀ (d : Nat) (p r : List Nat), r.length = d → Part m (p ++ r) 0 → degA L L2 (p ++ r) 0 = true → canT L (p ++ r) = ints L2 → ∃ q, finF L L2 m d p = some q := by
 intro d
 induction d with
 | zero =>
  intro p r hr _ hA hc; have : r = [] := List.length_eq_zero_iff.1 hr; subst this; rw [List.append_nil] at hA hc; exact ⟨p, by simp only [finF]; rw [if_pos ⟨hA, hc⟩]⟩
 | succ d ih =>
  intro p r hr hp hA hc; cases r with
  | nil => simp at hr
  | cons e r =>
   have e1 : p ++ e :: r = (p ++ [e]) ++ r := by simp
   rw [e1] at hp hA hc; obtain ⟨q, hq⟩ := ih (p ++ [e]) r (by simpa using hr) hp hA hc; have he : e < m := hp.lt e (by simp); have hn : e ∉ p := by
    have h1 := (List.nodup_append.1 hp.nodup).1; have h2 := (List.nodup_append.1 h1).2.2; intro hx; exact h2 e hx e (by simp) rfl
   simp only [finF]; cases hf : (List.range m).findSome? (fun e => if e ∈ p then none else finF L L2 m d (p ++ [e])) with
   | some q' => exact ⟨q', rfl⟩
   | none =>
    rw [List.findSome?_eq_none_iff] at hf; have := hf e (List.mem_range.2 he); rw [if_neg hn, hq] at this; cases this
theorem fU {p : List Nat} {e : Nat} (he : e < p.length) : (rd (ints p) (e : Int)).toNat = p.getD e 0 := by
 rw [fF p e he, Int.toNat_natCast, List.getD_eq_getElem?_getD, List.getElem?_eq_getElem he]; rfl
theorem ke {p p' : List Nat} (h : ∀ x ∈ p, x < p'.length) (s : Nat) : bM (ints p') (bM (ints p) s) = bM (ints (p.map (fun e => p'.getD e 0))) s := by
 apply Nat.eq_of_testBit_eq
 intro j; rw [Bool.eq_iff_iff, renSetN_bit, renSetN_bit]
 constructor
 ·rintro ⟨e, he, hb, hj⟩; rw [renSetN_bit] at hb; obtain ⟨i, hi, hs, hi2⟩ := hb; rw [aA] at he hi; rw [fU he] at hj; rw [fU hi] at hi2; refine ⟨i, by rw [aA, List.length_map]; exact hi, hs, ?_⟩; rw [fU (by rw [List.length_map]; exact hi)]; rw [List.getD_eq_getElem?_getD, List.getElem?_map, List.getElem?_eq_getElem hi]; rw [List.getD_eq_getElem?_getD, List.getElem?_eq_getElem hi] at hi2; simp only [Option.map_some, Option.getD_some] at hi2 ⊢; rw [hi2]; exact hj
 ·rintro ⟨i, hi, hs, hj⟩; rw [aA, List.length_map] at hi; rw [fU (by rw [List.length_map]; exact hi), List.getD_eq_getElem?_getD, List.getElem?_map, List.getElem?_eq_getElem hi] at hj; simp only [Option.map_some, Option.getD_some] at hj; have hlt := h p[i] (List.getElem_mem hi); refine ⟨p[i], by rw [aA]; exact hlt, ?_, by rw [fU hlt]; exact hj⟩; rw [renSetN_bit]; refine ⟨i, by rw [aA]; exact hi, hs, ?_⟩; rw [fU hi, List.getD_eq_getElem?_getD, List.getElem?_eq_getElem hi]; rfl
theorem ll : ∀ X Y : List Int, X.length = Y.length → lexB X Y = false → lexB Y X = false → X = Y := by
 intro X
 induction X with
 | nil => intro Y h _ _; exact (List.length_eq_zero_iff.1 h.symm).symm
 | cons x X ih =>
  intro Y h h1 h2; cases Y with
  | nil => simp at h
  | cons y Y =>
   simp only [lexB] at h1 h2; by_cases e : x = y
   ·subst e; rw [if_pos rfl] at h1 h2; rw [ih Y (by simpa using h) h1 h2]
   ·rw [if_neg e] at h1; rw [if_neg (fun h => e h.symm)] at h2; have a := of_decide_eq_false h1; have b := of_decide_eq_false h2; omega
theorem kY : ∀ X Y Z : List Int, X.length = Y.length → Y.length = Z.length → lexB Y X = false → lexB Z Y = false → lexB Z X = false := by
 intro X
 induction X with
 | nil =>
  intro Y Z h1 h2 _ _; rw [List.length_nil] at h1; have : Z = [] := List.length_eq_zero_iff.1 (by omega); subst this; rfl
 | cons x X ih =>
  intro Y Z h1 h2 h3 h4; cases Y with
  | nil => simp at h1
  | cons y Y =>
   cases Z with
   | nil => simp at h2
   | cons z Z =>
    simp only [lexB] at h3 h4 ⊢; by_cases e1 : y = x
    ·subst e1; rw [if_pos rfl] at h3; by_cases e2 : z = y
     ·subst e2; rw [if_pos rfl] at h4 ⊢; exact ih Y Z (by simpa using h1) (by simpa using h2) h3 h4
     ·rw [if_neg e2] at h4 ⊢; exact h4
    ·rw [if_neg e1] at h3; have a := of_decide_eq_false h3; by_cases e2 : z = y
     ·subst e2; rw [if_neg e1]; exact h3
     ·rw [if_neg e2] at h4; have b := of_decide_eq_false h4; rw [if_neg (show ¬ z = x by omega)]; exact decide_eq_false (by omega)
structure nf (L : List Nat) (m d : Nat) (p : List Nat) (st r : List Int) : Prop where
 len : r.length = L.length
 src : r = st ∨ ∃ q, q.length = d ∧ Part m (p ++ q) 0 ∧ r = canT L (p ++ q)
 le : lexB st r = false
 all : ∀ q, q.length = d → Part m (p ++ q) 0 → lexB (canT L (p ++ q)) r = false
theorem fT {m : Nat} {L : List Nat} (hL : ∀ b ∈ L, b < 2 ^ m) (hn : L.Nodup) : ∀ (d : Nat) (p : List Nat) (st : List Int), Part m p d → st.length = L.length → nf L m d p st (canF (canI L) m d p st) := by
 intro d
 induction d with
 | zero =>
  intro p st hp hst; have hT := eV hL hn hp; simp only [canF]; unfold canI; have hq : ∀ q : List Nat, q.length = 0 → p ++ q = p := fun q h => by rw [List.length_eq_zero_iff.1 h, List.append_nil]
  by_cases hx : lexB (canT L p) st = true
  ·rw [if_pos hx]; refine ⟨hT, .inr ⟨[], rfl, by rw [List.append_nil]; exact hp, by rw [List.append_nil]⟩, ?_, fun q h _ => by rw [hq q h]; exact eq _⟩; refine Classical.byContradiction fun hc => ?_
   have h2 : lexB st (canT L p) = true := by simpa using hc
   have : ∀ X Y : List Int, lexB X Y = true → lexB Y X = true → False := by
    intro X
    induction X with
    | nil => intro Y h; simp [lexB] at h
    | cons x X ih =>
     intro Y h h'; cases Y with
     | nil => simp [lexB] at h
     | cons y Y =>
      simp only [lexB] at h h'; by_cases e : x = y
      ·subst e; rw [if_pos rfl] at h h'; exact ih Y h h'
      ·rw [if_neg e] at h; rw [if_neg (fun h => e h.symm)] at h'; have a := of_decide_eq_true h; have b := of_decide_eq_true h'; omega
   exact this _ _ hx h2
  ·rw [if_neg hx]; exact ⟨hst, .inl rfl, eq _, fun q h _ => by rw [hq q h]; exact Bool.eq_false_iff.2 hx⟩
 | succ d ih =>
  intro p st hp hst; simp only [canF]; have hgo : ∀ (es : List Nat) (st : List Int), (∀ e ∈ es, e < m) → st.length = L.length →
    let r := es.foldl (fun st e => if e ∈ p then st else canF (canI L) m d (p ++ [e]) st) st
    r.length = L.length ∧ (r = st ∨ ∃ q, q.length = d + 1 ∧ Part m (p ++ q) 0 ∧ r = canT L (p ++ q)) ∧ lexB st r = false ∧ ∀ e ∈ es, e ∉ p → ∀ q, q.length = d → Part m (p ++ [e] ++ q) 0 → lexB (canT L (p ++ [e] ++ q)) r = false := by
   intro es
   induction es with
   | nil => intro st _ hst; exact ⟨hst, .inl rfl, eq _, by simp⟩
   | cons e es ihe =>
    intro st hes hst; simp only [List.foldl_cons]; by_cases hc : e ∈ p
    ·rw [if_pos hc]; obtain ⟨h1, h2, h3, h4⟩ := ihe st (fun x hx => hes x (List.mem_cons_of_mem _ hx)) hst; refine ⟨h1, h2, h3, fun x hx hxp q hq hP => ?_⟩; rcases List.mem_cons.1 hx with rfl | hx
     ·exact absurd hc hxp
     ·exact h4 x hx hxp q hq hP
    ·rw [if_neg hc]; have hl := ih (p ++ [e]) st (hp.next (hes e (List.mem_cons_self ..)) hc) hst; obtain ⟨h1, h2, h3, h4⟩ := ihe (canF (canI L) m d (p ++ [e]) st) (fun x hx => hes x (List.mem_cons_of_mem _ hx)) hl.len; refine ⟨h1, ?_, kY _ _ _ (by rw [h1, hl.len]) (by rw [hl.len, hst]) h3 hl.le, fun x hx hxp q hq hP => ?_⟩
     ·rcases h2 with h2 | h2
      ·rcases hl.src with h5 | ⟨q, hq, hP, h5⟩
       ·exact .inl (h2.trans h5)
       ·exact .inr ⟨e :: q, by rw [List.length_cons, hq], by simpa using hP, by rw [h2, h5]; simp⟩
      ·exact .inr h2
     ·rcases List.mem_cons.1 hx with rfl | hx
      ·have h6 := hl.all q hq hP; exact kY _ _ _ (by rw [h1, hl.len]) (by rw [hl.len, eV hL hn hP]) h3 h6
      ·exact h4 x hx hxp q hq hP
  obtain ⟨h1, h2, h3, h4⟩ := hgo (List.range m) st (fun e he => List.mem_range.1 he) hst; refine ⟨h1, h2, h3, fun q hq hP => ?_⟩; cases q with
  | nil => simp at hq
  | cons e q =>
   have e1 : p ++ e :: q = p ++ [e] ++ q := by simp
   rw [e1] at hP ⊢; have hP2 := (List.nodup_append.1 hP.nodup).1; exact h4 e (List.mem_range.2 (hP.lt e (by simp))) (fun hx => (List.nodup_append.1 hP2).2.2 e hx e (by simp) rfl) q (by simpa using hq) hP
theorem jI {X Y : List Int} (h : ∀ a, a ∈ X ↔ a ∈ Y) : dB [] X = dB [] Y :=
 fw (dY X [] List.Pairwise.nil) (dY Y [] List.Pairwise.nil) (fun a => by rw [sortO_mem, sortO_mem, h])
theorem lu {L C p q : List Nat} (hC : ints C = canT L p) (hq : ∀ x ∈ p, x < q.length) : canT C q = canT L (p.map (fun e => q.getD e 0)) := by
 have hmem : ∀ x : Nat, x ∈ C ↔ ∃ y ∈ L, bM (ints p) y = x := by
  intro x; have h1 : (x : Int) ∈ ints C ↔ x ∈ C := by
   unfold ints; rw [List.mem_map]; exact ⟨fun ⟨y, hy, e⟩ => (show y = x by omega) ▸ hy, fun h => ⟨x, h, rfl⟩⟩
  rw [← h1, hC]; unfold canT; rw [sortO_mem]; unfold ints; rw [List.mem_map]
  constructor
  ·rintro (⟨y, hy, e⟩ | h)
   ·obtain ⟨z, hz, rfl⟩ := List.mem_map.1 hy; exact ⟨z, hz, by unfold ints at *; omega⟩
   ·cases h
  ·rintro ⟨y, hy, rfl⟩; exact .inl ⟨_, List.mem_map.2 ⟨y, hy, rfl⟩, rfl⟩
 unfold canT
 apply jI
 intro a; have hm : ∀ (X : List Nat) (a : Int), a ∈ ints X ↔ ∃ x ∈ X, (x : Int) = a := fun X a => by unfold ints; rw [List.mem_map]
 rw [hm, hm]
 constructor
 ·rintro ⟨x, hx, rfl⟩; obtain ⟨z, hz, rfl⟩ := List.mem_map.1 hx; obtain ⟨y, hy, rfl⟩ := (hmem z).1 hz; exact ⟨_, List.mem_map.2 ⟨y, hy, rfl⟩, by rw [ke hq]⟩
 ·rintro ⟨x, hx, rfl⟩; obtain ⟨y, hy, rfl⟩ := List.mem_map.1 hx; exact ⟨_, List.mem_map.2 ⟨_, (hmem _).2 ⟨y, hy, rfl⟩, rfl⟩, by rw [ke hq]⟩
theorem Part.comp {m : Nat} {p q : List Nat} (hp : Part m p 0) (hq : Part m q 0) : Part m (p.map (fun e => q.getD e 0)) 0 := by
 have hpl := hp.len; have hql := hq.len; have hg : ∀ e (h : e < q.length), q.getD e 0 = q[e] := fun e h => by rw [List.getD_eq_getElem?_getD, List.getElem?_eq_getElem h]; rfl
 refine ⟨?_, ?_, by rw [List.length_map]; exact hpl⟩
 ·rw [List.Nodup, List.pairwise_map]; refine List.Pairwise.imp_of_mem (fun {a b} ha hb hne he => hne ?_) hp.nodup; have h1 : a < q.length := by have := hp.lt a ha; omega
  have h2 : b < q.length := by have := hp.lt b hb; omega
  rw [hg a h1, hg b h2] at he; exact (List.getElem_inj hq.nodup).1 he
 ·intro e he; obtain ⟨x, hx, rfl⟩ := List.mem_map.1 he; have h1 : x < q.length := by have := hp.lt x hx; omega
  rw [hg x h1]; exact hq.lt _ (List.getElem_mem h1)
theorem lE {m : Nat} {L C : List Nat} (hL : ∀ b ∈ L, b < 2 ^ m) (hn : L.Nodup) (hC2 : ∀ b ∈ C, b < 2 ^ m) (hCn : C.Nodup) (hCl : C.length = L.length) {p : List Nat} (hp : Part m p 0) (hCp : ints C = canT L p) (hC : ints C = canF (canI L) m m [] (ints L)) : canF (canI C) m m [] (ints C) = ints C := by
 have h0 : Part m [] m := ⟨List.nodup_nil, (fun e he => by cases he), by simp⟩; have hl := fT hL hn m [] (ints L) h0 (by rw [aA]); have hc := fT hC2 hCn m [] (ints C) h0 (by rw [aA]); rw [← hC] at hl; have hlen : ∀ {q : List Nat}, Part m q 0 → q.length = m := fun h => by have := h.len; omega
 have hall : ∀ q, Part m q 0 → lexB (canT C q) (ints C) = false := by
  intro q hq; rw [lu hCp (fun x hx => by rw [hlen hq]; exact hp.lt x hx)]; have hk := Part.comp hp hq; exact hl.all _ (hlen hk) hk
 refine ll _ _ (by rw [hc.len, aA]) ?_ hc.le; rcases hc.src with h | ⟨q, _, hq, h⟩
 ·rw [h]; exact eq _
 ·rw [h]; exact hall q hq
end Go.Proofs.YtbdloopelidneaaGreat.Q
namespace Go.Proofs.YtbdloopelidneaaGreat.Q
open Go Go.RowKit Go.Proofs.YtbdloopelidneaaGreat.A Go.Proofs.YtbdloopelidneaaGreatW.PrintWords Go.Proofs.YtbdloopelidneaaGreatW.PrintLast Go.Proofs.YtbdloopelidneaaGreatW.PrintMore Go.Proofs.YtbdloopelidneaaGreat.Z
set_option linter.unusedVariables false
set_option linter.unusedSimpArgs false
theorem mB {L L2 : List Nat} {m : Nat} (hl : L.length ≤ 17592186044416) (hl2 : L2.length ≤ 17592186044416) (hL : ∀ b ∈ L, b < 256) (hL2 : ∀ b ∈ L2, b < 256) (p : List Nat) (hp : p.length ≤ 8) : Ev (fun k => aV.d k (m : Int) (ints L) (m : Int) (ints L2) (ints p) 0) (degA L L2 p 0) := by
 have hd := down (P := fun i => Ev (fun k => aV.d k (m : Int) (ints L) (m : Int) (ints L2) (ints p) (i : Int)) (degA L L2 p i)) p.length
  (by
   rw [mq]
   apply Ev.step
   ·intro k; rw [aV.d, if_neg (by rw [aA]; omega)]
   ·exact Ev.now _)
  (by
   intro i hi ih
   apply Ev.step
   ·intro k; rw [aV.d, if_pos (by rw [aA]; omega), if_pos (by omega), fF p i hi, ck hi (by omega)]
   ·refine Ev.bind (fk _ L i hl hL) (Ev.bind (fk _ L2 p[i] hl2 hL2) ?_); rw [lz hi, show p.getD i 0 = p[i] from by rw [List.getD_eq_getElem?_getD, List.getElem?_eq_getElem hi]; rfl]; by_cases hc : degN L i = degN L2 p[i]
    ·rw [decide_eq_true hc, Bool.true_and]; exact Ev.ifp (by omega) ih
    ·rw [decide_eq_false hc, Bool.false_and]; exact Ev.ifn (by omega) (Ev.now _))
 exact hd
def finR : Option (List Nat) → (List Int × Bool) × Bool
 | some q => ((ints q, true), false)
 | none => (([], false), true)
theorem kw {m : Nat} {L L2 : List Nat} (hm : m ≤ 8) (hL : ∀ b ∈ L, b < 2 ^ m) (hL2 : ∀ b ∈ L2, b < 256) (hl : L.length ≤ 8796093022208) (hl2 : L2.length ≤ 8796093022208) : ∀ (d : Nat) (p : List Nat) (D : Nat), Part m p d → d < D → Ev (fun k => renO k (aV.g k (m : Int) (ints L) (m : Int) (ints L2)) (m : Int) D (ints p) (([] : List Int), false)) (finR (finF L L2 m d p)) := by
 have h256 := cW hm; intro d
 induction d with
 | zero =>
  intro p D hp hD; obtain ⟨D, rfl⟩ : ∃ D', D = D' + 1 := ⟨D - 1, by omega⟩; have hlen := hp.len; have h8 : ∀ x ∈ ints p, 0 ≤ x ∧ x < 8 := by
   intro x hx; obtain ⟨y, hy, rfl⟩ := List.mem_map.1 hx; have := hp.lt y hy; omega
  have hT : (canT L p).length ≤ L.length := by
   have := fd (ints (L.map (bM (ints p)))) []; rw [aA, List.length_map] at this; unfold canT
   simpa using this
  simp only [renO, finF]; refine Ev.ifp (by rw [aA]; omega) ?_; unfold aV.g; refine Ev.bind (mB (by omega) (by omega) (fun b hb => by have := hL b hb; omega) hL2 p (by omega)) ?_; by_cases hx : degA L L2 p 0 = true
  ·refine Ev.ifp hx (Ev.bind (eL (m : Int) (ints p) L hl (by rw [aA]; omega) h8 (by rw [aA, show p.length = m by omega]; exact hL)) ?_); unfold cw.f; refine Ev.bind (a := decide (canT L p = ints L2)) (Ev.ifp rfl (Ev.bind (lA (canT L p) (ints L2) (by omega)) (Ev.now _))) ?_; by_cases hc : canT L p = ints L2
   ·rw [show (if degA L L2 p 0 = true ∧ canT L p = ints L2 then some p else none) = some p from if_pos ⟨hx, hc⟩]; refine Ev.ifp (decide_eq_true hc) (Ev.ifp ⟨rfl, by simp only [List.length_nil]; rw [aA]; omega⟩ ?_); exact Ev.now _
   ·rw [show (if degA L L2 p 0 = true ∧ canT L p = ints L2 then some p else none) = none from if_neg (fun h => hc h.2)]; exact Ev.ifn (by rw [decide_eq_false hc]; decide) (Ev.now _)
  ·rw [show (if degA L L2 p 0 = true ∧ canT L p = ints L2 then some p else none) = none from if_neg (fun h => hx h.1)]; exact Ev.ifn hx (Ev.now _)
 | succ d ih =>
  intro p D hp hD; obtain ⟨D, rfl⟩ : ∃ D', D = D' + 1 := ⟨D - 1, by omega⟩; have hlen := hp.len; simp only [renO, finF]; refine Ev.ifn (by rw [aA]; omega) (Ev.ifp (by rw [aA]; omega) ?_); rw [Int.toNat_natCast]; have hd := down (P := fun i => Ev (fun k => renE k (renO k (aV.g k (m : Int) (ints L) (m : Int) (ints L2)) (m : Int) D) (ints p) (m - i) (i : Int) (([] : List Int), false)) (finR ((List.range' i (m - i)).findSome? (fun e => if e ∈ p then none else finF L L2 m d (p ++ [e]))))) m
   (by
    rw [Nat.sub_self]; simp only [renE, List.range'_zero, List.findSome?_nil]; exact Ev.now _)
   (by
    intro i hi ih2; rw [dP hi, List.findSome?_cons, show m - i = (m - (i + 1)) + 1 by omega]; simp only [renE]; refine Ev.bind (fv (ints p) (i : Int) (by rw [aA]; omega)) ?_; have ec : (ints p).contains (i : Int) = decide (i ∈ p) := by rw [Bool.eq_iff_iff, ints_mem, decide_eq_true_eq]
    rw [ec, show (i : Int) + 1 = ((i + 1 : Nat) : Int) from rfl]; by_cases hc : i ∈ p
    ·rw [if_pos hc]; exact Ev.ifp (decide_eq_true hc) ih2
    ·rw [if_neg hc]; refine Ev.ifn (by rw [decide_eq_false hc]; decide) ?_; rw [show ints p ++ [(i : Int)] = ints (p ++ [i]) from by simp [ints]]; refine Ev.bind (ih (p ++ [i]) D (hp.next hi hc) (by omega)) ?_; cases hf : finF L L2 m d (p ++ [i]) with
     | some q => exact Ev.ifn (by simp [finR]) (Ev.now _)
     | none => exact Ev.ifp rfl ih2)
  rw [Nat.sub_zero, ← List.range_eq_range'] at hd; exact hd
theorem jR {n : Nat} {f : Nat → Nat} {e : Nat} (he : e < n) : rd (degV n f) (e : Int) = (f e : Int) := by
 rw [bK (degV n f) e (by rw [eA]; exact he)]; simp [degV]
def SpF (L L2 : List Nat) (m : Nat) (F : Option (List Nat)) (r : List Int × Bool) : Prop := r.2 = F.isSome ∧ (∀ q, F = some q → r.1 = ints q) ∧ r.1.length ≤ 8
theorem kn {m : Nat} {L L2 : List Nat} (hm : m ≤ 8) (hL : ∀ b ∈ L, b < 2 ^ m) (hl : L.length ≤ 8796093022208) : ∀ (d : Nat) (p : List Nat), Part m p d → degA L L2 p 0 = true → ∃ r, Ev (fun k => an.f k (m : Int) (ints L) (m : Int) (ints L2) (degV m (degN L)) (degV m (degN L2)) (ints p)) r ∧ SpF L L2 m (finF L L2 m d p) r := by
 have h256 := cW hm; intro d
 induction d with
 | zero =>
  intro p hp hA; have hlen := hp.len; have h8 : ∀ x ∈ ints p, 0 ≤ x ∧ x < 8 := by
   intro x hx; obtain ⟨y, hy, rfl⟩ := List.mem_map.1 hx; have := hp.lt y hy; omega
  have hT : (canT L p).length ≤ L.length := by
   have := fd (ints (L.map (bM (ints p)))) []; rw [aA, List.length_map] at this; unfold canT
   simpa using this
  refine ⟨(ints p, decide (canT L p = ints L2)), ?_, ?_⟩
  ·apply Ev.step
   ·intro k; rw [an.f]
   ·exact Ev.ifp (by rw [aA]; omega) (Ev.bind (eE (ints p) L (by rw [aA]; omega) hl h8 (fun b hb => by have := hL b hb; omega)) (Ev.bind (jD (canT L p) (ints L2) (by omega)) (Ev.now _)))
  ·simp only [finF]; by_cases hc : canT L p = ints L2
   ·rw [if_pos ⟨hA, hc⟩]; exact ⟨by simp [hc], (fun q hq => by cases hq; rfl), by simp only []; rw [aA]; omega⟩
   ·rw [if_neg (fun h => hc h.2)]; exact ⟨by simp [hc], (fun q hq => by cases hq), by simp only []; rw [aA]; omega⟩
 | succ d ih =>
  intro p hp hA; have hlen := hp.len; have hd := down (P := fun i => ∃ r, Ev (fun k => an.l0 k (degV m (degN L)) (degV m (degN L2)) (ints p) (i : Int) (m : Int) (ints L) (m : Int) (ints L2)) r ∧ SpF L L2 m ((List.range' i (m - i)).findSome? (fun e => if e ∈ p then none else finF L L2 m d (p ++ [e]))) r) m
   (by
    rw [Nat.sub_self, List.range'_zero, List.findSome?_nil]; refine ⟨([], false), ?_, rfl, (fun q hq => by cases hq), Nat.zero_le _⟩
    apply Ev.step
    ·intro k; rw [an.l0, if_neg (by omega)]
    ·exact Ev.now _)
   (by
    intro i hi ih2; rw [dP hi, List.findSome?_cons]; obtain ⟨r2, e2, h2⟩ := ih2; have hh := e8 (ints p) (i : Int) (by rw [aA]; omega); have ec : (ints p).contains (i : Int) = decide (i ∈ p) := by rw [Bool.eq_iff_iff, ints_mem, decide_eq_true_eq]
    rw [ec] at hh; have hnext : Ev (fun k => an.j1 k (degV m (degN L)) (degV m (degN L2)) (ints p) (i : Int) true (m : Int) (ints L) (m : Int) (ints L2)) r2 := by
     apply Ev.step
     ·intro k; rw [an.j1, ck hi (by omega)]
     ·exact Ev.ifp rfl e2
    have hl0 : ∀ {r : List Int × Bool}, Ev (fun k => if decide (i ∈ p) = true then an.j1 k (degV m (degN L)) (degV m (degN L2)) (ints p) (i : Int) true (m : Int) (ints L) (m : Int) (ints L2) else (if 0 ≤ ((ints p).length : Int) then (if ((ints p).length : Int) < ((degV m (degN L)).length : Int) then (if 0 ≤ (i : Int) then (if (i : Int) < ((degV m (degN L2)).length : Int) then an.j1 k (degV m (degN L)) (degV m (degN L2)) (ints p) (i : Int) ((rd (degV m (degN L)) ((ints p).length : Int)) != (rd (degV m (degN L2)) (i : Int))) (m : Int) (ints L) (m : Int) (ints L2) else none) else none) else none) else none)) r → Ev (fun k => an.l0 k (degV m (degN L)) (degV m (degN L2)) (ints p) (i : Int) (m : Int) (ints L) (m : Int) (ints L2)) r := by
     intro r hr
     apply Ev.step
     ·intro k; rw [an.l0, if_pos (by omega)]
     ·exact Ev.bind hh hr
    by_cases hc : i ∈ p
    ·rw [if_pos hc]; exact ⟨r2, hl0 (Ev.ifp (decide_eq_true hc) hnext), h2⟩
    ·rw [if_neg hc]; have hplen : p.length < m := by omega
     have hskip : ∀ {r : List Int × Bool}, Ev (fun k => an.j1 k (degV m (degN L)) (degV m (degN L2)) (ints p) (i : Int) ((rd (degV m (degN L)) ((ints p).length : Int)) != (rd (degV m (degN L2)) (i : Int))) (m : Int) (ints L) (m : Int) (ints L2)) r → Ev (fun k => an.l0 k (degV m (degN L)) (degV m (degN L2)) (ints p) (i : Int) (m : Int) (ints L) (m : Int) (ints L2)) r := fun hr => hl0 (Ev.ifn (by rw [decide_eq_false hc]; decide) (Ev.ifp (by omega) (Ev.ifp (by rw [aA, eA]; omega) (Ev.ifp (by omega) (Ev.ifp (by rw [eA]; omega) hr)))))
     rw [aA, jR hplen, jR hi] at hskip; by_cases hdg : degN L p.length = degN L2 i
     ·rw [show (((degN L p.length : Nat) : Int) != ((degN L2 i : Nat) : Int)) = false from by rw [hdg]; simp] at hskip; have hA2 : degA L L2 (p ++ [i]) 0 = true := by rw [gJ, hA, decide_eq_true hdg]; rfl
      obtain ⟨r, er, h1, h3, h4⟩ := ih (p ++ [i]) (hp.next hi hc) hA2; have hj : ∀ {s : List Int × Bool}, Ev (fun k => if r.2 = true then some (r.1, true) else an.l0 k (degV m (degN L)) (degV m (degN L2)) (ints p) ((i + 1 : Nat) : Int) (m : Int) (ints L) (m : Int) (ints L2)) s → Ev (fun k => an.j1 k (degV m (degN L)) (degV m (degN L2)) (ints p) (i : Int) false (m : Int) (ints L) (m : Int) (ints L2)) s := by
       intro s hs
       apply Ev.step
       ·intro k; rw [an.j1, ck hi (by omega)]
       ·refine Ev.ifn (by decide) (Ev.cbind rfl (Ev.ifp (by rw [aA]; simp; omega) (Ev.cbind rfl (Ev.cbind rfl (Ev.ifp (by rw [List.nil_append, aA]; simp; omega) ?_))))); rw [List.nil_append, show ints p ++ [(i : Int)] = ints (p ++ [i]) from by simp [ints]]; exact Ev.bind er hs
      cases hf : finF L L2 m d (p ++ [i]) with
      | some q =>
       rw [hf] at h1 h3; exact ⟨(r.1, true), hskip (hj (Ev.ifp h1 (Ev.now _))), rfl, (fun q' hq' => by cases hq'; exact h3 q rfl), h4⟩
      | none =>
       rw [hf] at h1; exact ⟨r2, hskip (hj (Ev.ifn (by rw [h1]; decide) e2)), h2⟩
     ·rw [show (((degN L p.length : Nat) : Int) != ((degN L2 i : Nat) : Int)) = true from by rw [bne_iff_ne]; omega] at hskip; rw [mS d (p ++ [i]) (by rw [gJ, decide_eq_false hdg, Bool.and_false]; decide)]; exact ⟨r2, hskip hnext, h2⟩)
  rw [Nat.sub_zero, ← List.range_eq_range'] at hd; obtain ⟨r, er, h⟩ := hd; refine ⟨r, ?_, h⟩
  apply Ev.step
  ·intro k; rw [an.f]
  ·exact Ev.ifn (by rw [aA]; omega) er
def fiB (n : Int) (l : List Int) (n2 : Int) (l2 : List Int) : List Int × Bool := if matB n l = true ∧ matB n2 l2 = true ∧ n = n2 ∧ l.length = l2.length then (match finF (l.map Int.toNat) (l2.map Int.toNat) n.toNat n.toNat [] with | some q => (ints q, true) | none => ([], false)) else ([], false)
theorem l9 : ∀ (m : Nat) (l : List Nat), l.Nodup → (∀ x ∈ l, x < m) → l.length ≤ m := by
 intro m
 induction m with
 | zero =>
  intro l _ h; cases l with
  | nil => exact Nat.le_refl _
  | cons x l => exact absurd (h x (List.mem_cons_self ..)) (Nat.not_lt_zero _)
 | succ m ih =>
  intro l hn h; have h1 := ih (l.erase m) (hn.erase m) (fun x hx => by
   have := h x (List.mem_of_mem_erase hx); have hne : x ≠ m := (hn.mem_erase_iff.1 hx).1; omega)
  by_cases hm : m ∈ l
  ·rw [List.length_erase_of_mem hm] at h1; omega
  ·rw [List.erase_of_not_mem hm] at h1; omega
theorem eP (m : Nat) : Part m [] m := ⟨List.nodup_nil, (fun e he => by cases he), by simp⟩
theorem jx {m : Nat} {L L2 : List Nat} (h : matB (m : Int) (ints L) = true) (h2 : matB (m : Int) (ints L2) = true) (hlen : L.length = L2.length) : fiB (m : Int) (ints L) (m : Int) (ints L2) = (match finF L L2 m m [] with | some q => (ints q, true) | none => ([], false)) := by
 unfold fiB; rw [if_pos ⟨h, h2, rfl, by rw [aA, aA]; exact hlen⟩, Int.toNat_natCast, show (ints L).map Int.toNat = L from cK L, show (ints L2).map Int.toNat = L2 from cK L2]
theorem kT (n : Int) (l : List Int) (n2 : Int) (l2 : List Int) : (fiB n l n2 l2).1.length ≤ 8 := by
 unfold fiB
 split
 ·rename_i h
  obtain ⟨m, L, rfl, hm, rfl, _⟩ := eb h.1; rw [Int.toNat_natCast]
  split
  ·rename_i q hq
   have := (fC m [] q (eP m) hq).1.len; simp only [aA]; omega
  ·exact Nat.zero_le _
 ·exact Nat.zero_le _
theorem gY (n : Int) (l : List Int) (n2 : Int) (l2 : List Int) (hl : l.length ≤ 8796093022208) (hl2 : l2.length ≤ 8796093022208) : Ev (fun k => aV.f k n l n2 l2) (fiB n l n2 l2) := by
 unfold aV.f; refine Ev.bind (eD n l (by omega)) ?_; by_cases h : matB n l = true
 rotate_left
 ·rw [show fiB n l n2 l2 = ([], false) from if_neg (fun hc => h hc.1)]; exact Ev.ifn h (Ev.now _)
 refine Ev.ifp h (Ev.bind (eD n2 l2 (by omega)) ?_); by_cases h2 : matB n2 l2 = true
 rotate_left
 ·rw [show fiB n l n2 l2 = ([], false) from if_neg (fun hc => h2 hc.2.1)]; exact Ev.ifn h2 (Ev.now _)
 refine Ev.ifp h2 ?_; by_cases h3 : n = n2
 rotate_left
 ·rw [show fiB n l n2 l2 = ([], false) from if_neg (fun hc => h3 hc.2.2.1)]; exact Ev.ifn h3 (Ev.now _)
 refine Ev.ifp h3 ?_; by_cases h4 : l.length = l2.length
 rotate_left
 ·rw [show fiB n l n2 l2 = ([], false) from if_neg (fun hc => h4 hc.2.2.2)]; exact Ev.ifn (by omega) (Ev.now _)
 refine Ev.ifp (by omega) ?_; subst h3; obtain ⟨m, L, rfl, rfl, hM, _⟩ := ee h; obtain ⟨m2, L2, e1, rfl, hM2, _⟩ := ee h2; rw [aA] at hl hl2; rw [aA, aA] at h4; have hm := hM.size; rw [jx h h2 h4]; refine Ev.ifp ⟨by omega, by omega⟩ (Ev.bind (kw hM.size hM.sets hM2.lt hl hl2 m [] 16 (eP m) (by omega)) ?_); cases hf : finF L L2 m m [] with
 | some q => exact Ev.ifp rfl (Ev.now _)
 | none => exact Ev.ifn (by simp [finR]) (Ev.now _)
theorem iJ {m : Nat} {L L2 : List Nat} (h : matB (m : Int) (ints L) = true) (h2 : matB (m : Int) (ints L2) = true) {q : List Nat} (hq : finF L L2 m m [] = some q) : sigB (m : Int) (ints L) = sigB (m : Int) (ints L2) := by
 obtain ⟨hp, hA, _⟩ := fC m [] q (eP m) hq; have hlen := hp.len; rw [degA_iff] at hA; unfold sigB; rw [if_pos h, if_pos h2, Int.toNat_natCast, show (ints L).map Int.toNat = L from cK L, show (ints L2).map Int.toNat = L2 from cK L2]; have hperm : q.Perm (List.range m) := by
  refine (List.perm_ext_iff_of_nodup hp.nodup List.nodup_range).2 (fun x => ⟨fun hx => List.mem_range.2 (hp.lt x hx), fun hx => ?_⟩); refine Classical.byContradiction fun hn => ?_
  have := l9 m (x :: q) (List.nodup_cons.2 ⟨hn, hp.nodup⟩) (fun y hy => by
   rcases List.mem_cons.1 hy with rfl | hy
   ·exact List.mem_range.1 hx
   ·exact hp.lt y hy)
  rw [List.length_cons] at this; omega
 have e : degV m (degN L) = q.map (fun e => (degN L2 e : Int)) := by
  unfold degV
  apply List.ext_getElem
  ·rw [List.length_map, List.length_map, List.length_range]; omega
  ·intro i h1 h3; have hi : i < q.length := by rw [List.length_map] at h3; exact h3
   have := hA i hi; rw [List.getElem_map, List.getElem_map, List.getElem_range, this, List.getD_eq_getElem?_getD, List.getElem?_eq_getElem hi]; rfl
 have hp2 : (degV m (degN L)).Perm (degV m (degN L2)) := by
  rw [e]; exact hperm.map _
 exact jj ((gA _).trans (hp2.trans (gA _).symm)) (iO _) (iO _)
theorem jZ (n : Int) (l : List Int) (n2 : Int) (l2 : List Int) (hl : l.length ≤ 8796093022208) (hl2 : l2.length ≤ 8796093022208) : Ev (fun k => al.f k n l n2 l2) (fiB n l n2 l2) := by
 have hno : Ev (fun k => al.j0 k true n l n2 l2) ([], false) := by
  apply Ev.step
  ·intro k; rw [al.j0]
  ·exact Ev.ifp rfl (Ev.now _)
 unfold al.f; refine Ev.bind (dW n l (by omega)) ?_; by_cases h : matB n l = true
 rotate_left
 ·rw [show fiB n l n2 l2 = ([], false) from if_neg (fun hc => h hc.1)]; exact Ev.ifn h hno
 refine Ev.ifp h (Ev.bind (dW n2 l2 (by omega)) ?_); by_cases h2 : matB n2 l2 = true
 rotate_left
 ·rw [show fiB n l n2 l2 = ([], false) from if_neg (fun hc => h2 hc.2.1)]; exact Ev.ifn h2 hno
 refine Ev.ifp h2 ?_; by_cases h3 : n = n2
 rotate_left
 ·rw [show fiB n l n2 l2 = ([], false) from if_neg (fun hc => h3 hc.2.2.1)]; exact Ev.ifn h3 hno
 refine Ev.ifp h3 ?_; by_cases h4 : l.length = l2.length
 rotate_left
 ·rw [show fiB n l n2 l2 = ([], false) from if_neg (fun hc => h4 hc.2.2.2)]; exact Ev.ifn (by omega) hno
 refine Ev.ifp (by omega) ?_; subst h3; obtain ⟨m, L, rfl, rfl, hM, _⟩ := ee h; obtain ⟨m2, L2, e1, rfl, hM2, _⟩ := ee h2; have hs := il (m : Int) (ints L); refine Ev.bind (fP _ _ hl) (Ev.bind (fP _ _ hl2) (Ev.bind (jD _ _ (by omega)) ?_)); rw [aA] at hl hl2; rw [aA, aA] at h4; have hm := hM.size; rw [jx h h2 h4]; by_cases hsig : sigB (m : Int) (ints L) = sigB (m : Int) (ints L2)
 rotate_left
 ·rw [decide_eq_false hsig, Bool.not_false]; cases hf : finF L L2 m m [] with
  | some q => exact absurd (iJ h h2 hf) hsig
  | none => exact hno
 rw [decide_eq_true hsig, Bool.not_true]; obtain ⟨r, er, h5, h6, h7⟩ := kn (L2 := L2) hM.size hM.sets hl m [] (eP m) (by simp [degA])
 apply Ev.step
 ·intro k; rw [al.j0]
 ·refine Ev.ifn (by decide) (Ev.bind (fR m hM.size L hl hM.lt) (Ev.bind (fR m hM.size L2 hl2 hM2.lt) (Ev.bind er ?_))); cases hf : finF L L2 m m [] with
  | some q =>
   rw [hf] at h5 h6; refine Ev.ifp h5 (Ev.cbind rfl (Ev.ifp (by simp; omega) ?_)); rw [List.nil_append, h6 q rfl]; exact Ev.now _
  | none =>
   rw [hf] at h5; exact Ev.ifn (by rw [h5]; decide) (Ev.now _)
end Go.Proofs.YtbdloopelidneaaGreat.Q
