/- The pure side of the law FnRenamed: what the Lean functions of the print compute, and that the law holds of them. Conditions: those in each lemma. -/
import Derived.Test.YtbdloopelidneaaGreatMFnRenamed1
import Derived.Test.YtbdloopelidneaaGreatMFnRenamed2
import Derived.Test.YtbdloopelidneaaGreatMFnRenamed3
import Derived.Test.YtbdloopelidneaaGreatMFnRenamed4
import Derived.Test.YtbdloopelidneaaGreatMFnRenamed5
import Derived.Test.YtbdloopelidneaaGreatMFnRenamed6
import Derived.Test.YtbdloopelidneaaGreatMFnRenamed7
import Derived.Test.YtbdloopelidneaaGreatMFnRenamed8
import Derived.Test.YtbdloopelidneaaGreatMFnRenamed9
import Derived.Test.YtbdloopelidneaaGreatMFnRenamed10
import Derived.Test.YtbdloopelidneaaGreatMFnRenamed11
import Derived.Test.YtbdloopelidneaaGreatMFnRenamed12
import Derived.Test.YtbdloopelidneaaGreatMFnRenamedq0
import Derived.Test.YtbdloopelidneaaGreatMFnRenamedq2
namespace Go.Proofs.YtbdloopelidneaaGreat.Q
open Go Go.RowKit Go.Proofs.YtbdloopelidneaaGreatW.PrintWords Go.Proofs.YtbdloopelidneaaGreatW.PrintLast Go.Proofs.YtbdloopelidneaaGreatW.PrintMore Go.Proofs.YtbdloopelidneaaGreat.Z
set_option linter.unusedVariables false
set_option linter.unusedSimpArgs false
theorem kJ {n : Int} : ∀ {l : List Int} {seen : Nat}, renG n l seen = true → (l.map Int.toNat).Nodup ∧ ∀ x ∈ l, seen.testBit x.toNat = false := by
 intro l
 induction l with
 | nil => intro seen _; exact ⟨List.nodup_nil, fun x hx => by cases hx⟩
 | cons y ys ih =>
  intro seen h; simp only [renG, Bool.and_eq_true, decide_eq_true_eq, Bool.not_eq_true'] at h; obtain ⟨h1, h2⟩ := ih h.2; have h3 : ∀ x ∈ ys, seen.testBit x.toNat = false ∧ ¬ y.toNat = x.toNat := by
   intro x hx; have := h2 x hx; rw [lf, Bool.or_eq_false_iff, decide_eq_false_iff_not] at this; exact this
  refine ⟨?_, ?_⟩
  ·rw [List.map_cons, List.nodup_cons]; refine ⟨fun hm => ?_, h1⟩; obtain ⟨x, hx, e⟩ := List.mem_map.1 hm; exact (h3 x hx).2 e.symm
  ·intro x hx; rcases List.mem_cons.1 hx with rfl | hx
   ·exact h.1.2
   ·exact (h3 x hx).1
theorem jT {m : Nat} {w : List Int} (h : dv (m : Int) w = true) : ∃ p, w = ints p ∧ Part m p 0 := by
 simp only [dv, Bool.and_eq_true, decide_eq_true_eq] at h; have hm := jX h.2; refine ⟨w.map Int.toNat, ?_, (kJ h.2).1, ?_, ?_⟩
 ·unfold ints; rw [List.map_map]; refine (List.map_id w).symm.trans (List.map_congr_left (fun x hx => ?_)); have := hm x hx
  show x = ((x.toNat : Nat) : Int)
  omega
 ·intro e he; obtain ⟨x, hx, rfl⟩ := List.mem_map.1 he; have := hm x hx; omega
 ·rw [List.length_map]; omega
theorem mX {n : Int} : ∀ {p : List Nat} {seen : Nat}, p.Nodup → (∀ e ∈ p, (e : Int) < n ∧ e < 8 ∧ seen.testBit e = false) → renG n (ints p) seen = true := by
 intro p
 induction p with
 | nil => intro _ _ _; rfl
 | cons e p ih =>
  intro seen hn h; have he := h e (List.mem_cons_self ..); rw [List.nodup_cons] at hn; have h2 := ih (seen := seen ||| 2 ^ e) hn.2 (fun x hx => by
   have hx2 := h x (List.mem_cons_of_mem _ hx); refine ⟨hx2.1, hx2.2.1, ?_⟩; rw [lf, hx2.2.2, Bool.false_or, decide_eq_false_iff_not]; rintro rfl; exact hn.1 hx)
  show renG n ((e : Int) :: ints p) seen = true
  simp only [renG, Int.toNat_natCast, Bool.and_eq_true, decide_eq_true_eq, Bool.not_eq_true']; exact ⟨⟨⟨⟨by omega, he.1⟩, by omega⟩, he.2.2⟩, h2⟩
theorem kd {m : Nat} (hm : m ≤ 8) {p : List Nat} (h : Part m p 0) : dv (m : Int) (ints p) = true := by
 have := h.len; simp only [dv, Bool.and_eq_true, decide_eq_true_eq]; exact ⟨⟨by rw [aA]; omega, by omega⟩, mX h.nodup (fun e he => ⟨by have := h.lt e he; omega, by have := h.lt e he; omega, Nat.zero_testBit _⟩)⟩
theorem Part.surj {m : Nat} {p : List Nat} (h : Part m p 0) {j : Nat} (hj : j < m) : ∃ i, ∃ (hi : i < p.length), p[i] = j := by
 have : j ∈ p := by
  refine Classical.byContradiction fun hn => ?_
  have h1 := l9 m (j :: p) (List.nodup_cons.2 ⟨hn, h.nodup⟩) (fun y hy => by
   rcases List.mem_cons.1 hy with rfl | hy
   ·exact hj
   ·exact h.lt y hy)
  have h2 := h.len; rw [List.length_cons] at h1; omega
 exact List.getElem_of_mem this
theorem fD {m : Nat} {p : List Nat} (h : Part m p 0) {s i : Nat} (hi : i < p.length) : (bM (ints p) s).testBit p[i] = s.testBit i := by
 rw [Bool.eq_iff_iff, renSetN_bit]
 constructor
 ·rintro ⟨e, he, hb, hj⟩; rw [aA] at he; rw [fh he, Int.toNat_natCast] at hj; have := (List.getElem_inj h.nodup).1 hj; rw [← this]; exact hb
 ·intro hb; exact ⟨i, by rw [aA]; exact hi, hb, by rw [fh hi]; rfl⟩
theorem go {m : Nat} {p : List Nat} (h : Part m p 0) {s j : Nat} (hj : m ≤ j) : (bM (ints p) s).testBit j = false := by
 rw [Bool.eq_false_iff]; intro hc; obtain ⟨e, he, _, hq⟩ := (renSetN_bit _ _ _).1 hc; rw [aA] at he; rw [fh he, Int.toNat_natCast] at hq; have := h.lt _ (List.getElem_mem he); omega
theorem m7 {m : Nat} {p : List Nat} (h : Part m p 0) (s : Nat) : bM (ints p) s < 2 ^ m :=
 Nat.lt_pow_two_of_testBit _ (fun j hj => go h hj)
theorem mA {m : Nat} {p : List Nat} (h : Part m p 0) {s e f : Nat} (he : e < p.length) (hf : f < p.length) : bM (ints p) (swp s e f) = swp (bM (ints p) s) p[e] p[f] := by
 apply Nat.eq_of_testBit_eq
 intro j; by_cases hj : j < m
 ·obtain ⟨i, hi, rfl⟩ := h.surj hj; rw [fD h hi, swp_bit, swp_bit, fD h hi]; have e1 : (p[e] = p[i]) = (e = i) := propext (List.getElem_inj h.nodup); have e2 : (p[f] = p[i]) = (f = i) := propext (List.getElem_inj h.nodup); simp only [e1, e2]
 ·have h2 := h.lt _ (List.getElem_mem hf); rw [go h (by omega), swp_bit, go h (by omega), Bool.false_and, Bool.false_or, decide_eq_false (by omega)]
theorem mU {m : Nat} {L p : List Nat} (hL : Mat m L) (h : Part m p 0) : Mat m (L.map (bM (ints p))) := by
 have hlen := h.len; have h8 := hL.size; refine ⟨hL.size, ?_, by simpa using hL.some, ?_⟩
 ·intro b hb; obtain ⟨s, _, rfl⟩ := List.mem_map.1 hb; exact m7 h s
 ·intro a ha b hb e he hae hbe; obtain ⟨s, hs, rfl⟩ := List.mem_map.1 ha; obtain ⟨t, ht, rfl⟩ := List.mem_map.1 hb; have hem : e < m := by
   refine Classical.byContradiction fun hc => ?_
   rw [go h (by omega)] at hae; cases hae
  obtain ⟨i, hi, rfl⟩ := h.surj hem; rw [fD h hi] at hae hbe; obtain ⟨f, hf, h1, h2, h3⟩ := hL.exch s hs t ht i (by omega) hae hbe; have hfm : f < m := by
   refine Classical.byContradiction fun hc => ?_
   have := Nat.testBit_lt_two_pow (Nat.lt_of_lt_of_le (hL.sets t ht) (Nat.pow_le_pow_right (by decide) (show m ≤ f by omega))); rw [this] at h1; cases h1
  have hf2 : f < p.length := by omega
  refine ⟨p[f], ?_, by rw [fD h hf2]; exact h1, by rw [fD h hf2]; exact h2, ?_⟩
  ·have := h.lt _ (List.getElem_mem hf2); omega
  ·rw [← mA h hi hf2]; exact List.mem_map.2 ⟨_, h3, rfl⟩
theorem Mat.same {m : Nat} {L L' : List Nat} (h : Mat m L) (hx : ∀ a, a ∈ L' ↔ a ∈ L) : Mat m L' := by
 refine ⟨h.size, fun b hb => h.sets b ((hx b).1 hb), ?_, ?_⟩
 ·intro hn; obtain ⟨b, hb⟩ := List.exists_mem_of_ne_nil _ h.some; have := (hx b).2 hb; rw [hn] at this; cases this
 ·intro a ha b hb e he h1 h2; obtain ⟨f, h3, h4, h5, h6⟩ := h.exch a ((hx a).1 ha) b ((hx b).1 hb) e he h1 h2; exact ⟨f, h3, h4, h5, (hx _).2 h6⟩
theorem jK {m : Nat} {L p : List Nat} (hL : Mat m L) (hn : L.Nodup) (h : Part m p 0) : ∃ C, canT L p = ints C ∧ Mat m C ∧ C.Pairwise (· < ·) ∧ C.Perm (L.map (bM (ints p))) := by
 have hm0 : ∀ a, a ∈ canT L p ↔ a ∈ ints (L.map (bM (ints p))) := fun a => by unfold canT; rw [sortO_mem]; simp
 have hC : canT L p = ints ((canT L p).map Int.toNat) := by
  unfold ints; rw [List.map_map]; refine (List.map_id _).symm.trans (List.map_congr_left (fun x hx => ?_)); obtain ⟨y, _, rfl⟩ := List.mem_map.1 ((hm0 x).1 hx)
  rfl
 have hp : ((canT L p).map Int.toNat).Pairwise (· < ·) := by
  have h1 : (canT L p).Pairwise (· < ·) := dY _ [] List.Pairwise.nil; rw [hC] at h1; unfold ints at h1; rw [List.pairwise_map] at h1; exact h1.imp (fun h => by omega)
 have hmem : ∀ a, a ∈ (canT L p).map Int.toNat ↔ a ∈ L.map (bM (ints p)) := by
  intro a
  constructor
  ·intro ha; obtain ⟨x, hx, rfl⟩ := List.mem_map.1 ha; obtain ⟨y, hy, rfl⟩ := List.mem_map.1 ((hm0 x).1 hx); exact hy
  ·intro ha; exact List.mem_map.2 ⟨(a : Int), (hm0 _).2 (List.mem_map.2 ⟨a, ha, rfl⟩), rfl⟩
 have hlen := h.len; have hnd : (L.map (bM (ints p))).Nodup := by
  rw [List.Nodup, List.pairwise_map]; refine List.Pairwise.imp_of_mem (fun {a b} ha hb hne he => ?_) hn; exact hne (g1 h.nodup (by rw [show p.length = m by omega]; exact hL.sets a ha) (by rw [show p.length = m by omega]; exact hL.sets b hb) he)
 exact ⟨_, hC, Mat.same (mU hL h) hmem, hp, (List.perm_ext_iff_of_nodup (hp.imp (fun h e => by omega)) hnd).2 hmem⟩
theorem lU {L L' : List Nat} (h : L.Perm L') (e : Nat) : degN L e = degN L' e := (h.map _).sum_nat
theorem mo {m : Nat} {L p C : List Nat} (h : Part m p 0) (hC : C.Perm (L.map (bM (ints p)))) : degA L C p 0 = true := by
 rw [degA_iff]; intro j hj; rw [lU hC, List.getD_eq_getElem?_getD, List.getElem?_eq_getElem hj, Option.getD_some]; unfold degN; rw [List.map_map]
 congr 1
 apply List.map_congr_left
 intro s _
 show bt1 s j = bt1 (bM (ints p) s) p[j]
 unfold bt1; rw [fD h hj]
theorem kX {m : Nat} {L p C : List Nat} (h : Part m p 0) (hc : canT L p = ints C) (hC : C.Perm (L.map (bM (ints p)))) : ∃ q, finF L C m m [] = some q :=
 iU m [] p (by have := h.len; omega) h (mo h hC) hc
theorem j9 {n : Int} {l w : List Int} (h : (dj n l w).2.2 = true) : matB (dj n l w).1 (dj n l w).2.1 = true ∧ sigB (dj n l w).1 (dj n l w).2.1 = sigB n l := by
 unfold dj at h ⊢; by_cases hc : (matB n l && dv n w) = true
 rotate_left
 ·rw [if_neg hc] at h; cases h
 rw [if_pos hc]; rw [Bool.and_eq_true] at hc; obtain ⟨m, L, rfl, rfl, hM, hpw⟩ := ee hc.1; obtain ⟨p, rfl, hp⟩ := jT hc.2; rw [show (ints L).map Int.toNat = L from cK L]; obtain ⟨C, e, hMC, hCp, hperm⟩ := jK hM (hpw.imp (fun h e => by omega)) hp
 show matB (m : Int) (canT L p) = true ∧ sigB (m : Int) (canT L p) = sigB (m : Int) (ints L)
 rw [e]; have hm := jH hMC hCp; obtain ⟨q, hq⟩ := kX hp e hperm; exact ⟨hm, (iJ hc.1 hm hq).symm⟩
theorem mH {n : Int} {l : List Int} {n2 : Int} {l2 : List Int} (h : (fiB n l n2 l2).2 = true) : dj n l (fiB n l n2 l2).1 = (n2, l2, true) := by
 unfold fiB at h ⊢; by_cases hc : matB n l = true ∧ matB n2 l2 = true ∧ n = n2 ∧ l.length = l2.length
 rotate_left
 ·rw [if_neg hc] at h; cases h
 rw [if_pos hc] at h ⊢; obtain ⟨h1, h2, rfl, _⟩ := hc; obtain ⟨m, L, rfl, rfl, hM, hpw⟩ := ee h1; obtain ⟨m2, L2, e2, rfl, hM2, hpw2⟩ := ee h2; rw [Int.toNat_natCast, show (ints L).map Int.toNat = L from cK L, show (ints L2).map Int.toNat = L2 from cK L2] at h ⊢; cases hf : finF L L2 m m [] with
 | none => rw [hf] at h; cases h
 | some q =>
  obtain ⟨hq, _, hcan⟩ := fC m [] q (eP m) hf
  show dj (m : Int) (ints L) (ints q) = _
  unfold dj; rw [h1, kd hM.size hq, Bool.and_self, if_pos rfl, show (ints L).map Int.toNat = L from cK L]
  show ((m : Int), canT L q, true) = _
  rw [hcan]
theorem kz {n : Int} {l : List Int} (h : (cZ n l).2.2 = true) : (fiB n l (cZ n l).1 (cZ n l).2.1).2 = true ∧ ((fiB n l (cZ n l).1 (cZ n l).2.1).1.length : Int) = n ∧ cZ (cZ n l).1 (cZ n l).2.1 = ((cZ n l).1, (cZ n l).2.1, true) := by
 by_cases hc : matB n l = true ∧ n ≤ 6
 rotate_left
 ·unfold cZ at h; rw [if_neg hc] at h; cases h
 have hn6 := hc.2; obtain ⟨m, L, rfl, rfl, hM, hpw⟩ := ee hc.1; have hnd : L.Nodup := hpw.imp (fun h e => by omega); have e0 : cZ (m : Int) (ints L) = ((m : Int), canF (canI L) m m [] (ints L), true) := by
  unfold cZ; rw [if_pos hc, show (ints L).map Int.toNat = L from cK L, Int.toNat_natCast]
 rw [e0]
 show (fiB (m : Int) (ints L) (m : Int) (canF (canI L) m m [] (ints L))).2 = true ∧ ((fiB (m : Int) (ints L) (m : Int) (canF (canI L) m m [] (ints L))).1.length : Int) = m ∧ cZ (m : Int) (canF (canI L) m m [] (ints L)) = ((m : Int), canF (canI L) m m [] (ints L), true)
 have hl := fT hM.sets hnd m [] (ints L) (eP m) (by rw [aA]); have hsrc : ∃ p, Part m p 0 ∧ canF (canI L) m m [] (ints L) = canT L p := by
  rcases hl.src with h1 | ⟨q, _, hq, h1⟩
  ·exact ⟨List.range m, iG (by omega), by rw [h1, kR hM.sets hpw]⟩
  ·exact ⟨q, hq, h1⟩
 obtain ⟨p, hp, ep⟩ := hsrc; obtain ⟨C, e, hMC, hCp, hperm⟩ := jK hM hnd hp; have eC : ints C = canF (canI L) m m [] (ints L) := by rw [ep, e]
 have hmC := jH hMC hCp; obtain ⟨q, hq⟩ := kX hp e hperm; have hlen : C.length = L.length := by rw [hperm.length_eq, List.length_map]
 have hqp := (fC m [] q (eP m) hq).1.len; rw [← eC, jx hc.1 hmC hlen.symm, hq]; refine ⟨rfl, by simp only []; rw [aA]; omega, ?_⟩; unfold cZ; rw [if_pos ⟨hmC, hn6⟩, show (ints C).map Int.toNat = C from cK C, Int.toNat_natCast, lE hM.sets hnd hMC.sets (hCp.imp (fun h e => by omega)) hlen hp e.symm eC]
end Go.Proofs.YtbdloopelidneaaGreat.Q
namespace Go.Proofs.YtbdloopelidneaaGreat.Q
open Go Go.RowKit Go.Proofs.YtbdloopelidneaaGreat.A Go.Proofs.YtbdloopelidneaaGreatW.PrintWords Go.Proofs.YtbdloopelidneaaGreatW.PrintLast Go.Proofs.YtbdloopelidneaaGreatW.PrintMore Go.Proofs.YtbdloopelidneaaGreat.Z
set_option linter.unusedVariables false
set_option linter.unusedSimpArgs false
theorem e9 (l : List Int) (hl : l.length ≤ 17592186044416) : Ev (fun k => laws_sameInts.f k l l) true := by
 unfold laws_sameInts.f; have hd := down (P := fun i => Ev (fun k => laws_sameInts.l0 k l l (i : Int)) true) l.length
  (by
   apply Ev.step
   ·intro k; rw [laws_sameInts.l0, if_neg (by omega)]
   ·exact Ev.now _)
  (by
   intro i hi ih
   apply Ev.step
   ·intro k; rw [laws_sameInts.l0, if_pos (by omega), if_pos (by omega), if_pos (by omega), if_pos rfl, ck hi hl]
   ·exact ih)
 exact Ev.ifp rfl hd
theorem dQ (n : Int) (l : List Int) (hl : l.length ≤ 17592186044416) : Ev (fun k => aM.f k n l n l) true := by
 unfold aM.f; have hd := down (P := fun i => Ev (fun k => aM.l0 k (i : Int) n l n l) true) l.length
  (by
   apply Ev.step
   ·intro k; rw [aM.l0, if_neg (by omega)]
   ·exact Ev.now _)
  (by
   intro i hi ih
   apply Ev.step
   ·intro k; rw [aM.l0, if_pos (by omega), if_pos (by omega), if_pos (by omega), if_pos rfl, ck hi hl]
   ·exact ih)
 refine Ev.ifp rfl ?_
 apply Ev.step
 ·intro k; rw [aM.j0]
 ·exact Ev.ifn (by simp) hd
def fi (l : List Int) (s : Int) : Int := if dv (l.length : Int) l = true then (if dH (l.length : Int) s = true then ((bM l s.toNat : Nat) : Int) else 0) else 0
theorem gO (l : List Int) (s : Int) (hl : l.length ≤ 17592186044416) : Ev (fun k => dg.f k l s) (fi l s) := by
 unfold dg.f fi; refine Ev.bind (fN _ _ hl) ?_; by_cases h : dv (l.length : Int) l = true
 ·refine Ev.ifp h (Ev.cbind (specIsSet_eq _ _) ?_); rw [if_pos h]; obtain ⟨h8, hm⟩ := en h; by_cases hs : dH (l.length : Int) s = true
  ·refine Ev.ifp hs ?_; rw [if_pos hs]; obtain ⟨m, t, hn, rfl, _, ht, h256⟩ := fB hs; rw [Int.toNat_natCast]; exact Ev.bind (gF l t hl hm h256) (Ev.now _)
  ·refine Ev.ifn hs ?_; rw [if_neg hs]; exact Ev.now _
 ·refine Ev.ifn h ?_; rw [if_neg h]; exact Ev.now _
theorem gK (l : List Int) (s : Int) (hl : l.length ≤ 17592186044416) : Ev (fun k => dh.f k l s) (fi l s) := by
 unfold dh.f fi; refine Ev.bind (fX _ _ hl) ?_; by_cases h : dv (l.length : Int) l = true
 ·refine Ev.ifp h (Ev.cbind (implIsSet_eq _ _) ?_); rw [if_pos h]; obtain ⟨h8, hm⟩ := en h; by_cases hs : dH (l.length : Int) s = true
  ·refine Ev.ifp hs ?_; rw [if_pos hs]; obtain ⟨m, t, hn, rfl, _, ht, h256⟩ := fB hs; rw [Int.toNat_natCast]; have e : m = l.length := by omega
   exact Ev.bind (fK l t h8 hm (e ▸ ht)) (Ev.now _)
  ·refine Ev.ifn hs ?_; rw [if_neg hs]; exact Ev.now _
 ·refine Ev.ifn h ?_; rw [if_neg h]; exact Ev.now _
end Go.Proofs.YtbdloopelidneaaGreat.Q
namespace Go.Proofs.YtbdloopelidneaaGreat.Pure
open Go Go.RowKit Go.Proofs.YtbdloopelidneaaGreat.A Go.Proofs.YtbdloopelidneaaGreatW.PrintWords Go.Proofs.YtbdloopelidneaaGreatW.PrintLast Go.Proofs.YtbdloopelidneaaGreatW.PrintMore Go.Proofs.YtbdloopelidneaaGreat.Z Go.Proofs.YtbdloopelidneaaGreat.Q
set_option linter.unusedVariables false
set_option linter.unusedSimpArgs false
theorem mY (n : Int) (l : List Int) (hl : l.length ≤ 300) : Ev (fun k => laws_FnRenamed.j2 k (cZ n l).2.2 false n l (cZ n l).1 (cZ n l).2.1) true := by
 have hc := iD n l
 apply Ev.step
 ·intro k; rw [laws_FnRenamed.j2, if_neg (by simp)]
 ·by_cases h : (cZ n l).2.2 = true
  ·obtain ⟨h1, h2, h3⟩ := kz h; refine Ev.ifp h (Ev.bind (gY _ _ _ _ (by omega) (by omega)) (Ev.bind (gD _ _ (by omega)) ?_)); rw [h3]; exact Ev.ifp h1 (Ev.ifp h2 (Ev.ifp rfl (Ev.bind (dQ _ _ (by show (cZ n l).2.1.length ≤ _; omega)) (Ev.now _))))
  ·exact Ev.ifn h (Ev.now _)
theorem nm (n : Int) (l : List Int) (n2 : Int) (l2 : List Int) (n3 : Int) (l3 : List Int) (hl : l.length ≤ 300) (hl2 : l2.length ≤ 300) (hl3 : l3.length ≤ 300) : Ev (fun k => laws_FnRenamed.j1 k (fiB n l n2 l2).1 (fiB n l n2 l2).2 (cZ n3 l3).2.2 false n l n2 l2 n3 l3 (cZ n3 l3).1 (cZ n3 l3).2.1) true := by
 have hf := kT n l n2 l2; have hr := eW n l (fiB n l n2 l2).1
 apply Ev.step
 ·intro k; rw [laws_FnRenamed.j1, if_neg (by simp)]
 ·refine Ev.bind (e7 _ _ _ (by omega) (by omega)) ?_; by_cases h : (fiB n l n2 l2).2 = true
  ·rw [mH h]; exact Ev.ifp h (Ev.ifp rfl (Ev.bind (dQ _ _ (by show l2.length ≤ _; omega)) (mY n3 l3 hl3)))
  ·exact Ev.ifn h (mY n3 l3 hl3)
theorem nj (n : Int) (l w : List Int) (n1 : Int) (l1 : List Int) (n2 : Int) (l2 : List Int) (n3 : Int) (l3 : List Int) (hl : l.length ≤ 300) (hl1 : l1.length ≤ 300) (hl2 : l2.length ≤ 300) (hl3 : l3.length ≤ 300) : Ev (fun k => laws_FnRenamed.j0 k (dj n l w).2.2 (fiB n1 l1 n2 l2).1 (fiB n1 l1 n2 l2).2 (cZ n3 l3).2.2 false n l (dj n l w).1 (dj n l w).2.1 n1 l1 n2 l2 n3 l3 (cZ n3 l3).1 (cZ n3 l3).2.1) true := by
 have hr := eW n l w; have hj := nm n1 l1 n2 l2 n3 l3 hl1 hl2 hl3
 apply Ev.step
 ·intro k; rw [laws_FnRenamed.j0, if_neg (by simp)]
 ·by_cases h : (dj n l w).2.2 = true
  ·obtain ⟨h1, h2⟩ := j9 h; refine Ev.ifp h (Ev.bind (dW _ _ (by omega)) (Ev.ifp h1 (Ev.bind (fY _ _ (by omega)) (Ev.bind (fY _ _ (by omega)) ?_)))); rw [h2]; have := il n l; refine Ev.bind (e9 _ (by omega)) ?_; exact hj
  ·exact Ev.ifn h hj
theorem FnRenamed : laws_FnRenamed.Pure := by
 intro l0 hm hm1 hw; unfold laws_FnRenamed.f; refine Ev.rounds ?_; refine Ev.cbind rfl ?_; by_cases hb : (l0.length : Int) > 1048576
 ·exact Ev.ifp (decide_eq_true hb) (Ev.now _)
 refine Ev.ifn (by simpa using hb) ?_; have hl0 : l0.length ≤ 17592186044416 := by omega
 obtain ⟨⟨n1, l1, w1⟩, d1, p1, q1⟩ := lN l0 hl0; obtain ⟨⟨n2, l2, n3, l3⟩, d2, p2, q2⟩ := lC l0 hl0; obtain ⟨⟨w4, s4⟩, d4, p4⟩ := lL l0 hl0; obtain ⟨⟨n5, w5⟩, d5, p5⟩ := ly l0 hl0; obtain ⟨⟨n6, l6⟩, d6, p6⟩ := lR l0 hl0; simp only at p1 q1 p2 q2 p4 p5 p6; have h1 := eW n1 l1 w1; have h2 := kT n2 l2 n3 l3; have h3 := iD n6 l6; have h4 := il n1 l1; refine Ev.bind d1 (Ev.bind (iZ n1 l1 w1 (by omega) (by omega)) (Ev.bind (e7 n1 l1 w1 (by omega) (by omega)) (Ev.bind d2 (Ev.bind (gY n2 l2 n3 l3 (by omega) (by omega)) (Ev.bind (jZ n2 l2 n3 l3 (by omega) (by omega)) (Ev.bind d4 (Ev.bind d5 (Ev.bind d6 (Ev.bind (gD n6 l6 (by omega)) (Ev.bind (jo n6 l6 (by omega)) ?_)))))))))); refine Ev.ifn (by simp) (Ev.bind (dQ _ _ (by omega)) (Ev.ifp rfl (Ev.ifn (by simp) (Ev.bind (e9 _ (by omega)) (Ev.ifp rfl ?_))))); refine Ev.bind (gK w4 s4 (by omega)) (Ev.bind (gO w4 s4 (by omega)) (Ev.ifp rfl (Ev.bind (fX n5 w5 (by omega)) (Ev.bind (fN n5 w5 (by omega)) (Ev.ifn (by simp) (Ev.ifn (by simp) (Ev.bind (dQ _ _ (by omega)) (Ev.ifp rfl ?_)))))))); refine Ev.bind (fY n1 l1 (by omega)) (Ev.bind (fP n1 l1 (by omega)) (Ev.bind (e9 _ (by omega)) ?_)); exact nj n1 l1 w1 n2 l2 n3 l3 n6 l6 p1 p2 q2 p6
end Go.Proofs.YtbdloopelidneaaGreat.Pure
