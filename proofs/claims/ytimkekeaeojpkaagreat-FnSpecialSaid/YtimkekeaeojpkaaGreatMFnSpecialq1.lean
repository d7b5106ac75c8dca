/- The pure side of the law FnSpecial: what the Lean functions of the print compute, and that the law holds of them. Conditions: those in each lemma. -/
import Derived.Test.YtimkekeaeojpkaaGreatMFnSpecial1
import Derived.Test.YtimkekeaeojpkaaGreatMFnSpecial2
import Derived.Test.YtimkekeaeojpkaaGreatMFnSpecial3
import Derived.Test.YtimkekeaeojpkaaGreatMFnSpecial4
import Derived.Test.YtimkekeaeojpkaaGreatMFnSpecial5
import Derived.Test.YtimkekeaeojpkaaGreatMFnSpecialq0
namespace Go.Proofs.YtimkekeaeojpkaaGreat.Q
open Go Go.RowKit Go.Proofs.YtimkekeaeojpkaaGreat.A Go.Proofs.YtimkekeaeojpkaaGreatW.PrintWords Go.Proofs.YtimkekeaeojpkaaGreatW.PrintLast Go.Proofs.YtimkekeaeojpkaaGreatW.PrintMore Go.Proofs.YtimkekeaeojpkaaGreat.Z
set_option linter.unusedVariables false
set_option linter.unusedSimpArgs false
theorem l1In_eq (a b c : Int) : bE.f a b c = some (decide (b ≤ a) && decide (a ≤ c)) := by
 unfold bE.f; by_cases h : a ≥ b
 ·rw [if_pos h]; simp [h]
 ·rw [if_neg h]; simp only [ge_iff_le] at h; simp [h]
theorem isSize_eq (a : Int) : cF.f a = some (decide (0 ≤ a) && decide (a ≤ 8)) := by
 unfold cF.f; by_cases h : a ≥ 0
 ·rw [if_pos h]; simp [h]
 ·rw [if_neg h]; simp only [ge_iff_le] at h; simp [h]
theorem specIsSet_eq (n s : Int) : a8.f n s = some (dP n s) := by
 unfold a8.f; rw [l1In_eq, Option.bind_some]; unfold dP; by_cases h : (decide (0 ≤ n) && decide (n ≤ 8)) = true
 ·rw [if_pos h, if_pos (dW _), l1In_eq, Option.bind_some, h, Bool.true_and]; simp only [Bool.and_eq_true, decide_eq_true_eq] at h; obtain ⟨m, rfl⟩ := Int.eq_ofNat_of_zero_le h.1; have h8 : m ≤ 8 := by omega
  rw [gD (by omega) (by omega), e7 (by omega)]; have hp := bj h8; rw [Int.toNat_natCast]; have e : (2 : Int) ^ m = ((2 ^ m : Nat) : Int) := by simp
  rw [e]; generalize 2 ^ m = q at hp; rw [bD (by omega) (by omega)]
  congr 2
  rw [Bool.eq_iff_iff]; simp only [decide_eq_true_eq]; omega
 ·rw [if_neg h, Bool.eq_false_iff.2 h, Bool.false_and]
theorem implIsSet_eq (n s : Int) : de.f n s = some (dP n s) := by
 unfold de.f; rw [isSize_eq, Option.bind_some]; unfold dP; by_cases h : (decide (0 ≤ n) && decide (n ≤ 8)) = true
 ·rw [if_pos h, h, Bool.true_and]; simp only [Bool.and_eq_true, decide_eq_true_eq] at h; by_cases hs : s ≥ 0
  ·rw [if_pos hs, if_pos h.1]; obtain ⟨m, rfl⟩ := Int.eq_ofNat_of_zero_le h.1; rw [e7 (by omega), Int.toNat_natCast]; have e : ((2 ^ m : Nat) : Int) = 2 ^ m := by simp
   rw [e]; have : decide (0 ≤ s) = true := by simpa using hs
   rw [this, Bool.true_and]
  ·rw [if_neg hs]; have : decide (0 ≤ s) = false := by simpa using hs
   rw [this, Bool.false_and]
 ·rw [if_neg h, Bool.eq_false_iff.2 h, Bool.false_and]
theorem lL (s : Int) : dP 8 s = dn s := by
 unfold dP dn; rw [Bool.eq_iff_iff]; simp
theorem isAny_eq (s : Int) : cd.f s = some (dn s) := by
 unfold cd.f dn; by_cases h : s ≥ 0
 ·rw [if_pos h]; simp [h]
 ·rw [if_neg h]; simp only [ge_iff_le] at h; simp [h]
theorem g0 {s : Int} (h : dn s = true) : ∃ t : Nat, s = t ∧ t < 256 := by
 simp only [dn, Bool.and_eq_true, decide_eq_true_eq] at h; obtain ⟨t, rfl⟩ := Int.eq_ofNat_of_zero_le h.1; exact ⟨t, rfl, by omega⟩
theorem implHas_eq (s e : Int) : dd.f s e = some (hasB s e) := by
 unfold dd.f hasB; rw [isAny_eq, Option.bind_some]; by_cases h : dn s = true
 ·rw [if_pos h, h, Bool.true_and]; obtain ⟨t, rfl, ht⟩ := g0 h; by_cases h0 : e ≥ 0
  ·rw [if_pos h0]; obtain ⟨m, rfl⟩ := Int.eq_ofNat_of_zero_le h0; by_cases h8 : (m : Int) < 8
   ·rw [if_pos h8, if_pos h0, ma (bR ht)]; simp [h8]
   ·rw [if_neg h8]; simp [h8]
  ·rw [if_neg h0]; simp only [ge_iff_le] at h0; simp [h0]
 ·rw [if_neg h, Bool.eq_false_iff.2 h]; simp
theorem gJ {s e : Nat} (hs : s < 2 ^ 63) (he : e < 2 ^ 63) : bG.f (s : Int) (e : Int) = some (s.testBit e) := by
 unfold bG.f; rw [if_pos (dW _), gD (by omega) (by omega), ma hs]
def famG (n : Int) : Option Int → List Int → Bool
 | _, [] => decide (0 ≤ n) && decide (n ≤ 8)
 | p, x :: xs => dP n x && ((match p with | none => true | some q => decide (q < x)) && famG n (some x) xs)
def famB (n : Int) (l : List Int) : Bool := famG n none l
def hH (l : List Int) (i : Nat) : Option Int := if i = 0 then none else some (rd l ((i - 1 : Nat) : Int))
theorem iT (l : List Int) (i : Nat) (hi : i < l.length) : hH l (i + 1) = some l[i] := by
 unfold hH; rw [if_neg (by omega), Nat.add_sub_cancel, ch l i hi]
theorem jm (n : Int) (l : List Int) (hl : l.length ≤ 17592186044416) : Ev (fun k => ay.f k n l) (famB n l) := by
 have h := down (P := fun i => Ev (fun k => ay.l0 k n l (i : Int)) (famG n (hH l i) (l.drop i))) l.length
  (by
   apply Ev.step
   ·intro k; simp only [ay.l0, l1In_eq, Option.bind_some]; rw [if_neg (by omega)]
   ·rw [cH]; exact Ev.now _)
  (by
   intro i hi ih
   apply Ev.step
   ·intro k; simp only [ay.l0, specIsSet_eq, Option.bind_some]; rw [if_pos (by omega), if_pos (by omega), ch l i hi, bU hi hl]
   ·rw [b0 l i hi]; rw [iT l i hi] at ih; simp only [famG]; by_cases hx : dP n l[i] = true
    ·refine Ev.ifp hx ?_; rw [hx, Bool.true_and]; by_cases h0 : (i : Int) > 0
     ·refine Ev.ifp h0 ?_; rw [bD (by omega) (by omega), show (i : Int) - 1 = ((i - 1 : Nat) : Int) from by omega]; refine Ev.ifp (by omega) (Ev.ifp (by omega) ?_); unfold hH; rw [if_neg (by omega)]; by_cases hq : rd l ((i - 1 : Nat) : Int) ≥ l[i]
      ·refine Ev.ifp hq ?_; simp only []; rw [show decide (rd l ((i - 1 : Nat) : Int) < l[i]) = false from by simpa using hq, Bool.false_and]; exact Ev.now _
      ·refine Ev.ifn hq ?_; simp only []; rw [show decide (rd l ((i - 1 : Nat) : Int) < l[i]) = true from by simpa using hq, Bool.true_and]; exact ih
     ·refine Ev.ifn h0 ?_; unfold hH; rw [if_pos (by omega)]; simp only [Bool.true_and]; exact ih
    ·refine Ev.ifn hx ?_; rw [Bool.eq_false_iff.2 hx, Bool.false_and]; exact Ev.now _)
 exact h
theorem iG (n : Int) (l : List Int) (hl : l.length ≤ 17592186044416) : Ev (fun k => bF.f k n l) (famB n l) := by
 have h := down (P := fun i => Ev (fun k => bF.l0 k n l l (l.length : Int) (i : Int)) (famG n (hH l i) (l.drop i))) l.length
  (by
   apply Ev.step
   ·intro k; simp only [bF.l0, isSize_eq, Option.bind_some]; rw [if_neg (by omega)]
   ·rw [cH]; exact Ev.now _)
  (by
   intro i hi ih
   apply Ev.step
   ·intro k; simp only [bF.l0, implIsSet_eq, Option.bind_some]; rw [if_pos (by omega), if_pos (by omega), if_pos (by omega), ch l i hi, bU hi hl]
   ·rw [b0 l i hi]; rw [iT l i hi] at ih; simp only [famG]; by_cases hx : dP n l[i] = true
    ·refine Ev.ifp hx ?_; rw [hx, Bool.true_and]; by_cases h0 : (i : Int) > 0
     ·refine Ev.ifp h0 ?_; rw [bD (by omega) (by omega), show (i : Int) - 1 = ((i - 1 : Nat) : Int) from by omega]; refine Ev.ifp (by omega) (Ev.ifp (by omega) ?_); unfold hH; rw [if_neg (by omega)]; by_cases hq : l[i] ≤ rd l ((i - 1 : Nat) : Int)
      ·refine Ev.ifp hq ?_; simp only []; rw [show decide (rd l ((i - 1 : Nat) : Int) < l[i]) = false from by simpa using hq, Bool.false_and]; exact Ev.now _
      ·refine Ev.ifn hq ?_; simp only []; rw [show decide (rd l ((i - 1 : Nat) : Int) < l[i]) = true from by simpa using hq, Bool.true_and]; exact ih
     ·refine Ev.ifn h0 ?_; unfold hH; rw [if_pos (by omega)]; simp only [Bool.true_and]; exact ih
    ·refine Ev.ifn hx ?_; rw [Bool.eq_false_iff.2 hx, Bool.false_and]; exact Ev.now _)
 exact h
theorem lA (n : Int) : ∀ (l : List Int) (p : Option Int), famG n p l = true → (0 ≤ n ∧ n ≤ 8) ∧ (∀ x ∈ l, dP n x = true) ∧ l.Pairwise (· < ·) ∧ (∀ q, p = some q → ∀ x ∈ l, q < x) := by
 intro l
 induction l with
 | nil =>
  intro p h; simp only [famG, Bool.and_eq_true, decide_eq_true_eq] at h; exact ⟨h, fun x hx => by simp at hx, List.Pairwise.nil, fun q _ x hx => by simp at hx⟩
 | cons y l ih =>
  intro p h; simp only [famG, Bool.and_eq_true] at h; obtain ⟨h1, h2, h3⟩ := h; obtain ⟨i1, i2, i3, i4⟩ := ih _ h3; refine ⟨i1, fun x hx => ?_, List.pairwise_cons.2 ⟨fun x hx => i4 y rfl x hx, i3⟩, fun q hq x hx => ?_⟩
  ·rcases List.mem_cons.1 hx with rfl | hx
   ·exact h1
   ·exact i2 x hx
  ·subst hq; simp only [decide_eq_true_eq] at h2; rcases List.mem_cons.1 hx with rfl | hx
   ·exact h2
   ·exact Int.lt_trans h2 (i4 y rfl x hx)
theorem ji {n : Int} {l : List Int} (h : famB n l = true) : ∃ (m : Nat) (L : List Nat), n = m ∧ m ≤ 8 ∧ l = L.map (fun x : Nat => (x : Int)) ∧ (∀ x ∈ L, x < 2 ^ m) ∧ L.Pairwise (· < ·) := by
 obtain ⟨h1, h2, h3, _⟩ := lA n l none h; obtain ⟨m, rfl⟩ := Int.eq_ofNat_of_zero_le h1.1; have hnn : ∀ x ∈ l, 0 ≤ x := fun x hx => by
  obtain ⟨_, t, _, rfl, _⟩ := g4 (h2 x hx); omega
 have hl : l = (l.map Int.toNat).map (fun x : Nat => (x : Int)) := by
  rw [List.map_map]
  conv => lhs; rw [← List.map_id l]
  apply List.map_congr_left
  intro x hx; have := hnn x hx; simp only [id, Function.comp]; omega
 refine ⟨m, l.map Int.toNat, rfl, by omega, hl, fun x hx => ?_, ?_⟩
 ·obtain ⟨y, hy, rfl⟩ := List.mem_map.1 hx; obtain ⟨m', t, hm, rfl, _, ht, _⟩ := g4 (h2 y hy); have : m = m' := by omega
  subst this; rw [Int.toNat_natCast]; exact ht
 ·rw [List.pairwise_map]; exact h3.imp_of_mem (fun {a b} ha hb hab => by
   have := hnn a ha; have := hnn b hb; omega)
def elsB (s : Int) : List Int := ((List.range 8).filter (fun e : Nat => hasB s (e : Int))).map (fun e : Nat => (e : Int))
theorem fD {i n : Nat} (h : i < n) : List.range' i (n - i) = i :: List.range' (i + 1) (n - (i + 1)) := by
 rw [show n - i = (n - (i + 1)) + 1 from by omega, List.range'_succ]
theorem it {s : Int} {i : Nat} (l : List Nat) : ((i :: l).filter (fun e : Nat => hasB s (e : Int))).map (fun e : Nat => (e : Int)) = (if hasB s (i : Int) = true then [(i : Int)] else []) ++ (l.filter (fun e : Nat => hasB s (e : Int))).map (fun e : Nat => (e : Int)) := by
 rw [List.filter_cons]; by_cases h : hasB s (i : Int) = true
 ·rw [if_pos h, if_pos h]; rfl
 ·rw [if_neg h, if_neg h]; rfl
theorem fw (s : Int) : Ev (fun k => aT.f k s) (elsB s) := by
 have h := down (P := fun i => ∀ acc : List Int, acc.length ≤ i → Ev (fun k => aT.l0 k s acc (i : Int)) (acc ++ ((List.range' i (8 - i)).filter (fun e : Nat => hasB s (e : Int))).map (fun e : Nat => (e : Int)))) 8
  (by
   intro acc ha
   apply Ev.step
   ·intro k; simp only [aT.l0, implHas_eq, Option.bind_some]; rw [if_neg (by omega)]
   ·simpa using Ev.now _)
  (by
   intro i hi ih acc ha
   apply Ev.step
   ·intro k; simp only [aT.l0, implHas_eq, Option.bind_some]; rw [if_pos (by omega), bU hi (by omega)]
   ·rw [fD hi, it]; by_cases hx : hasB s (i : Int) = true
    ·refine Ev.ifp hx (Ev.ifp (by omega) ?_); rw [if_pos hx, ← List.append_assoc]; exact ih (acc ++ [(i : Int)]) (by simp; omega)
    ·refine Ev.ifn hx ?_; rw [if_neg hx]; exact ih acc (by omega))
 have h0 := h [] (Nat.le_refl 0); rw [show ((0 : Nat) : Int) = 0 from rfl] at h0; have e : elsB s = [] ++ ((List.range' 0 (8 - 0)).filter (fun e : Nat => hasB s (e : Int))).map (fun e : Nat => (e : Int)) := by
  unfold elsB; rw [List.nil_append, List.range_eq_range']
 rw [e]; unfold aT.f; exact h0
theorem kG {s : Nat} (h : s < 256) : elsB (s : Int) = (els s).map (fun e : Nat => (e : Int)) := by
 have e : (List.range 8).filter (fun e : Nat => hasB (s : Int) (e : Int)) = (List.range 8).filter (fun e : Nat => s.testBit e) :=
  List.filter_congr (fun e he => by
   rw [List.mem_range] at he; rw [m7]; simp [h, he])
 unfold elsB els; rw [e]
theorem fU (x : Int) (l : List Int) (a : Int) : (x :: l).contains a = (decide (x = a) || l.contains a) := by
 rw [Bool.eq_iff_iff]; simp only [List.contains_iff_mem, List.mem_cons, Bool.or_eq_true, decide_eq_true_eq]
 constructor
 ·rintro (h | h)
  ·exact .inl h.symm
  ·exact .inr h
 ·rintro (h | h)
  ·exact .inl h.symm
  ·exact .inr h
theorem fa (l : List Int) (a : Int) (hl : l.length ≤ 17592186044416) : Ev (fun k => bg.f k l a) (l.contains a) := by
 have h := down (P := fun i => Ev (fun k => bg.l0 k l a (i : Int)) ((l.drop i).contains a)) l.length
  (by
   apply Ev.step
   ·intro k; simp only [bg.l0]; rw [if_neg (by omega)]
   ·rw [cH]; exact Ev.now _)
  (by
   intro i hi ih
   apply Ev.step
   ·intro k; simp only [bg.l0]; rw [if_pos (by omega), if_pos (by omega), ch l i hi, bU hi hl]
   ·rw [b0 l i hi, fU]; by_cases hx : l[i] = a
    ·refine Ev.ifp hx ?_; rw [show decide (l[i] = a) = true from by simpa using hx, Bool.true_or]; exact Ev.now _
    ·refine Ev.ifn hx ?_; rw [show decide (l[i] = a) = false from by simpa using hx, Bool.false_or]; exact ih)
 exact h
theorem mL (l : List Int) (a : Int) (hl : l.length ≤ 17592186044416) : ∃ r : Int, Ev (fun k => aw.f k l a) r ∧ (decide (r ≥ 0) = l.contains a) := by
 have h := down (P := fun i => ∃ r : Int, Ev (fun k => aw.l0 k l a (l.length : Int) (i : Int)) r ∧ (decide (r ≥ 0) = (l.drop i).contains a)) l.length
  (by
   refine ⟨-1, ?_, by rw [cH]; rfl⟩
   apply Ev.step
   ·intro k; simp only [aw.l0]; rw [if_neg (by omega)]
   ·exact Ev.now _)
  (by
   intro i hi ih; rw [b0 l i hi, fU]; by_cases hx : l[i] = a
   ·refine ⟨(i : Int), ?_, ?_⟩
    ·apply Ev.step
     ·intro k; simp only [aw.l0]; rw [if_pos (by omega), if_pos (by omega), if_pos (by omega), ch l i hi, if_pos hx.symm]
     ·exact Ev.now _
    ·rw [show decide (l[i] = a) = true from by simpa using hx, Bool.true_or]; simp
   ·obtain ⟨r, hr, hd⟩ := ih; refine ⟨r, ?_, ?_⟩
    ·apply Ev.step
     ·intro k; simp only [aw.l0]; rw [if_pos (by omega), if_pos (by omega), if_pos (by omega), ch l i hi, if_neg (fun hc => hx hc.symm), bU hi hl]
     ·exact hr
    ·rw [show decide (l[i] = a) = false from by simpa using hx, Bool.false_or]; exact hd)
 exact h
theorem ii (l : List Int) (a : Int) (hl : l.length ≤ 17592186044416) : Ev (fun k => bw.f k l a) (l.contains a) := by
 obtain ⟨r, hr, hd⟩ := mL l a hl; unfold bw.f; refine Ev.bind hr ?_; rw [hd]; exact Ev.now _
end Go.Proofs.YtimkekeaeojpkaaGreat.Q
namespace Go.Proofs.YtimkekeaeojpkaaGreat.Q
open Go Go.RowKit Go.Proofs.YtimkekeaeojpkaaGreatW.PrintWords Go.Proofs.YtimkekeaeojpkaaGreatW.PrintLast Go.Proofs.YtimkekeaeojpkaaGreatW.PrintMore Go.Proofs.YtimkekeaeojpkaaGreat.Z
set_option linter.unusedVariables false
set_option linter.unusedSimpArgs false
def fW (l : List Int) (a b e : Nat) : Bool := (els (dif b a)).any (fun f => l.contains ((dif a (2 ^ e) ||| 2 ^ f : Nat) : Int))
def eF (l : List Int) (a b : Nat) : List Nat → Option Nat
 | [] => none
 | e :: es => if fW l a b e = true then eF l a b es else some e
def eJ (l : List Int) (a : Nat) : List Nat → Option (Nat × Nat)
 | [] => none
 | b :: bs => match eF l a b (els (dif a b)) with
  | none => eJ l a bs
  | some e => some (b, e)
def e0 (l : List Int) (L : List Nat) : List Nat → Option (Nat × Nat × Nat)
 | [] => none
 | a :: la => match eJ l a L with
  | none => e0 l L la
  | some (b, e) => some (a, b, e)
def told : Option (Nat × Nat × Nat) → Int × Int × Int × Bool
 | none => (0, 0, 0, false)
 | some (a, b, e) => ((a : Int), (b : Int), (e : Int), true)
def jj (n : Int) (l : List Int) : Int × Int × Int × Bool := if famB n l = true then told (e0 l (l.map Int.toNat) (l.map Int.toNat)) else (0, 0, 0, false)
theorem mg {a b n : Nat} (ha : a < 2 ^ n) (hn : n ≤ 8) : els (dif a b) = (List.range n).filter (fun e => a.testBit e && !b.testBit e) := by
 have h1 : (List.range 8).filter (fun e => (dif a b).testBit e) = (List.range 8).filter (fun e => decide (e < n) && (a.testBit e && !b.testBit e)) :=
  List.filter_congr (fun e _ => by
   rw [dif_bit]; by_cases h : e < n
   ·simp [h]
   ·have : a.testBit e = false := Nat.testBit_lt_two_pow (Nat.lt_of_lt_of_le ha (Nat.pow_le_pow_right (by decide) (by omega))); simp [this])
 unfold els; rw [h1]; have h2 : ∀ (p : Nat → Bool) (a b : Nat), (List.range a).filter (fun e => decide (e < b) && p e) = (List.range (min a b)).filter p := by
  intro p a b
  induction a with
  | zero => simp
  | succ a ih =>
   rw [List.range_succ, List.filter_append, ih]; by_cases h : a < b
   ·rw [show min (a + 1) b = min a b + 1 from by omega, List.range_succ, List.filter_append]; have e : min a b = a := by omega
    rw [e]
    congr 1
    simp [List.filter_cons, h]
   ·rw [show min (a + 1) b = min a b from by omega]; simp [List.filter_cons, h]
 rw [h2, Nat.min_eq_right hn]
end Go.Proofs.YtimkekeaeojpkaaGreat.Q
namespace Go.Proofs.YtimkekeaeojpkaaGreat.Q
open Go Go.RowKit Go.Proofs.YtimkekeaeojpkaaGreat.A Go.Proofs.YtimkekeaeojpkaaGreatW.PrintWords Go.Proofs.YtimkekeaeojpkaaGreatW.PrintLast Go.Proofs.YtimkekeaeojpkaaGreatW.PrintMore Go.Proofs.YtimkekeaeojpkaaGreat.Z
set_option linter.unusedVariables false
set_option linter.unusedSimpArgs false
theorem mJ (n : Nat) (hn : n ≤ 8) (l : List Int) (hl : l.length ≤ 17592186044416) (a b e : Nat) (ha : a < 256) (hb : b < 2 ^ n) (he : e < 8) (hae : a.testBit e = true) :
  Ev (fun k => aK.f k (n : Int) l (a : Int) (b : Int) (e : Int)) (fW l a b e) := by
 have hb256 : b < 256 := Nat.lt_of_lt_of_le hb (bj hn); have h := down (P := fun f => Ev (fun k => aK.l0 k (a : Int) (b : Int) (e : Int) (f : Int) (n : Int) l) (((List.range' f (n - f)).filter (fun f => b.testBit f && !a.testBit f)).any (fun f => l.contains ((dif a (2 ^ e) ||| 2 ^ f : Nat) : Int)))) n
  (by
   apply Ev.step
   ·intro k; simp only [aK.l0]; rw [if_neg (by omega)]
   ·rw [Nat.sub_self]; exact Ev.now _)
  (by
   intro f hf ih; have hih : Ev (fun k => aK.l0 k (a : Int) (b : Int) (e : Int) (wrap64 ((f : Int) + 1)) (n : Int) l) (((List.range' (f + 1) (n - (f + 1))).filter (fun f => b.testBit f && !a.testBit f)).any (fun f => l.contains ((dif a (2 ^ e) ||| 2 ^ f : Nat) : Int))) := by
    rw [bU hf (by omega)]; exact ih
   apply Ev.step
   ·intro k; simp only [aK.l0, gJ (bR hb256) (show f < 2 ^ 63 by omega), gJ (bR ha) (show f < 2 ^ 63 by omega), Option.bind_some]; rw [if_pos (by omega)]
   ·rw [fD hf, List.filter_cons]; by_cases hbf : b.testBit f = true
    ·refine Ev.ifp hbf ?_; by_cases haf : a.testBit f = true
     ·refine Ev.ifp haf ?_; rw [if_neg (by rw [haf]; simp)]; exact hih
     ·refine Ev.ifn haf (Ev.ifp (dW _) (Ev.ifp (dW _) ?_)); have haf' := Bool.eq_false_iff.2 haf; rw [if_pos (by rw [hbf, haf']; rfl), List.any_cons]; obtain ⟨x1, x2, x3⟩ := ly ha he (show f < 8 by omega) hae haf'; have hp : 2 ^ f < 256 := Nat.pow_lt_pow_right (a := 2) (m := f) (n := 8) (by decide) (by omega); have ex : wrap64 (wrap64 ((a : Int) - shl .i64 1 (IntKind.u64.wrap (e : Int))) + shl .i64 1 (IntKind.u64.wrap (f : Int))) = ((dif a (2 ^ e) ||| 2 ^ f : Nat) : Int) := by
       rw [gD (by omega) (by omega), gD (by omega) (by omega), e7 (by omega), e7 (by omega), ← x1]; generalize 2 ^ e = p at *; generalize 2 ^ f = q at *; rw [bD (n := (a : Int) - (p : Int)) (by omega) (by omega), bD (by omega) (by omega)]; omega
      rw [ex]; refine Ev.bind (fa l _ hl) ?_; by_cases hc : l.contains ((dif a (2 ^ e) ||| 2 ^ f : Nat) : Int) = true
      ·refine Ev.ifp hc ?_; rw [hc, Bool.true_or]; exact Ev.now _
      ·refine Ev.ifn hc ?_; rw [Bool.eq_false_iff.2 hc, Bool.false_or]; exact hih
    ·refine Ev.ifn hbf ?_; rw [if_neg (by rw [Bool.eq_false_iff.2 hbf]; simp)]; exact hih)
 rw [Nat.sub_zero, ← List.range_eq_range', ← mg hb hn] at h; exact h
theorem kZ (n : Nat) (hn : n ≤ 8) (l : List Int) (hl : l.length ≤ 17592186044416) (i j : Nat) (hi : i < l.length) (hj : j < l.length) (a b : Nat) (hai : rd l (i : Int) = a) (hbj : rd l (j : Int) = b) (ha : a < 2 ^ n) (hb : b < 2 ^ n) (K : Int × Int × Int × Bool)
  (hK : Ev (fun k => ae.l1 k (i : Int) (wrap64 ((j : Int) + 1)) (n : Int) l) K) :
  Ev (fun k => ae.l2 k (i : Int) (j : Int) 0 (n : Int) l) (match eF l a b (els (dif a b)) with | none => K | some e => ((a : Int), (b : Int), (e : Int), true)) := by
 have ha256 : a < 256 := Nat.lt_of_lt_of_le ha (bj hn); have hb256 : b < 256 := Nat.lt_of_lt_of_le hb (bj hn); have h := down (P := fun e => Ev (fun k => ae.l2 k (i : Int) (j : Int) (e : Int) (n : Int) l) (match eF l a b ((List.range' e (n - e)).filter (fun e => a.testBit e && !b.testBit e)) with | none => K | some e => ((a : Int), (b : Int), (e : Int), true))) n
  (by
   apply Ev.step
   ·intro k; simp only [ae.l2]; rw [if_neg (by omega)]
   ·rw [Nat.sub_self]; exact hK)
  (by
   intro e he ih; have hih : Ev (fun k => ae.l2 k (i : Int) (j : Int) (wrap64 ((e : Int) + 1)) (n : Int) l) (match eF l a b ((List.range' (e + 1) (n - (e + 1))).filter (fun e => a.testBit e && !b.testBit e)) with | none => K | some e => ((a : Int), (b : Int), (e : Int), true)) := by
    rw [bU he (by omega)]; exact ih
   apply Ev.step
   ·intro k; simp only [ae.l2]; rw [if_pos (by omega), if_pos (by omega), if_pos (by omega), if_pos (by omega), if_pos (by omega), hai, hbj, gJ (bR ha256) (show e < 2 ^ 63 by omega), gJ (bR hb256) (show e < 2 ^ 63 by omega), Option.bind_some, Option.bind_some]
   ·rw [fD he, List.filter_cons]; by_cases hae : a.testBit e = true
    ·refine Ev.ifp hae ?_; by_cases hbe : b.testBit e = true
     ·refine Ev.ifp hbe ?_; rw [if_neg (by rw [hbe]; simp)]; exact hih
     ·refine Ev.ifn hbe (Ev.bind (mJ n hn l hl a b e ha256 hb (by omega) hae) ?_); rw [if_pos (by rw [hae, Bool.eq_false_iff.2 hbe]; rfl)]; simp only [eF]; by_cases hx : fW l a b e = true
      ·refine Ev.ifp hx ?_; rw [if_pos hx]; exact hih
      ·refine Ev.ifn hx ?_; rw [if_neg hx]; exact Ev.now _
    ·refine Ev.ifn hae ?_; rw [if_neg (by rw [Bool.eq_false_iff.2 hae]; simp)]; exact hih)
 rw [Nat.sub_zero, ← List.range_eq_range', ← mg ha hn] at h; exact h
theorem kw (n : Int) (l : List Int) (hl : l.length ≤ 17592186044416) : Ev (fun k => ae.f k n l) (jj n l) := by
 unfold ae.f jj; refine Ev.bind (jm n l hl) ?_; by_cases hf : famB n l = true
 ·refine Ev.ifp hf ?_; rw [if_pos hf]; obtain ⟨m, L, rfl, hm, rfl, hL, _⟩ := ji hf; rw [cu]; have hlen : (L.map (fun x : Nat => (x : Int))).length = L.length := List.length_map _; rw [hlen] at hl; have hrd : ∀ i, (h : i < L.length) → rd (L.map (fun x : Nat => (x : Int))) (i : Int) = (L[i] : Int) := fun i h => by
   rw [ch _ i (by rw [hlen]; exact h), List.getElem_map]
  have hl' : (L.map (fun x : Nat => (x : Int))).length ≤ 17592186044416 := by rw [hlen]; exact hl
  generalize L.map (fun x : Nat => (x : Int)) = l at hlen hrd hl'; have h := down (P := fun i => Ev (fun k => ae.l0 k (i : Int) (m : Int) l) (told (e0 l L (L.drop i)))) L.length
   (by
    apply Ev.step
    ·intro k; simp only [ae.l0]; rw [if_neg (by omega)]
    ·rw [cH]; exact Ev.now _)
   (by
    intro i hi ih; have hia := hL _ (List.getElem_mem hi); have hih : Ev (fun k => ae.l0 k (wrap64 ((i : Int) + 1)) (m : Int) l) (told (e0 l L (L.drop (i + 1)))) := by
     rw [bU hi hl]; exact ih
    apply Ev.step
    ·intro k; simp only [ae.l0]; rw [if_pos (by omega)]
    ·have h1 := down (P := fun j => Ev (fun k => ae.l1 k (i : Int) (j : Int) (m : Int) l) (match eJ l L[i] (L.drop j) with | none => told (e0 l L (L.drop (i + 1))) | some (b, e) => ((L[i] : Int), (b : Int), (e : Int), true))) L.length
      (by
       apply Ev.step
       ·intro k; simp only [ae.l1]; rw [if_neg (by omega)]
       ·rw [cH]; exact hih)
      (by
       intro j hj ihj; have hjb := hL _ (List.getElem_mem hj)
       apply Ev.step
       ·intro k; simp only [ae.l1]; rw [if_pos (by omega)]
       ·have h2 := kZ m hm l hl' i j (by omega) (by omega) L[i] L[j] (hrd i hi) (hrd j hj) hia hjb _ (by rw [bU hj hl]; exact ihj); rw [b0 L j hj]; simp only [eJ]; generalize eF l L[i] L[j] (els (dif L[i] L[j])) = q at h2; cases q with
        | none => exact h2
        | some e => exact h2)
     rw [b0 L i hi]; simp only [e0]; rw [List.drop_zero] at h1; generalize eJ l L[i] L = q at h1; cases q with
     | none => exact h1
     | some x => exact h1)
  exact h
 ·refine Ev.ifn hf ?_; rw [if_neg hf]; exact Ev.now _
def matB (n : Int) (l : List Int) : Bool := famB n l && (decide ((l.length : Int) > 0) && !(jj n l).2.2.2)
theorem dg (n : Int) (l : List Int) (hl : l.length ≤ 17592186044416) : Ev (fun k => ao.f k n l) (matB n l) := by
 unfold ao.f matB; refine Ev.bind (kw n l hl) (Ev.bind (jm n l hl) ?_); by_cases hf : famB n l = true
 ·refine Ev.ifp hf ?_; rw [hf, Bool.true_and]; by_cases h0 : (l.length : Int) > 0
  ·refine Ev.ifp h0 ?_; rw [show decide ((l.length : Int) > 0) = true from by simpa using h0, Bool.true_and]; exact Ev.now _
  ·refine Ev.ifn h0 ?_; rw [show decide ((l.length : Int) > 0) = false from by simpa using h0, Bool.false_and]; exact Ev.now _
 ·refine Ev.ifn hf ?_; rw [Bool.eq_false_iff.2 hf, Bool.false_and]; exact Ev.now _
end Go.Proofs.YtimkekeaeojpkaaGreat.Q
namespace Go.Proofs.YtimkekeaeojpkaaGreat.Q
open Go Go.RowKit Go.Proofs.YtimkekeaeojpkaaGreatW.PrintWords Go.Proofs.YtimkekeaeojpkaaGreatW.PrintLast Go.Proofs.YtimkekeaeojpkaaGreatW.PrintMore Go.Proofs.YtimkekeaeojpkaaGreat.Z
set_option linter.unusedVariables false
set_option linter.unusedSimpArgs false
theorem fi {n : Int} {l : List Int} (h : matB n l = true) : ∃ (m : Nat) (L : List Nat), n = m ∧ m ≤ 8 ∧ l = ints L ∧ (∀ x ∈ L, x < 2 ^ m) ∧ (∀ x ∈ L, x < 256) ∧ L.Pairwise (· < ·) ∧ L ≠ [] := by
 simp only [matB, Bool.and_eq_true, decide_eq_true_eq] at h; obtain ⟨m, L, rfl, hm, rfl, hL, hp⟩ := ji h.1; refine ⟨m, L, rfl, hm, rfl, hL, fun x hx => Nat.lt_of_lt_of_le (hL x hx) (bj hm), hp, ?_⟩; rintro rfl; simp at h
theorem ints_len (L : List Nat) : (ints L).length = L.length := List.length_map _
theorem dr (L : List Nat) (i : Nat) (h : i < L.length) : rd (ints L) (i : Int) = (L[i] : Int) := by
 rw [ch _ i (by rw [ints_len]; exact h)]; simp [ints]
end Go.Proofs.YtimkekeaeojpkaaGreat.Q
namespace Go.Proofs.YtimkekeaeojpkaaGreat.Q
open Go Go.RowKit Go.Proofs.YtimkekeaeojpkaaGreat.A Go.Proofs.YtimkekeaeojpkaaGreatW.PrintWords Go.Proofs.YtimkekeaeojpkaaGreatW.PrintLast Go.Proofs.YtimkekeaeojpkaaGreatW.PrintMore Go.Proofs.YtimkekeaeojpkaaGreat.Z
set_option linter.unusedVariables false
set_option linter.unusedSimpArgs false
theorem jY : ∀ (d x : Nat), x ≤ d → x < 256 → ∀ acc : Int, 0 ≤ acc → acc + (d : Int) ≤ 1000 → Ev (fun k => az.l0 k (x : Int) acc) (acc + (pc x : Int)) := by
 intro d
 induction d with
 | zero =>
  intro x hx _ acc h0 h1; obtain rfl : x = 0 := by omega
  apply Ev.step
  ·intro k; simp only [az.l0]; rw [if_neg (by decide)]
  ·rw [pc_zero, show acc + ((0 : Nat) : Int) = acc from by omega]; exact Ev.now _
 | succ d ih =>
  intro x hx h256 acc h0 h1; by_cases hz : x = 0
  ·subst hz; exact ih 0 (by omega) h256 acc h0 (by omega)
  ·have hb : Go.bits .and .i64 (x : Int) 1 = ((x % 2 : Nat) : Int) := by
    have := eH (a := x) (b := 1) (bR h256) (by decide); rw [Nat.and_one_is_mod] at this; exact this
   apply Ev.step
   ·intro k; simp only [az.l0]; rw [if_pos (by omega), hb, bD (by omega) (by omega), show (x : Int) / 2 = ((x / 2 : Nat) : Int) from by omega]
   ·have hp := nF x h256; have hl := k7 (x / 2); have := ih (x / 2) (by omega) (by omega) (acc + ((x % 2 : Nat) : Int)) (by omega) (by omega); rw [show acc + ((x % 2 : Nat) : Int) + (pc (x / 2) : Int) = acc + (pc x : Int) from by omega] at this; exact this
theorem dk (s : Nat) (h : s < 256) : Ev (fun k => az.f k (s : Int)) (pc s : Int) := by
 unfold az.f; refine Ev.cbind (specIsSet_eq _ _) (Ev.ifp ?_ ?_)
 ·rw [lL, isAnyB_nat]; simpa using h
 ·have := jY s s (Nat.le_refl _) h 0 (by omega) (by omega); rw [Int.zero_add] at this; exact this
theorem l1Max_eq (a b : Int) : dM.f a b = some (max a b) := by
 unfold dM.f; by_cases h : a > b
 ·rw [if_pos h]; congr 1; omega
 ·rw [if_neg h]; congr 1; omega
theorem eh (n : Int) (L : List Nat) (s : Nat) (hl : L.length ≤ 17592186044416) (hL : ∀ b ∈ L, b < 256) (hs : s < 256) : Ev (fun k => bB.f k n (ints L) (s : Int)) (rkN L s : Int) := by
 have h := down (P := fun i => ∀ acc : Nat, Ev (fun k => bB.l0 k (s : Int) (acc : Int) (i : Int) n (ints L)) ((maxN acc ((L.drop i).map (fun b => pc (b &&& s))) : Nat) : Int)) L.length
  (by
   intro acc
   apply Ev.step
   ·intro k; simp only [bB.l0]; rw [if_neg (by rw [ints_len]; omega)]
   ·rw [cH]; exact Ev.now _)
  (by
   intro i hi ih acc; have hb := hL _ (List.getElem_mem hi)
   apply Ev.step
   ·intro k; simp only [bB.l0, l1Max_eq, Option.bind_some]; rw [if_pos (by rw [ints_len]; omega), if_pos (by omega), dr L i hi, bU hi hl, eH (bR hb) (bR hs)]
   ·refine Ev.bind (dk _ (ki hb)) ?_; rw [b0 L i hi, List.map_cons, g9]; have := ih (max acc (pc (L[i] &&& s))); rw [show ((max acc (pc (L[i] &&& s)) : Nat) : Int) = max (acc : Int) (pc (L[i] &&& s) : Int) from by omega] at this; exact this)
 exact h 0
set_option maxRecDepth 100000 in
theorem nP : ∀ s < 256, dh.f ((s : Nat) : Int) = some ((pc s : Nat) : Int) := by decide +kernel
theorem eo (s : Nat) (h : s < 256) : cf.f (s : Int) = some (pc s : Int) := by
 unfold cf.f; rw [isAny_eq, Option.bind_some, if_pos (by rw [isAnyB_nat]; simpa using h), gD (by omega) (by omega)]; unfold dU.f; rw [nP s h]
 rfl
theorem nO (a b : Nat) : mx (a : Int) (b : Int) = ((max a b : Nat) : Int) := by
 unfold mx
 split <;> omega
theorem fF (n : Int) (L : List Nat) (s : Nat) (hl : L.length ≤ 17592186044416) (hL : ∀ b ∈ L, b < 256) (hs : s < 256) : Ev (fun k => be.f k n (ints L) (s : Int)) (rkN L s : Int) := by
 have h := down (P := fun i => ∀ acc : Nat, Ev (fun k => be.l0 k (s : Int) (acc : Int) (ints L) ((ints L).length : Int) (i : Int)) ((maxN acc ((L.drop i).map (fun b => pc (b &&& s))) : Nat) : Int)) L.length
  (by
   intro acc
   apply Ev.step
   ·intro k; simp only [be.l0]; rw [if_neg (by rw [ints_len]; omega)]
   ·rw [cH]; exact Ev.now _)
  (by
   intro i hi ih acc; have hb := hL _ (List.getElem_mem hi)
   apply Ev.step
   ·intro k; simp only [be.l0]; rw [if_pos (by rw [ints_len]; omega), if_pos (by omega), if_pos (by rw [ints_len]; omega), dr L i hi, bU hi hl, eH (bR hs) (bR hb), Nat.and_comm, eo _ (ki hb), Option.bind_some, nO]
   ·rw [b0 L i hi, List.map_cons, g9]; exact ih _)
 exact h 0
def dm (m : Nat) : Nat := 2 ^ m - 1
theorem j9 : ∀ m < 9, ∀ u < 256, (!decide (u < 2 ^ m) || (decide (dm m - u = dif (dm m) u) && decide (dm m < 2 ^ m))) = true := by decide +kernel
theorem nk {m u : Nat} (hm : m ≤ 8) (hu : u < 2 ^ m) : dm m - u = dif (dm m) u ∧ dm m < 2 ^ m ∧ dm m < 256 := by
 have h256 := Nat.lt_of_lt_of_le hu (bj hm); have h := j9 m (by omega) u h256; rw [show decide (u < 2 ^ m) = true from by simpa using hu] at h; simp only [Bool.not_true, Bool.false_or, Bool.and_eq_true, decide_eq_true_eq] at h; exact ⟨h.1, h.2, Nat.lt_of_lt_of_le h.2 (bj hm)⟩
theorem nv {m : Nat} (hm : m ≤ 8) : dm m < 2 ^ m ∧ dm m < 256 := (nk hm (Nat.two_pow_pos m)).2
theorem cV {m : Nat} (hm : m ≤ 8) : aM.f (m : Int) = some ((dm m : Nat) : Int) := by
 unfold aM.f dm; have hp := bj hm; have h0 := Nat.two_pow_pos m; rw [l1In_eq, Option.bind_some, if_pos (by simp; omega), if_pos (dW _), gD (by omega) (by omega), e7 (by omega)]; generalize 2 ^ m = q at *; rw [bD (by omega) (by omega)]
 congr 1
 omega
theorem e5 {m : Nat} (hm : m ≤ 8) : da.f (m : Int) = some ((dm m : Nat) : Int) := by
 unfold da.f dm; have hp := bj hm; have h0 := Nat.two_pow_pos m; rw [isSize_eq, Option.bind_some, if_pos (by simp; omega), if_pos (by omega), e7 (by omega)]; generalize 2 ^ m = q at *; rw [bD (by omega) (by omega)]
 congr 1
 omega
end Go.Proofs.YtimkekeaeojpkaaGreat.Q
namespace Go.Proofs.YtimkekeaeojpkaaGreat.Q
open Go Go.RowKit Go.Proofs.YtimkekeaeojpkaaGreatW.PrintWords Go.Proofs.YtimkekeaeojpkaaGreatW.PrintLast Go.Proofs.YtimkekeaeojpkaaGreatW.PrintMore Go.Proofs.YtimkekeaeojpkaaGreat.Z
set_option linter.unusedVariables false
set_option linter.unusedSimpArgs false
theorem i8 {L : List Nat} {b : Nat} (hb : b ∈ L) (s : Nat) : pc (b &&& s) ≤ rkN L s := i9 _ 0 _ (List.mem_map.2 ⟨b, hb, rfl⟩)
theorem gW {L : List Nat} (hne : L ≠ []) (s : Nat) : ∃ b ∈ L, pc (b &&& s) = rkN L s := by
 rcases gh (L.map (fun b => pc (b &&& s))) 0 with h | h
 ·obtain ⟨b, hb⟩ := List.exists_mem_of_ne_nil L hne; have := i8 hb s; refine ⟨b, hb, ?_⟩; unfold rkN at this ⊢; omega
 ·obtain ⟨b, hb, e⟩ := List.mem_map.1 h; exact ⟨b, hb, e⟩
theorem fv {L : List Nat} (hne : L ≠ []) {X Y : Nat} (h : ∀ i, X.testBit i = true → Y.testBit i = true) : rkN L X ≤ rkN L Y := by
 obtain ⟨b, hb, e⟩ := gW hne X; rw [← e]; refine Nat.le_trans (eB fun i _ hi => ?_) (i8 hb Y); rw [Nat.testBit_and, Bool.and_eq_true] at hi ⊢; exact ⟨hi.1, h i hi.2⟩
theorem Mat.both_step {m : Nat} {L : List Nat} (h : Mat m L) {S T c : Nat} (hST : ∀ i, S.testBit i = true → T.testBit i = true) (hc : c ∈ L) (hcT : pc (c &&& T) = rkN L T) : ∀ (d b : Nat), b ∈ L → pc (b &&& S) = rkN L S → pc (dif b c) = d → ∃ b ∈ L, pc (b &&& S) = rkN L S ∧ pc (b &&& T) = rkN L T := by
 intro d
 induction d with
 | zero =>
  intro b hb hS hd; refine ⟨b, hb, hS, Nat.le_antisymm (i8 hb T) ?_⟩; rw [← hcT]; have hcard := h.card hb hc; refine eB fun i hi hbi => ?_
  rw [Nat.testBit_and, Bool.and_eq_true] at hbi ⊢; refine ⟨?_, hbi.2⟩; cases hb' : b.testBit i
  ·have h1 : pc b < pc c := by
    have e1 := er c (2 ^ i); have hle : pc b ≤ pc (dif c (2 ^ i)) := eB fun j hj hbj => by
     rw [del_bit]; have : c.testBit j = true := by
      cases hcj : c.testBit j
      ·have : 0 < pc (dif b c) := lB hj (by rw [dif_bit, hbj, hcj]; rfl); omega
      ·rfl
     rw [this]; have hne : ¬ i = j := by rintro rfl; rw [hb'] at hbj; cases hbj
     simp [hne]
    have := fl hi hbi.1; omega
   omega
  ·rfl
 | succ d ih =>
  intro b hb hS hd; by_cases hT : pc (b &&& T) = rkN L T
  ·exact ⟨b, hb, hS, hT⟩
  ·have hlt : pc (b &&& T) < pc (c &&& T) := by
    have := i8 hb T; omega
   have hcard := h.card hb hc; have e1 := er b T; have e2 := er c T; obtain ⟨e, he, hbe, hce⟩ := gi (a := dif c T) (b := dif b T) (by omega); rw [dif_bit, Bool.and_eq_true, Bool.not_eq_true'] at hbe; have hce' : c.testBit e = false := by
    rw [dif_bit, hbe.2] at hce
    simpa using hce
   obtain ⟨f, hf, h1, h2, hm⟩ := h.exch b hb c hc e he hbe.1 hce'; refine ih (swp b e f) hm ?_ ?_
   ·refine Nat.le_antisymm (i8 hm S) ?_; rw [← hS]; refine eB fun i _ hi => ?_
    rw [Nat.testBit_and, Bool.and_eq_true] at hi ⊢; refine ⟨?_, hi.2⟩; have hie : ¬ e = i := by rintro rfl; have := hST _ hi.2; rw [hbe.2] at this; cases this
    rw [swp_bit, hi.1]; simp [hie]
   ·have e3 : dif (swp b e f) c = dif (dif b c) (2 ^ e) := by
     apply Nat.eq_of_testBit_eq
     intro i; rw [dif_bit, swp_bit, del_bit, dif_bit]; by_cases hi : f = i
     ·subst hi; rw [h1, h2]; simp
     ·simp [hi]
      cases b.testBit i <;> cases c.testBit i <;> simp
    rw [e3]; have := fl (a := dif b c) he (by rw [dif_bit, hbe.1, hce']; rfl); omega
theorem Mat.both {m : Nat} {L : List Nat} (h : Mat m L) {S T : Nat} (hST : ∀ i, S.testBit i = true → T.testBit i = true) : ∃ b ∈ L, pc (b &&& S) = rkN L S ∧ pc (b &&& T) = rkN L T := by
 obtain ⟨c, hc, hcT⟩ := gW h.some T; obtain ⟨b, hb, hbS⟩ := gW h.some S; exact Mat.both_step h hST hc hcT _ b hb hbS rfl
theorem Mat.rk_sub {m : Nat} {L : List Nat} (h : Mat m L) (X Y : Nat) : rkN L (X ||| Y) + rkN L (X &&& Y) ≤ rkN L X + rkN L Y := by
 obtain ⟨b, hb, h1, h2⟩ := Mat.both h (S := X &&& Y) (T := X ||| Y) (fun i hi => by rw [Nat.testBit_and, Bool.and_eq_true] at hi; rw [Nat.testBit_or, hi.1]; rfl); have e := g5 (b &&& X) (b &&& Y); have e1 : (b &&& X) ||| (b &&& Y) = b &&& (X ||| Y) := by
  apply Nat.eq_of_testBit_eq
  intro i; simp only [Nat.testBit_or, Nat.testBit_and]; cases b.testBit i <;> cases X.testBit i <;> cases Y.testBit i <;> rfl
 have e2 : (b &&& X) &&& (b &&& Y) = b &&& (X &&& Y) := by
  apply Nat.eq_of_testBit_eq
  intro i; simp only [Nat.testBit_and]; cases b.testBit i <;> cases X.testBit i <;> cases Y.testBit i <;> rfl
 rw [e1, e2, h1, h2] at e; have k1 := i8 hb X; have k2 := i8 hb Y; omega
theorem iy {m A i : Nat} (h : A < 2 ^ m) (hi : m ≤ i) : A.testBit i = false := Nat.testBit_lt_two_pow (Nat.lt_of_lt_of_le h (Nat.pow_le_pow_right (by omega) hi))
theorem i5 {m a b : Nat} (ha : a < 2 ^ m) (hb : b < 2 ^ m) : a ||| b < 2 ^ m := Nat.or_lt_two_pow ha hb
theorem mX {m s i : Nat} (hs : s < 2 ^ m) (h : s.testBit i = true) : i < m := by
 refine Classical.byContradiction fun hc => ?_
 rw [iy hs (by omega)] at h; cases h
theorem fe {m i : Nat} (h : i < m) : 2 ^ i < 2 ^ m := Nat.pow_lt_pow_right (by omega) h
structure Ind (m : Nat) (I : Nat → Prop) : Prop where
 size : m ≤ 8
 sets : ∀ s, I s → s < 2 ^ m
 zero : I 0
 down : ∀ s t, I t → subN s t → I s
 aug : ∀ a b, I a → I b → pc a < pc b → ∃ e, e < 8 ∧ b.testBit e = true ∧ a.testBit e = false ∧ I (a ||| 2 ^ e)
def orL (a : Nat) : List Nat → Nat
 | [] => a
 | e :: es => orL a es ||| 2 ^ e
theorem orL_bit (a i : Nat) : ∀ es : List Nat, (orL a es).testBit i = (a.testBit i || decide (i ∈ es)) := by
 intro es
 induction es with
 | nil => simp [orL]
 | cons e es ih =>
  simp only [orL]; rw [add_bit, ih]; by_cases h : e = i
  ·subst h; simp
  ·have : ¬ i = e := fun x => h x.symm
   simp [h, this]
theorem Mat.aug {m : Nat} {L : List Nat} (h : Mat m L) {a b : Nat} (ha : indN L a = true) (hb : indN L b = true) (hlt : pc a < pc b) : ∃ e, e < 8 ∧ b.testBit e = true ∧ a.testBit e = false ∧ indN L (a ||| 2 ^ e) = true := by
 refine Classical.byContradiction fun hc => ?_
 have hlt256 : ∀ s, indN L s = true → s < 256 := fun s hs => by
  obtain ⟨x, hx, hsub⟩ := indN_iff.1 hs; exact Nat.lt_of_le_of_lt (gN hsub) (h.lt x hx)
 have ra := (ey (hlt256 a ha) h.some).2 ha; have rb := (ey (hlt256 b hb) h.some).2 hb; have h1 : ∀ e, e < 8 → b.testBit e = true → rkN L (a ||| 2 ^ e) ≤ rkN L a := by
  intro e he hbe; cases hae : a.testBit e
  ·have hn : ¬ indN L (a ||| 2 ^ e) = true := fun x => hc ⟨e, he, hbe, hae, x⟩
   have hl : a ||| 2 ^ e < 256 := Nat.or_lt_two_pow (n := 8) (hlt256 a ha) (fe he); have hne := mt (ey hl h.some).1 hn; have hle := iD L (a ||| 2 ^ e); rw [gC he hae] at hle hne; omega
  ·refine fv h.some fun i hi => ?_
   rw [add_bit, Bool.or_eq_true] at hi; rcases hi with hi | hi
   ·exact hi
   ·rw [← of_decide_eq_true hi]; exact hae
 have h2 : ∀ es : List Nat, (∀ e ∈ es, e < 8 ∧ b.testBit e = true) → rkN L (orL a es) ≤ rkN L a := by
  intro es
  induction es with
  | nil => intro _; exact Nat.le_refl _
  | cons e es ih =>
   intro hes; have ih' := ih (fun x hx => hes x (List.mem_cons_of_mem _ hx)); have he := hes e (List.mem_cons_self ..); have hs := Mat.rk_sub h (orL a es) (a ||| 2 ^ e); have k1 : rkN L a ≤ rkN L (orL a es &&& (a ||| 2 ^ e)) := fv h.some fun i hi => by
    rw [Nat.testBit_and, orL_bit, add_bit, hi]; rfl
   have k2 : rkN L (orL a es ||| 2 ^ e) ≤ rkN L (orL a es ||| (a ||| 2 ^ e)) := fv h.some fun i hi => by
    rw [Nat.testBit_or, Bool.or_eq_true] at hi ⊢; rcases hi with hi | hi
    ·exact .inl hi
    ·right; rw [Nat.testBit_or, hi, Bool.or_true]
   have k3 := h1 e he.1 he.2; simp only [orL]; omega
 have h3 := h2 (els b) (fun e he => eG.1 he); have h4 : rkN L b ≤ rkN L (orL a (els b)) := fv h.some fun i hi => by
  rw [orL_bit, Bool.or_eq_true]
  right
  refine decide_eq_true (eG.2 ⟨?_, hi⟩); refine Classical.byContradiction fun hc => ?_
  rw [lp (hlt256 b hb) hc] at hi; cases hi
 omega
theorem Mat.ind {m : Nat} {L : List Nat} (h : Mat m L) : Ind m (fun s => indN L s = true) := by
 refine ⟨h.size, ?_, ?_, ?_, ?_⟩
 ·intro s hs; obtain ⟨x, hx, hsub⟩ := indN_iff.1 hs; exact Nat.lt_of_le_of_lt (gN hsub) (h.sets x hx)
 ·obtain ⟨x, hx⟩ := List.exists_mem_of_ne_nil L h.some; exact indN_iff.2 ⟨x, hx, mm x⟩
 ·intro s t ht hst; obtain ⟨x, hx, hsub⟩ := indN_iff.1 ht; exact indN_iff.2 ⟨x, hx, jn hst hsub⟩
 ·intro a b ha hb hlt; exact Mat.aug h ha hb hlt
variable {m : Nat} {I : Nat → Prop}
theorem Ind.lt (h : Ind m I) {s : Nat} (hs : I s) : s < 256 := Nat.lt_of_lt_of_le (h.sets s hs) (bj h.size)
theorem Ind.max (h : Ind m I) : ∃ r, (∃ b, I b ∧ pc b = r) ∧ ∀ s, I s → pc s ≤ r := by
 have key : ∀ d b, I b → 8 - pc b ≤ d → ∃ r, (∃ b, I b ∧ pc b = r) ∧ ∀ s, I s → pc s ≤ r := by
  intro d
  induction d with
  | zero =>
   intro b hb hd; refine ⟨pc b, ⟨b, hb, rfl⟩, fun s _ => ?_⟩; have := k7 s; have := k7 b; omega
  | succ d ih =>
   intro b hb hd; by_cases hx : ∃ s, I s ∧ pc b < pc s
   ·obtain ⟨s, hs, hlt⟩ := hx; exact ih s hs (by omega)
   ·refine ⟨pc b, ⟨b, hb, rfl⟩, fun s hs => ?_⟩; have : ¬ pc b < pc s := fun hl => hx ⟨s, hs, hl⟩
    omega
 exact key 8 0 h.zero (by omega)
theorem Ind.mat (h : Ind m I) {L : List Nat} {r : Nat} (hL : ∀ b, b ∈ L ↔ I b ∧ pc b = r) (hne : ∃ b, I b ∧ pc b = r) : Mat m L := by
 refine ⟨h.size, fun b hb => h.sets b ((hL b).1 hb).1, ?_, ?_⟩
 ·obtain ⟨b, hb⟩ := hne; intro e; have := (hL b).2 hb; rw [e] at this; simp at this
 ·intro a ha b hb e he hae hbe; obtain ⟨ia, pa⟩ := (hL a).1 ha; obtain ⟨ib, pb⟩ := (hL b).1 hb; have hd := fl he hae; obtain ⟨f, hf, h1, h2, h3⟩ := h.aug (dif a (2 ^ e)) b (h.down _ a ia (cn.2 fun i hi => by
   rw [dif_bit, Bool.and_eq_true] at hi; exact hi.1)) ib (by omega)
  have hfe : ¬ e = f := by rintro rfl; rw [hbe] at h1; cases h1
  have haf : a.testBit f = false := by
   rw [del_bit] at h2
   simpa [hfe] using h2
  refine ⟨f, hf, h1, haf, (hL _).2 ⟨h3, ?_⟩⟩; rw [lK he hf hae haf]; exact pa
theorem Ind.indN_iff (h : Ind m I) {L : List Nat} {r : Nat} (hL : ∀ b, b ∈ L ↔ I b ∧ pc b = r) (hne : ∃ b, I b ∧ pc b = r) (hmax : ∀ s, I s → pc s ≤ r) (s : Nat) : indN L s = true ↔ I s := by
 constructor
 ·intro hs; obtain ⟨x, hx, hsub⟩ := Z.indN_iff.1 hs; exact h.down s x ((hL x).1 hx).1 hsub
 ·obtain ⟨b, ib, pb⟩ := hne; have key : ∀ d s, I s → r - pc s ≤ d → ∃ x, x ∈ L ∧ subN s x := by
   intro d
   induction d with
   | zero =>
    intro s hs hd; have := hmax s hs; exact ⟨s, (hL s).2 ⟨hs, by omega⟩, fJ s⟩
   | succ d ih =>
    intro s hs hd; by_cases he : pc s = r
    ·exact ⟨s, (hL s).2 ⟨hs, he⟩, fJ s⟩
    ·have := hmax s hs; obtain ⟨e, he8, h1, h2, h3⟩ := h.aug s b hs ib (by omega); obtain ⟨x, hx, hsub⟩ := ih _ h3 (by rw [gC he8 h2]; omega); refine ⟨x, hx, jn (cn.2 fun i hi => ?_) hsub⟩; rw [add_bit, hi, Bool.true_or]
  intro hs; obtain ⟨x, hx, hsub⟩ := key _ s hs (Nat.le_refl _); exact Z.indN_iff.2 ⟨x, hx, hsub⟩
theorem eq {x y : Nat} (h : x &&& y = 0) : pc (x ||| y) = pc x + pc y := by
 have := g5 x y; rw [h, pc_zero] at this; omega
theorem je {x y i : Nat} (h : x &&& y = 0) (hx : x.testBit i = true) : y.testBit i = false := by
 have := congrArg (fun z => Nat.testBit z i) h; simp only [Nat.testBit_and, hx, Bool.true_and, Nat.zero_testBit] at this; exact this
def Uni (I J : Nat → Prop) (s : Nat) : Prop := ∃ x y, I x ∧ J y ∧ s = x ||| y
theorem Uni.disj {I J : Nat → Prop} (hJ : ∀ s t, J t → subN s t → J s) {s : Nat} (h : Uni I J s) : ∃ x y, I x ∧ J y ∧ s = x ||| y ∧ x &&& y = 0 := by
 obtain ⟨x, y, hx, hy, rfl⟩ := h; refine ⟨x, dif y x, hx, hJ _ y hy (cn.2 fun i hi => by rw [dif_bit, Bool.and_eq_true] at hi; exact hi.1), ?_, ?_⟩
 ·apply Nat.eq_of_testBit_eq
  intro i; rw [Nat.testBit_or, Nat.testBit_or, dif_bit]; cases x.testBit i <;> cases y.testBit i <;> rfl
 ·apply Nat.eq_of_testBit_eq
  intro i; rw [Nat.testBit_and, dif_bit, Nat.zero_testBit]; cases x.testBit i <;> cases y.testBit i <;> rfl
theorem lc {I J : Nat → Prop} (hI : Ind m I) (hJ : Ind m J) {b1 b2 : Nat} (ib1 : I b1) (ib2 : J b2) (hb : b1 &&& b2 = 0) : ∀ (n a1 a2 : Nat), I a1 → J a2 → a1 &&& a2 = 0 → pc (a1 ||| a2) < pc (b1 ||| b2) → 16 ≤ n + (pc (a1 &&& b1) + pc (a2 &&& b2)) → ∃ e, e < 8 ∧ (b1 ||| b2).testBit e = true ∧ (a1 ||| a2).testBit e = false ∧ Uni I J ((a1 ||| a2) ||| 2 ^ e) := by
 intro n
 induction n with
 | zero =>
  intro a1 a2 i1 i2 hd hlt hn; have k1 := fK b1 a1; have k2 := fK b2 a2; rw [Nat.and_comm] at k1 k2; have := eq hd; have := eq hb; have h8 := k7 (b1 ||| b2); omega
 | succ n ih =>
  intro a1 a2 i1 i2 hd hlt hn; have ea := eq hd; have eb := eq hb; by_cases hc : pc a1 < pc b1
  ·obtain ⟨e, he, h1, h2, h3⟩ := hI.aug a1 b1 i1 ib1 hc; cases h4 : a2.testBit e
   ·refine ⟨e, he, by rw [Nat.testBit_or, h1, Bool.true_or], by rw [Nat.testBit_or, h2, h4]; rfl, a1 ||| 2 ^ e, a2, h3, i2, ?_⟩
    apply Nat.eq_of_testBit_eq
    intro i; simp only [Nat.testBit_or]; cases a1.testBit i <;> cases a2.testBit i <;> cases (2 ^ e).testBit i <;> rfl
   ·have eu : (a1 ||| 2 ^ e) ||| dif a2 (2 ^ e) = a1 ||| a2 := by
     apply Nat.eq_of_testBit_eq
     intro i; rw [Nat.testBit_or, add_bit, del_bit, Nat.testBit_or]; by_cases hi : e = i
     ·subst hi; rw [h4]; simp
     ·simp [hi]
    have := ih (a1 ||| 2 ^ e) (dif a2 (2 ^ e)) h3 (hJ.down _ a2 i2 (cn.2 fun i hi => by rw [del_bit, Bool.and_eq_true] at hi; exact hi.1)) (by
      apply Nat.eq_of_testBit_eq
      intro i; rw [Nat.testBit_and, add_bit, del_bit, Nat.zero_testBit]; by_cases hi : e = i
      ·subst hi; simp
      ·have hx := congrArg (fun z => Nat.testBit z i) hd; simp only [Nat.testBit_and, Nat.zero_testBit] at hx; simp [hi, hx]) (by rw [eu]; exact hlt) (by
      have k1 : pc ((a1 ||| 2 ^ e) &&& b1) = pc (a1 &&& b1) + 1 := by
       rw [← gC (a := a1 &&& b1) he (by rw [Nat.testBit_and, h2]; rfl)]
       congr 1
       apply Nat.eq_of_testBit_eq
       intro i; rw [Nat.testBit_and, add_bit, add_bit, Nat.testBit_and]; by_cases hi : e = i
       ·subst hi; rw [h1]; simp
       ·simp [hi]
      have k2 : dif a2 (2 ^ e) &&& b2 = a2 &&& b2 := by
       apply Nat.eq_of_testBit_eq
       intro i; rw [Nat.testBit_and, del_bit, Nat.testBit_and]; by_cases hi : e = i
       ·subst hi; rw [je hb h1]; simp
       ·simp [hi]
      rw [k1, k2]; omega)
    rw [eu] at this; exact this
  ·have hc2 : pc a2 < pc b2 := by omega
   obtain ⟨e, he, h1, h2, h3⟩ := hJ.aug a2 b2 i2 ib2 hc2; have hb' : b2 &&& b1 = 0 := by rw [Nat.and_comm]; exact hb
   cases h4 : a1.testBit e
   ·refine ⟨e, he, by rw [Nat.testBit_or, h1, Bool.or_true], by rw [Nat.testBit_or, h2, h4]; rfl, a1, a2 ||| 2 ^ e, i1, h3, ?_⟩
    apply Nat.eq_of_testBit_eq
    intro i; simp only [Nat.testBit_or]; cases a1.testBit i <;> cases a2.testBit i <;> cases (2 ^ e).testBit i <;> rfl
   ·have eu : dif a1 (2 ^ e) ||| (a2 ||| 2 ^ e) = a1 ||| a2 := by
     apply Nat.eq_of_testBit_eq
     intro i; rw [Nat.testBit_or, add_bit, del_bit, Nat.testBit_or]; by_cases hi : e = i
     ·subst hi; rw [h4]; simp
     ·simp [hi]
    have := ih (dif a1 (2 ^ e)) (a2 ||| 2 ^ e) (hI.down _ a1 i1 (cn.2 fun i hi => by rw [del_bit, Bool.and_eq_true] at hi; exact hi.1)) h3 (by
      apply Nat.eq_of_testBit_eq
      intro i; rw [Nat.testBit_and, add_bit, del_bit, Nat.zero_testBit]; by_cases hi : e = i
      ·subst hi; simp
      ·have hx := congrArg (fun z => Nat.testBit z i) hd; simp only [Nat.testBit_and, Nat.zero_testBit] at hx; simp [hi, hx]) (by rw [eu]; exact hlt) (by
      have k1 : pc ((a2 ||| 2 ^ e) &&& b2) = pc (a2 &&& b2) + 1 := by
       rw [← gC (a := a2 &&& b2) he (by rw [Nat.testBit_and, h2]; rfl)]
       congr 1
       apply Nat.eq_of_testBit_eq
       intro i; rw [Nat.testBit_and, add_bit, add_bit, Nat.testBit_and]; by_cases hi : e = i
       ·subst hi; rw [h1]; simp
       ·simp [hi]
      have k2 : dif a1 (2 ^ e) &&& b1 = a1 &&& b1 := by
       apply Nat.eq_of_testBit_eq
       intro i; rw [Nat.testBit_and, del_bit, Nat.testBit_and]; by_cases hi : e = i
       ·subst hi; rw [je hb' h1]; simp
       ·simp [hi]
      rw [k1, k2]; omega)
    rw [eu] at this; exact this
theorem Ind.union {I J : Nat → Prop} (hI : Ind m I) (hJ : Ind m J) : Ind m (Uni I J) := by
 refine ⟨hI.size, ?_, ?_, ?_, ?_⟩
 ·rintro s ⟨x, y, hx, hy, rfl⟩; exact i5 (hI.sets x hx) (hJ.sets y hy)
 ·exact ⟨0, 0, hI.zero, hJ.zero, rfl⟩
 ·rintro s t ⟨x, y, hx, hy, rfl⟩ hst; refine ⟨x &&& s, y &&& s, hI.down _ x hx (cn.2 fun i hi => by rw [Nat.testBit_and, Bool.and_eq_true] at hi; exact hi.1), hJ.down _ y hy (cn.2 fun i hi => by rw [Nat.testBit_and, Bool.and_eq_true] at hi; exact hi.1), ?_⟩
  apply Nat.eq_of_testBit_eq
  intro i; have h1 := cn.1 hst i; rw [Nat.testBit_or] at h1; rw [Nat.testBit_or, Nat.testBit_and, Nat.testBit_and]; cases hs : s.testBit i
  ·simp
  ·rw [hs] at h1; simpa using (h1 rfl).symm
 ·intro a b ha hb hlt; obtain ⟨a1, a2, i1, i2, rfl, hd⟩ := Uni.disj hJ.down ha; obtain ⟨b1, b2, j1, j2, rfl, hd'⟩ := Uni.disj hJ.down hb; exact lc hI hJ j1 j2 hd' 16 a1 a2 i1 i2 hd hlt (by omega)
def One (S s : Nat) : Prop := s = 0 ∨ ∃ e, e < 8 ∧ S.testBit e = true ∧ s = 2 ^ e
theorem Ind.one {S : Nat} (hm : m ≤ 8) (hS : S < 2 ^ m) : Ind m (One S) := by
 refine ⟨hm, ?_, .inl rfl, ?_, ?_⟩
 ·rintro s (rfl | ⟨e, he, h1, rfl⟩)
  ·exact Nat.two_pow_pos _
  ·exact fe (mX hS h1)
 ·rintro s t (rfl | ⟨e, he, h1, rfl⟩) hst
  ·left
   have := gN hst; omega
  ·cases hb : s.testBit e
   ·left
    apply Nat.eq_of_testBit_eq
    intro i; rw [Nat.zero_testBit]; cases hi : s.testBit i
    ·rfl
    ·have := cn.1 hst i hi; rw [Nat.testBit_two_pow] at this; rw [of_decide_eq_true this, hi] at hb; cases hb
   ·right
    refine ⟨e, he, h1, ?_⟩
    apply Nat.eq_of_testBit_eq
    intro i; rw [Nat.testBit_two_pow]; by_cases hi : e = i
    ·subst hi; rw [hb]; simp
    ·rw [decide_eq_false hi]; cases hs : s.testBit i
     ·rfl
     ·have := cn.1 hst i hs; rw [Nat.testBit_two_pow] at this; exact absurd (of_decide_eq_true this) hi
 ·rintro a b (rfl | ⟨e, he, h1, rfl⟩) hb hlt
  ·rcases hb with rfl | ⟨f, hf, h2, rfl⟩
   ·omega
   ·exact ⟨f, hf, by rw [Nat.testBit_two_pow]; simp, Nat.zero_testBit _, by rw [Nat.zero_or]; exact .inr ⟨f, hf, h2, rfl⟩⟩
  ·rw [kc he] at hlt; rcases hb with rfl | ⟨f, hf, h2, rfl⟩
   ·rw [pc_zero] at hlt; omega
   ·rw [kc hf] at hlt; omega
def Few (m : Nat) (ps : List (Nat × Nat)) (s : Nat) : Prop := s < 2 ^ m ∧ ∀ p ∈ ps, pc (p.1 &&& s) ≤ p.2
def orF : List (Nat × Nat) → Nat
 | [] => 0
 | p :: ps => p.1 ||| orF ps
theorem lS (i : Nat) : ∀ ps : List (Nat × Nat), (orF ps).testBit i = true ↔ ∃ p ∈ ps, p.1.testBit i = true := by
 intro ps
 induction ps with
 | nil => simp [orF]
 | cons p ps ih => simp only [orF]; rw [Nat.testBit_or, Bool.or_eq_true, ih]; simp
theorem nL {a b : Nat} : ∀ ps : List (Nat × Nat), ps.Pairwise (fun p q => p.1 &&& q.1 = 0) → (∀ p ∈ ps, pc (p.1 &&& b) ≤ pc (p.1 &&& a)) → pc (orF ps &&& b) ≤ pc (orF ps &&& a) := by
 intro ps
 induction ps with
 | nil => intro _ _; simp [orF]
 | cons p ps ih =>
  intro hp h; rw [List.pairwise_cons] at hp; have hd : ∀ x : Nat, (p.1 &&& x) &&& (orF ps &&& x) = 0 := by
   intro x
   apply Nat.eq_of_testBit_eq
   intro i; simp only [Nat.testBit_and, Nat.zero_testBit]; cases h1 : p.1.testBit i
   ·simp
   ·cases h2 : (orF ps).testBit i
    ·simp
    ·obtain ⟨q, hq, hqi⟩ := (lS i ps).1 h2; have := je (hp.1 q hq) h1; rw [this] at hqi; cases hqi
  have e : ∀ x : Nat, orF (p :: ps) &&& x = (p.1 &&& x) ||| (orF ps &&& x) := by
   intro x
   apply Nat.eq_of_testBit_eq
   intro i; simp only [orF, Nat.testBit_and, Nat.testBit_or]; cases p.1.testBit i <;> cases (orF ps).testBit i <;> cases x.testBit i <;> rfl
  rw [e, e, eq (hd _), eq (hd _)]; have h1 := h p (List.mem_cons_self ..); have h2 := ih hp.2 (fun q hq => h q (List.mem_cons_of_mem _ hq)); omega
theorem Ind.few (hm : m ≤ 8) {ps : List (Nat × Nat)} (hp : ps.Pairwise (fun p q => p.1 &&& q.1 = 0)) : Ind m (Few m ps) := by
 refine ⟨hm, fun s hs => hs.1, ⟨Nat.two_pow_pos _, fun p _ => by rw [Nat.and_zero, pc_zero]; exact Nat.zero_le _⟩, ?_, ?_⟩
 ·intro s t ht hst; refine ⟨Nat.lt_of_le_of_lt (gN hst) ht.1, fun p hpm => Nat.le_trans (eB fun i _ hi => ?_) (ht.2 p hpm)⟩; rw [Nat.testBit_and, Bool.and_eq_true] at hi ⊢; exact ⟨hi.1, cn.1 hst i hi.2⟩
 ·intro a b ha hb hlt; refine Classical.byContradiction fun hc => ?_
  let qs := ps.filter (fun p => decide (p.2 ≤ pc (p.1 &&& a)))
  have hq : pc (orF qs &&& b) ≤ pc (orF qs &&& a) := nL qs (List.Pairwise.filter _ hp) (fun p hpm => by
   have hm := List.mem_filter.1 hpm; have := hb.2 p hm.1; have h2 := of_decide_eq_true hm.2; omega)
  have hin : ∀ e, e < 8 → b.testBit e = true → a.testBit e = false → (orF qs).testBit e = true := by
   intro e he hbe hae; refine Classical.byContradiction fun hn => hc ⟨e, he, hbe, hae, ?_, ?_⟩
   ·exact i5 ha.1 (fe (mX hb.1 hbe))
   ·intro p hpm; by_cases hpe : p.1.testBit e = true
    ·have : ¬ p.2 ≤ pc (p.1 &&& a) := fun hle => hn ((lS e qs).2 ⟨p, List.mem_filter.2 ⟨hpm, decide_eq_true hle⟩, hpe⟩)
     have k : p.1 &&& (a ||| 2 ^ e) = (p.1 &&& a) ||| 2 ^ e := by
      apply Nat.eq_of_testBit_eq
      intro i; rw [Nat.testBit_and, add_bit, add_bit, Nat.testBit_and]; by_cases hi : e = i
      ·subst hi; rw [hpe]; simp
      ·simp [hi]
     rw [k, gC he (by rw [Nat.testBit_and, hae, Bool.and_false])]; omega
    ·have k : p.1 &&& (a ||| 2 ^ e) = p.1 &&& a := by
      apply Nat.eq_of_testBit_eq
      intro i; rw [Nat.testBit_and, add_bit, Nat.testBit_and]; by_cases hi : e = i
      ·subst hi; rw [Bool.eq_false_iff.2 hpe]; simp
      ·simp [hi]
     rw [k]; exact ha.2 p hpm
  have e1 := er b (orF qs); have e2 := er a (orF qs); rw [Nat.and_comm] at e1 e2; have e3 : pc (dif b (orF qs)) ≤ pc (dif a (orF qs)) := eB fun i hi hbi => by
   rw [dif_bit, Bool.and_eq_true, Bool.not_eq_true'] at hbi ⊢; refine ⟨?_, hbi.2⟩; cases hai : a.testBit i
   ·rw [hin i hi hbi.1 hai] at hbi; exact absurd hbi.2 (by decide)
   ·rfl
  omega
theorem jK {L : List Nat} (h : L.Pairwise (· < ·)) : (ints L).Pairwise (· < ·) := by
 unfold ints; rw [List.pairwise_map]; exact h.imp (fun hab => by omega)
theorem fh {a b : Nat} (ha : a < 256) (hb : b < 256) (h : subN a b) (hc : pc b ≤ pc a) : a = b := by
 apply iB ha hb
 intro i hi; cases hbi : b.testBit i
 ·cases hai : a.testBit i
  ·rfl
  ·rw [cn.1 h i hai] at hbi; cases hbi
 ·cases hai : a.testBit i
  ·have h1 : pc a ≤ pc (dif b (2 ^ i)) := eB fun j _ hj => by
    rw [del_bit, cn.1 h j hj]; have : ¬ i = j := by rintro rfl; rw [hai] at hj; cases hj
    simp [this]
   have := fl hi hbi; omega
  ·rfl
theorem Mat.base_of {m : Nat} {L : List Nat} (h : Mat m L) {s b : Nat} (hb : b ∈ L) (hs : indN L s = true) (hp : pc s = pc b) : s ∈ L := by
 obtain ⟨x, hx, hsub⟩ := indN_iff.1 hs; have e : s = x := fh ((Mat.ind h).lt hs) (h.lt x hx) hsub (by rw [hp, h.card hb hx]; exact Nat.le_refl _); rw [e]; exact hx
theorem Mat.base_ind {L : List Nat} {b : Nat} (hb : b ∈ L) : indN L b = true := indN_iff.2 ⟨b, hb, fJ b⟩
theorem lJ {b A : Nat} (hA : A < 256) (hb : b < 256) (h : pc A ≤ pc (b &&& A)) : subN A b := by
 have e : b &&& A = A := fh (Nat.lt_of_le_of_lt Nat.and_le_right hA) hA (cn.2 fun i hi => by rw [Nat.testBit_and, Bool.and_eq_true] at hi; exact hi.2) h; exact cn.2 fun i hi => by rw [← e, Nat.testBit_and, Bool.and_eq_true] at hi; exact hi.1
theorem Mat.relax {m : Nat} {L L' : List Nat} (h : Mat m L) {s : Nat} (hs : s < 2 ^ m) (hd : indN L s = false) (hc : ∀ t, t < 256 → subN t s → t ≠ s → indN L t = true) (hf : ∀ x, x < m → s.testBit x = false → rkN L s < rkN L (s ||| 2 ^ x)) (hr : ∀ b ∈ L, pc b = rkN L s + 1) (hL : ∀ b, b ∈ L' ↔ b ∈ L ∨ b = s) :
  Mat m L' ∧ (s ∉ L) ∧ pc s = rkN L s + 1 := by
 have hs256 : s < 256 := Nat.lt_of_lt_of_le hs (bj h.size); have hsL : s ∉ L := fun hx => by rw [Mat.base_ind hx] at hd; cases hd
 have hne : s ≠ 0 := by
  rintro rfl; obtain ⟨b, hb⟩ := List.exists_mem_of_ne_nil _ h.some; rw [indN_iff.2 ⟨b, hb, by simp [subN]⟩] at hd; cases hd
 have hrk : ∀ t, t < 256 → (rkN L t = pc t ↔ indN L t = true) := fun t ht => ey ht h.some
 have hdel : ∀ e, e < 8 → s.testBit e = true → pc (dif s (2 ^ e)) + 1 = pc s ∧ rkN L (dif s (2 ^ e)) = pc (dif s (2 ^ e)) := by
  intro e he hb; have hlt : dif s (2 ^ e) < 256 := gz hs256; have hsub : subN (dif s (2 ^ e)) s := cn.2 fun i hi => by rw [del_bit, Bool.and_eq_true] at hi; exact hi.1
  have hp := fl he hb; refine ⟨hp, (hrk _ hlt).2 (hc _ hlt hsub fun heq => ?_)⟩; rw [heq] at hp; omega
 have hpc : pc s = rkN L s + 1 := by
  obtain ⟨e, he, hb⟩ := ft (a := s) (by
   rcases Nat.eq_zero_or_pos (pc s) with h0 | h0
   ·exact absurd ((hU hs256).1 h0) hne
   ·exact h0)
  obtain ⟨hp, hq⟩ := hdel e he hb; have h1 := fv h.some (X := dif s (2 ^ e)) (Y := s) (fun i hi => by rw [del_bit, Bool.and_eq_true] at hi; exact hi.1); have h2 := iD L s; have h3 : rkN L s ≠ pc s := fun hx => by rw [(hrk s hs256).1 hx] at hd; cases hd
  omega
 have hsp : ∀ e x, e < 8 → x < m → s.testBit e = true → s.testBit x = false → swp s e x ∈ L := by
  intro e x he hx hb hxs; obtain ⟨hp, hq⟩ := hdel e he hb; have hsub := Mat.rk_sub h s (swp s e x); have e1 : s ||| swp s e x = s ||| 2 ^ x := by
   apply Nat.eq_of_testBit_eq; intro i
   rw [Nat.testBit_or, swp_bit, add_bit]; cases s.testBit i <;> simp
  have e2 : s &&& swp s e x = dif s (2 ^ e) := by
   apply Nat.eq_of_testBit_eq; intro i
   rw [Nat.testBit_and, swp_bit, del_bit]; by_cases hi : x = i
   ·subst hi; rw [hxs]; rfl
   ·rw [decide_eq_false hi, Bool.or_false]; cases s.testBit i <;> simp
  rw [e1, e2, hq] at hsub; have hfx := hf x hx hxs; have hx8 : x < 8 := Nat.lt_of_lt_of_le hx h.size; have hps := lK he hx8 hb hxs; have hle := iD L (swp s e x); obtain ⟨b, hb'⟩ := List.exists_mem_of_ne_nil _ h.some; have hrb := hr b hb'; have hlt : swp s e x < 256 := Nat.lt_of_lt_of_le (i5 (m := 8) (gz hs256) (fe hx8)) (by decide); exact Mat.base_of h hb' ((hrk _ hlt).1 (by omega)) (by omega)
 refine ⟨⟨h.size, ?_, ?_, ?_⟩, hsL, hpc⟩
 ·intro b hb; rcases (hL b).1 hb with hb | rfl
  ·exact h.sets b hb
  ·exact hs
 ·intro h0; have := (hL s).2 (.inr rfl); rw [h0] at this; cases this
 ·intro a ha b hb e he hae hbe; rcases (hL a).1 ha with ha | rfl
  ·rcases (hL b).1 hb with hb | rfl
   ·obtain ⟨f, h1, h2, h3, h4⟩ := h.exch a ha b hb e he hae hbe; exact ⟨f, h1, h2, h3, (hL _).2 (.inl h4)⟩
   ·-- the base a loses e, the new one is b
    have ha256 := h.lt a ha; have hpa := hr a ha; have hpA := fl he hae; have hAlt : dif a (2 ^ e) < 256 := gz ha256; have hAsub : subN (dif a (2 ^ e)) a := cn.2 fun i hi => by rw [del_bit, Bool.and_eq_true] at hi; exact hi.1
    have hAr : rkN L (dif a (2 ^ e)) = pc (dif a (2 ^ e)) := (hrk _ hAlt).2 (indN_iff.2 ⟨a, ha, hAsub⟩); have hAm : ∀ x, (dif a (2 ^ e)).testBit x = true → x < m := by
     intro x hx; rcases Nat.lt_or_ge x m with h' | h'
     ·exact h'
     ·rw [del_bit, Bool.and_eq_true] at hx; rw [iy (h.sets a ha) h'] at hx; cases hx.1
    have key : ∀ c, c < 256 → subN (dif a (2 ^ e)) c → pc c = pc a → ∀ f, f < 8 → c.testBit f = true → (dif a (2 ^ e)).testBit f = false → swp a e f = c := by
     intro c hc256 hsc hcc f hf8 hcf hAf; refine fh (by exact Nat.lt_of_lt_of_le (i5 (m := 8) (gz ha256) (fe hf8)) (by decide)) hc256 (cn.2 fun i hi => ?_) ?_
     ·rw [swp_bit, Bool.or_eq_true] at hi; rcases hi with hi | hi
      ·exact cn.1 hsc i (by rw [del_bit]; exact hi)
      ·rw [← of_decide_eq_true hi]; exact hcf
     ·have := gC hf8 hAf; have e1 : swp a e f = dif a (2 ^ e) ||| 2 ^ f := rfl; rw [e1]; omega
    have fin : ∀ c, c < 256 → subN (dif a (2 ^ e)) c → pc c = pc a → (c ∈ L ∨ c = b) → (∀ f, c.testBit f = true → (dif a (2 ^ e)).testBit f = false → b.testBit f = true) → ∃ f, f < 8 ∧ b.testBit f = true ∧ a.testBit f = false ∧ swp a e f ∈ L' := by
     intro c hc256 hsc hcc hcL hin; obtain ⟨f, hf8, hcf, hAf⟩ := gi (a := dif a (2 ^ e)) (b := c) (by omega); have hbf := hin f hcf hAf; refine ⟨f, hf8, hbf, ?_, ?_⟩
     ·rw [del_bit] at hAf; have : ¬ e = f := by rintro rfl; rw [hbf] at hbe; cases hbe
      rw [decide_eq_false this, Bool.not_false, Bool.and_true] at hAf; exact hAf
     ·rw [key c hc256 hsc hcc f hf8 hcf hAf]; exact (hL _).2 hcL
    by_cases hk : rkN L (dif a (2 ^ e) ||| b) ≤ rkN L b
    ·refine fin b hs256 (cn.2 fun x hx => ?_) (by omega) (.inr rfl) (fun f h1 _ => h1); refine Classical.byContradiction fun hnx => ?_
     have h1 := hf x (hAm x hx) (Bool.eq_false_iff.2 hnx); have h2 := fv h.some (X := b ||| 2 ^ x) (Y := dif a (2 ^ e) ||| b) (fun i hi => by
      rw [add_bit, Bool.or_eq_true] at hi; rw [Nat.testBit_or, Bool.or_eq_true]; rcases hi with hi | hi
      ·exact .inr hi
      ·rw [← of_decide_eq_true hi]; exact .inl hx)
     omega
    ·obtain ⟨c, hcL, h1, h2⟩ := Mat.both h (S := dif a (2 ^ e)) (T := dif a (2 ^ e) ||| b) (fun i hi => by rw [Nat.testBit_or, hi]; rfl); have hc256 := h.lt c hcL; have hpc' := hr c hcL; have hsc := lJ hAlt hc256 (by omega); have hTlt : dif a (2 ^ e) ||| b < 256 := i5 (m := 8) hAlt hs256; have hcT : c &&& (dif a (2 ^ e) ||| b) = c := fh (Nat.lt_of_le_of_lt Nat.and_le_left hc256) hc256 (cn.2 fun i hi => by rw [Nat.testBit_and, Bool.and_eq_true] at hi; exact hi.1) (by omega); refine fin c hc256 hsc (by omega) (.inl hcL) (fun f h3 h4 => ?_); rw [← hcT, Nat.testBit_and, Bool.and_eq_true, Nat.testBit_or, h4, Bool.false_or] at h3; exact h3.2
  ·rcases (hL b).1 hb with hb | rfl
   ·have hbs : b ≠ a := by rintro rfl; exact hsL hb
    obtain ⟨f, hf8, h1, h2⟩ : ∃ f, f < 8 ∧ b.testBit f = true ∧ a.testBit f = false := by
     refine Classical.byContradiction fun hno => hbs ?_
     refine fh (h.lt b hb) hs256 (cn.2 fun i hi => ?_) (by have := hr b hb; omega); refine Classical.byContradiction fun hai => hno ⟨i, ?_, hi, Bool.eq_false_iff.2 hai⟩
     rcases Nat.lt_or_ge i 8 with h' | h'
     ·exact h'
     ·rw [iy (m := 8) (h.lt b hb) h'] at hi; cases hi
    have hfm : f < m := by
     rcases Nat.lt_or_ge f m with h' | h'
     ·exact h'
     ·rw [iy (h.sets b hb) h'] at h1; cases h1
    exact ⟨f, hf8, h1, h2, (hL _).2 (.inl (hsp e f he hfm hae h2))⟩
   ·rw [hae] at hbe; cases hbe
theorem kL {m : Nat} : eN 0 ((dm m : Nat) : Int) = ints (List.range (2 ^ m)) := by
 have := Nat.two_pow_pos m; unfold eN ints dm; rw [List.range_eq_range', show (((2 ^ m - 1 : Nat) : Int) + 1).toNat - (0 : Int).toNat = 2 ^ m from by omega]
 rfl
theorem gY {m : Nat} (hm : m ≤ 8) {g : Nat → Int → Option Bool} {p : Nat → Bool} (h : ∀ t : Nat, t < 2 ^ m → Ev (fun k => g k (t : Int)) (p t)) : Ev (fun k => io (g k) ((dm m : Nat) : Int)) (ints ((List.range (2 ^ m)).filter p)) := by
 unfold io; rw [kL]; have hf : (ints (List.range (2 ^ m))).filter (fun x : Int => p x.toNat) = ints ((List.range (2 ^ m)).filter p) := by
  unfold ints; rw [List.filter_map]
  congr 1
 rw [← hf]; refine fk (p := fun x : Int => p x.toNat) ?_; intro x hx; obtain ⟨t, ht, rfl⟩ := List.mem_map.1 hx; rw [Int.toNat_natCast]; exact h t (List.mem_range.1 ht)
theorem go {m : Nat} (hm : m ≤ 8) : 0 ≤ ((dm m : Nat) : Int) ∧ ((dm m : Nat) : Int) ≤ 1000 := by
 have := (nv hm).2; omega
theorem lC {l : List Int} {a b : Nat} : ∀ {es : List Nat}, eF l a b es = none → ∀ e ∈ es, fW l a b e = true := by
 intro es
 induction es with
 | nil => intro _ e he; simp at he
 | cons x es ih =>
  intro h e he; simp only [eF] at h; by_cases hx : fW l a b x = true
  ·rw [if_pos hx] at h; rcases List.mem_cons.1 he with rfl | he
   ·exact hx
   ·exact ih h e he
  ·rw [if_neg hx] at h; cases h
theorem lm {l : List Int} {a : Nat} : ∀ {bs : List Nat}, eJ l a bs = none → ∀ b ∈ bs, eF l a b (els (dif a b)) = none := by
 intro bs
 induction bs with
 | nil => intro _ e he; simp at he
 | cons x bs ih =>
  intro h b hb; simp only [eJ] at h; cases hx : eF l a x (els (dif a x)) with
  | none =>
   rw [hx] at h; rcases List.mem_cons.1 hb with rfl | hb
   ·exact hx
   ·exact ih h b hb
  | some e => rw [hx] at h; cases h
theorem lO {l : List Int} {L : List Nat} : ∀ {la : List Nat}, e0 l L la = none → ∀ a ∈ la, eJ l a L = none := by
 intro la
 induction la with
 | nil => intro _ e he; simp at he
 | cons x la ih =>
  intro h b hb; simp only [e0] at h; cases hx : eJ l x L with
  | none =>
   rw [hx] at h; rcases List.mem_cons.1 hb with rfl | hb
   ·exact hx
   ·exact ih h b hb
  | some e => rw [hx] at h; cases h
theorem iU {L : List Nat} {x : Nat} : (ints L).contains (x : Int) = true ↔ x ∈ L := by
 rw [List.contains_iff_mem]; unfold ints; rw [List.mem_map]
 constructor
 ·rintro ⟨y, hy, he⟩; have : y = x := by omega
  subst this; exact hy
 ·intro h; exact ⟨x, h, rfl⟩
theorem dx {n : Int} {l : List Int} (h : matB n l = true) : ∃ (m : Nat) (L : List Nat), n = m ∧ l = ints L ∧ Mat m L ∧ L.Pairwise (· < ·) := by
 have h0 := h; obtain ⟨m, L, rfl, hm, rfl, hL, hL256, hp, hne⟩ := fi h; refine ⟨m, L, rfl, rfl, ⟨hm, hL, hne, ?_⟩, hp⟩; simp only [matB, Bool.and_eq_true] at h0; obtain ⟨hf, _, hff⟩ := h0; unfold jj at hff; rw [if_pos hf, show (ints L).map Int.toNat = L from cu L] at hff; cases hA : e0 (ints L) L L with
 | some x => rw [hA] at hff; simp [told] at hff
 | none =>
  intro a ha b hb e he hae hbe; have h1 := lC (lm (lO hA a ha) b hb) e (eG.2 ⟨he, by rw [dif_bit, hae, hbe]; rfl⟩); unfold fW at h1; obtain ⟨f, hf', hc⟩ := List.any_eq_true.1 h1; obtain ⟨hf8, hfb⟩ := eG.1 hf'; rw [dif_bit] at hfb; simp only [Bool.and_eq_true, Bool.not_eq_true'] at hfb; exact ⟨f, hf8, hfb.1, hfb.2, iU.1 hc⟩
theorem kV {m : Nat} {L : List Nat} (h : Mat m L) (hp : L.Pairwise (· < ·)) : matB (m : Int) (ints L) = true := by
 have hfam : ∀ (L : List Nat) (p : Option Int), (∀ b ∈ L, b < 2 ^ m) → L.Pairwise (· < ·) → (∀ q, p = some q → ∀ b ∈ L, q < (b : Int)) → famG (m : Int) p (ints L) = true := by
  intro L
  induction L with
  | nil =>
   intro p _ _ _; have := h.size; simp only [ints, List.map_nil, famG, Bool.and_eq_true, decide_eq_true_eq]; omega
  | cons x L ih =>
   intro p hs hp hq; have hx := hs x (List.mem_cons_self ..); rw [List.pairwise_cons] at hp; simp only [ints, List.map_cons, famG, Bool.and_eq_true]; refine ⟨?_, ?_, ih (some (x : Int)) (fun b hb => hs b (List.mem_cons_of_mem _ hb)) hp.2 (fun q hq b hb => ?_)⟩
   ·rw [ja]; simp [h.size, hx]
   ·cases p with
    | none => rfl
    | some q => simpa using hq q rfl x (List.mem_cons_self ..)
   ·have := hp.1 b hb
    injection hq with hq
    omega
 have h1 : famB (m : Int) (ints L) = true := hfam L none h.sets hp (fun q hq => by cases hq); simp only [matB, Bool.and_eq_true]; refine ⟨h1, ?_, ?_⟩
 ·have : 0 < L.length := List.length_pos_iff.2 h.some; rw [ints_len]; exact decide_eq_true (by omega)
 ·unfold jj; rw [if_pos h1, show (ints L).map Int.toNat = L from cu L]; have hE : ∀ a ∈ L, ∀ b ∈ L, ∀ es : List Nat, (∀ e ∈ es, e ∈ els (dif a b)) → eF (ints L) a b es = none := by
   intro a ha b hb es
   induction es with
   | nil => intro _; rfl
   | cons e es ih =>
    intro hes; simp only [eF]; have he := eG.1 (hes e (List.mem_cons_self ..)); rw [dif_bit] at he; simp only [Bool.and_eq_true, Bool.not_eq_true'] at he; obtain ⟨f, hf, h1, h2, h3⟩ := h.exch a ha b hb e he.1 he.2.1 he.2.2; have : fW (ints L) a b e = true := by
     unfold fW; rw [List.any_eq_true]; exact ⟨f, eG.2 ⟨hf, by rw [dif_bit, h1, h2]; rfl⟩, iU.2 h3⟩
    rw [if_pos this]; exact ih (fun e' he' => hes e' (List.mem_cons_of_mem _ he'))
  have hB : ∀ a ∈ L, ∀ bs : List Nat, (∀ b ∈ bs, b ∈ L) → eJ (ints L) a bs = none := by
   intro a ha bs
   induction bs with
   | nil => intro _; rfl
   | cons b bs ih =>
    intro hbs; simp only [eJ]; rw [hE a ha b (hbs b (List.mem_cons_self ..)) _ (fun e he => he)]; exact ih (fun b' hb' => hbs b' (List.mem_cons_of_mem _ hb'))
  have hA : ∀ la : List Nat, (∀ a ∈ la, a ∈ L) → e0 (ints L) L la = none := by
   intro la
   induction la with
   | nil => intro _; rfl
   | cons a la ih =>
    intro hla; simp only [e0]; rw [hB a (hla a (List.mem_cons_self ..)) L (fun b hb => hb)]; exact ih (fun a' ha' => hla a' (List.mem_cons_of_mem _ ha'))
  rw [hA L (fun a ha => ha)]
  rfl
def topN (F : List Nat) : List Nat := F.filter (fun s => !F.any (fun t => decide (t ≠ s) && decide (subN s t)))
def lowN (F : List Nat) : List Nat := F.filter (fun s => !F.any (fun t => decide (t ≠ s) && decide (subN t s)))
variable {m : Nat} {I : Nat → Prop} {p : Nat → Bool}
theorem lX (hI : Ind m I) (hp : ∀ s, p s = true ↔ I s) {r : Nat} (hex : ∃ b, I b ∧ pc b = r) (hmax : ∀ s, I s → pc s ≤ r) : topN ((List.range (2 ^ m)).filter p) = (List.range (2 ^ m)).filter (fun s => p s && decide (pc s = r)) := by
 unfold topN; rw [List.filter_filter]
 apply List.filter_congr
 intro s hs; rw [Bool.eq_iff_iff, Bool.and_eq_true, Bool.and_eq_true, Bool.not_eq_true', decide_eq_true_eq]
 constructor
 ·rintro ⟨h1, h2⟩; have hIs := (hp s).1 h2; refine ⟨h2, ?_⟩; refine Classical.byContradiction fun hne => ?_
  obtain ⟨b, hb, hr⟩ := hex; have := hmax s hIs; obtain ⟨e, he, k1, k2, k3⟩ := hI.aug s b hIs hb (by omega); rw [Bool.eq_false_iff] at h1
  apply h1
  rw [List.any_eq_true]; refine ⟨s ||| 2 ^ e, List.mem_filter.2 ⟨List.mem_range.2 (hI.sets _ k3), (hp _).2 k3⟩, ?_⟩; rw [Bool.and_eq_true, decide_eq_true_eq, decide_eq_true_eq]; refine ⟨fun he' => ?_, cn.2 fun i hi => by rw [add_bit, hi]; rfl⟩; have := congrArg (fun x => Nat.testBit x e) he'; simp only [add_bit, k2] at this; simp at this
 ·rintro ⟨h1, h2⟩; refine ⟨?_, h1⟩; rw [Bool.eq_false_iff]; intro hany; obtain ⟨t, ht, hc⟩ := List.any_eq_true.1 hany; obtain ⟨ht1, ht2⟩ := List.mem_filter.1 ht; rw [Bool.and_eq_true, decide_eq_true_eq, decide_eq_true_eq] at hc; have hIt := (hp t).1 ht2; have hIs := (hp s).1 h1; have hle := hmax t hIt; exact hc.1 (fh (hI.lt hIs) (hI.lt hIt) hc.2 (by omega)).symm
theorem kp (hI : Ind m I) (hp : ∀ s, p s = true ↔ I s) {r : Nat} (b : Nat) : b ∈ (List.range (2 ^ m)).filter (fun s => p s && decide (pc s = r)) ↔ I b ∧ pc b = r := by
 rw [List.mem_filter, List.mem_range, Bool.and_eq_true, decide_eq_true_eq, hp]; exact ⟨fun h => h.2, fun h => ⟨hI.sets b h.1, h⟩⟩
theorem k9 (hI : Ind m I) (hp : ∀ s, p s = true ↔ I s) {r : Nat} (hex : ∃ b, I b ∧ pc b = r) : Mat m ((List.range (2 ^ m)).filter (fun s => p s && decide (pc s = r))) := hI.mat (kp hI hp) hex
theorem jy (hI : Ind m I) (hp : ∀ s, p s = true ↔ I s) {r : Nat} (hex : ∃ b, I b ∧ pc b = r) : matB (m : Int) (ints ((List.range (2 ^ m)).filter (fun s => p s && decide (pc s = r)))) = true :=
 kV (k9 hI hp hex) (List.Pairwise.filter _ List.pairwise_lt_range)
end Go.Proofs.YtimkekeaeojpkaaGreat.Q
namespace Go.Proofs.YtimkekeaeojpkaaGreat.Q
open Go Go.RowKit Go.Proofs.YtimkekeaeojpkaaGreat.A Go.Proofs.YtimkekeaeojpkaaGreatW.PrintWords Go.Proofs.YtimkekeaeojpkaaGreatW.PrintLast Go.Proofs.YtimkekeaeojpkaaGreatW.PrintMore Go.Proofs.YtimkekeaeojpkaaGreat.Z
set_option linter.unusedVariables false
set_option linter.unusedSimpArgs false
def insO (x : Int) : List Int → List Int
 | [] => [x]
 | y :: ys => if y < x then y :: insO x ys else (if y = x then y :: ys else x :: y :: ys)
def ek (acc X : List Int) : List Int := X.foldl (fun a x => insO x a) acc
theorem kI (x : Int) (l : List Int) : (insO x l).length ≤ l.length + 1 := by
 induction l with
 | nil => exact Nat.le_refl _
 | cons y l ih =>
  simp only [insO]; by_cases h : y < x
  ·rw [if_pos h, List.length_cons, List.length_cons]; omega
  ·rw [if_neg h]; by_cases h2 : y = x
   ·rw [if_pos h2]; omega
   ·rw [if_neg h2]; simp only [List.length_cons]; omega
theorem insO_mem (x a : Int) (l : List Int) : a ∈ insO x l ↔ a = x ∨ a ∈ l := by
 induction l with
 | nil => simp [insO]
 | cons y l ih =>
  simp only [insO]; by_cases h : y < x
  ·rw [if_pos h, List.mem_cons, ih, List.mem_cons]
   constructor
   ·rintro (h' | h' | h')
    ·exact .inr (.inl h')
    ·exact .inl h'
    ·exact .inr (.inr h')
   ·rintro (h' | h' | h')
    ·exact .inr (.inl h')
    ·exact .inl h'
    ·exact .inr (.inr h')
  ·rw [if_neg h]; by_cases h2 : y = x
   ·rw [if_pos h2]; subst h2
    constructor
    ·exact .inr
    ·rintro (rfl | h')
     ·exact List.mem_cons_self ..
     ·exact h'
   ·rw [if_neg h2, List.mem_cons]
theorem mi (x : Int) (l : List Int) (hl : l.Pairwise (· < ·)) : (insO x l).Pairwise (· < ·) := by
 induction l with
 | nil => simp [insO]
 | cons y l ih =>
  rw [List.pairwise_cons] at hl; simp only [insO]; by_cases h : y < x
  ·rw [if_pos h, List.pairwise_cons]; refine ⟨fun a ha => ?_, ih hl.2⟩; rcases (insO_mem x a l).1 ha with rfl | ha
   ·exact h
   ·exact hl.1 a ha
  ·rw [if_neg h]; by_cases h2 : y = x
   ·rw [if_pos h2, List.pairwise_cons]; exact hl
   ·rw [if_neg h2, List.pairwise_cons, List.pairwise_cons]; refine ⟨fun a ha => ?_, hl⟩; rcases List.mem_cons.1 ha with rfl | ha
    ·omega
    ·have := hl.1 a ha; omega
theorem jC (X : List Int) (a : Int) : ∀ acc : List Int, a ∈ ek acc X ↔ a ∈ X ∨ a ∈ acc := by
 induction X with
 | nil => intro acc; simp [ek]
 | cons x X ih =>
  intro acc; have := ih (insO x acc); unfold ek at this ⊢; rw [List.foldl_cons, this, insO_mem, List.mem_cons]
  constructor
  ·rintro (h | h | h)
   ·exact .inl (.inr h)
   ·exact .inl (.inl h)
   ·exact .inr h
  ·rintro ((h | h) | h)
   ·exact .inr (.inl h)
   ·exact .inl h
   ·exact .inr (.inr h)
theorem iF (X : List Int) : ∀ acc : List Int, acc.Pairwise (· < ·) → (ek acc X).Pairwise (· < ·) := by
 induction X with
 | nil => intro acc h; exact h
 | cons x X ih => intro acc h; exact ih _ (mi x acc h)
theorem fG : ∀ {X Y : List Int}, X.Pairwise (· < ·) → Y.Pairwise (· < ·) → (∀ a, a ∈ X ↔ a ∈ Y) → X = Y := by
 intro X
 induction X with
 | nil =>
  intro Y _ _ h; cases Y with
  | nil => rfl
  | cons y Y => exact absurd ((h y).2 (List.mem_cons_self ..)) (by simp)
 | cons x X ih =>
  intro Y hX hY h; cases Y with
  | nil => exact absurd ((h x).1 (List.mem_cons_self ..)) (by simp)
  | cons y Y =>
   rw [List.pairwise_cons] at hX hY; have hxy : x = y := by
    rcases List.mem_cons.1 ((h x).1 (List.mem_cons_self ..)) with e | hx
    ·exact e
    ·rcases List.mem_cons.1 ((h y).2 (List.mem_cons_self ..)) with e | hy
     ·exact e.symm
     ·have h1 := hX.1 y hy; have h2 := hY.1 x hx; omega
   subst hxy; rw [ih hX.2 hY.2 (fun a => ?_)]
   constructor
   ·intro ha; rcases List.mem_cons.1 ((h a).1 (List.mem_cons_of_mem _ ha)) with e | h'
    ·have := hX.1 a ha; omega
    ·exact h'
   ·intro ha; rcases List.mem_cons.1 ((h a).2 (List.mem_cons_of_mem _ ha)) with e | h'
    ·have := hY.1 a ha; omega
    ·exact h'
theorem eX (X : List Int) (hx : X.length ≤ 8796093022208) : Ev (fun k => ac.f k X) (ek [] X) := by
 have hd := down (P := fun i => ∀ acc : List Int, acc.length ≤ i → Ev (fun k => ac.l0 k X acc (i : Int)) (ek acc (X.drop i))) X.length
  (by
   intro acc _
   apply Ev.step
   ·intro k; rw [ac.l0, if_neg (by omega)]
   ·rw [cH]; exact Ev.now _)
  (by
   intro i hi ih acc ha; have ihs := fun y (hy : y = insO X[i] acc) => ih y (by subst hy; have := kI X[i] acc; omega)
   rw [b0 X i hi]; have h1 := down (P := fun j => Ev (fun k => ac.l1 k X acc (i : Int) (j : Int)) (ek (acc.take j ++ insO X[i] (acc.drop j)) (X.drop (i + 1)))) acc.length
    (by
     rw [List.take_length, cH]; have hr := ih (acc ++ [X[i]]) (by rw [List.length_append, List.length_singleton]; omega)
     apply Ev.step
     ·intro k; rw [ac.l1, if_neg (by omega), bU hi (by omega)]
     ·simp only [Option.bind_some, Int.toNat_natCast, List.drop_length, List.take_length, List.nil_append, List.append_nil, List.length_nil, List.length_append, List.length_singleton]; refine Ev.ifp (by omega) (Ev.ifp (by omega) (Ev.ifp (by omega) (Ev.ifp (by omega) (Ev.ifp (by omega) (Ev.ifp (by omega) (Ev.ifp (by omega) ?_)))))); rw [ch X i hi]; exact hr)
    (by
     intro j hj ihj
     apply Ev.step
     ·intro k; rw [ac.l1, if_pos (by omega), if_pos (by omega), if_pos (by omega), if_pos (by omega), ch acc j hj, ch X i hi, bU hi (by omega), bU hj (by omega)]
     ·rw [b0 acc j hj]; simp only [insO]; by_cases hlt : acc[j] < X[i]
      ·rw [if_pos hlt]; refine Ev.ifp hlt ?_; rw [fO acc j hj, List.append_assoc, List.singleton_append] at ihj; exact ihj
      ·rw [if_neg hlt]; refine Ev.ifn hlt ?_; by_cases heq : acc[j] = X[i]
       ·rw [if_pos heq]; refine Ev.ifp heq ?_; rw [← b0 acc j hj, List.take_append_drop]; exact ih acc (by omega)
       ·rw [if_neg heq]; refine Ev.ifn heq ?_; have hr := ih (acc.take j ++ X[i] :: acc[j] :: acc.drop (j + 1)) (by
         rw [List.length_append, List.length_cons, List.length_cons, List.length_take, List.length_drop]; omega)
        simp only [Option.bind_some, Int.toNat_natCast, List.nil_append, List.length_nil]; refine Ev.ifp (by omega) (Ev.ifp (by rw [List.length_drop]; omega) (Ev.ifp (by rw [List.length_take]; omega) (Ev.ifp (by rw [List.length_append, List.length_singleton, List.length_take, List.length_drop]; omega) ?_))); rw [b0 acc j hj, List.append_assoc, List.singleton_append]; exact hr)
   apply Ev.step
   ·intro k; rw [ac.l0, if_pos (by omega)]
   ·have h0 := h1; rw [List.take_zero, List.drop_zero, List.nil_append] at h0
    show Ev _ (ek acc (X[i] :: X.drop (i + 1)))
    exact h0)
 exact hd [] (Nat.zero_le _)
def ff (n : Int) (l : List Int) : Bool := l.all (dP n)
def dA (n : Int) (l : List Int) : Bool := (decide (0 ≤ n) && decide (n ≤ 8)) && (decide (l.length ≤ 6) && ff n l)
theorem fH (n : Int) (l : List Int) (hl : l.length ≤ 17592186044416) : Ev (fun k => aU.f k n l) (ff n l) := by
 have h := down (P := fun i => Ev (fun k => aU.l0 k n l (i : Int)) (ff n (l.drop i))) l.length
  (by
   apply Ev.step
   ·intro k; simp only [aU.l0, specIsSet_eq, Option.bind_some]; rw [if_neg (by omega)]
   ·rw [cH]; exact Ev.now _)
  (by
   intro i hi ih
   apply Ev.step
   ·intro k; simp only [aU.l0, specIsSet_eq, Option.bind_some]; rw [if_pos (by omega), if_pos (by omega), ch l i hi, bU hi hl]
   ·rw [b0 l i hi]; simp only [ff, List.all_cons]; by_cases hx : dP n l[i] = true
    ·refine Ev.ifp hx ?_; rw [hx, Bool.true_and]; exact ih
    ·refine Ev.ifn hx ?_; rw [Bool.eq_false_iff.2 hx, Bool.false_and]; exact Ev.now _)
 exact h
theorem iu (n : Int) (l : List Int) (hl : l.length ≤ 17592186044416) : Ev (fun k => cN.f k n l) (dA n l) := by
 unfold cN.f dA; refine Ev.cbind (l1In_eq _ _ _) ?_; by_cases h : (decide (0 ≤ n) && decide (n ≤ 8)) = true
 ·refine Ev.ifp h ?_; rw [h, Bool.true_and]; by_cases h6 : (l.length : Int) ≤ 6
  ·refine Ev.ifp h6 ?_; rw [show decide (l.length ≤ 6) = true from by simp; omega, Bool.true_and]; exact Ev.bind (fH n l hl) (Ev.now _)
  ·refine Ev.ifn h6 ?_; rw [show decide (l.length ≤ 6) = false from by simp; omega, Bool.false_and]; exact Ev.now _
 ·refine Ev.ifn h ?_; rw [Bool.eq_false_iff.2 h, Bool.false_and]; exact Ev.now _
theorem kJ (n : Int) (l : List Int) (hl : l.length ≤ 17592186044416) : Ev (fun k => bY.f k n l) (ff n l && (decide (0 ≤ n) && decide (n ≤ 8))) := by
 have h := down (P := fun i => Ev (fun k => bY.l0 k n l (l.length : Int) (i : Int)) (ff n (l.drop i) && (decide (0 ≤ n) && decide (n ≤ 8)))) l.length
  (by
   apply Ev.step
   ·intro k; simp only [bY.l0, implIsSet_eq, isSize_eq, Option.bind_some]; rw [if_neg (by omega)]
   ·rw [cH]; exact Ev.now _)
  (by
   intro i hi ih
   apply Ev.step
   ·intro k; simp only [bY.l0, implIsSet_eq, isSize_eq, Option.bind_some]; rw [if_pos (by omega), if_pos (by omega), if_pos (by omega), ch l i hi, bU hi hl]
   ·rw [b0 l i hi]; simp only [ff, List.all_cons]; by_cases hx : dP n l[i] = true
    ·refine Ev.ifp hx ?_; rw [hx, Bool.true_and]; exact ih
    ·refine Ev.ifn hx ?_; rw [Bool.eq_false_iff.2 hx, Bool.false_and, Bool.false_and]; exact Ev.now _)
 exact h
theorem iv (n : Int) (l : List Int) (hl : l.length ≤ 17592186044416) : Ev (fun k => dl.f k n l) (dA n l) := by
 unfold dl.f dA; refine Ev.bind (kJ n l hl) ?_; by_cases h : (ff n l && (decide (0 ≤ n) && decide (n ≤ 8))) = true
 ·refine Ev.ifp h ?_; simp only [Bool.and_eq_true] at h; rw [h.1, show (decide (0 ≤ n) && decide (n ≤ 8)) = true from by simpa using h.2, Bool.true_and, Bool.and_true]; have : decide ((l.length : Int) ≤ 6) = decide (l.length ≤ 6) := by
   rw [Bool.eq_iff_iff]; simp only [decide_eq_true_eq]; omega
  rw [this]; exact Ev.now _
 ·refine Ev.ifn h ?_; have : ((decide (0 ≤ n) && decide (n ≤ 8)) && (decide (l.length ≤ 6) && ff n l)) = false := by
   rw [Bool.eq_false_iff]; intro hc
   apply h
   simp only [Bool.and_eq_true] at *; exact ⟨hc.2.2, hc.1⟩
  rw [this]; exact Ev.now _
theorem subset_eq (t s : Int) : cQ.f t s = some (dn t && (dn s && decide (subN t.toNat s.toNat))) := by
 unfold cQ.f; rw [isAny_eq, isAny_eq, Option.bind_some, Option.bind_some]; by_cases h1 : dn t = true
 ·rw [if_pos h1, h1, Bool.true_and]; by_cases h2 : dn s = true
  ·rw [if_pos h2, h2, Bool.true_and]; obtain ⟨a, rfl, ha⟩ := g0 h1; obtain ⟨b, rfl, hb⟩ := g0 h2; rw [fj (bR ha) (bR hb), Int.toNat_natCast, Int.toNat_natCast]; have e : (((dif a b : Nat) : Int) == 0) = decide (subN a b) := by
    rw [Bool.eq_iff_iff, beq_iff_eq, decide_eq_true_eq]; have h := @nj a b
    constructor
    ·intro h0; exact h.1 (by omega)
    ·intro h0; have := h.2 h0; omega
   rw [e]
  ·rw [if_neg h2, Bool.eq_false_iff.2 h2, Bool.false_and]
 ·rw [if_neg h1, Bool.eq_false_iff.2 h1, Bool.false_and]
def indB (L : List Nat) (s : Int) : Bool := dn s && indN L s.toNat
theorem iZ (n : Int) (L : List Nat) (s : Int) (hl : L.length ≤ 17592186044416) (hL : ∀ b ∈ L, b < 256) : Ev (fun k => aY.f k n (ints L) s) (indB L s) := by
 have h := down (P := fun i => Ev (fun k => aY.l0 k s (ints L) ((ints L).length : Int) (i : Int)) (dn s && (L.drop i).any (fun b => decide (subN s.toNat b)))) L.length
  (by
   apply Ev.step
   ·intro k; simp only [aY.l0]; rw [if_neg (by rw [ints_len]; omega)]
   ·rw [cH]; simp only [List.any_nil, Bool.and_false]; exact Ev.now _)
  (by
   intro i hi ih; have hb := hL _ (List.getElem_mem hi)
   apply Ev.step
   ·intro k; simp only [aY.l0, subset_eq, Option.bind_some]; rw [if_pos (by rw [ints_len]; omega), if_pos (by omega), if_pos (by rw [ints_len]; omega), dr L i hi, bU hi hl]
   ·rw [b0 L i hi, List.any_cons]; rw [show dn (L[i] : Int) = true from by rw [isAnyB_nat]; simpa using hb, Bool.true_and, Int.toNat_natCast]; by_cases hx : (dn s && decide (subN s.toNat L[i])) = true
    ·refine Ev.ifp hx ?_; simp only [Bool.and_eq_true] at hx; rw [hx.1, hx.2]; exact Ev.now _
    ·refine Ev.ifn hx ?_; have : (dn s && (decide (subN s.toNat L[i]) || (L.drop (i + 1)).any (fun b => decide (subN s.toNat b)))) = (dn s && (L.drop (i + 1)).any (fun b => decide (subN s.toNat b))) := by
      cases h1 : dn s
      ·rfl
      ·rw [h1] at hx; simp only [Bool.true_and] at hx ⊢; rw [Bool.eq_false_iff.2 hx, Bool.false_or]
     rw [this]; exact ih)
 exact h
theorem kD {L : List Nat} {s : Nat} (hs : s < 256) : indB L (s : Int) = indN L s := by
 unfold indB; rw [isAnyB_nat, show decide (s < 256) = true from by simpa using hs, Bool.true_and, Int.toNat_natCast]
theorem iH (l : List Int) (hl : l.length ≤ 17592186044416) : Ev (fun k => b5.f k l) (l.all dn) := by
 have h := down (P := fun i => Ev (fun k => b5.l0 k l (l.length : Int) (i : Int)) ((l.drop i).all dn)) l.length
  (by
   apply Ev.step
   ·intro k; simp only [b5.l0, isAny_eq, Option.bind_some]; rw [if_neg (by omega)]
   ·rw [cH]; exact Ev.now _)
  (by
   intro i hi ih
   apply Ev.step
   ·intro k; simp only [b5.l0, isAny_eq, Option.bind_some]; rw [if_pos (by omega), if_pos (by omega), if_pos (by omega), ch l i hi, bU hi hl]
   ·rw [b0 l i hi, List.all_cons]; by_cases hx : dn l[i] = true
    ·refine Ev.ifp hx ?_; rw [hx, Bool.true_and]; exact ih
    ·refine Ev.ifn hx ?_; rw [Bool.eq_false_iff.2 hx, Bool.false_and]; exact Ev.now _)
 exact h
theorem lG {X : List Int} {D : List Nat} (hD : D.Pairwise (· < ·)) (h : ∀ a, a ∈ X ↔ a ∈ ints D) : gQ X = ints D :=
 fG (fq X).1 (jK hD) (fun a => ((fq X).2 a).trans (h a))
theorem im {F : List Nat} (hp : F.Pairwise (· < ·)) (hl : F.length < 17592186044416) : cb.f (ints F) = some (ints F) := by
 unfold cb.f; rw [if_pos (by rw [ints_len]; exact hl), lG hp (fun a => Iff.rfl)]
theorem fz {X : List Int} {D : List Nat} (hD : D.Pairwise (· < ·)) (h : ∀ a, a ∈ X ↔ a ∈ ints D) : ek [] X = ints D :=
 fG (iF X [] List.Pairwise.nil) (jK hD) (fun a => by rw [jC, h]; simp)
theorem ik (X : List Int) : gQ X = ek [] X :=
 fG (fq X).1 (iF X [] List.Pairwise.nil) (fun a => by rw [(fq X).2 a, jC]; simp)
def cM (t s : Nat) : Bool := decide (t = s) || !decide (subN t s)
theorem gM (F : List Nat) (s : Nat) : F.all (fun t => cM t s) = !F.any (fun t => decide (t ≠ s) && decide (subN t s)) := by
 induction F with
 | nil => rfl
 | cons x F ih =>
  rw [List.all_cons, List.any_cons, ih, Bool.not_or]
  congr 1
  unfold cM; by_cases h : x = s
  ·simp [h]
  ·simp [h]
theorem gE {F : List Nat} (hF : ∀ x ∈ F, x < 256) (hp : F.Pairwise (· < ·)) (hl : F.length ≤ 65536) : Ev (fun k => aV.f k (ints F)) (ints (lowN F)) := by
 have hset : ff 8 (ints F) = true := by
  unfold ff; rw [List.all_eq_true]; intro x hx; obtain ⟨t, ht, rfl⟩ := List.mem_map.1 hx; rw [lL, isAnyB_nat]; exact decide_eq_true (hF t ht)
 have hd := down (P := fun i => ∀ acc : List Nat, acc.length ≤ i → Ev (fun k => aV.l0 k (ints F) (ints acc) (i : Int)) (ek [] (ints (acc ++ (F.drop i).filter (fun s => F.all (fun t => cM t s)))))) F.length
  (by
   intro acc ha
   apply Ev.step
   ·intro k; rw [aV.l0, if_neg (by rw [ints_len]; omega)]
   ·rw [cH, List.filter_nil, List.append_nil]; exact Ev.bind (eX _ (by rw [ints_len]; omega)) (Ev.now _))
  (by
   intro i hi ih acc ha; rw [b0 F i hi, List.filter_cons]; have hs := hF _ (List.getElem_mem hi); have h1 := down (P := fun j => ∀ fine : Bool, Ev (fun k => aV.l1 k (ints F) (ints acc) (i : Int) fine (j : Int)) (ek [] (ints ((if (fine && (F.drop j).all (fun t => cM t F[i])) = true then acc ++ [F[i]] else acc) ++ (F.drop (i + 1)).filter (fun s => F.all (fun t => cM t s)))))) F.length
    (by
     intro fine
     apply Ev.step
     ·intro k; rw [aV.l1, if_neg (by rw [ints_len]; omega)]
     ·rw [cH]; cases fine with
      | true =>
       refine Ev.ifp rfl (Ev.ifp (by omega) (Ev.ifp (by rw [ints_len]; omega) (Ev.ifp (by rw [ints_len]; omega) ?_))); rw [dr F i hi, bU hi (by omega), if_pos (by rfl)]; have := ih (acc ++ [F[i]]) (by rw [List.length_append, List.length_singleton]; omega); rw [show ints acc ++ [(F[i] : Int)] = ints (acc ++ [F[i]]) from by simp [ints]]; exact this
      | false =>
       refine Ev.ifn (by decide) ?_; rw [bU hi (by omega), if_neg (by simp)]; exact ih acc (by omega))
    (by
     intro j hj ihj fine; have ht := hF _ (List.getElem_mem hj)
     apply Ev.step
     ·intro k; rw [aV.l1, if_pos (by rw [ints_len]; omega)]
     ·rw [b0 F j hj, List.all_cons]; cases fine with
      | true =>
       refine Ev.ifp rfl (Ev.ifp (by omega) (Ev.ifp (by omega) (Ev.ifp (by rw [ints_len]; omega) ?_))); rw [dr F i hi, dr F j hj, bU hj (by omega)]; by_cases he : F[j] = F[i]
       ·refine Ev.ifp (by rw [he]) ?_; have := ihj true; rw [show cM F[j] F[i] = true from by unfold cM; simp [he], Bool.true_and]; exact this
       ·refine Ev.ifn (fun h => he (by omega)) ?_; have := ihj (cM F[j] F[i]); rw [Bool.true_and]; have e : ((Go.bits .and .i64 (F[j] : Int) (F[i] : Int)) != (F[j] : Int)) = cM F[j] F[i] := by
         rw [eH (bR ht) (bR hs), Bool.eq_iff_iff, bne_iff_ne]; unfold cM; rw [show decide (F[j] = F[i]) = false from decide_eq_false he, Bool.false_or, Bool.not_eq_true', decide_eq_false_iff_not]; unfold subN
         skip
         constructor
         ·intro h1 h2; exact h1 (by rw [h2])
         ·intro h1 h2; exact h1 (by omega)
        rw [e]; exact this
      | false =>
       refine Ev.ifn (by decide) ?_; have := ihj false; rw [bU hj (by omega)]
       simpa using this)
   have h0 := h1 true; rw [List.drop_zero, Bool.true_and] at h0
   apply Ev.step
   ·intro k; rw [aV.l0, if_pos (by rw [ints_len]; omega)]
   ·by_cases hg : F.all (fun t => cM t F[i]) = true
    ·rw [if_pos hg]; rw [if_pos hg, List.append_assoc, List.singleton_append] at h0; exact h0
    ·rw [if_neg hg]; rw [if_neg hg] at h0; exact h0)
 have h0 := hd [] (Nat.zero_le _); rw [List.drop_zero, List.nil_append] at h0; have e : lowN F = F.filter (fun s => F.all (fun t => cM t s)) := by
  unfold lowN
  apply List.filter_congr
  intro s _; rw [gM]
 rw [← e, fz (D := lowN F) (List.Pairwise.filter _ hp) (fun a => Iff.rfl)] at h0; unfold aV.f; simp only [Option.bind_some]; refine Ev.bind (fH 8 (ints F) (by rw [ints_len]; omega)) ?_; rw [hset]; exact Ev.ifp rfl h0
theorem gn {F : List Nat} (hF : ∀ x ∈ F, x < 256) (hp : F.Pairwise (· < ·)) (hl : F.length ≤ 65536) : Ev (fun k => bn.f k (ints F)) (ints (lowN F)) := by
 unfold bn.f; have hset : (ints F).all dn = true := by
  rw [List.all_eq_true]; intro x hx; obtain ⟨t, ht, rfl⟩ := List.mem_map.1 hx; rw [isAnyB_nat]; exact decide_eq_true (hF t ht)
 refine Ev.bind (iH (ints F) (by rw [ints_len]; omega)) ?_; rw [hset]; refine Ev.ifp rfl ?_; refine Ev.cbind (im hp (by omega)) ?_; have e : (ints F).filter (fun x : Int => !F.any (fun t => decide (t ≠ x.toNat) && decide (subN t x.toNat))) = ints (lowN F) := by
  unfold ints lowN; rw [List.filter_map]
  congr 1
 rw [← e]; refine fk (g := fun _ s => bn.p (ints F) s) (p := fun x : Int => !F.any (fun t => decide (t ≠ x.toNat) && decide (subN t x.toNat))) ?_; intro x hx; obtain ⟨s, hs, rfl⟩ := List.mem_map.1 hx; unfold bn.p; have h := iA (g := fun _ t => bn.c (s : Int) t) (p := fun y : Int => decide (y.toNat ≠ s) && decide (subN y.toNat s)) (l := ints F) (fun y hy => by
  obtain ⟨t, ht, rfl⟩ := List.mem_map.1 hy; unfold bn.c; by_cases he : t = s
  ·rw [if_pos (by rw [he])]; have : (decide ((t : Int).toNat ≠ s) && decide (subN (t : Int).toNat s)) = false := by simp [he]
   rw [this]; exact Ev.now _
  ·rw [if_neg (by omega), subset_eq, isAnyB_nat, isAnyB_nat, decide_eq_true (hF t ht), decide_eq_true (hF s hs), Int.toNat_natCast, Int.toNat_natCast]; have : decide (t ≠ s) = true := decide_eq_true he; rw [this]; exact Ev.now _)
 have e2 : (ints F).any (fun y : Int => decide (y.toNat ≠ s) && decide (subN y.toNat s)) = F.any (fun t => decide (t ≠ (s : Int).toNat) && decide (subN t (s : Int).toNat)) := by
  unfold ints; rw [List.any_map]
  rfl
 rw [e2] at h; exact Ev.bind h (Ev.now _)
theorem kv {e : Nat} (he : e < 8) : IntKind.i64.wrap (2 ^ e) = ((2 ^ e : Nat) : Int) := by
 have h2 : (2 ^ e : Nat) < 9223372036854775808 := by
  have := Nat.pow_lt_pow_right (a := 2) (by decide) (show e < 63 by omega)
  simpa using this
 have h3 : (2 : Int) ^ e = ((2 ^ e : Nat) : Int) := by simp
 rw [h3]; exact eI h2
theorem mT (l : List Int) (hl : l.length ≤ 17592186044416) (a e f : Nat) (ha : a < 256) (he : e < 8) (hf : f < 8) : Ev (fun k => al.c k l (a : Int) (e : Int) (f : Int)) (l.contains ((dif a (2 ^ e) ||| 2 ^ f : Nat) : Int)) := by
 unfold al.c cx.f; refine Ev.ifp (by omega) (Ev.ifp (by omega) ?_); have hp : ∀ x < 8, 2 ^ x < 2 ^ 63 := fun x hx => Nat.pow_lt_pow_right (by decide) (by omega)
 rw [Int.toNat_natCast, Int.toNat_natCast, kv he, kv hf, fj (bR ha) (hp e he), iV (bR (gz ha)) (hp f hf)]; exact Ev.bind (ii l _ hl) (Ev.now _)
theorem mS {s e : Nat} (h : e ∈ els s) : e < 8 := (eG.1 h).1
theorem any_map (p : Int → Bool) (L : List Nat) : (L.map (fun x : Nat => (x : Int))).any p = L.any (fun x => p (x : Int)) := by
 rw [List.any_map]; rfl
theorem kQ (l : List Int) (hl : l.length ≤ 17592186044416) (a b : Nat) (ha : a < 256) (hb : b < 256) : ∀ es : List Nat, (∀ e ∈ es, e < 8) → Ev (fun k => al.l2 k l (a : Int) (b : Int) (es.map (fun x : Nat => (x : Int)))) ((eF l a b es).map (fun x : Nat => (x : Int))) := by
 intro es
 induction es with
 | nil => intro _; exact Ev.now _
 | cons e es ih =>
  intro hm; have he := hm e (List.mem_cons_self ..); simp only [List.map_cons, al.l2]; rw [fj (bR hb) (bR ha)]; refine Ev.bind (fw _) ?_; rw [kG (gz hb)]; refine Ev.bind (a := fW l a b e) ?_ ?_
  ·have h := iA (g := fun k f => al.c k l (a : Int) (e : Int) f) (p := fun f => l.contains ((dif a (2 ^ e) ||| 2 ^ f.toNat : Nat) : Int)) (l := (els (dif b a)).map (fun x : Nat => (x : Int)))
    (fun x hx => by
     obtain ⟨f, hf, rfl⟩ := List.mem_map.1 hx; have := mT l hl a e f ha he (mS hf); rw [Int.toNat_natCast]; exact this)
   rw [any_map] at h; simp only [Int.toNat_natCast] at h; exact h
  ·simp only [eF]; by_cases hx : fW l a b e = true
   ·refine Ev.ifp hx ?_; rw [if_pos hx]; exact ih (fun e' he' => hm e' (List.mem_cons_of_mem _ he'))
   ·refine Ev.ifn hx ?_; rw [if_neg hx]; exact Ev.now _
theorem kO (l : List Int) (hl : l.length ≤ 17592186044416) (a : Nat) (ha : a < 256) : ∀ bs : List Nat, (∀ b ∈ bs, b < 256) → Ev (fun k => al.l1 k l (a : Int) (bs.map (fun x : Nat => (x : Int)))) ((eJ l a bs).map (fun x : Nat × Nat => ((x.1 : Int), (x.2 : Int)))) := by
 intro bs
 induction bs with
 | nil => intro _; exact Ev.now _
 | cons b bs ih =>
  intro hm; have hb := hm b (List.mem_cons_self ..); simp only [List.map_cons, al.l1]; rw [fj (bR ha) (bR hb)]; refine Ev.bind (fw _) ?_; rw [kG (gz ha)]; refine Ev.bind (kQ l hl a b ha hb _ (fun e he => mS he)) ?_; simp only [eJ]; cases eF l a b (els (dif a b)) with
  | none => exact ih (fun b' hb' => hm b' (List.mem_cons_of_mem _ hb'))
  | some e => exact Ev.now _
theorem kn (l : List Int) (L : List Nat) (hlL : l = L.map (fun x : Nat => (x : Int))) (hl : l.length ≤ 17592186044416) (hL : ∀ b ∈ L, b < 256) : ∀ la : List Nat, (∀ a ∈ la, a < 256) → Ev (fun k => al.l0 k l (la.map (fun x : Nat => (x : Int)))) ((e0 l L la).map (fun x : Nat × Nat × Nat => ((x.1 : Int), (x.2.1 : Int), (x.2.2 : Int)))) := by
 intro la
 induction la with
 | nil => intro _; exact Ev.now _
 | cons a la ih =>
  intro hm; have ha := hm a (List.mem_cons_self ..); simp only [List.map_cons, al.l0]; refine Ev.bind (a := (eJ l a L).map (fun x : Nat × Nat => ((x.1 : Int), (x.2 : Int)))) (by
   have := kO l hl a ha L hL; rw [← hlL] at this; exact this) ?_
  simp only [e0]; cases eJ l a L with
  | none => exact ih (fun a' ha' => hm a' (List.mem_cons_of_mem _ ha'))
  | some x => exact Ev.now _
theorem kr (n : Int) (l : List Int) (hl : l.length ≤ 17592186044416) : Ev (fun k => al.f k n l) (jj n l) := by
 unfold al.f jj; refine Ev.bind (iG n l hl) ?_; by_cases hf : famB n l = true
 ·refine Ev.ifp hf ?_; rw [if_pos hf]; obtain ⟨m, L, rfl, hm, hlL, hL, _⟩ := ji hf; have hmap : l.map Int.toNat = L := by rw [hlL, cu]
  have h256 : ∀ b ∈ L, b < 256 := fun b hb => Nat.lt_of_lt_of_le (hL b hb) (bj hm)
  have h := kn l L hlL hl h256 L h256; rw [← hlL] at h; refine Ev.bind h ?_; rw [hmap]; cases e0 l L L with
  | none => exact Ev.now _
  | some x => exact Ev.now _
 ·refine Ev.ifn hf ?_; rw [if_neg hf]; exact Ev.now _
theorem ef (n : Int) (l : List Int) (hl : l.length ≤ 17592186044416) : Ev (fun k => ba.f k n l) (matB n l) := by
 unfold ba.f matB; refine Ev.bind (kr n l hl) (Ev.bind (iG n l hl) ?_); by_cases hf : famB n l = true
 ·refine Ev.ifp hf ?_; rw [hf, Bool.true_and]; by_cases h0 : (l.length : Int) > 0
  ·refine Ev.ifp h0 ?_; rw [show decide ((l.length : Int) > 0) = true from by simpa using h0, Bool.true_and]; exact Ev.now _
  ·refine Ev.ifn h0 ?_; rw [show decide ((l.length : Int) > 0) = false from by simpa using h0, Bool.false_and]; exact Ev.now _
 ·refine Ev.ifn hf ?_; rw [Bool.eq_false_iff.2 hf, Bool.false_and]; exact Ev.now _
def depN (m : Nat) (L : List Nat) : List Nat := (List.range (2 ^ m)).filter (fun s => !indN L s)
def cirN (m : Nat) (L : List Nat) : List Nat := lowN (depN m L)
theorem fQ {m : Nat} {L : List Nat} {s : Nat} (h : s ∈ depN m L) : s < 2 ^ m := List.mem_range.1 (List.mem_filter.1 h).1
theorem iQ {m : Nat} (hm : m ≤ 8) (L : List Nat) : (depN m L).length ≤ 256 := by
 unfold depN; refine Nat.le_trans (List.length_filter_le _ _) ?_; rw [List.length_range]; exact bj hm
theorem jA (m : Nat) (L : List Nat) : (depN m L).Pairwise (· < ·) := List.Pairwise.filter _ List.pairwise_lt_range
theorem fy {m : Nat} {L : List Nat} {s : Nat} (h : s ∈ cirN m L) : s ∈ depN m L := (List.mem_filter.1 h).1
theorem gR {m : Nat} (hm : m ≤ 8) (L : List Nat) : (cirN m L).length ≤ 256 := Nat.le_trans (List.length_filter_le _ _) (iQ hm L)
theorem fB {m : Nat} {L : List Nat} (hM : Mat m L) (hl : L.length ≤ 17592186044416) : Ev (fun k => bq.f k (m : Int) (ints L)) (ints (cirN m L)) := by
 have hm := hM.size; have hL := hM.lt; have hp2 := Nat.two_pow_pos m; have h2m := bj hm; have hd := down (P := fun i => ∀ acc : List Nat, acc.length ≤ i → acc ++ (List.range' i (2 ^ m - i)).filter (fun s => !indN L s) = depN m L → Ev (fun k => bq.l0 k (ints acc) (i : Int) (m : Int) (ints L)) (ints (cirN m L))) (2 ^ m)
  (by
   intro acc _ he; rw [Nat.sub_self, List.range'_zero, List.filter_nil, List.append_nil] at he
   apply Ev.step
   ·intro k; simp only [bq.l0, cV hm, Option.bind_some]; rw [if_neg (by unfold dm; omega), he]
   ·exact Ev.bind (gE (fun x hx => Nat.lt_of_lt_of_le (fQ hx) h2m) (jA m L) (Nat.le_trans (iQ hm L) (by decide))) (Ev.now _))
  (by
   intro i hi ih acc ha he; rw [dZ hi, List.filter_cons] at he
   apply Ev.step
   ·intro k; simp only [bq.l0, cV hm, Option.bind_some]; rw [if_pos (by unfold dm; omega), bU hi (by omega)]
   ·refine Ev.bind (eh _ L i hl hL (by omega)) (Ev.bind (dk i (by omega)) ?_); have hle := iD L i; have hiff := ey (s := i) (by omega) hM.some; by_cases h : indN L i = true
    ·rw [if_neg (by rw [h]; decide)] at he; have := hiff.2 h; exact Ev.ifn (by omega) (ih acc (by omega) he)
    ·rw [if_pos (by rw [Bool.eq_false_iff.2 h]; rfl)] at he; have : rkN L i ≠ pc i := fun e => h (hiff.1 e)
     refine Ev.ifp (by omega) (Ev.ifp (by rw [ints_len]; omega) ?_); rw [show ints acc ++ [(i : Int)] = ints (acc ++ [i]) from by simp [ints]]; exact ih (acc ++ [i]) (by rw [List.length_append, List.length_singleton]; omega) (by rw [List.append_assoc, List.singleton_append]; exact he))
 exact hd [] (Nat.zero_le _) (by rw [Nat.sub_zero, ← List.range_eq_range', List.nil_append]; rfl)
theorem iL {m : Nat} {L : List Nat} (hmat : matB (m : Int) (ints L) = true) (hM : Mat m L) (hl : L.length ≤ 17592186044416) : Ev (fun k => b6.f k (m : Int) (ints L)) (ints (cirN m L)) := by
 have hm := hM.size; have h2m := bj hm; unfold b6.f; refine Ev.bind (ef _ _ (by rw [ints_len]; exact hl)) (Ev.ifp hmat ?_); have hs := gY hm (g := fun k s => b6.c k (m : Int) (ints L) s) (p := fun s => !indN L s) (fun t ht => by
  unfold b6.c; have := iZ (m : Int) L (t : Int) hl hM.lt; rw [kD (by omega)] at this; exact Ev.bind this (Ev.now _))
 refine Ev.bind (Ev.cbind (e5 hm) (Ev.ifp (go hm) hs)) ?_; exact gn (F := depN m L) (fun x hx => Nat.lt_of_lt_of_le (fQ hx) h2m) (jA m L) (Nat.le_trans (iQ hm L) (by decide))
def clN (L : List Nat) (t acc : Nat) : List Nat → Nat
 | [] => acc
 | i :: is => if rkN L (t ||| 2 ^ i) = rkN L t then clN L t (acc ||| 2 ^ i) is else clN L t acc is
theorem clN_bit (L : List Nat) (t j : Nat) (is : List Nat) : ∀ acc : Nat, (clN L t acc is).testBit j = (acc.testBit j || (decide (j ∈ is) && decide (rkN L (t ||| 2 ^ j) = rkN L t))) := by
 induction is with
 | nil => intro acc; simp [clN]
 | cons i is ih =>
  intro acc; simp only [clN]; by_cases h : rkN L (t ||| 2 ^ i) = rkN L t
  ·rw [if_pos h, ih, add_bit]; by_cases hij : i = j
   ·subst hij; simp [h]
   ·rw [show decide (i = j) = false from decide_eq_false hij, Bool.or_false]; have : (j ∈ i :: is) ↔ j ∈ is := by
     rw [List.mem_cons]; exact ⟨fun h' => h'.resolve_left (fun e => hij e.symm), .inr⟩
    rw [show decide (j ∈ i :: is) = decide (j ∈ is) from by rw [decide_eq_decide]; exact this]
  ·rw [if_neg h, ih]; by_cases hij : i = j
   ·subst hij; simp [h]
   ·have : (j ∈ i :: is) ↔ j ∈ is := by
     rw [List.mem_cons]; exact ⟨fun h' => h'.resolve_left (fun e => hij e.symm), .inr⟩
    rw [show decide (j ∈ i :: is) = decide (j ∈ is) from by rw [decide_eq_decide]; exact this]
theorem nf (L : List Nat) (t : Nat) (is : List Nat) : ∀ acc : Nat, acc < 256 → (∀ i ∈ is, i < 8) → clN L t acc is < 256 := by
 induction is with
 | nil => intro acc h _; exact h
 | cons i is ih =>
  intro acc h h8; simp only [clN]; have hi := h8 i (List.mem_cons_self ..); have hr := fun j hj => h8 j (List.mem_cons_of_mem _ hj)
  by_cases hc : rkN L (t ||| 2 ^ i) = rkN L t
  ·rw [if_pos hc]; exact ih _ (Nat.or_lt_two_pow (n := 8) h (Nat.pow_lt_pow_right (by omega) hi)) hr
  ·rw [if_neg hc]; exact ih _ h hr
def fx (m : Nat) (L : List Nat) (t : Nat) : Nat := clN L t 0 (List.range m)
theorem mV {m : Nat} (hm : m ≤ 8) (L : List Nat) (t : Nat) : fx m L t < 256 := nf L t _ 0 (by omega) (fun i hi => by have := List.mem_range.1 hi; omega)
theorem lg {m : Nat} (hm : m ≤ 8) (L : List Nat) {t : Nat} (ht : t < 2 ^ m) : clN L t t (List.range m) = fx m L t := by
 have ht256 := Nat.lt_of_lt_of_le ht (bj hm); have h8 : ∀ i ∈ List.range m, i < 8 := fun i hi => by have := List.mem_range.1 hi; omega
 apply iB (nf L t _ t ht256 h8) (mV hm L t)
 intro j _; unfold fx; rw [clN_bit, clN_bit, Nat.zero_testBit, Bool.false_or]; cases hj : t.testBit j
 ·rw [Bool.false_or]
 ·have hjm : j < m := by
   rcases Nat.lt_or_ge j m with h' | h'
   ·exact h'
   ·have := Nat.testBit_lt_two_pow (Nat.lt_of_lt_of_le ht (Nat.pow_le_pow_right (by omega) h')); rw [hj] at this; cases this
  have e : t ||| 2 ^ j = t := by
   apply Nat.eq_of_testBit_eq
   intro i; rw [add_bit]; by_cases hi : j = i
   ·subst hi; rw [hj]; rfl
   ·simp [hi]
  rw [e]; simp [hjm]
theorem kT {m : Nat} (hm : m ≤ 8) (L : List Nat) (t : Nat) (hl : L.length ≤ 17592186044416) (hL : ∀ b ∈ L, b < 256) (ht : t < 2 ^ m) : Ev (fun k => bO.f k (m : Int) (ints L) (t : Int)) ((fx m L t : Nat) : Int) := by
 have ht256 := Nat.lt_of_lt_of_le ht (bj hm); unfold bO.f; refine Ev.bind (eh _ L t hl hL ht256) ?_; have hd := down (P := fun i => ∀ acc : Nat, acc < 256 → Ev (fun k => bO.l0 k (t : Int) (acc : Int) (rkN L t : Int) (i : Int) (m : Int) (ints L)) ((clN L t acc (List.range' i (m - i)) : Nat) : Int)) m
  (by
   intro acc _
   apply Ev.step
   ·intro k; simp only [bO.l0]; rw [if_neg (by omega)]
   ·rw [Nat.sub_self]; exact Ev.now _)
  (by
   intro i hi ih acc ha; have hp : 2 ^ i < 256 := Nat.pow_lt_pow_right (by omega) (show i < 8 by omega); have ho : t ||| 2 ^ i < 256 := Nat.or_lt_two_pow (n := 8) ht256 hp; have ho2 : acc ||| 2 ^ i < 256 := Nat.or_lt_two_pow (n := 8) ha hp
   apply Ev.step
   ·intro k; simp only [bO.l0]; rw [if_pos (by omega), gD (n := (i : Int)) (by omega) (by omega), if_pos (by omega), e7 (by omega), iV (bR ht256) (bR hp), iV (bR ha) (bR hp), bU hi (by omega)]
   ·rw [dZ hi]; simp only [clN]; refine Ev.bind (eh _ L _ hl hL ho) ?_; by_cases h : rkN L (t ||| 2 ^ i) = rkN L t
    ·rw [if_pos h]; exact Ev.ifp (by omega) (ih _ ho2)
    ·rw [if_neg h]; exact Ev.ifn (by omega) (ih _ ha))
 have h0 := hd t ht256; rw [Nat.sub_zero, ← List.range_eq_range', lg hm L ht] at h0; exact h0
theorem ko {m : Nat} (hm : m ≤ 8) (L : List Nat) (t : Nat) (hl : L.length ≤ 17592186044416) (hL : ∀ b ∈ L, b < 256) (ht256 : t < 256) : Ev (fun k => aZ.f k (m : Int) (ints L) (t : Int)) ((fx m L t : Nat) : Int) := by
 unfold aZ.f; refine Ev.bind (fF _ L t hl hL ht256) ?_; have hd := down (P := fun i => ∀ acc : Nat, acc < 256 → Ev (fun k => aZ.l0 k (t : Int) (rkN L t : Int) (acc : Int) (i : Int) (m : Int) (ints L)) ((clN L t acc (List.range' i (m - i)) : Nat) : Int)) m
  (by
   intro acc _
   apply Ev.step
   ·intro k; simp only [aZ.l0]; rw [if_neg (by omega)]
   ·rw [Nat.sub_self]; exact Ev.now _)
  (by
   intro i hi ih acc ha; have hp : 2 ^ i < 256 := Nat.pow_lt_pow_right (by omega) (show i < 8 by omega); have ho : t ||| 2 ^ i < 256 := Nat.or_lt_two_pow (n := 8) ht256 hp; have ho2 : acc ||| 2 ^ i < 256 := Nat.or_lt_two_pow (n := 8) ha hp
   apply Ev.step
   ·intro k; simp only [aZ.l0]; rw [if_pos (by omega), if_pos (by omega), e7 (by omega), iV (bR ht256) (bR hp), iV (bR ha) (bR hp), bU hi (by omega)]
   ·rw [dZ hi]; simp only [clN]; refine Ev.bind (fF _ L _ hl hL ho) ?_; by_cases h : rkN L (t ||| 2 ^ i) = rkN L t
    ·rw [if_pos h]; exact Ev.ifp (by omega) (ih _ ho2)
    ·rw [if_neg h]; exact Ev.ifn (by omega) (ih _ ha))
 have h0 := hd 0 (by omega); rw [Nat.sub_zero, ← List.range_eq_range'] at h0; exact h0
def fp (m : Nat) (L : List Nat) (t : Nat) : Bool := decide (fx m L t = t)
def flN (m : Nat) (L : List Nat) : List Nat := (List.range (2 ^ m)).filter (fp m L)
theorem mU {m : Nat} {L : List Nat} {t : Nat} (h : t ∈ flN m L) : t < 2 ^ m := List.mem_range.1 (List.mem_filter.1 h).1
theorem jQ {m : Nat} (hm : m ≤ 8) (L : List Nat) : (flN m L).length ≤ 256 := by
 have h1 : (flN m L).length ≤ (List.range (2 ^ m)).length := List.length_filter_le _ _; rw [List.length_range] at h1; have := bj hm; omega
theorem jt {m : Nat} (hm : m ≤ 8) (L : List Nat) (hl : L.length ≤ 17592186044416) (hL : ∀ b ∈ L, b < 256) : Ev (fun k => b9.f k (m : Int) (ints L)) (ints (flN m L)) := by
 have hp2 := Nat.two_pow_pos m; have h2m := bj hm; have hd := down (P := fun i => ∀ acc : List Nat, acc.length ≤ i → Ev (fun k => b9.l0 k (ints acc) (i : Int) (m : Int) (ints L)) (ints (acc ++ (List.range' i (2 ^ m - i)).filter (fp m L)))) (2 ^ m)
  (by
   intro acc _
   apply Ev.step
   ·intro k; simp only [b9.l0, cV hm, Option.bind_some]; rw [if_neg (by unfold dm; omega)]
   ·rw [Nat.sub_self, List.range'_zero, List.filter_nil, List.append_nil]; exact Ev.now _)
  (by
   intro i hi ih acc ha
   apply Ev.step
   ·intro k; simp only [b9.l0, cV hm, Option.bind_some]; rw [if_pos (by unfold dm; omega), bU hi (by omega)]
   ·rw [dZ hi, List.filter_cons]; refine Ev.bind (kT hm L i hl hL hi) ?_; by_cases h : fx m L i = i
    ·rw [if_pos (show fp m L i = true from decide_eq_true h)]; refine Ev.ifp (by omega) (Ev.ifp (by rw [ints_len]; omega) ?_); have := ih (acc ++ [i]) (by rw [List.length_append, List.length_singleton]; omega); rw [List.append_assoc, List.singleton_append] at this; rw [show ints acc ++ [(i : Int)] = ints (acc ++ [i]) from by simp [ints]]; exact this
    ·rw [if_neg (show ¬ fp m L i = true from by unfold fp; simpa using h)]; exact Ev.ifn (by omega) (ih acc (by omega)))
 have h0 := hd [] (by simp); rw [Nat.sub_zero, ← List.range_eq_range', List.nil_append] at h0; exact h0
theorem kg {m : Nat} (hm : m ≤ 8) (L : List Nat) (hl : L.length ≤ 17592186044416) (hL : ∀ b ∈ L, b < 256) : Ev (fun k => cS.f k (m : Int) (ints L)) (ints (flN m L)) := by
 have h2m := bj hm; have hp := Nat.two_pow_pos m; unfold cS.f; refine Ev.cbind (e5 hm) (Ev.ifp (by unfold dm; omega) ?_); have e : eN 0 ((dm m : Nat) : Int) = ints (List.range (2 ^ m)) := by
  unfold eN ints dm; rw [List.range_eq_range', show (((2 ^ m - 1 : Nat) : Int) + 1).toNat - (0 : Int).toNat = 2 ^ m from by omega]
  rfl
 unfold io; rw [e]; have hf : (ints (List.range (2 ^ m))).filter (fun x : Int => fp m L x.toNat) = ints (flN m L) := by
  unfold ints flN; rw [List.filter_map]
  congr 1
 rw [← hf]; refine fk (p := fun x : Int => fp m L x.toNat) ?_; intro x hx; unfold ints at hx; obtain ⟨t, ht, rfl⟩ := List.mem_map.1 hx; have ht2 := List.mem_range.1 ht; unfold cS.c; refine Ev.bind (ko hm L t hl hL (by omega)) ?_; have : (((fx m L t : Nat) : Int) == (t : Int)) = fp m L (t : Int).toNat := by
  rw [Int.toNat_natCast]; unfold fp; rw [Bool.eq_iff_iff, beq_iff_eq, decide_eq_true_eq]; omega
 rw [this]; exact Ev.now _
theorem fS (l : List Int) (a : Int) (hl : l.length ≤ 17592186044416) : Ev (fun k => cx.f k l a) (l.contains a) := by
 unfold cx.f; exact Ev.bind (ii l a hl) (Ev.now _)
def flB (n : Int) (l : List Int) : List Int := if matB n l = true then ints (flN n.toNat (l.map Int.toNat)) else []
theorem gH (n : Int) (l : List Int) (hl : l.length ≤ 17592186044416) : Ev (fun k => dR.f k n l) (flB n l) := by
 unfold dR.f flB; refine Ev.bind (dg n l hl) ?_; by_cases h : matB n l = true
 ·refine Ev.ifp h ?_; rw [if_pos h]; obtain ⟨m, L, rfl, hm, rfl, hL, hL256, _, hne⟩ := fi h; rw [show (ints L).map Int.toNat = L from cu L, Int.toNat_natCast]; rw [ints_len] at hl; exact Ev.bind (jt hm L hl hL256) (Ev.now _)
 ·refine Ev.ifn h ?_; rw [if_neg h]; exact Ev.now _
theorem no (n : Int) (l : List Int) : (flB n l).length ≤ 256 := by
 unfold flB; by_cases h : matB n l = true
 ·rw [if_pos h]; obtain ⟨m, L, rfl, hm, rfl, hL, hL256, _, hne⟩ := fi h; rw [show (ints L).map Int.toNat = L from cu L, Int.toNat_natCast, ints_len]; exact jQ hm L
 ·rw [if_neg h]; exact Nat.zero_le _
def dB (n : Int) (l : List Int) : Int := if matB n l = true then (pc (rd l 0).toNat : Int) else -1
theorem fL {m : Nat} {L : List Nat} (h : matB (m : Int) (ints L) = true) (hM : Mat m L) : ∀ b ∈ L, dB (m : Int) (ints L) = (pc b : Int) := by
 intro b hb; unfold dB; rw [if_pos h]; have h0 : 0 < L.length := List.length_pos_iff.2 hM.some; have e := dr L 0 h0; rw [show ((0 : Nat) : Int) = 0 from rfl] at e; rw [e, Int.toNat_natCast, hM.card (List.getElem_mem h0) hb]
theorem k8 (n : Int) (l : List Int) : -1 ≤ dB n l ∧ dB n l ≤ 8 := by
 unfold dB; by_cases h : matB n l = true
 ·rw [if_pos h]; have := k7 (rd l 0).toNat; omega
 ·rw [if_neg h]; omega
theorem fb (n : Int) (l : List Int) (hl : l.length ≤ 17592186044416) : Ev (fun k => bP.f k n l) (dB n l) := by
 unfold bP.f dB; refine Ev.bind (dg n l hl) ?_; by_cases h : matB n l = true
 ·refine Ev.ifp h ?_; rw [if_pos h]; obtain ⟨m, L, rfl, rfl, hM, _⟩ := dx h; have h0 : 0 < L.length := List.length_pos_iff.2 hM.some; have e := dr L 0 h0; rw [show ((0 : Nat) : Int) = 0 from rfl] at e; refine Ev.ifp (by rw [ints_len]; omega) ?_; rw [e, Int.toNat_natCast]; exact Ev.bind (dk _ (hM.lt _ (List.getElem_mem h0))) (Ev.now _)
 ·refine Ev.ifn h ?_; rw [if_neg h]; exact Ev.now _
theorem e9 (n : Int) (l : List Int) (hl : l.length ≤ 17592186044416) : Ev (fun k => bQ.f k n l) (dB n l) := by
 unfold bQ.f dB; refine Ev.bind (ef n l hl) ?_; by_cases h : matB n l = true
 ·refine Ev.ifp h ?_; rw [if_pos h]; obtain ⟨m, L, rfl, rfl, hM, _⟩ := dx h; have h0 : 0 < L.length := List.length_pos_iff.2 hM.some; have e := dr L 0 h0; rw [show ((0 : Nat) : Int) = 0 from rfl] at e; refine Ev.ifp (by rw [ints_len]; omega) ?_; rw [e, Int.toNat_natCast]; exact Ev.cbind (eo _ (hM.lt _ (List.getElem_mem h0))) (Ev.now _)
 ·refine Ev.ifn h ?_; rw [if_neg h]; exact Ev.now _
def forB (n : Int) (l : List Int) (r : Int) : List Int := (flB n l).filter (fun x => decide ((rkN (l.map Int.toNat) x.toNat : Int) = r))
theorem ld {m : Nat} (hm : m ≤ 8) {L : List Nat} (hl : L.length ≤ 17592186044416) (hL : ∀ b ∈ L, b < 256) {F : List Nat} (hF : ∀ x ∈ F, x < 256) (hfl : F.length ≤ 65536) (r : Int) : Ev (fun k => aH.l0 k r [] (ints F) 0 (m : Int) (ints L)) (ints (F.filter (fun x => decide ((rkN L x : Int) = r)))) := by
 have hd := down (P := fun i => ∀ acc : List Nat, acc.length ≤ i → Ev (fun k => aH.l0 k r (ints acc) (ints F) (i : Int) (m : Int) (ints L)) (ints (acc ++ (F.drop i).filter (fun x => decide ((rkN L x : Int) = r))))) F.length
  (by
   intro acc _
   apply Ev.step
   ·intro k; rw [aH.l0, if_neg (by rw [ints_len]; omega)]
   ·rw [cH, List.filter_nil, List.append_nil]; exact Ev.now _)
  (by
   intro i hi ih acc ha
   apply Ev.step
   ·intro k; rw [aH.l0, if_pos (by rw [ints_len]; omega), if_pos (by omega), dr F i hi, bU hi (by omega)]
   ·rw [b0 F i hi, List.filter_cons]; refine Ev.bind (eh _ L F[i] hl hL (hF _ (List.getElem_mem hi))) ?_; by_cases h : (rkN L F[i] : Int) = r
    ·rw [if_pos (decide_eq_true h)]; refine Ev.ifp h (Ev.ifp (by rw [ints_len]; omega) ?_); rw [show ints acc ++ [(F[i] : Int)] = ints (acc ++ [F[i]]) from by simp [ints]]; have := ih (acc ++ [F[i]]) (by rw [List.length_append, List.length_singleton]; omega)
     rwa [List.append_assoc, List.singleton_append] at this
    ·rw [if_neg (by simpa using h)]; exact Ev.ifn h (ih acc (by omega)))
 have := hd [] (Nat.zero_le _)
 rwa [List.drop_zero, List.nil_append] at this
theorem lq {m : Nat} (hm : m ≤ 8) {L : List Nat} (hl : L.length ≤ 17592186044416) (hL : ∀ b ∈ L, b < 256) {F : List Nat} (hF : ∀ x ∈ F, x < 256) (hfl : F.length ≤ 65536) (r : Int) : Ev (fun k => bi.l0 k r [] (ints F) ((ints F).length : Int) 0 (m : Int) (ints L)) (ints (F.filter (fun x => decide ((rkN L x : Int) = r)))) := by
 have hd := down (P := fun i => ∀ acc : List Nat, acc.length ≤ i → Ev (fun k => bi.l0 k r (ints acc) (ints F) ((ints F).length : Int) (i : Int) (m : Int) (ints L)) (ints (acc ++ (F.drop i).filter (fun x => decide ((rkN L x : Int) = r))))) F.length
  (by
   intro acc _
   apply Ev.step
   ·intro k; rw [bi.l0, if_neg (by rw [ints_len]; omega)]
   ·rw [cH, List.filter_nil, List.append_nil]; exact Ev.now _)
  (by
   intro i hi ih acc ha
   apply Ev.step
   ·intro k; rw [bi.l0, if_pos (by rw [ints_len]; omega), if_pos (by omega), if_pos (by rw [ints_len]; omega), dr F i hi, bU hi (by omega)]
   ·rw [b0 F i hi, List.filter_cons]; refine Ev.bind (fF _ L F[i] hl hL (hF _ (List.getElem_mem hi))) ?_; by_cases h : (rkN L F[i] : Int) = r
    ·rw [if_pos (decide_eq_true h)]; refine Ev.ifp h (Ev.ifp (by rw [ints_len]; omega) ?_); rw [show ints acc ++ [(F[i] : Int)] = ints (acc ++ [F[i]]) from by simp [ints]]; have := ih (acc ++ [F[i]]) (by rw [List.length_append, List.length_singleton]; omega)
     rwa [List.append_assoc, List.singleton_append] at this
    ·rw [if_neg (by simpa using h)]; exact Ev.ifn h (ih acc (by omega)))
 have := hd [] (Nat.zero_le _)
 rwa [List.drop_zero, List.nil_append] at this
theorem fV (n : Int) (l : List Int) (hl : l.length ≤ 17592186044416) : Ev (fun k => dS.f k n l) (flB n l) := by
 unfold dS.f flB; refine Ev.bind (ef n l hl) ?_; by_cases h : matB n l = true
 ·refine Ev.ifp h ?_; rw [if_pos h]; obtain ⟨m, L, rfl, rfl, hM, _⟩ := dx h; rw [Int.toNat_natCast, show (ints L).map Int.toNat = L from cu L]; exact Ev.bind (kg hM.size L (by rw [ints_len] at hl; exact hl) hM.lt) (Ev.now _)
 ·refine Ev.ifn h ?_; rw [if_neg h]; exact Ev.now _
theorem jg {m : Nat} {L : List Nat} (h : matB (m : Int) (ints L) = true) (r : Int) : forB (m : Int) (ints L) r = ints ((flN m L).filter (fun x => decide ((rkN L x : Int) = r))) := by
 unfold forB flB; rw [if_pos h, Int.toNat_natCast, show (ints L).map Int.toNat = L from cu L]; unfold ints; rw [List.filter_map]
 congr 1
theorem lH (n : Int) (l : List Int) (r : Int) (hl : l.length ≤ 17592186044416) : Ev (fun k => aH.f k n l r) (forB n l r) := by
 unfold aH.f; by_cases h : matB n l = true
 ·obtain ⟨m, L, rfl, rfl, hM, _⟩ := dx h; rw [jg h]; have hfl := gH (m : Int) (ints L) hl; unfold flB at hfl; rw [if_pos h, Int.toNat_natCast, show (ints L).map Int.toNat = L from cu L] at hfl; exact Ev.bind hfl (ld hM.size (by rw [ints_len] at hl; exact hl) hM.lt (fun x hx => Nat.lt_of_lt_of_le (mU hx) (bj hM.size)) (Nat.le_trans (jQ hM.size L) (by decide)) r)
 ·have e : flB n l = [] := by unfold flB; rw [if_neg h]
  have hfl := gH n l hl; unfold forB; rw [e] at hfl ⊢; refine Ev.bind hfl ?_
  apply Ev.step
  ·intro k; rw [aH.l0, if_neg (by simp)]
  ·exact Ev.now _
theorem ll (n : Int) (l : List Int) (r : Int) (hl : l.length ≤ 17592186044416) : Ev (fun k => bi.f k n l r) (forB n l r) := by
 unfold bi.f; by_cases h : matB n l = true
 ·obtain ⟨m, L, rfl, rfl, hM, _⟩ := dx h; rw [jg h]; have hfl := fV (m : Int) (ints L) hl; unfold flB at hfl; rw [if_pos h, Int.toNat_natCast, show (ints L).map Int.toNat = L from cu L] at hfl; exact Ev.bind hfl (lq hM.size (by rw [ints_len] at hl; exact hl) hM.lt (fun x hx => Nat.lt_of_lt_of_le (mU hx) (bj hM.size)) (Nat.le_trans (jQ hM.size L) (by decide)) r)
 ·have e : flB n l = [] := by unfold flB; rw [if_neg h]
  have hfl := fV n l hl; unfold forB; rw [e] at hfl ⊢; refine Ev.bind hfl ?_
  apply Ev.step
  ·intro k; rw [bi.l0, if_neg (by simp)]
  ·exact Ev.now _
def hypB (n : Int) (l : List Int) : List Int := forB n l (dB n l - 1)
theorem ky (n : Int) (l : List Int) (r : Int) : (forB n l r).length ≤ 256 := Nat.le_trans (List.length_filter_le _ _) (no n l)
theorem lM (n : Int) (l : List Int) (hl : l.length ≤ 17592186044416) : Ev (fun k => bJ.f k n l) (hypB n l) := by
 unfold bJ.f hypB; refine Ev.bind (dg n l hl) ?_; have hb := k8 n l; by_cases h : matB n l = true
 ·refine Ev.ifp h ?_; obtain ⟨m, L, rfl, rfl, hM, _⟩ := dx h; have h0 : 0 < L.length := List.length_pos_iff.2 hM.some; have e := dr L 0 h0; rw [show ((0 : Nat) : Int) = 0 from rfl] at e; refine Ev.ifp (by rw [ints_len]; omega) ?_; rw [e]; refine Ev.bind (dk _ (hM.lt _ (List.getElem_mem h0))) ?_; rw [← fL h hM _ (List.getElem_mem h0), bD (by omega) (by omega)]; exact Ev.bind (lH _ _ _ hl) (Ev.now _)
 ·refine Ev.ifn h ?_; have e : forB n l (dB n l - 1) = [] := by unfold forB flB; rw [if_neg h]; rfl
  rw [e]; exact Ev.now _
theorem lx (n : Int) (l : List Int) (hl : l.length ≤ 17592186044416) : Ev (fun k => df.f k n l) (hypB n l) := by
 unfold df.f hypB; have hb := k8 n l; refine Ev.bind (e9 n l hl) ?_; rw [bD (by omega) (by omega)]; exact Ev.bind (ll _ _ _ hl) (Ev.now _)
def relB (n : Int) (l : List Int) (s : Int) : Bool := matB n l && ((ints (cirN n.toNat (l.map Int.toNat))).contains s && (hypB n l).contains s)
theorem gA (n : Int) (l : List Int) (s : Int) (hl : l.length ≤ 17592186044416) : Ev (fun k => bV.f k n l s) (relB n l s) := by
 unfold bV.f relB; refine Ev.bind (dg n l hl) ?_; by_cases h : matB n l = true
 ·refine Ev.ifp h ?_; rw [h, Bool.true_and]; have hh := lM n l hl; have hhl : (hypB n l).length ≤ 256 := ky _ _ _; obtain ⟨m, L, rfl, rfl, hM, _⟩ := dx h; rw [Int.toNat_natCast, show (ints L).map Int.toNat = L from cu L]; refine Ev.bind (fB hM (by rw [ints_len] at hl; exact hl)) (Ev.bind (fa _ s (by rw [ints_len]; exact Nat.le_trans (gR hM.size L) (by decide))) ?_); by_cases hc : (ints (cirN m L)).contains s = true
  ·refine Ev.ifp hc ?_; rw [hc, Bool.true_and]; exact Ev.bind hh (Ev.bind (fa _ s (by omega)) (Ev.now _))
  ·refine Ev.ifn hc ?_; rw [Bool.eq_false_iff.2 hc, Bool.false_and]; exact Ev.now _
 ·refine Ev.ifn h ?_; rw [Bool.eq_false_iff.2 h, Bool.false_and]; exact Ev.now _
theorem iJ (n : Int) (l : List Int) (s : Int) (hl : l.length ≤ 17592186044416) : Ev (fun k => ct.f k n l s) (relB n l s) := by
 unfold ct.f relB; refine Ev.bind (ef n l hl) ?_; by_cases h : matB n l = true
 ·refine Ev.ifp h ?_; rw [h, Bool.true_and]; have hh := lx n l hl; have hhl : (hypB n l).length ≤ 256 := ky _ _ _; obtain ⟨m, L, rfl, rfl, hM, _⟩ := dx h; rw [Int.toNat_natCast, show (ints L).map Int.toNat = L from cu L]; refine Ev.bind (iL h hM (by rw [ints_len] at hl; exact hl)) (Ev.bind (fS _ s (by rw [ints_len]; exact Nat.le_trans (gR hM.size L) (by decide))) ?_); by_cases hc : (ints (cirN m L)).contains s = true
  ·refine Ev.ifp hc ?_; rw [hc, Bool.true_and]; exact Ev.bind hh (Ev.bind (fS _ s (by omega)) (Ev.now _))
  ·refine Ev.ifn hc ?_; rw [Bool.eq_false_iff.2 hc, Bool.false_and]; exact Ev.now _
 ·refine Ev.ifn h ?_; rw [Bool.eq_false_iff.2 h, Bool.false_and]; exact Ev.now _
def dy (n : Int) (l : List Int) (s : Int) : Int × List Int × Bool := if relB n l s = true then (n, ek [] (l ++ [s]), true) else (0, [], false)
theorem lv (X : List Int) : (ek [] X).length ≤ X.length := by rw [← ik]; exact gZ X
theorem jc (n : Int) (l : List Int) (s : Int) : (dy n l s).2.1.length ≤ l.length + 1 := by
 unfold dy; by_cases h : relB n l s = true
 ·rw [if_pos h]; have := lv (l ++ [s])
  rwa [List.length_append, List.length_singleton] at this
 ·rw [if_neg h]; exact Nat.zero_le _
theorem j4 (n : Int) (l : List Int) (s : Int) (hl : l.length ≤ 8796093022207) : Ev (fun k => cI.f k n l s) (dy n l s) := by
 unfold cI.f dy; refine Ev.bind (gA n l s (by omega)) ?_; by_cases h : relB n l s = true
 ·refine Ev.ifp h ?_; rw [if_pos h]; simp only [Option.bind_some, List.nil_append, List.length_nil, List.length_singleton]; exact Ev.ifp (by omega) (Ev.ifp (by omega) (Ev.bind (eX _ (by rw [List.length_append, List.length_singleton]; omega)) (Ev.now _)))
 ·refine Ev.ifn h ?_; rw [if_neg h]; exact Ev.now _
theorem jV (n : Int) (l : List Int) (s : Int) (hl : l.length ≤ 8796093022207) : Ev (fun k => cL.f k n l s) (dy n l s) := by
 unfold cL.f dy; refine Ev.bind (iJ n l s (by omega)) ?_; by_cases h : relB n l s = true
 ·refine Ev.ifp h ?_; rw [if_pos h]; simp only [Option.bind_some, List.nil_append, List.length_nil, List.length_singleton]; refine Ev.ifp (by omega) (Ev.ifp (by omega) (Ev.cbind (a := ek [] (l ++ [s])) ?_ (Ev.now _))); unfold cb.f; rw [if_pos (by rw [List.length_append, List.length_singleton]; omega), ik]
 ·refine Ev.ifn h ?_; rw [if_neg h]; exact Ev.now _
def trN (m : Nat) (L : List Nat) (r : Nat) : List Nat := (List.range (2 ^ m)).filter (fun s => decide (pc s = r) && indN L s)
def dT (n : Int) (l : List Int) (s : Int) : Int × List Int × Bool := if matB n l = true ∧ 0 ≤ s ∧ s ≤ dB n l then (n, ints (trN n.toNat (l.map Int.toNat) s.toNat), true) else (0, [], false)
theorem nC {m : Nat} (hm : m ≤ 8) (L : List Nat) (r : Nat) : (trN m L r).length ≤ 256 := by
 have h1 := List.length_filter_le (fun s => decide (pc s = r) && indN L s) (List.range (2 ^ m)); rw [List.length_range] at h1; exact Nat.le_trans h1 (bj hm)
theorem jx (n : Int) (l : List Int) (s : Int) : (dT n l s).2.1.length ≤ 256 := by
 unfold dT; by_cases h : matB n l = true ∧ 0 ≤ s ∧ s ≤ dB n l
 ·rw [if_pos h]; obtain ⟨m, L, rfl, hm, rfl, _⟩ := fi h.1; simp only [ints_len]; rw [Int.toNat_natCast]; exact nC hm _ _
 ·rw [if_neg h]; exact Nat.zero_le _
theorem iP (n : Int) (l : List Int) (s : Int) : (dT n l s).2.1.length ≤ l.length + 256 := Nat.le_trans (jx n l s) (by omega)
theorem jU (n : Int) (l : List Int) (s : Int) (hl : l.length ≤ 17592186044416) : Ev (fun k => bL.f k n l s) (dT n l s) := by
 unfold bL.f dT; refine Ev.bind (fb n l hl) (Ev.cbind (l1In_eq _ _ _) ?_); by_cases h : matB n l = true ∧ 0 ≤ s ∧ s ≤ dB n l
 rotate_left
 ·rw [if_neg h]; refine Ev.ifn ?_ (Ev.now _); rw [Bool.and_eq_true, decide_eq_true_eq, decide_eq_true_eq]; rintro ⟨h1, h2⟩
  apply h
  refine ⟨?_, h1, h2⟩; refine Classical.byContradiction fun hc => ?_
  unfold dB at h2; rw [if_neg hc] at h2; omega
 rw [if_pos h]; refine Ev.ifp (by rw [Bool.and_eq_true, decide_eq_true_eq, decide_eq_true_eq]; exact h.2) ?_; obtain ⟨m, L, rfl, hm, rfl, _, hL, _, hne⟩ := fi h.1; obtain ⟨r, rfl⟩ := Int.eq_ofNat_of_zero_le h.2.1; rw [show (ints L).map Int.toNat = L from cu L, Int.toNat_natCast, Int.toNat_natCast]; rw [ints_len] at hl; have h2m := bj hm; have hp2 := Nat.two_pow_pos m; have hd := down (P := fun i => ∀ acc : List Nat, acc.length ≤ i → acc ++ (List.range' i (2 ^ m - i)).filter (fun s => decide (pc s = r) && indN L s) = trN m L r → Ev (fun k => bL.l0 k (r : Int) (i : Int) (m : Int) (ints L) (m : Int) (ints acc)) ((m : Int), ints (trN m L r), true)) (2 ^ m)
  (by
   intro acc _ he; rw [Nat.sub_self, List.range'_zero, List.filter_nil, List.append_nil] at he
   apply Ev.step
   ·intro k; simp only [bL.l0, cV hm, Option.bind_some]; rw [if_neg (by unfold dm; omega), he]
   ·exact Ev.now _)
  (by
   intro i hi ih acc ha he; rw [dZ hi, List.filter_cons] at he; have h256 : i < 256 := by omega
   apply Ev.step
   ·intro k; simp only [bL.l0, cV hm, Option.bind_some]; rw [if_pos (by unfold dm; omega), bU hi (by omega)]
   ·refine Ev.bind (dk i h256) ?_; have hk := ey (L := L) h256 hne; by_cases hc : pc i = r
    ·refine Ev.ifp (by omega) (Ev.bind (eh _ L i hl hL h256) ?_); by_cases hp : indN L i = true
     ·rw [if_pos (by rw [decide_eq_true hc, hp]; rfl)] at he; have := hk.2 hp; refine Ev.ifp (show ((rkN L i : Nat) : Int) = (r : Int) by omega) (Ev.ifp (by rw [ints_len]; omega) ?_); rw [show ints acc ++ [(i : Int)] = ints (acc ++ [i]) from by simp [ints]]; exact ih (acc ++ [i]) (by rw [List.length_append, List.length_singleton]; omega) (by rw [List.append_assoc, List.singleton_append]; exact he)
     ·rw [if_neg (by rw [Bool.eq_false_iff.2 hp]; simp)] at he; exact Ev.ifn (fun hx => hp (hk.1 (by omega))) (ih acc (by omega) he)
    ·rw [if_neg (by rw [decide_eq_false hc]; simp)] at he; exact Ev.ifn (by omega) (ih acc (by omega) he))
 exact hd [] (Nat.zero_le _) (by rw [Nat.sub_zero, ← List.range_eq_range', List.nil_append]; rfl)
theorem jZ (n : Int) (l : List Int) (s : Int) (hl : l.length ≤ 17592186044416) : Ev (fun k => cj.f k n l s) (dT n l s) := by
 unfold cj.f dT; refine Ev.bind (ef n l hl) ?_; by_cases h : matB n l = true
 rotate_left
 ·rw [if_neg (fun hc => h hc.1)]; exact Ev.ifn h (Ev.now _)
 refine Ev.ifp h ?_; by_cases h0 : s < 0
 ·rw [if_neg (fun hc => by omega)]; exact Ev.ifp h0 (Ev.now _)
 refine Ev.ifn h0 (Ev.bind (e9 n l hl) ?_); by_cases h1 : s > dB n l
 ·rw [if_neg (fun hc => by omega)]; exact Ev.ifp h1 (Ev.now _)
 refine Ev.ifn h1 ?_; rw [if_pos ⟨h, by omega, by omega⟩]; obtain ⟨m, L, rfl, hm, rfl, _, hL, _, hne⟩ := fi h; obtain ⟨r, rfl⟩ := Int.eq_ofNat_of_zero_le (show 0 ≤ s by omega); rw [show (ints L).map Int.toNat = L from cu L, Int.toNat_natCast, Int.toNat_natCast]; rw [ints_len] at hl; have h2m := bj hm; have hp2 := Nat.two_pow_pos m; have hset := gY hm (g := fun k s => cj.c k (m : Int) (ints L) (r : Int) s) (p := fun s => decide (pc s = r) && indN L s) (fun t ht => by
  have h256 : t < 256 := by omega
  unfold cj.c; rw [eo t h256]; refine Ev.cbind rfl ?_; by_cases hc : pc t = r
  ·rw [decide_eq_true hc, Bool.true_and, ← kD h256]; exact Ev.ifp (by omega) (iZ _ L _ hl hL)
  ·rw [decide_eq_false hc, Bool.false_and]; exact Ev.ifn (by omega) (Ev.now _))
 exact Ev.cbind (e5 hm) (Ev.ifp (go hm) (Ev.bind hset (Ev.now _)))
def cR (t s : Nat) : Bool := decide (t = s) || !decide (subN s t)
theorem gS (F : List Nat) (s : Nat) : F.all (fun t => cR t s) = !F.any (fun t => decide (t ≠ s) && decide (subN s t)) := by
 induction F with
 | nil => rfl
 | cons x F ih =>
  rw [List.all_cons, List.any_cons, ih, Bool.not_or]
  congr 1
  unfold cR; by_cases h : x = s
  ·simp [h]
  ·simp [h]
theorem gj {F : List Nat} (hF : ∀ x ∈ F, x < 256) (hp : F.Pairwise (· < ·)) (hl : F.length ≤ 65536) : Ev (fun k => aE.f k (ints F)) (ints (topN F)) := by
 have hset : ff 8 (ints F) = true := by
  unfold ff; rw [List.all_eq_true]; intro x hx; obtain ⟨t, ht, rfl⟩ := List.mem_map.1 hx; rw [lL, isAnyB_nat]; exact decide_eq_true (hF t ht)
 have hd := down (P := fun i => ∀ acc : List Nat, acc.length ≤ i → Ev (fun k => aE.l0 k (ints F) (ints acc) (i : Int)) (ek [] (ints (acc ++ (F.drop i).filter (fun s => F.all (fun t => cR t s)))))) F.length
  (by
   intro acc ha
   apply Ev.step
   ·intro k; rw [aE.l0, if_neg (by rw [ints_len]; omega)]
   ·rw [cH, List.filter_nil, List.append_nil]; exact Ev.bind (eX _ (by rw [ints_len]; omega)) (Ev.now _))
  (by
   intro i hi ih acc ha; rw [b0 F i hi, List.filter_cons]; have hs := hF _ (List.getElem_mem hi); have h1 := down (P := fun j => ∀ fine : Bool, Ev (fun k => aE.l1 k (ints F) (ints acc) (i : Int) fine (j : Int)) (ek [] (ints ((if (fine && (F.drop j).all (fun t => cR t F[i])) = true then acc ++ [F[i]] else acc) ++ (F.drop (i + 1)).filter (fun s => F.all (fun t => cR t s)))))) F.length
    (by
     intro fine
     apply Ev.step
     ·intro k; rw [aE.l1, if_neg (by rw [ints_len]; omega)]
     ·rw [cH]; cases fine with
      | true =>
       refine Ev.ifp rfl (Ev.ifp (by omega) (Ev.ifp (by rw [ints_len]; omega) (Ev.ifp (by rw [ints_len]; omega) ?_))); rw [dr F i hi, bU hi (by omega), if_pos (by rfl)]; have := ih (acc ++ [F[i]]) (by rw [List.length_append, List.length_singleton]; omega); rw [show ints acc ++ [(F[i] : Int)] = ints (acc ++ [F[i]]) from by simp [ints]]; exact this
      | false =>
       refine Ev.ifn (by decide) ?_; rw [bU hi (by omega), if_neg (by simp)]; exact ih acc (by omega))
    (by
     intro j hj ihj fine; have ht := hF _ (List.getElem_mem hj)
     apply Ev.step
     ·intro k; rw [aE.l1, if_pos (by rw [ints_len]; omega)]
     ·rw [b0 F j hj, List.all_cons]; cases fine with
      | true =>
       refine Ev.ifp rfl (Ev.ifp (by omega) (Ev.ifp (by omega) (Ev.ifp (by rw [ints_len]; omega) ?_))); rw [dr F i hi, dr F j hj, bU hj (by omega)]; by_cases he : F[j] = F[i]
       ·refine Ev.ifp (by rw [he]) ?_; have := ihj true; rw [show cR F[j] F[i] = true from by unfold cR; simp [he], Bool.true_and]; exact this
       ·refine Ev.ifn (fun h => he (by omega)) ?_; have := ihj (cR F[j] F[i]); rw [Bool.true_and]; have e : ((Go.bits .and .i64 (F[j] : Int) (F[i] : Int)) != (F[i] : Int)) = cR F[j] F[i] := by
         rw [eH (bR ht) (bR hs), Bool.eq_iff_iff, bne_iff_ne]; unfold cR; rw [show decide (F[j] = F[i]) = false from decide_eq_false he, Bool.false_or, Bool.not_eq_true', decide_eq_false_iff_not]; unfold subN; rw [Nat.and_comm]
         constructor
         ·intro h1 h2; exact h1 (by rw [h2])
         ·intro h1 h2; exact h1 (by omega)
        rw [e]; exact this
      | false =>
       refine Ev.ifn (by decide) ?_; have := ihj false; rw [bU hj (by omega)]
       simpa using this)
   have h0 := h1 true; rw [List.drop_zero, Bool.true_and] at h0
   apply Ev.step
   ·intro k; rw [aE.l0, if_pos (by rw [ints_len]; omega)]
   ·by_cases hg : F.all (fun t => cR t F[i]) = true
    ·rw [if_pos hg]; rw [if_pos hg, List.append_assoc, List.singleton_append] at h0; exact h0
    ·rw [if_neg hg]; rw [if_neg hg] at h0; exact h0)
 have h0 := hd [] (Nat.zero_le _); rw [List.drop_zero, List.nil_append] at h0; have e : topN F = F.filter (fun s => F.all (fun t => cR t s)) := by
  unfold topN
  apply List.filter_congr
  intro s _; rw [gS]
 rw [← e, fz (D := topN F) (List.Pairwise.filter _ hp) (fun a => Iff.rfl)] at h0; unfold aE.f; simp only [Option.bind_some]; refine Ev.bind (fH 8 (ints F) (by rw [ints_len]; omega)) ?_; rw [hset]; exact Ev.ifp rfl h0
theorem fZ {F : List Nat} (hF : ∀ x ∈ F, x < 256) (hp : F.Pairwise (· < ·)) (hl : F.length ≤ 65536) : Ev (fun k => bp.f k (ints F)) (ints (topN F)) := by
 unfold bp.f; have hset : (ints F).all dn = true := by
  rw [List.all_eq_true]; intro x hx; obtain ⟨t, ht, rfl⟩ := List.mem_map.1 hx; rw [isAnyB_nat]; exact decide_eq_true (hF t ht)
 refine Ev.bind (iH (ints F) (by rw [ints_len]; omega)) ?_; rw [hset]; refine Ev.ifp rfl ?_; refine Ev.cbind (im hp (by omega)) ?_; have e : (ints F).filter (fun x : Int => !F.any (fun t => decide (t ≠ x.toNat) && decide (subN x.toNat t))) = ints (topN F) := by
  unfold ints topN; rw [List.filter_map]
  congr 1
 rw [← e]; refine fk (g := fun _ s => bp.p (ints F) s) (p := fun x : Int => !F.any (fun t => decide (t ≠ x.toNat) && decide (subN x.toNat t))) ?_; intro x hx; obtain ⟨s, hs, rfl⟩ := List.mem_map.1 hx; unfold bp.p; have h := iA (g := fun _ t => bp.c (s : Int) t) (p := fun y : Int => decide (y.toNat ≠ s) && decide (subN s y.toNat)) (l := ints F) (fun y hy => by
  obtain ⟨t, ht, rfl⟩ := List.mem_map.1 hy; unfold bp.c; by_cases he : t = s
  ·rw [if_pos (by rw [he])]; have : (decide ((t : Int).toNat ≠ s) && decide (subN s (t : Int).toNat)) = false := by simp [he]
   rw [this]; exact Ev.now _
  ·rw [if_neg (by omega), subset_eq, isAnyB_nat, isAnyB_nat, decide_eq_true (hF t ht), decide_eq_true (hF s hs), Int.toNat_natCast, Int.toNat_natCast]; have : decide (t ≠ s) = true := decide_eq_true he; rw [this]; exact Ev.now _)
 have e2 : (ints F).any (fun y : Int => decide (y.toNat ≠ s) && decide (subN s y.toNat)) = F.any (fun t => decide (t ≠ (s : Int).toNat) && decide (subN (s : Int).toNat t)) := by
  unfold ints; rw [List.any_map]
  rfl
 rw [e2] at h; exact Ev.bind h (Ev.now _)
variable {m : Nat} {I : Nat → Prop} {p : Nat → Bool}
def rkI (m : Nat) (p : Nat → Bool) : Nat := maxN 0 (((List.range (2 ^ m)).filter p).map pc)
def bsI (m : Nat) (p : Nat → Bool) : List Nat := (List.range (2 ^ m)).filter (fun s => p s && decide (pc s = rkI m p))
theorem g7 (hI : Ind m I) (hp : ∀ s, p s = true ↔ I s) : (∃ b, I b ∧ pc b = rkI m p) ∧ (∀ s, I s → pc s ≤ rkI m p) := by
 obtain ⟨r, ⟨b, hb, hr⟩, hmax⟩ := hI.max; have hle : ∀ s, I s → pc s ≤ rkI m p := fun s hs => i9 _ 0 _ (List.mem_map.2 ⟨s, List.mem_filter.2 ⟨List.mem_range.2 (hI.sets s hs), (hp s).2 hs⟩, rfl⟩)
 have hge : rkI m p ≤ r := by
  apply mh (Nat.zero_le _)
  intro x hx; obtain ⟨s, hs, rfl⟩ := List.mem_map.1 hx; exact hmax s ((hp s).1 (List.mem_filter.1 hs).2)
 have := hle b hb; exact ⟨⟨b, hb, by omega⟩, hle⟩
theorem jR (hm : m ≤ 8) (q : Nat → Bool) : ((List.range (2 ^ m)).filter q).length ≤ 256 := by
 have h1 := List.length_filter_le q (List.range (2 ^ m)); rw [List.length_range] at h1; exact Nat.le_trans h1 (bj hm)
theorem mc (hm : m ≤ 8) (p : Nat → Bool) : (bsI m p).length ≤ 256 := jR hm _
theorem mZ (hm : m ≤ 8) (q : Nat → Bool) : ∀ x ∈ (List.range (2 ^ m)).filter q, x < 256 := fun x hx => by
 have := List.mem_range.1 (List.mem_filter.1 hx).1; have := bj hm; omega
theorem kP (hI : Ind m I) (hp : ∀ s, p s = true ↔ I s) : matB (m : Int) (ints (bsI m p)) = true := jy hI hp (g7 hI hp).1
theorem iR (hI : Ind m I) (hp : ∀ s, p s = true ↔ I s) : Ev (fun k => b7.f k (m : Int) (ints ((List.range (2 ^ m)).filter p))) ((m : Int), ints (bsI m p), true) := by
 obtain ⟨hex, hmax⟩ := g7 hI hp; have htop := lX hI hp hex hmax; have hmat := kP hI hp; unfold b7.f; have hmx := fZ (F := (List.range (2 ^ m)).filter p) (mZ hI.size p) (List.Pairwise.filter _ List.pairwise_lt_range) (Nat.le_trans (jR hI.size p) (by decide)); rw [htop] at hmx; have hb : (ints (bsI m p)).length ≤ 17592186044416 := by
  rw [ints_len]; exact Nat.le_trans (mc hI.size p) (by decide)
 exact Ev.bind hmx (Ev.bind (ef _ _ hb) (Ev.ifp hmat (Ev.now _)))
theorem jq (hI : Ind m I) (hp : ∀ s, p s = true ↔ I s) : Ev (fun k => aE.f k (ints ((List.range (2 ^ m)).filter p))) (ints (bsI m p)) := by
 obtain ⟨hex, hmax⟩ := g7 hI hp; have htop := lX hI hp hex hmax; have hmx := gj (F := (List.range (2 ^ m)).filter p) (mZ hI.size p) (List.Pairwise.filter _ List.pairwise_lt_range) (Nat.le_trans (jR hI.size p) (by decide)); rw [htop] at hmx; exact hmx
end Go.Proofs.YtimkekeaeojpkaaGreat.Q
namespace Go.Proofs.YtimkekeaeojpkaaGreat.Q
open Go Go.RowKit Go.Proofs.YtimkekeaeojpkaaGreatW.PrintWords Go.Proofs.YtimkekeaeojpkaaGreatW.PrintLast Go.Proofs.YtimkekeaeojpkaaGreatW.PrintMore Go.Proofs.YtimkekeaeojpkaaGreat.Z
set_option linter.unusedVariables false
set_option linter.unusedSimpArgs false
def TP : List Nat → Nat → Prop
 | [], s => s = 0
 | x :: S, s => Uni (TP S) (One x) s
theorem nA {m : Nat} (hm : m ≤ 8) : Ind m (fun s => s = 0) := by
 refine ⟨hm, ?_, rfl, ?_, ?_⟩
 ·rintro s rfl; exact Nat.two_pow_pos _
 ·rintro s t rfl h; have := gN h; omega
 ·rintro a b rfl rfl h; omega
theorem Ind.trans {m : Nat} (hm : m ≤ 8) : ∀ S : List Nat, (∀ x ∈ S, x < 2 ^ m) → Ind m (TP S) := by
 intro S
 induction S with
 | nil => intro _; exact nA hm
 | cons x S ih => intro h; exact (ih (fun y hy => h y (List.mem_cons_of_mem _ hy))).union (Ind.one hm (h x (List.mem_cons_self ..)))
theorem One.zero {s : Nat} : One 0 s ↔ s = 0 := by
 constructor
 ·rintro (h | ⟨e, _, h, _⟩)
  ·exact h
  ·rw [Nat.zero_testBit] at h; cases h
 ·intro h; exact .inl h
end Go.Proofs.YtimkekeaeojpkaaGreat.Q
namespace Go.Proofs.YtimkekeaeojpkaaGreat.Q
open Go Go.RowKit Go.Proofs.YtimkekeaeojpkaaGreat.A Go.Proofs.YtimkekeaeojpkaaGreatW.PrintWords Go.Proofs.YtimkekeaeojpkaaGreatW.PrintLast Go.Proofs.YtimkekeaeojpkaaGreatW.PrintMore Go.Proofs.YtimkekeaeojpkaaGreat.Z
set_option linter.unusedVariables false
set_option linter.unusedSimpArgs false
theorem eA {n : Int} {l : List Int} (h : dA n l = true) : ∃ (m : Nat) (S : List Nat), n = m ∧ m ≤ 8 ∧ l = ints S ∧ S.length ≤ 6 ∧ (∀ x ∈ S, x < 2 ^ m) := by
 have h2 := h; simp only [dA, Bool.and_eq_true, decide_eq_true_eq] at h2; obtain ⟨⟨h0, h8⟩, h6, hs⟩ := h2; obtain ⟨m, rfl⟩ := Int.eq_ofNat_of_zero_le h0; have hall : ∀ x ∈ l, ∃ t : Nat, x = t ∧ t < 2 ^ m := fun x hx => by
  have := List.all_eq_true.1 hs x hx; obtain ⟨m', t, hm', rfl, _, ht, _⟩ := g4 this; have : m = m' := by omega
  subst this; exact ⟨t, rfl, ht⟩
 refine ⟨m, l.map Int.toNat, rfl, by omega, ?_, by rw [List.length_map]; exact h6, ?_⟩
 ·unfold ints; rw [List.map_map]
  conv => lhs; rw [← List.map_id l]
  apply List.map_congr_left
  intro x hx; obtain ⟨t, rfl, _⟩ := hall x hx
  rfl
 ·intro x hx; obtain ⟨y, hy, rfl⟩ := List.mem_map.1 hx; obtain ⟨t, rfl, ht⟩ := hall y hy; rw [Int.toNat_natCast]; exact ht
end Go.Proofs.YtimkekeaeojpkaaGreat.Q
