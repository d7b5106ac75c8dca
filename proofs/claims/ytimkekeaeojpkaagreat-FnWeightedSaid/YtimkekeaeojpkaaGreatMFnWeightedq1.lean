/- The pure side of the law FnWeighted: what the Lean functions of the print compute, and that the law holds of them. Conditions: those in each lemma. -/
import Derived.Test.YtimkekeaeojpkaaGreatMFnWeighted1
import Derived.Test.YtimkekeaeojpkaaGreatMFnWeighted2
import Derived.Test.YtimkekeaeojpkaaGreatMFnWeighted3
import Derived.Test.YtimkekeaeojpkaaGreatMFnWeighted4
import Derived.Test.YtimkekeaeojpkaaGreatMFnWeighted5
import Derived.Test.YtimkekeaeojpkaaGreatMFnWeighted6
import Derived.Test.YtimkekeaeojpkaaGreatMFnWeightedq0
namespace Go.Proofs.YtimkekeaeojpkaaGreat.Q
open Go Go.RowKit Go.Proofs.YtimkekeaeojpkaaGreat.A Go.Proofs.YtimkekeaeojpkaaGreatW.PrintWords Go.Proofs.YtimkekeaeojpkaaGreatW.PrintLast Go.Proofs.YtimkekeaeojpkaaGreatW.PrintMore Go.Proofs.YtimkekeaeojpkaaGreat.Z
set_option linter.unusedVariables false
set_option linter.unusedSimpArgs false
theorem l1In_eq (a b c : Int) : bA.f a b c = some (decide (b ≤ a) && decide (a ≤ c)) := by
 unfold bA.f; by_cases h : a ≥ b
 ·rw [if_pos h]; simp [h]
 ·rw [if_neg h]; simp only [ge_iff_le] at h; simp [h]
theorem isSize_eq (a : Int) : cC.f a = some (decide (0 ≤ a) && decide (a ≤ 8)) := by
 unfold cC.f; by_cases h : a ≥ 0
 ·rw [if_pos h]; simp [h]
 ·rw [if_neg h]; simp only [ge_iff_le] at h; simp [h]
theorem specIsSet_eq (n s : Int) : a7.f n s = some (dJ n s) := by
 unfold a7.f; rw [l1In_eq, Option.bind_some]; unfold dJ; by_cases h : (decide (0 ≤ n) && decide (n ≤ 8)) = true
 ·rw [if_pos h, if_pos (di _), l1In_eq, Option.bind_some, h, Bool.true_and]; simp only [Bool.and_eq_true, decide_eq_true_eq] at h; obtain ⟨m, rfl⟩ := Int.eq_ofNat_of_zero_le h.1; have h8 : m ≤ 8 := by omega
  rw [fm (by omega) (by omega), eE (by omega)]; have hp := bZ h8; rw [Int.toNat_natCast]; have e : (2 : Int) ^ m = ((2 ^ m : Nat) : Int) := by simp
  rw [e]; generalize 2 ^ m = q at hp; rw [bC (by omega) (by omega)]
  congr 2
  rw [Bool.eq_iff_iff]; simp only [decide_eq_true_eq]; omega
 ·rw [if_neg h, Bool.eq_false_iff.2 h, Bool.false_and]
theorem implIsSet_eq (n s : Int) : dz.f n s = some (dJ n s) := by
 unfold dz.f; rw [isSize_eq, Option.bind_some]; unfold dJ; by_cases h : (decide (0 ≤ n) && decide (n ≤ 8)) = true
 ·rw [if_pos h, h, Bool.true_and]; simp only [Bool.and_eq_true, decide_eq_true_eq] at h; by_cases hs : s ≥ 0
  ·rw [if_pos hs, if_pos h.1]; obtain ⟨m, rfl⟩ := Int.eq_ofNat_of_zero_le h.1; rw [eE (by omega), Int.toNat_natCast]; have e : ((2 ^ m : Nat) : Int) = 2 ^ m := by simp
   rw [e]; have : decide (0 ≤ s) = true := by simpa using hs
   rw [this, Bool.true_and]
  ·rw [if_neg hs]; have : decide (0 ≤ s) = false := by simpa using hs
   rw [this, Bool.false_and]
 ·rw [if_neg h, Bool.eq_false_iff.2 h, Bool.false_and]
theorem j5 (s : Int) : dJ 8 s = dk s := by
 unfold dJ dk; rw [Bool.eq_iff_iff]; simp
theorem isAny_eq (s : Int) : cA.f s = some (dk s) := by
 unfold cA.f dk; by_cases h : s ≥ 0
 ·rw [if_pos h]; simp [h]
 ·rw [if_neg h]; simp only [ge_iff_le] at h; simp [h]
theorem eG {s : Int} (h : dk s = true) : ∃ t : Nat, s = t ∧ t < 256 := by
 simp only [dk, Bool.and_eq_true, decide_eq_true_eq] at h; obtain ⟨t, rfl⟩ := Int.eq_ofNat_of_zero_le h.1; exact ⟨t, rfl, by omega⟩
theorem implHas_eq (s e : Int) : dd.f s e = some (hasB s e) := by
 unfold dd.f hasB; rw [isAny_eq, Option.bind_some]; by_cases h : dk s = true
 ·rw [if_pos h, h, Bool.true_and]; obtain ⟨t, rfl, ht⟩ := eG h; by_cases h0 : e ≥ 0
  ·rw [if_pos h0]; obtain ⟨m, rfl⟩ := Int.eq_ofNat_of_zero_le h0; by_cases h8 : (m : Int) < 8
   ·rw [if_pos h8, if_pos h0, lH (cr ht)]; simp [h8]
   ·rw [if_neg h8]; simp [h8]
  ·rw [if_neg h0]; simp only [ge_iff_le] at h0; simp [h0]
 ·rw [if_neg h, Bool.eq_false_iff.2 h]; simp
theorem ep {s e : Nat} (hs : s < 2 ^ 63) (he : e < 2 ^ 63) : bq.f (s : Int) (e : Int) = some (s.testBit e) := by
 unfold bq.f; rw [if_pos (di _), fm (by omega) (by omega), lH hs]
theorem specHas_eq (s e : Int) : cB.f s e = some (hasB s e) := by
 unfold cB.f hasB; rw [specIsSet_eq, Option.bind_some, j5]; by_cases h : dk s = true
 ·rw [if_pos h, h, Bool.true_and, l1In_eq, Option.bind_some]; obtain ⟨t, rfl, ht⟩ := eG h; by_cases h0 : (decide (0 ≤ e) && decide (e ≤ 7)) = true
  ·rw [if_pos h0]; simp only [Bool.and_eq_true, decide_eq_true_eq] at h0; obtain ⟨m, rfl⟩ := Int.eq_ofNat_of_zero_le h0.1; rw [ep (cr ht) (by omega), Option.bind_some]; have : decide ((m : Int) < 8) = true := by simp; omega
   simp [this]
  ·rw [if_neg h0]; have : (decide (0 ≤ e) && decide (e < 8)) = false := by
    rw [Bool.eq_false_iff]; intro hc
    apply h0
    simp only [Bool.and_eq_true, decide_eq_true_eq] at *; omega
   rw [this, Bool.false_and]
 ·rw [if_neg h, Bool.eq_false_iff.2 h]; simp
def famG (n : Int) : Option Int → List Int → Bool
 | _, [] => decide (0 ≤ n) && decide (n ≤ 8)
 | p, x :: xs => dJ n x && ((match p with | none => true | some q => decide (q < x)) && famG n (some x) xs)
def famB (n : Int) (l : List Int) : Bool := famG n none l
def gV (l : List Int) (i : Nat) : Option Int := if i = 0 then none else some (rd l ((i - 1 : Nat) : Int))
theorem iW (l : List Int) (i : Nat) (hi : i < l.length) : gV l (i + 1) = some l[i] := by
 unfold gV; rw [if_neg (by omega), Nat.add_sub_cancel, bV l i hi]
theorem iy (n : Int) (l : List Int) (hl : l.length ≤ 17592186044416) : Ev (fun k => az.f k n l) (famB n l) := by
 have h := down (P := fun i => Ev (fun k => az.l0 k n l (i : Int)) (famG n (gV l i) (l.drop i))) l.length
  (by
   apply Ev.step
   ·intro k; simp only [az.l0, l1In_eq, Option.bind_some]; rw [if_neg (by omega)]
   ·rw [c9]; exact Ev.now _)
  (by
   intro i hi ih
   apply Ev.step
   ·intro k; simp only [az.l0, specIsSet_eq, Option.bind_some]; rw [if_pos (by omega), if_pos (by omega), bV l i hi, b9 hi hl]
   ·rw [cl l i hi]; rw [iW l i hi] at ih; simp only [famG]; by_cases hx : dJ n l[i] = true
    ·refine Ev.ifp hx ?_; rw [hx, Bool.true_and]; by_cases h0 : (i : Int) > 0
     ·refine Ev.ifp h0 ?_; rw [bC (by omega) (by omega), show (i : Int) - 1 = ((i - 1 : Nat) : Int) from by omega]; refine Ev.ifp (by omega) (Ev.ifp (by omega) ?_); unfold gV; rw [if_neg (by omega)]; by_cases hq : rd l ((i - 1 : Nat) : Int) ≥ l[i]
      ·refine Ev.ifp hq ?_; simp only []; rw [show decide (rd l ((i - 1 : Nat) : Int) < l[i]) = false from by simpa using hq, Bool.false_and]; exact Ev.now _
      ·refine Ev.ifn hq ?_; simp only []; rw [show decide (rd l ((i - 1 : Nat) : Int) < l[i]) = true from by simpa using hq, Bool.true_and]; exact ih
     ·refine Ev.ifn h0 ?_; unfold gV; rw [if_pos (by omega)]; simp only [Bool.true_and]; exact ih
    ·refine Ev.ifn hx ?_; rw [Bool.eq_false_iff.2 hx, Bool.false_and]; exact Ev.now _)
 exact h
theorem i7 (n : Int) (l : List Int) (hl : l.length ≤ 17592186044416) : Ev (fun k => bS.f k n l) (famB n l) := by
 have h := down (P := fun i => Ev (fun k => bS.l0 k n l l (l.length : Int) (i : Int)) (famG n (gV l i) (l.drop i))) l.length
  (by
   apply Ev.step
   ·intro k; simp only [bS.l0, isSize_eq, Option.bind_some]; rw [if_neg (by omega)]
   ·rw [c9]; exact Ev.now _)
  (by
   intro i hi ih
   apply Ev.step
   ·intro k; simp only [bS.l0, implIsSet_eq, Option.bind_some]; rw [if_pos (by omega), if_pos (by omega), if_pos (by omega), bV l i hi, b9 hi hl]
   ·rw [cl l i hi]; rw [iW l i hi] at ih; simp only [famG]; by_cases hx : dJ n l[i] = true
    ·refine Ev.ifp hx ?_; rw [hx, Bool.true_and]; by_cases h0 : (i : Int) > 0
     ·refine Ev.ifp h0 ?_; rw [bC (by omega) (by omega), show (i : Int) - 1 = ((i - 1 : Nat) : Int) from by omega]; refine Ev.ifp (by omega) (Ev.ifp (by omega) ?_); unfold gV; rw [if_neg (by omega)]; by_cases hq : l[i] ≤ rd l ((i - 1 : Nat) : Int)
      ·refine Ev.ifp hq ?_; simp only []; rw [show decide (rd l ((i - 1 : Nat) : Int) < l[i]) = false from by simpa using hq, Bool.false_and]; exact Ev.now _
      ·refine Ev.ifn hq ?_; simp only []; rw [show decide (rd l ((i - 1 : Nat) : Int) < l[i]) = true from by simpa using hq, Bool.true_and]; exact ih
     ·refine Ev.ifn h0 ?_; unfold gV; rw [if_pos (by omega)]; simp only [Bool.true_and]; exact ih
    ·refine Ev.ifn hx ?_; rw [Bool.eq_false_iff.2 hx, Bool.false_and]; exact Ev.now _)
 exact h
theorem k7 (n : Int) : ∀ (l : List Int) (p : Option Int), famG n p l = true → (0 ≤ n ∧ n ≤ 8) ∧ (∀ x ∈ l, dJ n x = true) ∧ l.Pairwise (· < ·) ∧ (∀ q, p = some q → ∀ x ∈ l, q < x) := by
 intro l
 induction l with
 | nil =>
  intro p h; simp only [famG, Bool.and_eq_true, decide_eq_true_eq] at h; exact ⟨h, fun x hx => by simp at hx, List.Pairwise.nil, fun q _ x hx => by simp at hx⟩
 | cons y l ih =>
  intro p h; simp only [famG, Bool.and_eq_true] at h; obtain ⟨h1, h2, h3⟩ := h; obtain ⟨i1, i2, i3, i4⟩ := ih _ h3; refine ⟨i1, fun x hx => ?_, List.pairwise_cons.2 ⟨fun x hx => i4 y rfl x hx, i3⟩, fun q hq x hx => ?_⟩
  ·rcases List.mem_cons.1 hx with rfl | hx
   ·exact h1
   ·exact i2 x hx
  ·subst hq; simp only [decide_eq_true_eq] at h2; rcases List.mem_cons.1 hx with rfl | hx
   ·exact h2
   ·exact Int.lt_trans h2 (i4 y rfl x hx)
theorem iO {n : Int} {l : List Int} (h : famB n l = true) : ∃ (m : Nat) (L : List Nat), n = m ∧ m ≤ 8 ∧ l = L.map (fun x : Nat => (x : Int)) ∧ (∀ x ∈ L, x < 2 ^ m) ∧ L.Pairwise (· < ·) := by
 obtain ⟨h1, h2, h3, _⟩ := k7 n l none h; obtain ⟨m, rfl⟩ := Int.eq_ofNat_of_zero_le h1.1; have hnn : ∀ x ∈ l, 0 ≤ x := fun x hx => by
  obtain ⟨_, t, _, rfl, _⟩ := e9 (h2 x hx); omega
 have hl : l = (l.map Int.toNat).map (fun x : Nat => (x : Int)) := by
  rw [List.map_map]
  conv => lhs; rw [← List.map_id l]
  apply List.map_congr_left
  intro x hx; have := hnn x hx; simp only [id, Function.comp]; omega
 refine ⟨m, l.map Int.toNat, rfl, by omega, hl, fun x hx => ?_, ?_⟩
 ·obtain ⟨y, hy, rfl⟩ := List.mem_map.1 hx; obtain ⟨m', t, hm, rfl, _, ht, _⟩ := e9 (h2 y hy); have : m = m' := by omega
  subst this; rw [Int.toNat_natCast]; exact ht
 ·rw [List.pairwise_map]; exact h3.imp_of_mem (fun {a b} ha hb hab => by
   have := hnn a ha; have := hnn b hb; omega)
def elsB (s : Int) : List Int := ((List.range 8).filter (fun e : Nat => hasB s (e : Int))).map (fun e : Nat => (e : Int))
theorem dH {i n : Nat} (h : i < n) : List.range' i (n - i) = i :: List.range' (i + 1) (n - (i + 1)) := by
 rw [show n - i = (n - (i + 1)) + 1 from by omega, List.range'_succ]
theorem fx {s : Int} {i : Nat} (l : List Nat) : ((i :: l).filter (fun e : Nat => hasB s (e : Int))).map (fun e : Nat => (e : Int)) = (if hasB s (i : Int) = true then [(i : Int)] else []) ++ (l.filter (fun e : Nat => hasB s (e : Int))).map (fun e : Nat => (e : Int)) := by
 rw [List.filter_cons]; by_cases h : hasB s (i : Int) = true
 ·rw [if_pos h, if_pos h]; rfl
 ·rw [if_neg h, if_neg h]; rfl
theorem ey (s : Int) : Ev (fun k => aH.f k s) (elsB s) := by
 have h := down (P := fun i => ∀ acc : List Int, acc.length ≤ i → Ev (fun k => aH.l0 k s acc (i : Int)) (acc ++ ((List.range' i (8 - i)).filter (fun e : Nat => hasB s (e : Int))).map (fun e : Nat => (e : Int)))) 8
  (by
   intro acc ha
   apply Ev.step
   ·intro k; simp only [aH.l0, implHas_eq, Option.bind_some]; rw [if_neg (by omega)]
   ·simpa using Ev.now _)
  (by
   intro i hi ih acc ha
   apply Ev.step
   ·intro k; simp only [aH.l0, implHas_eq, Option.bind_some]; rw [if_pos (by omega), b9 hi (by omega)]
   ·rw [dH hi, fx]; by_cases hx : hasB s (i : Int) = true
    ·refine Ev.ifp hx (Ev.ifp (by omega) ?_); rw [if_pos hx, ← List.append_assoc]; exact ih (acc ++ [(i : Int)]) (by simp; omega)
    ·refine Ev.ifn hx ?_; rw [if_neg hx]; exact ih acc (by omega))
 have h0 := h [] (Nat.le_refl 0); rw [show ((0 : Nat) : Int) = 0 from rfl] at h0; have e : elsB s = [] ++ ((List.range' 0 (8 - 0)).filter (fun e : Nat => hasB s (e : Int))).map (fun e : Nat => (e : Int)) := by
  unfold elsB; rw [List.nil_append, List.range_eq_range']
 rw [e]; unfold aH.f; exact h0
theorem kj {s x : Int} (h : x ∈ elsB s) : ∃ e : Nat, x = e ∧ e < 8 ∧ hasB s (e : Int) = true := by
 simp only [elsB, List.mem_map, List.mem_filter, List.mem_range] at h; obtain ⟨e, ⟨h1, h2⟩, rfl⟩ := h; exact ⟨e, rfl, h1, h2⟩
theorem kC (s : Int) : (elsB s).length ≤ 8 := by
 unfold elsB; rw [List.length_map]; exact Nat.le_trans (List.length_filter_le _ _) (by simp)
theorem iD {s : Nat} (h : s < 256) : elsB (s : Int) = (els s).map (fun e : Nat => (e : Int)) := by
 have e : (List.range 8).filter (fun e : Nat => hasB (s : Int) (e : Int)) = (List.range 8).filter (fun e : Nat => s.testBit e) :=
  List.filter_congr (fun e he => by
   rw [List.mem_range] at he; rw [kU]; simp [h, he])
 unfold elsB els; rw [e]
theorem fU (x : Int) (l : List Int) (a : Int) : (x :: l).contains a = (decide (x = a) || l.contains a) := by
 rw [Bool.eq_iff_iff]; simp only [List.contains_iff_mem, List.mem_cons, Bool.or_eq_true, decide_eq_true_eq]
 constructor
 ·rintro (h | h)
  ·exact .inl h.symm
  ·exact .inr h
 ·rintro (h | h)
  ·exact .inl h.symm
  ·exact .inr h
theorem fT (l : List Int) (a : Int) (hl : l.length ≤ 17592186044416) : Ev (fun k => bk.f k l a) (l.contains a) := by
 have h := down (P := fun i => Ev (fun k => bk.l0 k l a (i : Int)) ((l.drop i).contains a)) l.length
  (by
   apply Ev.step
   ·intro k; simp only [bk.l0]; rw [if_neg (by omega)]
   ·rw [c9]; exact Ev.now _)
  (by
   intro i hi ih
   apply Ev.step
   ·intro k; simp only [bk.l0]; rw [if_pos (by omega), if_pos (by omega), bV l i hi, b9 hi hl]
   ·rw [cl l i hi, fU]; by_cases hx : l[i] = a
    ·refine Ev.ifp hx ?_; rw [show decide (l[i] = a) = true from by simpa using hx, Bool.true_or]; exact Ev.now _
    ·refine Ev.ifn hx ?_; rw [show decide (l[i] = a) = false from by simpa using hx, Bool.false_or]; exact ih)
 exact h
theorem nf (l : List Int) (a : Int) (hl : l.length ≤ 17592186044416) : ∃ r : Int, Ev (fun k => av.f k l a) r ∧ (decide (r ≥ 0) = l.contains a) := by
 have h := down (P := fun i => ∃ r : Int, Ev (fun k => av.l0 k l a (l.length : Int) (i : Int)) r ∧ (decide (r ≥ 0) = (l.drop i).contains a)) l.length
  (by
   refine ⟨-1, ?_, by rw [c9]; rfl⟩
   apply Ev.step
   ·intro k; simp only [av.l0]; rw [if_neg (by omega)]
   ·exact Ev.now _)
  (by
   intro i hi ih; rw [cl l i hi, fU]; by_cases hx : l[i] = a
   ·refine ⟨(i : Int), ?_, ?_⟩
    ·apply Ev.step
     ·intro k; simp only [av.l0]; rw [if_pos (by omega), if_pos (by omega), if_pos (by omega), bV l i hi, if_pos hx.symm]
     ·exact Ev.now _
    ·rw [show decide (l[i] = a) = true from by simpa using hx, Bool.true_or]; simp
   ·obtain ⟨r, hr, hd⟩ := ih; refine ⟨r, ?_, ?_⟩
    ·apply Ev.step
     ·intro k; simp only [av.l0]; rw [if_pos (by omega), if_pos (by omega), if_pos (by omega), bV l i hi, if_neg (fun hc => hx hc.symm), b9 hi hl]
     ·exact hr
    ·rw [show decide (l[i] = a) = false from by simpa using hx, Bool.false_or]; exact hd)
 exact h
theorem kK (l : List Int) (a : Int) (hl : l.length ≤ 17592186044416) : Ev (fun k => bL.f k l a) (l.contains a) := by
 obtain ⟨r, hr, hd⟩ := nf l a hl; unfold bL.f; refine Ev.bind hr ?_; rw [hd]; exact Ev.now _
end Go.Proofs.YtimkekeaeojpkaaGreat.Q
namespace Go.Proofs.YtimkekeaeojpkaaGreat.Q
open Go Go.RowKit Go.Proofs.YtimkekeaeojpkaaGreatW.PrintWords Go.Proofs.YtimkekeaeojpkaaGreatW.PrintLast Go.Proofs.YtimkekeaeojpkaaGreatW.PrintMore Go.Proofs.YtimkekeaeojpkaaGreat.Z
set_option linter.unusedVariables false
set_option linter.unusedSimpArgs false
def gU (l : List Int) (a b e : Nat) : Bool := (els (dif b a)).any (fun f => l.contains ((dif a (2 ^ e) ||| 2 ^ f : Nat) : Int))
def eS (l : List Int) (a b : Nat) : List Nat → Option Nat
 | [] => none
 | e :: es => if gU l a b e = true then eS l a b es else some e
def ff (l : List Int) (a : Nat) : List Nat → Option (Nat × Nat)
 | [] => none
 | b :: bs => match eS l a b (els (dif a b)) with
  | none => ff l a bs
  | some e => some (b, e)
def fy (l : List Int) (L : List Nat) : List Nat → Option (Nat × Nat × Nat)
 | [] => none
 | a :: la => match ff l a L with
  | none => fy l L la
  | some (b, e) => some (a, b, e)
def told : Option (Nat × Nat × Nat) → Int × Int × Int × Bool
 | none => (0, 0, 0, false)
 | some (a, b, e) => ((a : Int), (b : Int), (e : Int), true)
def jo (n : Int) (l : List Int) : Int × Int × Int × Bool := if famB n l = true then told (fy l (l.map Int.toNat) (l.map Int.toNat)) else (0, 0, 0, false)
theorem lO {a b n : Nat} (ha : a < 2 ^ n) (hn : n ≤ 8) : els (dif a b) = (List.range n).filter (fun e => a.testBit e && !b.testBit e) := by
 have h1 : (List.range 8).filter (fun e => (dif a b).testBit e) = (List.range 8).filter (fun e => decide (e < n) && (a.testBit e && !b.testBit e)) :=
  List.filter_congr (fun e _ => by
   rw [dif_bit]; by_cases h : e < n
   ·simp [h]
   ·have : a.testBit e = false := Nat.testBit_lt_two_pow (Nat.lt_of_lt_of_le ha (Nat.pow_le_pow_right (by decide) (by omega))); simp [this])
 unfold els; rw [h1]; have h2 : ∀ (p : Nat → Bool) (a b : Nat), (List.range a).filter (fun e => decide (e < b) && p e) = (List.range (min a b)).filter p := by
  intro p a b
  induction a with
  | zero => simp
  | succ a ih =>
   rw [List.range_succ, List.filter_append, ih]; by_cases h : a < b
   ·rw [show min (a + 1) b = min a b + 1 from by omega, List.range_succ, List.filter_append]; have e : min a b = a := by omega
    rw [e]
    congr 1
    simp [List.filter_cons, h]
   ·rw [show min (a + 1) b = min a b from by omega]; simp [List.filter_cons, h]
 rw [h2, Nat.min_eq_right hn]
end Go.Proofs.YtimkekeaeojpkaaGreat.Q
namespace Go.Proofs.YtimkekeaeojpkaaGreat.Q
open Go Go.RowKit Go.Proofs.YtimkekeaeojpkaaGreat.A Go.Proofs.YtimkekeaeojpkaaGreatW.PrintWords Go.Proofs.YtimkekeaeojpkaaGreatW.PrintLast Go.Proofs.YtimkekeaeojpkaaGreatW.PrintMore Go.Proofs.YtimkekeaeojpkaaGreat.Z
set_option linter.unusedVariables false
set_option linter.unusedSimpArgs false
theorem mB (n : Nat) (hn : n ≤ 8) (l : List Int) (hl : l.length ≤ 17592186044416) (a b e : Nat) (ha : a < 256) (hb : b < 2 ^ n) (he : e < 8) (hae : a.testBit e = true) :
  Ev (fun k => aJ.f k (n : Int) l (a : Int) (b : Int) (e : Int)) (gU l a b e) := by
 have hb256 : b < 256 := Nat.lt_of_lt_of_le hb (bZ hn); have h := down (P := fun f => Ev (fun k => aJ.l0 k (a : Int) (b : Int) (e : Int) (f : Int) (n : Int) l) (((List.range' f (n - f)).filter (fun f => b.testBit f && !a.testBit f)).any (fun f => l.contains ((dif a (2 ^ e) ||| 2 ^ f : Nat) : Int)))) n
  (by
   apply Ev.step
   ·intro k; simp only [aJ.l0]; rw [if_neg (by omega)]
   ·rw [Nat.sub_self]; exact Ev.now _)
  (by
   intro f hf ih; have hih : Ev (fun k => aJ.l0 k (a : Int) (b : Int) (e : Int) (wrap64 ((f : Int) + 1)) (n : Int) l) (((List.range' (f + 1) (n - (f + 1))).filter (fun f => b.testBit f && !a.testBit f)).any (fun f => l.contains ((dif a (2 ^ e) ||| 2 ^ f : Nat) : Int))) := by
    rw [b9 hf (by omega)]; exact ih
   apply Ev.step
   ·intro k; simp only [aJ.l0, ep (cr hb256) (show f < 2 ^ 63 by omega), ep (cr ha) (show f < 2 ^ 63 by omega), Option.bind_some]; rw [if_pos (by omega)]
   ·rw [dH hf, List.filter_cons]; by_cases hbf : b.testBit f = true
    ·refine Ev.ifp hbf ?_; by_cases haf : a.testBit f = true
     ·refine Ev.ifp haf ?_; rw [if_neg (by rw [haf]; simp)]; exact hih
     ·refine Ev.ifn haf (Ev.ifp (di _) (Ev.ifp (di _) ?_)); have haf' := Bool.eq_false_iff.2 haf; rw [if_pos (by rw [hbf, haf']; rfl), List.any_cons]; obtain ⟨x1, x2, x3⟩ := lD ha he (show f < 8 by omega) hae haf'; have hp : 2 ^ f < 256 := Nat.pow_lt_pow_right (a := 2) (m := f) (n := 8) (by decide) (by omega); have ex : wrap64 (wrap64 ((a : Int) - shl .i64 1 (IntKind.u64.wrap (e : Int))) + shl .i64 1 (IntKind.u64.wrap (f : Int))) = ((dif a (2 ^ e) ||| 2 ^ f : Nat) : Int) := by
       rw [fm (by omega) (by omega), fm (by omega) (by omega), eE (by omega), eE (by omega), ← x1]; generalize 2 ^ e = p at *; generalize 2 ^ f = q at *; rw [bC (n := (a : Int) - (p : Int)) (by omega) (by omega), bC (by omega) (by omega)]; omega
      rw [ex]; refine Ev.bind (fT l _ hl) ?_; by_cases hc : l.contains ((dif a (2 ^ e) ||| 2 ^ f : Nat) : Int) = true
      ·refine Ev.ifp hc ?_; rw [hc, Bool.true_or]; exact Ev.now _
      ·refine Ev.ifn hc ?_; rw [Bool.eq_false_iff.2 hc, Bool.false_or]; exact hih
    ·refine Ev.ifn hbf ?_; rw [if_neg (by rw [Bool.eq_false_iff.2 hbf]; simp)]; exact hih)
 rw [Nat.sub_zero, ← List.range_eq_range', ← lO hb hn] at h; exact h
theorem kO (n : Nat) (hn : n ≤ 8) (l : List Int) (hl : l.length ≤ 17592186044416) (i j : Nat) (hi : i < l.length) (hj : j < l.length) (a b : Nat) (hai : rd l (i : Int) = a) (hbj : rd l (j : Int) = b) (ha : a < 2 ^ n) (hb : b < 2 ^ n) (K : Int × Int × Int × Bool)
  (hK : Ev (fun k => ac.l1 k (i : Int) (wrap64 ((j : Int) + 1)) (n : Int) l) K) :
  Ev (fun k => ac.l2 k (i : Int) (j : Int) 0 (n : Int) l) (match eS l a b (els (dif a b)) with | none => K | some e => ((a : Int), (b : Int), (e : Int), true)) := by
 have ha256 : a < 256 := Nat.lt_of_lt_of_le ha (bZ hn); have hb256 : b < 256 := Nat.lt_of_lt_of_le hb (bZ hn); have h := down (P := fun e => Ev (fun k => ac.l2 k (i : Int) (j : Int) (e : Int) (n : Int) l) (match eS l a b ((List.range' e (n - e)).filter (fun e => a.testBit e && !b.testBit e)) with | none => K | some e => ((a : Int), (b : Int), (e : Int), true))) n
  (by
   apply Ev.step
   ·intro k; simp only [ac.l2]; rw [if_neg (by omega)]
   ·rw [Nat.sub_self]; exact hK)
  (by
   intro e he ih; have hih : Ev (fun k => ac.l2 k (i : Int) (j : Int) (wrap64 ((e : Int) + 1)) (n : Int) l) (match eS l a b ((List.range' (e + 1) (n - (e + 1))).filter (fun e => a.testBit e && !b.testBit e)) with | none => K | some e => ((a : Int), (b : Int), (e : Int), true)) := by
    rw [b9 he (by omega)]; exact ih
   apply Ev.step
   ·intro k; simp only [ac.l2]; rw [if_pos (by omega), if_pos (by omega), if_pos (by omega), if_pos (by omega), if_pos (by omega), hai, hbj, ep (cr ha256) (show e < 2 ^ 63 by omega), ep (cr hb256) (show e < 2 ^ 63 by omega), Option.bind_some, Option.bind_some]
   ·rw [dH he, List.filter_cons]; by_cases hae : a.testBit e = true
    ·refine Ev.ifp hae ?_; by_cases hbe : b.testBit e = true
     ·refine Ev.ifp hbe ?_; rw [if_neg (by rw [hbe]; simp)]; exact hih
     ·refine Ev.ifn hbe (Ev.bind (mB n hn l hl a b e ha256 hb (by omega) hae) ?_); rw [if_pos (by rw [hae, Bool.eq_false_iff.2 hbe]; rfl)]; simp only [eS]; by_cases hx : gU l a b e = true
      ·refine Ev.ifp hx ?_; rw [if_pos hx]; exact hih
      ·refine Ev.ifn hx ?_; rw [if_neg hx]; exact Ev.now _
    ·refine Ev.ifn hae ?_; rw [if_neg (by rw [Bool.eq_false_iff.2 hae]; simp)]; exact hih)
 rw [Nat.sub_zero, ← List.range_eq_range', ← lO ha hn] at h; exact h
theorem kB (n : Int) (l : List Int) (hl : l.length ≤ 17592186044416) : Ev (fun k => ac.f k n l) (jo n l) := by
 unfold ac.f jo; refine Ev.bind (iy n l hl) ?_; by_cases hf : famB n l = true
 ·refine Ev.ifp hf ?_; rw [if_pos hf]; obtain ⟨m, L, rfl, hm, rfl, hL, _⟩ := iO hf; rw [b3]; have hlen : (L.map (fun x : Nat => (x : Int))).length = L.length := List.length_map _; rw [hlen] at hl; have hrd : ∀ i, (h : i < L.length) → rd (L.map (fun x : Nat => (x : Int))) (i : Int) = (L[i] : Int) := fun i h => by
   rw [bV _ i (by rw [hlen]; exact h), List.getElem_map]
  have hl' : (L.map (fun x : Nat => (x : Int))).length ≤ 17592186044416 := by rw [hlen]; exact hl
  generalize L.map (fun x : Nat => (x : Int)) = l at hlen hrd hl'; have h := down (P := fun i => Ev (fun k => ac.l0 k (i : Int) (m : Int) l) (told (fy l L (L.drop i)))) L.length
   (by
    apply Ev.step
    ·intro k; simp only [ac.l0]; rw [if_neg (by omega)]
    ·rw [c9]; exact Ev.now _)
   (by
    intro i hi ih; have hia := hL _ (List.getElem_mem hi); have hih : Ev (fun k => ac.l0 k (wrap64 ((i : Int) + 1)) (m : Int) l) (told (fy l L (L.drop (i + 1)))) := by
     rw [b9 hi hl]; exact ih
    apply Ev.step
    ·intro k; simp only [ac.l0]; rw [if_pos (by omega)]
    ·have h1 := down (P := fun j => Ev (fun k => ac.l1 k (i : Int) (j : Int) (m : Int) l) (match ff l L[i] (L.drop j) with | none => told (fy l L (L.drop (i + 1))) | some (b, e) => ((L[i] : Int), (b : Int), (e : Int), true))) L.length
      (by
       apply Ev.step
       ·intro k; simp only [ac.l1]; rw [if_neg (by omega)]
       ·rw [c9]; exact hih)
      (by
       intro j hj ihj; have hjb := hL _ (List.getElem_mem hj)
       apply Ev.step
       ·intro k; simp only [ac.l1]; rw [if_pos (by omega)]
       ·have h2 := kO m hm l hl' i j (by omega) (by omega) L[i] L[j] (hrd i hi) (hrd j hj) hia hjb _ (by rw [b9 hj hl]; exact ihj); rw [cl L j hj]; simp only [ff]; generalize eS l L[i] L[j] (els (dif L[i] L[j])) = q at h2; cases q with
        | none => exact h2
        | some e => exact h2)
     rw [cl L i hi]; simp only [fy]; rw [List.drop_zero] at h1; generalize ff l L[i] L = q at h1; cases q with
     | none => exact h1
     | some x => exact h1)
  exact h
 ·refine Ev.ifn hf ?_; rw [if_neg hf]; exact Ev.now _
def matB (n : Int) (l : List Int) : Bool := famB n l && (decide ((l.length : Int) > 0) && !(jo n l).2.2.2)
theorem fu (n : Int) (l : List Int) (hl : l.length ≤ 17592186044416) : Ev (fun k => aZ.f k n l) (matB n l) := by
 unfold aZ.f matB; refine Ev.bind (kB n l hl) (Ev.bind (iy n l hl) ?_); by_cases hf : famB n l = true
 ·refine Ev.ifp hf ?_; rw [hf, Bool.true_and]; by_cases h0 : (l.length : Int) > 0
  ·refine Ev.ifp h0 ?_; rw [show decide ((l.length : Int) > 0) = true from by simpa using h0, Bool.true_and]; exact Ev.now _
  ·refine Ev.ifn h0 ?_; rw [show decide ((l.length : Int) > 0) = false from by simpa using h0, Bool.false_and]; exact Ev.now _
 ·refine Ev.ifn hf ?_; rw [Bool.eq_false_iff.2 hf, Bool.false_and]; exact Ev.now _
end Go.Proofs.YtimkekeaeojpkaaGreat.Q
namespace Go.Proofs.YtimkekeaeojpkaaGreat.Q
open Go Go.RowKit Go.Proofs.YtimkekeaeojpkaaGreatW.PrintWords Go.Proofs.YtimkekeaeojpkaaGreatW.PrintLast Go.Proofs.YtimkekeaeojpkaaGreatW.PrintMore Go.Proofs.YtimkekeaeojpkaaGreat.Z
set_option linter.unusedVariables false
set_option linter.unusedSimpArgs false
theorem eq {n : Int} {l : List Int} (h : matB n l = true) : ∃ (m : Nat) (L : List Nat), n = m ∧ m ≤ 8 ∧ l = ints L ∧ (∀ x ∈ L, x < 2 ^ m) ∧ (∀ x ∈ L, x < 256) ∧ L.Pairwise (· < ·) ∧ L ≠ [] := by
 simp only [matB, Bool.and_eq_true, decide_eq_true_eq] at h; obtain ⟨m, L, rfl, hm, rfl, hL, hp⟩ := iO h.1; refine ⟨m, L, rfl, hm, rfl, hL, fun x hx => Nat.lt_of_lt_of_le (hL x hx) (bZ hm), hp, ?_⟩; rintro rfl; simp at h
theorem ints_len (L : List Nat) : (ints L).length = L.length := List.length_map _
theorem dL (L : List Nat) (i : Nat) (h : i < L.length) : rd (ints L) (i : Int) = (L[i] : Int) := by
 rw [bV _ i (by rw [ints_len]; exact h)]; simp [ints]
end Go.Proofs.YtimkekeaeojpkaaGreat.Q
namespace Go.Proofs.YtimkekeaeojpkaaGreat.Q
open Go Go.RowKit Go.Proofs.YtimkekeaeojpkaaGreat.A Go.Proofs.YtimkekeaeojpkaaGreatW.PrintWords Go.Proofs.YtimkekeaeojpkaaGreatW.PrintLast Go.Proofs.YtimkekeaeojpkaaGreatW.PrintMore Go.Proofs.YtimkekeaeojpkaaGreat.Z
set_option linter.unusedVariables false
set_option linter.unusedSimpArgs false
theorem jV : ∀ (d x : Nat), x ≤ d → x < 256 → ∀ acc : Int, 0 ≤ acc → acc + (d : Int) ≤ 1000 → Ev (fun k => aD.l0 k (x : Int) acc) (acc + (pc x : Int)) := by
 intro d
 induction d with
 | zero =>
  intro x hx _ acc h0 h1; obtain rfl : x = 0 := by omega
  apply Ev.step
  ·intro k; simp only [aD.l0]; rw [if_neg (by decide)]
  ·rw [pc_zero, show acc + ((0 : Nat) : Int) = acc from by omega]; exact Ev.now _
 | succ d ih =>
  intro x hx h256 acc h0 h1; by_cases hz : x = 0
  ·subst hz; exact ih 0 (by omega) h256 acc h0 (by omega)
  ·have hb : Go.bits .and .i64 (x : Int) 1 = ((x % 2 : Nat) : Int) := by
    have := ie (a := x) (b := 1) (cr h256) (by decide); rw [Nat.and_one_is_mod] at this; exact this
   apply Ev.step
   ·intro k; simp only [aD.l0]; rw [if_pos (by omega), hb, bC (by omega) (by omega), show (x : Int) / 2 = ((x / 2 : Nat) : Int) from by omega]
   ·have hp := nF x h256; have hl := kI (x / 2); have := ih (x / 2) (by omega) (by omega) (acc + ((x % 2 : Nat) : Int)) (by omega) (by omega); rw [show acc + ((x % 2 : Nat) : Int) + (pc (x / 2) : Int) = acc + (pc x : Int) from by omega] at this; exact this
theorem dl (s : Nat) (h : s < 256) : Ev (fun k => aD.f k (s : Int)) (pc s : Int) := by
 unfold aD.f; refine Ev.cbind (specIsSet_eq _ _) (Ev.ifp ?_ ?_)
 ·rw [j5, dY]; simpa using h
 ·have := jV s s (Nat.le_refl _) h 0 (by omega) (by omega); rw [Int.zero_add] at this; exact this
def im (s : Int) : Int := if dk s = true then (pc s.toNat : Int) else 0
theorem jm (s : Int) : Ev (fun k => aD.f k s) (im s) := by
 by_cases h : dk s = true
 ·obtain ⟨t, rfl, ht⟩ := eG h; rw [im, if_pos h, Int.toNat_natCast]; exact dl t ht
 ·unfold aD.f; rw [im, if_neg h]; refine Ev.cbind (specIsSet_eq _ _) (Ev.ifn ?_ (Ev.now _)); rw [j5]; exact h
theorem ly {s : Nat} (h : s < 256) : im (s : Int) = (pc s : Int) := by
 rw [im, if_pos (by rw [dY]; simpa using h), Int.toNat_natCast]
theorem l1Max_eq (a b : Int) : cG.f a b = some (max a b) := by
 unfold cG.f; by_cases h : a > b
 ·rw [if_pos h]; congr 1; omega
 ·rw [if_neg h]; congr 1; omega
theorem gX (n : Int) (L : List Nat) (s : Nat) (hl : L.length ≤ 17592186044416) (hL : ∀ b ∈ L, b < 256) (hs : s < 256) : Ev (fun k => cu.f k n (ints L) (s : Int)) (rkN L s : Int) := by
 have h := down (P := fun i => ∀ acc : Nat, Ev (fun k => cu.l0 k (s : Int) (acc : Int) (i : Int) n (ints L)) ((maxN acc ((L.drop i).map (fun b => pc (b &&& s))) : Nat) : Int)) L.length
  (by
   intro acc
   apply Ev.step
   ·intro k; simp only [cu.l0]; rw [if_neg (by rw [ints_len]; omega)]
   ·rw [c9]; exact Ev.now _)
  (by
   intro i hi ih acc; have hb := hL _ (List.getElem_mem hi)
   apply Ev.step
   ·intro k; simp only [cu.l0, l1Max_eq, Option.bind_some]; rw [if_pos (by rw [ints_len]; omega), if_pos (by omega), dL L i hi, b9 hi hl, ie (cr hb) (cr hs)]
   ·refine Ev.bind (dl _ (n7 hb)) ?_; rw [cl L i hi, List.map_cons, jB]; have := ih (max acc (pc (L[i] &&& s))); rw [show ((max acc (pc (L[i] &&& s)) : Nat) : Int) = max (acc : Int) (pc (L[i] &&& s) : Int) from by omega] at this; exact this)
 exact h 0
theorem eR (n : Int) (L : List Nat) (s : Nat) (hl : L.length ≤ 17592186044416) (hL : ∀ b ∈ L, b < 256) (hne : L ≠ []) (hs : s < 256) : Ev (fun k => b6.f k n (ints L) (s : Int)) (indN L s) := by
 unfold b6.f; refine Ev.bind (gX n L s hl hL hs) (Ev.bind (dl s hs) ?_); have : ((rkN L s : Int) == (pc s : Int)) = indN L s := by
  rw [Bool.eq_iff_iff, ← ej hs hne]; simp only [beq_iff_eq]; omega
 rw [this]; exact Ev.now _
set_option maxRecDepth 100000 in
theorem nV : ∀ s < 256, de.f ((s : Nat) : Int) = some ((pc s : Nat) : Int) := by decide +kernel
theorem fo (s : Nat) (h : s < 256) : cj.f (s : Int) = some (pc s : Int) := by
 unfold cj.f; rw [isAny_eq, Option.bind_some, if_pos (by rw [dY]; simpa using h), fm (by omega) (by omega)]; unfold dI.f; rw [nV s h]
 rfl
def cq (m : Nat) : Nat := 2 ^ m - 1
theorem jR : ∀ m < 9, ∀ u < 256, (!decide (u < 2 ^ m) || (decide (cq m - u = dif (cq m) u) && decide (cq m < 2 ^ m))) = true := by decide +kernel
theorem mU {m u : Nat} (hm : m ≤ 8) (hu : u < 2 ^ m) : cq m - u = dif (cq m) u ∧ cq m < 2 ^ m ∧ cq m < 256 := by
 have h256 := Nat.lt_of_lt_of_le hu (bZ hm); have h := jR m (by omega) u h256; rw [show decide (u < 2 ^ m) = true from by simpa using hu] at h; simp only [Bool.not_true, Bool.false_or, Bool.and_eq_true, decide_eq_true_eq] at h; exact ⟨h.1, h.2, Nat.lt_of_lt_of_le h.2 (bZ hm)⟩
theorem nH {m : Nat} (hm : m ≤ 8) : cq m < 2 ^ m ∧ cq m < 256 := (mU hm (Nat.two_pow_pos m)).2
theorem full_bit (m i : Nat) : (cq m).testBit i = decide (i < m) := Nat.testBit_two_pow_sub_one m i
theorem dx {m : Nat} (hm : m ≤ 8) : bD.f (m : Int) = some ((cq m : Nat) : Int) := by
 unfold bD.f cq; have hp := bZ hm; have h0 := Nat.two_pow_pos m; rw [l1In_eq, Option.bind_some, if_pos (by simp; omega), if_pos (di _), fm (by omega) (by omega), eE (by omega)]; generalize 2 ^ m = q at *; rw [bC (by omega) (by omega)]
 congr 1
 omega
theorem g9 {m : Nat} (hm : m ≤ 8) : df.f (m : Int) = some ((cq m : Nat) : Int) := by
 unfold df.f cq; have hp := bZ hm; have h0 := Nat.two_pow_pos m; rw [isSize_eq, Option.bind_some, if_pos (by simp; omega), if_pos (by omega), eE (by omega)]; generalize 2 ^ m = q at *; rw [bC (by omega) (by omega)]
 congr 1
 omega
end Go.Proofs.YtimkekeaeojpkaaGreat.Q
namespace Go.Proofs.YtimkekeaeojpkaaGreat.Q
open Go Go.RowKit Go.Proofs.YtimkekeaeojpkaaGreatW.PrintWords Go.Proofs.YtimkekeaeojpkaaGreatW.PrintLast Go.Proofs.YtimkekeaeojpkaaGreatW.PrintMore Go.Proofs.YtimkekeaeojpkaaGreat.Z
set_option linter.unusedVariables false
set_option linter.unusedSimpArgs false
theorem g0 {L : List Nat} {b : Nat} (hb : b ∈ L) (s : Nat) : pc (b &&& s) ≤ rkN L s := i8 _ 0 _ (List.mem_map.2 ⟨b, hb, rfl⟩)
theorem gN {L : List Nat} (hne : L ≠ []) (s : Nat) : ∃ b ∈ L, pc (b &&& s) = rkN L s := by
 rcases gj (L.map (fun b => pc (b &&& s))) 0 with h | h
 ·obtain ⟨b, hb⟩ := List.exists_mem_of_ne_nil L hne; have := g0 hb s; refine ⟨b, hb, ?_⟩; unfold rkN at this ⊢; omega
 ·obtain ⟨b, hb, e⟩ := List.mem_map.1 h; exact ⟨b, hb, e⟩
theorem gC {L : List Nat} (hne : L ≠ []) {X Y : Nat} (h : ∀ i, X.testBit i = true → Y.testBit i = true) : rkN L X ≤ rkN L Y := by
 obtain ⟨b, hb, e⟩ := gN hne X; rw [← e]; refine Nat.le_trans (ee fun i _ hi => ?_) (g0 hb Y); rw [Nat.testBit_and, Bool.and_eq_true] at hi ⊢; exact ⟨hi.1, h i hi.2⟩
theorem Mat.both_step {m : Nat} {L : List Nat} (h : Mat m L) {S T c : Nat} (hST : ∀ i, S.testBit i = true → T.testBit i = true) (hc : c ∈ L) (hcT : pc (c &&& T) = rkN L T) : ∀ (d b : Nat), b ∈ L → pc (b &&& S) = rkN L S → pc (dif b c) = d → ∃ b ∈ L, pc (b &&& S) = rkN L S ∧ pc (b &&& T) = rkN L T := by
 intro d
 induction d with
 | zero =>
  intro b hb hS hd; refine ⟨b, hb, hS, Nat.le_antisymm (g0 hb T) ?_⟩; rw [← hcT]; have hcard := h.card hb hc; refine ee fun i hi hbi => ?_
  rw [Nat.testBit_and, Bool.and_eq_true] at hbi ⊢; refine ⟨?_, hbi.2⟩; cases hb' : b.testBit i
  ·have h1 : pc b < pc c := by
    have e1 := dZ c (2 ^ i); have hle : pc b ≤ pc (dif c (2 ^ i)) := ee fun j hj hbj => by
     rw [del_bit]; have : c.testBit j = true := by
      cases hcj : c.testBit j
      ·have : 0 < pc (dif b c) := j6 hj (by rw [dif_bit, hbj, hcj]; rfl); omega
      ·rfl
     rw [this]; have hne : ¬ i = j := by rintro rfl; rw [hb'] at hbj; cases hbj
     simp [hne]
    have := eP hi hbi.1; omega
   omega
  ·rfl
 | succ d ih =>
  intro b hb hS hd; by_cases hT : pc (b &&& T) = rkN L T
  ·exact ⟨b, hb, hS, hT⟩
  ·have hlt : pc (b &&& T) < pc (c &&& T) := by
    have := g0 hb T; omega
   have hcard := h.card hb hc; have e1 := dZ b T; have e2 := dZ c T; obtain ⟨e, he, hbe, hce⟩ := iU (a := dif c T) (b := dif b T) (by omega); rw [dif_bit, Bool.and_eq_true, Bool.not_eq_true'] at hbe; have hce' : c.testBit e = false := by
    rw [dif_bit, hbe.2] at hce
    simpa using hce
   obtain ⟨f, hf, h1, h2, hm⟩ := h.exch b hb c hc e he hbe.1 hce'; refine ih (swp b e f) hm ?_ ?_
   ·refine Nat.le_antisymm (g0 hm S) ?_; rw [← hS]; refine ee fun i _ hi => ?_
    rw [Nat.testBit_and, Bool.and_eq_true] at hi ⊢; refine ⟨?_, hi.2⟩; have hie : ¬ e = i := by rintro rfl; have := hST _ hi.2; rw [hbe.2] at this; cases this
    rw [swp_bit, hi.1]; simp [hie]
   ·have e3 : dif (swp b e f) c = dif (dif b c) (2 ^ e) := by
     apply Nat.eq_of_testBit_eq
     intro i; rw [dif_bit, swp_bit, del_bit, dif_bit]; by_cases hi : f = i
     ·subst hi; rw [h1, h2]; simp
     ·simp [hi]
      cases b.testBit i <;> cases c.testBit i <;> simp
    rw [e3]; have := eP (a := dif b c) he (by rw [dif_bit, hbe.1, hce']; rfl); omega
theorem Mat.both {m : Nat} {L : List Nat} (h : Mat m L) {S T : Nat} (hST : ∀ i, S.testBit i = true → T.testBit i = true) : ∃ b ∈ L, pc (b &&& S) = rkN L S ∧ pc (b &&& T) = rkN L T := by
 obtain ⟨c, hc, hcT⟩ := gN h.some T; obtain ⟨b, hb, hbS⟩ := gN h.some S; exact Mat.both_step h hST hc hcT _ b hb hbS rfl
theorem Mat.rk_sub {m : Nat} {L : List Nat} (h : Mat m L) (X Y : Nat) : rkN L (X ||| Y) + rkN L (X &&& Y) ≤ rkN L X + rkN L Y := by
 obtain ⟨b, hb, h1, h2⟩ := Mat.both h (S := X &&& Y) (T := X ||| Y) (fun i hi => by rw [Nat.testBit_and, Bool.and_eq_true] at hi; rw [Nat.testBit_or, hi.1]; rfl); have e := gT (b &&& X) (b &&& Y); have e1 : (b &&& X) ||| (b &&& Y) = b &&& (X ||| Y) := by
  apply Nat.eq_of_testBit_eq
  intro i; simp only [Nat.testBit_or, Nat.testBit_and]; cases b.testBit i <;> cases X.testBit i <;> cases Y.testBit i <;> rfl
 have e2 : (b &&& X) &&& (b &&& Y) = b &&& (X &&& Y) := by
  apply Nat.eq_of_testBit_eq
  intro i; simp only [Nat.testBit_and]; cases b.testBit i <;> cases X.testBit i <;> cases Y.testBit i <;> rfl
 rw [e1, e2, h1, h2] at e; have k1 := g0 hb X; have k2 := g0 hb Y; omega
structure RkF (r : Nat → Nat) : Prop where
 zero : r 0 = 0
 one : ∀ i, r (2 ^ i) ≤ 1
 mono : ∀ X Y : Nat, (∀ i, X.testBit i = true → Y.testBit i = true) → r X ≤ r Y
 sub : ∀ X Y : Nat, r (X ||| Y) + r (X &&& Y) ≤ r X + r Y
theorem Mat.rkF {m : Nat} {L : List Nat} (h : Mat m L) : RkF (rkN L) := by
 refine ⟨?_, ?_, fun X Y hXY => gC h.some hXY, Mat.rk_sub h⟩
 ·have := gL L 0; rw [pc_zero] at this; omega
 ·intro i; have h1 := gL L (2 ^ i); by_cases hi : i < 8
  ·rw [fA hi] at h1; exact h1
  ·have : pc (2 ^ i) ≤ pc 0 := ee fun j hj hb => by
    rw [Nat.testBit_two_pow] at hb; have := of_decide_eq_true hb; omega
   rw [pc_zero] at this; omega
theorem RkF.con {r : Nat → Nat} (h : RkF r) {e : Nat} (he : r (2 ^ e) = 1) : RkF (fun X => r (X ||| 2 ^ e) - 1) := by
 have hge : ∀ X, 1 ≤ r (X ||| 2 ^ e) := fun X => by
  have := h.mono (2 ^ e) (X ||| 2 ^ e) (fun i hi => by rw [Nat.testBit_or, hi, Bool.or_true]); omega
 refine ⟨?_, ?_, ?_, ?_⟩
 ·show r (0 ||| 2 ^ e) - 1 = 0
  rw [Nat.zero_or, he]
 ·intro i; have h1 := h.sub (2 ^ i) (2 ^ e); have h2 := h.one i
  show r (2 ^ i ||| 2 ^ e) - 1 ≤ 1
  omega
 ·intro X Y hXY; have := h.mono (X ||| 2 ^ e) (Y ||| 2 ^ e) (fun i hi => by
   rw [Nat.testBit_or, Bool.or_eq_true] at hi ⊢; exact hi.imp (hXY i) id)
  show r (X ||| 2 ^ e) - 1 ≤ r (Y ||| 2 ^ e) - 1
  omega
 ·intro X Y; have h1 := h.sub (X ||| 2 ^ e) (Y ||| 2 ^ e); have e1 : (X ||| 2 ^ e) ||| (Y ||| 2 ^ e) = (X ||| Y) ||| 2 ^ e := by
   apply Nat.eq_of_testBit_eq
   intro i; simp only [Nat.testBit_or]; cases X.testBit i <;> cases Y.testBit i <;> cases (2 ^ e).testBit i <;> rfl
  have e2 : (X ||| 2 ^ e) &&& (Y ||| 2 ^ e) = (X &&& Y) ||| 2 ^ e := by
   apply Nat.eq_of_testBit_eq
   intro i; simp only [Nat.testBit_or, Nat.testBit_and]; cases X.testBit i <;> cases Y.testBit i <;> cases (2 ^ e).testBit i <;> rfl
  rw [e1, e2] at h1; have g1 := hge X; have g2 := hge Y; have g3 := hge (X ||| Y); have g4 := hge (X &&& Y)
  show r ((X ||| Y) ||| 2 ^ e) - 1 + (r ((X &&& Y) ||| 2 ^ e) - 1) ≤ r (X ||| 2 ^ e) - 1 + (r (Y ||| 2 ^ e) - 1)
  omega
theorem ig {m A i : Nat} (h : A < 2 ^ m) (hi : m ≤ i) : A.testBit i = false := Nat.testBit_lt_two_pow (Nat.lt_of_lt_of_le h (Nat.pow_le_pow_right (by omega) hi))
theorem lU {X Y m : Nat} (h1 : ∀ i, i < m → X.testBit i = Y.testBit i) (h2 : X.testBit m = Y.testBit m) (h3 : ∀ i, m < i → X.testBit i = Y.testBit i) : X = Y := by
 apply Nat.eq_of_testBit_eq
 intro i; rcases Nat.lt_trichotomy i m with h | h | h
 ·exact h1 i h
 ·subst h; exact h2
 ·exact h3 i h
theorem nb : ∀ (m : Nat), m ≤ 8 → ∀ (r1 r2 : Nat → Nat), RkF r1 → RkF r2 → ∀ k : Nat, (∀ u, u < 2 ^ m → k ≤ r1 u + r2 (dif (cq m) u)) → ∃ I, I < 2 ^ m ∧ pc I ≤ r1 I ∧ pc I ≤ r2 I ∧ pc I = k := by
 intro m
 induction m with
 | zero =>
  intro _ r1 r2 h1 h2 k hk; have := hk 0 (by decide); rw [show dif (cq 0) 0 = 0 from by decide, h1.zero, h2.zero] at this; exact ⟨0, by decide, by rw [pc_zero]; exact Nat.zero_le _, by rw [pc_zero]; exact Nat.zero_le _, by rw [pc_zero]; omega⟩
 | succ m ih =>
  intro hm r1 r2 h1 h2 k hk; cases k with
  | zero => exact ⟨0, Nat.two_pow_pos _, by rw [pc_zero]; exact Nat.zero_le _, by rw [pc_zero]; exact Nat.zero_le _, pc_zero⟩
  | succ k =>
  have hpow : 2 ^ (m + 1) = 2 ^ m + 2 ^ m := by rw [Nat.pow_succ]; omega
  have hadd : ∀ u, u < 2 ^ m → u ||| 2 ^ m < 2 ^ (m + 1) := fun u hu => Nat.or_lt_two_pow (by omega) (Nat.pow_lt_pow_right (by omega) (by omega))
  by_cases hdel : ∀ u, u < 2 ^ m → k + 1 ≤ r1 u + r2 (dif (cq m) u)
  ·obtain ⟨I, hI, k1, k2, k3⟩ := ih (by omega) r1 r2 h1 h2 (k + 1) hdel; exact ⟨I, by omega, k1, k2, k3⟩
  obtain ⟨A, hA⟩ := Classical.not_forall.1 hdel; obtain ⟨hA, hAk⟩ := Classical.not_imp.1 hA; have dA1 : dif (cq (m + 1)) (A ||| 2 ^ m) = dif (cq m) A := by
   refine lU (m := m) (fun i hi => ?_) ?_ (fun i hi => ?_) <;> simp only [dif_bit, full_bit, Nat.testBit_or, Nat.testBit_two_pow]
   ·have : ¬ m = i := by omega
    simp [this, hi, show i < m + 1 by omega]
   ·simp
   ·simp [show ¬ i < m + 1 by omega, show ¬ i < m by omega]
  have dA2 : dif (cq (m + 1)) A = dif (cq m) A ||| 2 ^ m := by
   refine lU (m := m) (fun i hi => ?_) ?_ (fun i hi => ?_) <;> simp only [dif_bit, full_bit, Nat.testBit_or, Nat.testBit_two_pow]
   ·have : ¬ m = i := by omega
    simp [this, hi, show i < m + 1 by omega]
   ·simp [ig hA (Nat.le_refl m)]
   ·have : ¬ m = i := by omega
    simp [show ¬ i < m + 1 by omega, show ¬ i < m by omega, this]
  have e1 : r1 (2 ^ m) = 1 := by
   have ho := h1.one m; rcases Nat.eq_zero_or_pos (r1 (2 ^ m)) with hz | hz
   ·have hs := h1.sub A (2 ^ m); have hb := hk (A ||| 2 ^ m) (hadd A hA); rw [dA1] at hb; omega
   ·omega
  have e2 : r2 (2 ^ m) = 1 := by
   have ho := h2.one m; rcases Nat.eq_zero_or_pos (r2 (2 ^ m)) with hz | hz
   ·have hs := h2.sub (dif (cq m) A) (2 ^ m); have hb := hk A (by omega); rw [dA2] at hb; omega
   ·omega
  by_cases hcon : ∀ u, u < 2 ^ m → k ≤ (r1 (u ||| 2 ^ m) - 1) + (r2 (dif (cq m) u ||| 2 ^ m) - 1)
  ·obtain ⟨I, hI, k1, k2, k3⟩ := ih (by omega) _ _ (h1.con e1) (h2.con e2) k hcon; have hp : pc (I ||| 2 ^ m) = pc I + 1 := er (by omega) (ig hI (Nat.le_refl m)); have g1 := h1.mono (2 ^ m) (I ||| 2 ^ m) (fun i hi => by rw [Nat.testBit_or, hi, Bool.or_true]); have g2 := h2.mono (2 ^ m) (I ||| 2 ^ m) (fun i hi => by rw [Nat.testBit_or, hi, Bool.or_true]); have k1' : pc I ≤ r1 (I ||| 2 ^ m) - 1 := k1; have k2' : pc I ≤ r2 (I ||| 2 ^ m) - 1 := k2; exact ⟨I ||| 2 ^ m, hadd I hI, by omega, by omega, by omega⟩
  obtain ⟨B, hB⟩ := Classical.not_forall.1 hcon; obtain ⟨hB, hBk⟩ := Classical.not_imp.1 hB; have g1 := h1.mono (2 ^ m) (B ||| 2 ^ m) (fun i hi => by rw [Nat.testBit_or, hi, Bool.or_true]); have g2 := h2.mono (2 ^ m) (dif (cq m) B ||| 2 ^ m) (fun i hi => by rw [Nat.testBit_or, hi, Bool.or_true]); have s1 := h1.sub A (B ||| 2 ^ m); have s2 := h2.sub (dif (cq m) A) (dif (cq m) B ||| 2 ^ m); have hab : A &&& (B ||| 2 ^ m) < 2 ^ (m + 1) := Nat.lt_of_le_of_lt Nat.and_le_left (by omega); have hob : A ||| (B ||| 2 ^ m) < 2 ^ (m + 1) := Nat.or_lt_two_pow (by omega) (hadd B hB); have b1 := hk _ hob; have b2 := hk _ hab; have d1 : dif (cq (m + 1)) (A ||| (B ||| 2 ^ m)) = dif (cq m) A &&& (dif (cq m) B ||| 2 ^ m) := by
   refine lU (m := m) (fun i hi => ?_) ?_ (fun i hi => ?_) <;> simp only [dif_bit, full_bit, Nat.testBit_or, Nat.testBit_and, Nat.testBit_two_pow]
   ·have : ¬ m = i := by omega
    simp [this, hi, show i < m + 1 by omega]
   ·simp
   ·simp [show ¬ i < m + 1 by omega, show ¬ i < m by omega]
  have d2 : dif (cq (m + 1)) (A &&& (B ||| 2 ^ m)) = dif (cq m) A ||| (dif (cq m) B ||| 2 ^ m) := by
   refine lU (m := m) (fun i hi => ?_) ?_ (fun i hi => ?_) <;> simp only [dif_bit, full_bit, Nat.testBit_or, Nat.testBit_and, Nat.testBit_two_pow]
   ·have : ¬ m = i := by omega
    simp [this, hi, show i < m + 1 by omega]
   ·simp [ig hA (Nat.le_refl m)]
   ·have : ¬ m = i := by omega
    simp [show ¬ i < m + 1 by omega, show ¬ i < m by omega, this]
  rw [d1] at b1; rw [d2] at b2; omega
theorem lm {m a b : Nat} (ha : a < 2 ^ m) (hb : b < 2 ^ m) : a ||| b < 2 ^ m := Nat.or_lt_two_pow ha hb
theorem gO {m s i : Nat} (hs : s < 2 ^ m) (h : s.testBit i = true) : i < m := by
 refine Classical.byContradiction fun hc => ?_
 rw [ig hs (by omega)] at h; cases h
theorem dO {m i : Nat} (h : i < m) : 2 ^ i < 2 ^ m := Nat.pow_lt_pow_right (by omega) h
structure Ind (m : Nat) (I : Nat → Prop) : Prop where
 size : m ≤ 8
 sets : ∀ s, I s → s < 2 ^ m
 zero : I 0
 down : ∀ s t, I t → subN s t → I s
 aug : ∀ a b, I a → I b → pc a < pc b → ∃ e, e < 8 ∧ b.testBit e = true ∧ a.testBit e = false ∧ I (a ||| 2 ^ e)
def orL (a : Nat) : List Nat → Nat
 | [] => a
 | e :: es => orL a es ||| 2 ^ e
theorem orL_bit (a i : Nat) : ∀ es : List Nat, (orL a es).testBit i = (a.testBit i || decide (i ∈ es)) := by
 intro es
 induction es with
 | nil => simp [orL]
 | cons e es ih =>
  simp only [orL]; rw [add_bit, ih]; by_cases h : e = i
  ·subst h; simp
  ·have : ¬ i = e := fun x => h x.symm
   simp [h, this]
theorem Mat.aug {m : Nat} {L : List Nat} (h : Mat m L) {a b : Nat} (ha : indN L a = true) (hb : indN L b = true) (hlt : pc a < pc b) : ∃ e, e < 8 ∧ b.testBit e = true ∧ a.testBit e = false ∧ indN L (a ||| 2 ^ e) = true := by
 refine Classical.byContradiction fun hc => ?_
 have hlt256 : ∀ s, indN L s = true → s < 256 := fun s hs => by
  obtain ⟨x, hx, hsub⟩ := indN_iff.1 hs; exact Nat.lt_of_le_of_lt (fq hsub) (h.lt x hx)
 have ra := (ej (hlt256 a ha) h.some).2 ha; have rb := (ej (hlt256 b hb) h.some).2 hb; have h1 : ∀ e, e < 8 → b.testBit e = true → rkN L (a ||| 2 ^ e) ≤ rkN L a := by
  intro e he hbe; cases hae : a.testBit e
  ·have hn : ¬ indN L (a ||| 2 ^ e) = true := fun x => hc ⟨e, he, hbe, hae, x⟩
   have hl : a ||| 2 ^ e < 256 := Nat.or_lt_two_pow (n := 8) (hlt256 a ha) (dO he); have hne := mt (ej hl h.some).1 hn; have hle := gL L (a ||| 2 ^ e); rw [er he hae] at hle hne; omega
  ·refine gC h.some fun i hi => ?_
   rw [add_bit, Bool.or_eq_true] at hi; rcases hi with hi | hi
   ·exact hi
   ·rw [← of_decide_eq_true hi]; exact hae
 have h2 : ∀ es : List Nat, (∀ e ∈ es, e < 8 ∧ b.testBit e = true) → rkN L (orL a es) ≤ rkN L a := by
  intro es
  induction es with
  | nil => intro _; exact Nat.le_refl _
  | cons e es ih =>
   intro hes; have ih' := ih (fun x hx => hes x (List.mem_cons_of_mem _ hx)); have he := hes e (List.mem_cons_self ..); have hs := Mat.rk_sub h (orL a es) (a ||| 2 ^ e); have k1 : rkN L a ≤ rkN L (orL a es &&& (a ||| 2 ^ e)) := gC h.some fun i hi => by
    rw [Nat.testBit_and, orL_bit, add_bit, hi]; rfl
   have k2 : rkN L (orL a es ||| 2 ^ e) ≤ rkN L (orL a es ||| (a ||| 2 ^ e)) := gC h.some fun i hi => by
    rw [Nat.testBit_or, Bool.or_eq_true] at hi ⊢; rcases hi with hi | hi
    ·exact .inl hi
    ·right; rw [Nat.testBit_or, hi, Bool.or_true]
   have k3 := h1 e he.1 he.2; simp only [orL]; omega
 have h3 := h2 (els b) (fun e he => d9.1 he); have h4 : rkN L b ≤ rkN L (orL a (els b)) := gC h.some fun i hi => by
  rw [orL_bit, Bool.or_eq_true]
  right
  refine decide_eq_true (d9.2 ⟨?_, hi⟩); refine Classical.byContradiction fun hc => ?_
  rw [j3 (hlt256 b hb) hc] at hi; cases hi
 omega
theorem Mat.ind {m : Nat} {L : List Nat} (h : Mat m L) : Ind m (fun s => indN L s = true) := by
 refine ⟨h.size, ?_, ?_, ?_, ?_⟩
 ·intro s hs; obtain ⟨x, hx, hsub⟩ := indN_iff.1 hs; exact Nat.lt_of_le_of_lt (fq hsub) (h.sets x hx)
 ·obtain ⟨x, hx⟩ := List.exists_mem_of_ne_nil L h.some; exact indN_iff.2 ⟨x, hx, jF x⟩
 ·intro s t ht hst; obtain ⟨x, hx, hsub⟩ := indN_iff.1 ht; exact indN_iff.2 ⟨x, hx, gh hst hsub⟩
 ·intro a b ha hb hlt; exact Mat.aug h ha hb hlt
variable {m : Nat} {I : Nat → Prop}
theorem Ind.lt (h : Ind m I) {s : Nat} (hs : I s) : s < 256 := Nat.lt_of_lt_of_le (h.sets s hs) (bZ h.size)
theorem Ind.max (h : Ind m I) : ∃ r, (∃ b, I b ∧ pc b = r) ∧ ∀ s, I s → pc s ≤ r := by
 have key : ∀ d b, I b → 8 - pc b ≤ d → ∃ r, (∃ b, I b ∧ pc b = r) ∧ ∀ s, I s → pc s ≤ r := by
  intro d
  induction d with
  | zero =>
   intro b hb hd; refine ⟨pc b, ⟨b, hb, rfl⟩, fun s _ => ?_⟩; have := kI s; have := kI b; omega
  | succ d ih =>
   intro b hb hd; by_cases hx : ∃ s, I s ∧ pc b < pc s
   ·obtain ⟨s, hs, hlt⟩ := hx; exact ih s hs (by omega)
   ·refine ⟨pc b, ⟨b, hb, rfl⟩, fun s hs => ?_⟩; have : ¬ pc b < pc s := fun hl => hx ⟨s, hs, hl⟩
    omega
 exact key 8 0 h.zero (by omega)
theorem Ind.mat (h : Ind m I) {L : List Nat} {r : Nat} (hL : ∀ b, b ∈ L ↔ I b ∧ pc b = r) (hne : ∃ b, I b ∧ pc b = r) : Mat m L := by
 refine ⟨h.size, fun b hb => h.sets b ((hL b).1 hb).1, ?_, ?_⟩
 ·obtain ⟨b, hb⟩ := hne; intro e; have := (hL b).2 hb; rw [e] at this; simp at this
 ·intro a ha b hb e he hae hbe; obtain ⟨ia, pa⟩ := (hL a).1 ha; obtain ⟨ib, pb⟩ := (hL b).1 hb; have hd := eP he hae; obtain ⟨f, hf, h1, h2, h3⟩ := h.aug (dif a (2 ^ e)) b (h.down _ a ia (bU.2 fun i hi => by
   rw [dif_bit, Bool.and_eq_true] at hi; exact hi.1)) ib (by omega)
  have hfe : ¬ e = f := by rintro rfl; rw [hbe] at h1; cases h1
  have haf : a.testBit f = false := by
   rw [del_bit] at h2
   simpa [hfe] using h2
  refine ⟨f, hf, h1, haf, (hL _).2 ⟨h3, ?_⟩⟩; rw [ij he hf hae haf]; exact pa
theorem Ind.indN_iff (h : Ind m I) {L : List Nat} {r : Nat} (hL : ∀ b, b ∈ L ↔ I b ∧ pc b = r) (hne : ∃ b, I b ∧ pc b = r) (hmax : ∀ s, I s → pc s ≤ r) (s : Nat) : indN L s = true ↔ I s := by
 constructor
 ·intro hs; obtain ⟨x, hx, hsub⟩ := Z.indN_iff.1 hs; exact h.down s x ((hL x).1 hx).1 hsub
 ·obtain ⟨b, ib, pb⟩ := hne; have key : ∀ d s, I s → r - pc s ≤ d → ∃ x, x ∈ L ∧ subN s x := by
   intro d
   induction d with
   | zero =>
    intro s hs hd; have := hmax s hs; exact ⟨s, (hL s).2 ⟨hs, by omega⟩, e7 s⟩
   | succ d ih =>
    intro s hs hd; by_cases he : pc s = r
    ·exact ⟨s, (hL s).2 ⟨hs, he⟩, e7 s⟩
    ·have := hmax s hs; obtain ⟨e, he8, h1, h2, h3⟩ := h.aug s b hs ib (by omega); obtain ⟨x, hx, hsub⟩ := ih _ h3 (by rw [er he8 h2]; omega); refine ⟨x, hx, gh (bU.2 fun i hi => ?_) hsub⟩; rw [add_bit, hi, Bool.true_or]
  intro hs; obtain ⟨x, hx, hsub⟩ := key _ s hs (Nat.le_refl _); exact Z.indN_iff.2 ⟨x, hx, hsub⟩
theorem fp {x y : Nat} (h : x &&& y = 0) : pc (x ||| y) = pc x + pc y := by
 have := gT x y; rw [h, pc_zero] at this; omega
theorem kw {x y i : Nat} (h : x &&& y = 0) (hx : x.testBit i = true) : y.testBit i = false := by
 have := congrArg (fun z => Nat.testBit z i) h; simp only [Nat.testBit_and, hx, Bool.true_and, Nat.zero_testBit] at this; exact this
def Uni (I J : Nat → Prop) (s : Nat) : Prop := ∃ x y, I x ∧ J y ∧ s = x ||| y
theorem Uni.disj {I J : Nat → Prop} (hJ : ∀ s t, J t → subN s t → J s) {s : Nat} (h : Uni I J s) : ∃ x y, I x ∧ J y ∧ s = x ||| y ∧ x &&& y = 0 := by
 obtain ⟨x, y, hx, hy, rfl⟩ := h; refine ⟨x, dif y x, hx, hJ _ y hy (bU.2 fun i hi => by rw [dif_bit, Bool.and_eq_true] at hi; exact hi.1), ?_, ?_⟩
 ·apply Nat.eq_of_testBit_eq
  intro i; rw [Nat.testBit_or, Nat.testBit_or, dif_bit]; cases x.testBit i <;> cases y.testBit i <;> rfl
 ·apply Nat.eq_of_testBit_eq
  intro i; rw [Nat.testBit_and, dif_bit, Nat.zero_testBit]; cases x.testBit i <;> cases y.testBit i <;> rfl
theorem lu {I J : Nat → Prop} (hI : Ind m I) (hJ : Ind m J) {b1 b2 : Nat} (ib1 : I b1) (ib2 : J b2) (hb : b1 &&& b2 = 0) : ∀ (n a1 a2 : Nat), I a1 → J a2 → a1 &&& a2 = 0 → pc (a1 ||| a2) < pc (b1 ||| b2) → 16 ≤ n + (pc (a1 &&& b1) + pc (a2 &&& b2)) → ∃ e, e < 8 ∧ (b1 ||| b2).testBit e = true ∧ (a1 ||| a2).testBit e = false ∧ Uni I J ((a1 ||| a2) ||| 2 ^ e) := by
 intro n
 induction n with
 | zero =>
  intro a1 a2 i1 i2 hd hlt hn; have k1 := fN b1 a1; have k2 := fN b2 a2; rw [Nat.and_comm] at k1 k2; have := fp hd; have := fp hb; have h8 := kI (b1 ||| b2); omega
 | succ n ih =>
  intro a1 a2 i1 i2 hd hlt hn; have ea := fp hd; have eb := fp hb; by_cases hc : pc a1 < pc b1
  ·obtain ⟨e, he, h1, h2, h3⟩ := hI.aug a1 b1 i1 ib1 hc; cases h4 : a2.testBit e
   ·refine ⟨e, he, by rw [Nat.testBit_or, h1, Bool.true_or], by rw [Nat.testBit_or, h2, h4]; rfl, a1 ||| 2 ^ e, a2, h3, i2, ?_⟩
    apply Nat.eq_of_testBit_eq
    intro i; simp only [Nat.testBit_or]; cases a1.testBit i <;> cases a2.testBit i <;> cases (2 ^ e).testBit i <;> rfl
   ·have eu : (a1 ||| 2 ^ e) ||| dif a2 (2 ^ e) = a1 ||| a2 := by
     apply Nat.eq_of_testBit_eq
     intro i; rw [Nat.testBit_or, add_bit, del_bit, Nat.testBit_or]; by_cases hi : e = i
     ·subst hi; rw [h4]; simp
     ·simp [hi]
    have := ih (a1 ||| 2 ^ e) (dif a2 (2 ^ e)) h3 (hJ.down _ a2 i2 (bU.2 fun i hi => by rw [del_bit, Bool.and_eq_true] at hi; exact hi.1)) (by
      apply Nat.eq_of_testBit_eq
      intro i; rw [Nat.testBit_and, add_bit, del_bit, Nat.zero_testBit]; by_cases hi : e = i
      ·subst hi; simp
      ·have hx := congrArg (fun z => Nat.testBit z i) hd; simp only [Nat.testBit_and, Nat.zero_testBit] at hx; simp [hi, hx]) (by rw [eu]; exact hlt) (by
      have k1 : pc ((a1 ||| 2 ^ e) &&& b1) = pc (a1 &&& b1) + 1 := by
       rw [← er (a := a1 &&& b1) he (by rw [Nat.testBit_and, h2]; rfl)]
       congr 1
       apply Nat.eq_of_testBit_eq
       intro i; rw [Nat.testBit_and, add_bit, add_bit, Nat.testBit_and]; by_cases hi : e = i
       ·subst hi; rw [h1]; simp
       ·simp [hi]
      have k2 : dif a2 (2 ^ e) &&& b2 = a2 &&& b2 := by
       apply Nat.eq_of_testBit_eq
       intro i; rw [Nat.testBit_and, del_bit, Nat.testBit_and]; by_cases hi : e = i
       ·subst hi; rw [kw hb h1]; simp
       ·simp [hi]
      rw [k1, k2]; omega)
    rw [eu] at this; exact this
  ·have hc2 : pc a2 < pc b2 := by omega
   obtain ⟨e, he, h1, h2, h3⟩ := hJ.aug a2 b2 i2 ib2 hc2; have hb' : b2 &&& b1 = 0 := by rw [Nat.and_comm]; exact hb
   cases h4 : a1.testBit e
   ·refine ⟨e, he, by rw [Nat.testBit_or, h1, Bool.or_true], by rw [Nat.testBit_or, h2, h4]; rfl, a1, a2 ||| 2 ^ e, i1, h3, ?_⟩
    apply Nat.eq_of_testBit_eq
    intro i; simp only [Nat.testBit_or]; cases a1.testBit i <;> cases a2.testBit i <;> cases (2 ^ e).testBit i <;> rfl
   ·have eu : dif a1 (2 ^ e) ||| (a2 ||| 2 ^ e) = a1 ||| a2 := by
     apply Nat.eq_of_testBit_eq
     intro i; rw [Nat.testBit_or, add_bit, del_bit, Nat.testBit_or]; by_cases hi : e = i
     ·subst hi; rw [h4]; simp
     ·simp [hi]
    have := ih (dif a1 (2 ^ e)) (a2 ||| 2 ^ e) (hI.down _ a1 i1 (bU.2 fun i hi => by rw [del_bit, Bool.and_eq_true] at hi; exact hi.1)) h3 (by
      apply Nat.eq_of_testBit_eq
      intro i; rw [Nat.testBit_and, add_bit, del_bit, Nat.zero_testBit]; by_cases hi : e = i
      ·subst hi; simp
      ·have hx := congrArg (fun z => Nat.testBit z i) hd; simp only [Nat.testBit_and, Nat.zero_testBit] at hx; simp [hi, hx]) (by rw [eu]; exact hlt) (by
      have k1 : pc ((a2 ||| 2 ^ e) &&& b2) = pc (a2 &&& b2) + 1 := by
       rw [← er (a := a2 &&& b2) he (by rw [Nat.testBit_and, h2]; rfl)]
       congr 1
       apply Nat.eq_of_testBit_eq
       intro i; rw [Nat.testBit_and, add_bit, add_bit, Nat.testBit_and]; by_cases hi : e = i
       ·subst hi; rw [h1]; simp
       ·simp [hi]
      have k2 : dif a1 (2 ^ e) &&& b1 = a1 &&& b1 := by
       apply Nat.eq_of_testBit_eq
       intro i; rw [Nat.testBit_and, del_bit, Nat.testBit_and]; by_cases hi : e = i
       ·subst hi; rw [kw hb' h1]; simp
       ·simp [hi]
      rw [k1, k2]; omega)
    rw [eu] at this; exact this
theorem Ind.union {I J : Nat → Prop} (hI : Ind m I) (hJ : Ind m J) : Ind m (Uni I J) := by
 refine ⟨hI.size, ?_, ?_, ?_, ?_⟩
 ·rintro s ⟨x, y, hx, hy, rfl⟩; exact lm (hI.sets x hx) (hJ.sets y hy)
 ·exact ⟨0, 0, hI.zero, hJ.zero, rfl⟩
 ·rintro s t ⟨x, y, hx, hy, rfl⟩ hst; refine ⟨x &&& s, y &&& s, hI.down _ x hx (bU.2 fun i hi => by rw [Nat.testBit_and, Bool.and_eq_true] at hi; exact hi.1), hJ.down _ y hy (bU.2 fun i hi => by rw [Nat.testBit_and, Bool.and_eq_true] at hi; exact hi.1), ?_⟩
  apply Nat.eq_of_testBit_eq
  intro i; have h1 := bU.1 hst i; rw [Nat.testBit_or] at h1; rw [Nat.testBit_or, Nat.testBit_and, Nat.testBit_and]; cases hs : s.testBit i
  ·simp
  ·rw [hs] at h1; simpa using (h1 rfl).symm
 ·intro a b ha hb hlt; obtain ⟨a1, a2, i1, i2, rfl, hd⟩ := Uni.disj hJ.down ha; obtain ⟨b1, b2, j1, j2, rfl, hd'⟩ := Uni.disj hJ.down hb; exact lu hI hJ j1 j2 hd' 16 a1 a2 i1 i2 hd hlt (by omega)
def One (S s : Nat) : Prop := s = 0 ∨ ∃ e, e < 8 ∧ S.testBit e = true ∧ s = 2 ^ e
theorem Ind.one {S : Nat} (hm : m ≤ 8) (hS : S < 2 ^ m) : Ind m (One S) := by
 refine ⟨hm, ?_, .inl rfl, ?_, ?_⟩
 ·rintro s (rfl | ⟨e, he, h1, rfl⟩)
  ·exact Nat.two_pow_pos _
  ·exact dO (gO hS h1)
 ·rintro s t (rfl | ⟨e, he, h1, rfl⟩) hst
  ·left
   have := fq hst; omega
  ·cases hb : s.testBit e
   ·left
    apply Nat.eq_of_testBit_eq
    intro i; rw [Nat.zero_testBit]; cases hi : s.testBit i
    ·rfl
    ·have := bU.1 hst i hi; rw [Nat.testBit_two_pow] at this; rw [of_decide_eq_true this, hi] at hb; cases hb
   ·right
    refine ⟨e, he, h1, ?_⟩
    apply Nat.eq_of_testBit_eq
    intro i; rw [Nat.testBit_two_pow]; by_cases hi : e = i
    ·subst hi; rw [hb]; simp
    ·rw [decide_eq_false hi]; cases hs : s.testBit i
     ·rfl
     ·have := bU.1 hst i hs; rw [Nat.testBit_two_pow] at this; exact absurd (of_decide_eq_true this) hi
 ·rintro a b (rfl | ⟨e, he, h1, rfl⟩) hb hlt
  ·rcases hb with rfl | ⟨f, hf, h2, rfl⟩
   ·omega
   ·exact ⟨f, hf, by rw [Nat.testBit_two_pow]; simp, Nat.zero_testBit _, by rw [Nat.zero_or]; exact .inr ⟨f, hf, h2, rfl⟩⟩
  ·rw [fA he] at hlt; rcases hb with rfl | ⟨f, hf, h2, rfl⟩
   ·rw [pc_zero] at hlt; omega
   ·rw [fA hf] at hlt; omega
theorem l9 {L : List Nat} (h : L.Pairwise (· < ·)) : (ints L).Pairwise (· < ·) := by
 unfold ints; rw [List.pairwise_map]; exact h.imp (fun hab => by omega)
theorem eL {a b : Nat} (ha : a < 256) (hb : b < 256) (h : subN a b) (hc : pc b ≤ pc a) : a = b := by
 apply jU ha hb
 intro i hi; cases hbi : b.testBit i
 ·cases hai : a.testBit i
  ·rfl
  ·rw [bU.1 h i hai] at hbi; cases hbi
 ·cases hai : a.testBit i
  ·have h1 : pc a ≤ pc (dif b (2 ^ i)) := ee fun j _ hj => by
    rw [del_bit, bU.1 h j hj]; have : ¬ i = j := by rintro rfl; rw [hai] at hj; cases hj
    simp [this]
   have := eP hi hbi; omega
  ·rfl
variable {m : Nat} {I : Nat → Prop}
theorem Ind.fill (h : Ind m I) : ∀ (d a b : Nat), I a → I b → pc a + d = pc b → ∃ c, I c ∧ subN a c ∧ (∀ i, c.testBit i = true → a.testBit i = true ∨ b.testBit i = true) ∧ pc c = pc b := by
 intro d
 induction d with
 | zero => intro a b ha hb hd; exact ⟨a, ha, e7 a, fun i hi => .inl hi, by omega⟩
 | succ d ih =>
  intro a b ha hb hd; obtain ⟨e, he, h1, h2, h3⟩ := h.aug a b ha hb (by omega); obtain ⟨c, hc, hs, hi, hp⟩ := ih (a ||| 2 ^ e) b h3 hb (by rw [er he h2]; omega); refine ⟨c, hc, gh (bU.2 fun i hi => by rw [add_bit, hi, Bool.true_or]) hs, fun i hci => ?_, hp⟩; rcases hi i hci with hi | hi
  ·rw [add_bit, Bool.or_eq_true] at hi; rcases hi with hi | hi
   ·exact .inl hi
   ·right; rw [← of_decide_eq_true hi]; exact h1
  ·exact .inr hi
theorem Ind.out_one (h : Ind m I) {s z Y : Nat} (hs : I s) (hz8 : z < 8) (hz : s.testBit z = false) (hd : ¬ I (s ||| 2 ^ z)) (hJ : I (dif s Y ||| 2 ^ z)) : ∃ y, y < 8 ∧ s.testBit y = true ∧ Y.testBit y = true ∧ I (swp s y z) := by
 have hs256 := h.lt hs; have hYz : (dif s Y).testBit z = false := by rw [dif_bit, hz]; rfl
 have hpJ := er hz8 hYz; have hle : pc (dif s Y) ≤ pc s := jO (bU.2 fun i hi => by rw [dif_bit, Bool.and_eq_true] at hi; exact hi.1); have hlt : pc (dif s Y) < pc s := by
  refine Classical.byContradiction fun hc => ?_
  have e : dif s Y = s := eL (gi hs256) hs256 (bU.2 fun i hi => by rw [dif_bit, Bool.and_eq_true] at hi; exact hi.1) (by omega); rw [e] at hJ; exact hd hJ
 obtain ⟨c, hc, hsub, hin, hpc⟩ := h.fill (pc s - pc (dif s Y ||| 2 ^ z)) _ s hJ hs (by omega); have hcz : c.testBit z = true := bU.1 hsub z (by rw [add_bit]; simp); have hex : ∃ y, s.testBit y = true ∧ c.testBit y = false := by
  refine Classical.byContradiction fun hn => hd (h.down _ c hc (bU.2 fun i hi => ?_))
  rw [add_bit, Bool.or_eq_true] at hi; rcases hi with hi | hi
  ·cases hci : c.testBit i
   ·exact absurd ⟨i, hi, hci⟩ hn
   ·rfl
  ·rw [← of_decide_eq_true hi]; exact hcz
 obtain ⟨y, hy, hcy⟩ := hex; have hy8 : y < 8 := gO (m := 8) hs256 hy; have hYy : Y.testBit y = true := by
  cases hv : Y.testBit y
  ·have : c.testBit y = true := bU.1 hsub y (by rw [add_bit, dif_bit, hy, hv]; rfl); rw [hcy] at this; cases this
  ·rfl
 refine ⟨y, hy8, hy, hYy, ?_⟩; have e : c = swp s y z := by
  refine eL (h.lt hc) (Nat.or_lt_two_pow (n := 8) (gi hs256) (dO hz8)) (bU.2 fun i hi => ?_) ?_
  ·rw [swp_bit]; have hyi : ¬ y = i := by rintro rfl; rw [hcy] at hi; cases hi
   rcases hin i hi with h1 | h1
   ·rw [add_bit, Bool.or_eq_true] at h1; rcases h1 with h1 | h1
    ·rw [dif_bit, Bool.and_eq_true] at h1; simp [h1.1, hyi]
    ·simp [of_decide_eq_true h1]
   ·simp [h1, hyi]
  ·rw [ij hy8 hz8 hy hz, hpc]; exact Nat.le_refl _
 rw [← e]; exact hc
theorem n8 (m : Nat) (R : Nat → Prop) : ∃ U, U < 2 ^ m ∧ ∀ i, U.testBit i = true ↔ i < m ∧ R i := by
 have : ∀ n, n ≤ m → ∃ U, U < 2 ^ m ∧ ∀ i, (U.testBit i = true ↔ i < n ∧ R i) := by
  intro n
  induction n with
  | zero => intro _; exact ⟨0, Nat.two_pow_pos m, fun i => by simp⟩
  | succ n ih =>
   intro hn; obtain ⟨U, hU, hb⟩ := ih (by omega); by_cases hr : R n
   ·refine ⟨U ||| 2 ^ n, lm hU (dO (by omega)), fun i => ?_⟩; rw [add_bit, Bool.or_eq_true, hb, decide_eq_true_eq]
    constructor
    ·rintro (⟨a, b⟩ | rfl)
     ·exact ⟨by omega, b⟩
     ·exact ⟨by omega, hr⟩
    ·rintro ⟨a, b⟩; by_cases e : n = i
     ·exact .inr e
     ·exact .inl ⟨by omega, b⟩
   ·refine ⟨U, hU, fun i => ?_⟩; rw [hb]
    constructor
    ·rintro ⟨a, b⟩; exact ⟨by omega, b⟩
    ·rintro ⟨a, b⟩; refine ⟨?_, b⟩; have : ¬ i = n := by rintro rfl; exact hr b
     omega
 exact this m (Nat.le_refl _)
theorem Mat.base_of {m : Nat} {L : List Nat} (h : Mat m L) {s b : Nat} (hb : b ∈ L) (hs : indN L s = true) (hp : pc s = pc b) : s ∈ L := by
 obtain ⟨x, hx, hsub⟩ := indN_iff.1 hs; have e : s = x := eL ((Mat.ind h).lt hs) (h.lt x hx) hsub (by rw [hp, h.card hb hx]; exact Nat.le_refl _); rw [e]; exact hx
theorem Mat.ind_le {m : Nat} {L : List Nat} (h : Mat m L) {s b : Nat} (hb : b ∈ L) (hs : indN L s = true) : pc s ≤ pc b := by
 obtain ⟨x, hx, hsub⟩ := indN_iff.1 hs; rw [h.card hb hx]; exact jO hsub
theorem Mat.base_ind {L : List Nat} {b : Nat} (hb : b ∈ L) : indN L b = true := indN_iff.2 ⟨b, hb, e7 b⟩
theorem Mat.sym {m : Nat} {L : List Nat} (h : Mat m L) {b c e : Nat} (hb : b ∈ L) (hc : c ∈ L) (he8 : e < 8) (he : b.testBit e = true) (hce : c.testBit e = false) :
  ∃ f, f < 8 ∧ c.testBit f = true ∧ b.testBit f = false ∧ swp b e f ∈ L ∧ swp c f e ∈ L := by
 have hI := Mat.ind h; have hbI := Mat.base_ind hb; have hcI := Mat.base_ind hc; refine Classical.byContradiction fun hcon => ?_
 obtain ⟨F, hF, hFb⟩ := n8 m (fun f => c.testBit f = true ∧ indN L (swp c f e) = true); have hFc : subN F c := bU.2 fun i hi => ((hFb i).1 hi).2.1
 have hFI : indN L F = true := hI.down F c hcI hFc; have hm8 := h.size; have hce' : ¬ indN L (c ||| 2 ^ e) = true := fun hx => by
  have := Mat.ind_le h hc hx; rw [er he8 hce] at this; omega
 have hFe : F.testBit e = false := by
  cases hx : F.testBit e
  ·rfl
  ·rw [((hFb e).1 hx).2.1] at hce; cases hce
 have hdF : dif c (dif c F) = F := by
  apply Nat.eq_of_testBit_eq
  intro i; rw [dif_bit, dif_bit]; cases hx : F.testBit i
  ·cases c.testBit i <;> simp
  ·rw [bU.1 hFc i hx]; rfl
 have hFe' : ¬ indN L (F ||| 2 ^ e) = true := by
  intro hx; rw [← hdF] at hx; obtain ⟨y, hy8, hyc, hyF, hyI⟩ := hI.out_one hcI he8 hce hce' hx; rw [dif_bit, hyc, Bool.true_and, Bool.not_eq_true'] at hyF; rw [(hFb y).2 ⟨gO (h.sets c hc) hyc, hyc, hyI⟩] at hyF; cases hyF
 have hdel := eP he8 he; have hKI : indN L (dif b (2 ^ e)) = true := hI.down _ b hbI (bU.2 fun i hi => by rw [del_bit, Bool.and_eq_true] at hi; exact hi.1); have hK : ∀ f, f < 8 → F.testBit f = true → (dif b (2 ^ e)).testBit f = false → ¬ indN L (dif b (2 ^ e) ||| 2 ^ f) = true := by
  intro f hf hFf hKf hx; obtain ⟨_, hcf, hsw⟩ := (hFb f).1 hFf; have hfe : ¬ e = f := by rintro rfl; rw [hcf] at hce; cases hce
  have hbf : b.testBit f = false := by rw [del_bit] at hKf; simpa [hfe] using hKf
  exact hcon ⟨f, hf, hcf, hbf, Mat.base_of h hb hx (ij he8 hf he hbf), Mat.base_of h hc hsw (ij hf he8 hcf hce)⟩
 have hle : pc F ≤ pc (dif b (2 ^ e)) := by
  refine Classical.byContradiction fun hn => ?_
  obtain ⟨f, hf, f1, f2, f3⟩ := hI.aug _ _ hKI hFI (by omega); exact hK f hf f1 f2 f3
 obtain ⟨K, hKK, hFK, hin, hpK⟩ := hI.fill (pc (dif b (2 ^ e)) - pc F) F _ hFI hKI (by omega); obtain ⟨x, hx8, hxb, hxK, hxI⟩ := hI.aug K b hKK hbI (by omega); by_cases hxe : e = x
 ·subst hxe; refine hFe' (hI.down _ _ hxI (bU.2 fun i hi => ?_)); rw [add_bit, Bool.or_eq_true] at hi ⊢; exact hi.imp (bU.1 hFK i) id
 ·obtain ⟨y, hy8, hyK, hyn, hyI⟩ := hI.aug _ _ hKI hxI (by rw [er hx8 hxK]; omega); have hyF : F.testBit y = true := by
   rw [add_bit, Bool.or_eq_true] at hyK; rcases hyK with hyK | hyK
   ·rcases hin y hyK with h1 | h1
    ·exact h1
    ·rw [hyn] at h1; cases h1
   ·have hxy := of_decide_eq_true hyK; rw [← hxy, del_bit, hxb] at hyn; simp [hxe] at hyn
  exact hK y hy8 hyF hyn hyI
end Go.Proofs.YtimkekeaeojpkaaGreat.Q
namespace Go.Proofs.YtimkekeaeojpkaaGreat.Q
open Go Go.RowKit Go.Proofs.YtimkekeaeojpkaaGreat.A Go.Proofs.YtimkekeaeojpkaaGreatW.PrintWords Go.Proofs.YtimkekeaeojpkaaGreatW.PrintLast Go.Proofs.YtimkekeaeojpkaaGreatW.PrintMore Go.Proofs.YtimkekeaeojpkaaGreat.Z
set_option linter.unusedVariables false
set_option linter.unusedSimpArgs false
def areW (n : Int) (w : List Int) : Bool := w.all (fun x => decide (-1000 ≤ x) && decide (x ≤ 1000)) && (decide (0 ≤ n) && decide (n ≤ 8)) && decide ((w.length : Int) = n)
theorem gD (n : Int) (l : List Int) (hl : l.length ≤ 17592186044416) : ∀ (rest pre : List Int), l = pre ++ rest → Ev (fun k => bQ.l0 k n l (pre.length : Int)) (rest.all (fun x => decide (-1000 ≤ x) && decide (x ≤ 1000)) && (decide (0 ≤ n) && decide (n ≤ 8)) && decide ((l.length : Int) = n)) := by
 intro rest
 induction rest with
 | nil =>
  intro pre h
  apply Ev.step
  ·intro k; simp only [bQ.l0, l1In_eq]; rw [if_neg (by rw [h]; simp)]
  ·simp only [Option.bind_some]; by_cases hn : (decide (0 ≤ n) && decide (n ≤ 8)) = true
   ·refine Ev.ifp hn ?_; simp only [List.all_nil, hn, Bool.true_and]; exact Ev.now _
   ·refine Ev.ifn hn ?_; simp only [List.all_nil, Bool.eq_false_iff.2 hn, Bool.false_and, Bool.true_and]; exact Ev.now _
 | cons x rest ih =>
  intro pre h; have hlen : (pre.length : Int) < (l.length : Int) := by rw [h]; simp; omega
  have e1 : rd l (pre.length : Int) = x := by rw [h]; exact mT _ _ _
  apply Ev.step
  ·intro k; simp only [bQ.l0, l1In_eq]; rw [if_pos hlen, if_pos (by omega), e1]
  ·simp only [Option.bind_some]; by_cases hx : (decide (-1000 ≤ x) && decide (x ≤ 1000)) = true
   ·refine Ev.ifp hx ?_; have e : wrap64 ((pre.length : Int) + 1) = ((pre ++ [x]).length : Int) := by
     rw [bC (by omega) (by omega)]; simp
    rw [e]
    simpa only [List.all_cons, hx, Bool.true_and] using ih (pre ++ [x]) (by rw [h]; simp)
   ·refine Ev.ifn hx ?_; simp only [List.all_cons, Bool.eq_false_iff.2 hx, Bool.false_and]; exact Ev.now _
theorem eU (n : Int) (l : List Int) (hl : l.length ≤ 17592186044416) : Ev (fun k => bQ.f k n l) (areW n l) :=
 gD n l hl l [] rfl
theorem gz (n : Int) (l : List Int) (hl : l.length ≤ 17592186044416) : ∀ (rest pre : List Int), l = pre ++ rest → Ev (fun k => bn.l0 k n l l (l.length : Int) (pre.length : Int)) (rest.all (fun x => decide (-1000 ≤ x) && decide (x ≤ 1000)) && (decide (0 ≤ n) && decide (n ≤ 8)) && decide ((l.length : Int) = n)) := by
 intro rest
 induction rest with
 | nil =>
  intro pre h
  apply Ev.step
  ·intro k; simp only [bn.l0, isSize_eq]; rw [if_neg (by rw [h]; simp)]
  ·simp only [Option.bind_some]; by_cases hn : (decide (0 ≤ n) && decide (n ≤ 8)) = true
   ·refine Ev.ifp hn ?_; simp only [List.all_nil, hn, Bool.true_and]; exact Ev.now _
   ·refine Ev.ifn hn ?_; simp only [List.all_nil, Bool.eq_false_iff.2 hn, Bool.false_and, Bool.true_and]; exact Ev.now _
 | cons x rest ih =>
  intro pre h; have hlen : (pre.length : Int) < (l.length : Int) := by rw [h]; simp; omega
  have e1 : rd l (pre.length : Int) = x := by rw [h]; exact mT _ _ _
  apply Ev.step
  ·intro k; simp only [bn.l0, isSize_eq]; rw [if_pos hlen, if_pos (by omega), if_pos hlen, e1]
  ·by_cases h1 : x < -1000
   ·refine Ev.ifp h1 ?_; have : (decide (-1000 ≤ x)) = false := by simp; omega
    simp only [List.all_cons, this, Bool.false_and]; exact Ev.now _
   ·refine Ev.ifn h1 ?_; by_cases h2 : x > 1000
    ·refine Ev.ifp h2 ?_; have : (decide (x ≤ 1000)) = false := by simp; omega
     simp only [List.all_cons, this, Bool.false_and, Bool.and_false]; exact Ev.now _
    ·refine Ev.ifn h2 ?_; have hx : (decide (-1000 ≤ x) && decide (x ≤ 1000)) = true := by simp; omega
     have e : wrap64 ((pre.length : Int) + 1) = ((pre ++ [x]).length : Int) := by
      rw [bC (by omega) (by omega)]; simp
     rw [e]
     simpa only [List.all_cons, hx, Bool.true_and] using ih (pre ++ [x]) (by rw [h]; simp)
theorem ec (n : Int) (l : List Int) (hl : l.length ≤ 17592186044416) : Ev (fun k => bn.f k n l) (areW n l) :=
 gz n l hl l [] rfl
def iI (w : List Int) (acc : Int) (es : List Nat) : Int := es.foldl (fun (a : Int) (e : Nat) => wrap64 (a + rd w (e : Int))) acc
def ce (w : List Int) (s : Int) : Int := iI w 0 ((List.range 8).filter (fun e : Nat => decide (e < w.length) && hasB s (e : Int)))
theorem filter_range_swap (p : Nat → Bool) (a b : Nat) : (List.range a).filter (fun e => decide (e < b) && p e) = (List.range (min a b)).filter p := by
 induction a with
 | zero => simp
 | succ a ih =>
  rw [List.range_succ, List.filter_append, ih]; by_cases h : a < b
  ·rw [show min (a + 1) b = min a b + 1 from by omega, List.range_succ, List.filter_append]; have e : min a b = a := by omega
   rw [e]
   congr 1
   simp [List.filter_cons, h]
  ·rw [show min (a + 1) b = min a b from by omega]; simp [List.filter_cons, h]
theorem dy (w : List Int) (s : Int) (hl : w.length ≤ 17592186044416) : Ev (fun k => bd.f k w s) (ce w s) := by
 have h := down (P := fun i => ∀ acc : Int, Ev (fun k => bd.l0 k w s acc (i : Int)) (iI w acc ((List.range' i (w.length - i)).filter (fun e : Nat => hasB s (e : Int))))) w.length
  (by
   intro acc
   apply Ev.step
   ·intro k; simp only [bd.l0, specHas_eq, Option.bind_some]; rw [if_neg (by omega)]
   ·simpa [iI] using Ev.now _)
  (by
   intro i hi ih acc
   apply Ev.step
   ·intro k; simp only [bd.l0, specHas_eq, Option.bind_some]; rw [if_pos (by omega), b9 hi hl]
   ·rw [dH hi, List.filter_cons]; by_cases hx : hasB s (i : Int) = true
    ·refine Ev.ifp hx (Ev.ifp (by omega) ?_); rw [if_pos hx]; exact ih (wrap64 (acc + rd w (i : Int)))
    ·refine Ev.ifn hx ?_; rw [if_neg hx]; exact ih acc)
 have h0 := h 0; have e : (List.range' 0 (w.length - 0)).filter (fun e : Nat => hasB s (e : Int)) = (List.range 8).filter (fun e : Nat => decide (e < w.length) && hasB s (e : Int)) := by
  rw [Nat.sub_zero, ← List.range_eq_range', filter_range_swap, Nat.min_comm, ← filter_range_swap]
  apply List.filter_congr
  intro e _; cases hq : hasB s (e : Int) with
  | false => simp
  | true =>
   have : e < 8 := by
    unfold hasB at hq; simp only [Bool.and_eq_true, decide_eq_true_eq] at hq; omega
   simp [this]
 rw [e] at h0; exact h0
theorem dW (w : List Int) (s : Int) (hl : w.length ≤ 17592186044416) : Ev (fun k => bl.f k w s) (ce w s) := by
 unfold bl.f; refine Ev.bind (ey s) ?_; have hmem := @kj s; have hlen := kC s; have key : ce w s = (elsB s).foldl (fun a x => if x < (w.length : Int) then wrap64 (a + rd w x) else a) 0 := by
  unfold ce iI elsB; rw [List.foldl_map]; generalize (0 : Int) = acc; generalize List.range 8 = l
  induction l generalizing acc with
  | nil => rfl
  | cons e l ih =>
   simp only [List.filter_cons]; by_cases h1 : hasB s (e : Int) = true
   ·by_cases h2 : e < w.length
    ·rw [if_pos (by simp [h1, h2]), if_pos h1]; simp only [List.foldl_cons]; rw [if_pos (by omega)]; exact ih _
    ·rw [if_neg (by rw [show decide (e < w.length) = false from by simpa using h2]; simp), if_pos h1]; simp only [List.foldl_cons]; rw [if_neg (by omega)]; exact ih _
   ·rw [if_neg (by simp [h1]), if_neg h1]; exact ih _
 rw [key]; generalize elsB s = es at hmem hlen; have h := down (P := fun i => ∀ acc : Int, Ev (fun k => bl.l0 k w acc es (es.length : Int) (i : Int)) ((es.drop i).foldl (fun a x => if x < (w.length : Int) then wrap64 (a + rd w x) else a) acc)) es.length
  (by
   intro acc
   apply Ev.step
   ·intro k; simp only [bl.l0]; rw [if_neg (by omega)]
   ·rw [c9]; exact Ev.now _)
  (by
   intro i hi ih acc; obtain ⟨e, he, h8, _⟩ := hmem (List.getElem_mem hi)
   apply Ev.step
   ·intro k; simp only [bl.l0]; rw [if_pos (by omega), if_pos (by omega), if_pos (by omega), bV es i hi, b9 hi (by omega)]
   ·rw [cl es i hi, List.foldl_cons]; by_cases hx : es[i] < (w.length : Int)
    ·refine Ev.ifp hx (Ev.ifp (by omega) ?_); rw [if_pos hx]; exact ih _
    ·refine Ev.ifn hx ?_; rw [if_neg hx]; exact ih _)
 exact h 0
end Go.Proofs.YtimkekeaeojpkaaGreat.Q
namespace Go.Proofs.YtimkekeaeojpkaaGreat.Q
open Go Go.RowKit Go.Proofs.YtimkekeaeojpkaaGreatW.PrintWords Go.Proofs.YtimkekeaeojpkaaGreatW.PrintLast Go.Proofs.YtimkekeaeojpkaaGreatW.PrintMore Go.Proofs.YtimkekeaeojpkaaGreat.Z
set_option linter.unusedVariables false
set_option linter.unusedSimpArgs false
theorem gG {w : List Int} (hw : ∀ x ∈ w, -1000 ≤ x ∧ x ≤ 1000) (e : Nat) : -1000 ≤ rd w (e : Int) ∧ rd w (e : Int) ≤ 1000 := by
 by_cases h : e < w.length
 ·exact hw _ (mN w (e : Int) (by omega) (by omega))
 ·have hz : rd w (e : Int) = 0 := by
   rw [jT, List.getD_eq_getElem?_getD, List.getElem?_eq_none (show w.length ≤ e by omega)]
   rfl
  rw [hz]; omega
theorem lv {α : Type} {f : α → Int} {l : List α} (h : ∀ i ∈ l, -1000 ≤ f i ∧ f i ≤ 1000) : -1000 * (l.length : Int) ≤ (l.map f).sum ∧ (l.map f).sum ≤ 1000 * (l.length : Int) := by
 induction l with
 | nil => simp
 | cons x l ih =>
  have h1 := h x (List.mem_cons_self ..); have h2 := ih (fun i hi => h i (List.mem_cons_of_mem _ hi)); simp only [List.map_cons, List.sum_cons, List.length_cons]; omega
theorem m6 {α : Type} (f g : α → Int) (l : List α) : (l.map (fun i => f i + g i)).sum = (l.map f).sum + (l.map g).sum := by
 induction l with
 | nil => rfl
 | cons x l ih => simp only [List.map_cons, List.sum_cons, ih]; omega
theorem mH (e : Nat) (c : Int) : ∀ n : Nat, ((List.range n).map (fun i => if i = e then c else 0)).sum = if e < n then c else 0 := by
 intro n
 induction n with
 | zero => rfl
 | succ n ih =>
  rw [List.range_succ, List.map_append, List.sum_append, ih]; simp only [List.map_cons, List.map_nil, List.sum_cons, List.sum_nil]; by_cases h1 : e < n
  ·rw [if_pos h1, if_neg (by omega), if_pos (by omega)]; omega
  ·rw [if_neg h1]; by_cases h2 : n = e
   ·rw [if_pos h2, if_pos (by omega)]; omega
   ·rw [if_neg h2, if_neg (by omega)]; omega
theorem mv {w : List Int} (hw : ∀ x ∈ w, -1000 ≤ x ∧ x ≤ 1000) (p : Nat → Bool) (l : List Nat) : ∀ acc : Int, -1000000 + 1000 * (l.length : Int) ≤ acc → acc ≤ 1000000 - 1000 * (l.length : Int) → iI w acc (l.filter p) = acc + (l.map (fun e => if p e = true then rd w (e : Int) else 0)).sum := by
 induction l with
 | nil => intro acc _ _; simp [iI]
 | cons x l ih =>
  intro acc h0 h1; have hb := gG hw x; simp only [List.length_cons] at h0 h1; simp only [List.map_cons, List.sum_cons, List.filter_cons]; by_cases h : p x = true
  ·rw [if_pos h, if_pos h]; have := ih (wrap64 (acc + rd w (x : Int))) (by rw [bC (by omega) (by omega)]; omega) (by rw [bC (by omega) (by omega)]; omega); unfold iI at this ⊢; rw [List.foldl_cons, this, bC (by omega) (by omega)]; omega
  ·rw [if_neg h, if_neg h, ih acc (by omega) (by omega)]; omega
def wOf (w : List Int) (s i : Nat) : Int := if (decide (i < w.length) && s.testBit i) = true then rd w (i : Int) else 0
def wS (w : List Int) (s : Nat) : Int := ((List.range 8).map (wOf w s)).sum
theorem mb {w : List Int} (hw : ∀ x ∈ w, -1000 ≤ x ∧ x ≤ 1000) (s i : Nat) : -1000 ≤ wOf w s i ∧ wOf w s i ≤ 1000 := by
 unfold wOf; by_cases h : (decide (i < w.length) && s.testBit i) = true
 ·rw [if_pos h]; exact gG hw i
 ·rw [if_neg h]; omega
theorem m0 {w : List Int} (hw : ∀ x ∈ w, -1000 ≤ x ∧ x ≤ 1000) (s : Nat) : -8000 ≤ wS w s ∧ wS w s ≤ 8000 := by
 have := lv (l := List.range 8) (fun i _ => mb hw s i); simp only [List.length_range] at this; unfold wS; omega
theorem dg {w : List Int} (hw : ∀ x ∈ w, -1000 ≤ x ∧ x ≤ 1000) {s : Nat} (hs : s < 256) : ce w (s : Int) = wS w s := by
 unfold ce wS; rw [mv hw _ _ 0 (by simp only [List.length_range]; omega) (by simp only [List.length_range]; omega), Int.zero_add]
 apply congrArg List.sum
 apply List.map_congr_left
 intro i hi; have hi8 := List.mem_range.1 hi; unfold wOf; rw [kU, show decide (s < 256) = true from decide_eq_true hs, show decide (i < 8) = true from decide_eq_true hi8, Bool.true_and, Bool.true_and]
theorem d5 {n : Int} {w : List Int} (h : areW n w = true) : (∀ x ∈ w, -1000 ≤ x ∧ x ≤ 1000) ∧ (w.length : Int) = n := by
 simp only [areW, Bool.and_eq_true, List.all_eq_true, decide_eq_true_eq] at h; exact ⟨h.1.1, h.2⟩
def cf (p : Nat → Bool) (s : Nat) : List Nat → List Nat
 | [] => []
 | e :: es => if p (s ||| 2 ^ e) = true then e :: cf p (s ||| 2 ^ e) es else cf p s es
theorem gK (s e : Nat) (es : List Nat) : orL s (e :: es) = orL (s ||| 2 ^ e) es := by
 apply Nat.eq_of_testBit_eq
 intro i; rw [orL_bit, orL_bit, add_bit]; by_cases h : e = i
 ·subst h; simp
 ·have : ¬ i = e := fun x => h x.symm
  simp [h, this]
def wsum (f : Nat → Int) (s : Nat) : Int := ((List.range 8).map (fun i => if s.testBit i = true then f i else 0)).sum
theorem fc (f : Nat → Int) {s e : Nat} (he : e < 8) (h : s.testBit e = false) : wsum f (s ||| 2 ^ e) = wsum f s + f e := by
 unfold wsum; have k := mH e (f e) 8; rw [if_pos he] at k; rw [← k, ← m6]
 congr 1
 apply List.map_congr_left
 intro i _; rw [add_bit]; by_cases hi : e = i
 ·subst hi; rw [h]; simp
 ·have : ¬ i = e := fun x => hi x.symm
  simp [hi, this]
theorem fH (f : Nat → Int) {s e : Nat} (he : e < 8) (h : s.testBit e = true) : wsum f s = wsum f (dif s (2 ^ e)) + f e := by
 have k := fc f (s := dif s (2 ^ e)) he (by rw [del_bit, h]; simp); rw [← k]
 congr 1
 apply Nat.eq_of_testBit_eq
 intro i; rw [add_bit, del_bit]; by_cases hi : e = i
 ·subst hi; rw [h]; simp
 ·simp [hi]
theorem wS_wsum (w : List Int) (s : Nat) : wS w s = wsum (fun i => rd w (i : Int)) s := by
 unfold wS wsum
 congr 1
 apply List.map_congr_left
 intro i _; unfold wOf; by_cases hb : s.testBit i = true
 ·rw [if_pos hb]; by_cases hl : i < w.length
  ·rw [if_pos (by simp [hb, hl])]
  ·rw [if_neg (by simp [hl])]
   show 0 = rd w (i : Int)
   rw [jT]; rw [List.getD, List.getElem?_eq_none (Nat.le_of_not_lt hl)]; rfl
 ·rw [if_neg hb, if_neg (by simp [hb])]
theorem n6 (f : Nat → Int) : ∀ (l : List Nat), l ≠ [] → ∃ j ∈ l, ∀ e ∈ l, f j ≤ f e := by
 intro l
 induction l with
 | nil => intro h; exact absurd rfl h
 | cons x l ih =>
  intro _; by_cases hl : l = []
  ·subst hl; exact ⟨x, List.mem_cons_self .., fun e he => by simp at he; subst he; omega⟩
  ·obtain ⟨j, hj, hm⟩ := ih hl; by_cases hx : f x ≤ f j
   ·refine ⟨x, List.mem_cons_self .., fun e he => ?_⟩; rcases List.mem_cons.1 he with rfl | he
    ·omega
    ·have := hm e he; omega
   ·refine ⟨j, List.mem_cons_of_mem _ hj, fun e he => ?_⟩; rcases List.mem_cons.1 he with rfl | he
    ·omega
    ·exact hm e he
variable {m : Nat} {I : Nat → Prop} {p : Nat → Bool}
theorem kc (hI : Ind m I) (hp : ∀ s, p s = true ↔ I s) (f : Nat → Int) : ∀ (es : List Nat) (s : Nat), I s → es.Nodup → (∀ e ∈ es, e < 8 ∧ s.testBit e = false) → (∀ j, j < 8 → s.testBit j = false → I (s ||| 2 ^ j) → j ∈ es) → es.Pairwise (fun a b => f b ≤ f a) →
  (∀ e ∈ cf p s es, e ∈ es) ∧ (cf p s es).Nodup ∧ (∀ i, I (orL s ((cf p s es).take i))) ∧ (∀ i (h : i < (cf p s es).length), ∀ j, j < 8 → (orL s ((cf p s es).take i)).testBit j = false → I (orL s ((cf p s es).take i) ||| 2 ^ j) → f j ≤ f ((cf p s es)[i])) ∧ (∀ j, j < 8 → (orL s (cf p s es)).testBit j = false → ¬ I (orL s (cf p s es) ||| 2 ^ j)) := by
 intro es
 induction es with
 | nil =>
  intro s hs _ _ hex _; simp only [cf]; refine ⟨fun e he => he, List.nodup_nil, fun i => by rw [List.take_nil]; exact hs, fun i h => absurd h (Nat.not_lt_zero _), fun j hj hb hi => ?_⟩; have := hex j hj hb hi; simp at this
 | cons e es ih =>
  intro s hs hnd hes hex hsort; rw [List.nodup_cons] at hnd; rw [List.pairwise_cons] at hsort; have he := hes e (List.mem_cons_self ..); by_cases hpe : p (s ||| 2 ^ e) = true
  ·have hIe := (hp _).1 hpe; obtain ⟨r1, r2, r3, r4, r5⟩ := ih (s ||| 2 ^ e) hIe hnd.2 (fun x hx => by
     refine ⟨(hes x (List.mem_cons_of_mem _ hx)).1, ?_⟩; rw [add_bit, (hes x (List.mem_cons_of_mem _ hx)).2]; have : ¬ e = x := by rintro rfl; exact hnd.1 hx
     simp [this]) (fun j hj hb hi => by
     rw [add_bit, Bool.or_eq_false_iff] at hb; have h1 := hex j hj hb.1 (hI.down _ _ hi (bU.2 fun i hx => by
      rw [add_bit, Bool.or_eq_true] at hx; rw [add_bit, add_bit, Bool.or_eq_true, Bool.or_eq_true]; exact hx.elim (fun y => .inl (.inl y)) .inr))
     rcases List.mem_cons.1 h1 with rfl | h1
     ·have := hb.2; simp at this
     ·exact h1) hsort.2
   have hg : cf p s (e :: es) = e :: cf p (s ||| 2 ^ e) es := by simp only [cf]; rw [if_pos hpe]
   rw [hg]; refine ⟨?_, ?_, ?_, ?_, ?_⟩
   ·intro x hx; rcases List.mem_cons.1 hx with rfl | hx
    ·exact List.mem_cons_self ..
    ·exact List.mem_cons_of_mem _ (r1 x hx)
   ·rw [List.nodup_cons]; exact ⟨fun hx => hnd.1 (r1 e hx), r2⟩
   ·intro i; cases i with
    | zero => rw [List.take_zero]; exact hs
    | succ i => rw [List.take_succ_cons, gK]; exact r3 i
   ·intro i h j hj hb hi; cases i with
    | zero =>
     rw [List.take_zero] at hb hi; rw [List.getElem_cons_zero]; rcases List.mem_cons.1 (hex j hj hb hi) with rfl | h1
     ·exact Int.le_refl _
     ·exact hsort.1 j h1
    | succ i =>
     rw [List.take_succ_cons, gK] at hb hi; rw [List.getElem_cons_succ]; exact r4 i (by simpa using h) j hj hb hi
   ·intro j hj hb; rw [gK] at hb ⊢; exact r5 j hj hb
  ·have hg : cf p s (e :: es) = cf p s es := by simp only [cf]; rw [if_neg hpe]
   rw [hg]; obtain ⟨r1, r2, r3, r4, r5⟩ := ih s hs hnd.2 (fun x hx => hes x (List.mem_cons_of_mem _ hx)) (fun j hj hb hi => by
     rcases List.mem_cons.1 (hex j hj hb hi) with rfl | h1
     ·exact absurd ((hp _).2 hi) hpe
     ·exact h1) hsort.2
   exact ⟨fun x hx => List.mem_cons_of_mem _ (r1 x hx), r2, r3, r4, r5⟩
theorem kX : ∀ (T : List Nat), T.Nodup → (∀ e ∈ T, e < 8) → pc (orL 0 T) = T.length := by
 intro T
 induction T with
 | nil => intro _ _; exact pc_zero
 | cons e T ih =>
  intro hnd h8; rw [List.nodup_cons] at hnd; simp only [orL]; rw [er (h8 e (List.mem_cons_self ..)) (by rw [orL_bit]; simp [hnd.1]), ih hnd.2 (fun x hx => h8 x (List.mem_cons_of_mem _ hx)), List.length_cons]
theorem orL_snoc (s e : Nat) (T : List Nat) : orL s (T ++ [e]) = orL s T ||| 2 ^ e := by
 apply Nat.eq_of_testBit_eq
 intro i; rw [orL_bit, add_bit, orL_bit]; by_cases h : e = i
 ·subst h; simp
 ·have : ¬ i = e := fun x => h x.symm
  simp [h, this]
structure mD (m : Nat) (f : Nat → Int) (es : List Nat) : Prop where
 nodup : es.Nodup
 mem : ∀ e, e ∈ es ↔ e < m
 fall : es.Pairwise (fun a b => f b ≤ f a)
theorem ik (hI : Ind m I) (hp : ∀ s, p s = true ↔ I s) {f : Nat → Int} {es : List Nat} (ho : mD m f es) :
  (∀ e ∈ cf p 0 es, e < m) ∧ (cf p 0 es).Nodup ∧ (∀ i, I (orL 0 ((cf p 0 es).take i))) ∧ (∀ i (h : i < (cf p 0 es).length), ∀ j, j < 8 → (orL 0 ((cf p 0 es).take i)).testBit j = false → I (orL 0 ((cf p 0 es).take i) ||| 2 ^ j) → f j ≤ f ((cf p 0 es)[i])) ∧ (∀ j, j < 8 → (orL 0 (cf p 0 es)).testBit j = false → ¬ I (orL 0 (cf p 0 es) ||| 2 ^ j)) := by
 have hm := hI.size; obtain ⟨r1, r2, r3, r4, r5⟩ := kc hI hp f es 0 hI.zero ho.nodup (fun e he => ⟨by have := (ho.mem e).1 he; omega, Nat.zero_testBit _⟩) (fun j hj _ hi => (ho.mem j).2 (gO (hI.sets _ hi) (by rw [add_bit]; simp))) ho.fall; exact ⟨fun e he => (ho.mem e).1 (r1 e he), r2, r3, r4, r5⟩
theorem kA (hI : Ind m I) (hp : ∀ s, p s = true ↔ I s) {f : Nat → Int} {es : List Nat} (ho : mD m f es) : ∀ (k J : Nat), I J → pc J = k → k ≤ (cf p 0 es).length ∧ wsum f J ≤ wsum f (orL 0 ((cf p 0 es).take k)) := by
 have hm := hI.size; obtain ⟨r1, r2, r3, r4, r5⟩ := ik hI hp ho; intro k
 induction k with
 | zero =>
  intro J hJ hk; have := (kF (hI.lt hJ)).1 hk; subst this; rw [List.take_zero]; exact ⟨Nat.zero_le _, Int.le_refl _⟩
 | succ k ih =>
  intro J hJ hk; have hne : els J ≠ [] := fun h => by have : (els J).length = k + 1 := hk; rw [h] at this; simp at this
  obtain ⟨j0, hj0, hmin⟩ := n6 f (els J) hne; obtain ⟨h8, hb0⟩ := d9.1 hj0; have hd := eP h8 hb0; obtain ⟨h1, h2⟩ := ih (dif J (2 ^ j0)) (hI.down _ J hJ (bU.2 fun i hi => by rw [del_bit, Bool.and_eq_true] at hi; exact hi.1)) (by omega); have hTk : pc (orL 0 ((cf p 0 es).take k)) = k := by
   rw [kX _ (List.Nodup.sublist (List.take_sublist _ _) r2) (fun e he => by have := r1 e (List.mem_of_mem_take he); omega), List.length_take]; omega
  obtain ⟨e, he, hbe, hte, hIe⟩ := hI.aug _ J (r3 k) hJ (by omega); have hlt : k < (cf p 0 es).length := by
   refine Classical.byContradiction fun hc => ?_
   rw [List.take_of_length_le (by omega)] at hte hIe; exact r5 e he hte hIe
  refine ⟨hlt, ?_⟩; have h3 := r4 k hlt e he hte hIe; have h4 := hmin e (d9.2 ⟨he, hbe⟩); have hmem := r1 _ (List.getElem_mem hlt); rw [eZ _ k hlt, orL_snoc, fc f (by omega) (by
   rw [orL_bit]; have : ¬ (cf p 0 es)[k] ∈ (cf p 0 es).take k := fun hx => by
    obtain ⟨i, hi, hx⟩ := List.mem_take_iff_getElem.1 hx; exact List.pairwise_iff_getElem.1 r2 i k (by omega) hlt (by omega) hx
   simp [this]), fH f h8 hb0]
  omega
theorem iJ {m : Nat} {L : List Nat} (h : Mat m L) (f : Nat → Int) {c : Nat} (hc : c ∈ L) (hloc : ∀ b ∈ L, pc (dif c b) = 1 → wsum f b ≤ wsum f c) : ∀ (d b : Nat), b ∈ L → pc (dif b c) = d → wsum f b ≤ wsum f c := by
 intro d
 induction d with
 | zero =>
  intro b hb hd; have e : b = c := eL (h.lt b hb) (h.lt c hc) (bU.2 fun i hi => by
   cases hci : c.testBit i
   ·have : 0 < pc (dif b c) := j6 (gO (m := 8) (h.lt b hb) hi) (by rw [dif_bit, hi, hci]; rfl); omega
   ·rfl) (by rw [h.card hb hc]; exact Nat.le_refl _)
  rw [e]; exact Int.le_refl _
 | succ d ih =>
  intro b hb hd; obtain ⟨e, he8, hde⟩ := eh (a := dif b c) (by omega); rw [dif_bit, Bool.and_eq_true, Bool.not_eq_true'] at hde; obtain ⟨x, hx8, hcx, hbx, hb', hc'⟩ := Mat.sym h hb hc he8 hde.1 hde.2; have hex : ¬ e = x := by rintro rfl; rw [hde.2] at hcx; cases hcx
  have k1 : wsum f (swp c x e) ≤ wsum f c := hloc _ hc' (by
   have e1 : dif c (swp c x e) = 2 ^ x := by
    apply Nat.eq_of_testBit_eq
    intro i; rw [dif_bit, swp_bit, Nat.testBit_two_pow]; by_cases h1 : x = i
    ·subst h1; simp [hcx, hex]
    ·by_cases h2 : e = i
     ·subst h2; simp [hde.2, h1]
     ·simp [h1, h2]
   rw [e1, fA hx8])
  have k2 := ih (swp b e x) hb' (by
   have e1 : dif (swp b e x) c = dif (dif b c) (2 ^ e) := by
    apply Nat.eq_of_testBit_eq
    intro i; rw [dif_bit, swp_bit, del_bit, dif_bit]; by_cases hi : x = i
    ·subst hi; rw [hcx, hbx]; simp
    ·simp [hi]
     cases b.testBit i <;> cases c.testBit i <;> simp
   rw [e1]; have := eP (a := dif b c) he8 (by rw [dif_bit, hde.1, hde.2]; rfl); omega)
  have w1 := fH f he8 hde.1; have w2 := fc f (s := dif b (2 ^ e)) hx8 (by rw [del_bit, hbx]; rfl); have w3 := fH f hx8 hcx; have w4 := fc f (s := dif c (2 ^ x)) he8 (by rw [del_bit, hde.2]; rfl); unfold swp at k1 k2; omega
variable {m : Nat}
def topW (f : Nat → Int) (g : Int) (L : List Nat) : List Nat := L.filter (fun b => decide (wsum f b = g))
theorem dU {f : Nat → Int} {g : Int} {L : List Nat} {b : Nat} : b ∈ topW f g L ↔ b ∈ L ∧ wsum f b = g := by
 unfold topW; rw [List.mem_filter, decide_eq_true_eq]
theorem iA (f : Nat → Int) {b e x : Nat} (he8 : e < 8) (hx8 : x < 8) (he : b.testBit e = true) (hx : b.testBit x = false) : wsum f (swp b e x) = wsum f b - f e + f x := by
 have w1 := fH f he8 he; have w2 := fc f (s := dif b (2 ^ e)) hx8 (by rw [del_bit, hx]; rfl); unfold swp; omega
theorem kD {L : List Nat} (h : Mat m L) (f : Nat → Int) {g : Int} (hg : ∀ b ∈ L, wsum f b ≤ g) (hex : ∃ b ∈ L, wsum f b = g) : Mat m (topW f g L) := by
 refine ⟨h.size, fun b hb => h.sets b (dU.1 hb).1, ?_, ?_⟩
 ·obtain ⟨b, hb, hw⟩ := hex; intro hn; have := dU.2 ⟨hb, hw⟩; rw [hn] at this; cases this
 ·intro a ha b hb e he hae hbe; obtain ⟨ha, wa⟩ := dU.1 ha; obtain ⟨hb, wb⟩ := dU.1 hb; obtain ⟨x, hx, hbx, hax, h1, h2⟩ := Mat.sym h ha hb he hae hbe; refine ⟨x, hx, hbx, hax, dU.2 ⟨h1, ?_⟩⟩; have g1 := hg _ h1; have g2 := hg _ h2; rw [iA f he hx hae hax] at g1 ⊢; rw [iA f hx he hbx hbe] at g2; omega
theorem kr (f : Nat → Int) : ∀ L : List Nat, L ≠ [] → ∃ b ∈ L, ∀ c ∈ L, wsum f c ≤ wsum f b := by
 intro L
 induction L with
 | nil => intro h; exact absurd rfl h
 | cons a L ih =>
  intro _; by_cases hL : L = []
  ·subst hL; exact ⟨a, List.mem_cons_self .., fun c hc => by
    rcases List.mem_cons.1 hc with rfl | hc
    ·exact Int.le_refl _
    ·cases hc⟩
  ·obtain ⟨b, hb, hm⟩ := ih hL; by_cases hab : wsum f b ≤ wsum f a
   ·exact ⟨a, List.mem_cons_self .., fun c hc => by
     rcases List.mem_cons.1 hc with rfl | hc
     ·exact Int.le_refl _
     ·exact Int.le_trans (hm c hc) hab⟩
   ·exact ⟨b, List.mem_cons_of_mem _ hb, fun c hc => by
     rcases List.mem_cons.1 hc with rfl | hc
     ·omega
     ·exact hm c hc⟩
def chi (A i : Nat) : Int := if A.testBit i = true then 1 else 0
theorem eF (f g : Nat → Int) (s : Nat) : wsum (fun i => f i + g i) s = wsum f s + wsum g s := by
 unfold wsum; generalize List.range 8 = l
 induction l with
 | nil => rfl
 | cons x l ih =>
  simp only [List.map_cons, List.sum_cons] at ih ⊢; by_cases h : s.testBit x = true
  ·rw [if_pos h, if_pos h, if_pos h]; omega
  ·rw [if_neg h, if_neg h, if_neg h]; omega
theorem wsum_neg (f : Nat → Int) (s : Nat) : wsum (fun i => - f i) s = - wsum f s := by
 unfold wsum; generalize List.range 8 = l
 induction l with
 | nil => rfl
 | cons x l ih =>
  simp only [List.map_cons, List.sum_cons] at ih ⊢; by_cases h : s.testBit x = true
  ·rw [if_pos h, if_pos h]; omega
  ·rw [if_neg h, if_neg h]; omega
theorem wsum_chi (A s : Nat) : wsum (chi A) s = (pc (s &&& A) : Int) := by
 rw [pc_sum]; unfold wsum; generalize List.range 8 = l
 induction l with
 | nil => rfl
 | cons x l ih =>
  simp only [List.map_cons, List.sum_cons]; rw [ih]; unfold bt1 chi; rw [Nat.testBit_and]; cases s.testBit x <;> cases A.testBit x <;> simp
theorem my {L : List Nat} (h : Mat m L) (f : Nat → Int) (A : Nat) : ∃ b ∈ L, (∀ c ∈ L, wsum f c ≤ wsum f b) ∧ ∀ c ∈ L, wsum (fun i => f i + chi A i) c ≤ wsum (fun i => f i + chi A i) b := by
 obtain ⟨b, hb, hmax⟩ := kr (fun i => 2 * f i + chi A i) L h.some; have hc01 : ∀ i, chi A i = 0 ∨ chi A i = 1 := fun i => by
  unfold chi; split
  ·exact .inr rfl
  ·exact .inl rfl
 refine ⟨b, hb, fun c hc => iJ h f hb (fun x hx hd => ?_) _ c hc rfl, fun c hc => iJ h _ hb (fun x hx hd => ?_) _ c hc rfl⟩
 all_goals
  obtain ⟨e, he8, hde⟩ := eh (a := dif b x) (by omega); rw [dif_bit, Bool.and_eq_true, Bool.not_eq_true'] at hde; have hx1 : pc (dif x b) = 1 := by
   have a1 := dZ b x; have a2 := dZ x b; have a3 := h.card hb hx; rw [Nat.and_comm x b] at a2; omega
  obtain ⟨y, hy8, hdy⟩ := eh (a := dif x b) (by omega); rw [dif_bit, Bool.and_eq_true, Bool.not_eq_true'] at hdy; have e1 : dif b x = 2 ^ e := (eL (by exact dO (m := 8) he8) (gi (h.lt b hb)) (bU.2 fun i hi => by
   rw [Nat.testBit_two_pow] at hi; rw [← of_decide_eq_true hi, dif_bit, hde.1, hde.2]; rfl) (by rw [fA he8, hd]; exact Nat.le_refl _)).symm
  have e2 : dif x b = 2 ^ y := (eL (by exact dO (m := 8) hy8) (gi (h.lt x hx)) (bU.2 fun i hi => by
   rw [Nat.testBit_two_pow] at hi; rw [← of_decide_eq_true hi, dif_bit, hdy.1, hdy.2]; rfl) (by rw [fA hy8, hx1]; exact Nat.le_refl _)).symm
  have ex : x = swp b e y := by
   apply Nat.eq_of_testBit_eq
   intro i; rw [swp_bit]; have b1 := congrArg (fun z => Nat.testBit z i) e1; have b2 := congrArg (fun z => Nat.testBit z i) e2; simp only [dif_bit, Nat.testBit_two_pow] at b1 b2; rw [← b1, ← b2]; cases b.testBit i <;> cases x.testBit i <;> rfl
  have hm := hmax x hx; rw [ex, iA _ he8 hy8 hde.1 hdy.2] at hm ⊢; have c1 := hc01 e; have c2 := hc01 y; omega
theorem jz {L : List Nat} (h : Mat m L) (f : Nat → Int) (A : Nat) {g : Int} (hg : ∀ b ∈ L, wsum f b ≤ g) (hex : ∃ b ∈ L, wsum f b = g) : ∀ c ∈ L, wsum (fun i => f i + chi A i) c ≤ g + (rkN (topW f g L) A : Int) := by
 intro c hc; obtain ⟨b, hb, h1, h2⟩ := my h f A; obtain ⟨b0, hb0, hw0⟩ := hex; have hbg : wsum f b = g := by have := h1 b0 hb0; have := hg b hb; omega
 have h3 := h2 c hc; rw [eF f (chi A) b, wsum_chi, hbg] at h3; have h4 := g0 (dU.2 ⟨hb, hbg⟩) A; omega
theorem nj {L L' : List Nat} (h : Mat m L) (h' : Mat m L') {r : Nat} (hr : ∀ b ∈ L, pc b = r) (hr' : ∀ b ∈ L', pc b = r) {J : Nat} (hJ : J ∈ L) (hJ' : J ∈ L') (f : Nat → Int) : ∀ (d : Nat) (f1 f2 : Nat → Int) (g1 g2 : Int), (∀ i, f1 i + f2 i = f i) → (∀ b ∈ L, wsum f1 b ≤ g1) → (∃ b ∈ L, wsum f1 b = g1) → (∀ b ∈ L', wsum f2 b ≤ g2) → (∃ b ∈ L', wsum f2 b = g2) → g1 + g2 - wsum f J ≤ d →
  ∃ (f1 f2 : Nat → Int) (I : Nat), (∀ i, f1 i + f2 i = f i) ∧ I ∈ L ∧ I ∈ L' ∧ (∀ b ∈ L, wsum f1 b ≤ wsum f1 I) ∧ (∀ b ∈ L', wsum f2 b ≤ wsum f2 I) := by
 intro d
 induction d with
 | zero =>
  intro f1 f2 g1 g2 hf a1 a2 b1 b2 hd; refine ⟨f1, f2, J, hf, hJ, hJ', ?_, ?_⟩
  all_goals
   have e : wsum f J = wsum f1 J + wsum f2 J := by rw [← eF]; congr 1; funext i; exact (hf i).symm
   have c1 := a1 J hJ; have c2 := b1 J hJ'; intro b hb
  ·have := a1 b hb; omega
  ·have := b1 b hb; omega
 | succ d ih =>
  intro f1 f2 g1 g2 hf a1 a2 b1 b2 hd; have M1 := kD h f1 a1 a2; have M2 := kD h' f2 b1 b2; by_cases hk : ∀ u, u < 2 ^ m → r ≤ rkN (topW f1 g1 L) u + rkN (topW f2 g2 L') (dif (cq m) u)
  ·obtain ⟨I, hI, p1, p2, p3⟩ := nb m h.size _ _ (Mat.rkF M1) (Mat.rkF M2) r hk; have hI256 : I < 256 := Nat.lt_of_lt_of_le hI (bZ h.size); have i1 := (ej hI256 M1.some).1 (Nat.le_antisymm (gL _ _) p1); have i2 := (ej hI256 M2.some).1 (Nat.le_antisymm (gL _ _) p2); obtain ⟨x1, hx1⟩ := List.exists_mem_of_ne_nil _ M1.some; obtain ⟨x2, hx2⟩ := List.exists_mem_of_ne_nil _ M2.some; have m1 := dU.1 (Mat.base_of M1 hx1 i1 (by rw [p3, hr x1 (dU.1 hx1).1])); have m2 := dU.1 (Mat.base_of M2 hx2 i2 (by rw [p3, hr' x2 (dU.1 hx2).1])); exact ⟨f1, f2, I, hf, m1.1, m2.1, fun b hb => by rw [m1.2]; exact a1 b hb, fun b hb => by rw [m2.2]; exact b1 b hb⟩
  ·obtain ⟨u, hu⟩ := Classical.not_forall.1 hk; obtain ⟨hu, hlt⟩ := Classical.not_imp.1 hu; obtain ⟨y1, hy1, hmax1⟩ := kr (fun i => f1 i + chi u i) L h.some; obtain ⟨y2, hy2, hmax2⟩ := kr (fun i => f2 i + - chi u i) L' h'.some; have k1 := jz h f1 u a1 a2 y1 hy1; have k2 := jz h' f2 (dif (cq m) u) b1 b2 y2 hy2; have e3 : wsum (fun i => f2 i + - chi u i) y2 = wsum (fun i => f2 i + chi (dif (cq m) u) i) y2 - r := by
    rw [eF f2 (fun i => - chi u i), eF f2 (chi (dif (cq m) u)), wsum_neg, wsum_chi, wsum_chi]; have p := dZ y2 u; rw [hr' y2 hy2] at p; have e4 : y2 &&& dif (cq m) u = dif y2 u := by
     apply Nat.eq_of_testBit_eq
     intro i; rw [Nat.testBit_and, dif_bit, dif_bit]; cases hb : y2.testBit i
     ·simp
     ·have : (cq m).testBit i = true := by
       unfold cq; rw [Nat.testBit_two_pow_sub_one]; exact decide_eq_true (gO (h'.sets y2 hy2) hb)
      rw [this]; simp
    rw [e4]; omega
   refine ih (fun i => f1 i + chi u i) (fun i => f2 i + - chi u i) _ _ (fun i => by have := hf i; omega) hmax1 ⟨y1, hy1, rfl⟩ hmax2 ⟨y2, hy2, rfl⟩ ?_; omega
theorem kN {I : Nat → Prop} (hI : Ind m I) (p : Nat → Bool) (hp : ∀ s, p s = true ↔ I s) {k : Nat} (hex : ∃ b, I b ∧ pc b = k) : Mat m ((List.range (2 ^ m)).filter (fun s => p s && decide (pc s = k))) ∧ ∀ b, b ∈ (List.range (2 ^ m)).filter (fun s => p s && decide (pc s = k)) ↔ I b ∧ pc b = k := by
 have hm : ∀ b, b ∈ (List.range (2 ^ m)).filter (fun s => p s && decide (pc s = k)) ↔ I b ∧ pc b = k := by
  intro b; rw [List.mem_filter, List.mem_range, Bool.and_eq_true, decide_eq_true_eq, hp]; exact ⟨fun h => h.2, fun h => ⟨hI.sets b h.1, h⟩⟩
 exact ⟨hI.mat hm hex, hm⟩
theorem nE {L L' : List Nat} (h : Mat m L) (h' : Mat m L') (f : Nat → Int) {k P Q : Nat} (hP : indN L P = true) (hP' : indN L' P = true) (hQ : indN L Q = true) (hQ' : indN L' Q = true) (pP : pc P = k + 1) (pQ : pc Q + 1 = k) :
  ∃ I, indN L I = true ∧ indN L' I = true ∧ pc I = k ∧ wsum f P + wsum f Q ≤ 2 * wsum f I := by
 have hI := Mat.ind h; have hI' := Mat.ind h'; obtain ⟨e0, he0, hPe0⟩ := eh (a := P) (by omega); have hd0 := eP he0 hPe0; have sub0 : subN (dif P (2 ^ e0)) P := bU.2 fun i hi => by rw [del_bit, Bool.and_eq_true] at hi; exact hi.1
 have j1 : indN L (dif P (2 ^ e0)) = true := hI.down _ P hP sub0; have j2 : indN L' (dif P (2 ^ e0)) = true := hI'.down _ P hP' sub0; obtain ⟨M1, m1⟩ := kN hI (indN L) (fun s => Iff.rfl) (k := k) ⟨_, j1, by omega⟩; obtain ⟨M2, m2⟩ := kN hI' (indN L') (fun s => Iff.rfl) (k := k) ⟨_, j2, by omega⟩; generalize (List.range (2 ^ m)).filter (fun s => indN L s && decide (pc s = k)) = K1 at M1 m1; generalize (List.range (2 ^ m)).filter (fun s => indN L' s && decide (pc s = k)) = K2 at M2 m2; obtain ⟨y1, hy1, hm1⟩ := kr f K1 M1.some; obtain ⟨y2, hy2, hm2⟩ := kr (fun _ => 0) K2 M2.some; have hJ1 := (m1 _).2 ⟨j1, by omega⟩; have hJ2 := (m2 _).2 ⟨j2, by omega⟩; obtain ⟨f1, f2, I, hf, hI1, hI2, t1, t2⟩ := nj M1 M2 (r := k) (fun b hb => ((m1 b).1 hb).2) (fun b hb => ((m2 b).1 hb).2) hJ1 hJ2 f (wsum f y1 + wsum (fun _ => 0) y2 - wsum f (dif P (2 ^ e0))).toNat f (fun _ => 0) _ _ (fun i => by omega) hm1 ⟨y1, hy1, rfl⟩ hm2 ⟨y2, hy2, rfl⟩ (by omega); obtain ⟨i1, pI⟩ := (m1 I).1 hI1; obtain ⟨i2, _⟩ := (m2 I).1 hI2; refine ⟨I, i1, i2, pI, ?_⟩; have key : ∀ (LL : List Nat) (K : List Nat) (g : Nat → Int), Ind m (fun s => indN LL s = true) → indN LL P = true → indN LL Q = true → (∀ b, b ∈ K ↔ indN LL b = true ∧ pc b = k) → (∀ b ∈ K, wsum g b ≤ wsum g I) → wsum g P + wsum g Q ≤ 2 * wsum g I := by
  intro LL K g hInd h1 h2 hK hb; obtain ⟨e, he8, hPe, hQe, h3⟩ := hInd.aug Q P h2 h1 (by omega); have a1 := hb (Q ||| 2 ^ e) ((hK _).2 ⟨h3, by rw [er he8 hQe]; omega⟩); have a2 := hb (dif P (2 ^ e)) ((hK _).2 ⟨hInd.down _ P h1 (bU.2 fun i hi => by rw [del_bit, Bool.and_eq_true] at hi; exact hi.1), by have := eP he8 hPe; omega⟩); rw [fc g he8 hQe] at a1; have a3 := fH g he8 hPe; omega
 have k1 := key L K1 f1 hI hP hQ m1 t1; have k2 := key L' K2 f2 hI' hP' hQ' m2 t2; have ew : ∀ s, wsum f s = wsum f1 s + wsum f2 s := fun s => by rw [← eF]; congr 1; funext i; exact (hf i).symm
 rw [ew P, ew Q, ew I]; omega
end Go.Proofs.YtimkekeaeojpkaaGreat.Q
namespace Go.Proofs.YtimkekeaeojpkaaGreat.Q
open Go Go.RowKit Go.Proofs.YtimkekeaeojpkaaGreat.A Go.Proofs.YtimkekeaeojpkaaGreatW.PrintWords Go.Proofs.YtimkekeaeojpkaaGreatW.PrintLast Go.Proofs.YtimkekeaeojpkaaGreatW.PrintMore Go.Proofs.YtimkekeaeojpkaaGreat.Z
set_option linter.unusedVariables false
set_option linter.unusedSimpArgs false
theorem kH {e : Nat} (he : e < 8) : IntKind.i64.wrap (2 ^ e) = ((2 ^ e : Nat) : Int) := by
 have h2 : (2 ^ e : Nat) < 9223372036854775808 := by
  have := Nat.pow_lt_pow_right (a := 2) (by decide) (show e < 63 by omega)
  simpa using this
 have h3 : (2 : Int) ^ e = ((2 ^ e : Nat) : Int) := by simp
 rw [h3]; exact eA h2
theorem mJ (l : List Int) (hl : l.length ≤ 17592186044416) (a e f : Nat) (ha : a < 256) (he : e < 8) (hf : f < 8) : Ev (fun k => al.c k l (a : Int) (e : Int) (f : Int)) (l.contains ((dif a (2 ^ e) ||| 2 ^ f : Nat) : Int)) := by
 unfold al.c dq.f; refine Ev.ifp (by omega) (Ev.ifp (by omega) ?_); have hp : ∀ x < 8, 2 ^ x < 2 ^ 63 := fun x hx => Nat.pow_lt_pow_right (by decide) (by omega)
 rw [Int.toNat_natCast, Int.toNat_natCast, kH he, kH hf, fi (cr ha) (hp e he), jN (cr (gi ha)) (hp f hf)]; exact Ev.bind (kK l _ hl) (Ev.now _)
theorem mS {s e : Nat} (h : e ∈ els s) : e < 8 := (d9.1 h).1
theorem any_map (p : Int → Bool) (L : List Nat) : (L.map (fun x : Nat => (x : Int))).any p = L.any (fun x => p (x : Int)) := by
 rw [List.any_map]; rfl
theorem kv (l : List Int) (hl : l.length ≤ 17592186044416) (a b : Nat) (ha : a < 256) (hb : b < 256) : ∀ es : List Nat, (∀ e ∈ es, e < 8) → Ev (fun k => al.l2 k l (a : Int) (b : Int) (es.map (fun x : Nat => (x : Int)))) ((eS l a b es).map (fun x : Nat => (x : Int))) := by
 intro es
 induction es with
 | nil => intro _; exact Ev.now _
 | cons e es ih =>
  intro hm; have he := hm e (List.mem_cons_self ..); simp only [List.map_cons, al.l2]; rw [fi (cr hb) (cr ha)]; refine Ev.bind (ey _) ?_; rw [iD (gi hb)]; refine Ev.bind (a := gU l a b e) ?_ ?_
  ·have h := nD (g := fun k f => al.c k l (a : Int) (e : Int) f) (p := fun f => l.contains ((dif a (2 ^ e) ||| 2 ^ f.toNat : Nat) : Int)) (l := (els (dif b a)).map (fun x : Nat => (x : Int)))
    (fun x hx => by
     obtain ⟨f, hf, rfl⟩ := List.mem_map.1 hx; have := mJ l hl a e f ha he (mS hf); rw [Int.toNat_natCast]; exact this)
   rw [any_map] at h; simp only [Int.toNat_natCast] at h; exact h
  ·simp only [eS]; by_cases hx : gU l a b e = true
   ·refine Ev.ifp hx ?_; rw [if_pos hx]; exact ih (fun e' he' => hm e' (List.mem_cons_of_mem _ he'))
   ·refine Ev.ifn hx ?_; rw [if_neg hx]; exact Ev.now _
theorem ko (l : List Int) (hl : l.length ≤ 17592186044416) (a : Nat) (ha : a < 256) : ∀ bs : List Nat, (∀ b ∈ bs, b < 256) → Ev (fun k => al.l1 k l (a : Int) (bs.map (fun x : Nat => (x : Int)))) ((ff l a bs).map (fun x : Nat × Nat => ((x.1 : Int), (x.2 : Int)))) := by
 intro bs
 induction bs with
 | nil => intro _; exact Ev.now _
 | cons b bs ih =>
  intro hm; have hb := hm b (List.mem_cons_self ..); simp only [List.map_cons, al.l1]; rw [fi (cr ha) (cr hb)]; refine Ev.bind (ey _) ?_; rw [iD (gi ha)]; refine Ev.bind (kv l hl a b ha hb _ (fun e he => mS he)) ?_; simp only [ff]; cases eS l a b (els (dif a b)) with
  | none => exact ih (fun b' hb' => hm b' (List.mem_cons_of_mem _ hb'))
  | some e => exact Ev.now _
theorem kM (l : List Int) (L : List Nat) (hlL : l = L.map (fun x : Nat => (x : Int))) (hl : l.length ≤ 17592186044416) (hL : ∀ b ∈ L, b < 256) : ∀ la : List Nat, (∀ a ∈ la, a < 256) → Ev (fun k => al.l0 k l (la.map (fun x : Nat => (x : Int)))) ((fy l L la).map (fun x : Nat × Nat × Nat => ((x.1 : Int), (x.2.1 : Int), (x.2.2 : Int)))) := by
 intro la
 induction la with
 | nil => intro _; exact Ev.now _
 | cons a la ih =>
  intro hm; have ha := hm a (List.mem_cons_self ..); simp only [List.map_cons, al.l0]; refine Ev.bind (a := (ff l a L).map (fun x : Nat × Nat => ((x.1 : Int), (x.2 : Int)))) (by
   have := ko l hl a ha L hL; rw [← hlL] at this; exact this) ?_
  simp only [fy]; cases ff l a L with
  | none => exact ih (fun a' ha' => hm a' (List.mem_cons_of_mem _ ha'))
  | some x => exact Ev.now _
theorem kQ (n : Int) (l : List Int) (hl : l.length ≤ 17592186044416) : Ev (fun k => al.f k n l) (jo n l) := by
 unfold al.f jo; refine Ev.bind (i7 n l hl) ?_; by_cases hf : famB n l = true
 ·refine Ev.ifp hf ?_; rw [if_pos hf]; obtain ⟨m, L, rfl, hm, hlL, hL, _⟩ := iO hf; have hmap : l.map Int.toNat = L := by rw [hlL, b3]
  have h256 : ∀ b ∈ L, b < 256 := fun b hb => Nat.lt_of_lt_of_le (hL b hb) (bZ hm)
  have h := kM l L hlL hl h256 L h256; rw [← hlL] at h; refine Ev.bind h ?_; rw [hmap]; cases fy l L L with
  | none => exact Ev.now _
  | some x => exact Ev.now _
 ·refine Ev.ifn hf ?_; rw [if_neg hf]; exact Ev.now _
theorem fY (n : Int) (l : List Int) (hl : l.length ≤ 17592186044416) : Ev (fun k => cg.f k n l) (matB n l) := by
 unfold cg.f matB; refine Ev.bind (kQ n l hl) (Ev.bind (i7 n l hl) ?_); by_cases hf : famB n l = true
 ·refine Ev.ifp hf ?_; rw [hf, Bool.true_and]; by_cases h0 : (l.length : Int) > 0
  ·refine Ev.ifp h0 ?_; rw [show decide ((l.length : Int) > 0) = true from by simpa using h0, Bool.true_and]; exact Ev.now _
  ·refine Ev.ifn h0 ?_; rw [show decide ((l.length : Int) > 0) = false from by simpa using h0, Bool.false_and]; exact Ev.now _
 ·refine Ev.ifn hf ?_; rw [Bool.eq_false_iff.2 hf, Bool.false_and]; exact Ev.now _
theorem subset_eq (t s : Int) : dp.f t s = some (dk t && (dk s && decide (subN t.toNat s.toNat))) := by
 unfold dp.f; rw [isAny_eq, isAny_eq, Option.bind_some, Option.bind_some]; by_cases h1 : dk t = true
 ·rw [if_pos h1, h1, Bool.true_and]; by_cases h2 : dk s = true
  ·rw [if_pos h2, h2, Bool.true_and]; obtain ⟨a, rfl, ha⟩ := eG h1; obtain ⟨b, rfl, hb⟩ := eG h2; rw [fi (cr ha) (cr hb), Int.toNat_natCast, Int.toNat_natCast]; have e : (((dif a b : Nat) : Int) == 0) = decide (subN a b) := by
    rw [Bool.eq_iff_iff, beq_iff_eq, decide_eq_true_eq]; have h := @m9 a b
    constructor
    ·intro h0; exact h.1 (by omega)
    ·intro h0; have := h.2 h0; omega
   rw [e]
  ·rw [if_neg h2, Bool.eq_false_iff.2 h2, Bool.false_and]
 ·rw [if_neg h1, Bool.eq_false_iff.2 h1, Bool.false_and]
def indB (L : List Nat) (s : Int) : Bool := dk s && indN L s.toNat
theorem eN (n : Int) (L : List Nat) (s : Int) (hl : L.length ≤ 17592186044416) (hL : ∀ b ∈ L, b < 256) : Ev (fun k => aw.f k n (ints L) s) (indB L s) := by
 have h := down (P := fun i => Ev (fun k => aw.l0 k s (ints L) ((ints L).length : Int) (i : Int)) (dk s && (L.drop i).any (fun b => decide (subN s.toNat b)))) L.length
  (by
   apply Ev.step
   ·intro k; simp only [aw.l0]; rw [if_neg (by rw [ints_len]; omega)]
   ·rw [c9]; simp only [List.any_nil, Bool.and_false]; exact Ev.now _)
  (by
   intro i hi ih; have hb := hL _ (List.getElem_mem hi)
   apply Ev.step
   ·intro k; simp only [aw.l0, subset_eq, Option.bind_some]; rw [if_pos (by rw [ints_len]; omega), if_pos (by omega), if_pos (by rw [ints_len]; omega), dL L i hi, b9 hi hl]
   ·rw [cl L i hi, List.any_cons]; rw [show dk (L[i] : Int) = true from by rw [dY]; simpa using hb, Bool.true_and, Int.toNat_natCast]; by_cases hx : (dk s && decide (subN s.toNat L[i])) = true
    ·refine Ev.ifp hx ?_; simp only [Bool.and_eq_true] at hx; rw [hx.1, hx.2]; exact Ev.now _
    ·refine Ev.ifn hx ?_; have : (dk s && (decide (subN s.toNat L[i]) || (L.drop (i + 1)).any (fun b => decide (subN s.toNat b)))) = (dk s && (L.drop (i + 1)).any (fun b => decide (subN s.toNat b))) := by
      cases h1 : dk s
      ·rfl
      ·rw [h1] at hx; simp only [Bool.true_and] at hx ⊢; rw [Bool.eq_false_iff.2 hx, Bool.false_or]
     rw [this]; exact ih)
 exact h
theorem fg {L : List Nat} {s : Nat} (hs : s < 256) : indB L (s : Int) = indN L s := by
 unfold indB; rw [dY, show decide (s < 256) = true from by simpa using hs, Bool.true_and, Int.toNat_natCast]
theorem km {L : List Nat} {s : Int} {m : Nat} (hL : ∀ b ∈ L, b < 2 ^ m) (h : indB L s = true) : ∃ t : Nat, s = t ∧ t < 2 ^ m ∧ t < 256 ∧ indN L t = true := by
 unfold indB at h; simp only [Bool.and_eq_true] at h; obtain ⟨t, rfl, ht⟩ := eG h.1; rw [Int.toNat_natCast] at h; obtain ⟨b, hb, hsub⟩ := indN_iff.1 h.2; exact ⟨t, rfl, Nat.lt_of_le_of_lt (fq hsub) (hL b hb), ht, h.2⟩
def togB (n : Int) (l : List Int) (n' : Int) (l' : List Int) : Bool := matB n l && (matB n' l' && decide (n = n'))
theorem mP (n : Int) (l : List Int) (n' : Int) (l' : List Int) (hl : l.length ≤ 17592186044416) (hl' : l'.length ≤ 17592186044416) : Ev (fun k => cP.f k n l n' l') (togB n l n' l') := by
 unfold cP.f togB; refine Ev.bind (fY n l hl) ?_; by_cases h1 : matB n l = true
 ·refine Ev.ifp h1 ?_; rw [h1, Bool.true_and]; refine Ev.bind (fY n' l' hl') ?_; by_cases h2 : matB n' l' = true
  ·refine Ev.ifp h2 ?_; rw [h2, Bool.true_and]; have : (n == n') = decide (n = n') := by rw [Bool.eq_iff_iff]; simp
   rw [this]; exact Ev.now _
  ·refine Ev.ifn h2 ?_; rw [Bool.eq_false_iff.2 h2, Bool.false_and]; exact Ev.now _
 ·refine Ev.ifn h1 ?_; rw [Bool.eq_false_iff.2 h1, Bool.false_and]; exact Ev.now _
def ef (n : Int) (l : List Int) (n' : Int) (l' : List Int) (s : Int) : Bool := togB n l n' l' && (indB (l.map Int.toNat) s && indB (l'.map Int.toNat) s)
theorem ji (n : Int) (l : List Int) (n' : Int) (l' : List Int) (s : Int) (hl : l.length ≤ 17592186044416) (hl' : l'.length ≤ 17592186044416) : Ev (fun k => cX.f k n l n' l' s) (ef n l n' l' s) := by
 unfold cX.f ef; refine Ev.bind (mP n l n' l' hl hl') ?_; by_cases h : togB n l n' l' = true
 ·refine Ev.ifp h ?_; rw [h, Bool.true_and]; simp only [togB, Bool.and_eq_true, decide_eq_true_eq] at h; obtain ⟨m, L, rfl, hm, rfl, hL, hL256, _, hne⟩ := eq h.1; obtain ⟨m', L', rfl, hm', rfl, hL', hL256', _, hne'⟩ := eq h.2.1; rw [ints_len] at hl hl'; rw [show (ints L).map Int.toNat = L from b3 L, show (ints L').map Int.toNat = L' from b3 L']; refine Ev.bind (eN _ L s hl hL256) ?_; by_cases h1 : indB L s = true
  ·refine Ev.ifp h1 ?_; rw [h1, Bool.true_and]; exact Ev.bind (eN _ L' s hl' hL256') (Ev.now _)
  ·refine Ev.ifn h1 ?_; rw [Bool.eq_false_iff.2 h1, Bool.false_and]; exact Ev.now _
 ·refine Ev.ifn h ?_; rw [Bool.eq_false_iff.2 h, Bool.false_and]; exact Ev.now _
theorem fW (n : Int) (l : List Int) (n' : Int) (l' : List Int) (s : Int) (hl : l.length ≤ 17592186044416) (hl' : l'.length ≤ 17592186044416) : Ev (fun k => cQ.f k n l n' l' s) (ef n l n' l' s) := by
 unfold cQ.f ef togB; refine Ev.bind (fu n l hl) ?_; by_cases h1 : matB n l = true
 ·refine Ev.ifp h1 (Ev.bind (fu n' l' hl') ?_); rw [h1, Bool.true_and]; by_cases h2 : matB n' l' = true
  ·refine Ev.ifp h2 ?_; rw [h2, Bool.true_and]; by_cases hn : n = n'
   ·refine Ev.ifp hn ?_; subst hn; rw [show decide (n = n) = true from by simp, Bool.true_and]; obtain ⟨m, L, rfl, hm, rfl, hL, hL256, _, hne⟩ := eq h1; obtain ⟨m', L', hmm, hm', rfl, hL', hL256', _, hne'⟩ := eq h2; rw [ints_len] at hl hl'; rw [show (ints L).map Int.toNat = L from b3 L, show (ints L').map Int.toNat = L' from b3 L']; refine Ev.cbind (specIsSet_eq _ _) ?_; by_cases hs : dJ (m : Int) s = true
    ·refine Ev.ifp hs ?_; obtain ⟨_, t, _, rfl, _, _, ht⟩ := e9 hs; rw [fg ht, fg ht]; refine Ev.bind (eR _ L t hl hL256 hne ht) ?_; by_cases hi : indN L t = true
     ·refine Ev.ifp hi ?_; rw [hi, Bool.true_and]; exact Ev.bind (eR _ L' t hl' hL256' hne' ht) (Ev.now _)
     ·refine Ev.ifn hi ?_; rw [Bool.eq_false_iff.2 hi, Bool.false_and]; exact Ev.now _
    ·refine Ev.ifn hs ?_; have : indB L s = false := by
      rw [Bool.eq_false_iff]; intro hi; obtain ⟨t, rfl, ht, _⟩ := km hL hi
      apply hs
      rw [ll]; simp [hm, ht]
     rw [this, Bool.false_and]; exact Ev.now _
   ·refine Ev.ifn hn ?_; rw [show decide (n = n') = false from by simpa using hn, Bool.false_and]; exact Ev.now _
  ·refine Ev.ifn h2 ?_; rw [Bool.eq_false_iff.2 h2, Bool.false_and, Bool.false_and]; exact Ev.now _
 ·refine Ev.ifn h1 ?_; rw [Bool.eq_false_iff.2 h1, Bool.false_and, Bool.false_and]; exact Ev.now _
end Go.Proofs.YtimkekeaeojpkaaGreat.Q
namespace Go.Proofs.YtimkekeaeojpkaaGreat.Q
open Go Go.RowKit Go.Proofs.YtimkekeaeojpkaaGreatW.PrintWords Go.Proofs.YtimkekeaeojpkaaGreatW.PrintLast Go.Proofs.YtimkekeaeojpkaaGreatW.PrintMore Go.Proofs.YtimkekeaeojpkaaGreat.Z
set_option linter.unusedVariables false
set_option linter.unusedSimpArgs false
theorem fJ {n n' : Int} {l l' : List Int} (h : togB n l n' l' = true) : ∃ (m : Nat) (L L' : List Nat), n = m ∧ n' = m ∧ m ≤ 8 ∧ l = ints L ∧ l' = ints L' ∧ (∀ x ∈ L, x < 2 ^ m) ∧ (∀ x ∈ L', x < 2 ^ m) ∧ (∀ x ∈ L, x < 256) ∧ (∀ x ∈ L', x < 256) ∧ L ≠ [] ∧ L' ≠ [] := by
 simp only [togB, Bool.and_eq_true, decide_eq_true_eq] at h; obtain ⟨h1, h2, h3⟩ := h; obtain ⟨m, L, rfl, hm, rfl, hL, hL256, _, hne⟩ := eq h1; obtain ⟨m', L', rfl, hm', rfl, hL', hL256', _, hne'⟩ := eq h2; have : m = m' := by omega
 subst this; exact ⟨m, L, L', rfl, rfl, hm, rfl, rfl, hL, hL', hL256, hL256', hne, hne'⟩
theorem jP (n : Int) (l : List Int) (n' : Int) (l' : List Int) : ef n l n' l' 0 = togB n l n' l' := by
 unfold ef; by_cases h : togB n l n' l' = true
 ·rw [h, Bool.true_and]; obtain ⟨m, L, L', rfl, rfl, hm, rfl, rfl, hL, hL', hL256, hL256', hne, hne'⟩ := fJ h; rw [show (ints L).map Int.toNat = L from b3 L, show (ints L').map Int.toNat = L' from b3 L']; have hz : ∀ M : List Nat, M ≠ [] → indB M 0 = true := fun M hM => by
   have := @fg M 0 (by omega); rw [show ((0 : Nat) : Int) = 0 from rfl] at this; rw [this, indN_iff]; obtain ⟨b, hb⟩ := List.exists_mem_of_ne_nil M hM; exact ⟨b, hb, jF b⟩
  rw [hz L hne, hz L' hne']
  rfl
 ·rw [Bool.eq_false_iff.2 h, Bool.false_and]
end Go.Proofs.YtimkekeaeojpkaaGreat.Q
namespace Go.Proofs.YtimkekeaeojpkaaGreat.Q
open Go Go.RowKit Go.Proofs.YtimkekeaeojpkaaGreat.A Go.Proofs.YtimkekeaeojpkaaGreatW.PrintWords Go.Proofs.YtimkekeaeojpkaaGreatW.PrintLast Go.Proofs.YtimkekeaeojpkaaGreatW.PrintMore Go.Proofs.YtimkekeaeojpkaaGreat.Z
set_option linter.unusedVariables false
set_option linter.unusedSimpArgs false
def comN (L L' : List Nat) (s : Nat) : Bool := indN L s && indN L' s
def csN (m : Nat) (L L' : List Nat) : List Nat := (List.range (2 ^ m)).filter (comN L L')
theorem j7 {m : Nat} {L L' : List Nat} {t : Nat} (h : t ∈ csN m L L') : t < 2 ^ m := List.mem_range.1 (List.mem_filter.1 h).1
theorem nt {m : Nat} (hm : m ≤ 8) (L L' : List Nat) : (csN m L L').length ≤ 256 := by
 have h1 : (csN m L L').length ≤ (List.range (2 ^ m)).length := List.length_filter_le _ _; rw [List.length_range] at h1; have := bZ hm; omega
theorem ir {m : Nat} (hm : m ≤ 8) (L L' : List Nat) (hl : L.length ≤ 17592186044416) (hl' : L'.length ≤ 17592186044416) (hL : ∀ b ∈ L, b < 256) (hL' : ∀ b ∈ L', b < 256) : Ev (fun k => cm.f k (m : Int) (ints L) (m : Int) (ints L')) (ints (csN m L L')) := by
 have h2m := bZ hm; have hp := Nat.two_pow_pos m; unfold cm.f; refine Ev.cbind (g9 hm) (Ev.ifp (by unfold cq; omega) ?_); have e : eJ 0 ((cq m : Nat) : Int) = ints (List.range (2 ^ m)) := by
  unfold eJ ints cq; rw [List.range_eq_range', show (((2 ^ m - 1 : Nat) : Int) + 1).toNat - (0 : Int).toNat = 2 ^ m from by omega]
  rfl
 unfold jA; rw [e]; have hf : (ints (List.range (2 ^ m))).filter (fun x : Int => comN L L' x.toNat) = ints (csN m L L') := by
  unfold ints csN; rw [List.filter_map]
  congr 1
 rw [← hf]; refine iv (p := fun x : Int => comN L L' x.toNat) ?_; intro x hx; unfold ints at hx; obtain ⟨t, ht, rfl⟩ := List.mem_map.1 hx; have ht2 := List.mem_range.1 ht; have h256 : t < 256 := by omega
 have h1 := eN (m : Int) L (t : Int) hl hL; have h2 := eN (m : Int) L' (t : Int) hl' hL'; rw [fg h256] at h1 h2; unfold cm.c; refine Ev.bind h1 ?_
 show Ev _ (comN L L' (t : Int).toNat)
 rw [Int.toNat_natCast]; unfold comN; by_cases h : indN L t = true
 ·rw [h, Bool.true_and]; exact Ev.ifp rfl h2
 ·rw [Bool.eq_false_iff.2 h, Bool.false_and]; exact Ev.ifn (by decide) (Ev.now _)
def dQ (w : List Int) (c b : Int) (t : Nat) : Int := if (pc t : Int) = c then (if b < 0 then (t : Int) else (if ce w (t : Int) > ce w b then (t : Int) else b)) else b
def bcN (w : List Int) (c b : Int) (ts : List Nat) : Int := ts.foldl (dQ w c) b
theorem fE (w : List Int) (c b : Int) (t : Nat) (ts : List Nat) : bcN w c b (t :: ts) = bcN w c (dQ w c b t) ts := rfl
def fin2 (b : Int) : Int × Bool := if b < 0 then (0, false) else (b, true)
def bcB (n : Int) (l : List Int) (n' : Int) (l' w : List Int) (c : Int) : Int × Bool := if togB n l n' l' = true then (if areW n w = true then fin2 (bcN w c (-1) (csN n.toNat (l.map Int.toNat) (l'.map Int.toNat))) else (0, false)) else (0, false)
theorem fa (n : Int) (l : List Int) (n' : Int) (l' w : List Int) (c : Int) (hl : l.length ≤ 17592186044416) (hl' : l'.length ≤ 17592186044416) (hw : w.length ≤ 17592186044416) : Ev (fun k => aq.f k n l n' l' w c) (bcB n l n' l' w c) := by
 have hfin : ∀ x : Bool, x = true → Ev (fun k => aq.j0 k w c x n l n' l') (0, false) := by
  intro x hx
  apply Ev.step
  ·intro k; rw [aq.j0]
  ·exact Ev.ifp hx (Ev.now _)
 unfold aq.f bcB; have hc := fW n l n' l' 0 hl hl'; rw [jP] at hc; refine Ev.bind hc ?_; by_cases h : togB n l n' l' = true
 rotate_left
 ·rw [if_neg h]; exact Ev.ifn h (hfin _ rfl)
 rw [if_pos h]; refine Ev.ifp h (Ev.bind (eU n w hw) ?_); by_cases h2 : areW n w = true
 rotate_left
 ·rw [if_neg h2]; exact hfin _ (by rw [Bool.eq_false_iff.2 h2]; rfl)
 rw [if_pos h2, h2, Bool.not_true]; obtain ⟨m, L, L', rfl, rfl, hm, rfl, rfl, hL, hL', hL256, hL256', hne, hne'⟩ := fJ h; rw [show (ints L).map Int.toNat = L from b3 L, show (ints L').map Int.toNat = L' from b3 L', Int.toNat_natCast]; rw [ints_len] at hl hl'; have h2m := bZ hm; have hp := Nat.two_pow_pos m; have hd := down (P := fun t => ∀ b : Int, Ev (fun k => aq.l0 k w c b (t : Int) (m : Int) (ints L) (m : Int) (ints L')) (fin2 (bcN w c b ((List.range' t (2 ^ m - t)).filter (comN L L'))))) (2 ^ m)
  (by
   intro b
   apply Ev.step
   ·intro k; simp only [aq.l0, dx hm, Option.bind_some]; rw [if_neg (by unfold cq; omega)]
   ·rw [Nat.sub_self]
    show Ev _ (fin2 b)
    unfold fin2; by_cases hb : b < 0
    ·refine Ev.ifp hb ?_; rw [if_pos hb]; exact Ev.now _
    ·refine Ev.ifn hb ?_; rw [if_neg hb]; exact Ev.now _)
  (by
   intro t ht ih b; have h256 : t < 256 := by omega
   apply Ev.step
   ·intro k; simp only [aq.l0, dx hm, Option.bind_some]; rw [if_pos (by unfold cq; omega), b9 ht (by omega)]
   ·rw [gu ht, List.filter_cons]; refine Ev.bind (dl t h256) ?_; have hf1 := eR (m : Int) L t hl hL256 hne h256; have hf2 := eR (m : Int) L' t hl' hL256' hne' h256; by_cases hq : (pc t : Int) = c
    ·refine Ev.ifp hq (Ev.bind hf1 ?_); unfold comN; by_cases h1 : indN L t = true
     ·refine Ev.ifp h1 (Ev.bind hf2 ?_); rw [h1, Bool.true_and]; by_cases h2 : indN L' t = true
      ·rw [if_pos h2, fE]; refine Ev.ifp h2 ?_; unfold dQ; rw [if_pos hq]; by_cases hb : b < 0
       ·rw [if_pos hb]; exact Ev.ifp hb (ih _)
       ·rw [if_neg hb]; refine Ev.ifn hb (Ev.bind (dy w (t : Int) hw) (Ev.bind (dy w b hw) ?_)); by_cases hg : ce w (t : Int) > ce w b
        ·rw [if_pos hg]; exact Ev.ifp hg (ih _)
        ·rw [if_neg hg]; exact Ev.ifn hg (ih _)
      ·rw [if_neg h2]; exact Ev.ifn h2 (ih b)
     ·rw [Bool.eq_false_iff.2 h1, Bool.false_and, if_neg (by decide)]; exact Ev.ifn (by decide) (ih b)
    ·refine Ev.ifn hq ?_; by_cases h1 : comN L L' t = true
     ·rw [if_pos h1, fE]; have := ih b; rw [show dQ w c b t = b from by unfold dQ; rw [if_neg hq]]; exact this
     ·rw [if_neg h1]; exact ih b)
 have h0 := hd (-1); rw [Nat.sub_zero, ← List.range_eq_range'] at h0
 apply Ev.step
 ·intro k; rw [aq.j0]
 ·exact Ev.ifn (by decide) h0
theorem gP (n : Int) (l : List Int) (n' : Int) (l' w : List Int) (c : Int) (hl : l.length ≤ 17592186044416) (hl' : l'.length ≤ 17592186044416) (hw : w.length ≤ 17592186044416) : Ev (fun k => aW.f k n l n' l' w c) (bcB n l n' l' w c) := by
 have hfin : ∀ x : Bool, x = true → Ev (fun k => aW.j0 k w c x n l n' l') (0, false) := by
  intro x hx
  apply Ev.step
  ·intro k; rw [aW.j0]
  ·exact Ev.ifp hx (Ev.now _)
 unfold aW.f bcB; refine Ev.bind (mP n l n' l' hl hl') ?_; by_cases h : togB n l n' l' = true
 rotate_left
 ·rw [if_neg h]; exact Ev.ifn h (hfin _ rfl)
 rw [if_pos h]; refine Ev.ifp h (Ev.bind (ec n w hw) ?_); by_cases h2 : areW n w = true
 rotate_left
 ·rw [if_neg h2]; exact hfin _ (by rw [Bool.eq_false_iff.2 h2]; rfl)
 rw [if_pos h2, h2, Bool.not_true]; obtain ⟨m, L, L', rfl, rfl, hm, rfl, rfl, hL, hL', hL256, hL256', hne, hne'⟩ := fJ h; rw [show (ints L).map Int.toNat = L from b3 L, show (ints L').map Int.toNat = L' from b3 L', Int.toNat_natCast]; rw [ints_len] at hl hl'; have h2m := bZ hm; have hcl := nt hm L L'; have hsets := ir hm L L' hl hl' hL256 hL256'; have hmem : ∀ t ∈ csN m L L', t < 256 := fun t ht => Nat.lt_of_lt_of_le (j7 ht) h2m
 generalize csN m L L' = C at hmem hcl hsets ⊢; have hd := down (P := fun i => ∀ b : Int, Ev (fun k => aW.l0 k w c b (ints C) ((ints C).length : Int) (i : Int)) (fin2 (bcN w c b (C.drop i)))) C.length
  (by
   intro b
   apply Ev.step
   ·intro k; simp only [aW.l0]; rw [if_neg (by rw [ints_len]; omega)]
   ·rw [c9]
    show Ev _ (fin2 b)
    unfold fin2; by_cases hb : b < 0
    ·refine Ev.ifp hb ?_; rw [if_pos hb]; exact Ev.now _
    ·refine Ev.ifn hb ?_; rw [if_neg hb]; exact Ev.now _)
  (by
   intro i hi ih b; have ht := hmem _ (List.getElem_mem hi)
   apply Ev.step
   ·intro k; simp only [aW.l0]; rw [if_pos (by rw [ints_len]; omega), if_pos (by omega), if_pos (by rw [ints_len]; omega), dL C i hi, b9 hi (by omega), fo _ ht, Option.bind_some]
   ·rw [cl C i hi, fE]; unfold dQ; by_cases hq : (pc C[i] : Int) = c
    ·rw [if_pos hq]; refine Ev.ifp hq ?_; by_cases hb : b < 0
     ·rw [if_pos hb]; exact Ev.ifp hb (ih _)
     ·rw [if_neg hb]; refine Ev.ifn hb (Ev.bind (dW w (C[i] : Int) hw) (Ev.bind (dW w b hw) ?_)); by_cases hg : ce w (C[i] : Int) > ce w b
      ·rw [if_pos hg]; exact Ev.ifp hg (ih _)
      ·rw [if_neg hg]; exact Ev.ifn hg (ih _)
    ·rw [if_neg hq]; exact Ev.ifn hq (ih _))
 apply Ev.step
 ·intro k; rw [aW.j0]
 ·exact Ev.ifn (by decide) (Ev.bind hsets (hd (-1)))
theorem ku : ∀ m < 9, pc (cq m) = m := by decide +kernel
theorem lp {m t : Nat} (hm : m ≤ 8) (ht : t < 2 ^ m) : pc t ≤ m := by
 rw [← ku m (by omega)]
 apply ee
 intro i _ hi; rw [full_bit]; rcases Nat.lt_or_ge i m with h | h
 ·exact decide_eq_true h
 ·have := Nat.testBit_lt_two_pow (Nat.lt_of_lt_of_le ht (Nat.pow_le_pow_right (by omega) h)); rw [hi] at this; cases this
theorem m8 {w : List Int} {c : Int} {ts : List Nat} (h : ∀ t ∈ ts, (pc t : Int) ≠ c) : ∀ b : Int, bcN w c b ts = b := by
 induction ts with
 | nil => intro b; rfl
 | cons t ts ih =>
  intro b; rw [fE, show dQ w c b t = b from by unfold dQ; rw [if_neg (h t (List.mem_cons_self ..))]]; exact ih (fun x hx => h x (List.mem_cons_of_mem _ hx)) b
theorem kG {n : Int} {l : List Int} {n' : Int} {l' w : List Int} {c : Int} (h : n < c) : (bcB n l n' l' w c).2 = false := by
 unfold bcB; by_cases h1 : togB n l n' l' = true
 ·rw [if_pos h1]; by_cases h2 : areW n w = true
  ·rw [if_pos h2]; obtain ⟨m, L, L', rfl, rfl, hm, rfl, rfl, hL, hL', hL256, hL256', hne, hne'⟩ := fJ h1; rw [show (ints L).map Int.toNat = L from b3 L, show (ints L').map Int.toNat = L' from b3 L', Int.toNat_natCast]; rw [m8 (fun t ht => by have := lp hm (j7 ht); omega)]
   rfl
  ·rw [if_neg h2]
 ·rw [if_neg h1]
def bwN (n : Int) (l : List Int) (n' : Int) (l' w : List Int) : Nat → Nat → List Int
 | 0, _ => []
 | j + 1, c => if (bcB n l n' l' w (c : Int)).2 = true then ce w (bcB n l n' l' w (c : Int)).1 :: bwN n l n' l' w j (c + 1) else []
theorem nr (n : Int) (l : List Int) (n' : Int) (l' w : List Int) : ∀ j c : Nat, (bwN n l n' l' w j c).length ≤ j := by
 intro j
 induction j with
 | zero => intro c; exact Nat.le_refl _
 | succ j ih =>
  intro c; simp only [bwN]; by_cases h : (bcB n l n' l' w (c : Int)).2 = true
  ·rw [if_pos h, List.length_cons]; have := ih (c + 1); omega
  ·rw [if_neg h]; exact Nat.zero_le _
theorem kP {n : Int} {l : List Int} {n' : Int} {l' w : List Int} {c : Int} (h : (bcB n l n' l' w c).2 = true) : 0 ≤ n ∧ n ≤ 8 := by
 unfold bcB at h; by_cases h1 : togB n l n' l' = true
 ·obtain ⟨m, L, L', rfl, rfl, hm, rfl, rfl, hL, hL', hL256, hL256', hne, hne'⟩ := fJ h1; omega
 ·rw [if_neg h1] at h; cases h
def bwB (n : Int) (l : List Int) (n' : Int) (l' w : List Int) : List Int := bwN n l n' l' w 9 0
theorem nG (n : Int) (l : List Int) (n' : Int) (l' w : List Int) : (bwB n l n' l' w).length ≤ 9 := nr n l n' l' w 9 0
theorem fC {n : Int} {l : List Int} {n' : Int} {l' w : List Int} {c : Nat} (h : (bcB n l n' l' w (c : Int)).2 = false) (j : Nat) : bwN n l n' l' w j c = [] := by
 cases j with
 | zero => rfl
 | succ j =>
  simp only [bwN]; rw [h, if_neg (by decide)]
theorem mC (n : Int) (l : List Int) (n' : Int) (l' w : List Int) (hl : l.length ≤ 17592186044416) (hl' : l'.length ≤ 17592186044416) (hw : w.length ≤ 17592186044416) : Ev (fun k => bJ.f k n l n' l' w) (bwB n l n' l' w) := by
 have hd := down (P := fun c => ∀ acc : List Int, acc.length ≤ c → Ev (fun k => bJ.l0 k w acc (c : Int) n l n' l') (acc ++ bwN n l n' l' w (9 - c) c)) 9
  (by
   intro acc _
   apply Ev.step
   ·intro k; rw [bJ.l0]
   ·by_cases hc : ((9 : Nat) : Int) ≤ n
    ·refine Ev.ifp hc (Ev.bind (fa n l n' l' w _ hl hl' hw) ?_); have : ¬ (bcB n l n' l' w ((9 : Nat) : Int)).2 = true := fun h => by have := kP h; omega
     rw [fC (Bool.eq_false_iff.2 this), List.append_nil]; exact Ev.ifn this (Ev.now _)
    ·rw [Nat.sub_self, show bwN n l n' l' w 0 9 = [] from rfl, List.append_nil]; exact Ev.ifn hc (Ev.now _))
  (by
   intro c hc ih acc ha
   apply Ev.step
   ·intro k; rw [bJ.l0, b9 hc (by omega)]
   ·by_cases h1 : ((c : Nat) : Int) ≤ n
    ·refine Ev.ifp h1 (Ev.bind (fa n l n' l' w _ hl hl' hw) ?_); obtain ⟨j, hj⟩ : ∃ j, 9 - c = j + 1 := ⟨9 - c - 1, by omega⟩; by_cases h2 : (bcB n l n' l' w (c : Int)).2 = true
     ·refine Ev.ifp h2 (Ev.bind (dy w _ hw) (Ev.ifp (by omega) ?_)); have := ih (acc ++ [ce w (bcB n l n' l' w (c : Int)).1]) (by rw [List.length_append, List.length_singleton]; omega); rw [List.append_assoc, List.singleton_append, show 9 - (c + 1) = j from by omega] at this; rw [hj]; simp only [bwN]; rw [if_pos h2]; exact this
     ·rw [fC (Bool.eq_false_iff.2 h2), List.append_nil]; exact Ev.ifn h2 (Ev.now _)
    ·rw [fC (kG (by omega)), List.append_nil]; exact Ev.ifn h1 (Ev.now _))
 unfold bJ.f; have h0 := hd [] (by simp); rw [List.nil_append] at h0; exact h0
theorem ml (n : Int) (l : List Int) (n' : Int) (l' w : List Int) (hl : l.length ≤ 17592186044416) (hl' : l'.length ≤ 17592186044416) (hw : w.length ≤ 17592186044416) : Ev (fun k => bG.f k n l n' l' w) (bwB n l n' l' w) := by
 have hd := down (P := fun c => ∀ acc : List Int, acc.length ≤ c → Ev (fun k => bG.l0 k w acc (c : Int) n l n' l') (acc ++ bwN n l n' l' w (9 - c) c)) 9
  (by
   intro acc _
   apply Ev.step
   ·intro k; rw [bG.l0]
   ·refine Ev.bind (gP n l n' l' w _ hl hl' hw) ?_; have : ¬ (bcB n l n' l' w ((9 : Nat) : Int)).2 = true := fun h => by
     have hs := kP h; have ho := kG (l := l) (n' := n') (l' := l') (w := w) (show n < ((9 : Nat) : Int) by omega); rw [h] at ho; cases ho
    rw [fC (Bool.eq_false_iff.2 this), List.append_nil]; exact Ev.ifn this (Ev.now _))
  (by
   intro c hc ih acc ha
   apply Ev.step
   ·intro k; rw [bG.l0, b9 hc (by omega)]
   ·refine Ev.bind (gP n l n' l' w _ hl hl' hw) ?_; obtain ⟨j, hj⟩ : ∃ j, 9 - c = j + 1 := ⟨9 - c - 1, by omega⟩; by_cases h2 : (bcB n l n' l' w (c : Int)).2 = true
    ·refine Ev.ifp h2 (Ev.bind (dW w _ hw) (Ev.ifp (by omega) ?_)); have := ih (acc ++ [ce w (bcB n l n' l' w (c : Int)).1]) (by rw [List.length_append, List.length_singleton]; omega); rw [List.append_assoc, List.singleton_append, show 9 - (c + 1) = j from by omega] at this; rw [hj]; simp only [bwN]; rw [if_pos h2]; exact this
    ·rw [fC (Bool.eq_false_iff.2 h2), List.append_nil]; exact Ev.ifn h2 (Ev.now _))
 unfold bG.f; have h0 := hd [] (by simp); rw [List.nil_append] at h0; exact h0
end Go.Proofs.YtimkekeaeojpkaaGreat.Q
namespace Go.Proofs.YtimkekeaeojpkaaGreat.Q
open Go Go.RowKit Go.Proofs.YtimkekeaeojpkaaGreatW.PrintWords Go.Proofs.YtimkekeaeojpkaaGreatW.PrintLast Go.Proofs.YtimkekeaeojpkaaGreatW.PrintMore Go.Proofs.YtimkekeaeojpkaaGreat.Z
set_option linter.unusedVariables false
set_option linter.unusedSimpArgs false
def insW (w : List Int) (k : Nat) : List Nat → List Nat
 | [] => [k]
 | x :: xs => if rd w (x : Int) < rd w (k : Int) then k :: x :: xs else x :: insW w k xs
def dA (w : List Int) (n : Nat) : List Nat := (List.range n).foldl (fun out k => insW w k out) []
theorem kY (w : List Int) (k : Nat) (post : List Nat) (h2 : ∀ x ∈ post, rd w (x : Int) < rd w (k : Int)) : ∀ pre : List Nat, (∀ x ∈ pre, ¬ rd w (x : Int) < rd w (k : Int)) → insW w k (pre ++ post) = pre ++ k :: post := by
 intro pre
 induction pre with
 | nil =>
  intro _; cases post with
  | nil => rfl
  | cons y ys => simp only [List.nil_append, insW]; rw [if_pos (h2 y (List.mem_cons_self ..))]
 | cons x pre ih =>
  intro h1; simp only [List.cons_append, insW]; rw [if_neg (h1 x (List.mem_cons_self ..)), ih (fun y hy => h1 y (List.mem_cons_of_mem _ hy))]
theorem insW_mem (w : List Int) (k a : Nat) : ∀ l : List Nat, a ∈ insW w k l ↔ a = k ∨ a ∈ l := by
 intro l
 induction l with
 | nil => simp [insW]
 | cons x l ih =>
  simp only [insW]; by_cases h : rd w (x : Int) < rd w (k : Int)
  ·rw [if_pos h, List.mem_cons]
  ·rw [if_neg h, List.mem_cons, ih, List.mem_cons]
   constructor
   ·rintro (h' | h' | h')
    ·exact .inr (.inl h')
    ·exact .inl h'
    ·exact .inr (.inr h')
   ·rintro (h' | h' | h')
    ·exact .inr (.inl h')
    ·exact .inl h'
    ·exact .inr (.inr h')
theorem insW_len (w : List Int) (k : Nat) : ∀ l : List Nat, (insW w k l).length = l.length + 1 := by
 intro l
 induction l with
 | nil => rfl
 | cons x l ih =>
  simp only [insW]; by_cases h : rd w (x : Int) < rd w (k : Int)
  ·rw [if_pos h]; rfl
  ·rw [if_neg h, List.length_cons, ih]; rfl
theorem lB (w : List Int) (k : Nat) : ∀ l : List Nat, l.Nodup → k ∉ l → (insW w k l).Nodup := by
 intro l
 induction l with
 | nil => intro _ _; simp [insW]
 | cons x l ih =>
  intro hl hk; simp only [insW]; by_cases h : rd w (x : Int) < rd w (k : Int)
  ·rw [if_pos h, List.nodup_cons]; exact ⟨hk, hl⟩
  ·rw [List.nodup_cons] at hl; rw [if_neg h, List.nodup_cons, insW_mem]; refine ⟨fun hx => ?_, ih hl.2 (fun h' => hk (List.mem_cons_of_mem _ h'))⟩; rcases hx with rfl | hx
   ·exact hk (List.mem_cons_self ..)
   ·exact hl.1 hx
theorem lY (w : List Int) (k : Nat) : ∀ l : List Nat, l.Pairwise (fun a b : Nat => rd w (b : Int) ≤ rd w (a : Int)) → (insW w k l).Pairwise (fun a b : Nat => rd w (b : Int) ≤ rd w (a : Int)) := by
 intro l
 induction l with
 | nil => intro _; simp [insW]
 | cons x l ih =>
  intro hl; have hl' := hl; rw [List.pairwise_cons] at hl; simp only [insW]; by_cases h : rd w (x : Int) < rd w (k : Int)
  ·rw [if_pos h, List.pairwise_cons]; refine ⟨fun b hb => ?_, hl'⟩; rcases List.mem_cons.1 hb with rfl | hb
   ·omega
   ·have := hl.1 b hb; omega
  ·rw [if_neg h, List.pairwise_cons]; refine ⟨fun b hb => ?_, ih hl.2⟩; rcases (insW_mem w k b l).1 hb with rfl | hb
   ·omega
   ·exact hl.1 b hb
theorem eo (w : List Int) (n : Nat) : dA w (n + 1) = insW w n (dA w n) := by
 unfold dA; rw [List.range_succ, List.foldl_append]; rfl
theorem fv (w : List Int) (a : Nat) : ∀ n, a ∈ dA w n ↔ a < n := by
 intro n
 induction n with
 | zero => simp [dA]
 | succ n ih =>
  rw [eo, insW_mem, ih]; omega
theorem iG (w : List Int) : ∀ n, (dA w n).length = n := by
 intro n
 induction n with
 | zero => rfl
 | succ n ih => rw [eo, insW_len, ih]
theorem gW (w : List Int) : ∀ n, (dA w n).Pairwise (fun a b : Nat => rd w (b : Int) ≤ rd w (a : Int)) := by
 intro n
 induction n with
 | zero => simp [dA]
 | succ n ih => rw [eo]; exact lY w n _ ih
theorem gF (w : List Int) (n : Nat) : mD n (fun i => rd w (i : Int)) (dA w n) := by
 refine ⟨?_, fun e => fv w e n, gW w n⟩
 induction n with
 | zero => simp [dA]
 | succ n ih =>
  rw [eo]; exact lB w n _ ih (fun h => by rw [fv] at h; omega)
theorem kV {l : List Int} {a b : Nat} : ∀ {es : List Nat}, eS l a b es = none → ∀ e ∈ es, gU l a b e = true := by
 intro es
 induction es with
 | nil => intro _ e he; simp at he
 | cons x es ih =>
  intro h e he; simp only [eS] at h; by_cases hx : gU l a b x = true
  ·rw [if_pos hx] at h; rcases List.mem_cons.1 he with rfl | he
   ·exact hx
   ·exact ih h e he
  ·rw [if_neg hx] at h; cases h
theorem k6 {l : List Int} {a : Nat} : ∀ {bs : List Nat}, ff l a bs = none → ∀ b ∈ bs, eS l a b (els (dif a b)) = none := by
 intro bs
 induction bs with
 | nil => intro _ e he; simp at he
 | cons x bs ih =>
  intro h b hb; simp only [ff] at h; cases hx : eS l a x (els (dif a x)) with
  | none =>
   rw [hx] at h; rcases List.mem_cons.1 hb with rfl | hb
   ·exact hx
   ·exact ih h b hb
  | some e => rw [hx] at h; cases h
theorem k8 {l : List Int} {L : List Nat} : ∀ {la : List Nat}, fy l L la = none → ∀ a ∈ la, ff l a L = none := by
 intro la
 induction la with
 | nil => intro _ e he; simp at he
 | cons x la ih =>
  intro h b hb; simp only [fy] at h; cases hx : ff l x L with
  | none =>
   rw [hx] at h; rcases List.mem_cons.1 hb with rfl | hb
   ·exact hx
   ·exact ih h b hb
  | some e => rw [hx] at h; cases h
theorem iq {L : List Nat} {x : Nat} : (ints L).contains (x : Int) = true ↔ x ∈ L := by
 rw [List.contains_iff_mem]; unfold ints; rw [List.mem_map]
 constructor
 ·rintro ⟨y, hy, he⟩; have : y = x := by omega
  subst this; exact hy
 ·intro h; exact ⟨x, h, rfl⟩
theorem fe {n : Int} {l : List Int} (h : matB n l = true) : ∃ (m : Nat) (L : List Nat), n = m ∧ l = ints L ∧ Mat m L ∧ L.Pairwise (· < ·) := by
 have h0 := h; obtain ⟨m, L, rfl, hm, rfl, hL, hL256, hp, hne⟩ := eq h; refine ⟨m, L, rfl, rfl, ⟨hm, hL, hne, ?_⟩, hp⟩; simp only [matB, Bool.and_eq_true] at h0; obtain ⟨hf, _, hff⟩ := h0; unfold jo at hff; rw [if_pos hf, show (ints L).map Int.toNat = L from b3 L] at hff; cases hA : fy (ints L) L L with
 | some x => rw [hA] at hff; simp [told] at hff
 | none =>
  intro a ha b hb e he hae hbe; have h1 := kV (k6 (k8 hA a ha) b hb) e (d9.2 ⟨he, by rw [dif_bit, hae, hbe]; rfl⟩); unfold gU at h1; obtain ⟨f, hf', hc⟩ := List.any_eq_true.1 h1; obtain ⟨hf8, hfb⟩ := d9.1 hf'; rw [dif_bit] at hfb; simp only [Bool.and_eq_true, Bool.not_eq_true'] at hfb; exact ⟨f, hf8, hfb.1, hfb.2, iq.1 hc⟩
end Go.Proofs.YtimkekeaeojpkaaGreat.Q
namespace Go.Proofs.YtimkekeaeojpkaaGreat.Q
open Go Go.RowKit Go.Proofs.YtimkekeaeojpkaaGreat.A Go.Proofs.YtimkekeaeojpkaaGreatW.PrintWords Go.Proofs.YtimkekeaeojpkaaGreatW.PrintLast Go.Proofs.YtimkekeaeojpkaaGreatW.PrintMore Go.Proofs.YtimkekeaeojpkaaGreat.Z
set_option linter.unusedVariables false
set_option linter.unusedSimpArgs false
def gA (n : Int) (l : List Int) : Int := if matB n l = true then (pc (rd l 0).toNat : Int) else -1
theorem jx {m : Nat} {L : List Nat} (h : matB (m : Int) (ints L) = true) (hM : Mat m L) : ∀ b ∈ L, gA (m : Int) (ints L) = (pc b : Int) := by
 intro b hb; unfold gA; rw [if_pos h]; have h0 : 0 < L.length := List.length_pos_iff.2 hM.some; have e := dL L 0 h0; rw [show ((0 : Nat) : Int) = 0 from rfl] at e; rw [e, Int.toNat_natCast, hM.card (List.getElem_mem h0) hb]
theorem jg (n : Int) (l : List Int) (hl : l.length ≤ 17592186044416) : Ev (fun k => cZ.f k n l) (gA n l) := by
 unfold cZ.f gA; refine Ev.bind (fu n l hl) ?_; by_cases h : matB n l = true
 ·refine Ev.ifp h ?_; rw [if_pos h]; obtain ⟨m, L, rfl, rfl, hM, _⟩ := fe h; have h0 : 0 < L.length := List.length_pos_iff.2 hM.some; have e := dL L 0 h0; rw [show ((0 : Nat) : Int) = 0 from rfl] at e; refine Ev.ifp (by rw [ints_len]; omega) ?_; rw [e, Int.toNat_natCast]; exact Ev.bind (dl _ (hM.lt _ (List.getElem_mem h0))) (Ev.now _)
 ·refine Ev.ifn h ?_; rw [if_neg h]; exact Ev.now _
theorem or64 {s e : Nat} (hs : s < 256) (he : e < 8) : Go.bits .or .i64 (s : Int) (shl .i64 1 (IntKind.u64.wrap (e : Int))) = ((s ||| 2 ^ e : Nat) : Int) := by
 rw [fm (by omega) (by omega), eE (by omega), jN (cr hs) (cr (show 2 ^ e < 256 from dO (m := 8) he))]
theorem jK (w : List Int) (hw : w.length ≤ 8) : Ev (fun k => aV.f k w) (ints (dA w w.length)) := by
 have hd := down (P := fun i => Ev (fun k => aV.l0 k w (ints (dA w i)) (i : Int)) (ints (dA w w.length))) w.length
  (by
   apply Ev.step
   ·intro k; rw [aV.l0, if_neg (by omega)]
   ·exact Ev.now _)
  (by
   intro i hi ih; have hlen := iG w i; have hmem := fun a => fv w a i
   have hfall := gW w i; rw [eo] at ih; generalize dA w i = out at ih hlen hmem hfall ⊢; have key : ∀ at_ : Nat, at_ ≤ i → (∀ x ∈ out.drop at_, rd w (x : Int) < rd w (i : Int)) → Ev (fun k => aV.l1 k w (ints out) (i : Int) (at_ : Int)) (ints (dA w w.length)) := by
    have ins : ∀ at_ : Nat, at_ ≤ i → (∀ x ∈ out.take at_, ¬ rd w (x : Int) < rd w (i : Int)) → (∀ x ∈ out.drop at_, rd w (x : Int) < rd w (i : Int)) → Ev (fun k => aV.l0 k w ((ints out).take at_ ++ [(i : Int)] ++ (ints out).drop at_) (wrap64 ((i : Int) + 1))) (ints (dA w w.length)) := by
     intro at_ ha h1 h2; have e := kY w i (out.drop at_) h2 (out.take at_) h1; rw [List.take_append_drop] at e; rw [e] at ih; rw [b9 hi (by omega)]; have : (ints out).take at_ ++ [(i : Int)] ++ (ints out).drop at_ = ints (out.take at_ ++ i :: out.drop at_) := by
      unfold ints; rw [List.map_append, List.map_cons, List.map_take, List.map_drop, List.append_assoc, List.singleton_append]
     rw [this]; exact ih
    intro at_
    induction at_ with
    | zero =>
     intro _ h2; have := ins 0 (by omega) (by simp) h2
     apply Ev.step
     ·intro k; rw [aV.l1, if_neg (by omega)]
     ·simp only [Option.bind_some, List.nil_append, List.length_nil]; refine Ev.ifp (by omega) (Ev.ifp (by omega) (Ev.ifp (by rw [List.length_drop, ints_len]; omega) (Ev.ifp (by rw [List.length_take, ints_len]; omega) (Ev.ifp (by simp only [List.length_append, List.length_take, List.length_drop, List.length_singleton, ints_len]; omega) ?_)))); exact this
    | succ a iha =>
     intro ha h2; have hlt : a < out.length := by omega
     have hx := (hmem out[a]).1 (List.getElem_mem hlt)
     apply Ev.step
     ·intro k; rw [aV.l1, if_pos (by omega), bC (n := ((a + 1 : Nat) : Int) - 1) (by omega) (by omega), show ((a + 1 : Nat) : Int) - 1 = (a : Int) from by omega, if_pos (by omega), if_pos (by rw [ints_len]; omega), dL out a hlt, if_pos (by omega), if_pos (by omega), if_pos (by omega), if_pos (by omega)]
     ·by_cases hc : rd w (out[a] : Int) < rd w (i : Int)
      ·refine Ev.ifp hc (iha (by omega) (fun x hx' => ?_)); rw [cl out a hlt] at hx'; rcases List.mem_cons.1 hx' with rfl | hx'
       ·exact hc
       ·exact h2 x hx'
      ·refine Ev.ifn hc ?_; have := ins (a + 1) ha (fun x hx' => by
        rw [eZ out a hlt] at hx'; rcases List.mem_append.1 hx' with hx' | hx'
        ·obtain ⟨j, hj, rfl⟩ := List.mem_take_iff_getElem.1 hx'; have := List.pairwise_iff_getElem.1 hfall j a (by omega) hlt (by omega); omega
        ·rw [List.mem_singleton.1 hx']; exact hc) h2
       simp only [Option.bind_some, List.nil_append, List.length_nil]; refine Ev.ifp (by omega) (Ev.ifp (by rw [ints_len]; omega) (Ev.ifp (by rw [List.length_drop, ints_len]; omega) (Ev.ifp (by rw [List.length_take, ints_len]; omega) (Ev.ifp (by simp only [List.length_append, List.length_take, List.length_drop, List.length_singleton, ints_len]; omega) ?_)))); rw [Int.toNat_natCast]; exact this
   apply Ev.step
   ·intro k; rw [aV.l0, if_pos (by omega)]
   ·have := key i (Nat.le_refl _) (by rw [List.drop_eq_nil_of_le (by omega)]; simp); rw [ints_len, hlen]; exact this)
 exact hd
theorem jM {m : Nat} {L : List Nat} (hM : Mat m L) (w : List Int) (hw : w.length = m) (hl : L.length ≤ 17592186044416) : Ev (fun k => b7.f k (m : Int) (ints L) w) (ints (cf (indN L) 0 (dA w m))) := by
 have hm := hM.size; have h8 : ∀ e ∈ dA w m, e < 8 := fun e he => by have := (fv w e m).1 he; omega
 have hlen := iG w m; unfold b7.f; have ho := jK w (by omega); rw [hw] at ho; refine Ev.bind ho ?_; generalize dA w m = es at h8 hlen ⊢; have hd := down (P := fun i => ∀ (T : List Nat) (s : Nat), T.length ≤ i → s < 256 → Ev (fun k => b7.l0 k (ints T) (s : Int) (ints es) (i : Int) (m : Int) (ints L)) (ints (T ++ cf (indN L) s (es.drop i)))) es.length
  (by
   intro T s _ _
   apply Ev.step
   ·intro k; rw [b7.l0, if_neg (by rw [ints_len]; omega)]
   ·rw [c9]; simp only [cf, List.append_nil]; exact Ev.now _)
  (by
   intro i hi ih T s hT hs; have he := h8 _ (List.getElem_mem hi); have hlt : s ||| 2 ^ es[i] < 256 := Nat.or_lt_two_pow (n := 8) hs (dO he)
   apply Ev.step
   ·intro k; rw [b7.l0, if_pos (by rw [ints_len]; omega), if_pos (by omega), dL es i hi, if_pos (di _), or64 hs he, b9 hi (by omega)]
   ·rw [cl es i hi]; refine Ev.bind (gX _ L _ hl hM.lt hlt) (Ev.bind (dl _ hlt) ?_); have hiff := ej hlt hM.some; simp only [cf]; by_cases h : indN L (s ||| 2 ^ es[i]) = true
    ·rw [if_pos h]; have := hiff.2 h; refine Ev.ifp (by omega) (Ev.ifp (by rw [ints_len]; omega) ?_); rw [show ints T ++ [(es[i] : Int)] = ints (T ++ [es[i]]) from by simp [ints]]; have h2 := ih (T ++ [es[i]]) _ (by rw [List.length_append, List.length_singleton]; omega) hlt
     rwa [List.append_assoc, List.singleton_append] at h2
    ·rw [if_neg h]; have : rkN L (s ||| 2 ^ es[i]) ≠ pc (s ||| 2 ^ es[i]) := fun e => h (hiff.1 e)
     exact Ev.ifn (by omega) (ih T s (by omega) hs))
 exact hd [] 0 (Nat.zero_le _) (by decide)
def takN (m : Nat) (L : List Nat) (w : List Int) : List Nat := cf (indN L) 0 (dA w m)
theorem iS {m : Nat} {L : List Nat} (hM : Mat m L) (w : List Int) : (∀ e ∈ takN m L w, e < m) ∧ (takN m L w).Nodup ∧ (∀ i, indN L (orL 0 ((takN m L w).take i)) = true) := by
 obtain ⟨r1, r2, r3, _, _⟩ := ik (Mat.ind hM) (p := indN L) (fun s => Iff.rfl) (gF w m); exact ⟨r1, r2, r3⟩
theorem fP {m : Nat} {L : List Nat} (hM : Mat m L) (w : List Int) : ∀ (k J : Nat), indN L J = true → pc J = k → k ≤ (takN m L w).length ∧ wsum (fun i => rd w (i : Int)) J ≤ wsum (fun i => rd w (i : Int)) (orL 0 ((takN m L w).take k)) :=
 kA (Mat.ind hM) (p := indN L) (fun s => Iff.rfl) (gF w m)
theorem nU {m : Nat} : ∀ T : List Nat, (∀ e ∈ T, e < m) → orL 0 T < 2 ^ m := by
 intro T
 induction T with
 | nil => intro _; exact Nat.two_pow_pos _
 | cons e T ih =>
  intro h; exact lm (ih (fun x hx => h x (List.mem_cons_of_mem _ hx))) (dO (h e (List.mem_cons_self ..)))
theorem m5 {m : Nat} {L : List Nat} (hM : Mat m L) (w : List Int) {b : Nat} (hb : b ∈ L) : (takN m L w).length = pc b := by
 have hm := hM.size; obtain ⟨r1, r2, r3⟩ := iS hM w; obtain ⟨h1, _⟩ := fP hM w (pc b) b (indN_iff.2 ⟨b, hb, e7 b⟩) rfl; refine Nat.le_antisymm ?_ h1; have h2 := r3 (takN m L w).length; rw [List.take_length] at h2; obtain ⟨c, hc, hsub⟩ := indN_iff.1 h2; have h3 := jO hsub; rw [kX _ r2 (fun e he => by have := r1 e he; omega)] at h3; rw [hM.card hb hc]; exact h3
def bosB (n : Int) (l w : List Int) (c : Int) : Int × Bool := if areW n w = true ∧ 0 ≤ c ∧ c ≤ gA n l then (((orL 0 ((takN n.toNat (l.map Int.toNat) w).take c.toNat) : Nat) : Int), true) else (0, false)
theorem ls (n : Int) (l w : List Int) (c : Int) (hl : l.length ≤ 17592186044416) (hwl : w.length ≤ 17592186044416) : Ev (fun k => ba.f k n l w c) (bosB n l w c) := by
 have hno : Ev (fun k => ba.j0 k w c true n l) (0, false) := by
  apply Ev.step
  ·intro k; rw [ba.j0]
  ·exact Ev.ifp rfl (Ev.now _)
 unfold ba.f bosB; refine Ev.bind (eU n w hwl) ?_; by_cases h1 : areW n w = true
 ·refine Ev.ifp h1 (Ev.bind (jg n l hl) (Ev.cbind (l1In_eq _ _ _) ?_)); by_cases h2 : 0 ≤ c ∧ c ≤ gA n l
  ·rw [if_pos ⟨h1, h2⟩, show (decide (0 ≤ c) && decide (c ≤ gA n l)) = true from by simp [h2]]; have hmat : matB n l = true := by
    unfold gA at h2; by_cases hm : matB n l = true
    ·exact hm
    ·rw [if_neg hm] at h2; omega
   obtain ⟨m, L, rfl, rfl, hM, _⟩ := fe hmat; rw [Int.toNat_natCast, show (ints L).map Int.toNat = L from b3 L]; obtain ⟨b, hb⟩ := List.exists_mem_of_ne_nil L hM.some; have hr := jx hmat hM b hb; have hlen := m5 hM w hb; obtain ⟨r1, r2, r3⟩ := iS hM w; have hm := hM.size; have hwm : w.length = m := by have := (d5 h1).2; omega
   obtain ⟨kk, rfl⟩ := Int.eq_ofNat_of_zero_le h2.1
   apply Ev.step
   ·intro k; rw [ba.j0]
   ·refine Ev.ifn (by decide) (Ev.bind (jM hM w hwm (by rw [ints_len] at hl; exact hl)) ?_); rw [Int.toNat_natCast]
    show Ev (fun k => ba.l0 k (kk : Int) (ints (takN m L w)) 0 0) _
    have hT : ∀ e ∈ takN m L w, e < m := r1; have hkk : kk ≤ (takN m L w).length := by omega
    have h8 := kI b; generalize takN m L w = T at hT hkk hlen; have hd := down (P := fun i => Ev (fun k => ba.l0 k (kk : Int) (ints T) ((orL 0 (T.take i) : Nat) : Int) (i : Int)) (((orL 0 (T.take kk) : Nat) : Int), true)) kk
     (by
      apply Ev.step
      ·intro k; rw [ba.l0, if_neg (by omega)]
      ·exact Ev.now _)
     (by
      intro i hi ih; have hi' : i < T.length := by omega
      have he := hT _ (List.getElem_mem hi'); have hlt : orL 0 (T.take i) < 256 := Nat.lt_of_lt_of_le (nU _ (fun e he' => hT e (List.mem_of_mem_take he'))) (bZ hm)
      apply Ev.step
      ·intro k; rw [ba.l0, if_pos (by omega), if_pos (by omega), if_pos (by rw [ints_len]; omega), dL T i hi', if_pos (di _), or64 hlt (by omega), bC (by omega) (by omega)]
      ·rw [eZ T i hi', orL_snoc] at ih; exact ih)
    exact hd
  ·rw [if_neg (fun h => h2 h.2)]; have : (decide (0 ≤ c) && decide (c ≤ gA n l)) = false := by
    rw [Bool.eq_false_iff]; intro h; rw [Bool.and_eq_true, decide_eq_true_eq, decide_eq_true_eq] at h; exact h2 h
   rw [this]; exact hno
 ·refine Ev.ifn h1 ?_; rw [if_neg (fun h => h1 h.1)]; exact hno
end Go.Proofs.YtimkekeaeojpkaaGreat.Q
namespace Go.Proofs.YtimkekeaeojpkaaGreat.Q
open Go Go.RowKit Go.Proofs.YtimkekeaeojpkaaGreatW.PrintWords Go.Proofs.YtimkekeaeojpkaaGreatW.PrintLast Go.Proofs.YtimkekeaeojpkaaGreatW.PrintMore Go.Proofs.YtimkekeaeojpkaaGreat.Z
set_option linter.unusedVariables false
set_option linter.unusedSimpArgs false
theorem kT {m : Nat} : eJ 0 ((cq m : Nat) : Int) = ints (List.range (2 ^ m)) := by
 have := Nat.two_pow_pos m; unfold eJ ints cq; rw [List.range_eq_range', show (((2 ^ m - 1 : Nat) : Int) + 1).toNat - (0 : Int).toNat = 2 ^ m from by omega]
 rfl
theorem mu {m : Nat} (hm : m ≤ 8) {g : Nat → Int → Option Bool} {p : Nat → Bool} (h : ∀ t : Nat, t < 2 ^ m → Ev (fun k => g k (t : Int)) (p t)) : Ev (fun k => jA (g k) ((cq m : Nat) : Int)) (ints ((List.range (2 ^ m)).filter p)) := by
 unfold jA; rw [kT]; have hf : (ints (List.range (2 ^ m))).filter (fun x : Int => p x.toNat) = ints ((List.range (2 ^ m)).filter p) := by
  unfold ints; rw [List.filter_map]
  congr 1
 rw [← hf]; refine iv (p := fun x : Int => p x.toNat) ?_; intro x hx; obtain ⟨t, ht, rfl⟩ := List.mem_map.1 hx; rw [Int.toNat_natCast]; exact h t (List.mem_range.1 ht)
theorem kZ {m : Nat} (hm : m ≤ 8) : 0 ≤ ((cq m : Nat) : Int) ∧ ((cq m : Nat) : Int) ≤ 1000 := by
 have := (nH hm).2; omega
def topN (F : List Nat) : List Nat := F.filter (fun s => !F.any (fun t => decide (t ≠ s) && decide (subN s t)))
variable {m : Nat} {I : Nat → Prop} {p : Nat → Bool}
theorem nL (hI : Ind m I) (hp : ∀ s, p s = true ↔ I s) {r : Nat} (hex : ∃ b, I b ∧ pc b = r) (hmax : ∀ s, I s → pc s ≤ r) : topN ((List.range (2 ^ m)).filter p) = (List.range (2 ^ m)).filter (fun s => p s && decide (pc s = r)) := by
 unfold topN; rw [List.filter_filter]
 apply List.filter_congr
 intro s hs; rw [Bool.eq_iff_iff, Bool.and_eq_true, Bool.and_eq_true, Bool.not_eq_true', decide_eq_true_eq]
 constructor
 ·rintro ⟨h1, h2⟩; have hIs := (hp s).1 h2; refine ⟨h2, ?_⟩; refine Classical.byContradiction fun hne => ?_
  obtain ⟨b, hb, hr⟩ := hex; have := hmax s hIs; obtain ⟨e, he, k1, k2, k3⟩ := hI.aug s b hIs hb (by omega); rw [Bool.eq_false_iff] at h1
  apply h1
  rw [List.any_eq_true]; refine ⟨s ||| 2 ^ e, List.mem_filter.2 ⟨List.mem_range.2 (hI.sets _ k3), (hp _).2 k3⟩, ?_⟩; rw [Bool.and_eq_true, decide_eq_true_eq, decide_eq_true_eq]; refine ⟨fun he' => ?_, bU.2 fun i hi => by rw [add_bit, hi]; rfl⟩; have := congrArg (fun x => Nat.testBit x e) he'; simp only [add_bit, k2] at this; simp at this
 ·rintro ⟨h1, h2⟩; refine ⟨?_, h1⟩; rw [Bool.eq_false_iff]; intro hany; obtain ⟨t, ht, hc⟩ := List.any_eq_true.1 hany; obtain ⟨ht1, ht2⟩ := List.mem_filter.1 ht; rw [Bool.and_eq_true, decide_eq_true_eq, decide_eq_true_eq] at hc; have hIt := (hp t).1 ht2; have hIs := (hp s).1 h1; have hle := hmax t hIt; exact hc.1 (eL (hI.lt hIs) (hI.lt hIt) hc.2 (by omega)).symm
end Go.Proofs.YtimkekeaeojpkaaGreat.Q
namespace Go.Proofs.YtimkekeaeojpkaaGreat.Q
open Go Go.RowKit Go.Proofs.YtimkekeaeojpkaaGreat.A Go.Proofs.YtimkekeaeojpkaaGreatW.PrintWords Go.Proofs.YtimkekeaeojpkaaGreatW.PrintLast Go.Proofs.YtimkekeaeojpkaaGreatW.PrintMore Go.Proofs.YtimkekeaeojpkaaGreat.Z
set_option linter.unusedVariables false
set_option linter.unusedSimpArgs false
def insO (x : Int) : List Int → List Int
 | [] => [x]
 | y :: ys => if y < x then y :: insO x ys else (if y = x then y :: ys else x :: y :: ys)
def ez (acc X : List Int) : List Int := X.foldl (fun a x => insO x a) acc
theorem kL (x : Int) (l : List Int) : (insO x l).length ≤ l.length + 1 := by
 induction l with
 | nil => exact Nat.le_refl _
 | cons y l ih =>
  simp only [insO]; by_cases h : y < x
  ·rw [if_pos h, List.length_cons, List.length_cons]; omega
  ·rw [if_neg h]; by_cases h2 : y = x
   ·rw [if_pos h2]; omega
   ·rw [if_neg h2]; simp only [List.length_cons]; omega
theorem insO_mem (x a : Int) (l : List Int) : a ∈ insO x l ↔ a = x ∨ a ∈ l := by
 induction l with
 | nil => simp [insO]
 | cons y l ih =>
  simp only [insO]; by_cases h : y < x
  ·rw [if_pos h, List.mem_cons, ih, List.mem_cons]
   constructor
   ·rintro (h' | h' | h')
    ·exact .inr (.inl h')
    ·exact .inl h'
    ·exact .inr (.inr h')
   ·rintro (h' | h' | h')
    ·exact .inr (.inl h')
    ·exact .inl h'
    ·exact .inr (.inr h')
  ·rw [if_neg h]; by_cases h2 : y = x
   ·rw [if_pos h2]; subst h2
    constructor
    ·exact .inr
    ·rintro (rfl | h')
     ·exact List.mem_cons_self ..
     ·exact h'
   ·rw [if_neg h2, List.mem_cons]
theorem mc (x : Int) (l : List Int) (hl : l.Pairwise (· < ·)) : (insO x l).Pairwise (· < ·) := by
 induction l with
 | nil => simp [insO]
 | cons y l ih =>
  rw [List.pairwise_cons] at hl; simp only [insO]; by_cases h : y < x
  ·rw [if_pos h, List.pairwise_cons]; refine ⟨fun a ha => ?_, ih hl.2⟩; rcases (insO_mem x a l).1 ha with rfl | ha
   ·exact h
   ·exact hl.1 a ha
  ·rw [if_neg h]; by_cases h2 : y = x
   ·rw [if_pos h2, List.pairwise_cons]; exact hl
   ·rw [if_neg h2, List.pairwise_cons, List.pairwise_cons]; refine ⟨fun a ha => ?_, hl⟩; rcases List.mem_cons.1 ha with rfl | ha
    ·omega
    ·have := hl.1 a ha; omega
theorem mf (X : List Int) (a : Int) : ∀ acc : List Int, a ∈ ez acc X ↔ a ∈ X ∨ a ∈ acc := by
 induction X with
 | nil => intro acc; simp [ez]
 | cons x X ih =>
  intro acc; have := ih (insO x acc); unfold ez at this ⊢; rw [List.foldl_cons, this, insO_mem, List.mem_cons]
  constructor
  ·rintro (h | h | h)
   ·exact .inl (.inr h)
   ·exact .inl (.inl h)
   ·exact .inr h
  ·rintro ((h | h) | h)
   ·exact .inr (.inl h)
   ·exact .inl h
   ·exact .inr (.inr h)
theorem lq (X : List Int) : ∀ acc : List Int, acc.Pairwise (· < ·) → (ez acc X).Pairwise (· < ·) := by
 induction X with
 | nil => intro acc h; exact h
 | cons x X ih => intro acc h; exact ih _ (mc x acc h)
theorem ky : ∀ {X Y : List Int}, X.Pairwise (· < ·) → Y.Pairwise (· < ·) → (∀ a, a ∈ X ↔ a ∈ Y) → X = Y := by
 intro X
 induction X with
 | nil =>
  intro Y _ _ h; cases Y with
  | nil => rfl
  | cons y Y => exact absurd ((h y).2 (List.mem_cons_self ..)) (by simp)
 | cons x X ih =>
  intro Y hX hY h; cases Y with
  | nil => exact absurd ((h x).1 (List.mem_cons_self ..)) (by simp)
  | cons y Y =>
   rw [List.pairwise_cons] at hX hY; have hxy : x = y := by
    rcases List.mem_cons.1 ((h x).1 (List.mem_cons_self ..)) with e | hx
    ·exact e
    ·rcases List.mem_cons.1 ((h y).2 (List.mem_cons_self ..)) with e | hy
     ·exact e.symm
     ·have h1 := hX.1 y hy; have h2 := hY.1 x hx; omega
   subst hxy; rw [ih hX.2 hY.2 (fun a => ?_)]
   constructor
   ·intro ha; rcases List.mem_cons.1 ((h a).1 (List.mem_cons_of_mem _ ha)) with e | h'
    ·have := hX.1 a ha; omega
    ·exact h'
   ·intro ha; rcases List.mem_cons.1 ((h a).2 (List.mem_cons_of_mem _ ha)) with e | h'
    ·have := hY.1 a ha; omega
    ·exact h'
theorem fG (X : List Int) (hx : X.length ≤ 8796093022208) : Ev (fun k => ae.f k X) (ez [] X) := by
 have hd := down (P := fun i => ∀ acc : List Int, acc.length ≤ i → Ev (fun k => ae.l0 k X acc (i : Int)) (ez acc (X.drop i))) X.length
  (by
   intro acc _
   apply Ev.step
   ·intro k; rw [ae.l0, if_neg (by omega)]
   ·rw [c9]; exact Ev.now _)
  (by
   intro i hi ih acc ha; have ihs := fun y (hy : y = insO X[i] acc) => ih y (by subst hy; have := kL X[i] acc; omega)
   rw [cl X i hi]; have h1 := down (P := fun j => Ev (fun k => ae.l1 k X acc (i : Int) (j : Int)) (ez (acc.take j ++ insO X[i] (acc.drop j)) (X.drop (i + 1)))) acc.length
    (by
     rw [List.take_length, c9]; have hr := ih (acc ++ [X[i]]) (by rw [List.length_append, List.length_singleton]; omega)
     apply Ev.step
     ·intro k; rw [ae.l1, if_neg (by omega), b9 hi (by omega)]
     ·simp only [Option.bind_some, Int.toNat_natCast, List.drop_length, List.take_length, List.nil_append, List.append_nil, List.length_nil, List.length_append, List.length_singleton]; refine Ev.ifp (by omega) (Ev.ifp (by omega) (Ev.ifp (by omega) (Ev.ifp (by omega) (Ev.ifp (by omega) (Ev.ifp (by omega) (Ev.ifp (by omega) ?_)))))); rw [bV X i hi]; exact hr)
    (by
     intro j hj ihj
     apply Ev.step
     ·intro k; rw [ae.l1, if_pos (by omega), if_pos (by omega), if_pos (by omega), if_pos (by omega), bV acc j hj, bV X i hi, b9 hi (by omega), b9 hj (by omega)]
     ·rw [cl acc j hj]; simp only [insO]; by_cases hlt : acc[j] < X[i]
      ·rw [if_pos hlt]; refine Ev.ifp hlt ?_; rw [eZ acc j hj, List.append_assoc, List.singleton_append] at ihj; exact ihj
      ·rw [if_neg hlt]; refine Ev.ifn hlt ?_; by_cases heq : acc[j] = X[i]
       ·rw [if_pos heq]; refine Ev.ifp heq ?_; rw [← cl acc j hj, List.take_append_drop]; exact ih acc (by omega)
       ·rw [if_neg heq]; refine Ev.ifn heq ?_; have hr := ih (acc.take j ++ X[i] :: acc[j] :: acc.drop (j + 1)) (by
         rw [List.length_append, List.length_cons, List.length_cons, List.length_take, List.length_drop]; omega)
        simp only [Option.bind_some, Int.toNat_natCast, List.nil_append, List.length_nil]; refine Ev.ifp (by omega) (Ev.ifp (by rw [List.length_drop]; omega) (Ev.ifp (by rw [List.length_take]; omega) (Ev.ifp (by rw [List.length_append, List.length_singleton, List.length_take, List.length_drop]; omega) ?_))); rw [cl acc j hj, List.append_assoc, List.singleton_append]; exact hr)
   apply Ev.step
   ·intro k; rw [ae.l0, if_pos (by omega)]
   ·have h0 := h1; rw [List.take_zero, List.drop_zero, List.nil_append] at h0
    show Ev _ (ez acc (X[i] :: X.drop (i + 1)))
    exact h0)
 exact hd [] (Nat.zero_le _)
end Go.Proofs.YtimkekeaeojpkaaGreat.Q
