/- The pure side of the law FnGreedy: what the Lean functions of the print compute, and that the law holds of them. Conditions: those in each lemma. -/
import Derived.Test.YtimkekeaeojpkaaGreatMFnGreedy1
import Derived.Test.YtimkekeaeojpkaaGreatMFnGreedy2
import Derived.Test.YtimkekeaeojpkaaGreatMFnGreedy3
import Derived.Test.YtimkekeaeojpkaaGreatMFnGreedy4
import Derived.Test.YtimkekeaeojpkaaGreatMFnGreedy5
import Derived.Test.YtimkekeaeojpkaaGreatMFnGreedy6
import Derived.Test.YtimkekeaeojpkaaGreatMFnGreedyq0
namespace Go.Proofs.YtimkekeaeojpkaaGreat.Q
open Go Go.RowKit Go.Proofs.YtimkekeaeojpkaaGreat.A Go.Proofs.YtimkekeaeojpkaaGreatW.PrintWords Go.Proofs.YtimkekeaeojpkaaGreatW.PrintLast Go.Proofs.YtimkekeaeojpkaaGreatW.PrintMore Go.Proofs.YtimkekeaeojpkaaGreat.Z
set_option linter.unusedVariables false
set_option linter.unusedSimpArgs false
theorem l1In_eq (a b c : Int) : a5.f a b c = some (decide (b ≤ a) && decide (a ≤ c)) := by
 unfold a5.f
 by_cases h : a ≥ b
 ·rw [if_pos h]; simp [h]
 ·rw [if_neg h]; simp only [ge_iff_le] at h; simp [h]
theorem isSize_eq (a : Int) : ce.f a = some (decide (0 ≤ a) && decide (a ≤ 8)) := by
 unfold ce.f
 by_cases h : a ≥ 0
 ·rw [if_pos h]; simp [h]
 ·rw [if_neg h]; simp only [ge_iff_le] at h; simp [h]
theorem specIsSet_eq (n s : Int) : aZ.f n s = some (d7 n s) := by
 unfold aZ.f
 rw [l1In_eq, Option.bind_some]
 unfold d7
 by_cases h : (decide (0 ≤ n) && decide (n ≤ 8)) = true
 ·rw [if_pos h, if_pos (dl _), l1In_eq, Option.bind_some, h, Bool.true_and]
  simp only [Bool.and_eq_true, decide_eq_true_eq] at h
  obtain ⟨m, rfl⟩ := Int.eq_ofNat_of_zero_le h.1
  have h8 : m ≤ 8 := by omega
  rw [fw (by omega) (by omega), dV (by omega)]
  have hp := cj h8
  rw [Int.toNat_natCast]
  have e : (2 : Int) ^ m = ((2 ^ m : Nat) : Int) := by simp
  rw [e]
  generalize 2 ^ m = q at hp
  rw [be (by omega) (by omega)]
  congr 2
  rw [Bool.eq_iff_iff]
  simp only [decide_eq_true_eq]
  omega
 ·rw [if_neg h, Bool.eq_false_iff.2 h, Bool.false_and]
theorem implIsSet_eq (n s : Int) : de.f n s = some (d7 n s) := by
 unfold de.f
 rw [isSize_eq, Option.bind_some]
 unfold d7
 by_cases h : (decide (0 ≤ n) && decide (n ≤ 8)) = true
 ·rw [if_pos h, h, Bool.true_and]
  simp only [Bool.and_eq_true, decide_eq_true_eq] at h
  by_cases hs : s ≥ 0
  ·rw [if_pos hs, if_pos h.1]
   obtain ⟨m, rfl⟩ := Int.eq_ofNat_of_zero_le h.1
   rw [dV (by omega), Int.toNat_natCast]
   have e : ((2 ^ m : Nat) : Int) = 2 ^ m := by simp
   rw [e]
   have : decide (0 ≤ s) = true := by simpa using hs
   rw [this, Bool.true_and]
  ·rw [if_neg hs]
   have : decide (0 ≤ s) = false := by simpa using hs
   rw [this, Bool.false_and]
 ·rw [if_neg h, Bool.eq_false_iff.2 h, Bool.false_and]
theorem me (s : Int) : d7 8 s = da s := by
 unfold d7 da
 rw [Bool.eq_iff_iff]
 simp
theorem isAny_eq (s : Int) : bL.f s = some (da s) := by
 unfold bL.f da
 by_cases h : s ≥ 0
 ·rw [if_pos h]; simp [h]
 ·rw [if_neg h]; simp only [ge_iff_le] at h; simp [h]
theorem e8 {s : Int} (h : da s = true) : ∃ t : Nat, s = t ∧ t < 256 := by
 simp only [da, Bool.and_eq_true, decide_eq_true_eq] at h
 obtain ⟨t, rfl⟩ := Int.eq_ofNat_of_zero_le h.1
 exact ⟨t, rfl, by omega⟩
theorem implHas_eq (s e : Int) : bP.f s e = some (hasB s e) := by
 unfold bP.f hasB
 rw [isAny_eq, Option.bind_some]
 by_cases h : da s = true
 ·rw [if_pos h, h, Bool.true_and]
  obtain ⟨t, rfl, ht⟩ := e8 h
  by_cases h0 : e ≥ 0
  ·rw [if_pos h0]
   obtain ⟨m, rfl⟩ := Int.eq_ofNat_of_zero_le h0
   by_cases h8 : (m : Int) < 8
   ·rw [if_pos h8, if_pos h0, k7 (bu ht)]
    simp [h8]
   ·rw [if_neg h8]; simp [h8]
  ·rw [if_neg h0]; simp only [ge_iff_le] at h0; simp [h0]
 ·rw [if_neg h, Bool.eq_false_iff.2 h]; simp
theorem dX {s e : Nat} (hs : s < 2 ^ 63) (he : e < 2 ^ 63) : aT.f (s : Int) (e : Int) = some (s.testBit e) := by
 unfold aT.f
 rw [if_pos (dl _), fw (by omega) (by omega), k7 hs]
theorem specHas_eq (s e : Int) : bJ.f s e = some (hasB s e) := by
 unfold bJ.f hasB
 rw [specIsSet_eq, Option.bind_some, me]
 by_cases h : da s = true
 ·rw [if_pos h, h, Bool.true_and, l1In_eq, Option.bind_some]
  obtain ⟨t, rfl, ht⟩ := e8 h
  by_cases h0 : (decide (0 ≤ e) && decide (e ≤ 7)) = true
  ·rw [if_pos h0]
   simp only [Bool.and_eq_true, decide_eq_true_eq] at h0
   obtain ⟨m, rfl⟩ := Int.eq_ofNat_of_zero_le h0.1
   rw [dX (bu ht) (by omega), Option.bind_some]
   have : decide ((m : Int) < 8) = true := by simp; omega
   simp [this]
  ·rw [if_neg h0]
   have : (decide (0 ≤ e) && decide (e < 8)) = false := by
    rw [Bool.eq_false_iff]
    intro hc
    apply h0
    simp only [Bool.and_eq_true, decide_eq_true_eq] at *
    omega
   rw [this, Bool.false_and]
 ·rw [if_neg h, Bool.eq_false_iff.2 h]; simp
def areW (n : Int) (w : List Int) : Bool := w.all (fun x => decide (-1000 ≤ x) && decide (x ≤ 1000)) && (decide (0 ≤ n) && decide (n ≤ 8)) && decide ((w.length : Int) = n)
theorem fD (n : Int) (l : List Int) (hl : l.length ≤ 17592186044416) : ∀ (rest pre : List Int), l = pre ++ rest → Ev (fun k => aA.l0 k n l (pre.length : Int)) (rest.all (fun x => decide (-1000 ≤ x) && decide (x ≤ 1000)) && (decide (0 ≤ n) && decide (n ≤ 8)) && decide ((l.length : Int) = n)) := by
 intro rest
 induction rest with
 | nil =>
  intro pre h
  apply Ev.step
  ·intro k
   simp only [aA.l0, l1In_eq]
   rw [if_neg (by rw [h]; simp)]
  ·simp only [Option.bind_some]
   by_cases hn : (decide (0 ≤ n) && decide (n ≤ 8)) = true
   ·refine Ev.ifp hn ?_
    simp only [List.all_nil, hn, Bool.true_and]
    exact Ev.now _
   ·refine Ev.ifn hn ?_
    simp only [List.all_nil, Bool.eq_false_iff.2 hn, Bool.false_and, Bool.true_and]
    exact Ev.now _
 | cons x rest ih =>
  intro pre h
  have hlen : (pre.length : Int) < (l.length : Int) := by rw [h]; simp; omega
  have e1 : rd l (pre.length : Int) = x := by rw [h]; exact mf _ _ _
  apply Ev.step
  ·intro k
   simp only [aA.l0, l1In_eq]
   rw [if_pos hlen, if_pos (by omega), e1]
  ·simp only [Option.bind_some]
   by_cases hx : (decide (-1000 ≤ x) && decide (x ≤ 1000)) = true
   ·refine Ev.ifp hx ?_
    have e : wrap64 ((pre.length : Int) + 1) = ((pre ++ [x]).length : Int) := by
     rw [be (by omega) (by omega)]; simp
    rw [e]
    simpa only [List.all_cons, hx, Bool.true_and] using ih (pre ++ [x]) (by rw [h]; simp)
   ·refine Ev.ifn hx ?_
    simp only [List.all_cons, Bool.eq_false_iff.2 hx, Bool.false_and]
    exact Ev.now _
theorem dp (n : Int) (l : List Int) (hl : l.length ≤ 17592186044416) : Ev (fun k => aA.f k n l) (areW n l) :=
 fD n l hl l [] rfl
theorem fE (n : Int) (l : List Int) (hl : l.length ≤ 17592186044416) : ∀ (rest pre : List Int), l = pre ++ rest → Ev (fun k => aV.l0 k n l l (l.length : Int) (pre.length : Int)) (rest.all (fun x => decide (-1000 ≤ x) && decide (x ≤ 1000)) && (decide (0 ≤ n) && decide (n ≤ 8)) && decide ((l.length : Int) = n)) := by
 intro rest
 induction rest with
 | nil =>
  intro pre h
  apply Ev.step
  ·intro k
   simp only [aV.l0, isSize_eq]
   rw [if_neg (by rw [h]; simp)]
  ·simp only [Option.bind_some]
   by_cases hn : (decide (0 ≤ n) && decide (n ≤ 8)) = true
   ·refine Ev.ifp hn ?_
    simp only [List.all_nil, hn, Bool.true_and]
    exact Ev.now _
   ·refine Ev.ifn hn ?_
    simp only [List.all_nil, Bool.eq_false_iff.2 hn, Bool.false_and, Bool.true_and]
    exact Ev.now _
 | cons x rest ih =>
  intro pre h
  have hlen : (pre.length : Int) < (l.length : Int) := by rw [h]; simp; omega
  have e1 : rd l (pre.length : Int) = x := by rw [h]; exact mf _ _ _
  apply Ev.step
  ·intro k
   simp only [aV.l0, isSize_eq]
   rw [if_pos hlen, if_pos (by omega), if_pos hlen, e1]
  ·by_cases h1 : x < -1000
   ·refine Ev.ifp h1 ?_
    have : (decide (-1000 ≤ x)) = false := by simp; omega
    simp only [List.all_cons, this, Bool.false_and]
    exact Ev.now _
   ·refine Ev.ifn h1 ?_
    by_cases h2 : x > 1000
    ·refine Ev.ifp h2 ?_
     have : (decide (x ≤ 1000)) = false := by simp; omega
     simp only [List.all_cons, this, Bool.false_and, Bool.and_false]
     exact Ev.now _
    ·refine Ev.ifn h2 ?_
     have hx : (decide (-1000 ≤ x) && decide (x ≤ 1000)) = true := by simp; omega
     have e : wrap64 ((pre.length : Int) + 1) = ((pre ++ [x]).length : Int) := by
      rw [be (by omega) (by omega)]; simp
     rw [e]
     simpa only [List.all_cons, hx, Bool.true_and] using ih (pre ++ [x]) (by rw [h]; simp)
theorem dq (n : Int) (l : List Int) (hl : l.length ≤ 17592186044416) : Ev (fun k => aV.f k n l) (areW n l) :=
 fE n l hl l [] rfl
def elsB (s : Int) : List Int := ((List.range 8).filter (fun e : Nat => hasB s (e : Int))).map (fun e : Nat => (e : Int))
theorem et {i n : Nat} (h : i < n) : List.range' i (n - i) = i :: List.range' (i + 1) (n - (i + 1)) := by
 rw [show n - i = (n - (i + 1)) + 1 from by omega, List.range'_succ]
theorem gt {s : Int} {i : Nat} (l : List Nat) : ((i :: l).filter (fun e : Nat => hasB s (e : Int))).map (fun e : Nat => (e : Int)) = (if hasB s (i : Int) = true then [(i : Int)] else []) ++ (l.filter (fun e : Nat => hasB s (e : Int))).map (fun e : Nat => (e : Int)) := by
 rw [List.filter_cons]
 by_cases h : hasB s (i : Int) = true
 ·rw [if_pos h, if_pos h]; rfl
 ·rw [if_neg h, if_neg h]; rfl
theorem dG (s : Int) : Ev (fun k => au.f k s) (elsB s) := by
 have h := down (P := fun i => ∀ acc : List Int, acc.length ≤ i → Ev (fun k => au.l0 k s acc (i : Int)) (acc ++ ((List.range' i (8 - i)).filter (fun e : Nat => hasB s (e : Int))).map (fun e : Nat => (e : Int)))) 8
  (by
   intro acc ha
   apply Ev.step
   ·intro k
    simp only [au.l0, implHas_eq, Option.bind_some]
    rw [if_neg (by omega)]
   ·simpa using Ev.now _)
  (by
   intro i hi ih acc ha
   apply Ev.step
   ·intro k
    simp only [au.l0, implHas_eq, Option.bind_some]
    rw [if_pos (by omega), bU hi (by omega)]
   ·rw [et hi, gt]
    by_cases hx : hasB s (i : Int) = true
    ·refine Ev.ifp hx (Ev.ifp (by omega) ?_)
     rw [if_pos hx, ← List.append_assoc]
     exact ih (acc ++ [(i : Int)]) (by simp; omega)
    ·refine Ev.ifn hx ?_
     rw [if_neg hx]
     exact ih acc (by omega))
 have h0 := h [] (Nat.le_refl 0)
 rw [show ((0 : Nat) : Int) = 0 from rfl] at h0
 have e : elsB s = [] ++ ((List.range' 0 (8 - 0)).filter (fun e : Nat => hasB s (e : Int))).map (fun e : Nat => (e : Int)) := by
  unfold elsB
  rw [List.nil_append, List.range_eq_range']
 rw [e]
 unfold au.f
 exact h0
theorem l6 {s x : Int} (h : x ∈ elsB s) : ∃ e : Nat, x = e ∧ e < 8 ∧ hasB s (e : Int) = true := by
 simp only [elsB, List.mem_map, List.mem_filter, List.mem_range] at h
 obtain ⟨e, ⟨h1, h2⟩, rfl⟩ := h
 exact ⟨e, rfl, h1, h2⟩
theorem lQ (s : Int) : (elsB s).length ≤ 8 := by
 unfold elsB
 rw [List.length_map]
 exact Nat.le_trans (List.length_filter_le _ _) (by simp)
theorem gG {s : Nat} (h : s < 256) : elsB (s : Int) = (els s).map (fun e : Nat => (e : Int)) := by
 have e : (List.range 8).filter (fun e : Nat => hasB (s : Int) (e : Int)) = (List.range 8).filter (fun e : Nat => s.testBit e) :=
  List.filter_congr (fun e he => by
   rw [List.mem_range] at he
   rw [hasB_nat]
   simp [h, he])
 unfold elsB els
 rw [e]
def ic (w : List Int) (acc : Int) (es : List Nat) : Int := es.foldl (fun (a : Int) (e : Nat) => wrap64 (a + rd w (e : Int))) acc
def bN (w : List Int) (s : Int) : Int := ic w 0 ((List.range 8).filter (fun e : Nat => decide (e < w.length) && hasB s (e : Int)))
theorem filter_range_swap (p : Nat → Bool) (a b : Nat) : (List.range a).filter (fun e => decide (e < b) && p e) = (List.range (min a b)).filter p := by
 induction a with
 | zero => simp
 | succ a ih =>
  rw [List.range_succ, List.filter_append, ih]
  by_cases h : a < b
  ·rw [show min (a + 1) b = min a b + 1 from by omega, List.range_succ, List.filter_append]
   have e : min a b = a := by omega
   rw [e]
   congr 1
   simp [List.filter_cons, h]
  ·rw [show min (a + 1) b = min a b from by omega]
   simp [List.filter_cons, h]
theorem cv (w : List Int) (s : Int) (hl : w.length ≤ 17592186044416) : Ev (fun k => am.f k w s) (bN w s) := by
 have h := down (P := fun i => ∀ acc : Int, Ev (fun k => am.l0 k w s acc (i : Int)) (ic w acc ((List.range' i (w.length - i)).filter (fun e : Nat => hasB s (e : Int))))) w.length
  (by
   intro acc
   apply Ev.step
   ·intro k
    simp only [am.l0, specHas_eq, Option.bind_some]
    rw [if_neg (by omega)]
   ·simpa [ic] using Ev.now _)
  (by
   intro i hi ih acc
   apply Ev.step
   ·intro k
    simp only [am.l0, specHas_eq, Option.bind_some]
    rw [if_pos (by omega), bU hi hl]
   ·rw [et hi, List.filter_cons]
    by_cases hx : hasB s (i : Int) = true
    ·refine Ev.ifp hx (Ev.ifp (by omega) ?_)
     rw [if_pos hx]
     exact ih (wrap64 (acc + rd w (i : Int)))
    ·refine Ev.ifn hx ?_
     rw [if_neg hx]
     exact ih acc)
 have h0 := h 0
 have e : (List.range' 0 (w.length - 0)).filter (fun e : Nat => hasB s (e : Int)) = (List.range 8).filter (fun e : Nat => decide (e < w.length) && hasB s (e : Int)) := by
  rw [Nat.sub_zero, ← List.range_eq_range', filter_range_swap, Nat.min_comm, ← filter_range_swap]
  apply List.filter_congr
  intro e _
  cases hq : hasB s (e : Int) with
  | false => simp
  | true =>
   have : e < 8 := by
    unfold hasB at hq
    simp only [Bool.and_eq_true, decide_eq_true_eq] at hq
    omega
   simp [this]
 rw [e] at h0
 exact h0
theorem dC (w : List Int) (s : Int) (hl : w.length ≤ 17592186044416) : Ev (fun k => a6.f k w s) (bN w s) := by
 unfold a6.f
 refine Ev.bind (dG s) ?_
 have hmem := @l6 s
 have hlen := lQ s
 have key : bN w s = (elsB s).foldl (fun a x => if x < (w.length : Int) then wrap64 (a + rd w x) else a) 0 := by
  unfold bN ic elsB
  rw [List.foldl_map]
  generalize (0 : Int) = acc
  generalize List.range 8 = l
  induction l generalizing acc with
  | nil => rfl
  | cons e l ih =>
   simp only [List.filter_cons]
   by_cases h1 : hasB s (e : Int) = true
   ·by_cases h2 : e < w.length
    ·rw [if_pos (by simp [h1, h2]), if_pos h1]
     simp only [List.foldl_cons]
     rw [if_pos (by omega)]
     exact ih _
    ·rw [if_neg (by rw [show decide (e < w.length) = false from by simpa using h2]; simp), if_pos h1]
     simp only [List.foldl_cons]
     rw [if_neg (by omega)]
     exact ih _
   ·rw [if_neg (by simp [h1]), if_neg h1]
    exact ih _
 rw [key]
 generalize elsB s = es at hmem hlen
 have h := down (P := fun i => ∀ acc : Int, Ev (fun k => a6.l0 k w acc es (es.length : Int) (i : Int)) ((es.drop i).foldl (fun a x => if x < (w.length : Int) then wrap64 (a + rd w x) else a) acc)) es.length
  (by
   intro acc
   apply Ev.step
   ·intro k
    simp only [a6.l0]
    rw [if_neg (by omega)]
   ·rw [cu]; exact Ev.now _)
  (by
   intro i hi ih acc
   obtain ⟨e, he, h8, _⟩ := hmem (List.getElem_mem hi)
   apply Ev.step
   ·intro k
    simp only [a6.l0]
    rw [if_pos (by omega), if_pos (by omega), if_pos (by omega), cf es i hi, bU hi (by omega)]
   ·rw [bQ es i hi, List.foldl_cons]
    by_cases hx : es[i] < (w.length : Int)
    ·refine Ev.ifp hx (Ev.ifp (by omega) ?_)
     rw [if_pos hx]
     exact ih _
    ·refine Ev.ifn hx ?_
     rw [if_neg hx]
     exact ih _)
 exact h 0
end Go.Proofs.YtimkekeaeojpkaaGreat.Q
namespace Go.Proofs.YtimkekeaeojpkaaGreat.Q
open Go Go.RowKit Go.Proofs.YtimkekeaeojpkaaGreatW.PrintWords Go.Proofs.YtimkekeaeojpkaaGreatW.PrintLast Go.Proofs.YtimkekeaeojpkaaGreatW.PrintMore Go.Proofs.YtimkekeaeojpkaaGreat.Z
set_option linter.unusedVariables false
set_option linter.unusedSimpArgs false
theorem hO {w : List Int} (hw : ∀ x ∈ w, -1000 ≤ x ∧ x ≤ 1000) (e : Nat) : -1000 ≤ rd w (e : Int) ∧ rd w (e : Int) ≤ 1000 := by
 by_cases h : e < w.length
 ·exact hw _ (mm w (e : Int) (by omega) (by omega))
 ·have hz : rd w (e : Int) = 0 := by
   rw [mi, List.getD_eq_getElem?_getD, List.getElem?_eq_none (show w.length ≤ e by omega)]
   rfl
  rw [hz]; omega
theorem ks {α : Type} {f : α → Int} {l : List α} (h : ∀ i ∈ l, -1000 ≤ f i ∧ f i ≤ 1000) : -1000 * (l.length : Int) ≤ (l.map f).sum ∧ (l.map f).sum ≤ 1000 * (l.length : Int) := by
 induction l with
 | nil => simp
 | cons x l ih =>
  have h1 := h x (List.mem_cons_self ..)
  have h2 := ih (fun i hi => h i (List.mem_cons_of_mem _ hi))
  simp only [List.map_cons, List.sum_cons, List.length_cons]
  omega
theorem isum_add {α : Type} (f g : α → Int) (l : List α) : (l.map (fun i => f i + g i)).sum = (l.map f).sum + (l.map g).sum := by
 induction l with
 | nil => rfl
 | cons x l ih => simp only [List.map_cons, List.sum_cons, ih]; omega
theorem isum_one (e : Nat) (c : Int) : ∀ n : Nat, ((List.range n).map (fun i => if i = e then c else 0)).sum = if e < n then c else 0 := by
 intro n
 induction n with
 | zero => rfl
 | succ n ih =>
  rw [List.range_succ, List.map_append, List.sum_append, ih]
  simp only [List.map_cons, List.map_nil, List.sum_cons, List.sum_nil]
  by_cases h1 : e < n
  ·rw [if_pos h1, if_neg (by omega), if_pos (by omega)]; omega
  ·rw [if_neg h1]
   by_cases h2 : n = e
   ·rw [if_pos h2, if_pos (by omega)]; omega
   ·rw [if_neg h2, if_neg (by omega)]; omega
theorem lq {w : List Int} (hw : ∀ x ∈ w, -1000 ≤ x ∧ x ≤ 1000) (p : Nat → Bool) (l : List Nat) : ∀ acc : Int, -1000000 + 1000 * (l.length : Int) ≤ acc → acc ≤ 1000000 - 1000 * (l.length : Int) → ic w acc (l.filter p) = acc + (l.map (fun e => if p e = true then rd w (e : Int) else 0)).sum := by
 induction l with
 | nil => intro acc _ _; simp [ic]
 | cons x l ih =>
  intro acc h0 h1
  have hb := hO hw x
  simp only [List.length_cons] at h0 h1
  simp only [List.map_cons, List.sum_cons, List.filter_cons]
  by_cases h : p x = true
  ·rw [if_pos h, if_pos h]
   have := ih (wrap64 (acc + rd w (x : Int))) (by rw [be (by omega) (by omega)]; omega) (by rw [be (by omega) (by omega)]; omega)
   unfold ic at this ⊢
   rw [List.foldl_cons, this, be (by omega) (by omega)]
   omega
  ·rw [if_neg h, if_neg h, ih acc (by omega) (by omega)]
   omega
def wOf (w : List Int) (s i : Nat) : Int := if (decide (i < w.length) && s.testBit i) = true then rd w (i : Int) else 0
def wS (w : List Int) (s : Nat) : Int := ((List.range 8).map (wOf w s)).sum
theorem ln {w : List Int} (hw : ∀ x ∈ w, -1000 ≤ x ∧ x ≤ 1000) (s i : Nat) : -1000 ≤ wOf w s i ∧ wOf w s i ≤ 1000 := by
 unfold wOf
 by_cases h : (decide (i < w.length) && s.testBit i) = true
 ·rw [if_pos h]; exact hO hw i
 ·rw [if_neg h]; omega
theorem en {w : List Int} (hw : ∀ x ∈ w, -1000 ≤ x ∧ x ≤ 1000) (s : Nat) : -8000 ≤ wS w s ∧ wS w s ≤ 8000 := by
 have := ks (l := List.range 8) (fun i _ => ln hw s i)
 simp only [List.length_range] at this
 unfold wS
 omega
theorem ct {w : List Int} (hw : ∀ x ∈ w, -1000 ≤ x ∧ x ≤ 1000) {s : Nat} (hs : s < 256) : bN w (s : Int) = wS w s := by
 unfold bN wS
 rw [lq hw _ _ 0 (by simp only [List.length_range]; omega) (by simp only [List.length_range]; omega), Int.zero_add]
 apply congrArg List.sum
 apply List.map_congr_left
 intro i hi
 have hi8 := List.mem_range.1 hi
 unfold wOf
 rw [hasB_nat, show decide (s < 256) = true from decide_eq_true hs, show decide (i < 8) = true from decide_eq_true hi8, Bool.true_and, Bool.true_and]
theorem mq {w : List Int} {s e : Nat} (he : e < 8) (hl : e < w.length) (h : s.testBit e = true) : wS w s = wS w (dif s (2 ^ e)) + rd w (e : Int) := by
 unfold wS
 have hpt : ∀ i, wOf w s i = wOf w (dif s (2 ^ e)) i + (if i = e then rd w (e : Int) else 0) := by
  intro i
  unfold wOf
  rw [del_bit]
  by_cases hi : i = e
  ·subst hi
   rw [if_pos rfl, h, show decide (i < w.length) = true from decide_eq_true hl]
   simp
  ·rw [if_neg hi, show decide (e = i) = false from decide_eq_false (fun h' => hi h'.symm)]
   simp
 rw [show wOf w s = (fun i => wOf w (dif s (2 ^ e)) i + (if i = e then rd w (e : Int) else 0)) from funext hpt, isum_add, isum_one, if_pos he]
theorem cS {n : Int} {w : List Int} (h : areW n w = true) : (∀ x ∈ w, -1000 ≤ x ∧ x ≤ 1000) ∧ (w.length : Int) = n := by
 simp only [areW, Bool.and_eq_true, List.all_eq_true, decide_eq_true_eq] at h
 exact ⟨h.1.1, h.2⟩
end Go.Proofs.YtimkekeaeojpkaaGreat.Q
namespace Go.Proofs.YtimkekeaeojpkaaGreat.Q
open Go Go.RowKit Go.Proofs.YtimkekeaeojpkaaGreat.A Go.Proofs.YtimkekeaeojpkaaGreatW.PrintWords Go.Proofs.YtimkekeaeojpkaaGreatW.PrintLast Go.Proofs.YtimkekeaeojpkaaGreatW.PrintMore Go.Proofs.YtimkekeaeojpkaaGreat.Z
set_option linter.unusedVariables false
set_option linter.unusedSimpArgs false
def famG (n : Int) : Option Int → List Int → Bool
 | _, [] => decide (0 ≤ n) && decide (n ≤ 8)
 | p, x :: xs => d7 n x && ((match p with | none => true | some q => decide (q < x)) && famG n (some x) xs)
def famB (n : Int) (l : List Int) : Bool := famG n none l
def gn (l : List Int) (i : Nat) : Option Int := if i = 0 then none else some (rd l ((i - 1 : Nat) : Int))
theorem gE (l : List Int) (i : Nat) (hi : i < l.length) : gn l (i + 1) = some l[i] := by
 unfold gn
 rw [if_neg (by omega), Nat.add_sub_cancel, cf l i hi]
theorem gY (n : Int) (l : List Int) (hl : l.length ≤ 17592186044416) : Ev (fun k => av.f k n l) (famB n l) := by
 have h := down (P := fun i => Ev (fun k => av.l0 k n l (i : Int)) (famG n (gn l i) (l.drop i))) l.length
  (by
   apply Ev.step
   ·intro k
    simp only [av.l0, l1In_eq, Option.bind_some]
    rw [if_neg (by omega)]
   ·rw [cu]; exact Ev.now _)
  (by
   intro i hi ih
   apply Ev.step
   ·intro k
    simp only [av.l0, specIsSet_eq, Option.bind_some]
    rw [if_pos (by omega), if_pos (by omega), cf l i hi, bU hi hl]
   ·rw [bQ l i hi]
    rw [gE l i hi] at ih
    simp only [famG]
    by_cases hx : d7 n l[i] = true
    ·refine Ev.ifp hx ?_
     rw [hx, Bool.true_and]
     by_cases h0 : (i : Int) > 0
     ·refine Ev.ifp h0 ?_
      rw [be (by omega) (by omega), show (i : Int) - 1 = ((i - 1 : Nat) : Int) from by omega]
      refine Ev.ifp (by omega) (Ev.ifp (by omega) ?_)
      unfold gn
      rw [if_neg (by omega)]
      by_cases hq : rd l ((i - 1 : Nat) : Int) ≥ l[i]
      ·refine Ev.ifp hq ?_
       simp only []
       rw [show decide (rd l ((i - 1 : Nat) : Int) < l[i]) = false from by simpa using hq, Bool.false_and]
       exact Ev.now _
      ·refine Ev.ifn hq ?_
       simp only []
       rw [show decide (rd l ((i - 1 : Nat) : Int) < l[i]) = true from by simpa using hq, Bool.true_and]
       exact ih
     ·refine Ev.ifn h0 ?_
      unfold gn
      rw [if_pos (by omega)]
      simp only [Bool.true_and]
      exact ih
    ·refine Ev.ifn hx ?_
     rw [Bool.eq_false_iff.2 hx, Bool.false_and]; exact Ev.now _)
 exact h
theorem gW (n : Int) (l : List Int) (hl : l.length ≤ 17592186044416) : Ev (fun k => br.f k n l) (famB n l) := by
 have h := down (P := fun i => Ev (fun k => br.l0 k n l l (l.length : Int) (i : Int)) (famG n (gn l i) (l.drop i))) l.length
  (by
   apply Ev.step
   ·intro k
    simp only [br.l0, isSize_eq, Option.bind_some]
    rw [if_neg (by omega)]
   ·rw [cu]; exact Ev.now _)
  (by
   intro i hi ih
   apply Ev.step
   ·intro k
    simp only [br.l0, implIsSet_eq, Option.bind_some]
    rw [if_pos (by omega), if_pos (by omega), if_pos (by omega), cf l i hi, bU hi hl]
   ·rw [bQ l i hi]
    rw [gE l i hi] at ih
    simp only [famG]
    by_cases hx : d7 n l[i] = true
    ·refine Ev.ifp hx ?_
     rw [hx, Bool.true_and]
     by_cases h0 : (i : Int) > 0
     ·refine Ev.ifp h0 ?_
      rw [be (by omega) (by omega), show (i : Int) - 1 = ((i - 1 : Nat) : Int) from by omega]
      refine Ev.ifp (by omega) (Ev.ifp (by omega) ?_)
      unfold gn
      rw [if_neg (by omega)]
      by_cases hq : l[i] ≤ rd l ((i - 1 : Nat) : Int)
      ·refine Ev.ifp hq ?_
       simp only []
       rw [show decide (rd l ((i - 1 : Nat) : Int) < l[i]) = false from by simpa using hq, Bool.false_and]
       exact Ev.now _
      ·refine Ev.ifn hq ?_
       simp only []
       rw [show decide (rd l ((i - 1 : Nat) : Int) < l[i]) = true from by simpa using hq, Bool.true_and]
       exact ih
     ·refine Ev.ifn h0 ?_
      unfold gn
      rw [if_pos (by omega)]
      simp only [Bool.true_and]
      exact ih
    ·refine Ev.ifn hx ?_
     rw [Bool.eq_false_iff.2 hx, Bool.false_and]; exact Ev.now _)
 exact h
theorem kM (n : Int) : ∀ (l : List Int) (p : Option Int), famG n p l = true → (0 ≤ n ∧ n ≤ 8) ∧ (∀ x ∈ l, d7 n x = true) ∧ l.Pairwise (· < ·) ∧ (∀ q, p = some q → ∀ x ∈ l, q < x) := by
 intro l
 induction l with
 | nil =>
  intro p h
  simp only [famG, Bool.and_eq_true, decide_eq_true_eq] at h
  exact ⟨h, fun x hx => by simp at hx, List.Pairwise.nil, fun q _ x hx => by simp at hx⟩
 | cons y l ih =>
  intro p h
  simp only [famG, Bool.and_eq_true] at h
  obtain ⟨h1, h2, h3⟩ := h
  obtain ⟨i1, i2, i3, i4⟩ := ih _ h3
  refine ⟨i1, fun x hx => ?_, List.pairwise_cons.2 ⟨fun x hx => i4 y rfl x hx, i3⟩, fun q hq x hx => ?_⟩
  ·rcases List.mem_cons.1 hx with rfl | hx
   ·exact h1
   ·exact i2 x hx
  ·subst hq
   simp only [decide_eq_true_eq] at h2
   rcases List.mem_cons.1 hx with rfl | hx
   ·exact h2
   ·exact Int.lt_trans h2 (i4 y rfl x hx)
theorem g8 {n : Int} {l : List Int} (h : famB n l = true) : ∃ (m : Nat) (L : List Nat), n = m ∧ m ≤ 8 ∧ l = L.map (fun x : Nat => (x : Int)) ∧ (∀ x ∈ L, x < 2 ^ m) ∧ L.Pairwise (· < ·) := by
 obtain ⟨h1, h2, h3, _⟩ := kM n l none h
 obtain ⟨m, rfl⟩ := Int.eq_ofNat_of_zero_le h1.1
 have hnn : ∀ x ∈ l, 0 ≤ x := fun x hx => by
  obtain ⟨_, t, _, rfl, _⟩ := iR (h2 x hx)
  omega
 have hl : l = (l.map Int.toNat).map (fun x : Nat => (x : Int)) := by
  rw [List.map_map]
  conv => lhs; rw [← List.map_id l]
  apply List.map_congr_left
  intro x hx
  have := hnn x hx
  simp only [id, Function.comp]
  omega
 refine ⟨m, l.map Int.toNat, rfl, by omega, hl, fun x hx => ?_, ?_⟩
 ·obtain ⟨y, hy, rfl⟩ := List.mem_map.1 hx
  obtain ⟨m', t, hm, rfl, _, ht, _⟩ := iR (h2 y hy)
  have : m = m' := by omega
  subst this
  rw [Int.toNat_natCast]; exact ht
 ·rw [List.pairwise_map]
  exact h3.imp_of_mem (fun {a b} ha hb hab => by
   have := hnn a ha
   have := hnn b hb
   omega)
theorem fb (x : Int) (l : List Int) (a : Int) : (x :: l).contains a = (decide (x = a) || l.contains a) := by
 rw [Bool.eq_iff_iff]
 simp only [List.contains_iff_mem, List.mem_cons, Bool.or_eq_true, decide_eq_true_eq]
 constructor
 ·rintro (h | h)
  ·exact .inl h.symm
  ·exact .inr h
 ·rintro (h | h)
  ·exact .inl h.symm
  ·exact .inr h
theorem dU (l : List Int) (a : Int) (hl : l.length ≤ 17592186044416) : Ev (fun k => aG.f k l a) (l.contains a) := by
 have h := down (P := fun i => Ev (fun k => aG.l0 k l a (i : Int)) ((l.drop i).contains a)) l.length
  (by
   apply Ev.step
   ·intro k
    simp only [aG.l0]
    rw [if_neg (by omega)]
   ·rw [cu]; exact Ev.now _)
  (by
   intro i hi ih
   apply Ev.step
   ·intro k
    simp only [aG.l0]
    rw [if_pos (by omega), if_pos (by omega), cf l i hi, bU hi hl]
   ·rw [bQ l i hi, fb]
    by_cases hx : l[i] = a
    ·refine Ev.ifp hx ?_
     rw [show decide (l[i] = a) = true from by simpa using hx, Bool.true_or]; exact Ev.now _
    ·refine Ev.ifn hx ?_
     rw [show decide (l[i] = a) = false from by simpa using hx, Bool.false_or]; exact ih)
 exact h
theorem ml (l : List Int) (a : Int) (hl : l.length ≤ 17592186044416) : ∃ r : Int, Ev (fun k => ar.f k l a) r ∧ (decide (r ≥ 0) = l.contains a) := by
 have h := down (P := fun i => ∃ r : Int, Ev (fun k => ar.l0 k l a (l.length : Int) (i : Int)) r ∧ (decide (r ≥ 0) = (l.drop i).contains a)) l.length
  (by
   refine ⟨-1, ?_, by rw [cu]; rfl⟩
   apply Ev.step
   ·intro k
    simp only [ar.l0]
    rw [if_neg (by omega)]
   ·exact Ev.now _)
  (by
   intro i hi ih
   rw [bQ l i hi, fb]
   by_cases hx : l[i] = a
   ·refine ⟨(i : Int), ?_, ?_⟩
    ·apply Ev.step
     ·intro k
      simp only [ar.l0]
      rw [if_pos (by omega), if_pos (by omega), if_pos (by omega), cf l i hi, if_pos hx.symm]
     ·exact Ev.now _
    ·rw [show decide (l[i] = a) = true from by simpa using hx, Bool.true_or]
     simp
   ·obtain ⟨r, hr, hd⟩ := ih
    refine ⟨r, ?_, ?_⟩
    ·apply Ev.step
     ·intro k
      simp only [ar.l0]
      rw [if_pos (by omega), if_pos (by omega), if_pos (by omega), cf l i hi, if_neg (fun hc => hx hc.symm), bU hi hl]
     ·exact hr
    ·rw [show decide (l[i] = a) = false from by simpa using hx, Bool.false_or]; exact hd)
 exact h
theorem fZ (l : List Int) (a : Int) (hl : l.length ≤ 17592186044416) : Ev (fun k => bm.f k l a) (l.contains a) := by
 obtain ⟨r, hr, hd⟩ := ml l a hl
 unfold bm.f
 refine Ev.bind hr ?_
 rw [hd]; exact Ev.now _
end Go.Proofs.YtimkekeaeojpkaaGreat.Q
namespace Go.Proofs.YtimkekeaeojpkaaGreat.Q
open Go Go.RowKit Go.Proofs.YtimkekeaeojpkaaGreatW.PrintWords Go.Proofs.YtimkekeaeojpkaaGreatW.PrintLast Go.Proofs.YtimkekeaeojpkaaGreatW.PrintMore Go.Proofs.YtimkekeaeojpkaaGreat.Z
set_option linter.unusedVariables false
set_option linter.unusedSimpArgs false
def f8 (l : List Int) (a b e : Nat) : Bool := (els (dif b a)).any (fun f => l.contains ((dif a (2 ^ e) ||| 2 ^ f : Nat) : Int))
def eq (l : List Int) (a b : Nat) : List Nat → Option Nat
 | [] => none
 | e :: es => if f8 l a b e = true then eq l a b es else some e
def eF (l : List Int) (a : Nat) : List Nat → Option (Nat × Nat)
 | [] => none
 | b :: bs => match eq l a b (els (dif a b)) with
  | none => eF l a bs
  | some e => some (b, e)
def eN (l : List Int) (L : List Nat) : List Nat → Option (Nat × Nat × Nat)
 | [] => none
 | a :: la => match eF l a L with
  | none => eN l L la
  | some (b, e) => some (a, b, e)
def told : Option (Nat × Nat × Nat) → Int × Int × Int × Bool
 | none => (0, 0, 0, false)
 | some (a, b, e) => ((a : Int), (b : Int), (e : Int), true)
def iG (n : Int) (l : List Int) : Int × Int × Int × Bool := if famB n l = true then told (eN l (l.map Int.toNat) (l.map Int.toNat)) else (0, 0, 0, false)
theorem kT {a b n : Nat} (ha : a < 2 ^ n) (hn : n ≤ 8) : els (dif a b) = (List.range n).filter (fun e => a.testBit e && !b.testBit e) := by
 have h1 : (List.range 8).filter (fun e => (dif a b).testBit e) = (List.range 8).filter (fun e => decide (e < n) && (a.testBit e && !b.testBit e)) :=
  List.filter_congr (fun e _ => by
   rw [dif_bit]
   by_cases h : e < n
   ·simp [h]
   ·have : a.testBit e = false := Nat.testBit_lt_two_pow (Nat.lt_of_lt_of_le ha (Nat.pow_le_pow_right (by decide) (by omega)))
    simp [this])
 unfold els
 rw [h1]
 have h2 : ∀ (p : Nat → Bool) (a b : Nat), (List.range a).filter (fun e => decide (e < b) && p e) = (List.range (min a b)).filter p := by
  intro p a b
  induction a with
  | zero => simp
  | succ a ih =>
   rw [List.range_succ, List.filter_append, ih]
   by_cases h : a < b
   ·rw [show min (a + 1) b = min a b + 1 from by omega, List.range_succ, List.filter_append]
    have e : min a b = a := by omega
    rw [e]
    congr 1
    simp [List.filter_cons, h]
   ·rw [show min (a + 1) b = min a b from by omega]
    simp [List.filter_cons, h]
 rw [h2, Nat.min_eq_right hn]
end Go.Proofs.YtimkekeaeojpkaaGreat.Q
namespace Go.Proofs.YtimkekeaeojpkaaGreat.Q
open Go Go.RowKit Go.Proofs.YtimkekeaeojpkaaGreat.A Go.Proofs.YtimkekeaeojpkaaGreatW.PrintWords Go.Proofs.YtimkekeaeojpkaaGreatW.PrintLast Go.Proofs.YtimkekeaeojpkaaGreatW.PrintMore Go.Proofs.YtimkekeaeojpkaaGreat.Z
set_option linter.unusedVariables false
set_option linter.unusedSimpArgs false
theorem lv (n : Nat) (hn : n ≤ 8) (l : List Int) (hl : l.length ≤ 17592186044416) (a b e : Nat) (ha : a < 256) (hb : b < 2 ^ n) (he : e < 8) (hae : a.testBit e = true) :
  Ev (fun k => an.f k (n : Int) l (a : Int) (b : Int) (e : Int)) (f8 l a b e) := by
 have hb256 : b < 256 := Nat.lt_of_lt_of_le hb (cj hn)
 have h := down (P := fun f => Ev (fun k => an.l0 k (a : Int) (b : Int) (e : Int) (f : Int) (n : Int) l) (((List.range' f (n - f)).filter (fun f => b.testBit f && !a.testBit f)).any (fun f => l.contains ((dif a (2 ^ e) ||| 2 ^ f : Nat) : Int)))) n
  (by
   apply Ev.step
   ·intro k
    simp only [an.l0]
    rw [if_neg (by omega)]
   ·rw [Nat.sub_self]; exact Ev.now _)
  (by
   intro f hf ih
   have hih : Ev (fun k => an.l0 k (a : Int) (b : Int) (e : Int) (wrap64 ((f : Int) + 1)) (n : Int) l) (((List.range' (f + 1) (n - (f + 1))).filter (fun f => b.testBit f && !a.testBit f)).any (fun f => l.contains ((dif a (2 ^ e) ||| 2 ^ f : Nat) : Int))) := by
    rw [bU hf (by omega)]; exact ih
   apply Ev.step
   ·intro k
    simp only [an.l0, dX (bu hb256) (show f < 2 ^ 63 by omega), dX (bu ha) (show f < 2 ^ 63 by omega), Option.bind_some]
    rw [if_pos (by omega)]
   ·rw [et hf, List.filter_cons]
    by_cases hbf : b.testBit f = true
    ·refine Ev.ifp hbf ?_
     by_cases haf : a.testBit f = true
     ·refine Ev.ifp haf ?_
      rw [if_neg (by rw [haf]; simp)]
      exact hih
     ·refine Ev.ifn haf (Ev.ifp (dl _) (Ev.ifp (dl _) ?_))
      have haf' := Bool.eq_false_iff.2 haf
      rw [if_pos (by rw [hbf, haf']; rfl), List.any_cons]
      obtain ⟨x1, x2, x3⟩ := kg ha he (show f < 8 by omega) hae haf'
      have hp : 2 ^ f < 256 := Nat.pow_lt_pow_right (a := 2) (m := f) (n := 8) (by decide) (by omega)
      have ex : wrap64 (wrap64 ((a : Int) - shl .i64 1 (IntKind.u64.wrap (e : Int))) + shl .i64 1 (IntKind.u64.wrap (f : Int))) = ((dif a (2 ^ e) ||| 2 ^ f : Nat) : Int) := by
       rw [fw (by omega) (by omega), fw (by omega) (by omega), dV (by omega), dV (by omega), ← x1]
       generalize 2 ^ e = p at *
       generalize 2 ^ f = q at *
       rw [be (n := (a : Int) - (p : Int)) (by omega) (by omega), be (by omega) (by omega)]
       omega
      rw [ex]
      refine Ev.bind (dU l _ hl) ?_
      by_cases hc : l.contains ((dif a (2 ^ e) ||| 2 ^ f : Nat) : Int) = true
      ·refine Ev.ifp hc ?_
       rw [hc, Bool.true_or]; exact Ev.now _
      ·refine Ev.ifn hc ?_
       rw [Bool.eq_false_iff.2 hc, Bool.false_or]; exact hih
    ·refine Ev.ifn hbf ?_
     rw [if_neg (by rw [Bool.eq_false_iff.2 hbf]; simp)]
     exact hih)
 rw [Nat.sub_zero, ← List.range_eq_range', ← kT hb hn] at h
 exact h
theorem j3 (n : Nat) (hn : n ≤ 8) (l : List Int) (hl : l.length ≤ 17592186044416) (i j : Nat) (hi : i < l.length) (hj : j < l.length) (a b : Nat) (hai : rd l (i : Int) = a) (hbj : rd l (j : Int) = b) (ha : a < 2 ^ n) (hb : b < 2 ^ n) (K : Int × Int × Int × Bool)
  (hK : Ev (fun k => ab.l1 k (i : Int) (wrap64 ((j : Int) + 1)) (n : Int) l) K) :
  Ev (fun k => ab.l2 k (i : Int) (j : Int) 0 (n : Int) l) (match eq l a b (els (dif a b)) with | none => K | some e => ((a : Int), (b : Int), (e : Int), true)) := by
 have ha256 : a < 256 := Nat.lt_of_lt_of_le ha (cj hn)
 have hb256 : b < 256 := Nat.lt_of_lt_of_le hb (cj hn)
 have h := down (P := fun e => Ev (fun k => ab.l2 k (i : Int) (j : Int) (e : Int) (n : Int) l) (match eq l a b ((List.range' e (n - e)).filter (fun e => a.testBit e && !b.testBit e)) with | none => K | some e => ((a : Int), (b : Int), (e : Int), true))) n
  (by
   apply Ev.step
   ·intro k
    simp only [ab.l2]
    rw [if_neg (by omega)]
   ·rw [Nat.sub_self]; exact hK)
  (by
   intro e he ih
   have hih : Ev (fun k => ab.l2 k (i : Int) (j : Int) (wrap64 ((e : Int) + 1)) (n : Int) l) (match eq l a b ((List.range' (e + 1) (n - (e + 1))).filter (fun e => a.testBit e && !b.testBit e)) with | none => K | some e => ((a : Int), (b : Int), (e : Int), true)) := by
    rw [bU he (by omega)]; exact ih
   apply Ev.step
   ·intro k
    simp only [ab.l2]
    rw [if_pos (by omega), if_pos (by omega), if_pos (by omega), if_pos (by omega), if_pos (by omega), hai, hbj, dX (bu ha256) (show e < 2 ^ 63 by omega), dX (bu hb256) (show e < 2 ^ 63 by omega), Option.bind_some, Option.bind_some]
   ·rw [et he, List.filter_cons]
    by_cases hae : a.testBit e = true
    ·refine Ev.ifp hae ?_
     by_cases hbe : b.testBit e = true
     ·refine Ev.ifp hbe ?_
      rw [if_neg (by rw [hbe]; simp)]
      exact hih
     ·refine Ev.ifn hbe (Ev.bind (lv n hn l hl a b e ha256 hb (by omega) hae) ?_)
      rw [if_pos (by rw [hae, Bool.eq_false_iff.2 hbe]; rfl)]
      simp only [eq]
      by_cases hx : f8 l a b e = true
      ·refine Ev.ifp hx ?_
       rw [if_pos hx]; exact hih
      ·refine Ev.ifn hx ?_
       rw [if_neg hx]; exact Ev.now _
    ·refine Ev.ifn hae ?_
     rw [if_neg (by rw [Bool.eq_false_iff.2 hae]; simp)]
     exact hih)
 rw [Nat.sub_zero, ← List.range_eq_range', ← kT ha hn] at h
 exact h
theorem jx (n : Int) (l : List Int) (hl : l.length ≤ 17592186044416) : Ev (fun k => ab.f k n l) (iG n l) := by
 unfold ab.f iG
 refine Ev.bind (gY n l hl) ?_
 by_cases hf : famB n l = true
 ·refine Ev.ifp hf ?_
  rw [if_pos hf]
  obtain ⟨m, L, rfl, hm, rfl, hL, _⟩ := g8 hf
  rw [cq]
  have hlen : (L.map (fun x : Nat => (x : Int))).length = L.length := List.length_map _
  rw [hlen] at hl
  have hrd : ∀ i, (h : i < L.length) → rd (L.map (fun x : Nat => (x : Int))) (i : Int) = (L[i] : Int) := fun i h => by
   rw [cf _ i (by rw [hlen]; exact h), List.getElem_map]
  have hl' : (L.map (fun x : Nat => (x : Int))).length ≤ 17592186044416 := by rw [hlen]; exact hl
  generalize L.map (fun x : Nat => (x : Int)) = l at hlen hrd hl'
  have h := down (P := fun i => Ev (fun k => ab.l0 k (i : Int) (m : Int) l) (told (eN l L (L.drop i)))) L.length
   (by
    apply Ev.step
    ·intro k
     simp only [ab.l0]
     rw [if_neg (by omega)]
    ·rw [cu]; exact Ev.now _)
   (by
    intro i hi ih
    have hia := hL _ (List.getElem_mem hi)
    have hih : Ev (fun k => ab.l0 k (wrap64 ((i : Int) + 1)) (m : Int) l) (told (eN l L (L.drop (i + 1)))) := by
     rw [bU hi hl]; exact ih
    apply Ev.step
    ·intro k
     simp only [ab.l0]
     rw [if_pos (by omega)]
    ·have h1 := down (P := fun j => Ev (fun k => ab.l1 k (i : Int) (j : Int) (m : Int) l) (match eF l L[i] (L.drop j) with | none => told (eN l L (L.drop (i + 1))) | some (b, e) => ((L[i] : Int), (b : Int), (e : Int), true))) L.length
      (by
       apply Ev.step
       ·intro k
        simp only [ab.l1]
        rw [if_neg (by omega)]
       ·rw [cu]; exact hih)
      (by
       intro j hj ihj
       have hjb := hL _ (List.getElem_mem hj)
       apply Ev.step
       ·intro k
        simp only [ab.l1]
        rw [if_pos (by omega)]
       ·have h2 := j3 m hm l hl' i j (by omega) (by omega) L[i] L[j] (hrd i hi) (hrd j hj) hia hjb _ (by rw [bU hj hl]; exact ihj)
        rw [bQ L j hj]
        simp only [eF]
        generalize eq l L[i] L[j] (els (dif L[i] L[j])) = q at h2
        cases q with
        | none => exact h2
        | some e => exact h2)
     rw [bQ L i hi]
     simp only [eN]
     rw [List.drop_zero] at h1
     generalize eF l L[i] L = q at h1
     cases q with
     | none => exact h1
     | some x => exact h1)
  exact h
 ·refine Ev.ifn hf ?_
  rw [if_neg hf]
  exact Ev.now _
def matB (n : Int) (l : List Int) : Bool := famB n l && (decide ((l.length : Int) > 0) && !(iG n l).2.2.2)
theorem eh (n : Int) (l : List Int) (hl : l.length ≤ 17592186044416) : Ev (fun k => aw.f k n l) (matB n l) := by
 unfold aw.f matB
 refine Ev.bind (jx n l hl) (Ev.bind (gY n l hl) ?_)
 by_cases hf : famB n l = true
 ·refine Ev.ifp hf ?_
  rw [hf, Bool.true_and]
  by_cases h0 : (l.length : Int) > 0
  ·refine Ev.ifp h0 ?_
   rw [show decide ((l.length : Int) > 0) = true from by simpa using h0, Bool.true_and]
   exact Ev.now _
  ·refine Ev.ifn h0 ?_
   rw [show decide ((l.length : Int) > 0) = false from by simpa using h0, Bool.false_and]
   exact Ev.now _
 ·refine Ev.ifn hf ?_
  rw [Bool.eq_false_iff.2 hf, Bool.false_and]
  exact Ev.now _
end Go.Proofs.YtimkekeaeojpkaaGreat.Q
namespace Go.Proofs.YtimkekeaeojpkaaGreat.Q
open Go Go.RowKit Go.Proofs.YtimkekeaeojpkaaGreatW.PrintWords Go.Proofs.YtimkekeaeojpkaaGreatW.PrintLast Go.Proofs.YtimkekeaeojpkaaGreatW.PrintMore Go.Proofs.YtimkekeaeojpkaaGreat.Z
set_option linter.unusedVariables false
set_option linter.unusedSimpArgs false
theorem eo {n : Int} {l : List Int} (h : matB n l = true) : ∃ (m : Nat) (L : List Nat), n = m ∧ m ≤ 8 ∧ l = ints L ∧ (∀ x ∈ L, x < 2 ^ m) ∧ (∀ x ∈ L, x < 256) ∧ L.Pairwise (· < ·) ∧ L ≠ [] := by
 simp only [matB, Bool.and_eq_true, decide_eq_true_eq] at h
 obtain ⟨m, L, rfl, hm, rfl, hL, hp⟩ := g8 h.1
 refine ⟨m, L, rfl, hm, rfl, hL, fun x hx => Nat.lt_of_lt_of_le (hL x hx) (cj hm), hp, ?_⟩
 rintro rfl
 simp at h
theorem aX (L : List Nat) : (ints L).length = L.length := List.length_map _
theorem df (L : List Nat) (i : Nat) (h : i < L.length) : rd (ints L) (i : Int) = (L[i] : Int) := by
 rw [cf _ i (by rw [aX]; exact h)]
 simp [ints]
end Go.Proofs.YtimkekeaeojpkaaGreat.Q
namespace Go.Proofs.YtimkekeaeojpkaaGreat.Q
open Go Go.RowKit Go.Proofs.YtimkekeaeojpkaaGreat.A Go.Proofs.YtimkekeaeojpkaaGreatW.PrintWords Go.Proofs.YtimkekeaeojpkaaGreatW.PrintLast Go.Proofs.YtimkekeaeojpkaaGreatW.PrintMore Go.Proofs.YtimkekeaeojpkaaGreat.Z
set_option linter.unusedVariables false
set_option linter.unusedSimpArgs false
theorem js {e : Nat} (he : e < 8) : IntKind.i64.wrap (2 ^ e) = ((2 ^ e : Nat) : Int) := by
 have h2 : (2 ^ e : Nat) < 9223372036854775808 := by
  have := Nat.pow_lt_pow_right (a := 2) (by decide) (show e < 63 by omega)
  simpa using this
 have h3 : (2 : Int) ^ e = ((2 ^ e : Nat) : Int) := by simp
 rw [h3]
 exact dO h2
theorem mu (l : List Int) (hl : l.length ≤ 17592186044416) (a e f : Nat) (ha : a < 256) (he : e < 8) (hf : f < 8) : Ev (fun k => ae.c k l (a : Int) (e : Int) (f : Int)) (l.contains ((dif a (2 ^ e) ||| 2 ^ f : Nat) : Int)) := by
 unfold ae.c cm.f
 refine Ev.ifp (by omega) (Ev.ifp (by omega) ?_)
 have hp : ∀ x < 8, 2 ^ x < 2 ^ 63 := fun x hx => Nat.pow_lt_pow_right (by decide) (by omega)
 rw [Int.toNat_natCast, Int.toNat_natCast, js he, js hf, dH (bu ha) (hp e he), ij (bu (eC ha)) (hp f hf)]
 exact Ev.bind (fZ l _ hl) (Ev.now _)
theorem l7 {s e : Nat} (h : e ∈ els s) : e < 8 := (ec.1 h).1
theorem any_map (p : Int → Bool) (L : List Nat) : (L.map (fun x : Nat => (x : Int))).any p = L.any (fun x => p (x : Int)) := by
 rw [List.any_map]; rfl
theorem jQ (l : List Int) (hl : l.length ≤ 17592186044416) (a b : Nat) (ha : a < 256) (hb : b < 256) : ∀ es : List Nat, (∀ e ∈ es, e < 8) → Ev (fun k => ae.l2 k l (a : Int) (b : Int) (es.map (fun x : Nat => (x : Int)))) ((eq l a b es).map (fun x : Nat => (x : Int))) := by
 intro es
 induction es with
 | nil => intro _; exact Ev.now _
 | cons e es ih =>
  intro hm
  have he := hm e (List.mem_cons_self ..)
  simp only [List.map_cons, ae.l2]
  rw [dH (bu hb) (bu ha)]
  refine Ev.bind (dG _) ?_
  rw [gG (eC hb)]
  refine Ev.bind (a := f8 l a b e) ?_ ?_
  ·have h := mG (g := fun k f => ae.c k l (a : Int) (e : Int) f) (p := fun f => l.contains ((dif a (2 ^ e) ||| 2 ^ f.toNat : Nat) : Int)) (l := (els (dif b a)).map (fun x : Nat => (x : Int)))
    (fun x hx => by
     obtain ⟨f, hf, rfl⟩ := List.mem_map.1 hx
     have := mu l hl a e f ha he (l7 hf)
     rw [Int.toNat_natCast]
     exact this)
   rw [any_map] at h
   simp only [Int.toNat_natCast] at h
   exact h
  ·simp only [eq]
   by_cases hx : f8 l a b e = true
   ·refine Ev.ifp hx ?_
    rw [if_pos hx]
    exact ih (fun e' he' => hm e' (List.mem_cons_of_mem _ he'))
   ·refine Ev.ifn hx ?_
    rw [if_neg hx]
    exact Ev.now _
theorem jK (l : List Int) (hl : l.length ≤ 17592186044416) (a : Nat) (ha : a < 256) : ∀ bs : List Nat, (∀ b ∈ bs, b < 256) → Ev (fun k => ae.l1 k l (a : Int) (bs.map (fun x : Nat => (x : Int)))) ((eF l a bs).map (fun x : Nat × Nat => ((x.1 : Int), (x.2 : Int)))) := by
 intro bs
 induction bs with
 | nil => intro _; exact Ev.now _
 | cons b bs ih =>
  intro hm
  have hb := hm b (List.mem_cons_self ..)
  simp only [List.map_cons, ae.l1]
  rw [dH (bu ha) (bu hb)]
  refine Ev.bind (dG _) ?_
  rw [gG (eC ha)]
  refine Ev.bind (jQ l hl a b ha hb _ (fun e he => l7 he)) ?_
  simp only [eF]
  cases eq l a b (els (dif a b)) with
  | none => exact ih (fun b' hb' => hm b' (List.mem_cons_of_mem _ hb'))
  | some e => exact Ev.now _
theorem j5 (l : List Int) (L : List Nat) (hlL : l = L.map (fun x : Nat => (x : Int))) (hl : l.length ≤ 17592186044416) (hL : ∀ b ∈ L, b < 256) : ∀ la : List Nat, (∀ a ∈ la, a < 256) → Ev (fun k => ae.l0 k l (la.map (fun x : Nat => (x : Int)))) ((eN l L la).map (fun x : Nat × Nat × Nat => ((x.1 : Int), (x.2.1 : Int), (x.2.2 : Int)))) := by
 intro la
 induction la with
 | nil => intro _; exact Ev.now _
 | cons a la ih =>
  intro hm
  have ha := hm a (List.mem_cons_self ..)
  simp only [List.map_cons, ae.l0]
  refine Ev.bind (a := (eF l a L).map (fun x : Nat × Nat => ((x.1 : Int), (x.2 : Int)))) (by
   have := jK l hl a ha L hL
   rw [← hlL] at this
   exact this) ?_
  simp only [eN]
  cases eF l a L with
  | none => exact ih (fun a' ha' => hm a' (List.mem_cons_of_mem _ ha'))
  | some x => exact Ev.now _
theorem jO (n : Int) (l : List Int) (hl : l.length ≤ 17592186044416) : Ev (fun k => ae.f k n l) (iG n l) := by
 unfold ae.f iG
 refine Ev.bind (gW n l hl) ?_
 by_cases hf : famB n l = true
 ·refine Ev.ifp hf ?_
  rw [if_pos hf]
  obtain ⟨m, L, rfl, hm, hlL, hL, _⟩ := g8 hf
  have hmap : l.map Int.toNat = L := by rw [hlL, cq]
  have h256 : ∀ b ∈ L, b < 256 := fun b hb => Nat.lt_of_lt_of_le (hL b hb) (cj hm)
  have h := j5 l L hlL hl h256 L h256
  rw [← hlL] at h
  refine Ev.bind h ?_
  rw [hmap]
  cases eN l L L with
  | none => exact Ev.now _
  | some x => exact Ev.now _
 ·refine Ev.ifn hf ?_
  rw [if_neg hf]
  exact Ev.now _
theorem ei (n : Int) (l : List Int) (hl : l.length ≤ 17592186044416) : Ev (fun k => a9.f k n l) (matB n l) := by
 unfold a9.f matB
 refine Ev.bind (jO n l hl) (Ev.bind (gW n l hl) ?_)
 by_cases hf : famB n l = true
 ·refine Ev.ifp hf ?_
  rw [hf, Bool.true_and]
  by_cases h0 : (l.length : Int) > 0
  ·refine Ev.ifp h0 ?_
   rw [show decide ((l.length : Int) > 0) = true from by simpa using h0, Bool.true_and]
   exact Ev.now _
  ·refine Ev.ifn h0 ?_
   rw [show decide ((l.length : Int) > 0) = false from by simpa using h0, Bool.false_and]
   exact Ev.now _
 ·refine Ev.ifn hf ?_
  rw [Bool.eq_false_iff.2 hf, Bool.false_and]
  exact Ev.now _
def cr (m : Nat) : Nat := 2 ^ m - 1
theorem i6 : ∀ m < 9, ∀ u < 256, (!decide (u < 2 ^ m) || (decide (cr m - u = dif (cr m) u) && decide (cr m < 2 ^ m))) = true := by decide +kernel
theorem lW {m u : Nat} (hm : m ≤ 8) (hu : u < 2 ^ m) : cr m - u = dif (cr m) u ∧ cr m < 2 ^ m ∧ cr m < 256 := by
 have h256 := Nat.lt_of_lt_of_le hu (cj hm)
 have h := i6 m (by omega) u h256
 rw [show decide (u < 2 ^ m) = true from by simpa using hu] at h
 simp only [Bool.not_true, Bool.false_or, Bool.and_eq_true, decide_eq_true_eq] at h
 exact ⟨h.1, h.2, Nat.lt_of_lt_of_le h.2 (cj hm)⟩
theorem ed {m : Nat} (hm : m ≤ 8) : cr m < 2 ^ m ∧ cr m < 256 := (lW hm (Nat.two_pow_pos m)).2
theorem full_bit (m i : Nat) : (cr m).testBit i = decide (i < m) := Nat.testBit_two_pow_sub_one m i
theorem du {m : Nat} (hm : m ≤ 8) : bF.f (m : Int) = some ((cr m : Nat) : Int) := by
 unfold bF.f cr
 have hp := cj hm
 have h0 := Nat.two_pow_pos m
 rw [l1In_eq, Option.bind_some, if_pos (by simp; omega), if_pos (dl _), fw (by omega) (by omega), dV (by omega)]
 generalize 2 ^ m = q at *
 rw [be (by omega) (by omega)]
 congr 1
 omega
theorem eQ {m : Nat} (hm : m ≤ 8) : cx.f (m : Int) = some ((cr m : Nat) : Int) := by
 unfold cx.f cr
 have hp := cj hm
 have h0 := Nat.two_pow_pos m
 rw [isSize_eq, Option.bind_some, if_pos (by simp; omega), if_pos (by omega), dV (by omega)]
 generalize 2 ^ m = q at *
 rw [be (by omega) (by omega)]
 congr 1
 omega
theorem jF : ∀ a < 256, ∀ b < 256, decide (a - (a &&& b) = dif a b) = true := by decide +kernel
theorem mT {a b : Nat} (ha : a < 256) (hb : b < 256) : wrap64 ((a : Int) - ((a &&& b : Nat) : Int)) = ((dif a b : Nat) : Int) := by
 have h := of_decide_eq_true (jF a ha b hb)
 have h1 : a &&& b ≤ a := Nat.and_le_left
 rw [be (by omega) (by omega), ← h]
 omega
def d8 (acc : Nat) (L : List Nat) : Nat := L.foldl dif acc
def dm (acc : Nat) (L : List Nat) : Nat := L.foldl (fun a b => a &&& b) acc
theorem g7 (L : List Nat) (i : Nat) : ∀ acc : Nat, (d8 acc L).testBit i = (acc.testBit i && L.all (fun b => !b.testBit i)) := by
 induction L with
 | nil => intro acc; simp [d8]
 | cons b L ih =>
  intro acc
  have := ih (dif acc b)
  unfold d8 at this ⊢
  rw [List.foldl_cons, this, dif_bit, List.all_cons, Bool.and_assoc]
theorem coloopsN_bit (L : List Nat) (i : Nat) : ∀ acc : Nat, (dm acc L).testBit i = (acc.testBit i && L.all (fun b => b.testBit i)) := by
 induction L with
 | nil => intro acc; simp [dm]
 | cons b L ih =>
  intro acc
  have := ih (acc &&& b)
  unfold dm at this ⊢
  rw [List.foldl_cons, this, Nat.testBit_and, List.all_cons, Bool.and_assoc]
theorem iJ (L : List Nat) : ∀ acc : Nat, acc < 256 → d8 acc L < 256 := by
 induction L with
 | nil => intro acc h; exact h
 | cons b L ih => intro acc h; exact ih _ (eC h)
theorem f9 (L : List Nat) : ∀ acc : Nat, acc < 256 → dm acc L < 256 := by
 induction L with
 | nil => intro acc h; exact h
 | cons b L ih => intro acc h; exact ih _ (jm h)
def fN (n : Int) (l : List Int) : Int := if matB n l = true then ((d8 (cr n.toNat) (l.map Int.toNat) : Nat) : Int) else 0
def eH (n : Int) (l : List Int) : Int := if matB n l = true then ((dm (cr n.toNat) (l.map Int.toNat) : Nat) : Int) else 0
theorem jo (n : Int) (l : List Int) (hl : l.length ≤ 17592186044416) : Ev (fun k => bD.f k n l) (fN n l) := by
 unfold bD.f fN
 refine Ev.bind (eh n l hl) ?_
 by_cases h : matB n l = true
 ·refine Ev.ifp h ?_
  rw [if_pos h]
  obtain ⟨m, L, rfl, hm, rfl, hL, hL256, _, _⟩ := eo h
  rw [show (ints L).map Int.toNat = L from cq L, Int.toNat_natCast]
  rw [aX] at hl
  refine Ev.cbind (du hm) ?_
  have hd := down (P := fun i => ∀ acc : Nat, acc < 256 → Ev (fun k => bD.l0 k (acc : Int) (i : Int) (m : Int) (ints L)) ((d8 acc (L.drop i) : Nat) : Int)) L.length
   (by
    intro acc _
    apply Ev.step
    ·intro k
     simp only [bD.l0]
     rw [if_neg (by rw [aX]; omega)]
    ·rw [cu]; exact Ev.now _)
   (by
    intro i hi ih acc ha
    have hb := hL256 _ (List.getElem_mem hi)
    apply Ev.step
    ·intro k
     simp only [bD.l0]
     rw [if_pos (by rw [aX]; omega), if_pos (by omega), df L i hi, bU hi hl, eY (bu ha) (bu hb), mT ha hb]
    ·rw [bQ L i hi]; exact ih _ (eC ha))
  exact hd (cr m) (ed hm).2
 ·refine Ev.ifn h ?_
  rw [if_neg h]; exact Ev.now _
theorem je (n : Int) (l : List Int) (hl : l.length ≤ 17592186044416) : Ev (fun k => bW.f k n l) (fN n l) := by
 unfold bW.f fN
 refine Ev.bind (ei n l hl) ?_
 by_cases h : matB n l = true
 ·refine Ev.ifp h ?_
  rw [if_pos h]
  obtain ⟨m, L, rfl, hm, rfl, hL, hL256, _, _⟩ := eo h
  rw [show (ints L).map Int.toNat = L from cq L, Int.toNat_natCast]
  rw [aX] at hl
  refine Ev.cbind (eQ hm) ?_
  have hd := down (P := fun i => ∀ acc : Nat, acc < 256 → Ev (fun k => bW.l0 k (acc : Int) (ints L) ((ints L).length : Int) (i : Int)) ((d8 acc (L.drop i) : Nat) : Int)) L.length
   (by
    intro acc _
    apply Ev.step
    ·intro k
     simp only [bW.l0]
     rw [if_neg (by rw [aX]; omega)]
    ·rw [cu]; exact Ev.now _)
   (by
    intro i hi ih acc ha
    have hb := hL256 _ (List.getElem_mem hi)
    apply Ev.step
    ·intro k
     simp only [bW.l0]
     rw [if_pos (by rw [aX]; omega), if_pos (by omega), if_pos (by rw [aX]; omega), df L i hi, bU hi hl, dH (bu ha) (bu hb)]
    ·rw [bQ L i hi]; exact ih _ (eC ha))
  exact hd (cr m) (ed hm).2
 ·refine Ev.ifn h ?_
  rw [if_neg h]; exact Ev.now _
theorem gO (n : Int) (l : List Int) (hl : l.length ≤ 17592186044416) : Ev (fun k => bA.f k n l) (eH n l) := by
 unfold bA.f eH
 refine Ev.bind (eh n l hl) ?_
 by_cases h : matB n l = true
 ·refine Ev.ifp h ?_
  rw [if_pos h]
  obtain ⟨m, L, rfl, hm, rfl, hL, hL256, _, _⟩ := eo h
  rw [show (ints L).map Int.toNat = L from cq L, Int.toNat_natCast]
  rw [aX] at hl
  refine Ev.cbind (du hm) ?_
  have hd := down (P := fun i => ∀ acc : Nat, acc < 256 → Ev (fun k => bA.l0 k (acc : Int) (i : Int) (m : Int) (ints L)) ((dm acc (L.drop i) : Nat) : Int)) L.length
   (by
    intro acc _
    apply Ev.step
    ·intro k
     simp only [bA.l0]
     rw [if_neg (by rw [aX]; omega)]
    ·rw [cu]; exact Ev.now _)
   (by
    intro i hi ih acc ha
    have hb := hL256 _ (List.getElem_mem hi)
    apply Ev.step
    ·intro k
     simp only [bA.l0]
     rw [if_pos (by rw [aX]; omega), if_pos (by omega), df L i hi, bU hi hl, eY (bu ha) (bu hb)]
    ·rw [bQ L i hi]; exact ih _ (jm ha))
  exact hd (cr m) (ed hm).2
 ·refine Ev.ifn h ?_
  rw [if_neg h]; exact Ev.now _
theorem ie (n : Int) (l : List Int) (hl : l.length ≤ 17592186044416) : Ev (fun k => bK.f k n l) (eH n l) := by
 unfold bK.f eH
 refine Ev.bind (ei n l hl) ?_
 by_cases h : matB n l = true
 ·refine Ev.ifp h ?_
  rw [if_pos h]
  obtain ⟨m, L, rfl, hm, rfl, hL, hL256, _, _⟩ := eo h
  rw [show (ints L).map Int.toNat = L from cq L, Int.toNat_natCast]
  rw [aX] at hl
  refine Ev.cbind (eQ hm) ?_
  have hd := down (P := fun i => ∀ acc : Nat, acc < 256 → Ev (fun k => bK.l0 k (acc : Int) (ints L) ((ints L).length : Int) (i : Int)) ((dm acc (L.drop i) : Nat) : Int)) L.length
   (by
    intro acc _
    apply Ev.step
    ·intro k
     simp only [bK.l0]
     rw [if_neg (by rw [aX]; omega)]
    ·rw [cu]; exact Ev.now _)
   (by
    intro i hi ih acc ha
    have hb := hL256 _ (List.getElem_mem hi)
    apply Ev.step
    ·intro k
     simp only [bK.l0]
     rw [if_pos (by rw [aX]; omega), if_pos (by omega), if_pos (by rw [aX]; omega), df L i hi, bU hi hl, eY (bu ha) (bu hb)]
    ·rw [bQ L i hi]; exact ih _ (jm ha))
  exact hd (cr m) (ed hm).2
 ·refine Ev.ifn h ?_
  rw [if_neg h]; exact Ev.now _
theorem jj : ∀ (d x : Nat), x ≤ d → x < 256 → ∀ acc : Int, 0 ≤ acc → acc + (d : Int) ≤ 1000 → Ev (fun k => aY.l0 k (x : Int) acc) (acc + (pc x : Int)) := by
 intro d
 induction d with
 | zero =>
  intro x hx _ acc h0 h1
  obtain rfl : x = 0 := by omega
  apply Ev.step
  ·intro k
   simp only [aY.l0]
   rw [if_neg (by decide)]
  ·rw [pc_zero, show acc + ((0 : Nat) : Int) = acc from by omega]
   exact Ev.now _
 | succ d ih =>
  intro x hx h256 acc h0 h1
  by_cases hz : x = 0
  ·subst hz
   exact ih 0 (by omega) h256 acc h0 (by omega)
  ·have hb : Go.bits .and .i64 (x : Int) 1 = ((x % 2 : Nat) : Int) := by
    have := eY (a := x) (b := 1) (bu h256) (by decide)
    rw [Nat.and_one_is_mod] at this
    exact this
   apply Ev.step
   ·intro k
    simp only [aY.l0]
    rw [if_pos (by omega), hb, be (by omega) (by omega), show (x : Int) / 2 = ((x / 2 : Nat) : Int) from by omega]
   ·have hp := mJ x h256
    have hl := jP (x / 2)
    have := ih (x / 2) (by omega) (by omega) (acc + ((x % 2 : Nat) : Int)) (by omega) (by omega)
    rw [show acc + ((x % 2 : Nat) : Int) + (pc (x / 2) : Int) = acc + (pc x : Int) from by omega] at this
    exact this
theorem dz (s : Nat) (h : s < 256) : Ev (fun k => aY.f k (s : Int)) (pc s : Int) := by
 unfold aY.f
 refine Ev.cbind (specIsSet_eq _ _) (Ev.ifp ?_ ?_)
 ·rw [me, isAnyB_nat]; simpa using h
 ·have := jj s s (Nat.le_refl _) h 0 (by omega) (by omega)
  rw [Int.zero_add] at this
  exact this
theorem l1Max_eq (a b : Int) : bM.f a b = some (max a b) := by
 unfold bM.f
 by_cases h : a > b
 ·rw [if_pos h]; congr 1; omega
 ·rw [if_neg h]; congr 1; omega
theorem jW (n : Int) (L : List Nat) (s : Nat) (hl : L.length ≤ 17592186044416) (hL : ∀ b ∈ L, b < 256) (hs : s < 256) : Ev (fun k => bV.f k n (ints L) (s : Int)) (rkN L s : Int) := by
 have h := down (P := fun i => ∀ acc : Nat, Ev (fun k => bV.l0 k (s : Int) (acc : Int) (i : Int) n (ints L)) ((maxN acc ((L.drop i).map (fun b => pc (b &&& s))) : Nat) : Int)) L.length
  (by
   intro acc
   apply Ev.step
   ·intro k
    simp only [bV.l0]
    rw [if_neg (by rw [aX]; omega)]
   ·rw [cu]; exact Ev.now _)
  (by
   intro i hi ih acc
   have hb := hL _ (List.getElem_mem hi)
   apply Ev.step
   ·intro k
    simp only [bV.l0, l1Max_eq, Option.bind_some]
    rw [if_pos (by rw [aX]; omega), if_pos (by omega), df L i hi, bU hi hl, eY (bu hb) (bu hs)]
   ·refine Ev.bind (dz _ (jm hb)) ?_
    rw [bQ L i hi, List.map_cons, iC]
    have := ih (max acc (pc (L[i] &&& s)))
    rw [show ((max acc (pc (L[i] &&& s)) : Nat) : Int) = max (acc : Int) (pc (L[i] &&& s) : Int) from by omega] at this
    exact this)
 exact h 0
def maxI (s : Int) (l : List Int) : Int := l.foldl max s
theorem maxI_cons (s x : Int) (l : List Int) : maxI s (x :: l) = maxI (max s x) l := rfl
theorem ia {l : List Int} {s s' : Int} (hne : l ≠ []) (h : ∀ x ∈ l, s ≤ x ∧ s' ≤ x) : maxI s l = maxI s' l := by
 cases l with
 | nil => exact absurd rfl hne
 | cons x l =>
  have hx := h x (List.mem_cons_self ..)
  rw [maxI_cons, maxI_cons, show max s x = max s' x from by omega]
def dE (w : List Int) (e : Nat) : List Nat → List Int
 | [] => []
 | b :: bs => if b.testBit e = true then dE w e bs else wS w b :: dE w e bs
def inOf (w : List Int) (e : Nat) : List Nat → List Int
 | [] => []
 | b :: bs => if b.testBit e = true then wS w (dif b (2 ^ e)) :: inOf w e bs else inOf w e bs
theorem iV {w : List Int} {e : Nat} : ∀ {L : List Nat} {x : Int}, x ∈ dE w e L → ∃ b, x = wS w b := by
 intro L
 induction L with
 | nil => intro x h; simp [dE] at h
 | cons b L ih =>
  intro x h
  simp only [dE] at h
  by_cases hb : b.testBit e = true
  ·rw [if_pos hb] at h; exact ih h
  ·rw [if_neg hb] at h
   rcases List.mem_cons.1 h with rfl | h
   ·exact ⟨b, rfl⟩
   ·exact ih h
theorem jt {w : List Int} {e : Nat} : ∀ {L : List Nat} {x : Int}, x ∈ inOf w e L → ∃ b, x = wS w b := by
 intro L
 induction L with
 | nil => intro x h; simp [inOf] at h
 | cons b L ih =>
  intro x h
  simp only [inOf] at h
  by_cases hb : b.testBit e = true
  ·rw [if_pos hb] at h
   rcases List.mem_cons.1 h with rfl | h
   ·exact ⟨_, rfl⟩
   ·exact ih h
  ·rw [if_neg hb] at h; exact ih h
theorem gP {w : List Int} {e b : Nat} : ∀ {L : List Nat}, b ∈ L → b.testBit e = false → dE w e L ≠ [] := by
 intro L
 induction L with
 | nil => intro h; simp at h
 | cons x L ih =>
  intro h hb
  simp only [dE]
  by_cases hx : x.testBit e = true
  ·rw [if_pos hx]
   rcases List.mem_cons.1 h with rfl | h
   ·rw [hb] at hx; cases hx
   ·exact ih h hb
  ·rw [if_neg hx]; simp
theorem iU {w : List Int} {e b : Nat} : ∀ {L : List Nat}, b ∈ L → b.testBit e = true → inOf w e L ≠ [] := by
 intro L
 induction L with
 | nil => intro h; simp at h
 | cons x L ih =>
  intro h hb
  simp only [inOf]
  by_cases hx : x.testBit e = true
  ·rw [if_pos hx]; simp
  ·rw [if_neg hx]
   rcases List.mem_cons.1 h with rfl | h
   ·exact absurd hb hx
   ·exact ih h hb
theorem lT (a b : Int) : mx a b = max a b := by
 unfold mx
 split <;> omega
theorem ko (n : Int) {L : List Nat} {w : List Int} {e : Nat} (hl : L.length ≤ 17592186044416) (hL : ∀ b ∈ L, b < 256) (hw : ∀ x ∈ w, -1000 ≤ x ∧ x ≤ 1000) (he : e < 8) (hel : e < w.length) (hwl : w.length ≤ 17592186044416) (s t : Int) : Ev (fun k => aq.l0 k w (e : Int) s t 0 n (ints L)) (wrap64 (maxI s (dE w e L) - maxI t (inOf w e L)), true) := by
 have hd := down (P := fun i => ∀ s t : Int, Ev (fun k => aq.l0 k w (e : Int) s t (i : Int) n (ints L)) (wrap64 (maxI s (dE w e (L.drop i)) - maxI t (inOf w e (L.drop i))), true)) L.length
  (by
   intro s t
   apply Ev.step
   ·intro k
    simp only [aq.l0]
    rw [if_neg (by rw [aX]; omega)]
   ·rw [cu]; exact Ev.now _)
  (by
   intro i hi ih s t
   have hb := hL _ (List.getElem_mem hi)
   apply Ev.step
   ·intro k
    simp only [aq.l0]
    rw [if_pos (by rw [aX]; omega), if_pos (by omega), df L i hi, bU hi hl, dX (bu hb) (by omega), Option.bind_some]
   ·rw [bQ L i hi]
    simp only [dE, inOf]
    have hev := cv w (L[i] : Int) hwl
    rw [ct hw hb] at hev
    by_cases h : L[i].testBit e = true
    ·rw [if_pos h, if_pos h]
     have h1 := en hw (dif L[i] (2 ^ e))
     have h2 := hO hw e
     have e1 := mq he hel h
     refine Ev.ifp h (Ev.bind hev (Ev.ifp (by omega) (Ev.ifp (by omega) (Ev.cbind (l1Max_eq _ _) ?_))))
     rw [maxI_cons, show wrap64 (wS w L[i] - rd w (e : Int)) = wS w (dif L[i] (2 ^ e)) from by rw [be (by omega) (by omega)]; omega]
     exact ih _ _
    ·rw [if_neg h, if_neg h]
     refine Ev.ifn h (Ev.bind hev (Ev.cbind (l1Max_eq _ _) ?_))
     rw [maxI_cons]
     exact ih _ _)
 exact hd s t
theorem kC {L : List Nat} {w : List Int} {e : Nat} (hl : L.length ≤ 17592186044416) (hL : ∀ b ∈ L, b < 256) (hw : ∀ x ∈ w, -1000 ≤ x ∧ x ≤ 1000) (he : e < 8) (hwl : w.length ≤ 17592186044416) (s t : Int) : Ev (fun k => ai.l0 k w (e : Int) s t (ints L) ((ints L).length : Int) 0) (wrap64 (maxI s (dE w e L) - maxI t (inOf w e L)), true) := by
 have hd := down (P := fun i => ∀ s t : Int, Ev (fun k => ai.l0 k w (e : Int) s t (ints L) ((ints L).length : Int) (i : Int)) (wrap64 (maxI s (dE w e (L.drop i)) - maxI t (inOf w e (L.drop i))), true)) L.length
  (by
   intro s t
   apply Ev.step
   ·intro k
    simp only [ai.l0]
    rw [if_neg (by rw [aX]; omega)]
   ·rw [cu]; exact Ev.now _)
  (by
   intro i hi ih s t
   have hb := hL _ (List.getElem_mem hi)
   have hh : (decide (L[i] < 256) && decide (e < 8) && L[i].testBit e) = L[i].testBit e := by
    rw [show decide (L[i] < 256) = true from decide_eq_true hb, show decide (e < 8) = true from decide_eq_true he, Bool.true_and, Bool.true_and]
   apply Ev.step
   ·intro k
    simp only [ai.l0]
    rw [if_pos (by rw [aX]; omega), if_pos (by omega), if_pos (by rw [aX]; omega), df L i hi, bU hi hl, implHas_eq, hasB_nat, hh, Option.bind_some]
   ·rw [bQ L i hi]
    simp only [dE, inOf]
    by_cases h : L[i].testBit e = true
    ·rw [if_pos h, if_pos h]
     have hd8 := eC (b := 2 ^ e) hb
     have hev := dC w ((dif L[i] (2 ^ e) : Nat) : Int) hwl
     rw [ct hw hd8] at hev
     have hwo : ci.f (L[i] : Int) (e : Int) = some ((dif L[i] (2 ^ e) : Nat) : Int) := by
      have h2 : 2 ^ e < 2 ^ 63 := Nat.pow_lt_pow_right (by omega) (by omega)
      unfold ci.f
      rw [isAny_eq, isAnyB_nat, Option.bind_some, if_pos (by simpa using hb), if_neg (by omega), if_neg (by omega), if_pos (by omega), dV (by omega), dH (bu hb) h2]
     refine Ev.ifp h (Ev.cbind hwo (Ev.bind hev ?_))
     rw [maxI_cons, lT]
     exact ih _ _
    ·rw [if_neg h, if_neg h]
     have hev := dC w (L[i] : Int) hwl
     rw [ct hw hb] at hev
     refine Ev.ifn h (Ev.bind hev ?_)
     rw [maxI_cons, lT]
     exact ih _ _)
 exact hd s t
def thrB (n : Int) (l w : List Int) (e : Int) : Int × Bool := if matB n l = true then (if areW n w = true then (if 0 ≤ e ∧ e < n then (if (d8 (cr n.toNat) (l.map Int.toNat)).testBit e.toNat = true then (0, false) else (if (dm (cr n.toNat) (l.map Int.toNat)).testBit e.toNat = true then (0, false) else (wrap64 (maxI (-8000) (dE w e.toNat (l.map Int.toNat)) - maxI (-8000) (inOf w e.toNat (l.map Int.toNat))), true))) else (0, false)) else (0, false)) else (0, false)
theorem kI (n : Int) (l w : List Int) (e : Int) (he : (Lit.int .i64 e).wf = true) (hl : l.length ≤ 17592186044416) (hwl : w.length ≤ 17592186044416) : Ev (fun k => aq.f k n l w e) (thrB n l w e) := by
 have hfin : ∀ x : Bool, x = true → Ev (fun k => aq.j0 k w e x n l) (0, false) := by
  intro x hx
  apply Ev.step
  ·intro k
   rw [aq.j0]
  ·exact Ev.ifp hx (Ev.now _)
 unfold aq.f thrB
 refine Ev.bind (eh n l hl) ?_
 by_cases h : matB n l = true
 rotate_left
 ·rw [if_neg h]; exact Ev.ifn h (hfin _ rfl)
 rw [if_pos h]
 refine Ev.ifp h (Ev.bind (dp n w hwl) ?_)
 by_cases h2 : areW n w = true
 rotate_left
 ·rw [if_neg h2]; exact Ev.ifn h2 (hfin _ rfl)
 rw [if_pos h2]
 refine Ev.ifp h2 (Ev.cbind (l1In_eq _ _ _) ?_)
 have hlo := jo n l hl
 have hco := gO n l hl
 unfold fN at hlo
 unfold eH at hco
 rw [if_pos h] at hlo hco
 obtain ⟨m, L, rfl, hm, rfl, hL, hL256, _, hne⟩ := eo h
 rw [show (ints L).map Int.toNat = L from cq L, Int.toNat_natCast] at hlo hco ⊢
 rw [aX] at hl
 obtain ⟨hwb, hwn⟩ := cS h2
 rw [be (n := (m : Int) - 1) (by omega) (by omega)]
 by_cases h3 : 0 ≤ e ∧ e < (m : Int)
 rotate_left
 ·rw [if_neg h3]
  refine Ev.ifn ?_ (hfin _ rfl)
  simp only [Bool.and_eq_true, decide_eq_true_eq]
  omega
 rw [if_pos h3]
 refine Ev.ifp (by simp only [Bool.and_eq_true, decide_eq_true_eq]; omega) (Ev.bind hlo ?_)
 obtain ⟨f, rfl⟩ : ∃ f : Nat, e = f := ⟨e.toNat, by omega⟩
 have hf8 : f < 8 := by omega
 have hfl : f < w.length := by omega
 have hz := iJ L (cr m) (ed hm).2
 have hc := f9 L (cr m) (ed hm).2
 refine Ev.cbind (dX (bu hz) (by omega)) ?_
 rw [Int.toNat_natCast]
 by_cases h4 : (d8 (cr m) L).testBit f = true
 ·rw [if_pos h4]; exact Ev.ifp h4 (hfin _ rfl)
 rw [if_neg h4]
 refine Ev.ifn h4 (Ev.bind hco (Ev.cbind (dX (bu hc) (by omega)) ?_))
 by_cases h5 : (dm (cr m) L).testBit f = true
 ·rw [if_pos h5]; exact hfin _ h5
 rw [if_neg h5]
 apply Ev.step
 ·intro k
  rw [aq.j0]
 exact Ev.ifn h5 (ko _ hl hL256 hwb hf8 hfl hwl _ _)
theorem kL (n : Int) (l w : List Int) (e : Int) (he : (Lit.int .i64 e).wf = true) (hl : l.length ≤ 17592186044416) (hwl : w.length ≤ 17592186044416) : Ev (fun k => ai.f k n l w e) (thrB n l w e) := by
 have hfin : ∀ x : Bool, x = true → Ev (fun k => ai.j0 k w e x n l) (0, false) := by
  intro x hx
  apply Ev.step
  ·intro k
   rw [ai.j0]
  ·exact Ev.ifp hx (Ev.now _)
 unfold ai.f thrB
 refine Ev.bind (ei n l hl) ?_
 by_cases h : matB n l = true
 rotate_left
 ·rw [if_neg h]; exact Ev.ifn h (hfin _ rfl)
 rw [if_pos h]
 refine Ev.ifp h (Ev.bind (dq n w hwl) ?_)
 by_cases h2 : areW n w = true
 rotate_left
 ·rw [if_neg h2]; exact Ev.ifn h2 (hfin _ rfl)
 rw [if_pos h2]
 refine Ev.ifp h2 ?_
 have hlo := je n l hl
 have hco := ie n l hl
 unfold fN at hlo
 unfold eH at hco
 rw [if_pos h] at hlo hco
 obtain ⟨m, L, rfl, hm, rfl, hL, hL256, _, hne⟩ := eo h
 rw [show (ints L).map Int.toNat = L from cq L, Int.toNat_natCast] at hlo hco ⊢
 rw [aX] at hl
 obtain ⟨hwb, hwn⟩ := cS h2
 by_cases h0 : e < 0
 ·rw [if_neg (by omega)]
  exact Ev.ifp h0 (hfin _ rfl)
 refine Ev.ifn h0 ?_
 by_cases h1 : e ≥ (m : Int)
 ·rw [if_neg (by omega)]
  exact Ev.ifp h1 (hfin _ rfl)
 refine Ev.ifn h1 (Ev.bind hlo (Ev.bind hco (Ev.cbind (implHas_eq _ _) ?_)))
 rw [if_pos (by omega)]
 obtain ⟨f, rfl⟩ : ∃ f : Nat, e = f := ⟨e.toNat, by omega⟩
 have hf8 : f < 8 := by omega
 have hz := iJ L (cr m) (ed hm).2
 have hc := f9 L (cr m) (ed hm).2
 have hor : d8 (cr m) L ||| dm (cr m) L < 256 := Nat.or_lt_two_pow (n := 8) hz hc
 rw [ij (bu hz) (bu hc), hasB_nat, show decide (d8 (cr m) L ||| dm (cr m) L < 256) = true from decide_eq_true hor, show decide (f < 8) = true from decide_eq_true hf8, Bool.true_and, Bool.true_and, Nat.testBit_or, Int.toNat_natCast]
 by_cases h4 : (d8 (cr m) L).testBit f = true
 ·rw [if_pos h4, h4]; exact hfin _ rfl
 rw [if_neg h4]
 by_cases h5 : (dm (cr m) L).testBit f = true
 ·rw [if_pos h5, h5, Bool.or_true]; exact hfin _ rfl
 rw [if_neg h5, Bool.eq_false_iff.2 h4, Bool.eq_false_iff.2 h5]
 have hfm : decide (f < m) = true := decide_eq_true (by omega)
 rw [g7, full_bit, hfm, Bool.true_and] at h4
 rw [coloopsN_bit, full_bit, hfm, Bool.true_and] at h5
 obtain ⟨b1, hb1, hb1'⟩ : ∃ b ∈ L, b.testBit f = true := by
  refine Classical.byContradiction fun hc => h4 ?_
  rw [List.all_eq_true]
  intro b hb
  cases hx : b.testBit f
  ·rfl
  ·exact absurd ⟨b, hb, hx⟩ hc
 obtain ⟨b2, hb2, hb2'⟩ : ∃ b ∈ L, b.testBit f = false := by
  refine Classical.byContradiction fun hc => h5 ?_
  rw [List.all_eq_true]
  intro b hb
  cases hx : b.testBit f
  ·exact absurd ⟨b, hb, hx⟩ hc
  ·rfl
 rw [ia (s' := -9000) (gP hb2 hb2') (fun x hx => by obtain ⟨b, rfl⟩ := iV hx; have := en hwb b; omega)]
 rw [ia (s := -8000) (s' := -9000) (iU hb1 hb1') (fun x hx => by obtain ⟨b, rfl⟩ := jt hx; have := en hwb b; omega)]
 apply Ev.step
 ·intro k
  rw [ai.j0]
 exact Ev.ifn (by simp) (kC hl hL256 hwb hf8 hwl _ _)
set_option maxRecDepth 100000 in
theorem nf : ∀ s < 256, cH.f ((s : Nat) : Int) = some ((pc s : Nat) : Int) := by decide +kernel
theorem ja (s : Nat) (h : s < 256) : cM.f (s : Int) = some (pc s : Int) := by
 unfold cM.f
 rw [isAny_eq, Option.bind_some, if_pos (by rw [isAnyB_nat]; simpa using h), fw (by omega) (by omega)]
 unfold dr.f
 rw [nf s h]
 rfl
end Go.Proofs.YtimkekeaeojpkaaGreat.Q
namespace Go.Proofs.YtimkekeaeojpkaaGreat.Q
open Go Go.RowKit Go.Proofs.YtimkekeaeojpkaaGreatW.PrintWords Go.Proofs.YtimkekeaeojpkaaGreatW.PrintLast Go.Proofs.YtimkekeaeojpkaaGreatW.PrintMore Go.Proofs.YtimkekeaeojpkaaGreat.Z
set_option linter.unusedVariables false
set_option linter.unusedSimpArgs false
theorem io {L : List Nat} {b : Nat} (hb : b ∈ L) (s : Nat) : pc (b &&& s) ≤ rkN L s := jN _ 0 _ (List.mem_map.2 ⟨b, hb, rfl⟩)
theorem fV {L : List Nat} (hne : L ≠ []) (s : Nat) : ∃ b ∈ L, pc (b &&& s) = rkN L s := by
 rcases fx (L.map (fun b => pc (b &&& s))) 0 with h | h
 ·obtain ⟨b, hb⟩ := List.exists_mem_of_ne_nil L hne
  have := io hb s
  refine ⟨b, hb, ?_⟩
  unfold rkN at this ⊢
  omega
 ·obtain ⟨b, hb, e⟩ := List.mem_map.1 h
  exact ⟨b, hb, e⟩
theorem gy {L : List Nat} (hne : L ≠ []) {X Y : Nat} (h : ∀ i, X.testBit i = true → Y.testBit i = true) : rkN L X ≤ rkN L Y := by
 obtain ⟨b, hb, e⟩ := fV hne X
 rw [← e]
 refine Nat.le_trans (dM fun i _ hi => ?_) (io hb Y)
 rw [Nat.testBit_and, Bool.and_eq_true] at hi ⊢
 exact ⟨hi.1, h i hi.2⟩
theorem Mat.both_step {m : Nat} {L : List Nat} (h : Mat m L) {S T c : Nat} (hST : ∀ i, S.testBit i = true → T.testBit i = true) (hc : c ∈ L) (hcT : pc (c &&& T) = rkN L T) : ∀ (d b : Nat), b ∈ L → pc (b &&& S) = rkN L S → pc (dif b c) = d → ∃ b ∈ L, pc (b &&& S) = rkN L S ∧ pc (b &&& T) = rkN L T := by
 intro d
 induction d with
 | zero =>
  intro b hb hS hd
  refine ⟨b, hb, hS, Nat.le_antisymm (io hb T) ?_⟩
  rw [← hcT]
  have hcard := h.card hb hc
  refine dM fun i hi hbi => ?_
  rw [Nat.testBit_and, Bool.and_eq_true] at hbi ⊢
  refine ⟨?_, hbi.2⟩
  cases hb' : b.testBit i
  ·have h1 : pc b < pc c := by
    have e1 := dv c (2 ^ i)
    have hle : pc b ≤ pc (dif c (2 ^ i)) := dM fun j hj hbj => by
     rw [del_bit]
     have : c.testBit j = true := by
      cases hcj : c.testBit j
      ·have : 0 < pc (dif b c) := jp hj (by rw [dif_bit, hbj, hcj]; rfl)
       omega
      ·rfl
     rw [this]
     have hne : ¬ i = j := by rintro rfl; rw [hb'] at hbj; cases hbj
     simp [hne]
    have := eU hi hbi.1
    omega
   omega
  ·rfl
 | succ d ih =>
  intro b hb hS hd
  by_cases hT : pc (b &&& T) = rkN L T
  ·exact ⟨b, hb, hS, hT⟩
  ·have hlt : pc (b &&& T) < pc (c &&& T) := by
    have := io hb T
    omega
   have hcard := h.card hb hc
   have e1 := dv b T
   have e2 := dv c T
   obtain ⟨e, he, hbe, hce⟩ := gT (a := dif c T) (b := dif b T) (by omega)
   rw [dif_bit, Bool.and_eq_true, Bool.not_eq_true'] at hbe
   have hce' : c.testBit e = false := by
    rw [dif_bit, hbe.2] at hce
    simpa using hce
   obtain ⟨f, hf, h1, h2, hm⟩ := h.exch b hb c hc e he hbe.1 hce'
   refine ih (swp b e f) hm ?_ ?_
   ·refine Nat.le_antisymm (io hm S) ?_
    rw [← hS]
    refine dM fun i _ hi => ?_
    rw [Nat.testBit_and, Bool.and_eq_true] at hi ⊢
    refine ⟨?_, hi.2⟩
    have hie : ¬ e = i := by rintro rfl; have := hST _ hi.2; rw [hbe.2] at this; cases this
    rw [swp_bit, hi.1]
    simp [hie]
   ·have e3 : dif (swp b e f) c = dif (dif b c) (2 ^ e) := by
     apply Nat.eq_of_testBit_eq
     intro i
     rw [dif_bit, swp_bit, del_bit, dif_bit]
     by_cases hi : f = i
     ·subst hi; rw [h1, h2]; simp
     ·simp [hi]
      cases b.testBit i <;> cases c.testBit i <;> simp
    rw [e3]
    have := eU (a := dif b c) he (by rw [dif_bit, hbe.1, hce']; rfl)
    omega
theorem Mat.both {m : Nat} {L : List Nat} (h : Mat m L) {S T : Nat} (hST : ∀ i, S.testBit i = true → T.testBit i = true) : ∃ b ∈ L, pc (b &&& S) = rkN L S ∧ pc (b &&& T) = rkN L T := by
 obtain ⟨c, hc, hcT⟩ := fV h.some T
 obtain ⟨b, hb, hbS⟩ := fV h.some S
 exact Mat.both_step h hST hc hcT _ b hb hbS rfl
theorem Mat.rk_sub {m : Nat} {L : List Nat} (h : Mat m L) (X Y : Nat) : rkN L (X ||| Y) + rkN L (X &&& Y) ≤ rkN L X + rkN L Y := by
 obtain ⟨b, hb, h1, h2⟩ := Mat.both h (S := X &&& Y) (T := X ||| Y) (fun i hi => by rw [Nat.testBit_and, Bool.and_eq_true] at hi; rw [Nat.testBit_or, hi.1]; rfl)
 have e := fP (b &&& X) (b &&& Y)
 have e1 : (b &&& X) ||| (b &&& Y) = b &&& (X ||| Y) := by
  apply Nat.eq_of_testBit_eq
  intro i
  simp only [Nat.testBit_or, Nat.testBit_and]
  cases b.testBit i <;> cases X.testBit i <;> cases Y.testBit i <;> rfl
 have e2 : (b &&& X) &&& (b &&& Y) = b &&& (X &&& Y) := by
  apply Nat.eq_of_testBit_eq
  intro i
  simp only [Nat.testBit_and]
  cases b.testBit i <;> cases X.testBit i <;> cases Y.testBit i <;> rfl
 rw [e1, e2, h1, h2] at e
 have k1 := io hb X
 have k2 := io hb Y
 omega
theorem mK {m A i : Nat} (h : A < 2 ^ m) (hi : m ≤ i) : A.testBit i = false := Nat.testBit_lt_two_pow (Nat.lt_of_lt_of_le h (Nat.pow_le_pow_right (by omega) hi))
theorem iY {m a b : Nat} (ha : a < 2 ^ m) (hb : b < 2 ^ m) : a ||| b < 2 ^ m := Nat.or_lt_two_pow ha hb
theorem fR {m s i : Nat} (hs : s < 2 ^ m) (h : s.testBit i = true) : i < m := by
 refine Classical.byContradiction fun hc => ?_
 rw [mK hs (by omega)] at h; cases h
theorem dg {m i : Nat} (h : i < m) : 2 ^ i < 2 ^ m := Nat.pow_lt_pow_right (by omega) h
structure Ind (m : Nat) (I : Nat → Prop) : Prop where
 size : m ≤ 8
 sets : ∀ s, I s → s < 2 ^ m
 zero : I 0
 down : ∀ s t, I t → subN s t → I s
 aug : ∀ a b, I a → I b → pc a < pc b → ∃ e, e < 8 ∧ b.testBit e = true ∧ a.testBit e = false ∧ I (a ||| 2 ^ e)
def orL (a : Nat) : List Nat → Nat
 | [] => a
 | e :: es => orL a es ||| 2 ^ e
theorem orL_bit (a i : Nat) : ∀ es : List Nat, (orL a es).testBit i = (a.testBit i || decide (i ∈ es)) := by
 intro es
 induction es with
 | nil => simp [orL]
 | cons e es ih =>
  simp only [orL]
  rw [add_bit, ih]
  by_cases h : e = i
  ·subst h; simp
  ·have : ¬ i = e := fun x => h x.symm
   simp [h, this]
theorem Mat.aug {m : Nat} {L : List Nat} (h : Mat m L) {a b : Nat} (ha : indN L a = true) (hb : indN L b = true) (hlt : pc a < pc b) : ∃ e, e < 8 ∧ b.testBit e = true ∧ a.testBit e = false ∧ indN L (a ||| 2 ^ e) = true := by
 refine Classical.byContradiction fun hc => ?_
 have hlt256 : ∀ s, indN L s = true → s < 256 := fun s hs => by
  obtain ⟨x, hx, hsub⟩ := indN_iff.1 hs
  exact Nat.lt_of_le_of_lt (gC hsub) (h.lt x hx)
 have ra := (eZ (hlt256 a ha) h.some).2 ha
 have rb := (eZ (hlt256 b hb) h.some).2 hb
 have h1 : ∀ e, e < 8 → b.testBit e = true → rkN L (a ||| 2 ^ e) ≤ rkN L a := by
  intro e he hbe
  cases hae : a.testBit e
  ·have hn : ¬ indN L (a ||| 2 ^ e) = true := fun x => hc ⟨e, he, hbe, hae, x⟩
   have hl : a ||| 2 ^ e < 256 := Nat.or_lt_two_pow (n := 8) (hlt256 a ha) (dg he)
   have hne := mt (eZ hl h.some).1 hn
   have hle := my L (a ||| 2 ^ e)
   rw [eK he hae] at hle hne
   omega
  ·refine gy h.some fun i hi => ?_
   rw [add_bit, Bool.or_eq_true] at hi
   rcases hi with hi | hi
   ·exact hi
   ·rw [← of_decide_eq_true hi]; exact hae
 have h2 : ∀ es : List Nat, (∀ e ∈ es, e < 8 ∧ b.testBit e = true) → rkN L (orL a es) ≤ rkN L a := by
  intro es
  induction es with
  | nil => intro _; exact Nat.le_refl _
  | cons e es ih =>
   intro hes
   have ih' := ih (fun x hx => hes x (List.mem_cons_of_mem _ hx))
   have he := hes e (List.mem_cons_self ..)
   have hs := Mat.rk_sub h (orL a es) (a ||| 2 ^ e)
   have k1 : rkN L a ≤ rkN L (orL a es &&& (a ||| 2 ^ e)) := gy h.some fun i hi => by
    rw [Nat.testBit_and, orL_bit, add_bit, hi]; rfl
   have k2 : rkN L (orL a es ||| 2 ^ e) ≤ rkN L (orL a es ||| (a ||| 2 ^ e)) := gy h.some fun i hi => by
    rw [Nat.testBit_or, Bool.or_eq_true] at hi ⊢
    rcases hi with hi | hi
    ·exact .inl hi
    ·right; rw [Nat.testBit_or, hi, Bool.or_true]
   have k3 := h1 e he.1 he.2
   simp only [orL]
   omega
 have h3 := h2 (els b) (fun e he => ec.1 he)
 have h4 : rkN L b ≤ rkN L (orL a (els b)) := gy h.some fun i hi => by
  rw [orL_bit, Bool.or_eq_true]
  right
  refine decide_eq_true (ec.2 ⟨?_, hi⟩)
  refine Classical.byContradiction fun hc => ?_
  rw [kr (hlt256 b hb) hc] at hi; cases hi
 omega
theorem Mat.ind {m : Nat} {L : List Nat} (h : Mat m L) : Ind m (fun s => indN L s = true) := by
 refine ⟨h.size, ?_, ?_, ?_, ?_⟩
 ·intro s hs
  obtain ⟨x, hx, hsub⟩ := indN_iff.1 hs
  exact Nat.lt_of_le_of_lt (gC hsub) (h.sets x hx)
 ·obtain ⟨x, hx⟩ := List.exists_mem_of_ne_nil L h.some
  exact indN_iff.2 ⟨x, hx, lF x⟩
 ·intro s t ht hst
  obtain ⟨x, hx, hsub⟩ := indN_iff.1 ht
  exact indN_iff.2 ⟨x, hx, fj hst hsub⟩
 ·intro a b ha hb hlt
  exact Mat.aug h ha hb hlt
variable {m : Nat} {I : Nat → Prop}
theorem Ind.lt (h : Ind m I) {s : Nat} (hs : I s) : s < 256 := Nat.lt_of_lt_of_le (h.sets s hs) (cj h.size)
theorem Ind.max (h : Ind m I) : ∃ r, (∃ b, I b ∧ pc b = r) ∧ ∀ s, I s → pc s ≤ r := by
 have key : ∀ d b, I b → 8 - pc b ≤ d → ∃ r, (∃ b, I b ∧ pc b = r) ∧ ∀ s, I s → pc s ≤ r := by
  intro d
  induction d with
  | zero =>
   intro b hb hd
   refine ⟨pc b, ⟨b, hb, rfl⟩, fun s _ => ?_⟩
   have := jP s
   have := jP b
   omega
  | succ d ih =>
   intro b hb hd
   by_cases hx : ∃ s, I s ∧ pc b < pc s
   ·obtain ⟨s, hs, hlt⟩ := hx
    exact ih s hs (by omega)
   ·refine ⟨pc b, ⟨b, hb, rfl⟩, fun s hs => ?_⟩
    have : ¬ pc b < pc s := fun hl => hx ⟨s, hs, hl⟩
    omega
 exact key 8 0 h.zero (by omega)
theorem Ind.indN_iff (h : Ind m I) {L : List Nat} {r : Nat} (hL : ∀ b, b ∈ L ↔ I b ∧ pc b = r) (hne : ∃ b, I b ∧ pc b = r) (hmax : ∀ s, I s → pc s ≤ r) (s : Nat) : indN L s = true ↔ I s := by
 constructor
 ·intro hs
  obtain ⟨x, hx, hsub⟩ := Z.indN_iff.1 hs
  exact h.down s x ((hL x).1 hx).1 hsub
 ·obtain ⟨b, ib, pb⟩ := hne
  have key : ∀ d s, I s → r - pc s ≤ d → ∃ x, x ∈ L ∧ subN s x := by
   intro d
   induction d with
   | zero =>
    intro s hs hd
    have := hmax s hs
    exact ⟨s, (hL s).2 ⟨hs, by omega⟩, ee s⟩
   | succ d ih =>
    intro s hs hd
    by_cases he : pc s = r
    ·exact ⟨s, (hL s).2 ⟨hs, he⟩, ee s⟩
    ·have := hmax s hs
     obtain ⟨e, he8, h1, h2, h3⟩ := h.aug s b hs ib (by omega)
     obtain ⟨x, hx, hsub⟩ := ih _ h3 (by rw [eK he8 h2]; omega)
     refine ⟨x, hx, fj (b8.2 fun i hi => ?_) hsub⟩
     rw [add_bit, hi, Bool.true_or]
  intro hs
  obtain ⟨x, hx, hsub⟩ := key _ s hs (Nat.le_refl _)
  exact Z.indN_iff.2 ⟨x, hx, hsub⟩
theorem gX {x y : Nat} (h : x &&& y = 0) : pc (x ||| y) = pc x + pc y := by
 have := fP x y
 rw [h, pc_zero] at this
 omega
theorem mb {x y i : Nat} (h : x &&& y = 0) (hx : x.testBit i = true) : y.testBit i = false := by
 have := congrArg (fun z => Nat.testBit z i) h
 simp only [Nat.testBit_and, hx, Bool.true_and, Nat.zero_testBit] at this
 exact this
def One (S s : Nat) : Prop := s = 0 ∨ ∃ e, e < 8 ∧ S.testBit e = true ∧ s = 2 ^ e
theorem Ind.one {S : Nat} (hm : m ≤ 8) (hS : S < 2 ^ m) : Ind m (One S) := by
 refine ⟨hm, ?_, .inl rfl, ?_, ?_⟩
 ·rintro s (rfl | ⟨e, he, h1, rfl⟩)
  ·exact Nat.two_pow_pos _
  ·exact dg (fR hS h1)
 ·rintro s t (rfl | ⟨e, he, h1, rfl⟩) hst
  ·left
   have := gC hst
   omega
  ·cases hb : s.testBit e
   ·left
    apply Nat.eq_of_testBit_eq
    intro i
    rw [Nat.zero_testBit]
    cases hi : s.testBit i
    ·rfl
    ·have := b8.1 hst i hi
     rw [Nat.testBit_two_pow] at this
     rw [of_decide_eq_true this, hi] at hb; cases hb
   ·right
    refine ⟨e, he, h1, ?_⟩
    apply Nat.eq_of_testBit_eq
    intro i
    rw [Nat.testBit_two_pow]
    by_cases hi : e = i
    ·subst hi; rw [hb]; simp
    ·rw [decide_eq_false hi]
     cases hs : s.testBit i
     ·rfl
     ·have := b8.1 hst i hs
      rw [Nat.testBit_two_pow] at this
      exact absurd (of_decide_eq_true this) hi
 ·rintro a b (rfl | ⟨e, he, h1, rfl⟩) hb hlt
  ·rcases hb with rfl | ⟨f, hf, h2, rfl⟩
   ·omega
   ·exact ⟨f, hf, by rw [Nat.testBit_two_pow]; simp, Nat.zero_testBit _, by rw [Nat.zero_or]; exact .inr ⟨f, hf, h2, rfl⟩⟩
  ·rw [il he] at hlt
   rcases hb with rfl | ⟨f, hf, h2, rfl⟩
   ·rw [pc_zero] at hlt; omega
   ·rw [il hf] at hlt; omega
def Few (m : Nat) (ps : List (Nat × Nat)) (s : Nat) : Prop := s < 2 ^ m ∧ ∀ p ∈ ps, pc (p.1 &&& s) ≤ p.2
def orF : List (Nat × Nat) → Nat
 | [] => 0
 | p :: ps => p.1 ||| orF ps
theorem kY (i : Nat) : ∀ ps : List (Nat × Nat), (orF ps).testBit i = true ↔ ∃ p ∈ ps, p.1.testBit i = true := by
 intro ps
 induction ps with
 | nil => simp [orF]
 | cons p ps ih => simp only [orF]; rw [Nat.testBit_or, Bool.or_eq_true, ih]; simp
theorem ni {a b : Nat} : ∀ ps : List (Nat × Nat), ps.Pairwise (fun p q => p.1 &&& q.1 = 0) → (∀ p ∈ ps, pc (p.1 &&& b) ≤ pc (p.1 &&& a)) → pc (orF ps &&& b) ≤ pc (orF ps &&& a) := by
 intro ps
 induction ps with
 | nil => intro _ _; simp [orF]
 | cons p ps ih =>
  intro hp h
  rw [List.pairwise_cons] at hp
  have hd : ∀ x : Nat, (p.1 &&& x) &&& (orF ps &&& x) = 0 := by
   intro x
   apply Nat.eq_of_testBit_eq
   intro i
   simp only [Nat.testBit_and, Nat.zero_testBit]
   cases h1 : p.1.testBit i
   ·simp
   ·cases h2 : (orF ps).testBit i
    ·simp
    ·obtain ⟨q, hq, hqi⟩ := (kY i ps).1 h2
     have := mb (hp.1 q hq) h1
     rw [this] at hqi; cases hqi
  have e : ∀ x : Nat, orF (p :: ps) &&& x = (p.1 &&& x) ||| (orF ps &&& x) := by
   intro x
   apply Nat.eq_of_testBit_eq
   intro i
   simp only [orF, Nat.testBit_and, Nat.testBit_or]
   cases p.1.testBit i <;> cases (orF ps).testBit i <;> cases x.testBit i <;> rfl
  rw [e, e, gX (hd _), gX (hd _)]
  have h1 := h p (List.mem_cons_self ..)
  have h2 := ih hp.2 (fun q hq => h q (List.mem_cons_of_mem _ hq))
  omega
theorem Ind.few (hm : m ≤ 8) {ps : List (Nat × Nat)} (hp : ps.Pairwise (fun p q => p.1 &&& q.1 = 0)) : Ind m (Few m ps) := by
 refine ⟨hm, fun s hs => hs.1, ⟨Nat.two_pow_pos _, fun p _ => by rw [Nat.and_zero, pc_zero]; exact Nat.zero_le _⟩, ?_, ?_⟩
 ·intro s t ht hst
  refine ⟨Nat.lt_of_le_of_lt (gC hst) ht.1, fun p hpm => Nat.le_trans (dM fun i _ hi => ?_) (ht.2 p hpm)⟩
  rw [Nat.testBit_and, Bool.and_eq_true] at hi ⊢
  exact ⟨hi.1, b8.1 hst i hi.2⟩
 ·intro a b ha hb hlt
  refine Classical.byContradiction fun hc => ?_
  let qs := ps.filter (fun p => decide (p.2 ≤ pc (p.1 &&& a)))
  have hq : pc (orF qs &&& b) ≤ pc (orF qs &&& a) := ni qs (List.Pairwise.filter _ hp) (fun p hpm => by
   have hm := List.mem_filter.1 hpm
   have := hb.2 p hm.1
   have h2 := of_decide_eq_true hm.2
   omega)
  have hin : ∀ e, e < 8 → b.testBit e = true → a.testBit e = false → (orF qs).testBit e = true := by
   intro e he hbe hae
   refine Classical.byContradiction fun hn => hc ⟨e, he, hbe, hae, ?_, ?_⟩
   ·exact iY ha.1 (dg (fR hb.1 hbe))
   ·intro p hpm
    by_cases hpe : p.1.testBit e = true
    ·have : ¬ p.2 ≤ pc (p.1 &&& a) := fun hle => hn ((kY e qs).2 ⟨p, List.mem_filter.2 ⟨hpm, decide_eq_true hle⟩, hpe⟩)
     have k : p.1 &&& (a ||| 2 ^ e) = (p.1 &&& a) ||| 2 ^ e := by
      apply Nat.eq_of_testBit_eq
      intro i
      rw [Nat.testBit_and, add_bit, add_bit, Nat.testBit_and]
      by_cases hi : e = i
      ·subst hi; rw [hpe]; simp
      ·simp [hi]
     rw [k, eK he (by rw [Nat.testBit_and, hae, Bool.and_false])]
     omega
    ·have k : p.1 &&& (a ||| 2 ^ e) = p.1 &&& a := by
      apply Nat.eq_of_testBit_eq
      intro i
      rw [Nat.testBit_and, add_bit, Nat.testBit_and]
      by_cases hi : e = i
      ·subst hi; rw [Bool.eq_false_iff.2 hpe]; simp
      ·simp [hi]
     rw [k]; exact ha.2 p hpm
  have e1 := dv b (orF qs)
  have e2 := dv a (orF qs)
  rw [Nat.and_comm] at e1 e2
  have e3 : pc (dif b (orF qs)) ≤ pc (dif a (orF qs)) := dM fun i hi hbi => by
   rw [dif_bit, Bool.and_eq_true, Bool.not_eq_true'] at hbi ⊢
   refine ⟨?_, hbi.2⟩
   cases hai : a.testBit i
   ·rw [hin i hi hbi.1 hai] at hbi; exact absurd hbi.2 (by decide)
   ·rfl
  omega
def bG (p : Nat → Bool) (s : Nat) : List Nat → List Nat
 | [] => []
 | e :: es => if p (s ||| 2 ^ e) = true then e :: bG p (s ||| 2 ^ e) es else bG p s es
theorem fQ (s e : Nat) (es : List Nat) : orL s (e :: es) = orL (s ||| 2 ^ e) es := by
 apply Nat.eq_of_testBit_eq
 intro i
 rw [orL_bit, orL_bit, add_bit]
 by_cases h : e = i
 ·subst h; simp
 ·have : ¬ i = e := fun x => h x.symm
  simp [h, this]
def wsum (f : Nat → Int) (s : Nat) : Int := ((List.range 8).map (fun i => if s.testBit i = true then f i else 0)).sum
theorem fL (f : Nat → Int) {s e : Nat} (he : e < 8) (h : s.testBit e = false) : wsum f (s ||| 2 ^ e) = wsum f s + f e := by
 unfold wsum
 have k := isum_one e (f e) 8
 rw [if_pos he] at k
 rw [← k, ← isum_add]
 congr 1
 apply List.map_congr_left
 intro i _
 rw [add_bit]
 by_cases hi : e = i
 ·subst hi; rw [h]; simp
 ·have : ¬ i = e := fun x => hi x.symm
  simp [hi, this]
theorem gL (f : Nat → Int) {s e : Nat} (he : e < 8) (h : s.testBit e = true) : wsum f s = wsum f (dif s (2 ^ e)) + f e := by
 have k := fL f (s := dif s (2 ^ e)) he (by rw [del_bit, h]; simp)
 rw [← k]
 congr 1
 apply Nat.eq_of_testBit_eq
 intro i
 rw [add_bit, del_bit]
 by_cases hi : e = i
 ·subst hi; rw [h]; simp
 ·simp [hi]
theorem e5 (w : List Int) (s : Nat) : wS w s = wsum (fun i => rd w (i : Int)) s := by
 unfold wS wsum
 congr 1
 apply List.map_congr_left
 intro i _
 unfold wOf
 by_cases hb : s.testBit i = true
 ·rw [if_pos hb]
  by_cases hl : i < w.length
  ·rw [if_pos (by simp [hb, hl])]
  ·rw [if_neg (by simp [hl])]
   show 0 = rd w (i : Int)
   rw [mi]
   rw [List.getD, List.getElem?_eq_none (Nat.le_of_not_lt hl)]; rfl
 ·rw [if_neg hb, if_neg (by simp [hb])]
theorem ne (f : Nat → Int) : ∀ (l : List Nat), l ≠ [] → ∃ j ∈ l, ∀ e ∈ l, f j ≤ f e := by
 intro l
 induction l with
 | nil => intro h; exact absurd rfl h
 | cons x l ih =>
  intro _
  by_cases hl : l = []
  ·subst hl; exact ⟨x, List.mem_cons_self .., fun e he => by simp at he; subst he; omega⟩
  ·obtain ⟨j, hj, hm⟩ := ih hl
   by_cases hx : f x ≤ f j
   ·refine ⟨x, List.mem_cons_self .., fun e he => ?_⟩
    rcases List.mem_cons.1 he with rfl | he
    ·omega
    ·have := hm e he; omega
   ·refine ⟨j, List.mem_cons_of_mem _ hj, fun e he => ?_⟩
    rcases List.mem_cons.1 he with rfl | he
    ·omega
    ·exact hm e he
variable {m : Nat} {I : Nat → Prop} {p : Nat → Bool}
theorem jD (hI : Ind m I) (hp : ∀ s, p s = true ↔ I s) (f : Nat → Int) : ∀ (es : List Nat) (s : Nat), I s → es.Nodup → (∀ e ∈ es, e < 8 ∧ s.testBit e = false) → (∀ j, j < 8 → s.testBit j = false → I (s ||| 2 ^ j) → j ∈ es) → es.Pairwise (fun a b => f b ≤ f a) →
  (∀ e ∈ bG p s es, e ∈ es) ∧ (bG p s es).Nodup ∧ (∀ i, I (orL s ((bG p s es).take i))) ∧ (∀ i (h : i < (bG p s es).length), ∀ j, j < 8 → (orL s ((bG p s es).take i)).testBit j = false → I (orL s ((bG p s es).take i) ||| 2 ^ j) → f j ≤ f ((bG p s es)[i])) ∧ (∀ j, j < 8 → (orL s (bG p s es)).testBit j = false → ¬ I (orL s (bG p s es) ||| 2 ^ j)) := by
 intro es
 induction es with
 | nil =>
  intro s hs _ _ hex _
  simp only [bG]
  refine ⟨fun e he => he, List.nodup_nil, fun i => by rw [List.take_nil]; exact hs, fun i h => absurd h (Nat.not_lt_zero _), fun j hj hb hi => ?_⟩
  have := hex j hj hb hi
  simp at this
 | cons e es ih =>
  intro s hs hnd hes hex hsort
  rw [List.nodup_cons] at hnd
  rw [List.pairwise_cons] at hsort
  have he := hes e (List.mem_cons_self ..)
  by_cases hpe : p (s ||| 2 ^ e) = true
  ·have hIe := (hp _).1 hpe
   obtain ⟨r1, r2, r3, r4, r5⟩ := ih (s ||| 2 ^ e) hIe hnd.2 (fun x hx => by
     refine ⟨(hes x (List.mem_cons_of_mem _ hx)).1, ?_⟩
     rw [add_bit, (hes x (List.mem_cons_of_mem _ hx)).2]
     have : ¬ e = x := by rintro rfl; exact hnd.1 hx
     simp [this]) (fun j hj hb hi => by
     rw [add_bit, Bool.or_eq_false_iff] at hb
     have h1 := hex j hj hb.1 (hI.down _ _ hi (b8.2 fun i hx => by
      rw [add_bit, Bool.or_eq_true] at hx
      rw [add_bit, add_bit, Bool.or_eq_true, Bool.or_eq_true]
      exact hx.elim (fun y => .inl (.inl y)) .inr))
     rcases List.mem_cons.1 h1 with rfl | h1
     ·have := hb.2; simp at this
     ·exact h1) hsort.2
   have hg : bG p s (e :: es) = e :: bG p (s ||| 2 ^ e) es := by simp only [bG]; rw [if_pos hpe]
   rw [hg]
   refine ⟨?_, ?_, ?_, ?_, ?_⟩
   ·intro x hx
    rcases List.mem_cons.1 hx with rfl | hx
    ·exact List.mem_cons_self ..
    ·exact List.mem_cons_of_mem _ (r1 x hx)
   ·rw [List.nodup_cons]
    exact ⟨fun hx => hnd.1 (r1 e hx), r2⟩
   ·intro i
    cases i with
    | zero => rw [List.take_zero]; exact hs
    | succ i => rw [List.take_succ_cons, fQ]; exact r3 i
   ·intro i h j hj hb hi
    cases i with
    | zero =>
     rw [List.take_zero] at hb hi
     rw [List.getElem_cons_zero]
     rcases List.mem_cons.1 (hex j hj hb hi) with rfl | h1
     ·exact Int.le_refl _
     ·exact hsort.1 j h1
    | succ i =>
     rw [List.take_succ_cons, fQ] at hb hi
     rw [List.getElem_cons_succ]
     exact r4 i (by simpa using h) j hj hb hi
   ·intro j hj hb
    rw [fQ] at hb ⊢
    exact r5 j hj hb
  ·have hg : bG p s (e :: es) = bG p s es := by simp only [bG]; rw [if_neg hpe]
   rw [hg]
   obtain ⟨r1, r2, r3, r4, r5⟩ := ih s hs hnd.2 (fun x hx => hes x (List.mem_cons_of_mem _ hx)) (fun j hj hb hi => by
     rcases List.mem_cons.1 (hex j hj hb hi) with rfl | h1
     ·exact absurd ((hp _).2 hi) hpe
     ·exact h1) hsort.2
   exact ⟨fun x hx => List.mem_cons_of_mem _ (r1 x hx), r2, r3, r4, r5⟩
theorem kH : ∀ (T : List Nat), T.Nodup → (∀ e ∈ T, e < 8) → pc (orL 0 T) = T.length := by
 intro T
 induction T with
 | nil => intro _ _; exact pc_zero
 | cons e T ih =>
  intro hnd h8
  rw [List.nodup_cons] at hnd
  simp only [orL]
  rw [eK (h8 e (List.mem_cons_self ..)) (by rw [orL_bit]; simp [hnd.1]), ih hnd.2 (fun x hx => h8 x (List.mem_cons_of_mem _ hx)), List.length_cons]
theorem orL_snoc (s e : Nat) (T : List Nat) : orL s (T ++ [e]) = orL s T ||| 2 ^ e := by
 apply Nat.eq_of_testBit_eq
 intro i
 rw [orL_bit, add_bit, orL_bit]
 by_cases h : e = i
 ·subst h; simp
 ·have : ¬ i = e := fun x => h x.symm
  simp [h, this]
structure mr (m : Nat) (f : Nat → Int) (es : List Nat) : Prop where
 nodup : es.Nodup
 mem : ∀ e, e ∈ es ↔ e < m
 fall : es.Pairwise (fun a b => f b ≤ f a)
theorem gN (hI : Ind m I) (hp : ∀ s, p s = true ↔ I s) {f : Nat → Int} {es : List Nat} (ho : mr m f es) :
  (∀ e ∈ bG p 0 es, e < m) ∧ (bG p 0 es).Nodup ∧ (∀ i, I (orL 0 ((bG p 0 es).take i))) ∧ (∀ i (h : i < (bG p 0 es).length), ∀ j, j < 8 → (orL 0 ((bG p 0 es).take i)).testBit j = false → I (orL 0 ((bG p 0 es).take i) ||| 2 ^ j) → f j ≤ f ((bG p 0 es)[i])) ∧ (∀ j, j < 8 → (orL 0 (bG p 0 es)).testBit j = false → ¬ I (orL 0 (bG p 0 es) ||| 2 ^ j)) := by
 have hm := hI.size
 obtain ⟨r1, r2, r3, r4, r5⟩ := jD hI hp f es 0 hI.zero ho.nodup (fun e he => ⟨by have := (ho.mem e).1 he; omega, Nat.zero_testBit _⟩) (fun j hj _ hi => (ho.mem j).2 (fR (hI.sets _ hi) (by rw [add_bit]; simp))) ho.fall
 exact ⟨fun e he => (ho.mem e).1 (r1 e he), r2, r3, r4, r5⟩
theorem jM (hI : Ind m I) (hp : ∀ s, p s = true ↔ I s) {f : Nat → Int} {es : List Nat} (ho : mr m f es) : ∀ (k J : Nat), I J → pc J = k → k ≤ (bG p 0 es).length ∧ wsum f J ≤ wsum f (orL 0 ((bG p 0 es).take k)) := by
 have hm := hI.size
 obtain ⟨r1, r2, r3, r4, r5⟩ := gN hI hp ho
 intro k
 induction k with
 | zero =>
  intro J hJ hk
  have := (jz (hI.lt hJ)).1 hk
  subst this
  rw [List.take_zero]
  exact ⟨Nat.zero_le _, Int.le_refl _⟩
 | succ k ih =>
  intro J hJ hk
  have hne : els J ≠ [] := fun h => by have : (els J).length = k + 1 := hk; rw [h] at this; simp at this
  obtain ⟨j0, hj0, hmin⟩ := ne f (els J) hne
  obtain ⟨h8, hb0⟩ := ec.1 hj0
  have hd := eU h8 hb0
  obtain ⟨h1, h2⟩ := ih (dif J (2 ^ j0)) (hI.down _ J hJ (b8.2 fun i hi => by rw [del_bit, Bool.and_eq_true] at hi; exact hi.1)) (by omega)
  have hTk : pc (orL 0 ((bG p 0 es).take k)) = k := by
   rw [kH _ (List.Nodup.sublist (List.take_sublist _ _) r2) (fun e he => by have := r1 e (List.mem_of_mem_take he); omega), List.length_take]
   omega
  obtain ⟨e, he, hbe, hte, hIe⟩ := hI.aug _ J (r3 k) hJ (by omega)
  have hlt : k < (bG p 0 es).length := by
   refine Classical.byContradiction fun hc => ?_
   rw [List.take_of_length_le (by omega)] at hte hIe
   exact r5 e he hte hIe
  refine ⟨hlt, ?_⟩
  have h3 := r4 k hlt e he hte hIe
  have h4 := hmin e (ec.2 ⟨he, hbe⟩)
  have hmem := r1 _ (List.getElem_mem hlt)
  rw [dT _ k hlt, orL_snoc, fL f (by omega) (by
   rw [orL_bit]
   have : ¬ (bG p 0 es)[k] ∈ (bG p 0 es).take k := fun hx => by
    obtain ⟨i, hi, hx⟩ := List.mem_take_iff_getElem.1 hx
    exact List.pairwise_iff_getElem.1 r2 i k (by omega) hlt (by omega) hx
   simp [this]), gL f h8 hb0]
  omega
def insW (w : List Int) (k : Nat) : List Nat → List Nat
 | [] => [k]
 | x :: xs => if rd w (x : Int) < rd w (k : Int) then k :: x :: xs else x :: insW w k xs
def cZ (w : List Int) (n : Nat) : List Nat := (List.range n).foldl (fun out k => insW w k out) []
theorem ku (w : List Int) (k : Nat) (post : List Nat) (h2 : ∀ x ∈ post, rd w (x : Int) < rd w (k : Int)) : ∀ pre : List Nat, (∀ x ∈ pre, ¬ rd w (x : Int) < rd w (k : Int)) → insW w k (pre ++ post) = pre ++ k :: post := by
 intro pre
 induction pre with
 | nil =>
  intro _
  cases post with
  | nil => rfl
  | cons y ys => simp only [List.nil_append, insW]; rw [if_pos (h2 y (List.mem_cons_self ..))]
 | cons x pre ih =>
  intro h1
  simp only [List.cons_append, insW]
  rw [if_neg (h1 x (List.mem_cons_self ..)), ih (fun y hy => h1 y (List.mem_cons_of_mem _ hy))]
theorem insW_mem (w : List Int) (k a : Nat) : ∀ l : List Nat, a ∈ insW w k l ↔ a = k ∨ a ∈ l := by
 intro l
 induction l with
 | nil => simp [insW]
 | cons x l ih =>
  simp only [insW]
  by_cases h : rd w (x : Int) < rd w (k : Int)
  ·rw [if_pos h, List.mem_cons]
  ·rw [if_neg h, List.mem_cons, ih, List.mem_cons]
   constructor
   ·rintro (h' | h' | h')
    ·exact .inr (.inl h')
    ·exact .inl h'
    ·exact .inr (.inr h')
   ·rintro (h' | h' | h')
    ·exact .inr (.inl h')
    ·exact .inl h'
    ·exact .inr (.inr h')
theorem insW_len (w : List Int) (k : Nat) : ∀ l : List Nat, (insW w k l).length = l.length + 1 := by
 intro l
 induction l with
 | nil => rfl
 | cons x l ih =>
  simp only [insW]
  by_cases h : rd w (x : Int) < rd w (k : Int)
  ·rw [if_pos h]; rfl
  ·rw [if_neg h, List.length_cons, ih]; rfl
theorem kn (w : List Int) (k : Nat) : ∀ l : List Nat, l.Nodup → k ∉ l → (insW w k l).Nodup := by
 intro l
 induction l with
 | nil => intro _ _; simp [insW]
 | cons x l ih =>
  intro hl hk
  simp only [insW]
  by_cases h : rd w (x : Int) < rd w (k : Int)
  ·rw [if_pos h, List.nodup_cons]; exact ⟨hk, hl⟩
  ·rw [List.nodup_cons] at hl
   rw [if_neg h, List.nodup_cons, insW_mem]
   refine ⟨fun hx => ?_, ih hl.2 (fun h' => hk (List.mem_cons_of_mem _ h'))⟩
   rcases hx with rfl | hx
   ·exact hk (List.mem_cons_self ..)
   ·exact hl.1 hx
theorem lx (w : List Int) (k : Nat) : ∀ l : List Nat, l.Pairwise (fun a b : Nat => rd w (b : Int) ≤ rd w (a : Int)) → (insW w k l).Pairwise (fun a b : Nat => rd w (b : Int) ≤ rd w (a : Int)) := by
 intro l
 induction l with
 | nil => intro _; simp [insW]
 | cons x l ih =>
  intro hl
  have hl' := hl
  rw [List.pairwise_cons] at hl
  simp only [insW]
  by_cases h : rd w (x : Int) < rd w (k : Int)
  ·rw [if_pos h, List.pairwise_cons]
   refine ⟨fun b hb => ?_, hl'⟩
   rcases List.mem_cons.1 hb with rfl | hb
   ·omega
   ·have := hl.1 b hb; omega
  ·rw [if_neg h, List.pairwise_cons]
   refine ⟨fun b hb => ?_, ih hl.2⟩
   rcases (insW_mem w k b l).1 hb with rfl | hb
   ·omega
   ·exact hl.1 b hb
theorem dI (w : List Int) (n : Nat) : cZ w (n + 1) = insW w n (cZ w n) := by
 unfold cZ
 rw [List.range_succ, List.foldl_append]; rfl
theorem dS (w : List Int) (a : Nat) : ∀ n, a ∈ cZ w n ↔ a < n := by
 intro n
 induction n with
 | zero => simp [cZ]
 | succ n ih =>
  rw [dI, insW_mem, ih]
  omega
theorem fm (w : List Int) : ∀ n, (cZ w n).length = n := by
 intro n
 induction n with
 | zero => rfl
 | succ n ih => rw [dI, insW_len, ih]
theorem f7 (w : List Int) : ∀ n, (cZ w n).Pairwise (fun a b : Nat => rd w (b : Int) ≤ rd w (a : Int)) := by
 intro n
 induction n with
 | zero => simp [cZ]
 | succ n ih => rw [dI]; exact lx w n _ ih
theorem fz (w : List Int) (n : Nat) : mr n (fun i => rd w (i : Int)) (cZ w n) := by
 refine ⟨?_, fun e => dS w e n, f7 w n⟩
 induction n with
 | zero => simp [cZ]
 | succ n ih =>
  rw [dI]
  exact kn w n _ ih (fun h => by rw [dS] at h; omega)
theorem kN {l : List Int} {a b : Nat} : ∀ {es : List Nat}, eq l a b es = none → ∀ e ∈ es, f8 l a b e = true := by
 intro es
 induction es with
 | nil => intro _ e he; simp at he
 | cons x es ih =>
  intro h e he
  simp only [eq] at h
  by_cases hx : f8 l a b x = true
  ·rw [if_pos hx] at h
   rcases List.mem_cons.1 he with rfl | he
   ·exact hx
   ·exact ih h e he
  ·rw [if_neg hx] at h; cases h
theorem kB {l : List Int} {a : Nat} : ∀ {bs : List Nat}, eF l a bs = none → ∀ b ∈ bs, eq l a b (els (dif a b)) = none := by
 intro bs
 induction bs with
 | nil => intro _ e he; simp at he
 | cons x bs ih =>
  intro h b hb
  simp only [eF] at h
  cases hx : eq l a x (els (dif a x)) with
  | none =>
   rw [hx] at h
   rcases List.mem_cons.1 hb with rfl | hb
   ·exact hx
   ·exact ih h b hb
  | some e => rw [hx] at h; cases h
theorem kD {l : List Int} {L : List Nat} : ∀ {la : List Nat}, eN l L la = none → ∀ a ∈ la, eF l a L = none := by
 intro la
 induction la with
 | nil => intro _ e he; simp at he
 | cons x la ih =>
  intro h b hb
  simp only [eN] at h
  cases hx : eF l x L with
  | none =>
   rw [hx] at h
   rcases List.mem_cons.1 hb with rfl | hb
   ·exact hx
   ·exact ih h b hb
  | some e => rw [hx] at h; cases h
theorem gQ {L : List Nat} {x : Nat} : (ints L).contains (x : Int) = true ↔ x ∈ L := by
 rw [List.contains_iff_mem]
 unfold ints
 rw [List.mem_map]
 constructor
 ·rintro ⟨y, hy, he⟩
  have : y = x := by omega
  subst this; exact hy
 ·intro h; exact ⟨x, h, rfl⟩
theorem dN {n : Int} {l : List Int} (h : matB n l = true) : ∃ (m : Nat) (L : List Nat), n = m ∧ l = ints L ∧ Mat m L ∧ L.Pairwise (· < ·) := by
 have h0 := h
 obtain ⟨m, L, rfl, hm, rfl, hL, hL256, hp, hne⟩ := eo h
 refine ⟨m, L, rfl, rfl, ⟨hm, hL, hne, ?_⟩, hp⟩
 simp only [matB, Bool.and_eq_true] at h0
 obtain ⟨hf, _, hff⟩ := h0
 unfold iG at hff
 rw [if_pos hf, show (ints L).map Int.toNat = L from cq L] at hff
 cases hA : eN (ints L) L L with
 | some x => rw [hA] at hff; simp [told] at hff
 | none =>
  intro a ha b hb e he hae hbe
  have h1 := kN (kB (kD hA a ha) b hb) e (ec.2 ⟨he, by rw [dif_bit, hae, hbe]; rfl⟩)
  unfold f8 at h1
  obtain ⟨f, hf', hc⟩ := List.any_eq_true.1 h1
  obtain ⟨hf8, hfb⟩ := ec.1 hf'
  rw [dif_bit] at hfb
  simp only [Bool.and_eq_true, Bool.not_eq_true'] at hfb
  exact ⟨f, hf8, hfb.1, hfb.2, gQ.1 hc⟩
end Go.Proofs.YtimkekeaeojpkaaGreat.Q
namespace Go.Proofs.YtimkekeaeojpkaaGreat.Q
open Go Go.RowKit Go.Proofs.YtimkekeaeojpkaaGreat.A Go.Proofs.YtimkekeaeojpkaaGreatW.PrintWords Go.Proofs.YtimkekeaeojpkaaGreatW.PrintLast Go.Proofs.YtimkekeaeojpkaaGreatW.PrintMore Go.Proofs.YtimkekeaeojpkaaGreat.Z
set_option linter.unusedVariables false
set_option linter.unusedSimpArgs false
def eG (n : Int) (l : List Int) : Int := if matB n l = true then (pc (rd l 0).toNat : Int) else -1
theorem e0 {m : Nat} {L : List Nat} (h : matB (m : Int) (ints L) = true) (hM : Mat m L) : ∀ b ∈ L, eG (m : Int) (ints L) = (pc b : Int) := by
 intro b hb
 unfold eG
 rw [if_pos h]
 have h0 : 0 < L.length := List.length_pos_iff.2 hM.some
 have e := df L 0 h0
 rw [show ((0 : Nat) : Int) = 0 from rfl] at e
 rw [e, Int.toNat_natCast, hM.card (List.getElem_mem h0) hb]
theorem ff (n : Int) (l : List Int) (hl : l.length ≤ 17592186044416) : Ev (fun k => b4.f k n l) (eG n l) := by
 unfold b4.f eG
 refine Ev.bind (eh n l hl) ?_
 by_cases h : matB n l = true
 ·refine Ev.ifp h ?_
  rw [if_pos h]
  obtain ⟨m, L, rfl, rfl, hM, _⟩ := dN h
  have h0 : 0 < L.length := List.length_pos_iff.2 hM.some
  have e := df L 0 h0
  rw [show ((0 : Nat) : Int) = 0 from rfl] at e
  refine Ev.ifp (by rw [aX]; omega) ?_
  rw [e, Int.toNat_natCast]
  exact Ev.bind (dz _ (hM.lt _ (List.getElem_mem h0))) (Ev.now _)
 ·refine Ev.ifn h ?_
  rw [if_neg h]; exact Ev.now _
theorem subset_eq (t s : Int) : cO.f t s = some (da t && (da s && decide (subN t.toNat s.toNat))) := by
 unfold cO.f
 rw [isAny_eq, isAny_eq, Option.bind_some, Option.bind_some]
 by_cases h1 : da t = true
 ·rw [if_pos h1, h1, Bool.true_and]
  by_cases h2 : da s = true
  ·rw [if_pos h2, h2, Bool.true_and]
   obtain ⟨a, rfl, ha⟩ := e8 h1
   obtain ⟨b, rfl, hb⟩ := e8 h2
   rw [dH (bu ha) (bu hb), Int.toNat_natCast, Int.toNat_natCast]
   have e : (((dif a b : Nat) : Int) == 0) = decide (subN a b) := by
    rw [Bool.eq_iff_iff, beq_iff_eq, decide_eq_true_eq]
    have h := @ma a b
    constructor
    ·intro h0; exact h.1 (by omega)
    ·intro h0; have := h.2 h0; omega
   rw [e]
  ·rw [if_neg h2, Bool.eq_false_iff.2 h2, Bool.false_and]
 ·rw [if_neg h1, Bool.eq_false_iff.2 h1, Bool.false_and]
def indB (L : List Nat) (s : Int) : Bool := da s && indN L s.toNat
theorem kK (n : Int) (L : List Nat) (s : Int) (hl : L.length ≤ 17592186044416) (hL : ∀ b ∈ L, b < 256) : Ev (fun k => aK.f k n (ints L) s) (indB L s) := by
 have h := down (P := fun i => Ev (fun k => aK.l0 k s (ints L) ((ints L).length : Int) (i : Int)) (da s && (L.drop i).any (fun b => decide (subN s.toNat b)))) L.length
  (by
   apply Ev.step
   ·intro k
    simp only [aK.l0]
    rw [if_neg (by rw [aX]; omega)]
   ·rw [cu]
    simp only [List.any_nil, Bool.and_false]
    exact Ev.now _)
  (by
   intro i hi ih
   have hb := hL _ (List.getElem_mem hi)
   apply Ev.step
   ·intro k
    simp only [aK.l0, subset_eq, Option.bind_some]
    rw [if_pos (by rw [aX]; omega), if_pos (by omega), if_pos (by rw [aX]; omega), df L i hi, bU hi hl]
   ·rw [bQ L i hi, List.any_cons]
    rw [show da (L[i] : Int) = true from by rw [isAnyB_nat]; simpa using hb, Bool.true_and, Int.toNat_natCast]
    by_cases hx : (da s && decide (subN s.toNat L[i])) = true
    ·refine Ev.ifp hx ?_
     simp only [Bool.and_eq_true] at hx
     rw [hx.1, hx.2]
     exact Ev.now _
    ·refine Ev.ifn hx ?_
     have : (da s && (decide (subN s.toNat L[i]) || (L.drop (i + 1)).any (fun b => decide (subN s.toNat b)))) = (da s && (L.drop (i + 1)).any (fun b => decide (subN s.toNat b))) := by
      cases h1 : da s
      ·rfl
      ·rw [h1] at hx
       simp only [Bool.true_and] at hx ⊢
       rw [Bool.eq_false_iff.2 hx, Bool.false_or]
     rw [this]
     exact ih)
 exact h
theorem mw {L : List Nat} {s : Nat} (hs : s < 256) : indB L (s : Int) = indN L s := by
 unfold indB
 rw [isAnyB_nat, show decide (s < 256) = true from by simpa using hs, Bool.true_and, Int.toNat_natCast]
theorem or64 {s e : Nat} (hs : s < 256) (he : e < 8) : Go.bits .or .i64 (s : Int) (shl .i64 1 (IntKind.u64.wrap (e : Int))) = ((s ||| 2 ^ e : Nat) : Int) := by
 rw [fw (by omega) (by omega), dV (by omega), ij (bu hs) (bu (show 2 ^ e < 256 from dg (m := 8) he))]
theorem jk (w : List Int) (hw : w.length ≤ 8) : Ev (fun k => aC.f k w) (ints (cZ w w.length)) := by
 have hd := down (P := fun i => Ev (fun k => aC.l0 k w (ints (cZ w i)) (i : Int)) (ints (cZ w w.length))) w.length
  (by
   apply Ev.step
   ·intro k
    rw [aC.l0, if_neg (by omega)]
   ·exact Ev.now _)
  (by
   intro i hi ih
   have hlen := fm w i
   have hmem := fun a => dS w a i
   have hfall := f7 w i
   rw [dI] at ih
   generalize cZ w i = out at ih hlen hmem hfall ⊢
   have key : ∀ at_ : Nat, at_ ≤ i → (∀ x ∈ out.drop at_, rd w (x : Int) < rd w (i : Int)) → Ev (fun k => aC.l1 k w (ints out) (i : Int) (at_ : Int)) (ints (cZ w w.length)) := by
    have ins : ∀ at_ : Nat, at_ ≤ i → (∀ x ∈ out.take at_, ¬ rd w (x : Int) < rd w (i : Int)) → (∀ x ∈ out.drop at_, rd w (x : Int) < rd w (i : Int)) → Ev (fun k => aC.l0 k w ((ints out).take at_ ++ [(i : Int)] ++ (ints out).drop at_) (wrap64 ((i : Int) + 1))) (ints (cZ w w.length)) := by
     intro at_ ha h1 h2
     have e := ku w i (out.drop at_) h2 (out.take at_) h1
     rw [List.take_append_drop] at e
     rw [e] at ih
     rw [bU hi (by omega)]
     have : (ints out).take at_ ++ [(i : Int)] ++ (ints out).drop at_ = ints (out.take at_ ++ i :: out.drop at_) := by
      unfold ints
      rw [List.map_append, List.map_cons, List.map_take, List.map_drop, List.append_assoc, List.singleton_append]
     rw [this]; exact ih
    intro at_
    induction at_ with
    | zero =>
     intro _ h2
     have := ins 0 (by omega) (by simp) h2
     apply Ev.step
     ·intro k
      rw [aC.l1, if_neg (by omega)]
     ·simp only [Option.bind_some, List.nil_append, List.length_nil]
      refine Ev.ifp (by omega) (Ev.ifp (by omega) (Ev.ifp (by rw [List.length_drop, aX]; omega) (Ev.ifp (by rw [List.length_take, aX]; omega) (Ev.ifp (by simp only [List.length_append, List.length_take, List.length_drop, List.length_singleton, aX]; omega) ?_))))
      exact this
    | succ a iha =>
     intro ha h2
     have hlt : a < out.length := by omega
     have hx := (hmem out[a]).1 (List.getElem_mem hlt)
     apply Ev.step
     ·intro k
      rw [aC.l1, if_pos (by omega), be (n := ((a + 1 : Nat) : Int) - 1) (by omega) (by omega), show ((a + 1 : Nat) : Int) - 1 = (a : Int) from by omega, if_pos (by omega), if_pos (by rw [aX]; omega), df out a hlt, if_pos (by omega), if_pos (by omega), if_pos (by omega), if_pos (by omega)]
     ·by_cases hc : rd w (out[a] : Int) < rd w (i : Int)
      ·refine Ev.ifp hc (iha (by omega) (fun x hx' => ?_))
       rw [bQ out a hlt] at hx'
       rcases List.mem_cons.1 hx' with rfl | hx'
       ·exact hc
       ·exact h2 x hx'
      ·refine Ev.ifn hc ?_
       have := ins (a + 1) ha (fun x hx' => by
        rw [dT out a hlt] at hx'
        rcases List.mem_append.1 hx' with hx' | hx'
        ·obtain ⟨j, hj, rfl⟩ := List.mem_take_iff_getElem.1 hx'
         have := List.pairwise_iff_getElem.1 hfall j a (by omega) hlt (by omega)
         omega
        ·rw [List.mem_singleton.1 hx']; exact hc) h2
       simp only [Option.bind_some, List.nil_append, List.length_nil]
       refine Ev.ifp (by omega) (Ev.ifp (by rw [aX]; omega) (Ev.ifp (by rw [List.length_drop, aX]; omega) (Ev.ifp (by rw [List.length_take, aX]; omega) (Ev.ifp (by simp only [List.length_append, List.length_take, List.length_drop, List.length_singleton, aX]; omega) ?_))))
       rw [Int.toNat_natCast]
       exact this
   apply Ev.step
   ·intro k
    rw [aC.l0, if_pos (by omega)]
   ·have := key i (Nat.le_refl _) (by rw [List.drop_eq_nil_of_le (by omega)]; simp)
    rw [aX, hlen]; exact this)
 exact hd
theorem jg {m : Nat} {L : List Nat} (hM : Mat m L) (w : List Int) (hw : w.length = m) (hl : L.length ≤ 17592186044416) : Ev (fun k => bl.f k (m : Int) (ints L) w) (ints (bG (indN L) 0 (cZ w m))) := by
 have hm := hM.size
 have h8 : ∀ e ∈ cZ w m, e < 8 := fun e he => by have := (dS w e m).1 he; omega
 have hlen := fm w m
 unfold bl.f
 have ho := jk w (by omega)
 rw [hw] at ho
 refine Ev.bind ho ?_
 generalize cZ w m = es at h8 hlen ⊢
 have hd := down (P := fun i => ∀ (T : List Nat) (s : Nat), T.length ≤ i → s < 256 → Ev (fun k => bl.l0 k (ints T) (s : Int) (ints es) (i : Int) (m : Int) (ints L)) (ints (T ++ bG (indN L) s (es.drop i)))) es.length
  (by
   intro T s _ _
   apply Ev.step
   ·intro k
    rw [bl.l0, if_neg (by rw [aX]; omega)]
   ·rw [cu]; simp only [bG, List.append_nil]; exact Ev.now _)
  (by
   intro i hi ih T s hT hs
   have he := h8 _ (List.getElem_mem hi)
   have hlt : s ||| 2 ^ es[i] < 256 := Nat.or_lt_two_pow (n := 8) hs (dg he)
   apply Ev.step
   ·intro k
    rw [bl.l0, if_pos (by rw [aX]; omega), if_pos (by omega), df es i hi, if_pos (dl _), or64 hs he, bU hi (by omega)]
   ·rw [bQ es i hi]
    refine Ev.bind (jW _ L _ hl hM.lt hlt) (Ev.bind (dz _ hlt) ?_)
    have hiff := eZ hlt hM.some
    simp only [bG]
    by_cases h : indN L (s ||| 2 ^ es[i]) = true
    ·rw [if_pos h]
     have := hiff.2 h
     refine Ev.ifp (by omega) (Ev.ifp (by rw [aX]; omega) ?_)
     rw [show ints T ++ [(es[i] : Int)] = ints (T ++ [es[i]]) from by simp [ints]]
     have h2 := ih (T ++ [es[i]]) _ (by rw [List.length_append, List.length_singleton]; omega) hlt
     rwa [List.append_assoc, List.singleton_append] at h2
    ·rw [if_neg h]
     have : rkN L (s ||| 2 ^ es[i]) ≠ pc (s ||| 2 ^ es[i]) := fun e => h (hiff.1 e)
     exact Ev.ifn (by omega) (ih T s (by omega) hs))
 exact hd [] 0 (Nat.zero_le _) (by decide)
def takN (m : Nat) (L : List Nat) (w : List Int) : List Nat := bG (indN L) 0 (cZ w m)
theorem eW {m : Nat} {L : List Nat} (hM : Mat m L) (w : List Int) : (∀ e ∈ takN m L w, e < m) ∧ (takN m L w).Nodup ∧ (∀ i, indN L (orL 0 ((takN m L w).take i)) = true) := by
 obtain ⟨r1, r2, r3, _, _⟩ := gN (Mat.ind hM) (p := indN L) (fun s => Iff.rfl) (fz w m)
 exact ⟨r1, r2, r3⟩
theorem iT {m : Nat} {L : List Nat} (hM : Mat m L) (w : List Int) : ∀ (k J : Nat), indN L J = true → pc J = k → k ≤ (takN m L w).length ∧ wsum (fun i => rd w (i : Int)) J ≤ wsum (fun i => rd w (i : Int)) (orL 0 ((takN m L w).take k)) :=
 jM (Mat.ind hM) (p := indN L) (fun s => Iff.rfl) (fz w m)
theorem mc {m : Nat} : ∀ T : List Nat, (∀ e ∈ T, e < m) → orL 0 T < 2 ^ m := by
 intro T
 induction T with
 | nil => intro _; exact Nat.two_pow_pos _
 | cons e T ih =>
  intro h
  exact iY (ih (fun x hx => h x (List.mem_cons_of_mem _ hx))) (dg (h e (List.mem_cons_self ..)))
theorem eX {m : Nat} {L : List Nat} (hM : Mat m L) (w : List Int) {b : Nat} (hb : b ∈ L) : (takN m L w).length = pc b := by
 have hm := hM.size
 obtain ⟨r1, r2, r3⟩ := eW hM w
 obtain ⟨h1, _⟩ := iT hM w (pc b) b (indN_iff.2 ⟨b, hb, ee b⟩) rfl
 refine Nat.le_antisymm ?_ h1
 have h2 := r3 (takN m L w).length
 rw [List.take_length] at h2
 obtain ⟨c, hc, hsub⟩ := indN_iff.1 h2
 have h3 := kF hsub
 rw [kH _ r2 (fun e he => by have := r1 e he; omega)] at h3
 rw [hM.card hb hc]
 exact h3
def bosB (n : Int) (l w : List Int) (c : Int) : Int × Bool := if areW n w = true ∧ 0 ≤ c ∧ c ≤ eG n l then (((orL 0 ((takN n.toNat (l.map Int.toNat) w).take c.toNat) : Nat) : Int), true) else (0, false)
theorem iq (n : Int) (l w : List Int) (c : Int) (hl : l.length ≤ 17592186044416) (hwl : w.length ≤ 17592186044416) : Ev (fun k => aE.f k n l w c) (bosB n l w c) := by
 have hno : Ev (fun k => aE.j0 k w c true n l) (0, false) := by
  apply Ev.step
  ·intro k
   rw [aE.j0]
  ·exact Ev.ifp rfl (Ev.now _)
 unfold aE.f bosB
 refine Ev.bind (dp n w hwl) ?_
 by_cases h1 : areW n w = true
 ·refine Ev.ifp h1 (Ev.bind (ff n l hl) (Ev.cbind (l1In_eq _ _ _) ?_))
  by_cases h2 : 0 ≤ c ∧ c ≤ eG n l
  ·rw [if_pos ⟨h1, h2⟩, show (decide (0 ≤ c) && decide (c ≤ eG n l)) = true from by simp [h2]]
   have hmat : matB n l = true := by
    unfold eG at h2
    by_cases hm : matB n l = true
    ·exact hm
    ·rw [if_neg hm] at h2; omega
   obtain ⟨m, L, rfl, rfl, hM, _⟩ := dN hmat
   rw [Int.toNat_natCast, show (ints L).map Int.toNat = L from cq L]
   obtain ⟨b, hb⟩ := List.exists_mem_of_ne_nil L hM.some
   have hr := e0 hmat hM b hb
   have hlen := eX hM w hb
   obtain ⟨r1, r2, r3⟩ := eW hM w
   have hm := hM.size
   have hwm : w.length = m := by have := (cS h1).2; omega
   obtain ⟨kk, rfl⟩ := Int.eq_ofNat_of_zero_le h2.1
   apply Ev.step
   ·intro k
    rw [aE.j0]
   ·refine Ev.ifn (by decide) (Ev.bind (jg hM w hwm (by rw [aX] at hl; exact hl)) ?_)
    rw [Int.toNat_natCast]
    show Ev (fun k => aE.l0 k (kk : Int) (ints (takN m L w)) 0 0) _
    have hT : ∀ e ∈ takN m L w, e < m := r1
    have hkk : kk ≤ (takN m L w).length := by omega
    have h8 := jP b
    generalize takN m L w = T at hT hkk hlen
    have hd := down (P := fun i => Ev (fun k => aE.l0 k (kk : Int) (ints T) ((orL 0 (T.take i) : Nat) : Int) (i : Int)) (((orL 0 (T.take kk) : Nat) : Int), true)) kk
     (by
      apply Ev.step
      ·intro k
       rw [aE.l0, if_neg (by omega)]
      ·exact Ev.now _)
     (by
      intro i hi ih
      have hi' : i < T.length := by omega
      have he := hT _ (List.getElem_mem hi')
      have hlt : orL 0 (T.take i) < 256 := Nat.lt_of_lt_of_le (mc _ (fun e he' => hT e (List.mem_of_mem_take he'))) (cj hm)
      apply Ev.step
      ·intro k
       rw [aE.l0, if_pos (by omega), if_pos (by omega), if_pos (by rw [aX]; omega), df T i hi', if_pos (dl _), or64 hlt (by omega), be (by omega) (by omega)]
      ·rw [dT T i hi', orL_snoc] at ih
       exact ih)
    exact hd
  ·rw [if_neg (fun h => h2 h.2)]
   have : (decide (0 ≤ c) && decide (c ≤ eG n l)) = false := by
    rw [Bool.eq_false_iff]; intro h; rw [Bool.and_eq_true, decide_eq_true_eq, decide_eq_true_eq] at h; exact h2 h
   rw [this]; exact hno
 ·refine Ev.ifn h1 ?_
  rw [if_neg (fun h => h1 h.1)]
  exact hno
theorem lh : ∀ q < 9, els (cr q) = List.range q := by decide +kernel
theorem nx {w : List Int} (k : Nat) (hk : k < w.length) : ∀ (L : List Nat), (∀ x ∈ L, x < w.length) → insF (fun x => rd w (cF w x)) (k : Int) (ints L) = ints (insW w k L) := by
 intro L
 induction L with
 | nil => intro _; rfl
 | cons x L ih =>
  intro h
  have hx := h x (List.mem_cons_self ..)
  have ih' := ih (fun y hy => h y (List.mem_cons_of_mem _ hy))
  unfold ints at ih' ⊢
  rw [List.map_cons]
  simp only [insF, insW]
  have e1 : cF w (x : Int) = x := fC (by omega)
  have e2 : cF w (k : Int) = k := fC (by omega)
  by_cases hc : rd w (x : Int) < rd w (k : Int)
  ·rw [if_pos (show rd w (cF w (x : Int)) < rd w (cF w (k : Int)) by rw [e1, e2]; exact hc), if_pos hc]; rfl
  ·rw [if_neg (show ¬ rd w (cF w (x : Int)) < rd w (cF w (k : Int)) by rw [e1, e2]; exact hc), if_neg hc, ih']; rfl
theorem jC {w : List Int} : ∀ m, m ≤ w.length → gOrd w (ints (List.range m)) = ints (cZ w m) := by
 intro m
 induction m with
 | zero => intro _; rfl
 | succ m ih =>
  intro hm
  have h1 := ih (by omega)
  rw [dI, List.range_succ]
  unfold gOrd at h1 ⊢
  rw [show ints (List.range m ++ [m]) = ints (List.range m) ++ [(m : Int)] from by simp [ints], List.foldl_append, h1, List.foldl_cons, List.foldl_nil]
  exact nx m (by omega) _ (fun x hx => by have := (dS w x m).1 hx; omega)
theorem ke {m : Nat} {L : List Nat} (hM : Mat m L) (hl : L.length ≤ 17592186044416) : ∀ (es T : List Nat) (s : Nat), s < 256 → (∀ e ∈ es, e < m) → T.length + es.length ≤ 1000 → Ev (fun k => dy k (m : Int) (ints L) (ints es) (s : Int) (ints T)) (ints (T ++ bG (indN L) s es)) := by
 intro es
 induction es with
 | nil =>
  intro T s _ _ _
  simp only [bG, List.append_nil]
  exact Ev.now _
 | cons e es ih =>
  intro T s hs he hT
  have hm := hM.size
  have h8 : e < 8 := by have := he e (List.mem_cons_self ..); omega
  rw [List.length_cons] at hT
  have hse : s ||| 2 ^ e < 256 := iY (m := 8) hs (dg h8)
  have hbit : Go.bits .or .i64 (s : Int) (shl .i64 1 (e : Int)) = ((s ||| 2 ^ e : Nat) : Int) := by
   rw [dV (by omega), ij (bu hs) (bu (dg (m := 8) h8))]
  show Ev (fun k => dy k (m : Int) (ints L) ((e : Int) :: ints es) (s : Int) (ints T)) _
  simp only [dy, bG]
  rw [hbit]
  refine Ev.ifp (by omega) (Ev.bind (kK _ L _ hl hM.lt) ?_)
  rw [mw hse]
  by_cases hc : indN L (s ||| 2 ^ e) = true
  ·rw [if_pos hc]
   refine Ev.ifp hc (Ev.ifp (by rw [aX]; omega) ?_)
   rw [show ints T ++ [(e : Int)] = ints (T ++ [e]) from by simp [ints]]
   have := ih (T ++ [e]) _ hse (fun x hx => he x (List.mem_cons_of_mem _ hx)) (by rw [List.length_append, List.length_singleton]; omega)
   rwa [List.append_assoc, List.singleton_append] at this
  ·rw [if_neg hc]
   exact Ev.ifn hc (ih T s hs (fun x hx => he x (List.mem_cons_of_mem _ hx)) (by omega))
def grB (n : Int) (l w : List Int) : List Int × Bool := if matB n l = true ∧ areW n w = true then (ints (takN n.toNat (l.map Int.toNat) w), true) else ([], false)
theorem fg (n : Int) (l w : List Int) (hl : l.length ≤ 17592186044416) (hw : w.length ≤ 17592186044416) : Ev (fun k => cA.f k n l w) (grB n l w) := by
 unfold cA.f grB
 refine Ev.bind (ei n l hl) ?_
 by_cases h : matB n l = true
 rotate_left
 ·rw [if_neg (fun h2 => h h2.1)]
  exact Ev.ifn h (Ev.now _)
 refine Ev.ifp h (Ev.bind (dq n w hw) ?_)
 by_cases h2 : areW n w = true
 rotate_left
 ·rw [if_neg (fun h3 => h2 h3.2)]
  exact Ev.ifn h2 (Ev.now _)
 rw [if_pos ⟨h, h2⟩]
 refine Ev.ifp h2 ?_
 obtain ⟨m, L, rfl, rfl, hM, _⟩ := dN h
 have hm := hM.size
 rw [aX] at hl
 rw [show (ints L).map Int.toNat = L from cq L, Int.toNat_natCast]
 have hwm : w.length = m := by have := (cS h2).2; omega
 refine Ev.cbind (eQ hm) (Ev.bind (dG _) ?_)
 rw [gG (ed hm).2, lh m (by omega)]
 show Ev (fun k => if gOk w (ints (List.range m)) = true then (dy k (m : Int) (ints L) (gOrd w (ints (List.range m))) 0 []).bind fun z => some (z, true) else none) _
 have hok : gOk w (ints (List.range m)) = true := by
  unfold gOk
  simp only [Bool.and_eq_true, List.all_eq_true, decide_eq_true_eq]
  refine ⟨fun v hv => ?_, fun x hx => ?_, by rw [aX, List.length_range]; omega⟩
  ·unfold areW at h2
   simp only [Bool.and_eq_true, List.all_eq_true, decide_eq_true_eq] at h2
   have := h2.1.1 v hv
   omega
  ·obtain ⟨y, hy, rfl⟩ := List.mem_map.1 hx
   have := List.mem_range.1 hy
   omega
 rw [jC m (by omega)]
 refine Ev.ifp hok (Ev.bind (ke hM hl (cZ w m) [] 0 (by decide) (fun e he => (dS w e m).1 he) (by rw [fm]; simp; omega)) ?_)
 rw [List.nil_append]
 exact Ev.now _
theorem eM (T : List Nat) (h : ∀ e ∈ T, e < 8) (hl : T.length ≤ 1000) : Ev (fun k => bT.f k (ints T)) ((orL 0 T : Nat) : Int) := by
 unfold bT.f
 rw [aX]
 have hd := down (P := fun i => Ev (fun k => bT.l0 k ((orL 0 (T.take i) : Nat) : Int) (ints T) (T.length : Int) (i : Int)) ((orL 0 T : Nat) : Int)) T.length
  (by
   apply Ev.step
   ·intro k
    rw [bT.l0, if_neg (by omega), List.take_length]
   ·exact Ev.now _)
  (by
   intro i hi ih
   have he := h _ (List.getElem_mem hi)
   have hlt : orL 0 (T.take i) < 256 := mc (m := 8) _ (fun e he' => h e (List.mem_of_mem_take he'))
   apply Ev.step
   ·intro k
    rw [bT.l0, if_pos (by omega), if_pos (by omega), if_pos (by rw [aX]; omega), df T i hi, if_pos (by omega), dV (by omega), ij (bu hlt) (bu (dg (m := 8) he)), be (by omega) (by omega)]
   ·rw [dT T i hi, orL_snoc] at ih
    exact ih)
 exact hd
theorem k9 {m : Nat} {L : List Nat} (hM : Mat m L) (w : List Int) : (takN m L w).length ≤ 8 := by
 obtain ⟨b, hb⟩ := List.exists_mem_of_ne_nil L hM.some
 rw [eX hM w hb]; exact jP b
theorem kc (n : Int) (l w : List Int) (c : Int) (hl : l.length ≤ 17592186044416) (hw : w.length ≤ 17592186044416) : Ev (fun k => cy.f k n l w c) (bosB n l w c) := by
 unfold cy.f bosB
 refine Ev.bind (fg n l w hl hw) ?_
 unfold grB
 by_cases h : matB n l = true ∧ areW n w = true
 rotate_left
 ·rw [if_neg h, if_neg (by
   rintro ⟨h1, h2, h3⟩
   refine h ⟨?_, h1⟩
   refine Classical.byContradiction fun hc => ?_
   unfold eG at h3
   rw [if_neg hc] at h3; omega)]
  exact Ev.ifn (by decide) (Ev.now _)
 rw [if_pos h]
 obtain ⟨m, L, rfl, rfl, hM, _⟩ := dN h.1
 rw [show (ints L).map Int.toNat = L from cq L, Int.toNat_natCast]
 obtain ⟨b, hb⟩ := List.exists_mem_of_ne_nil L hM.some
 have hr := e0 h.1 hM b hb
 have hlen := eX hM w hb
 have hle := k9 hM w
 obtain ⟨r1, _, _⟩ := eW hM w
 have hm := hM.size
 refine Ev.ifp rfl ?_
 by_cases h0 : c < 0
 ·rw [if_neg (fun h2 => by omega)]
  exact Ev.ifp h0 (Ev.now _)
 refine Ev.ifn h0 ?_
 by_cases h1 : c > ((takN m L w).length : Int)
 ·rw [if_neg (fun h2 => by omega)]
  exact Ev.ifp (by rw [aX]; exact h1) (Ev.now _)
 refine Ev.ifn (by rw [aX]; exact h1) (Ev.ifp (by omega) (Ev.ifp (by rw [aX]; omega) ?_))
 rw [if_pos ⟨h.2, by omega, by omega⟩]
 have e : (ints (takN m L w)).take c.toNat = ints ((takN m L w).take c.toNat) := by unfold ints; rw [List.map_take]
 show Ev (fun k => (bT.f k ((ints (takN m L w)).take c.toNat)).bind fun t => some (t, true)) _
 rw [e]
 exact Ev.bind (eM _ (fun x hx => by have := r1 x (List.mem_of_mem_take hx); omega) (by rw [List.length_take]; omega)) (Ev.now _)
def gbB (n : Int) (l w : List Int) : Int × Bool := bosB n l w (eG n l)
theorem iP (n : Int) (l w : List Int) (hl : l.length ≤ 17592186044416) (hw : w.length ≤ 17592186044416) : Ev (fun k => bg.f k n l w) (gbB n l w) := by
 unfold bg.f gbB
 exact Ev.bind (ff n l hl) (Ev.bind (iq n l w _ hl hw) (Ev.now _))
theorem lw (n : Int) (l w : List Int) (hl : l.length ≤ 17592186044416) (hw : w.length ≤ 17592186044416) : Ev (fun k => cz.f k n l w) (gbB n l w) := by
 unfold cz.f gbB bosB
 refine Ev.bind (fg n l w hl hw) ?_
 unfold grB
 by_cases h : matB n l = true ∧ areW n w = true
 rotate_left
 ·rw [if_neg h, if_neg (by
   rintro ⟨h1, h2, h3⟩
   refine h ⟨?_, h1⟩
   refine Classical.byContradiction fun hc => ?_
   unfold eG at h2
   rw [if_neg hc] at h2; omega)]
  exact Ev.bind (eM [] (fun _ h => absurd h List.not_mem_nil) (by decide)) (Ev.now _)
 rw [if_pos h]
 obtain ⟨m, L, rfl, rfl, hM, _⟩ := dN h.1
 rw [show (ints L).map Int.toNat = L from cq L, Int.toNat_natCast]
 obtain ⟨b, hb⟩ := List.exists_mem_of_ne_nil L hM.some
 have hr := e0 h.1 hM b hb
 have hlen := eX hM w hb
 have hle := k9 hM w
 obtain ⟨r1, _, _⟩ := eW hM w
 have hm := hM.size
 rw [if_pos ⟨h.2, by omega, by omega⟩, hr, Int.toNat_natCast, ← hlen, List.take_length]
 exact Ev.bind (eM _ (fun x hx => by have := r1 x hx; omega) (by omega)) (Ev.now _)
theorem m9 (a b : Nat) : pc (a ^^^ b) = pc (dif a b) + pc (dif b a) := by
 rw [pc_sum, pc_sum, pc_sum, ← ey]
 congr 1
 apply List.map_congr_left
 intro i _
 unfold bt1
 rw [Nat.testBit_xor, dif_bit, dif_bit]
 cases a.testBit i <;> cases b.testBit i <;> rfl
theorem m5 {m : Nat} {L : List Nat} (h : Mat m L) {a b : Nat} (ha : a ∈ L) (hb : b ∈ L) : pc (b ^^^ a) = 2 ↔ pc (dif a b) = 1 := by
 have h1 := m9 b a
 have h2 := h.card ha hb
 have h3 := dv a b
 have h4 := dv b a
 rw [Nat.and_comm b a] at h4
 omega
def im (w : List Int) (a : Nat) (L : List Nat) : Bool := L.all (fun b => !(decide (pc (dif a b) = 1) && decide (bN w (b : Int) > bN w (a : Int))))
def dY (n : Int) (l : List Int) (w : List Int) (base : Int) : Bool := matB n l && (areW n w && (l.contains base && im w base.toNat (l.map Int.toNat)))
theorem hX (w : List Int) (a b : Nat) (L : List Nat) : im w a (b :: L) = (!(decide (pc (dif a b) = 1) && decide (bN w (b : Int) > bN w (a : Int))) && im w a L) := by
 unfold im
 rw [List.all_cons]
theorem jR (n : Int) (l : List Int) (w : List Int) (base : Int) (hl : l.length ≤ 17592186044416) (hw : w.length ≤ 17592186044416) : Ev (fun k => aI.f k n l w base) (dY n l w base) := by
 unfold aI.f dY
 refine Ev.bind (eh n l hl) ?_
 by_cases h : matB n l = true
 ·refine Ev.ifp h ?_
  rw [h, Bool.true_and]
  refine Ev.bind (dp n w hw) ?_
  by_cases h1 : areW n w = true
  ·refine Ev.ifp h1 ?_
   rw [h1, Bool.true_and]
   refine Ev.bind (dU l base hl) ?_
   obtain ⟨m, L, rfl, rfl, hM, _⟩ := dN h
   rw [show (ints L).map Int.toNat = L from cq L]
   rw [aX] at hl
   cases h2 : (ints L).contains base with
   | false =>
    apply Ev.step
    ·intro k
     rw [aI.j0]
    ·exact Ev.ifp rfl (Ev.now _)
   | true =>
    obtain ⟨a, ha, rfl⟩ : ∃ a : Nat, a ∈ L ∧ base = a := by
     have := List.contains_iff_mem.1 h2
     obtain ⟨a, ha, he⟩ := List.mem_map.1 this
     exact ⟨a, ha, he.symm⟩
    rw [Bool.true_and, Int.toNat_natCast]
    apply Ev.step
    ·intro k
     rw [aI.j0]
    ·refine Ev.ifn (by decide) ?_
     have hd := down (P := fun i => Ev (fun k => aI.l0 k w (a : Int) (i : Int) (m : Int) (ints L)) (im w a (L.drop i))) L.length
      (by
       apply Ev.step
       ·intro k
        simp only [aI.l0]
        rw [if_neg (by rw [aX]; omega)]
       ·rw [cu]; exact Ev.now _)
      (by
       intro i hi ih
       have hb := List.getElem_mem hi
       apply Ev.step
       ·intro k
        simp only [aI.l0]
        rw [if_pos (by rw [aX]; omega), if_pos (by omega), df L i hi, bU hi hl, mL (bu (hM.lt _ hb)) (bu (hM.lt _ ha))]
       ·have hx : L[i] ^^^ a < 256 := Nat.xor_lt_two_pow (n := 8) (hM.lt _ hb) (hM.lt _ ha)
        refine Ev.bind (dz _ hx) ?_
        rw [bQ L i hi, hX]
        have hq := m5 hM ha hb
        by_cases hc : pc (dif a L[i]) = 1
        ·refine Ev.ifp (by have := hq.2 hc; omega) (Ev.bind (cv w _ hw) (Ev.bind (cv w _ hw) ?_))
         rw [show decide (pc (dif a L[i]) = 1) = true from by simpa using hc, Bool.true_and]
         by_cases hg : bN w (L[i] : Int) > bN w (a : Int)
         ·refine Ev.ifp hg ?_
          rw [show decide (bN w (L[i] : Int) > bN w (a : Int)) = true from by simpa using hg]
          exact Ev.now _
         ·refine Ev.ifn hg ?_
          rw [show decide (bN w (L[i] : Int) > bN w (a : Int)) = false from by simpa using hg]
          exact ih
        ·refine Ev.ifn (fun hc2 => hc (hq.1 (by omega))) ?_
         rw [show decide (pc (dif a L[i]) = 1) = false from by simpa using hc, Bool.false_and]
         exact ih)
     exact hd
  ·refine Ev.ifn h1 ?_
   rw [Bool.eq_false_iff.2 h1, Bool.false_and]
   apply Ev.step
   ·intro k
    rw [aI.j0]
   ·exact Ev.ifp rfl (Ev.now _)
 ·refine Ev.ifn h ?_
  rw [Bool.eq_false_iff.2 h, Bool.false_and]
  apply Ev.step
  ·intro k
   rw [aI.j0]
  ·exact Ev.ifp rfl (Ev.now _)
theorem fX (n : Int) (l : List Int) (w : List Int) (base : Int) (hl : l.length ≤ 17592186044416) (hw : w.length ≤ 17592186044416) : Ev (fun k => ap.f k n l w base) (dY n l w base) := by
 unfold ap.f dY cm.f
 refine Ev.bind (ei n l hl) ?_
 by_cases h : matB n l = true
 ·refine Ev.ifp h ?_
  rw [h, Bool.true_and]
  refine Ev.bind (dq n w hw) ?_
  by_cases h1 : areW n w = true
  ·refine Ev.ifp h1 ?_
   rw [h1, Bool.true_and]
   refine Ev.bind (Ev.bind (fZ l base hl) (Ev.now _)) ?_
   obtain ⟨m, L, rfl, rfl, hM, _⟩ := dN h
   rw [show (ints L).map Int.toNat = L from cq L]
   rw [aX] at hl
   cases h2 : (ints L).contains base with
   | false =>
    apply Ev.step
    ·intro k
     rw [ap.j0]
    ·exact Ev.ifp rfl (Ev.now _)
   | true =>
    obtain ⟨a, ha, rfl⟩ : ∃ a : Nat, a ∈ L ∧ base = a := by
     have := List.contains_iff_mem.1 h2
     obtain ⟨a, ha, he⟩ := List.mem_map.1 this
     exact ⟨a, ha, he.symm⟩
    rw [Bool.true_and, Int.toNat_natCast]
    apply Ev.step
    ·intro k
     rw [ap.j0]
    ·refine Ev.ifn (by decide) ?_
     have hd := down (P := fun i => Ev (fun k => ap.l0 k w (a : Int) (ints L) ((ints L).length : Int) (i : Int)) (im w a (L.drop i))) L.length
      (by
       apply Ev.step
       ·intro k
        simp only [ap.l0]
        rw [if_neg (by rw [aX]; omega)]
       ·rw [cu]; exact Ev.now _)
      (by
       intro i hi ih
       have hb := List.getElem_mem hi
       apply Ev.step
       ·intro k
        simp only [ap.l0]
        rw [if_pos (by rw [aX]; omega), if_pos (by omega), if_pos (by rw [aX]; omega), df L i hi, bU hi hl, dH (bu (hM.lt _ ha)) (bu (hM.lt _ hb)), ja _ (eC (hM.lt _ ha)), Option.bind_some]
       ·rw [bQ L i hi, hX]
        by_cases hc : pc (dif a L[i]) = 1
        ·refine Ev.ifp (by omega) (Ev.bind (dC w _ hw) (Ev.bind (dC w _ hw) ?_))
         rw [show decide (pc (dif a L[i]) = 1) = true from by simpa using hc, Bool.true_and]
         by_cases hg : bN w (L[i] : Int) > bN w (a : Int)
         ·refine Ev.ifp hg ?_
          rw [show decide (bN w (L[i] : Int) > bN w (a : Int)) = true from by simpa using hg]
          exact Ev.now _
         ·refine Ev.ifn hg ?_
          rw [show decide (bN w (L[i] : Int) > bN w (a : Int)) = false from by simpa using hg]
          exact ih
        ·refine Ev.ifn (by omega) ?_
         rw [show decide (pc (dif a L[i]) = 1) = false from by simpa using hc, Bool.false_and]
         exact ih)
     exact hd
  ·refine Ev.ifn h1 ?_
   rw [Bool.eq_false_iff.2 h1, Bool.false_and]
   apply Ev.step
   ·intro k
    rw [ap.j0]
   ·exact Ev.ifp rfl (Ev.now _)
 ·refine Ev.ifn h ?_
  rw [Bool.eq_false_iff.2 h, Bool.false_and]
  apply Ev.step
  ·intro k
   rw [ap.j0]
  ·exact Ev.ifp rfl (Ev.now _)
end Go.Proofs.YtimkekeaeojpkaaGreat.Q
namespace Go.Proofs.YtimkekeaeojpkaaGreat.Q
open Go Go.RowKit Go.Proofs.YtimkekeaeojpkaaGreatW.PrintWords Go.Proofs.YtimkekeaeojpkaaGreatW.PrintLast Go.Proofs.YtimkekeaeojpkaaGreatW.PrintMore Go.Proofs.YtimkekeaeojpkaaGreat.Z
set_option linter.unusedVariables false
set_option linter.unusedSimpArgs false
theorem fJ {a b : Nat} (ha : a < 256) (hb : b < 256) (h : subN a b) (hc : pc b ≤ pc a) : a = b := by
 apply jn ha hb
 intro i hi
 cases hbi : b.testBit i
 ·cases hai : a.testBit i
  ·rfl
  ·rw [b8.1 h i hai] at hbi; cases hbi
 ·cases hai : a.testBit i
  ·have h1 : pc a ≤ pc (dif b (2 ^ i)) := dM fun j _ hj => by
    rw [del_bit, b8.1 h j hj]
    have : ¬ i = j := by rintro rfl; rw [hai] at hj; cases hj
    simp [this]
   have := eU hi hbi
   omega
  ·rfl
variable {m : Nat} {I : Nat → Prop}
theorem Ind.fill (h : Ind m I) : ∀ (d a b : Nat), I a → I b → pc a + d = pc b → ∃ c, I c ∧ subN a c ∧ (∀ i, c.testBit i = true → a.testBit i = true ∨ b.testBit i = true) ∧ pc c = pc b := by
 intro d
 induction d with
 | zero => intro a b ha hb hd; exact ⟨a, ha, ee a, fun i hi => .inl hi, by omega⟩
 | succ d ih =>
  intro a b ha hb hd
  obtain ⟨e, he, h1, h2, h3⟩ := h.aug a b ha hb (by omega)
  obtain ⟨c, hc, hs, hi, hp⟩ := ih (a ||| 2 ^ e) b h3 hb (by rw [eK he h2]; omega)
  refine ⟨c, hc, fj (b8.2 fun i hi => by rw [add_bit, hi, Bool.true_or]) hs, fun i hci => ?_, hp⟩
  rcases hi i hci with hi | hi
  ·rw [add_bit, Bool.or_eq_true] at hi
   rcases hi with hi | hi
   ·exact .inl hi
   ·right; rw [← of_decide_eq_true hi]; exact h1
  ·exact .inr hi
theorem Ind.out_one (h : Ind m I) {s z Y : Nat} (hs : I s) (hz8 : z < 8) (hz : s.testBit z = false) (hd : ¬ I (s ||| 2 ^ z)) (hJ : I (dif s Y ||| 2 ^ z)) : ∃ y, y < 8 ∧ s.testBit y = true ∧ Y.testBit y = true ∧ I (swp s y z) := by
 have hs256 := h.lt hs
 have hYz : (dif s Y).testBit z = false := by rw [dif_bit, hz]; rfl
 have hpJ := eK hz8 hYz
 have hle : pc (dif s Y) ≤ pc s := kF (b8.2 fun i hi => by rw [dif_bit, Bool.and_eq_true] at hi; exact hi.1)
 have hlt : pc (dif s Y) < pc s := by
  refine Classical.byContradiction fun hc => ?_
  have e : dif s Y = s := fJ (eC hs256) hs256 (b8.2 fun i hi => by rw [dif_bit, Bool.and_eq_true] at hi; exact hi.1) (by omega)
  rw [e] at hJ; exact hd hJ
 obtain ⟨c, hc, hsub, hin, hpc⟩ := h.fill (pc s - pc (dif s Y ||| 2 ^ z)) _ s hJ hs (by omega)
 have hcz : c.testBit z = true := b8.1 hsub z (by rw [add_bit]; simp)
 have hex : ∃ y, s.testBit y = true ∧ c.testBit y = false := by
  refine Classical.byContradiction fun hn => hd (h.down _ c hc (b8.2 fun i hi => ?_))
  rw [add_bit, Bool.or_eq_true] at hi
  rcases hi with hi | hi
  ·cases hci : c.testBit i
   ·exact absurd ⟨i, hi, hci⟩ hn
   ·rfl
  ·rw [← of_decide_eq_true hi]; exact hcz
 obtain ⟨y, hy, hcy⟩ := hex
 have hy8 : y < 8 := fR (m := 8) hs256 hy
 have hYy : Y.testBit y = true := by
  cases hv : Y.testBit y
  ·have : c.testBit y = true := b8.1 hsub y (by rw [add_bit, dif_bit, hy, hv]; rfl)
   rw [hcy] at this; cases this
  ·rfl
 refine ⟨y, hy8, hy, hYy, ?_⟩
 have e : c = swp s y z := by
  refine fJ (h.lt hc) (Nat.or_lt_two_pow (n := 8) (eC hs256) (dg hz8)) (b8.2 fun i hi => ?_) ?_
  ·rw [swp_bit]
   have hyi : ¬ y = i := by rintro rfl; rw [hcy] at hi; cases hi
   rcases hin i hi with h1 | h1
   ·rw [add_bit, Bool.or_eq_true] at h1
    rcases h1 with h1 | h1
    ·rw [dif_bit, Bool.and_eq_true] at h1
     simp [h1.1, hyi]
    ·simp [of_decide_eq_true h1]
   ·simp [h1, hyi]
  ·rw [jr hy8 hz8 hy hz, hpc]; exact Nat.le_refl _
 rw [← e]; exact hc
theorem nm (m : Nat) (R : Nat → Prop) : ∃ U, U < 2 ^ m ∧ ∀ i, U.testBit i = true ↔ i < m ∧ R i := by
 have : ∀ n, n ≤ m → ∃ U, U < 2 ^ m ∧ ∀ i, (U.testBit i = true ↔ i < n ∧ R i) := by
  intro n
  induction n with
  | zero => intro _; exact ⟨0, Nat.two_pow_pos m, fun i => by simp⟩
  | succ n ih =>
   intro hn
   obtain ⟨U, hU, hb⟩ := ih (by omega)
   by_cases hr : R n
   ·refine ⟨U ||| 2 ^ n, iY hU (dg (by omega)), fun i => ?_⟩
    rw [add_bit, Bool.or_eq_true, hb, decide_eq_true_eq]
    constructor
    ·rintro (⟨a, b⟩ | rfl)
     ·exact ⟨by omega, b⟩
     ·exact ⟨by omega, hr⟩
    ·rintro ⟨a, b⟩
     by_cases e : n = i
     ·exact .inr e
     ·exact .inl ⟨by omega, b⟩
   ·refine ⟨U, hU, fun i => ?_⟩
    rw [hb]
    constructor
    ·rintro ⟨a, b⟩; exact ⟨by omega, b⟩
    ·rintro ⟨a, b⟩
     refine ⟨?_, b⟩
     have : ¬ i = n := by rintro rfl; exact hr b
     omega
 exact this m (Nat.le_refl _)
theorem Mat.base_of {m : Nat} {L : List Nat} (h : Mat m L) {s b : Nat} (hb : b ∈ L) (hs : indN L s = true) (hp : pc s = pc b) : s ∈ L := by
 obtain ⟨x, hx, hsub⟩ := indN_iff.1 hs
 have e : s = x := fJ ((Mat.ind h).lt hs) (h.lt x hx) hsub (by rw [hp, h.card hb hx]; exact Nat.le_refl _)
 rw [e]; exact hx
theorem Mat.ind_le {m : Nat} {L : List Nat} (h : Mat m L) {s b : Nat} (hb : b ∈ L) (hs : indN L s = true) : pc s ≤ pc b := by
 obtain ⟨x, hx, hsub⟩ := indN_iff.1 hs
 rw [h.card hb hx]; exact kF hsub
theorem Mat.base_ind {L : List Nat} {b : Nat} (hb : b ∈ L) : indN L b = true := indN_iff.2 ⟨b, hb, ee b⟩
theorem Mat.sym {m : Nat} {L : List Nat} (h : Mat m L) {b c e : Nat} (hb : b ∈ L) (hc : c ∈ L) (he8 : e < 8) (he : b.testBit e = true) (hce : c.testBit e = false) :
  ∃ f, f < 8 ∧ c.testBit f = true ∧ b.testBit f = false ∧ swp b e f ∈ L ∧ swp c f e ∈ L := by
 have hI := Mat.ind h
 have hbI := Mat.base_ind hb
 have hcI := Mat.base_ind hc
 refine Classical.byContradiction fun hcon => ?_
 obtain ⟨F, hF, hFb⟩ := nm m (fun f => c.testBit f = true ∧ indN L (swp c f e) = true)
 have hFc : subN F c := b8.2 fun i hi => ((hFb i).1 hi).2.1
 have hFI : indN L F = true := hI.down F c hcI hFc
 have hm8 := h.size
 have hce' : ¬ indN L (c ||| 2 ^ e) = true := fun hx => by
  have := Mat.ind_le h hc hx
  rw [eK he8 hce] at this; omega
 have hFe : F.testBit e = false := by
  cases hx : F.testBit e
  ·rfl
  ·rw [((hFb e).1 hx).2.1] at hce; cases hce
 have hdF : dif c (dif c F) = F := by
  apply Nat.eq_of_testBit_eq
  intro i
  rw [dif_bit, dif_bit]
  cases hx : F.testBit i
  ·cases c.testBit i <;> simp
  ·rw [b8.1 hFc i hx]; rfl
 have hFe' : ¬ indN L (F ||| 2 ^ e) = true := by
  intro hx
  rw [← hdF] at hx
  obtain ⟨y, hy8, hyc, hyF, hyI⟩ := hI.out_one hcI he8 hce hce' hx
  rw [dif_bit, hyc, Bool.true_and, Bool.not_eq_true'] at hyF
  rw [(hFb y).2 ⟨fR (h.sets c hc) hyc, hyc, hyI⟩] at hyF
  cases hyF
 have hdel := eU he8 he
 have hKI : indN L (dif b (2 ^ e)) = true := hI.down _ b hbI (b8.2 fun i hi => by rw [del_bit, Bool.and_eq_true] at hi; exact hi.1)
 have hK : ∀ f, f < 8 → F.testBit f = true → (dif b (2 ^ e)).testBit f = false → ¬ indN L (dif b (2 ^ e) ||| 2 ^ f) = true := by
  intro f hf hFf hKf hx
  obtain ⟨_, hcf, hsw⟩ := (hFb f).1 hFf
  have hfe : ¬ e = f := by rintro rfl; rw [hcf] at hce; cases hce
  have hbf : b.testBit f = false := by rw [del_bit] at hKf; simpa [hfe] using hKf
  exact hcon ⟨f, hf, hcf, hbf, Mat.base_of h hb hx (jr he8 hf he hbf), Mat.base_of h hc hsw (jr hf he8 hcf hce)⟩
 have hle : pc F ≤ pc (dif b (2 ^ e)) := by
  refine Classical.byContradiction fun hn => ?_
  obtain ⟨f, hf, f1, f2, f3⟩ := hI.aug _ _ hKI hFI (by omega)
  exact hK f hf f1 f2 f3
 obtain ⟨K, hKK, hFK, hin, hpK⟩ := hI.fill (pc (dif b (2 ^ e)) - pc F) F _ hFI hKI (by omega)
 obtain ⟨x, hx8, hxb, hxK, hxI⟩ := hI.aug K b hKK hbI (by omega)
 by_cases hxe : e = x
 ·subst hxe
  refine hFe' (hI.down _ _ hxI (b8.2 fun i hi => ?_))
  rw [add_bit, Bool.or_eq_true] at hi ⊢
  exact hi.imp (b8.1 hFK i) id
 ·obtain ⟨y, hy8, hyK, hyn, hyI⟩ := hI.aug _ _ hKI hxI (by rw [eK hx8 hxK]; omega)
  have hyF : F.testBit y = true := by
   rw [add_bit, Bool.or_eq_true] at hyK
   rcases hyK with hyK | hyK
   ·rcases hin y hyK with h1 | h1
    ·exact h1
    ·rw [hyn] at h1; cases h1
   ·have hxy := of_decide_eq_true hyK
    rw [← hxy, del_bit, hxb] at hyn
    simp [hxe] at hyn
  exact hK y hy8 hyF hyn hyI
theorem km {m : Nat} {L : List Nat} (h : Mat m L) (f : Nat → Int) {c : Nat} (hc : c ∈ L) (hloc : ∀ b ∈ L, pc (dif c b) = 1 → wsum f b ≤ wsum f c) : ∀ (d b : Nat), b ∈ L → pc (dif b c) = d → wsum f b ≤ wsum f c := by
 intro d
 induction d with
 | zero =>
  intro b hb hd
  have e : b = c := fJ (h.lt b hb) (h.lt c hc) (b8.2 fun i hi => by
   cases hci : c.testBit i
   ·have : 0 < pc (dif b c) := jp (fR (m := 8) (h.lt b hb) hi) (by rw [dif_bit, hi, hci]; rfl)
    omega
   ·rfl) (by rw [h.card hb hc]; exact Nat.le_refl _)
  rw [e]; exact Int.le_refl _
 | succ d ih =>
  intro b hb hd
  obtain ⟨e, he8, hde⟩ := fy (a := dif b c) (by omega)
  rw [dif_bit, Bool.and_eq_true, Bool.not_eq_true'] at hde
  obtain ⟨x, hx8, hcx, hbx, hb', hc'⟩ := Mat.sym h hb hc he8 hde.1 hde.2
  have hex : ¬ e = x := by rintro rfl; rw [hde.2] at hcx; cases hcx
  have k1 : wsum f (swp c x e) ≤ wsum f c := hloc _ hc' (by
   have e1 : dif c (swp c x e) = 2 ^ x := by
    apply Nat.eq_of_testBit_eq
    intro i
    rw [dif_bit, swp_bit, Nat.testBit_two_pow]
    by_cases h1 : x = i
    ·subst h1; simp [hcx, hex]
    ·by_cases h2 : e = i
     ·subst h2; simp [hde.2, h1]
     ·simp [h1, h2]
   rw [e1, il hx8])
  have k2 := ih (swp b e x) hb' (by
   have e1 : dif (swp b e x) c = dif (dif b c) (2 ^ e) := by
    apply Nat.eq_of_testBit_eq
    intro i
    rw [dif_bit, swp_bit, del_bit, dif_bit]
    by_cases hi : x = i
    ·subst hi; rw [hcx, hbx]; simp
    ·simp [hi]
     cases b.testBit i <;> cases c.testBit i <;> simp
   rw [e1]
   have := eU (a := dif b c) he8 (by rw [dif_bit, hde.1, hde.2]; rfl)
   omega)
  have w1 := gL f he8 hde.1
  have w2 := fL f (s := dif b (2 ^ e)) hx8 (by rw [del_bit, hbx]; rfl)
  have w3 := gL f hx8 hcx
  have w4 := fL f (s := dif c (2 ^ x)) he8 (by rw [del_bit, hde.2]; rfl)
  unfold swp at k1 k2
  omega
theorem ik {n : Int} {l w : List Int} (h : matB n l = true) (hw : areW n w = true) : ∃ (m : Nat) (L : List Nat) (b : Nat), n = m ∧ l = ints L ∧ Mat m L ∧ gbB n l w = ((b : Int), true) ∧ b ∈ L ∧ ∀ c ∈ L, wS w c ≤ wS w b := by
 have h' := h
 obtain ⟨m, L, rfl, rfl, hM, _⟩ := dN h
 obtain ⟨x, hx⟩ := List.exists_mem_of_ne_nil L hM.some
 have hr := e0 h' hM x hx
 have hlen := eX hM w hx
 obtain ⟨t1, t2, t3⟩ := eW hM w
 refine ⟨m, L, orL 0 (takN m L w), rfl, rfl, hM, ?_, ?_, ?_⟩
 ·unfold gbB bosB
  rw [if_pos ⟨hw, by omega, Int.le_refl _⟩, show (ints L).map Int.toNat = L from cq L, Int.toNat_natCast, hr, Int.toNat_natCast, ← hlen, List.take_length]
 ·refine Mat.base_of hM hx ?_ ?_
  ·have := t3 (takN m L w).length
   rwa [List.take_length] at this
  ·rw [kH _ t2 (fun e he => by have := t1 e he; have := hM.size; omega), hlen]
 ·intro c hc
  have hcx : pc c = pc x := hM.card hc hx
  have h3 := (iT hM w (pc c) c (indN_iff.2 ⟨c, hc, ee c⟩) rfl).2
  rw [hcx, ← hlen, List.take_length] at h3
  rw [e5, e5]
  exact h3
theorem jV {m : Nat} {L : List Nat} (hM : Mat m L) {w : List Int} (hw : areW (m : Int) w = true) (hB : matB (m : Int) (ints L) = true) {c : Nat} (hc : c ∈ L) : dY (m : Int) (ints L) w (c : Int) = true ↔ ∀ b ∈ L, wS w b ≤ wS w c := by
 have hb := (cS hw).1
 unfold dY im
 rw [hB, hw, Bool.true_and, Bool.true_and, gQ.2 hc, Bool.true_and, Int.toNat_natCast, show (ints L).map Int.toNat = L from cq L, List.all_eq_true]
 have e : ∀ b ∈ L, (!(decide (pc (dif c b) = 1) && decide (bN w (b : Int) > bN w (c : Int)))) = true ↔ (pc (dif c b) = 1 → wS w b ≤ wS w c) := by
  intro b hbL
  rw [ct hb (hM.lt b hbL), ct hb (hM.lt c hc), Bool.not_eq_true', Bool.and_eq_false_iff, decide_eq_false_iff_not, decide_eq_false_iff_not]
  constructor
  ·rintro (h | h) h1
   ·exact absurd h1 h
   ·omega
  ·intro h
   by_cases h1 : pc (dif c b) = 1
   ·right; have := h h1; omega
   ·exact .inl h1
 constructor
 ·intro h b hbL
  rw [e5, e5]
  exact km hM _ hc (fun x hx hd => by
   have := (e x hx).1 (h x hx) hd
   rwa [e5, e5] at this) _ b hbL rfl
 ·intro h b hbL
  exact (e b hbL).2 (fun _ => h b hbL)
theorem jc : ∀ (l : List Int) (s : Int), s ≤ maxI s l ∧ ∀ x ∈ l, x ≤ maxI s l := by
 intro l
 induction l with
 | nil => intro s; exact ⟨Int.le_refl _, fun x hx => absurd hx (List.not_mem_nil)⟩
 | cons y l ih =>
  intro s
  rw [maxI_cons]
  have h := ih (max s y)
  refine ⟨by have := h.1; omega, fun x hx => ?_⟩
  rcases List.mem_cons.1 hx with rfl | hx
  ·have := h.1; omega
  ·exact h.2 x hx
theorem mW : ∀ (l : List Int) (s : Int), maxI s l = s ∨ maxI s l ∈ l := by
 intro l
 induction l with
 | nil => intro s; exact .inl rfl
 | cons y l ih =>
  intro s
  rw [maxI_cons]
  rcases ih (max s y) with h | h
  ·by_cases hc : y ≤ s
   ·left; rw [h]; omega
   ·right; rw [h, show max s y = y from by omega]; exact List.mem_cons_self ..
  ·exact .inr (List.mem_cons_of_mem _ h)
theorem jA {l : List Int} {s : Int} (hne : l ≠ []) (h : ∀ x ∈ l, s ≤ x) : maxI s l ∈ l := by
 rcases mW l s with e | e
 ·obtain ⟨x, hx⟩ := List.exists_mem_of_ne_nil l hne
  have h1 := h x hx
  have h2 := (jc l s).2 x hx
  rw [show maxI s l = x from by omega]; exact hx
 ·exact e
theorem iN {w : List Int} {e : Nat} {x : Int} : ∀ {L : List Nat}, x ∈ dE w e L ↔ ∃ b ∈ L, b.testBit e = false ∧ x = wS w b := by
 intro L
 induction L with
 | nil => simp [dE]
 | cons b L ih =>
  simp only [dE]
  by_cases hb : b.testBit e = true
  ·rw [if_pos hb, ih]
   constructor
   ·rintro ⟨c, hc, h⟩; exact ⟨c, List.mem_cons_of_mem _ hc, h⟩
   ·rintro ⟨c, hc, h, hx⟩
    rcases List.mem_cons.1 hc with rfl | hc
    ·rw [hb] at h; cases h
    ·exact ⟨c, hc, h, hx⟩
  ·rw [if_neg hb, List.mem_cons, ih]
   constructor
   ·rintro (rfl | ⟨c, hc, h⟩)
    ·exact ⟨b, List.mem_cons_self .., by simpa using hb, rfl⟩
    ·exact ⟨c, List.mem_cons_of_mem _ hc, h⟩
   ·rintro ⟨c, hc, h, hx⟩
    rcases List.mem_cons.1 hc with rfl | hc
    ·exact .inl hx
    ·exact .inr ⟨c, hc, h, hx⟩
theorem gD {w : List Int} {e : Nat} {x : Int} : ∀ {L : List Nat}, x ∈ inOf w e L ↔ ∃ b ∈ L, b.testBit e = true ∧ x = wS w (dif b (2 ^ e)) := by
 intro L
 induction L with
 | nil => simp [inOf]
 | cons b L ih =>
  simp only [inOf]
  by_cases hb : b.testBit e = true
  ·rw [if_pos hb, List.mem_cons, ih]
   constructor
   ·rintro (rfl | ⟨c, hc, h⟩)
    ·exact ⟨b, List.mem_cons_self .., hb, rfl⟩
    ·exact ⟨c, List.mem_cons_of_mem _ hc, h⟩
   ·rintro ⟨c, hc, h, hx⟩
    rcases List.mem_cons.1 hc with rfl | hc
    ·exact .inl hx
    ·exact .inr ⟨c, hc, h, hx⟩
  ·rw [if_neg hb, ih]
   constructor
   ·rintro ⟨c, hc, h⟩; exact ⟨c, List.mem_cons_of_mem _ hc, h⟩
   ·rintro ⟨c, hc, h, hx⟩
    rcases List.mem_cons.1 hc with rfl | hc
    ·exact absurd h hb
    ·exact ⟨c, hc, h, hx⟩
theorem le {n : Int} {l w : List Int} {e y : Int} (h : thrB n l w e = (y, true)) : ∃ (m : Nat) (L : List Nat) (f : Nat), n = m ∧ l = ints L ∧ Mat m L ∧ e = f ∧ f < m ∧ areW n w = true ∧ matB n l = true ∧ (y ≤ rd w (f : Int) ↔ ∃ b ∈ L, b.testBit f = true ∧ ∀ c ∈ L, wS w c ≤ wS w b) := by
 unfold thrB at h
 by_cases hm : matB n l = true
 ·rw [if_pos hm] at h
  by_cases hw : areW n w = true
  ·rw [if_pos hw] at h
   by_cases he : 0 ≤ e ∧ e < n
   ·rw [if_pos he] at h
    have hm' := hm
    obtain ⟨m, L, rfl, rfl, hM, _⟩ := dN hm
    obtain ⟨f, rfl⟩ : ∃ f : Nat, e = f := ⟨e.toNat, by omega⟩
    have hf : f < m := by omega
    have hm8 := hM.size
    have hwb := (cS hw).1
    have hwl := (cS hw).2
    rw [show (ints L).map Int.toNat = L from cq L, Int.toNat_natCast, Int.toNat_natCast] at h
    have hfb : (cr m).testBit f = true := by rw [full_bit]; exact decide_eq_true hf
    rw [g7, coloopsN_bit, hfb, Bool.true_and, Bool.true_and] at h
    by_cases h1 : (L.all fun b => !b.testBit f) = true
    ·rw [if_pos h1] at h; cases h
    ·rw [if_neg h1] at h
     by_cases h2 : (L.all fun b => b.testBit f) = true
     ·rw [if_pos h2] at h; cases h
     ·rw [if_neg h2] at h
      obtain ⟨p, hp, hpf⟩ : ∃ p ∈ L, p.testBit f = true := by
       apply Classical.byContradiction; intro hn
       exact h1 (List.all_eq_true.2 (fun b hb => by
        cases hx : b.testBit f
        ·rfl
        ·exact absurd ⟨b, hb, hx⟩ hn))
      obtain ⟨q, hq, hqf⟩ : ∃ q ∈ L, q.testBit f = false := by
       apply Classical.byContradiction; intro hn
       exact h2 (List.all_eq_true.2 (fun b hb => by
        cases hx : b.testBit f
        ·exact absurd ⟨b, hb, hx⟩ hn
        ·rfl))
      have hA : maxI (-8000) (dE w f L) ∈ dE w f L := jA (gP hq hqf) (fun x hx => by
       obtain ⟨b, rfl⟩ := iV hx; exact (en hwb b).1)
      have hB : maxI (-8000) (inOf w f L) ∈ inOf w f L := jA (iU hp hpf) (fun x hx => by
       obtain ⟨b, rfl⟩ := jt hx; exact (en hwb b).1)
      have gA := (jc (dE w f L) (-8000)).2
      have gB := (jc (inOf w f L) (-8000)).2
      generalize maxI (-8000) (dE w f L) = A at h hA gA
      generalize maxI (-8000) (inOf w f L) = B at h hB gB
      obtain ⟨a, haL, haf, hAe⟩ := iN.1 hA
      obtain ⟨b, hbL, hbf, hBe⟩ := gD.1 hB
      have ba := en hwb a
      have bb := en hwb (dif b (2 ^ f))
      rw [be (by omega) (by omega)] at h
      have hy : y = A - B := (congrArg Prod.fst h).symm
      have hdel : ∀ c : Nat, c.testBit f = true → wS w c = wS w (dif c (2 ^ f)) + rd w (f : Int) := fun c hc => mq (by omega) (by omega) hc
      refine ⟨m, L, f, rfl, rfl, hM, rfl, hf, hw, hm', ?_, ?_⟩
      ·intro hr
       refine ⟨b, hbL, hbf, fun c hc => ?_⟩
       have e1 := hdel b hbf
       cases hcf : c.testBit f
       ·have := gA _ (iN.2 ⟨c, hc, hcf, rfl⟩); omega
       ·have := gB _ (gD.2 ⟨c, hc, hcf, rfl⟩); have := hdel c hcf; omega
      ·rintro ⟨c, hc, hcf, hall⟩
       have e1 := hall a haL
       have e2 := hdel c hcf
       have e3 := gB _ (gD.2 ⟨c, hc, hcf, rfl⟩)
       omega
   ·rw [if_neg he] at h; cases h
  ·rw [if_neg hw] at h; cases h
 ·rw [if_neg hm] at h; cases h
end Go.Proofs.YtimkekeaeojpkaaGreat.Q
namespace Go.Proofs.YtimkekeaeojpkaaGreat.Q
open Go Go.RowKit Go.Proofs.YtimkekeaeojpkaaGreat.A Go.Proofs.YtimkekeaeojpkaaGreatW.PrintWords Go.Proofs.YtimkekeaeojpkaaGreatW.PrintLast Go.Proofs.YtimkekeaeojpkaaGreatW.PrintMore Go.Proofs.YtimkekeaeojpkaaGreat.Z
set_option linter.unusedVariables false
set_option linter.unusedSimpArgs false
def ExE {α : Type} (g : Nat → Option α) (P : α → Prop) : Prop := ∃ r, Ev g r ∧ P r
theorem ExE.now {α : Type} {r : α} {P : α → Prop} (h : P r) : ExE (fun _ => some r) P := ⟨r, Ev.now _, h⟩
theorem ExE.bind {α β : Type} {g : Nat → Option α} {f : Nat → α → Option β} {P : α → Prop} {R : β → Prop} (h : ExE g P) (k : ∀ a, P a → ExE (fun n => f n a) R) : ExE (fun n => (g n).bind (f n)) R := by
 obtain ⟨a, ha, hp⟩ := h
 obtain ⟨b, hb, hr⟩ := k a hp
 exact ⟨b, Ev.bind ha hb, hr⟩
theorem ExE.cbind {α β : Type} {g : Option α} {f : Nat → α → Option β} {P : α → Prop} {R : β → Prop} (h : ∃ a, g = some a ∧ P a) (k : ∀ a, P a → ExE (fun n => f n a) R) : ExE (fun n => g.bind (f n)) R := by
 obtain ⟨a, ha, hp⟩ := h
 obtain ⟨b, hb, hr⟩ := k a hp
 exact ⟨b, Ev.cbind ha hb, hr⟩
theorem ExE.ev {α β : Type} {g : Nat → Option α} {f : Nat → α → Option β} {a : α} {R : β → Prop} (h : Ev g a) (k : ExE (fun n => f n a) R) : ExE (fun n => (g n).bind (f n)) R := by
 obtain ⟨b, hb, hr⟩ := k
 exact ⟨b, Ev.bind h hb, hr⟩
theorem ExE.ite {α : Type} {c : Prop} [Decidable c] {g f : Nat → Option α} {P : α → Prop} (h : c → ExE g P) (k : ¬ c → ExE f P) : ExE (fun n => if c then g n else f n) P := by
 by_cases hc : c
 ·obtain ⟨r, hr, hp⟩ := h hc; exact ⟨r, Ev.ifp hc hr, hp⟩
 ·obtain ⟨r, hr, hp⟩ := k hc; exact ⟨r, Ev.ifn hc hr, hp⟩
theorem ExE.ifp {α : Type} {c : Prop} [Decidable c] {g f : Nat → Option α} {P : α → Prop} (hc : c) (h : ExE g P) : ExE (fun n => if c then g n else f n) P := ExE.ite (fun _ => h) (fun k => absurd hc k)
theorem ExE.step {α : Type} {g f : Nat → Option α} {P : α → Prop} (h : ∀ k, g (k + 1) = f k) (k : ExE f P) : ExE g P := by
 obtain ⟨r, hr, hp⟩ := k
 exact ⟨r, Ev.step h hr, hp⟩
theorem ExE.imp {α : Type} {g : Nat → Option α} {P R : α → Prop} (h : ExE g P) (k : ∀ a, P a → R a) : ExE g R := by
 obtain ⟨r, hr, hp⟩ := h
 exact ⟨r, hr, k r hp⟩
theorem ExE.of {α : Type} {g : Nat → Option α} {r : α} {P : α → Prop} (h : Ev g r) (hp : P r) : ExE g P := ⟨r, h, hp⟩
theorem jb (v : Int) : 0 ≤ Go.bits .and .i64 v 255 ∧ Go.bits .and .i64 v 255 < 256 := by
 have h : ∀ n : Nat, n ≤ 255 → IntKind.i64.wrap (n : Int) = (n : Int) := fun n hn => dO (by omega)
 simp only [Go.bits, BitVec.toNat_and]
 have hle : (BitVec.ofInt IntKind.i64.bits v).toNat &&& (BitVec.ofInt IntKind.i64.bits 255).toNat ≤ 255 := Nat.le_trans Nat.and_le_right (by decide)
 rw [h _ hle]
 omega
theorem eE {b : List Int} (hb : b.length ≤ 17592186044416) {p h : Int} (hp : 0 ≤ p) : ∃ r, cg.f b p h = some r ∧ 0 ≤ r.1 ∧ r.1 < 256 ∧ 0 ≤ r.2.1 := by
 unfold cg.f
 by_cases h1 : p < (b.length : Int)
 ·rw [if_pos h1, if_pos hp]
  exact ⟨_, rfl, (jb _).1, (jb _).2, by show 0 ≤ wrap64 (p + 1); rw [be (n := p + 1) (by omega) (by omega)]; omega⟩
 ·rw [if_neg h1]
  exact ⟨_, rfl, (jb _).1, (jb _).2, hp⟩
theorem kU {x n : Int} (hx : 0 ≤ x) (hn : 0 < n) : 0 ≤ Int.tmod x n ∧ Int.tmod x n < n := by
 rw [Int.tmod_eq_emod_of_nonneg hx]
 exact ⟨Int.emod_nonneg _ (by omega), Int.emod_lt_of_pos _ hn⟩
theorem b5 {b : List Int} (hb : b.length ≤ 17592186044416) {p h : Int} (hp : 0 ≤ p) (n : Int) : ∃ r, ak.f b p h n = some r ∧ 0 ≤ r.1 ∧ (0 < n → r.1 < n) ∧ (n ≤ 0 → r.1 = 0) ∧ 0 ≤ r.2.1 := by
 unfold ak.f
 by_cases h1 : n ≤ 0
 ·rw [if_pos h1]
  exact ⟨_, rfl, Int.le_refl _, fun h => by omega, fun _ => rfl, hp⟩
 rw [if_neg h1]
 have hn : ¬ n = 0 := by omega
 by_cases h2 : n ≤ 256
 ·rw [if_pos h2]
  obtain ⟨r, e, r1, r2, r3⟩ := eE hb (h := h) hp
  rw [e, Option.bind_some, if_neg hn]
  have := kU r1 (show 0 < n by omega)
  exact ⟨_, rfl, this.1, fun _ => this.2, fun h => absurd h h1, r3⟩
 ·rw [if_neg h2]
  obtain ⟨x, e, x1, x2, x3⟩ := eE hb (h := h) hp
  rw [e, Option.bind_some]
  obtain ⟨y, e, y1, y2, y3⟩ := eE hb (h := x.2.2) x3
  rw [e, Option.bind_some]
  obtain ⟨z, e, z1, z2, z3⟩ := eE hb (h := y.2.2) y3
  rw [e, Option.bind_some]
  obtain ⟨w, e, w1, w2, w3⟩ := eE hb (h := z.2.2) z3
  rw [e, Option.bind_some, if_neg hn]
  have e1 : 0 ≤ wrap64 ((wrap64 ((wrap64 ((wrap64 (x.1 * 16777216)) + (wrap64 (y.1 * 65536)))) + (wrap64 (z.1 * 256)))) + w.1) := by
   rw [be (n := x.1 * 16777216) (by omega) (by omega), be (n := y.1 * 65536) (by omega) (by omega), be (n := z.1 * 256) (by omega) (by omega)]
   rw [be (n := x.1 * 16777216 + y.1 * 65536) (by omega) (by omega), be (n := x.1 * 16777216 + y.1 * 65536 + z.1 * 256) (by omega) (by omega), be (by omega) (by omega)]
   omega
  have := kU e1 (show 0 < n by omega)
  exact ⟨_, rfl, this.1, fun _ => this.2, fun h => absurd h h1, w3⟩
theorem iA {b : List Int} (hb : b.length ≤ 17592186044416) {p h : Int} (hp : 0 ≤ p) (n : Int) : ∃ r, cJ.f b p h n = some r ∧ 0 ≤ r.2.1 := by
 unfold cJ.f
 obtain ⟨r, e, _, _, _, r3⟩ := b5 hb (h := h) hp n
 rw [e, Option.bind_some]
 exact ⟨_, rfl, r3⟩
theorem eb {b : List Int} (hb : b.length ≤ 17592186044416) {p h : Int} (hp : 0 ≤ p) {l : List Int} (hl : l ≠ []) : ∃ r, bE.f b p h l = some r ∧ r.1 ∈ l ∧ 0 ≤ r.2.1 := by
 unfold bE.f
 obtain ⟨r, e, r1, r2, _, r3⟩ := b5 hb (h := h) hp (l.length : Int)
 have h0 : 0 < l.length := List.length_pos_iff.2 hl
 have hlt := r2 (by omega)
 rw [e, Option.bind_some, if_pos r1, if_pos hlt]
 exact ⟨_, rfl, mm l r.1 r1 hlt, r3⟩
theorem gI (l : List Int) (hl : l.length ≤ 17592186044416) : ExE (fun k => bS.f k l) (fun r => r.1 = l ∧ r.2.1 = 0) := by
 unfold bS.f
 have hd := down (P := fun i => ∀ h : Int, ExE (fun k => bS.l0 k l h (i : Int)) (fun r => r.1 = l ∧ r.2.1 = 0)) l.length
  (by
   intro h
   apply ExE.step
   ·intro k
    rw [bS.l0, if_neg (by omega)]
   ·exact ExE.now ⟨rfl, rfl⟩)
  (by
   intro i hi ih h
   apply ExE.step
   ·intro k
    rw [bS.l0, if_pos (by omega), bU hi hl]
   ·refine ExE.ite (fun _ => ExE.ite (fun _ => ih _) (fun h => absurd (by omega) h)) (fun _ => ExE.now ⟨rfl, rfl⟩))
 exact hd _
end Go.Proofs.YtimkekeaeojpkaaGreat.Q
