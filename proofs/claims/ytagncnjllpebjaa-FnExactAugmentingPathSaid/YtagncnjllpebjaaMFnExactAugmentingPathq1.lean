/- The pure side of the law FnExactAugmentingPath: what the Lean functions of the print compute, and that the law holds of them. Conditions: those in each lemma. -/
import Derived.Test.YtagncnjllpebjaaMFnExactAugmentingPath1
import Derived.Test.YtagncnjllpebjaaMFnExactAugmentingPath2
import Derived.Test.YtagncnjllpebjaaMFnExactAugmentingPath3
import Derived.Test.YtagncnjllpebjaaMFnExactAugmentingPath4
import Derived.Test.YtagncnjllpebjaaMFnExactAugmentingPath5
import Derived.Test.YtagncnjllpebjaaMFnExactAugmentingPath6
import Derived.Test.YtagncnjllpebjaaMFnExactAugmentingPath7
import Derived.Test.YtagncnjllpebjaaMFnExactAugmentingPathq0
namespace Go.Proofs.Ytagncnjllpebjaa.A
open Go.RowKit
def laws_FnExactAugmentingPath.Pure : Prop := ∀ (a0_0 : Int) (l0_1 : List Int) (a1_0 : Int) (l1_1 : List Int) (a2 : Int), (Lit.int .i64 a0_0).wf = true → l0_1.length ≤ maxLen → (∀ x ∈ l0_1, (Lit.int .i64 x).wf = true) → (Lit.int .i64 a1_0).wf = true → l1_1.length ≤ maxLen → (∀ x ∈ l1_1, (Lit.int .i64 x).wf = true) → (Lit.int .i64 a2).wf = true → ∃ k, laws_FnExactAugmentingPath.f k a0_0 l0_1 a1_0 l1_1 a2 = some true
end Go.Proofs.Ytagncnjllpebjaa.A
namespace Go.Proofs.Ytagncnjllpebjaa.Q
open Go Go.RowKit Go.Proofs.Ytagncnjllpebjaa.A Go.Proofs.YtagncnjllpebjaaW.PrintWords Go.Proofs.YtagncnjllpebjaaW.PrintLast Go.Proofs.YtagncnjllpebjaaW.PrintMore Go.Proofs.Ytagncnjllpebjaa.Z
set_option linter.unusedVariables false
set_option linter.unusedSimpArgs false
theorem toInt_l0 (l : List Int) (hl : l.length ≤ 17592186044416) : ∀ (rest pre : List Int), l = pre ++ rest → Ev (fun k => laws_toIntS.l0 k l (pre ++ List.replicate rest.length 0) (pre.length : Int)) l := by
  intro rest
  induction rest with
  | nil =>
    intro pre h
    apply Ev.step
    · intro k
      simp only [laws_toIntS.l0]
      rw [if_neg (by rw [h]; simp)]
    · subst h; simpa using Ev.now _
  | cons x rest ih =>
    intro pre h
    have hlen : (pre.length : Int) < (l.length : Int) := by rw [h]; simp; omega
    apply Ev.step
    · intro k
      simp only [laws_toIntS.l0]
      rw [if_pos hlen, if_pos (by omega), if_pos (by simp; omega)]
    · have := ih (pre ++ [x]) (by rw [h]; simp)
      have e : wrap64 ((pre.length : Int) + 1) = ((pre ++ [x]).length : Int) := by
        rw [wrap64_of (by omega) (by omega)]; simp
      rw [e]
      have e2 : (pre ++ List.replicate (x :: rest).length 0).set (pre.length : Int).toNat (rd l (pre.length : Int)) = (pre ++ [x]) ++ List.replicate rest.length 0 := by
        have : rd l (pre.length : Int) = x := by rw [h]; exact rd_mid _ _ _
        rw [this]
        simp [List.replicate_succ]
      rw [e2]
      exact this
theorem toInt_ev (l : List Int) (hl : l.length ≤ 17592186044416) : Ev (fun k => laws_toIntS.f k l) l := by
  unfold laws_toIntS.f
  refine Ev.ifp (by omega) (Ev.ifp (by simp; omega) ?_)
  simpa using toInt_l0 l hl l [] rfl
theorem eqInt_l0 (l : List Int) (hl : l.length ≤ 17592186044416) (l' : List Int) (hll : l'.length = l.length) : ∀ (rest rest' pre : List Int), l = pre ++ rest → l' = pre ++ rest' → Ev (fun k => laws_eqIntS.l0 k l l' (pre.length : Int)) (decide (l = l')) := by
  intro rest
  induction rest with
  | nil =>
    intro rest' pre h h'
    have : rest' = [] := by
      apply List.eq_nil_of_length_eq_zero
      have h1 := congrArg List.length h
      have h2 := congrArg List.length h'
      rw [List.length_append] at h1 h2
      simp only [List.length_nil] at h1
      omega
    subst this
    apply Ev.step
    · intro k
      simp only [laws_eqIntS.l0]
      rw [if_neg (by rw [h]; simp)]
    · have : l = l' := by rw [h, h']
      simpa [this] using Ev.now _
  | cons x rest ih =>
    intro rest' pre h h'
    have hlen : (pre.length : Int) < (l.length : Int) := by rw [h]; simp; omega
    cases rest' with
    | nil => exact absurd hll (by rw [h, h']; simp)
    | cons y rest' =>
    have e1 : rd l (pre.length : Int) = x := by rw [h]; exact rd_mid _ _ _
    have e2 : rd l' (pre.length : Int) = y := by rw [h']; exact rd_mid _ _ _
    by_cases hxy : x = y
    · subst hxy
      apply Ev.step
      · intro k
        simp only [laws_eqIntS.l0]
        rw [if_pos hlen, if_pos (by omega), if_pos (by omega), if_pos (by rw [e1, e2])]
      · have := ih rest' (pre ++ [x]) (by rw [h]; simp) (by rw [h']; simp)
        have e : wrap64 ((pre.length : Int) + 1) = ((pre ++ [x]).length : Int) := by
          rw [wrap64_of (by omega) (by omega)]; simp
        rw [e]
        exact this
    · apply Ev.step
      · intro k
        simp only [laws_eqIntS.l0]
        rw [if_pos hlen, if_pos (by omega), if_pos (by omega), if_neg (by rw [e1, e2]; exact hxy)]
      · have : l ≠ l' := by rw [h, h']; simp [hxy]
        simpa [this] using Ev.now _
theorem eqInt_ev (l l' : List Int) (hl : l.length ≤ 17592186044416) : Ev (fun k => laws_eqIntS.f k l l') (decide (l = l')) := by
  unfold laws_eqIntS.f
  by_cases h : (l.length : Int) = (l'.length : Int)
  · refine Ev.ifp h ?_
    exact eqInt_l0 l hl l' (by omega) l l' [] rfl rfl
  · refine Ev.ifn h ?_
    have : l ≠ l' := by rintro rfl; exact h rfl
    simpa [this] using Ev.now _
theorem eqInt_self (l : List Int) (hl : l.length ≤ 17592186044416) : Ev (fun k => laws_eqIntS.f k l l) true := by simpa using eqInt_ev l l hl
end Go.Proofs.Ytagncnjllpebjaa.Q
namespace Go.Proofs.Ytagncnjllpebjaa.Q
open Go Go.RowKit Go.Proofs.Ytagncnjllpebjaa.A Go.Proofs.YtagncnjllpebjaaW.PrintWords Go.Proofs.YtagncnjllpebjaaW.PrintLast Go.Proofs.YtagncnjllpebjaaW.PrintMore Go.Proofs.Ytagncnjllpebjaa.Z
set_option linter.unusedVariables false
set_option linter.unusedSimpArgs false
theorem szMat_eq (n : Int) (l : List Int) (left : Int) (h0 : 0 ≤ left) (h1 : left ≤ 1048576) (hl : l.length ≤ maxLen) : laws_szMatroid.f n l left = some (if (l.length : Int) > left then -1 else left - (l.length : Int)) := by
  unfold maxLen at hl
  unfold laws_szMatroid.f laws_szIntS.f
  rw [wrap64_of (by omega) (by omega)]
  by_cases h : (l.length : Int) > left
  · rw [if_pos h, if_pos (by omega), Option.bind_some, if_pos (by decide)]
  · rw [if_neg h, if_neg (by omega), Option.bind_some, if_neg (by omega)]
theorem toMat_ev (n : Int) (l : List Int) (hl : l.length ≤ 17592186044416) : Ev (fun k => laws_toMatroid.f k n l) (n, l) := by
  unfold laws_toMatroid.f
  exact Ev.bind (toInt_ev l hl) (Ev.now _)
theorem eqMat_ev (n : Int) (l : List Int) (hl : l.length ≤ 17592186044416) : Ev (fun k => laws_eqMatroid.f k n l n l) true := by
  unfold laws_eqMatroid.f
  refine Ev.ifp rfl (Ev.bind (eqInt_self l hl) (Ev.ifp rfl (Ev.now _)))
end Go.Proofs.Ytagncnjllpebjaa.Q
namespace Go.Proofs.Ytagncnjllpebjaa.Q
open Go Go.RowKit Go.Proofs.Ytagncnjllpebjaa.A Go.Proofs.YtagncnjllpebjaaW.PrintWords Go.Proofs.YtagncnjllpebjaaW.PrintLast Go.Proofs.YtagncnjllpebjaaW.PrintMore Go.Proofs.Ytagncnjllpebjaa.Z
set_option linter.unusedVariables false
set_option linter.unusedSimpArgs false
/-- n numbers that go up by one from a. -/
def marks (a : Int) (n : Nat) : List Int := (List.range n).map (fun i : Nat => a + (i : Int))
theorem marks_len (a : Int) (n : Nat) : (marks a n).length = n := by simp [marks]
theorem marks_succ (a : Int) (n : Nat) : marks a (n + 1) = marks a n ++ [a + (n : Int)] := by simp [marks, List.range_succ]
theorem marks_get (a : Int) (n i : Nat) (h : i < n) : rd (marks a n) (i : Int) = a + (i : Int) := by
  rw [rd_getElem _ i (by rw [marks_len]; exact h)]
  simp [marks]
theorem mark_ev (l : List Int) (a : Int) (h0 : 0 ≤ a) (h1 : a ≤ 1000000000000000) (hl : l.length ≤ 17592186044416) : Ev (fun k => laws_markIntS.f k l a) (a + (l.length : Int), marks a l.length) := by
  have h := down (P := fun i => Ev (fun k => laws_markIntS.l0 k (marks a i ++ l.drop i) (a + (i : Int)) (i : Int)) (a + (l.length : Int), marks a l.length)) l.length
    (by
      apply Ev.step
      · intro k
        simp only [laws_markIntS.l0]
        rw [if_neg (by rw [List.length_append, marks_len, List.length_drop]; omega)]
      · rw [drop_end, List.append_nil]
        exact Ev.now _)
    (by
      intro i hi ih
      apply Ev.step
      · intro k
        simp only [laws_markIntS.l0]
        rw [if_pos (by rw [List.length_append, marks_len, List.length_drop]; omega), if_pos (by omega), w_succ hi hl, wrap64_of (by omega) (by omega)]
      · have e : (marks a i ++ l.drop i).set (i : Int).toNat (a + (i : Int)) = marks a (i + 1) ++ l.drop (i + 1) := by
          rw [drop_cons l i hi, marks_succ, Int.toNat_natCast, List.set_append_right _ _ (by rw [marks_len]; omega), marks_len, Nat.sub_self, List.set_cons_zero, List.append_assoc]
          rfl
        rw [e, show a + (i : Int) + 1 = a + ((i + 1 : Nat) : Int) from by omega]
        exact ih)
  have e : marks a 0 ++ l.drop 0 = l := by simp [marks]
  rw [e, show a + ((0 : Nat) : Int) = a from by omega] at h
  exact h
theorem held_ev (n : Nat) (a : Int) (h0 : 0 ≤ a) (h1 : a ≤ 1000000000000000) (hl : n ≤ 17592186044416) : Ev (fun k => laws_heldIntS.f k (marks a n) a) (a + (n : Int)) := by
  have h := down (P := fun i => Ev (fun k => laws_heldIntS.l0 k (marks a n) (a + (i : Int)) (i : Int)) (a + (n : Int))) n
    (by
      apply Ev.step
      · intro k
        simp only [laws_heldIntS.l0]
        rw [if_neg (by rw [marks_len]; omega)]
      · exact Ev.now _)
    (by
      intro i hi ih
      apply Ev.step
      · intro k
        simp only [laws_heldIntS.l0]
        rw [if_pos (by rw [marks_len]; omega), if_pos (by omega), if_pos (marks_get a n i hi), w_succ hi hl, wrap64_of (by omega) (by omega)]
      · rw [show a + (i : Int) + 1 = a + ((i + 1 : Nat) : Int) from by omega]
        exact ih)
  rw [show a + ((0 : Nat) : Int) = a from by omega] at h
  exact h
end Go.Proofs.Ytagncnjllpebjaa.Q
namespace Go.Proofs.Ytagncnjllpebjaa.Q
open Go Go.RowKit Go.Proofs.Ytagncnjllpebjaa.A Go.Proofs.YtagncnjllpebjaaW.PrintWords Go.Proofs.YtagncnjllpebjaaW.PrintLast Go.Proofs.YtagncnjllpebjaaW.PrintMore Go.Proofs.Ytagncnjllpebjaa.Z
set_option linter.unusedVariables false
set_option linter.unusedSimpArgs false
theorem markMat_ev (n : Int) (l : List Int) (hl : l.length ≤ 17592186044416) : Ev (fun k => laws_markMatroid.f k n l 1) (1 + (l.length : Int), marks 1 l.length) := by
  unfold laws_markMatroid.f
  exact Ev.bind (mark_ev l 1 (by omega) (by omega) hl) (Ev.now _)
end Go.Proofs.Ytagncnjllpebjaa.Q
namespace Go.Proofs.Ytagncnjllpebjaa.Q
open Go Go.RowKit Go.Proofs.YtagncnjllpebjaaW.PrintWords Go.Proofs.YtagncnjllpebjaaW.PrintLast Go.Proofs.YtagncnjllpebjaaW.PrintMore Go.Proofs.Ytagncnjllpebjaa.Z
set_option linter.unusedVariables false
set_option linter.unusedSimpArgs false
variable {m : Nat} {d1 : Nat → Bool} {st : Nat → Nat → Bool}
/-- The distances that are known behind round j: 0 where none is. -/
def lev (m : Nat) (d1 : Nat → Bool) (st : Nat → Nat → Bool) : Nat → Nat → Nat
  | 0, e => if d1 e = true then 1 else 0
  | j + 1, e => if lev m d1 st j e = 0 then (if (List.range m).any (fun f => decide (lev m d1 st j f = j + 1) && st e f) = true then j + 2 else 0) else lev m d1 st j e
theorem lev_le : ∀ j e, lev m d1 st j e ≤ j + 1 := by
  intro j
  induction j with
  | zero => intro e; unfold lev; by_cases h : d1 e = true <;> simp [h]
  | succ j ih =>
    intro e
    rw [lev]
    have := ih e
    by_cases h : lev m d1 st j e = 0
    · rw [if_pos h]; by_cases h2 : (List.range m).any (fun f => decide (lev m d1 st j f = j + 1) && st e f) = true
      · rw [if_pos h2]; omega
      · rw [if_neg h2]; omega
    · rw [if_neg h]; omega
theorem lev_keep {j e : Nat} (h : lev m d1 st j e ≠ 0) : lev m d1 st (j + 1) e = lev m d1 st j e := by rw [lev, if_neg h]
theorem lev_prev : ∀ j e i, lev m d1 st j e = i + 2 → ∃ f, f < m ∧ lev m d1 st j f = i + 1 ∧ st e f = true := by
  intro j
  induction j with
  | zero => intro e i h; have := lev_le (m := m) (d1 := d1) (st := st) 0 e; omega
  | succ j ih =>
    intro e i h
    rw [lev] at h
    by_cases h0 : lev m d1 st j e = 0
    · rw [if_pos h0] at h
      by_cases h2 : (List.range m).any (fun f => decide (lev m d1 st j f = j + 1) && st e f) = true
      · rw [if_pos h2] at h
        obtain ⟨f, hf, hc⟩ := List.any_eq_true.1 h2
        rw [Bool.and_eq_true, decide_eq_true_eq] at hc
        have hij : i = j := by omega
        subst hij
        exact ⟨f, List.mem_range.1 hf, by rw [lev_keep (by omega)]; exact hc.1, hc.2⟩
      · rw [if_neg h2] at h; omega
    · rw [if_neg h0] at h
      obtain ⟨f, hf, h1, h2⟩ := ih e i h
      exact ⟨f, hf, by rw [lev_keep (by omega)]; exact h1, h2⟩
theorem lev_chain (j : Nat) : ∀ i e, e < m → lev m d1 st j e = i + 1 → ∀ t, t ≤ i → ∃ f, f < m ∧ lev m d1 st j f = t + 1 := by
  intro i
  induction i with
  | zero => intro e he h t ht; exact ⟨e, he, by omega⟩
  | succ i ih =>
    intro e he h t ht
    by_cases hti : t = i + 1
    · exact ⟨e, he, by omega⟩
    · obtain ⟨f, hf, h1, _⟩ := lev_prev j e i h
      exact ih f hf h1 t (by omega)
theorem nodup_sub_len : ∀ (A B : List Nat), A.Nodup → (∀ x ∈ A, x ∈ B) → A.length ≤ B.length := by
  intro A
  induction A with
  | nil => intro B _ _; exact Nat.zero_le _
  | cons a A ih =>
    intro B hn hs
    rw [List.nodup_cons] at hn
    have ha := hs a (List.mem_cons_self ..)
    have h := ih (B.erase a) hn.2 (fun x hx => (List.mem_erase_of_ne (fun h => hn.1 (by rw [← h]; exact hx))).2 (hs x (List.mem_cons_of_mem _ hx)))
    rw [List.length_erase_of_mem ha] at h
    have : 0 < B.length := List.length_pos_of_mem ha
    rw [List.length_cons]; omega
theorem lev_last {e : Nat} (he : e < m) : lev m d1 st m e = lev m d1 st (m - 1) e := by
  obtain ⟨p, rfl⟩ : ∃ p, m = p + 1 := ⟨m - 1, by omega⟩
  rw [Nat.add_sub_cancel]
  by_cases h0 : lev (p + 1) d1 st p e = 0
  · rw [lev, if_pos h0, h0]
    by_cases h2 : (List.range (p + 1)).any (fun f => decide (lev (p + 1) d1 st p f = p + 1) && st e f) = true
    · exfalso
      obtain ⟨f, hf, hc⟩ := List.any_eq_true.1 h2
      rw [Bool.and_eq_true, decide_eq_true_eq] at hc
      have hch := lev_chain (m := p + 1) (d1 := d1) (st := st) p p f (List.mem_range.1 hf) hc.1
      have := nodup_sub_len (List.range (p + 2)) ((List.range (p + 1)).map (lev (p + 1) d1 st p)) List.nodup_range (fun x hx => by
        have hx := List.mem_range.1 hx
        rw [List.mem_map]
        cases x with
        | zero => exact ⟨e, List.mem_range.2 he, h0⟩
        | succ t =>
          obtain ⟨g, hg, h⟩ := hch t (by omega)
          exact ⟨g, List.mem_range.2 hg, h⟩)
      rw [List.length_map, List.length_range, List.length_range] at this
      omega
    · rw [if_neg h2]
  · exact lev_keep h0
/-- The one of the smallest distance, the first of these. -/
def bestL (q : Nat → Bool) (lv : Nat → Nat) : Option Nat → List Nat → Option Nat
  | a, [] => a
  | a, e :: es => bestL q lv (if q e && (decide (0 < lv e) && (match a with | none => true | some b => decide (lv e < lv b))) then some e else a) es
/-- A place, -1 where there is none. -/
def cdO : Option Nat → Int
  | none => -1
  | some a => (a : Int)
def nxtN (m : Nat) (lv : Nat → Nat) (st : Nat → Nat → Bool) (a : Nat) : Nat := ((List.range m).find? (fun y => decide (lv y + 1 = lv a) && st a y)).getD 0
def pathT (m : Nat) (lv : Nat → Nat) (st : Nat → Nat → Bool) : Nat → Nat → List Nat
  | 0, _ => []
  | d + 1, a => nxtN m lv st a :: pathT m lv st d (nxtN m lv st a)
theorem pathT_len (m : Nat) (lv : Nat → Nat) (st : Nat → Nat → Bool) : ∀ d a, (pathT m lv st d a).length = d := by
  intro d
  induction d with
  | zero => intro a; rfl
  | succ d ih => intro a; rw [pathT, List.length_cons, ih]
/-- The next place of a path: it is there, what it is, and nothing fits before it. -/
theorem nxtN_spec {m : Nat} {lv : Nat → Nat} {st : Nat → Nat → Bool} {a : Nat} (h : ∃ f, f < m ∧ lv f + 1 = lv a ∧ st a f = true) : nxtN m lv st a < m ∧ lv (nxtN m lv st a) + 1 = lv a ∧ st a (nxtN m lv st a) = true ∧ ∀ y, y < nxtN m lv st a → (decide (lv y + 1 = lv a) && st a y) = false := by
  obtain ⟨f, hf, h1, h2⟩ := h
  unfold nxtN
  cases hx : (List.range m).find? (fun y => decide (lv y + 1 = lv a) && st a y) with
  | none =>
    have := List.find?_eq_none.1 hx f (List.mem_range.2 hf)
    rw [decide_eq_true h1, h2] at this
    exact absurd rfl this
  | some x =>
    rw [Option.getD_some]
    have hp := List.find?_some hx
    have hm := List.mem_of_find?_eq_some hx
    rw [Bool.and_eq_true, decide_eq_true_eq] at hp
    refine ⟨List.mem_range.1 hm, hp.1, hp.2, fun y hy => ?_⟩
    rw [List.find?_range_eq_some] at hx
    have := hx.2.2 y hy
    simpa only [Bool.not_eq_true'] using this
/-- An array told by its entries. -/
def labI (m : Nat) (f : Nat → Int) : List Int := (List.range m).map f
theorem labI_len (m : Nat) (f : Nat → Int) : (labI m f).length = m := by simp [labI]
theorem labI_rd (m : Nat) (f : Nat → Int) (j : Nat) (hj : j < m) : rd (labI m f) (j : Int) = f j := by
  rw [rd_getElem _ j (by rw [labI_len]; exact hj)]
  simp [labI]
theorem labI_set (m : Nat) (f : Nat → Int) (j : Nat) (x : Int) : (labI m f).set j x = labI m (fun e => if e = j then x else f e) := by
  apply List.ext_getElem
  · simp [labI]
  · intro i h1 h2
    rw [List.getElem_set]
    by_cases h : j = i
    · subst h; simp [labI]
    · rw [if_neg h]
      simp [labI, Ne.symm h]
theorem labI_congr {m : Nat} {f g : Nat → Int} (h : ∀ v, v < m → f v = g v) : labI m f = labI m g := by
  unfold labI
  apply List.map_congr_left
  intro e he
  rw [h e (List.mem_range.1 he)]
theorem labI_zero (m : Nat) : List.replicate m (0 : Int) = labI m (fun _ => 0) := by
  unfold labI
  rw [List.map_const', List.length_range]
end Go.Proofs.Ytagncnjllpebjaa.Q
namespace Go.Proofs.Ytagncnjllpebjaa.Q
open Go Go.RowKit Go.Proofs.Ytagncnjllpebjaa.A Go.Proofs.YtagncnjllpebjaaW.PrintWords Go.Proofs.YtagncnjllpebjaaW.PrintLast Go.Proofs.YtagncnjllpebjaaW.PrintMore Go.Proofs.Ytagncnjllpebjaa.Z
set_option linter.unusedVariables false
set_option linter.unusedSimpArgs false
theorem l1In_eq (a b c : Int) : spec_l1In.f a b c = some (decide (b ≤ a) && decide (a ≤ c)) := by
  unfold spec_l1In.f
  by_cases h : a ≥ b
  · rw [if_pos h]; simp [h]
  · rw [if_neg h]; simp only [ge_iff_le] at h; simp [h]
theorem isSize_eq (a : Int) : impl_isSize.f a = some (decide (0 ≤ a) && decide (a ≤ 8)) := by
  unfold impl_isSize.f
  by_cases h : a ≥ 0
  · rw [if_pos h]; simp [h]
  · rw [if_neg h]; simp only [ge_iff_le] at h; simp [h]
theorem specIsSet_eq (n s : Int) : spec_IsSet.f n s = some (isSetB n s) := by
  unfold spec_IsSet.f
  rw [l1In_eq, Option.bind_some]
  unfold isSetB
  by_cases h : (decide (0 ≤ n) && decide (n ≤ 8)) = true
  · rw [if_pos h, if_pos (u64_nonneg _), l1In_eq, Option.bind_some, h, Bool.true_and]
    simp only [Bool.and_eq_true, decide_eq_true_eq] at h
    obtain ⟨m, rfl⟩ := Int.eq_ofNat_of_zero_le h.1
    have h8 : m ≤ 8 := by omega
    rw [u64_of (by omega) (by omega), shl_one (by omega)]
    have hp := pow_le_256 h8
    rw [Int.toNat_natCast]
    have e : (2 : Int) ^ m = ((2 ^ m : Nat) : Int) := by simp
    rw [e]
    generalize 2 ^ m = q at hp
    rw [wrap64_of (by omega) (by omega)]
    congr 2
    rw [Bool.eq_iff_iff]
    simp only [decide_eq_true_eq]
    omega
  · rw [if_neg h, Bool.eq_false_iff.2 h, Bool.false_and]
theorem implIsSet_eq (n s : Int) : impl_IsSet.f n s = some (isSetB n s) := by
  unfold impl_IsSet.f
  rw [isSize_eq, Option.bind_some]
  unfold isSetB
  by_cases h : (decide (0 ≤ n) && decide (n ≤ 8)) = true
  · rw [if_pos h, h, Bool.true_and]
    simp only [Bool.and_eq_true, decide_eq_true_eq] at h
    by_cases hs : s ≥ 0
    · rw [if_pos hs, if_pos h.1]
      obtain ⟨m, rfl⟩ := Int.eq_ofNat_of_zero_le h.1
      rw [shl_one (by omega), Int.toNat_natCast]
      have e : ((2 ^ m : Nat) : Int) = 2 ^ m := by simp
      rw [e]
      have : decide (0 ≤ s) = true := by simpa using hs
      rw [this, Bool.true_and]
    · rw [if_neg hs]
      have : decide (0 ≤ s) = false := by simpa using hs
      rw [this, Bool.false_and]
  · rw [if_neg h, Bool.eq_false_iff.2 h, Bool.false_and]
theorem isSet8 (s : Int) : isSetB 8 s = isAnyB s := by
  unfold isSetB isAnyB
  rw [Bool.eq_iff_iff]
  simp
theorem isAny_eq (s : Int) : impl_isAny.f s = some (isAnyB s) := by
  unfold impl_isAny.f isAnyB
  by_cases h : s ≥ 0
  · rw [if_pos h]; simp [h]
  · rw [if_neg h]; simp only [ge_iff_le] at h; simp [h]
theorem isAnyB_lt {s : Int} (h : isAnyB s = true) : ∃ t : Nat, s = t ∧ t < 256 := by
  simp only [isAnyB, Bool.and_eq_true, decide_eq_true_eq] at h
  obtain ⟨t, rfl⟩ := Int.eq_ofNat_of_zero_le h.1
  exact ⟨t, rfl, by omega⟩
theorem implHas_eq (s e : Int) : impl_HasElement.f s e = some (hasB s e) := by
  unfold impl_HasElement.f hasB
  rw [isAny_eq, Option.bind_some]
  by_cases h : isAnyB s = true
  · rw [if_pos h, h, Bool.true_and]
    obtain ⟨t, rfl, ht⟩ := isAnyB_lt h
    by_cases h0 : e ≥ 0
    · rw [if_pos h0]
      obtain ⟨m, rfl⟩ := Int.eq_ofNat_of_zero_le h0
      by_cases h8 : (m : Int) < 8
      · rw [if_pos h8, if_pos h0, bit_nat (lt256_63 ht)]
        simp [h8]
      · rw [if_neg h8]; simp [h8]
    · rw [if_neg h0]; simp only [ge_iff_le] at h0; simp [h0]
  · rw [if_neg h, Bool.eq_false_iff.2 h]; simp
theorem l2Has_eq {s e : Nat} (hs : s < 2 ^ 63) (he : e < 2 ^ 63) : spec_l2Has.f (s : Int) (e : Int) = some (s.testBit e) := by
  unfold spec_l2Has.f
  rw [if_pos (u64_nonneg _), u64_of (by omega) (by omega), bit_nat hs]
end Go.Proofs.Ytagncnjllpebjaa.Q
namespace Go.Proofs.Ytagncnjllpebjaa.Q
open Go Go.RowKit Go.Proofs.Ytagncnjllpebjaa.A Go.Proofs.YtagncnjllpebjaaW.PrintWords Go.Proofs.YtagncnjllpebjaaW.PrintLast Go.Proofs.YtagncnjllpebjaaW.PrintMore Go.Proofs.Ytagncnjllpebjaa.Z
set_option linter.unusedVariables false
set_option linter.unusedSimpArgs false
def famG (n : Int) : Option Int → List Int → Bool
  | _, [] => decide (0 ≤ n) && decide (n ≤ 8)
  | p, x :: xs => isSetB n x && ((match p with | none => true | some q => decide (q < x)) && famG n (some x) xs)
/-- A family: sets of n elements, strictly ascending. -/
def famB (n : Int) (l : List Int) : Bool := famG n none l
def prevO (l : List Int) (i : Nat) : Option Int := if i = 0 then none else some (rd l ((i - 1 : Nat) : Int))
theorem prevO_succ (l : List Int) (i : Nat) (hi : i < l.length) : prevO l (i + 1) = some l[i] := by
  unfold prevO
  rw [if_neg (by omega), Nat.add_sub_cancel, rd_getElem l i hi]
theorem specFam_ev (n : Int) (l : List Int) (hl : l.length ≤ 17592186044416) : Ev (fun k => spec_IsFamily.f k n l) (famB n l) := by
  have h := down (P := fun i => Ev (fun k => spec_IsFamily.l0 k n l (i : Int)) (famG n (prevO l i) (l.drop i))) l.length
    (by
      apply Ev.step
      · intro k
        simp only [spec_IsFamily.l0, l1In_eq, Option.bind_some]
        rw [if_neg (by omega)]
      · rw [drop_end]; exact Ev.now _)
    (by
      intro i hi ih
      apply Ev.step
      · intro k
        simp only [spec_IsFamily.l0, specIsSet_eq, Option.bind_some]
        rw [if_pos (by omega), if_pos (by omega), rd_getElem l i hi, w_succ hi hl]
      · rw [drop_cons l i hi]
        rw [prevO_succ l i hi] at ih
        simp only [famG]
        by_cases hx : isSetB n l[i] = true
        · refine Ev.ifp hx ?_
          rw [hx, Bool.true_and]
          by_cases h0 : (i : Int) > 0
          · refine Ev.ifp h0 ?_
            rw [wrap64_of (by omega) (by omega), show (i : Int) - 1 = ((i - 1 : Nat) : Int) from by omega]
            refine Ev.ifp (by omega) (Ev.ifp (by omega) ?_)
            unfold prevO
            rw [if_neg (by omega)]
            by_cases hq : rd l ((i - 1 : Nat) : Int) ≥ l[i]
            · refine Ev.ifp hq ?_
              simp only []
              rw [show decide (rd l ((i - 1 : Nat) : Int) < l[i]) = false from by simpa using hq, Bool.false_and]
              exact Ev.now _
            · refine Ev.ifn hq ?_
              simp only []
              rw [show decide (rd l ((i - 1 : Nat) : Int) < l[i]) = true from by simpa using hq, Bool.true_and]
              exact ih
          · refine Ev.ifn h0 ?_
            unfold prevO
            rw [if_pos (by omega)]
            simp only [Bool.true_and]
            exact ih
        · refine Ev.ifn hx ?_
          rw [Bool.eq_false_iff.2 hx, Bool.false_and]; exact Ev.now _)
  exact h
theorem implFam_ev (n : Int) (l : List Int) (hl : l.length ≤ 17592186044416) : Ev (fun k => impl_IsFamily.f k n l) (famB n l) := by
  have h := down (P := fun i => Ev (fun k => impl_IsFamily.l0 k n l l (l.length : Int) (i : Int)) (famG n (prevO l i) (l.drop i))) l.length
    (by
      apply Ev.step
      · intro k
        simp only [impl_IsFamily.l0, isSize_eq, Option.bind_some]
        rw [if_neg (by omega)]
      · rw [drop_end]; exact Ev.now _)
    (by
      intro i hi ih
      apply Ev.step
      · intro k
        simp only [impl_IsFamily.l0, implIsSet_eq, Option.bind_some]
        rw [if_pos (by omega), if_pos (by omega), if_pos (by omega), rd_getElem l i hi, w_succ hi hl]
      · rw [drop_cons l i hi]
        rw [prevO_succ l i hi] at ih
        simp only [famG]
        by_cases hx : isSetB n l[i] = true
        · refine Ev.ifp hx ?_
          rw [hx, Bool.true_and]
          by_cases h0 : (i : Int) > 0
          · refine Ev.ifp h0 ?_
            rw [wrap64_of (by omega) (by omega), show (i : Int) - 1 = ((i - 1 : Nat) : Int) from by omega]
            refine Ev.ifp (by omega) (Ev.ifp (by omega) ?_)
            unfold prevO
            rw [if_neg (by omega)]
            by_cases hq : l[i] ≤ rd l ((i - 1 : Nat) : Int)
            · refine Ev.ifp hq ?_
              simp only []
              rw [show decide (rd l ((i - 1 : Nat) : Int) < l[i]) = false from by simpa using hq, Bool.false_and]
              exact Ev.now _
            · refine Ev.ifn hq ?_
              simp only []
              rw [show decide (rd l ((i - 1 : Nat) : Int) < l[i]) = true from by simpa using hq, Bool.true_and]
              exact ih
          · refine Ev.ifn h0 ?_
            unfold prevO
            rw [if_pos (by omega)]
            simp only [Bool.true_and]
            exact ih
        · refine Ev.ifn hx ?_
          rw [Bool.eq_false_iff.2 hx, Bool.false_and]; exact Ev.now _)
  exact h
theorem famG_facts (n : Int) : ∀ (l : List Int) (p : Option Int), famG n p l = true → (0 ≤ n ∧ n ≤ 8) ∧ (∀ x ∈ l, isSetB n x = true) ∧ l.Pairwise (· < ·) ∧ (∀ q, p = some q → ∀ x ∈ l, q < x) := by
  intro l
  induction l with
  | nil =>
    intro p h
    simp only [famG, Bool.and_eq_true, decide_eq_true_eq] at h
    exact ⟨h, fun x hx => by simp at hx, List.Pairwise.nil, fun q _ x hx => by simp at hx⟩
  | cons y l ih =>
    intro p h
    simp only [famG, Bool.and_eq_true] at h
    obtain ⟨h1, h2, h3⟩ := h
    obtain ⟨i1, i2, i3, i4⟩ := ih _ h3
    refine ⟨i1, fun x hx => ?_, List.pairwise_cons.2 ⟨fun x hx => i4 y rfl x hx, i3⟩, fun q hq x hx => ?_⟩
    · rcases List.mem_cons.1 hx with rfl | hx
      · exact h1
      · exact i2 x hx
    · subst hq
      simp only [decide_eq_true_eq] at h2
      rcases List.mem_cons.1 hx with rfl | hx
      · exact h2
      · exact Int.lt_trans h2 (i4 y rfl x hx)
/-- A family as numbers: its size, its sets. -/
theorem famB_nat {n : Int} {l : List Int} (h : famB n l = true) : ∃ (m : Nat) (L : List Nat), n = m ∧ m ≤ 8 ∧ l = L.map (fun x : Nat => (x : Int)) ∧ (∀ x ∈ L, x < 2 ^ m) ∧ L.Pairwise (· < ·) := by
  obtain ⟨h1, h2, h3, _⟩ := famG_facts n l none h
  obtain ⟨m, rfl⟩ := Int.eq_ofNat_of_zero_le h1.1
  have hnn : ∀ x ∈ l, 0 ≤ x := fun x hx => by
    obtain ⟨_, t, _, rfl, _⟩ := isSetB_lt (h2 x hx)
    omega
  have hl : l = (l.map Int.toNat).map (fun x : Nat => (x : Int)) := by
    rw [List.map_map]
    conv => lhs; rw [← List.map_id l]
    apply List.map_congr_left
    intro x hx
    have := hnn x hx
    simp only [id, Function.comp]
    omega
  refine ⟨m, l.map Int.toNat, rfl, by omega, hl, fun x hx => ?_, ?_⟩
  · obtain ⟨y, hy, rfl⟩ := List.mem_map.1 hx
    obtain ⟨m', t, hm, rfl, _, ht, _⟩ := isSetB_lt (h2 y hy)
    have : m = m' := by omega
    subst this
    rw [Int.toNat_natCast]; exact ht
  · rw [List.pairwise_map]
    exact h3.imp_of_mem (fun {a b} ha hb hab => by
      have := hnn a ha
      have := hnn b hb
      omega)
end Go.Proofs.Ytagncnjllpebjaa.Q
namespace Go.Proofs.Ytagncnjllpebjaa.Q
open Go Go.RowKit Go.Proofs.Ytagncnjllpebjaa.A Go.Proofs.YtagncnjllpebjaaW.PrintWords Go.Proofs.YtagncnjllpebjaaW.PrintLast Go.Proofs.YtagncnjllpebjaaW.PrintMore Go.Proofs.Ytagncnjllpebjaa.Z
set_option linter.unusedVariables false
set_option linter.unusedSimpArgs false
/-- The elements of a set, as whole numbers; none where it is no set. -/
def elsB (s : Int) : List Int := ((List.range 8).filter (fun e : Nat => hasB s (e : Int))).map (fun e : Nat => (e : Int))
theorem range'_cons {i n : Nat} (h : i < n) : List.range' i (n - i) = i :: List.range' (i + 1) (n - (i + 1)) := by
  rw [show n - i = (n - (i + 1)) + 1 from by omega, List.range'_succ]
theorem filter_cons_map {s : Int} {i : Nat} (l : List Nat) : ((i :: l).filter (fun e : Nat => hasB s (e : Int))).map (fun e : Nat => (e : Int)) = (if hasB s (i : Int) = true then [(i : Int)] else []) ++ (l.filter (fun e : Nat => hasB s (e : Int))).map (fun e : Nat => (e : Int)) := by
  rw [List.filter_cons]
  by_cases h : hasB s (i : Int) = true
  · rw [if_pos h, if_pos h]; rfl
  · rw [if_neg h, if_neg h]; rfl
theorem implElements_ev (s : Int) : Ev (fun k => impl_ElementsOf.f k s) (elsB s) := by
  have h := down (P := fun i => ∀ acc : List Int, acc.length ≤ i → Ev (fun k => impl_ElementsOf.l0 k s acc (i : Int)) (acc ++ ((List.range' i (8 - i)).filter (fun e : Nat => hasB s (e : Int))).map (fun e : Nat => (e : Int)))) 8
    (by
      intro acc ha
      apply Ev.step
      · intro k
        simp only [impl_ElementsOf.l0, implHas_eq, Option.bind_some]
        rw [if_neg (by omega)]
      · simpa using Ev.now _)
    (by
      intro i hi ih acc ha
      apply Ev.step
      · intro k
        simp only [impl_ElementsOf.l0, implHas_eq, Option.bind_some]
        rw [if_pos (by omega), w_succ hi (by omega)]
      · rw [range'_cons hi, filter_cons_map]
        by_cases hx : hasB s (i : Int) = true
        · refine Ev.ifp hx (Ev.ifp (by omega) ?_)
          rw [if_pos hx, ← List.append_assoc]
          exact ih (acc ++ [(i : Int)]) (by simp; omega)
        · refine Ev.ifn hx ?_
          rw [if_neg hx]
          exact ih acc (by omega))
  have h0 := h [] (Nat.le_refl 0)
  rw [show ((0 : Nat) : Int) = 0 from rfl] at h0
  have e : elsB s = [] ++ ((List.range' 0 (8 - 0)).filter (fun e : Nat => hasB s (e : Int))).map (fun e : Nat => (e : Int)) := by
    unfold elsB
    rw [List.nil_append, List.range_eq_range']
  rw [e]
  unfold impl_ElementsOf.f
  exact h0
theorem elsB_nat {s : Nat} (h : s < 256) : elsB (s : Int) = (els s).map (fun e : Nat => (e : Int)) := by
  have e : (List.range 8).filter (fun e : Nat => hasB (s : Int) (e : Int)) = (List.range 8).filter (fun e : Nat => s.testBit e) :=
    List.filter_congr (fun e he => by
      rw [List.mem_range] at he
      rw [hasB_nat]
      simp [h, he])
  unfold elsB els
  rw [e]
end Go.Proofs.Ytagncnjllpebjaa.Q
namespace Go.Proofs.Ytagncnjllpebjaa.Q
open Go Go.RowKit Go.Proofs.Ytagncnjllpebjaa.A Go.Proofs.YtagncnjllpebjaaW.PrintWords Go.Proofs.YtagncnjllpebjaaW.PrintLast Go.Proofs.YtagncnjllpebjaaW.PrintMore Go.Proofs.Ytagncnjllpebjaa.Z
set_option linter.unusedVariables false
set_option linter.unusedSimpArgs false
theorem contains_cons (x : Int) (l : List Int) (a : Int) : (x :: l).contains a = (decide (x = a) || l.contains a) := by
  rw [Bool.eq_iff_iff]
  simp only [List.contains_iff_mem, List.mem_cons, Bool.or_eq_true, decide_eq_true_eq]
  constructor
  · rintro (h | h)
    · exact .inl h.symm
    · exact .inr h
  · rintro (h | h)
    · exact .inl h.symm
    · exact .inr h
theorem specHasSet_ev (l : List Int) (a : Int) (hl : l.length ≤ 17592186044416) : Ev (fun k => spec_HasSet.f k l a) (l.contains a) := by
  have h := down (P := fun i => Ev (fun k => spec_HasSet.l0 k l a (i : Int)) ((l.drop i).contains a)) l.length
    (by
      apply Ev.step
      · intro k
        simp only [spec_HasSet.l0]
        rw [if_neg (by omega)]
      · rw [drop_end]; exact Ev.now _)
    (by
      intro i hi ih
      apply Ev.step
      · intro k
        simp only [spec_HasSet.l0]
        rw [if_pos (by omega), if_pos (by omega), rd_getElem l i hi, w_succ hi hl]
      · rw [drop_cons l i hi, contains_cons]
        by_cases hx : l[i] = a
        · refine Ev.ifp hx ?_
          rw [show decide (l[i] = a) = true from by simpa using hx, Bool.true_or]; exact Ev.now _
        · refine Ev.ifn hx ?_
          rw [show decide (l[i] = a) = false from by simpa using hx, Bool.false_or]; exact ih)
  exact h
end Go.Proofs.Ytagncnjllpebjaa.Q
namespace Go.Proofs.Ytagncnjllpebjaa.Q
open Go Go.RowKit Go.Proofs.Ytagncnjllpebjaa.A Go.Proofs.YtagncnjllpebjaaW.PrintWords Go.Proofs.YtagncnjllpebjaaW.PrintLast Go.Proofs.YtagncnjllpebjaaW.PrintMore Go.Proofs.Ytagncnjllpebjaa.Z
set_option linter.unusedVariables false
set_option linter.unusedSimpArgs false
theorem index_l0 (l : List Int) (a : Int) (hl : l.length ≤ 17592186044416) : ∃ r : Int, Ev (fun k => slices_Index_int_int.f k l a) r ∧ (decide (r ≥ 0) = l.contains a) := by
  have h := down (P := fun i => ∃ r : Int, Ev (fun k => slices_Index_int_int.l0 k l a (l.length : Int) (i : Int)) r ∧ (decide (r ≥ 0) = (l.drop i).contains a)) l.length
    (by
      refine ⟨-1, ?_, by rw [drop_end]; rfl⟩
      apply Ev.step
      · intro k
        simp only [slices_Index_int_int.l0]
        rw [if_neg (by omega)]
      · exact Ev.now _)
    (by
      intro i hi ih
      rw [drop_cons l i hi, contains_cons]
      by_cases hx : l[i] = a
      · refine ⟨(i : Int), ?_, ?_⟩
        · apply Ev.step
          · intro k
            simp only [slices_Index_int_int.l0]
            rw [if_pos (by omega), if_pos (by omega), if_pos (by omega), rd_getElem l i hi, if_pos hx.symm]
          · exact Ev.now _
        · rw [show decide (l[i] = a) = true from by simpa using hx, Bool.true_or]
          simp
      · obtain ⟨r, hr, hd⟩ := ih
        refine ⟨r, ?_, ?_⟩
        · apply Ev.step
          · intro k
            simp only [slices_Index_int_int.l0]
            rw [if_pos (by omega), if_pos (by omega), if_pos (by omega), rd_getElem l i hi, if_neg (fun hc => hx hc.symm), w_succ hi hl]
          · exact hr
        · rw [show decide (l[i] = a) = false from by simpa using hx, Bool.false_or]; exact hd)
  exact h
theorem contains_ev (l : List Int) (a : Int) (hl : l.length ≤ 17592186044416) : Ev (fun k => slices_Contains_int_int.f k l a) (l.contains a) := by
  obtain ⟨r, hr, hd⟩ := index_l0 l a hl
  unfold slices_Contains_int_int.f
  refine Ev.bind hr ?_
  rw [hd]; exact Ev.now _
end Go.Proofs.Ytagncnjllpebjaa.Q
namespace Go.Proofs.Ytagncnjllpebjaa.Q
open Go Go.RowKit Go.Proofs.YtagncnjllpebjaaW.PrintWords Go.Proofs.YtagncnjllpebjaaW.PrintLast Go.Proofs.YtagncnjllpebjaaW.PrintMore Go.Proofs.Ytagncnjllpebjaa.Z
set_option linter.unusedVariables false
set_option linter.unusedSimpArgs false
/-- Can e be exchanged for an element of b? -/
def hasEx (l : List Int) (a b e : Nat) : Bool := (els (dif b a)).any (fun f => l.contains ((dif a (2 ^ e) ||| 2 ^ f : Nat) : Int))
def failE (l : List Int) (a b : Nat) : List Nat → Option Nat
  | [] => none
  | e :: es => if hasEx l a b e = true then failE l a b es else some e
def failB (l : List Int) (a : Nat) : List Nat → Option (Nat × Nat)
  | [] => none
  | b :: bs => match failE l a b (els (dif a b)) with
    | none => failB l a bs
    | some e => some (b, e)
def failA (l : List Int) (L : List Nat) : List Nat → Option (Nat × Nat × Nat)
  | [] => none
  | a :: la => match failB l a L with
    | none => failA l L la
    | some (b, e) => some (a, b, e)
def told : Option (Nat × Nat × Nat) → Int × Int × Int × Bool
  | none => (0, 0, 0, false)
  | some (a, b, e) => ((a : Int), (b : Int), (e : Int), true)
/-- What FirstFailure hands back. -/
def failT (n : Int) (l : List Int) : Int × Int × Int × Bool := if famB n l = true then told (failA l (l.map Int.toNat) (l.map Int.toNat)) else (0, 0, 0, false)
theorem els_dif {a b n : Nat} (ha : a < 2 ^ n) (hn : n ≤ 8) : els (dif a b) = (List.range n).filter (fun e => a.testBit e && !b.testBit e) := by
  have h1 : (List.range 8).filter (fun e => (dif a b).testBit e) = (List.range 8).filter (fun e => decide (e < n) && (a.testBit e && !b.testBit e)) :=
    List.filter_congr (fun e _ => by
      rw [dif_bit]
      by_cases h : e < n
      · simp [h]
      · have : a.testBit e = false := Nat.testBit_lt_two_pow (Nat.lt_of_lt_of_le ha (Nat.pow_le_pow_right (by decide) (by omega)))
        simp [this])
  unfold els
  rw [h1]
  have h2 : ∀ (p : Nat → Bool) (a b : Nat), (List.range a).filter (fun e => decide (e < b) && p e) = (List.range (min a b)).filter p := by
    intro p a b
    induction a with
    | zero => simp
    | succ a ih =>
      rw [List.range_succ, List.filter_append, ih]
      by_cases h : a < b
      · rw [show min (a + 1) b = min a b + 1 from by omega, List.range_succ, List.filter_append]
        have e : min a b = a := by omega
        rw [e]
        congr 1
        simp [List.filter_cons, h]
      · rw [show min (a + 1) b = min a b from by omega]
        simp [List.filter_cons, h]
  rw [h2, Nat.min_eq_right hn]
end Go.Proofs.Ytagncnjllpebjaa.Q
namespace Go.Proofs.Ytagncnjllpebjaa.Q
open Go Go.RowKit Go.Proofs.Ytagncnjllpebjaa.A Go.Proofs.YtagncnjllpebjaaW.PrintWords Go.Proofs.YtagncnjllpebjaaW.PrintLast Go.Proofs.YtagncnjllpebjaaW.PrintMore Go.Proofs.Ytagncnjllpebjaa.Z
set_option linter.unusedVariables false
set_option linter.unusedSimpArgs false
theorem pow_wrap {e : Nat} (he : e < 8) : IntKind.i64.wrap (2 ^ e) = ((2 ^ e : Nat) : Int) := by
  have h2 : (2 ^ e : Nat) < 9223372036854775808 := by
    have := Nat.pow_lt_pow_right (a := 2) (by decide) (show e < 63 by omega)
    simpa using this
  have h3 : (2 : Int) ^ e = ((2 ^ e : Nat) : Int) := by simp
  rw [h3]
  exact i64_wrap_nat h2
theorem implC_ev (l : List Int) (hl : l.length ≤ 17592186044416) (a e f : Nat) (ha : a < 256) (he : e < 8) (hf : f < 8) : Ev (fun k => impl_FirstFailure.c k l (a : Int) (e : Int) (f : Int)) (l.contains ((dif a (2 ^ e) ||| 2 ^ f : Nat) : Int)) := by
  unfold impl_FirstFailure.c impl_HasSet.f
  refine Ev.ifp (by omega) (Ev.ifp (by omega) ?_)
  have hp : ∀ x < 8, 2 ^ x < 2 ^ 63 := fun x hx => Nat.pow_lt_pow_right (by decide) (by omega)
  rw [Int.toNat_natCast, Int.toNat_natCast, pow_wrap he, pow_wrap hf, andNot_nat (lt256_63 ha) (hp e he), or_nat (lt256_63 (dif_lt ha)) (hp f hf)]
  exact Ev.bind (contains_ev l _ hl) (Ev.now _)
theorem els_lt {s e : Nat} (h : e ∈ els s) : e < 8 := (mem_els.1 h).1
theorem any_map (p : Int → Bool) (L : List Nat) : (L.map (fun x : Nat => (x : Int))).any p = L.any (fun x => p (x : Int)) := by
  rw [List.any_map]; rfl
theorem implFail_l2 (l : List Int) (hl : l.length ≤ 17592186044416) (a b : Nat) (ha : a < 256) (hb : b < 256) : ∀ es : List Nat, (∀ e ∈ es, e < 8) → Ev (fun k => impl_FirstFailure.l2 k l (a : Int) (b : Int) (es.map (fun x : Nat => (x : Int)))) ((failE l a b es).map (fun x : Nat => (x : Int))) := by
  intro es
  induction es with
  | nil => intro _; exact Ev.now _
  | cons e es ih =>
    intro hm
    have he := hm e (List.mem_cons_self ..)
    simp only [List.map_cons, impl_FirstFailure.l2]
    rw [andNot_nat (lt256_63 hb) (lt256_63 ha)]
    refine Ev.bind (implElements_ev _) ?_
    rw [elsB_nat (dif_lt hb)]
    refine Ev.bind (a := hasEx l a b e) ?_ ?_
    · have h := Ev_anyO (g := fun k f => impl_FirstFailure.c k l (a : Int) (e : Int) f) (p := fun f => l.contains ((dif a (2 ^ e) ||| 2 ^ f.toNat : Nat) : Int)) (l := (els (dif b a)).map (fun x : Nat => (x : Int)))
        (fun x hx => by
          obtain ⟨f, hf, rfl⟩ := List.mem_map.1 hx
          have := implC_ev l hl a e f ha he (els_lt hf)
          rw [Int.toNat_natCast]
          exact this)
      rw [any_map] at h
      simp only [Int.toNat_natCast] at h
      exact h
    · simp only [failE]
      by_cases hx : hasEx l a b e = true
      · refine Ev.ifp hx ?_
        rw [if_pos hx]
        exact ih (fun e' he' => hm e' (List.mem_cons_of_mem _ he'))
      · refine Ev.ifn hx ?_
        rw [if_neg hx]
        exact Ev.now _
theorem implFail_l1 (l : List Int) (hl : l.length ≤ 17592186044416) (a : Nat) (ha : a < 256) : ∀ bs : List Nat, (∀ b ∈ bs, b < 256) → Ev (fun k => impl_FirstFailure.l1 k l (a : Int) (bs.map (fun x : Nat => (x : Int)))) ((failB l a bs).map (fun x : Nat × Nat => ((x.1 : Int), (x.2 : Int)))) := by
  intro bs
  induction bs with
  | nil => intro _; exact Ev.now _
  | cons b bs ih =>
    intro hm
    have hb := hm b (List.mem_cons_self ..)
    simp only [List.map_cons, impl_FirstFailure.l1]
    rw [andNot_nat (lt256_63 ha) (lt256_63 hb)]
    refine Ev.bind (implElements_ev _) ?_
    rw [elsB_nat (dif_lt ha)]
    refine Ev.bind (implFail_l2 l hl a b ha hb _ (fun e he => els_lt he)) ?_
    simp only [failB]
    cases failE l a b (els (dif a b)) with
    | none => exact ih (fun b' hb' => hm b' (List.mem_cons_of_mem _ hb'))
    | some e => exact Ev.now _
theorem implFail_l0 (l : List Int) (L : List Nat) (hlL : l = L.map (fun x : Nat => (x : Int))) (hl : l.length ≤ 17592186044416) (hL : ∀ b ∈ L, b < 256) : ∀ la : List Nat, (∀ a ∈ la, a < 256) → Ev (fun k => impl_FirstFailure.l0 k l (la.map (fun x : Nat => (x : Int)))) ((failA l L la).map (fun x : Nat × Nat × Nat => ((x.1 : Int), (x.2.1 : Int), (x.2.2 : Int)))) := by
  intro la
  induction la with
  | nil => intro _; exact Ev.now _
  | cons a la ih =>
    intro hm
    have ha := hm a (List.mem_cons_self ..)
    simp only [List.map_cons, impl_FirstFailure.l0]
    refine Ev.bind (a := (failB l a L).map (fun x : Nat × Nat => ((x.1 : Int), (x.2 : Int)))) (by
      have := implFail_l1 l hl a ha L hL
      rw [← hlL] at this
      exact this) ?_
    simp only [failA]
    cases failB l a L with
    | none => exact ih (fun a' ha' => hm a' (List.mem_cons_of_mem _ ha'))
    | some x => exact Ev.now _
theorem implFail_ev (n : Int) (l : List Int) (hl : l.length ≤ 17592186044416) : Ev (fun k => impl_FirstFailure.f k n l) (failT n l) := by
  unfold impl_FirstFailure.f failT
  refine Ev.bind (implFam_ev n l hl) ?_
  by_cases hf : famB n l = true
  · refine Ev.ifp hf ?_
    rw [if_pos hf]
    obtain ⟨m, L, rfl, hm, hlL, hL, _⟩ := famB_nat hf
    have hmap : l.map Int.toNat = L := by rw [hlL, toNat_map]
    have h256 : ∀ b ∈ L, b < 256 := fun b hb => Nat.lt_of_lt_of_le (hL b hb) (pow_le_256 hm)
    have h := implFail_l0 l L hlL hl h256 L h256
    rw [← hlL] at h
    refine Ev.bind h ?_
    rw [hmap]
    cases failA l L L with
    | none => exact Ev.now _
    | some x => exact Ev.now _
  · refine Ev.ifn hf ?_
    rw [if_neg hf]
    exact Ev.now _
end Go.Proofs.Ytagncnjllpebjaa.Q
namespace Go.Proofs.Ytagncnjllpebjaa.Q
open Go Go.RowKit Go.Proofs.Ytagncnjllpebjaa.A Go.Proofs.YtagncnjllpebjaaW.PrintWords Go.Proofs.YtagncnjllpebjaaW.PrintLast Go.Proofs.YtagncnjllpebjaaW.PrintMore Go.Proofs.Ytagncnjllpebjaa.Z
set_option linter.unusedVariables false
set_option linter.unusedSimpArgs false
theorem specEx_ev (n : Nat) (hn : n ≤ 8) (l : List Int) (hl : l.length ≤ 17592186044416) (a b e : Nat) (ha : a < 256) (hb : b < 2 ^ n) (he : e < 8) (hae : a.testBit e = true) :
    Ev (fun k => spec_l4Exchange.f k (n : Int) l (a : Int) (b : Int) (e : Int)) (hasEx l a b e) := by
  have hb256 : b < 256 := Nat.lt_of_lt_of_le hb (pow_le_256 hn)
  have h := down (P := fun f => Ev (fun k => spec_l4Exchange.l0 k (a : Int) (b : Int) (e : Int) (f : Int) (n : Int) l) (((List.range' f (n - f)).filter (fun f => b.testBit f && !a.testBit f)).any (fun f => l.contains ((dif a (2 ^ e) ||| 2 ^ f : Nat) : Int)))) n
    (by
      apply Ev.step
      · intro k
        simp only [spec_l4Exchange.l0]
        rw [if_neg (by omega)]
      · rw [Nat.sub_self]; exact Ev.now _)
    (by
      intro f hf ih
      have hih : Ev (fun k => spec_l4Exchange.l0 k (a : Int) (b : Int) (e : Int) (wrap64 ((f : Int) + 1)) (n : Int) l) (((List.range' (f + 1) (n - (f + 1))).filter (fun f => b.testBit f && !a.testBit f)).any (fun f => l.contains ((dif a (2 ^ e) ||| 2 ^ f : Nat) : Int))) := by
        rw [w_succ hf (by omega)]; exact ih
      apply Ev.step
      · intro k
        simp only [spec_l4Exchange.l0, l2Has_eq (lt256_63 hb256) (show f < 2 ^ 63 by omega), l2Has_eq (lt256_63 ha) (show f < 2 ^ 63 by omega), Option.bind_some]
        rw [if_pos (by omega)]
      · rw [range'_cons hf, List.filter_cons]
        by_cases hbf : b.testBit f = true
        · refine Ev.ifp hbf ?_
          by_cases haf : a.testBit f = true
          · refine Ev.ifp haf ?_
            rw [if_neg (by rw [haf]; simp)]
            exact hih
          · refine Ev.ifn haf (Ev.ifp (u64_nonneg _) (Ev.ifp (u64_nonneg _) ?_))
            have haf' := Bool.eq_false_iff.2 haf
            rw [if_pos (by rw [hbf, haf']; rfl), List.any_cons]
            obtain ⟨x1, x2, x3⟩ := exch_arith ha he (show f < 8 by omega) hae haf'
            have hp : 2 ^ f < 256 := Nat.pow_lt_pow_right (a := 2) (m := f) (n := 8) (by decide) (by omega)
            have ex : wrap64 (wrap64 ((a : Int) - shl .i64 1 (IntKind.u64.wrap (e : Int))) + shl .i64 1 (IntKind.u64.wrap (f : Int))) = ((dif a (2 ^ e) ||| 2 ^ f : Nat) : Int) := by
              rw [u64_of (by omega) (by omega), u64_of (by omega) (by omega), shl_one (by omega), shl_one (by omega), ← x1]
              generalize 2 ^ e = p at *
              generalize 2 ^ f = q at *
              rw [wrap64_of (n := (a : Int) - (p : Int)) (by omega) (by omega), wrap64_of (by omega) (by omega)]
              omega
            rw [ex]
            refine Ev.bind (specHasSet_ev l _ hl) ?_
            by_cases hc : l.contains ((dif a (2 ^ e) ||| 2 ^ f : Nat) : Int) = true
            · refine Ev.ifp hc ?_
              rw [hc, Bool.true_or]; exact Ev.now _
            · refine Ev.ifn hc ?_
              rw [Bool.eq_false_iff.2 hc, Bool.false_or]; exact hih
        · refine Ev.ifn hbf ?_
          rw [if_neg (by rw [Bool.eq_false_iff.2 hbf]; simp)]
          exact hih)
  rw [Nat.sub_zero, ← List.range_eq_range', ← els_dif hb hn] at h
  exact h
theorem specFail_l2 (n : Nat) (hn : n ≤ 8) (l : List Int) (hl : l.length ≤ 17592186044416) (i j : Nat) (hi : i < l.length) (hj : j < l.length) (a b : Nat) (hai : rd l (i : Int) = a) (hbj : rd l (j : Int) = b) (ha : a < 2 ^ n) (hb : b < 2 ^ n) (K : Int × Int × Int × Bool)
    (hK : Ev (fun k => spec_FirstFailure.l1 k (i : Int) (wrap64 ((j : Int) + 1)) (n : Int) l) K) :
    Ev (fun k => spec_FirstFailure.l2 k (i : Int) (j : Int) 0 (n : Int) l) (match failE l a b (els (dif a b)) with | none => K | some e => ((a : Int), (b : Int), (e : Int), true)) := by
  have ha256 : a < 256 := Nat.lt_of_lt_of_le ha (pow_le_256 hn)
  have hb256 : b < 256 := Nat.lt_of_lt_of_le hb (pow_le_256 hn)
  have h := down (P := fun e => Ev (fun k => spec_FirstFailure.l2 k (i : Int) (j : Int) (e : Int) (n : Int) l) (match failE l a b ((List.range' e (n - e)).filter (fun e => a.testBit e && !b.testBit e)) with | none => K | some e => ((a : Int), (b : Int), (e : Int), true))) n
    (by
      apply Ev.step
      · intro k
        simp only [spec_FirstFailure.l2]
        rw [if_neg (by omega)]
      · rw [Nat.sub_self]; exact hK)
    (by
      intro e he ih
      have hih : Ev (fun k => spec_FirstFailure.l2 k (i : Int) (j : Int) (wrap64 ((e : Int) + 1)) (n : Int) l) (match failE l a b ((List.range' (e + 1) (n - (e + 1))).filter (fun e => a.testBit e && !b.testBit e)) with | none => K | some e => ((a : Int), (b : Int), (e : Int), true)) := by
        rw [w_succ he (by omega)]; exact ih
      apply Ev.step
      · intro k
        simp only [spec_FirstFailure.l2]
        rw [if_pos (by omega), if_pos (by omega), if_pos (by omega), if_pos (by omega), if_pos (by omega), hai, hbj, l2Has_eq (lt256_63 ha256) (show e < 2 ^ 63 by omega), l2Has_eq (lt256_63 hb256) (show e < 2 ^ 63 by omega), Option.bind_some, Option.bind_some]
      · rw [range'_cons he, List.filter_cons]
        by_cases hae : a.testBit e = true
        · refine Ev.ifp hae ?_
          by_cases hbe : b.testBit e = true
          · refine Ev.ifp hbe ?_
            rw [if_neg (by rw [hbe]; simp)]
            exact hih
          · refine Ev.ifn hbe (Ev.bind (specEx_ev n hn l hl a b e ha256 hb (by omega) hae) ?_)
            rw [if_pos (by rw [hae, Bool.eq_false_iff.2 hbe]; rfl)]
            simp only [failE]
            by_cases hx : hasEx l a b e = true
            · refine Ev.ifp hx ?_
              rw [if_pos hx]; exact hih
            · refine Ev.ifn hx ?_
              rw [if_neg hx]; exact Ev.now _
        · refine Ev.ifn hae ?_
          rw [if_neg (by rw [Bool.eq_false_iff.2 hae]; simp)]
          exact hih)
  rw [Nat.sub_zero, ← List.range_eq_range', ← els_dif ha hn] at h
  exact h
theorem specFail_ev (n : Int) (l : List Int) (hl : l.length ≤ 17592186044416) : Ev (fun k => spec_FirstFailure.f k n l) (failT n l) := by
  unfold spec_FirstFailure.f failT
  refine Ev.bind (specFam_ev n l hl) ?_
  by_cases hf : famB n l = true
  · refine Ev.ifp hf ?_
    rw [if_pos hf]
    obtain ⟨m, L, rfl, hm, rfl, hL, _⟩ := famB_nat hf
    rw [toNat_map]
    have hlen : (L.map (fun x : Nat => (x : Int))).length = L.length := List.length_map _
    rw [hlen] at hl
    have hrd : ∀ i, (h : i < L.length) → rd (L.map (fun x : Nat => (x : Int))) (i : Int) = (L[i] : Int) := fun i h => by
      rw [rd_getElem _ i (by rw [hlen]; exact h), List.getElem_map]
    have hl' : (L.map (fun x : Nat => (x : Int))).length ≤ 17592186044416 := by rw [hlen]; exact hl
    generalize L.map (fun x : Nat => (x : Int)) = l at hlen hrd hl'
    have h := down (P := fun i => Ev (fun k => spec_FirstFailure.l0 k (i : Int) (m : Int) l) (told (failA l L (L.drop i)))) L.length
      (by
        apply Ev.step
        · intro k
          simp only [spec_FirstFailure.l0]
          rw [if_neg (by omega)]
        · rw [drop_end]; exact Ev.now _)
      (by
        intro i hi ih
        have hia := hL _ (List.getElem_mem hi)
        have hih : Ev (fun k => spec_FirstFailure.l0 k (wrap64 ((i : Int) + 1)) (m : Int) l) (told (failA l L (L.drop (i + 1)))) := by
          rw [w_succ hi hl]; exact ih
        apply Ev.step
        · intro k
          simp only [spec_FirstFailure.l0]
          rw [if_pos (by omega)]
        · have h1 := down (P := fun j => Ev (fun k => spec_FirstFailure.l1 k (i : Int) (j : Int) (m : Int) l) (match failB l L[i] (L.drop j) with | none => told (failA l L (L.drop (i + 1))) | some (b, e) => ((L[i] : Int), (b : Int), (e : Int), true))) L.length
            (by
              apply Ev.step
              · intro k
                simp only [spec_FirstFailure.l1]
                rw [if_neg (by omega)]
              · rw [drop_end]; exact hih)
            (by
              intro j hj ihj
              have hjb := hL _ (List.getElem_mem hj)
              apply Ev.step
              · intro k
                simp only [spec_FirstFailure.l1]
                rw [if_pos (by omega)]
              · have h2 := specFail_l2 m hm l hl' i j (by omega) (by omega) L[i] L[j] (hrd i hi) (hrd j hj) hia hjb _ (by rw [w_succ hj hl]; exact ihj)
                rw [drop_cons L j hj]
                simp only [failB]
                generalize failE l L[i] L[j] (els (dif L[i] L[j])) = q at h2
                cases q with
                | none => exact h2
                | some e => exact h2)
          rw [drop_cons L i hi]
          simp only [failA]
          rw [List.drop_zero] at h1
          generalize failB l L[i] L = q at h1
          cases q with
          | none => exact h1
          | some x => exact h1)
    exact h
  · refine Ev.ifn hf ?_
    rw [if_neg hf]
    exact Ev.now _
end Go.Proofs.Ytagncnjllpebjaa.Q
namespace Go.Proofs.Ytagncnjllpebjaa.Q
open Go Go.RowKit Go.Proofs.Ytagncnjllpebjaa.A Go.Proofs.YtagncnjllpebjaaW.PrintWords Go.Proofs.YtagncnjllpebjaaW.PrintLast Go.Proofs.YtagncnjllpebjaaW.PrintMore Go.Proofs.Ytagncnjllpebjaa.Z
set_option linter.unusedVariables false
set_option linter.unusedSimpArgs false
/-- A matroid: a family, not empty, without a failure of the exchange. -/
def matB (n : Int) (l : List Int) : Bool := famB n l && (decide ((l.length : Int) > 0) && !(failT n l).2.2.2)
theorem specMat_ev (n : Int) (l : List Int) (hl : l.length ≤ 17592186044416) : Ev (fun k => spec_IsMatroid.f k n l) (matB n l) := by
  unfold spec_IsMatroid.f matB
  refine Ev.bind (specFail_ev n l hl) (Ev.bind (specFam_ev n l hl) ?_)
  by_cases hf : famB n l = true
  · refine Ev.ifp hf ?_
    rw [hf, Bool.true_and]
    by_cases h0 : (l.length : Int) > 0
    · refine Ev.ifp h0 ?_
      rw [show decide ((l.length : Int) > 0) = true from by simpa using h0, Bool.true_and]
      exact Ev.now _
    · refine Ev.ifn h0 ?_
      rw [show decide ((l.length : Int) > 0) = false from by simpa using h0, Bool.false_and]
      exact Ev.now _
  · refine Ev.ifn hf ?_
    rw [Bool.eq_false_iff.2 hf, Bool.false_and]
    exact Ev.now _
end Go.Proofs.Ytagncnjllpebjaa.Q
namespace Go.Proofs.Ytagncnjllpebjaa.Q
open Go Go.RowKit Go.Proofs.Ytagncnjllpebjaa.A Go.Proofs.YtagncnjllpebjaaW.PrintWords Go.Proofs.YtagncnjllpebjaaW.PrintLast Go.Proofs.YtagncnjllpebjaaW.PrintMore Go.Proofs.Ytagncnjllpebjaa.Z
set_option linter.unusedVariables false
set_option linter.unusedSimpArgs false
theorem implMat_ev (n : Int) (l : List Int) (hl : l.length ≤ 17592186044416) : Ev (fun k => impl_IsMatroid.f k n l) (matB n l) := by
  unfold impl_IsMatroid.f matB
  refine Ev.bind (implFail_ev n l hl) (Ev.bind (implFam_ev n l hl) ?_)
  by_cases hf : famB n l = true
  · refine Ev.ifp hf ?_
    rw [hf, Bool.true_and]
    by_cases h0 : (l.length : Int) > 0
    · refine Ev.ifp h0 ?_
      rw [show decide ((l.length : Int) > 0) = true from by simpa using h0, Bool.true_and]
      exact Ev.now _
    · refine Ev.ifn h0 ?_
      rw [show decide ((l.length : Int) > 0) = false from by simpa using h0, Bool.false_and]
      exact Ev.now _
  · refine Ev.ifn hf ?_
    rw [Bool.eq_false_iff.2 hf, Bool.false_and]
    exact Ev.now _
end Go.Proofs.Ytagncnjllpebjaa.Q
namespace Go.Proofs.Ytagncnjllpebjaa.Q
open Go Go.RowKit Go.Proofs.YtagncnjllpebjaaW.PrintWords Go.Proofs.YtagncnjllpebjaaW.PrintLast Go.Proofs.YtagncnjllpebjaaW.PrintMore Go.Proofs.Ytagncnjllpebjaa.Z
set_option linter.unusedVariables false
set_option linter.unusedSimpArgs false
/-- What a matroid is, as numbers. -/
theorem matB_nat {n : Int} {l : List Int} (h : matB n l = true) : ∃ (m : Nat) (L : List Nat), n = m ∧ m ≤ 8 ∧ l = ints L ∧ (∀ x ∈ L, x < 2 ^ m) ∧ (∀ x ∈ L, x < 256) ∧ L.Pairwise (· < ·) ∧ L ≠ [] := by
  simp only [matB, Bool.and_eq_true, decide_eq_true_eq] at h
  obtain ⟨m, L, rfl, hm, rfl, hL, hp⟩ := famB_nat h.1
  refine ⟨m, L, rfl, hm, rfl, hL, fun x hx => Nat.lt_of_lt_of_le (hL x hx) (pow_le_256 hm), hp, ?_⟩
  rintro rfl
  simp at h
theorem ints_len (L : List Nat) : (ints L).length = L.length := List.length_map _
theorem ints_rd (L : List Nat) (i : Nat) (h : i < L.length) : rd (ints L) (i : Int) = (L[i] : Int) := by
  rw [rd_getElem _ i (by rw [ints_len]; exact h)]
  simp [ints]
end Go.Proofs.Ytagncnjllpebjaa.Q
namespace Go.Proofs.Ytagncnjllpebjaa.Q
open Go Go.RowKit Go.Proofs.Ytagncnjllpebjaa.A Go.Proofs.YtagncnjllpebjaaW.PrintWords Go.Proofs.YtagncnjllpebjaaW.PrintLast Go.Proofs.YtagncnjllpebjaaW.PrintMore Go.Proofs.Ytagncnjllpebjaa.Z
set_option linter.unusedVariables false
set_option linter.unusedSimpArgs false
theorem specCount_l0 : ∀ (d x : Nat), x ≤ d → x < 256 → ∀ acc : Int, 0 ≤ acc → acc + (d : Int) ≤ 1000 → Ev (fun k => spec_CountOf.l0 k (x : Int) acc) (acc + (pc x : Int)) := by
  intro d
  induction d with
  | zero =>
    intro x hx _ acc h0 h1
    obtain rfl : x = 0 := by omega
    apply Ev.step
    · intro k
      simp only [spec_CountOf.l0]
      rw [if_neg (by decide)]
    · rw [pc_zero, show acc + ((0 : Nat) : Int) = acc from by omega]
      exact Ev.now _
  | succ d ih =>
    intro x hx h256 acc h0 h1
    by_cases hz : x = 0
    · subst hz
      exact ih 0 (by omega) h256 acc h0 (by omega)
    · have hb : Go.bits .and .i64 (x : Int) 1 = ((x % 2 : Nat) : Int) := by
        have := and_nat (a := x) (b := 1) (lt256_63 h256) (by decide)
        rw [Nat.and_one_is_mod] at this
        exact this
      apply Ev.step
      · intro k
        simp only [spec_CountOf.l0]
        rw [if_pos (by omega), hb, wrap64_of (by omega) (by omega), show (x : Int) / 2 = ((x / 2 : Nat) : Int) from by omega]
      · have hp := pc_step x h256
        have hl := pc_le (x / 2)
        have := ih (x / 2) (by omega) (by omega) (acc + ((x % 2 : Nat) : Int)) (by omega) (by omega)
        rw [show acc + ((x % 2 : Nat) : Int) + (pc (x / 2) : Int) = acc + (pc x : Int) from by omega] at this
        exact this
theorem specCount_ev (s : Nat) (h : s < 256) : Ev (fun k => spec_CountOf.f k (s : Int)) (pc s : Int) := by
  unfold spec_CountOf.f
  refine Ev.cbind (specIsSet_eq _ _) (Ev.ifp ?_ ?_)
  · rw [isSet8, isAnyB_nat]; simpa using h
  · have := specCount_l0 s s (Nat.le_refl _) h 0 (by omega) (by omega)
    rw [Int.zero_add] at this
    exact this
end Go.Proofs.Ytagncnjllpebjaa.Q
namespace Go.Proofs.Ytagncnjllpebjaa.Q
open Go Go.RowKit Go.Proofs.Ytagncnjllpebjaa.A Go.Proofs.YtagncnjllpebjaaW.PrintWords Go.Proofs.YtagncnjllpebjaaW.PrintLast Go.Proofs.YtagncnjllpebjaaW.PrintMore Go.Proofs.Ytagncnjllpebjaa.Z
set_option linter.unusedVariables false
set_option linter.unusedSimpArgs false
theorem l1Max_eq (a b : Int) : spec_l1Max.f a b = some (max a b) := by
  unfold spec_l1Max.f
  by_cases h : a > b
  · rw [if_pos h]; congr 1; omega
  · rw [if_neg h]; congr 1; omega
theorem specRank_ev (n : Int) (L : List Nat) (s : Nat) (hl : L.length ≤ 17592186044416) (hL : ∀ b ∈ L, b < 256) (hs : s < 256) : Ev (fun k => spec_l5Rank.f k n (ints L) (s : Int)) (rkN L s : Int) := by
  have h := down (P := fun i => ∀ acc : Nat, Ev (fun k => spec_l5Rank.l0 k (s : Int) (acc : Int) (i : Int) n (ints L)) ((maxN acc ((L.drop i).map (fun b => pc (b &&& s))) : Nat) : Int)) L.length
    (by
      intro acc
      apply Ev.step
      · intro k
        simp only [spec_l5Rank.l0]
        rw [if_neg (by rw [ints_len]; omega)]
      · rw [drop_end]; exact Ev.now _)
    (by
      intro i hi ih acc
      have hb := hL _ (List.getElem_mem hi)
      apply Ev.step
      · intro k
        simp only [spec_l5Rank.l0, l1Max_eq, Option.bind_some]
        rw [if_pos (by rw [ints_len]; omega), if_pos (by omega), ints_rd L i hi, w_succ hi hl, and_nat (lt256_63 hb) (lt256_63 hs)]
      · refine Ev.bind (specCount_ev _ (and_lt hb)) ?_
        rw [drop_cons L i hi, List.map_cons, maxN_cons]
        have := ih (max acc (pc (L[i] &&& s)))
        rw [show ((max acc (pc (L[i] &&& s)) : Nat) : Int) = max (acc : Int) (pc (L[i] &&& s) : Int) from by omega] at this
        exact this)
  exact h 0
theorem specFree_ev (n : Int) (L : List Nat) (s : Nat) (hl : L.length ≤ 17592186044416) (hL : ∀ b ∈ L, b < 256) (hne : L ≠ []) (hs : s < 256) : Ev (fun k => spec_l20Free.f k n (ints L) (s : Int)) (indN L s) := by
  unfold spec_l20Free.f
  refine Ev.bind (specRank_ev n L s hl hL hs) (Ev.bind (specCount_ev s hs) ?_)
  have : ((rkN L s : Int) == (pc s : Int)) = indN L s := by
    rw [Bool.eq_iff_iff, ← rk_eq_iff hs hne]
    simp only [beq_iff_eq]
    omega
  rw [this]
  exact Ev.now _
end Go.Proofs.Ytagncnjllpebjaa.Q
namespace Go.Proofs.Ytagncnjllpebjaa.Q
open Go Go.RowKit Go.Proofs.Ytagncnjllpebjaa.A Go.Proofs.YtagncnjllpebjaaW.PrintWords Go.Proofs.YtagncnjllpebjaaW.PrintLast Go.Proofs.YtagncnjllpebjaaW.PrintMore Go.Proofs.Ytagncnjllpebjaa.Z
set_option linter.unusedVariables false
set_option linter.unusedSimpArgs false
theorem subset_eq (t s : Int) : impl_IsSubset.f t s = some (isAnyB t && (isAnyB s && decide (subN t.toNat s.toNat))) := by
  unfold impl_IsSubset.f
  rw [isAny_eq, isAny_eq, Option.bind_some, Option.bind_some]
  by_cases h1 : isAnyB t = true
  · rw [if_pos h1, h1, Bool.true_and]
    by_cases h2 : isAnyB s = true
    · rw [if_pos h2, h2, Bool.true_and]
      obtain ⟨a, rfl, ha⟩ := isAnyB_lt h1
      obtain ⟨b, rfl, hb⟩ := isAnyB_lt h2
      rw [andNot_nat (lt256_63 ha) (lt256_63 hb), Int.toNat_natCast, Int.toNat_natCast]
      have e : (((dif a b : Nat) : Int) == 0) = decide (subN a b) := by
        rw [Bool.eq_iff_iff, beq_iff_eq, decide_eq_true_eq]
        have h := @dif_zero a b
        constructor
        · intro h0; exact h.1 (by omega)
        · intro h0; have := h.2 h0; omega
      rw [e]
    · rw [if_neg h2, Bool.eq_false_iff.2 h2, Bool.false_and]
  · rw [if_neg h1, Bool.eq_false_iff.2 h1, Bool.false_and]
/-- independent at whatever number. -/
def indB (L : List Nat) (s : Int) : Bool := isAnyB s && indN L s.toNat
theorem implInd_ev (n : Int) (L : List Nat) (s : Int) (hl : L.length ≤ 17592186044416) (hL : ∀ b ∈ L, b < 256) : Ev (fun k => impl_independent.f k n (ints L) s) (indB L s) := by
  have h := down (P := fun i => Ev (fun k => impl_independent.l0 k s (ints L) ((ints L).length : Int) (i : Int)) (isAnyB s && (L.drop i).any (fun b => decide (subN s.toNat b)))) L.length
    (by
      apply Ev.step
      · intro k
        simp only [impl_independent.l0]
        rw [if_neg (by rw [ints_len]; omega)]
      · rw [drop_end]
        simp only [List.any_nil, Bool.and_false]
        exact Ev.now _)
    (by
      intro i hi ih
      have hb := hL _ (List.getElem_mem hi)
      apply Ev.step
      · intro k
        simp only [impl_independent.l0, subset_eq, Option.bind_some]
        rw [if_pos (by rw [ints_len]; omega), if_pos (by omega), if_pos (by rw [ints_len]; omega), ints_rd L i hi, w_succ hi hl]
      · rw [drop_cons L i hi, List.any_cons]
        rw [show isAnyB (L[i] : Int) = true from by rw [isAnyB_nat]; simpa using hb, Bool.true_and, Int.toNat_natCast]
        by_cases hx : (isAnyB s && decide (subN s.toNat L[i])) = true
        · refine Ev.ifp hx ?_
          simp only [Bool.and_eq_true] at hx
          rw [hx.1, hx.2]
          exact Ev.now _
        · refine Ev.ifn hx ?_
          have : (isAnyB s && (decide (subN s.toNat L[i]) || (L.drop (i + 1)).any (fun b => decide (subN s.toNat b)))) = (isAnyB s && (L.drop (i + 1)).any (fun b => decide (subN s.toNat b))) := by
            cases h1 : isAnyB s
            · rfl
            · rw [h1] at hx
              simp only [Bool.true_and] at hx ⊢
              rw [Bool.eq_false_iff.2 hx, Bool.false_or]
          rw [this]
          exact ih)
  exact h
theorem indB_nat {L : List Nat} {s : Nat} (hs : s < 256) : indB L (s : Int) = indN L s := by
  unfold indB
  rw [isAnyB_nat, show decide (s < 256) = true from by simpa using hs, Bool.true_and, Int.toNat_natCast]
/-- What lies in a set of n elements is one. -/
theorem indB_set {L : List Nat} {s : Int} {m : Nat} (hL : ∀ b ∈ L, b < 2 ^ m) (h : indB L s = true) : ∃ t : Nat, s = t ∧ t < 2 ^ m ∧ t < 256 ∧ indN L t = true := by
  unfold indB at h
  simp only [Bool.and_eq_true] at h
  obtain ⟨t, rfl, ht⟩ := isAnyB_lt h.1
  rw [Int.toNat_natCast] at h
  obtain ⟨b, hb, hsub⟩ := indN_iff.1 h.2
  exact ⟨t, rfl, Nat.lt_of_le_of_lt (subN_le hsub) (hL b hb), ht, h.2⟩
end Go.Proofs.Ytagncnjllpebjaa.Q
namespace Go.Proofs.Ytagncnjllpebjaa.Q
open Go Go.RowKit Go.Proofs.Ytagncnjllpebjaa.A Go.Proofs.YtagncnjllpebjaaW.PrintWords Go.Proofs.YtagncnjllpebjaaW.PrintLast Go.Proofs.YtagncnjllpebjaaW.PrintMore Go.Proofs.Ytagncnjllpebjaa.Z
set_option linter.unusedVariables false
set_option linter.unusedSimpArgs false
/-- Two matroids of the same size. -/
def togB (n : Int) (l : List Int) (n' : Int) (l' : List Int) : Bool := matB n l && (matB n' l' && decide (n = n'))
theorem tog_ev (n : Int) (l : List Int) (n' : Int) (l' : List Int) (hl : l.length ≤ 17592186044416) (hl' : l'.length ≤ 17592186044416) : Ev (fun k => impl_together.f k n l n' l') (togB n l n' l') := by
  unfold impl_together.f togB
  refine Ev.bind (implMat_ev n l hl) ?_
  by_cases h1 : matB n l = true
  · refine Ev.ifp h1 ?_
    rw [h1, Bool.true_and]
    refine Ev.bind (implMat_ev n' l' hl') ?_
    by_cases h2 : matB n' l' = true
    · refine Ev.ifp h2 ?_
      rw [h2, Bool.true_and]
      have : (n == n') = decide (n = n') := by rw [Bool.eq_iff_iff]; simp
      rw [this]
      exact Ev.now _
    · refine Ev.ifn h2 ?_
      rw [Bool.eq_false_iff.2 h2, Bool.false_and]
      exact Ev.now _
  · refine Ev.ifn h1 ?_
    rw [Bool.eq_false_iff.2 h1, Bool.false_and]
    exact Ev.now _
def commonB (n : Int) (l : List Int) (n' : Int) (l' : List Int) (s : Int) : Bool := togB n l n' l' && (indB (l.map Int.toNat) s && indB (l'.map Int.toNat) s)
theorem implCommon_ev (n : Int) (l : List Int) (n' : Int) (l' : List Int) (s : Int) (hl : l.length ≤ 17592186044416) (hl' : l'.length ≤ 17592186044416) : Ev (fun k => impl_IsCommon.f k n l n' l' s) (commonB n l n' l' s) := by
  unfold impl_IsCommon.f commonB
  refine Ev.bind (tog_ev n l n' l' hl hl') ?_
  by_cases h : togB n l n' l' = true
  · refine Ev.ifp h ?_
    rw [h, Bool.true_and]
    simp only [togB, Bool.and_eq_true, decide_eq_true_eq] at h
    obtain ⟨m, L, rfl, hm, rfl, hL, hL256, _, hne⟩ := matB_nat h.1
    obtain ⟨m', L', rfl, hm', rfl, hL', hL256', _, hne'⟩ := matB_nat h.2.1
    rw [ints_len] at hl hl'
    rw [show (ints L).map Int.toNat = L from toNat_map L, show (ints L').map Int.toNat = L' from toNat_map L']
    refine Ev.bind (implInd_ev _ L s hl hL256) ?_
    by_cases h1 : indB L s = true
    · refine Ev.ifp h1 ?_
      rw [h1, Bool.true_and]
      exact Ev.bind (implInd_ev _ L' s hl' hL256') (Ev.now _)
    · refine Ev.ifn h1 ?_
      rw [Bool.eq_false_iff.2 h1, Bool.false_and]
      exact Ev.now _
  · refine Ev.ifn h ?_
    rw [Bool.eq_false_iff.2 h, Bool.false_and]
    exact Ev.now _
theorem specCommon_ev (n : Int) (l : List Int) (n' : Int) (l' : List Int) (s : Int) (hl : l.length ≤ 17592186044416) (hl' : l'.length ≤ 17592186044416) : Ev (fun k => spec_IsCommon.f k n l n' l' s) (commonB n l n' l' s) := by
  unfold spec_IsCommon.f commonB togB
  refine Ev.bind (specMat_ev n l hl) ?_
  by_cases h1 : matB n l = true
  · refine Ev.ifp h1 (Ev.bind (specMat_ev n' l' hl') ?_)
    rw [h1, Bool.true_and]
    by_cases h2 : matB n' l' = true
    · refine Ev.ifp h2 ?_
      rw [h2, Bool.true_and]
      by_cases hn : n = n'
      · refine Ev.ifp hn ?_
        subst hn
        rw [show decide (n = n) = true from by simp, Bool.true_and]
        obtain ⟨m, L, rfl, hm, rfl, hL, hL256, _, hne⟩ := matB_nat h1
        obtain ⟨m', L', hmm, hm', rfl, hL', hL256', _, hne'⟩ := matB_nat h2
        rw [ints_len] at hl hl'
        rw [show (ints L).map Int.toNat = L from toNat_map L, show (ints L').map Int.toNat = L' from toNat_map L']
        refine Ev.cbind (specIsSet_eq _ _) ?_
        by_cases hs : isSetB (m : Int) s = true
        · refine Ev.ifp hs ?_
          obtain ⟨_, t, _, rfl, _, _, ht⟩ := isSetB_lt hs
          rw [indB_nat ht, indB_nat ht]
          refine Ev.bind (specFree_ev _ L t hl hL256 hne ht) ?_
          by_cases hi : indN L t = true
          · refine Ev.ifp hi ?_
            rw [hi, Bool.true_and]
            exact Ev.bind (specFree_ev _ L' t hl' hL256' hne' ht) (Ev.now _)
          · refine Ev.ifn hi ?_
            rw [Bool.eq_false_iff.2 hi, Bool.false_and]
            exact Ev.now _
        · refine Ev.ifn hs ?_
          have : indB L s = false := by
            rw [Bool.eq_false_iff]
            intro hi
            obtain ⟨t, rfl, ht, _⟩ := indB_set hL hi
            apply hs
            rw [isSetB_nat]
            simp [hm, ht]
          rw [this, Bool.false_and]
          exact Ev.now _
      · refine Ev.ifn hn ?_
        rw [show decide (n = n') = false from by simpa using hn, Bool.false_and]
        exact Ev.now _
    · refine Ev.ifn h2 ?_
      rw [Bool.eq_false_iff.2 h2, Bool.false_and, Bool.false_and]
      exact Ev.now _
  · refine Ev.ifn h1 ?_
    rw [Bool.eq_false_iff.2 h1, Bool.false_and, Bool.false_and]
    exact Ev.now _
end Go.Proofs.Ytagncnjllpebjaa.Q
namespace Go.Proofs.Ytagncnjllpebjaa.Q
open Go Go.RowKit Go.Proofs.YtagncnjllpebjaaW.PrintWords Go.Proofs.YtagncnjllpebjaaW.PrintLast Go.Proofs.YtagncnjllpebjaaW.PrintMore Go.Proofs.Ytagncnjllpebjaa.Z
set_option linter.unusedVariables false
set_option linter.unusedSimpArgs false
theorem togB_nat {n n' : Int} {l l' : List Int} (h : togB n l n' l' = true) : ∃ (m : Nat) (L L' : List Nat), n = m ∧ n' = m ∧ m ≤ 8 ∧ l = ints L ∧ l' = ints L' ∧ (∀ x ∈ L, x < 2 ^ m) ∧ (∀ x ∈ L', x < 2 ^ m) ∧ (∀ x ∈ L, x < 256) ∧ (∀ x ∈ L', x < 256) ∧ L ≠ [] ∧ L' ≠ [] := by
  simp only [togB, Bool.and_eq_true, decide_eq_true_eq] at h
  obtain ⟨h1, h2, h3⟩ := h
  obtain ⟨m, L, rfl, hm, rfl, hL, hL256, _, hne⟩ := matB_nat h1
  obtain ⟨m', L', rfl, hm', rfl, hL', hL256', _, hne'⟩ := matB_nat h2
  have : m = m' := by omega
  subst this
  exact ⟨m, L, L', rfl, rfl, hm, rfl, rfl, hL, hL', hL256, hL256', hne, hne'⟩
end Go.Proofs.Ytagncnjllpebjaa.Q
namespace Go.Proofs.Ytagncnjllpebjaa.Q
open Go Go.RowKit Go.Proofs.YtagncnjllpebjaaW.PrintWords Go.Proofs.YtagncnjllpebjaaW.PrintLast Go.Proofs.YtagncnjllpebjaaW.PrintMore Go.Proofs.Ytagncnjllpebjaa.Z
set_option linter.unusedVariables false
set_option linter.unusedSimpArgs false
theorem or_lt {a x : Nat} (ha : a < 256) (hx : x < 8) : a ||| 2 ^ x < 256 := by
  have h1 : a < 2 ^ 8 := ha
  have h2 : 2 ^ x < 2 ^ 8 := Nat.pow_lt_pow_right (by decide) hx
  exact Nat.or_lt_two_pow h1 h2
theorem pow_lt_256 {x : Nat} (hx : x < 8) : 2 ^ x < 256 := Nat.pow_lt_pow_right (a := 2) (m := x) (n := 8) (by decide) hx
end Go.Proofs.Ytagncnjllpebjaa.Q
namespace Go.Proofs.Ytagncnjllpebjaa.Q
open Go Go.RowKit Go.Proofs.Ytagncnjllpebjaa.A Go.Proofs.YtagncnjllpebjaaW.PrintWords Go.Proofs.YtagncnjllpebjaaW.PrintLast Go.Proofs.YtagncnjllpebjaaW.PrintMore Go.Proofs.Ytagncnjllpebjaa.Z
set_option linter.unusedVariables false
set_option linter.unusedSimpArgs false
def stN (L L' : List Nat) (s x y : Nat) : Bool := if s.testBit x = true then (if s.testBit y = true then false else indN L (swp s x y)) else (if s.testBit y = true then indN L' (swp s y x) else false)
def frN (L : List Nat) (s e : Nat) : Bool := !s.testBit e && indN L (s ||| 2 ^ e)
theorem swp_lt {a e f : Nat} (ha : a < 256) (hf : f < 8) : swp a e f < 256 := or_lt (dif_lt ha) hf
theorem xor_swp {s x y : Nat} (hx : s.testBit x = true) (hy : s.testBit y = false) : (s ^^^ 2 ^ x) ^^^ 2 ^ y = swp s x y := by
  apply Nat.eq_of_testBit_eq
  intro i
  rw [Nat.testBit_xor, Nat.testBit_xor, Nat.testBit_two_pow, Nat.testBit_two_pow, swp_bit]
  by_cases h1 : x = i
  · subst h1
    have : ¬ y = x := by rintro rfl; rw [hx] at hy; cases hy
    simp [hx, this]
  · by_cases h2 : y = i
    · subst h2; simp [hy, h1]
    · simp [h1, h2]
theorem xor_swp' {s x y : Nat} (hx : s.testBit x = false) (hy : s.testBit y = true) : (s ^^^ 2 ^ x) ^^^ 2 ^ y = swp s y x := by
  rw [Nat.xor_assoc, Nat.xor_comm (2 ^ x), ← Nat.xor_assoc]
  exact xor_swp hy hx
theorem l1Bit_eq (b : Bool) : spec_l1Bit.f b = some (if b = true then 1 else 0) := by unfold spec_l1Bit.f; cases b <;> rfl
section
variable {m : Nat} {L L' : List Nat} {s : Nat}
theorem specStep_ev (hl : L.length ≤ 17592186044416) (hl' : L'.length ≤ 17592186044416) (hL : ∀ b ∈ L, b < 256) (hL' : ∀ b ∈ L', b < 256) (hne : L ≠ []) (hne' : L' ≠ []) (hs : s < 256) {x y : Nat} (hx : x < 8) (hy : y < 8) : Ev (fun k => spec_l20Step.f k (m : Int) (ints L) (m : Int) (ints L') (s : Int) (x : Int) (y : Int)) (stN L L' s x y) := by
  have hsx : s ^^^ 2 ^ x < 2 ^ 63 := Nat.xor_lt_two_pow (lt256_63 hs) (lt256_63 (pow_lt_256 hx))
  unfold spec_l20Step.f stN
  refine Ev.cbind (l2Has_eq (lt256_63 hs) (by omega)) (Ev.cbind (l2Has_eq (lt256_63 hs) (by omega)) ?_)
  rw [u64_of (n := (x : Int)) (by omega) (by omega), u64_of (n := (y : Int)) (by omega) (by omega), shl_one (by omega), shl_one (by omega), xor_nat (lt256_63 hs) (lt256_63 (pow_lt_256 hx)), xor_nat hsx (lt256_63 (pow_lt_256 hy))]
  cases h1 : s.testBit x
  · cases h2 : s.testBit y
    · exact Ev.ifp rfl (Ev.now _)
    · refine Ev.ifn (by decide) (Ev.ifp (by omega) (Ev.ifp (by omega) (Ev.cbind (l2Has_eq (lt256_63 hs) (by omega)) ?_)))
      rw [h1, xor_swp' h1 h2]
      exact Ev.ifn (by decide) (Ev.bind (specFree_ev _ L' _ hl' hL' hne' (swp_lt hs hx)) (Ev.now _))
  · cases h2 : s.testBit y
    · refine Ev.ifn (by decide) (Ev.ifp (by omega) (Ev.ifp (by omega) (Ev.cbind (l2Has_eq (lt256_63 hs) (by omega)) ?_)))
      rw [h1, xor_swp h1 h2]
      exact Ev.ifp rfl (Ev.bind (specFree_ev _ L _ hl hL hne (swp_lt hs hy)) (Ev.now _))
    · exact Ev.ifp rfl (Ev.now _)
theorem lev_at {d1 : Nat → Bool} {st : Nat → Nat → Bool} (j f : Nat) : lev m d1 st (j + 1) f = j + 1 ↔ lev m d1 st j f = j + 1 := by
  rw [lev]
  by_cases h0 : lev m d1 st j f = 0
  · rw [if_pos h0]
    by_cases h2 : (List.range m).any (fun g => decide (lev m d1 st j g = j + 1) && st f g) = true
    · rw [if_pos h2]; omega
    · rw [if_neg h2]; omega
  · rw [if_neg h0]
theorem specFar_ev (hm : m ≤ 8) (hl : L.length ≤ 17592186044416) (hl' : L'.length ≤ 17592186044416) (hL : ∀ b ∈ L, b < 256) (hL' : ∀ b ∈ L', b < 256) (hne : L ≠ []) (hne' : L' ≠ []) (hs : s < 256) : Ev (fun k => spec_l20Far.f k (m : Int) (ints L) (m : Int) (ints L') (s : Int)) (labI m (fun e => (lev m (frN L' s) (stN L L' s) (m - 1) e : Int))) := by
  unfold spec_l20Far.f
  refine Ev.ifp (by omega) (Ev.ifp (by omega) ?_)
  rw [Int.toNat_natCast, labI_zero]
  generalize hR : labI m (fun e => (lev m (frN L' s) (stN L L' s) (m - 1) e : Int)) = R
  have h1 := down (P := fun j => Ev (fun k => spec_l20Far.l1 k (s : Int) (labI m (fun e => (lev m (frN L' s) (stN L L' s) j e : Int))) ((j : Int) + 2) (m : Int) (ints L) (m : Int) (ints L')) R) (m - 1)
    (by
      apply Ev.step
      · intro k
        rw [spec_l20Far.l1, if_neg (by omega)]
      · rw [hR]; exact Ev.now _)
    (by
      intro j hj ih
      apply Ev.step
      · intro k
        rw [spec_l20Far.l1, if_pos (by omega)]
      have h2 := down (P := fun e => Ev (fun k => spec_l20Far.l2 k (s : Int) (labI m (fun i => if i < e then (lev m (frN L' s) (stN L L' s) (j + 1) i : Int) else (lev m (frN L' s) (stN L L' s) j i : Int))) ((j : Int) + 2) (e : Int) (m : Int) (ints L) (m : Int) (ints L')) R) m
        (by
          apply Ev.step
          · intro k
            rw [spec_l20Far.l2, if_neg (by omega), wrap64_of (by omega) (by omega)]
          · have e : labI m (fun i => if i < m then (lev m (frN L' s) (stN L L' s) (j + 1) i : Int) else (lev m (frN L' s) (stN L L' s) j i : Int)) = labI m (fun i => (lev m (frN L' s) (stN L L' s) (j + 1) i : Int)) := labI_congr (fun v hv => by rw [if_pos hv])
            rw [e, show (j : Int) + 2 + 1 = ((j + 1 : Nat) : Int) + 2 from by omega]
            exact ih)
        (by
          intro e he ihe
          apply Ev.step
          · intro k
            rw [spec_l20Far.l2, if_pos (by omega)]
          have hset : ∀ v : Int, v = (lev m (frN L' s) (stN L L' s) (j + 1) e : Int) → (labI m (fun i => if i < e then (lev m (frN L' s) (stN L L' s) (j + 1) i : Int) else (lev m (frN L' s) (stN L L' s) j i : Int))).set e v = labI m (fun i => if i < e + 1 then (lev m (frN L' s) (stN L L' s) (j + 1) i : Int) else (lev m (frN L' s) (stN L L' s) j i : Int)) := by
            intro v hv
            rw [labI_set]
            apply labI_congr
            intro i _
            by_cases hi : i = e
            · subst hi; rw [if_pos rfl, if_pos (by omega), hv]
            · rw [if_neg hi]
              by_cases hi2 : i < e
              · rw [if_pos hi2, if_pos (by omega)]
              · rw [if_neg hi2, if_neg (by omega)]
          have hsame : (lev m (frN L' s) (stN L L' s) (j + 1) e) = (lev m (frN L' s) (stN L L' s) j e) → labI m (fun i => if i < e then (lev m (frN L' s) (stN L L' s) (j + 1) i : Int) else (lev m (frN L' s) (stN L L' s) j i : Int)) = labI m (fun i => if i < e + 1 then (lev m (frN L' s) (stN L L' s) (j + 1) i : Int) else (lev m (frN L' s) (stN L L' s) j i : Int)) := by
            intro hv
            apply labI_congr
            intro i _
            by_cases hi : i = e
            · subst hi; rw [if_neg (by omega), if_pos (by omega), hv]
            · by_cases hi2 : i < e
              · rw [if_pos hi2, if_pos (by omega)]
              · rw [if_neg hi2, if_neg (by omega)]
          by_cases h0 : lev m (frN L' s) (stN L L' s) j e = 0
          rotate_left
          · -- known already
            have hk := lev_keep h0
            apply Ev.step
            · intro k
              rw [spec_l20Far.l3, if_pos (by omega), if_pos (by omega), if_pos (by rw [labI_len]; omega), labI_rd _ _ e he, if_neg (by omega)]
            · apply Ev.step
              · intro k
                rw [spec_l20Far.j4]
              · refine Ev.ifn ?_ ?_
                · rw [beq_iff_eq]; omega
                · rw [w_succ he (by omega), hsame hk]
                  exact ihe
          · have h3 := down (P := fun f => (List.range f).any (fun g => decide (lev m (frN L' s) (stN L L' s) j g = j + 1) && stN L L' s e g) = false → Ev (fun k => spec_l20Far.l3 k (s : Int) (labI m (fun i => if i < e then (lev m (frN L' s) (stN L L' s) (j + 1) i : Int) else (lev m (frN L' s) (stN L L' s) j i : Int))) ((j : Int) + 2) (e : Int) (f : Int) (m : Int) (ints L) (m : Int) (ints L')) R) m
              (by
                intro hno
                apply Ev.step
                · intro k
                  rw [spec_l20Far.l3, if_neg (by omega)]
                · apply Ev.step
                  · intro k
                    rw [spec_l20Far.j4]
                  · refine Ev.ifn (by decide) ?_
                    rw [w_succ he (by omega), hsame (by rw [lev, if_pos h0, hno, if_neg (by decide), h0])]
                    exact ihe)
              (by
                intro f hf ihf hno
                apply Ev.step
                · intro k
                  rw [spec_l20Far.l3, if_pos (by omega), if_pos (by omega), if_pos (by rw [labI_len]; omega), labI_rd _ _ e he, if_neg (by omega), h0]
                · apply Ev.step
                  · intro k
                    rw [spec_l20Far.j4]
                  · refine Ev.ifp rfl (Ev.ifp (by omega) (Ev.ifp (by rw [labI_len]; omega) ?_))
                    rw [labI_rd _ _ f hf, wrap64_of (n := (j : Int) + 2 - 1) (by omega) (by omega)]
                    have hat : ((if f < e then (lev m (frN L' s) (stN L L' s) (j + 1) f : Int) else (lev m (frN L' s) (stN L L' s) j f : Int)) = (j : Int) + 2 - 1) ↔ lev m (frN L' s) (stN L L' s) j f = j + 1 := by
                      by_cases hfe : f < e
                      · rw [if_pos hfe, ← lev_at]; omega
                      · rw [if_neg hfe]; omega
                    have hsucc : (List.range (f + 1)).any (fun g => decide (lev m (frN L' s) (stN L L' s) j g = j + 1) && stN L L' s e g) = (decide (lev m (frN L' s) (stN L L' s) j f = j + 1) && stN L L' s e f) := by
                      rw [List.range_succ, List.any_append, hno]; simp
                    by_cases hc : lev m (frN L' s) (stN L L' s) j f = j + 1
                    · refine Ev.ifp (hat.2 hc) (Ev.bind (specStep_ev hl hl' hL hL' hne hne' hs (by omega) (by omega)) ?_)
                      by_cases hst : stN L L' s e f = true
                      · refine Ev.ifp hst (Ev.ifp (by omega) (Ev.ifp (by rw [labI_len]; omega) ?_))
                        have hv : lev m (frN L' s) (stN L L' s) (j + 1) e = j + 2 := by
                          rw [lev, if_pos h0, if_pos]
                          rw [List.any_eq_true]
                          exact ⟨f, List.mem_range.2 hf, by rw [decide_eq_true hc, hst]; rfl⟩
                        rw [Int.toNat_natCast, hset _ (by rw [hv]; rfl), w_succ hf (by omega)]
                        apply Ev.step
                        · intro k
                          rw [spec_l20Far.l3]
                        by_cases hlast : f + 1 < m
                        · refine Ev.ifp (by omega) (Ev.ifp (by omega) (Ev.ifp (by rw [labI_len]; omega) ?_))
                          rw [labI_rd _ _ e he, if_pos (by omega), hv]
                          apply Ev.step
                          · intro k
                            rw [spec_l20Far.j4]
                          · refine Ev.ifn (by rw [beq_iff_eq]; omega) ?_
                            rw [w_succ he (by omega)]
                            exact ihe
                        · refine Ev.ifn (by omega) ?_
                          apply Ev.step
                          · intro k
                            rw [spec_l20Far.j4]
                          · refine Ev.ifn (by decide) ?_
                            rw [w_succ he (by omega)]
                            exact ihe
                      · refine Ev.ifn hst ?_
                        rw [w_succ hf (by omega)]
                        exact ihf (by rw [hsucc, Bool.eq_false_iff.2 hst, Bool.and_false])
                    · refine Ev.ifn (fun h => hc (hat.1 h)) ?_
                      rw [w_succ hf (by omega)]
                      exact ihf (by rw [hsucc, decide_eq_false hc, Bool.false_and]))
            exact h3 (by simp))
      have e0 : labI m (fun i => if i < 0 then (lev m (frN L' s) (stN L L' s) (j + 1) i : Int) else (lev m (frN L' s) (stN L L' s) j i : Int)) = labI m (fun i => (lev m (frN L' s) (stN L L' s) j i : Int)) := labI_congr (fun v _ => by rw [if_neg (by omega)])
      rw [e0] at h2
      exact h2)
  have h0 := down (P := fun e => Ev (fun k => spec_l20Far.l0 k (s : Int) (labI m (fun i => if i < e then (lev m (frN L' s) (stN L L' s) 0 i : Int) else 0)) (e : Int) (m : Int) (ints L) (m : Int) (ints L')) R) m
    (by
      apply Ev.step
      · intro k
        rw [spec_l20Far.l0, if_neg (by omega)]
      · have e : labI m (fun i => if i < m then (lev m (frN L' s) (stN L L' s) 0 i : Int) else 0) = labI m (fun i => (lev m (frN L' s) (stN L L' s) 0 i : Int)) := labI_congr (fun v hv => by rw [if_pos hv])
        rw [e]
        exact h1)
    (by
      intro e he ih
      have h2e := pow_lt_256 (show e < 8 by omega)
      have hset : ∀ v : Int, v = (lev m (frN L' s) (stN L L' s) 0 e : Int) → (labI m (fun i => if i < e then (lev m (frN L' s) (stN L L' s) 0 i : Int) else 0)).set e v = labI m (fun i => if i < e + 1 then (lev m (frN L' s) (stN L L' s) 0 i : Int) else 0) := by
        intro v hv
        rw [labI_set]
        apply labI_congr
        intro i _
        by_cases hi : i = e
        · subst hi; rw [if_pos rfl, if_pos (by omega), hv]
        · rw [if_neg hi]
          by_cases hi2 : i < e
          · rw [if_pos hi2, if_pos (by omega)]
          · rw [if_neg hi2, if_neg (by omega)]
      apply Ev.step
      · intro k
        rw [spec_l20Far.l0, if_pos (by omega)]
      · refine Ev.cbind (l2Has_eq (lt256_63 hs) (by omega)) ?_
        rw [u64_of (by omega) (by omega), shl_one (by omega), or_nat (lt256_63 hs) (lt256_63 h2e), w_succ he (by omega)]
        cases hb : s.testBit e
        · refine Ev.ifn (by decide) (Ev.ifp (by omega) (Ev.bind (specFree_ev _ L' _ hl' hL' hne' (or_lt hs (by omega))) (Ev.cbind (l1Bit_eq _) (Ev.ifp (by omega) (Ev.ifp (by rw [labI_len]; omega) ?_)))))
          rw [Int.toNat_natCast, hset _ (by unfold lev frN; rw [hb]; simp only [Bool.not_false, Bool.true_and]; split <;> rfl)]
          exact ih
        · refine Ev.ifp rfl (Ev.cbind (l1Bit_eq _) (Ev.ifp (by omega) (Ev.ifp (by rw [labI_len]; omega) ?_)))
          rw [Int.toNat_natCast, hset _ (by unfold lev frN; rw [hb]; rfl)]
          exact ih)
  have e0 : labI m (fun i => if i < 0 then (lev m (frN L' s) (stN L L' s) 0 i : Int) else 0) = labI m (fun _ => 0) := labI_congr (fun v _ => by rw [if_neg (by omega)])
  rw [e0] at h0
  exact h0
end
end Go.Proofs.Ytagncnjllpebjaa.Q
namespace Go.Proofs.Ytagncnjllpebjaa.Q
open Go Go.RowKit Go.Proofs.Ytagncnjllpebjaa.A Go.Proofs.YtagncnjllpebjaaW.PrintWords Go.Proofs.YtagncnjllpebjaaW.PrintLast Go.Proofs.YtagncnjllpebjaaW.PrintMore Go.Proofs.Ytagncnjllpebjaa.Z
set_option linter.unusedVariables false
set_option linter.unusedSimpArgs false
theorem bestL_nil (q : Nat → Bool) (lv : Nat → Nat) (a : Option Nat) : bestL q lv a [] = a := by simp only [bestL]
/-- Is e better than what stands there? -/
def betN (lv : Nat → Nat) (e : Nat) : Option Nat → Bool
  | none => true
  | some b => decide (lv e < lv b)
theorem bestL_cons (q : Nat → Bool) (lv : Nat → Nat) (a : Option Nat) (e : Nat) (es : List Nat) : bestL q lv a (e :: es) = bestL q lv (if (q e && (decide (0 < lv e) && betN lv e a)) = true then some e else a) es := by
  simp only [bestL]
  cases a <;> rfl
/-- The distances of the elements. -/
def lvN (m : Nat) (L L' : List Nat) (s : Nat) : Nat → Nat := lev m (frN L' s) (stN L L' s) (m - 1)
theorem lvN_le (m : Nat) (L L' : List Nat) (s e : Nat) : lvN m L L' s e ≤ m + 1 := Nat.le_trans (lev_le _ _) (by omega)
theorem lvN_prev {m : Nat} {L L' : List Nat} {s a d : Nat} (h : lvN m L L' s a = d + 2) : ∃ f, f < m ∧ lvN m L L' s f + 1 = lvN m L L' s a ∧ stN L L' s a f = true := by
  obtain ⟨f, hf, h1, h2⟩ := lev_prev (m - 1) a d h
  exact ⟨f, hf, by rw [h]; unfold lvN; omega, h2⟩
/-- The path, if there is one. -/
def augN (m : Nat) (L L' : List Nat) (s : Nat) : List Int × Bool :=
  match bestL (frN L s) (lvN m L L' s) none (List.range m) with
  | none => ([], false)
  | some a => (ints (a :: pathT m (lvN m L L' s) (stN L L' s) (lvN m L L' s a - 1) a), true)
def augB (n : Int) (l : List Int) (n' : Int) (l' : List Int) (s : Int) : List Int × Bool := if commonB n l n' l' s = true then augN n.toNat (l.map Int.toNat) (l'.map Int.toNat) s.toNat else ([], false)
theorem augB_len (n : Int) (l : List Int) (n' : Int) (l' : List Int) (s : Int) : (augB n l n' l' s).1.length ≤ 10 := by
  unfold augB
  by_cases h : commonB n l n' l' s = true
  · rw [if_pos h]
    have h' := h
    simp only [commonB, Bool.and_eq_true] at h
    obtain ⟨m, L, L', rfl, rfl, hm, rfl, rfl, _⟩ := togB_nat h.1
    rw [Int.toNat_natCast]
    unfold augN
    cases hb : bestL (frN ((ints L).map Int.toNat) s.toNat) (lvN m ((ints L).map Int.toNat) ((ints L').map Int.toNat) s.toNat) none (List.range m) with
    | none => exact Nat.zero_le _
    | some a =>
      simp only [ints_len, List.length_cons, pathT_len]
      have := lvN_le m ((ints L).map Int.toNat) ((ints L').map Int.toNat) s.toNat a
      omega
  · rw [if_neg h]; exact Nat.zero_le _
theorem commonB_nat {n n' : Int} {l l' : List Int} {s : Int} (h : commonB n l n' l' s = true) : ∃ (m : Nat) (L L' : List Nat) (t : Nat), n = m ∧ n' = m ∧ m ≤ 8 ∧ l = ints L ∧ l' = ints L' ∧ (∀ x ∈ L, x < 256) ∧ (∀ x ∈ L', x < 256) ∧ L ≠ [] ∧ L' ≠ [] ∧ s = t ∧ t < 2 ^ m ∧ t < 256 ∧ indN L t = true ∧ indN L' t = true := by
  simp only [commonB, Bool.and_eq_true] at h
  obtain ⟨h1, h2, h3⟩ := h
  obtain ⟨m, L, L', rfl, rfl, hm, rfl, rfl, hL, hL', hL256, hL256', hne, hne'⟩ := togB_nat h1
  rw [show (ints L).map Int.toNat = L from toNat_map L] at h2
  rw [show (ints L').map Int.toNat = L' from toNat_map L'] at h3
  obtain ⟨t, rfl, ht, ht256, hi⟩ := indB_set hL h2
  rw [indB_nat ht256] at h3
  exact ⟨m, L, L', t, rfl, rfl, hm, rfl, rfl, hL256, hL256', hne, hne', rfl, ht, ht256, hi, h3⟩
section
variable {m : Nat} {L L' : List Nat} {s : Nat}
theorem specPath_ev (hm : m ≤ 8) (hl : L.length ≤ 17592186044416) (hl' : L'.length ≤ 17592186044416) (hL : ∀ b ∈ L, b < 256) (hL' : ∀ b ∈ L', b < 256) (hne : L ≠ []) (hne' : L' ≠ []) (hs : s < 256) : ∀ (d a : Nat) (acc : List Nat), a < m → lvN m L L' s a = d + 1 → acc.length + d ≤ 100 → Ev (fun k => spec_AugmentingPath.l1 k (s : Int) (labI m (fun e => (lvN m L L' s e : Int))) (a : Int) (ints acc) (m : Int) (ints L) (m : Int) (ints L')) (ints (acc ++ pathT m (lvN m L L' s) (stN L L' s) d a), true) := by
  intro d
  induction d with
  | zero =>
    intro a acc ha hv _
    apply Ev.step
    · intro k
      rw [spec_AugmentingPath.l1, if_pos (by omega), if_pos (by rw [labI_len]; omega), labI_rd _ _ a ha, if_neg (by omega)]
    · rw [pathT, List.append_nil]; exact Ev.now _
  | succ d ih =>
    intro a acc ha hv hlen
    apply Ev.step
    · intro k
      rw [spec_AugmentingPath.l1, if_pos (by omega), if_pos (by rw [labI_len]; omega), labI_rd _ _ a ha, if_pos (by omega)]
    obtain ⟨k1, k2, k3, k4⟩ := nxtN_spec (lvN_prev hv)
    rw [pathT]
    generalize nxtN m (lvN m L L' s) (stN L L' s) a = x at k1 k2 k3 k4
    have h := down (P := fun y => Ev (fun k => spec_AugmentingPath.l2 k (s : Int) (labI m (fun e => (lvN m L L' s e : Int))) (a : Int) (ints acc) (y : Int) (m : Int) (ints L) (m : Int) (ints L')) (ints (acc ++ x :: pathT m (lvN m L L' s) (stN L L' s) d x), true)) x
      (by
        apply Ev.step
        · intro k
          rw [spec_AugmentingPath.l2, if_pos (by omega), if_pos (by rw [labI_len]; omega), if_pos (by omega), if_pos (by rw [labI_len]; omega), labI_rd _ _ a ha, labI_rd _ _ x k1, wrap64_of (by omega) (by omega), if_pos (by omega)]
        · refine Ev.bind (specStep_ev hl hl' hL hL' hne hne' hs (by omega) (by omega)) (Ev.ifp k3 (Ev.ifp (by rw [ints_len]; omega) ?_))
          have := ih x (acc ++ [x]) k1 (by omega) (by rw [List.length_append, List.length_singleton]; omega)
          rw [List.append_assoc, List.singleton_append] at this
          rw [show ints acc ++ [(x : Int)] = ints (acc ++ [x]) from by simp [ints]]
          exact this)
      (by
        intro y hy ihy
        have hk := k4 y hy
        apply Ev.step
        · intro k
          rw [spec_AugmentingPath.l2, if_pos (by omega), if_pos (by rw [labI_len]; omega), if_pos (by omega), if_pos (by rw [labI_len]; omega), labI_rd _ _ a ha, labI_rd _ _ y (by omega), wrap64_of (n := ((lvN m L L' s a : Nat) : Int) - 1) (by omega) (by omega), w_succ hy (by omega)]
        · by_cases hc : lvN m L L' s y + 1 = lvN m L L' s a
          · rw [decide_eq_true hc, Bool.true_and] at hk
            refine Ev.ifp (by omega) (Ev.bind (specStep_ev hl hl' hL hL' hne hne' hs (by omega) (by omega)) ?_)
            exact Ev.ifn (by rw [hk]; decide) ihy
          · exact Ev.ifn (by omega) ihy)
    exact h
theorem specAug_nat (hm : m ≤ 8) (hl : L.length ≤ 17592186044416) (hl' : L'.length ≤ 17592186044416) (hL : ∀ b ∈ L, b < 256) (hL' : ∀ b ∈ L', b < 256) (hne : L ≠ []) (hne' : L' ≠ []) (hs : s < 256) : Ev (fun k => spec_AugmentingPath.l0 k (s : Int) (labI m (fun e => (lvN m L L' s e : Int))) (-1) 0 (m : Int) (ints L) (m : Int) (ints L')) (augN m L L' s) := by
  have h := down (P := fun e => ∀ a : Option Nat, (∀ b, a = some b → b < m ∧ 0 < lvN m L L' s b) → bestL (frN L s) (lvN m L L' s) none (List.range m) = bestL (frN L s) (lvN m L L' s) a (List.range' e (m - e)) → Ev (fun k => spec_AugmentingPath.l0 k (s : Int) (labI m (fun e => (lvN m L L' s e : Int))) (cdO a) (e : Int) (m : Int) (ints L) (m : Int) (ints L')) (augN m L L' s)) m
    (by
      intro a ha hb
      rw [Nat.sub_self, List.range'_zero, bestL_nil] at hb
      apply Ev.step
      · intro k
        rw [spec_AugmentingPath.l0, if_neg (by omega)]
      · unfold augN
        rw [hb]
        cases a with
        | none => exact Ev.ifp (show (-1 : Int) < 0 by decide) (Ev.now _)
        | some b =>
          obtain ⟨hbm, hbv⟩ := ha b rfl
          refine Ev.ifn (show ¬ ((b : Nat) : Int) < 0 by omega) ?_
          have := specPath_ev hm hl hl' hL hL' hne hne' hs (lvN m L L' s b - 1) b [b] hbm (by omega) (by have := lvN_le m L L' s b; simp; omega)
          exact this)
    (by
      intro e he ih a ha hb
      have h2e := pow_lt_256 (show e < 8 by omega)
      rw [range'_cons' he, bestL_cons] at hb
      apply Ev.step
      · intro k
        rw [spec_AugmentingPath.l0, if_pos (by omega)]
      · refine Ev.cbind (l2Has_eq (lt256_63 hs) (by omega)) ?_
        rw [u64_of (by omega) (by omega), shl_one (by omega), or_nat (lt256_63 hs) (lt256_63 h2e), w_succ he (by omega)]
        cases hbit : s.testBit e
        rotate_left
        · refine Ev.ifp rfl (ih a ha ?_)
          rw [hb, if_neg]
          unfold frN; rw [hbit]; simp
        refine Ev.ifn (by decide) (Ev.ifp (by omega) (Ev.bind (specFree_ev _ L _ hl hL hne (or_lt hs (by omega))) ?_))
        by_cases hi : indN L (s ||| 2 ^ e) = true
        rotate_left
        · refine Ev.ifn hi (ih a ha ?_)
          rw [hb, if_neg]
          unfold frN; rw [Bool.eq_false_iff.2 hi]; simp
        have hf : frN L s e = true := by unfold frN; rw [hbit, hi]; rfl
        rw [hf, Bool.true_and] at hb
        refine Ev.ifp hi (Ev.ifp (by omega) (Ev.ifp (by rw [labI_len]; omega) ?_))
        rw [labI_rd _ _ e he]
        by_cases hv : 0 < lvN m L L' s e
        rotate_left
        · refine Ev.ifn (by omega) (ih a ha ?_)
          rw [hb, if_neg]
          rw [decide_eq_false hv]; simp
        rw [decide_eq_true hv, Bool.true_and] at hb
        refine Ev.ifp (by omega) ?_
        cases a with
        | none =>
          rw [if_pos (show betN (lvN m L L' s) e none = true from rfl)] at hb
          exact Ev.ifp (show (-1 : Int) < 0 by decide) (ih (some e) (fun b h => by obtain rfl := Option.some.inj h; exact ⟨he, hv⟩) hb)
        | some b =>
          obtain ⟨hbm, hbv⟩ := ha b rfl
          refine Ev.ifn (show ¬ ((b : Nat) : Int) < 0 by omega) (Ev.ifp (show (0 : Int) ≤ ((b : Nat) : Int) by omega) (Ev.ifp (by rw [labI_len]; show ((b : Nat) : Int) < (m : Int); omega) ?_))
          rw [show cdO (some b) = ((b : Nat) : Int) from rfl, labI_rd _ _ b hbm]
          simp only [betN, decide_eq_true_eq] at hb
          by_cases hlt : lvN m L L' s e < lvN m L L' s b
          · rw [if_pos hlt] at hb
            exact Ev.ifp (by omega) (ih (some e) (fun b h => by obtain rfl := Option.some.inj h; exact ⟨he, hv⟩) hb)
          · rw [if_neg hlt] at hb
            exact Ev.ifn (by omega) (ih (some b) ha hb))
  exact h none (fun _ h => by cases h) (by rw [Nat.sub_zero, ← List.range_eq_range'])
end
theorem specAug_ev (n : Int) (l : List Int) (n' : Int) (l' : List Int) (s : Int) (hl : l.length ≤ 17592186044416) (hl' : l'.length ≤ 17592186044416) : Ev (fun k => spec_AugmentingPath.f k n l n' l' s) (augB n l n' l' s) := by
  unfold spec_AugmentingPath.f augB
  refine Ev.bind (specCommon_ev n l n' l' s hl hl') ?_
  by_cases h : commonB n l n' l' s = true
  · rw [if_pos h]
    obtain ⟨m, L, L', t, rfl, rfl, hm, rfl, rfl, hL, hL', hne, hne', rfl, ht, ht256, _, _⟩ := commonB_nat h
    rw [ints_len] at hl hl'
    rw [show (ints L).map Int.toNat = L from toNat_map L, show (ints L').map Int.toNat = L' from toNat_map L', Int.toNat_natCast, Int.toNat_natCast]
    exact Ev.ifp h (Ev.bind (specFar_ev hm hl hl' hL hL' hne hne' ht256) (specAug_nat hm hl hl' hL hL' hne hne' ht256))
  · rw [if_neg h]; exact Ev.ifn h (Ev.now _)
end Go.Proofs.Ytagncnjllpebjaa.Q
namespace Go.Proofs.Ytagncnjllpebjaa.Q
open Go Go.RowKit Go.Proofs.Ytagncnjllpebjaa.A Go.Proofs.YtagncnjllpebjaaW.PrintWords Go.Proofs.YtagncnjllpebjaaW.PrintLast Go.Proofs.YtagncnjllpebjaaW.PrintMore Go.Proofs.Ytagncnjllpebjaa.Z
set_option linter.unusedVariables false
set_option linter.unusedSimpArgs false
/-- A distance as the program keeps it: -1 where there is none. -/
def cod (v : Nat) : Int := if v = 0 then -1 else (v : Int)
theorem cod_neg {v : Nat} : cod v < 0 ↔ v = 0 := by
  unfold cod
  by_cases h : v = 0
  · rw [if_pos h]; omega
  · rw [if_neg h]; omega
theorem cod_at {v j : Nat} : cod v = (j : Int) + 1 ↔ v = j + 1 := by
  unfold cod
  by_cases h : v = 0
  · rw [if_pos h]; omega
  · rw [if_neg h]; omega
theorem cod_pos {v : Nat} : 0 < cod v ↔ 0 < v := by
  unfold cod
  by_cases h : v = 0
  · rw [if_pos h]; omega
  · rw [if_neg h]; omega
theorem cod_of {v : Nat} (h : 0 < v) : cod v = (v : Int) := if_neg (by omega)
section
variable {m : Nat} {L L' : List Nat} {s : Nat}
theorem implStep_ev (hl : L.length ≤ 17592186044416) (hl' : L'.length ≤ 17592186044416) (hL : ∀ b ∈ L, b < 256) (hL' : ∀ b ∈ L', b < 256) (hs : s < 256) {x y : Nat} (hx : x < 8) (hy : y < 8) : Ev (fun k => impl_goesOn.f k (m : Int) (ints L) (m : Int) (ints L') (s : Int) (x : Int) (y : Int)) (stN L L' s x y) := by
  have hbx : hasB (s : Int) (x : Int) = s.testBit x := by rw [hasB_nat, decide_eq_true hs, decide_eq_true hx]; simp
  have hby : hasB (s : Int) (y : Int) = s.testBit y := by rw [hasB_nat, decide_eq_true hs, decide_eq_true hy]; simp
  have e1 : Go.bits .or .i64 (Go.bits .andNot .i64 (s : Int) (shl .i64 1 (x : Int))) (shl .i64 1 (y : Int)) = ((swp s x y : Nat) : Int) := by
    rw [shl_one (by omega), shl_one (by omega), andNot_nat (lt256_63 hs) (lt256_63 (pow_lt_256 hx)), or_nat (lt256_63 (dif_lt hs)) (lt256_63 (pow_lt_256 hy))]; rfl
  have e2 : Go.bits .or .i64 (Go.bits .andNot .i64 (s : Int) (shl .i64 1 (y : Int))) (shl .i64 1 (x : Int)) = ((swp s y x : Nat) : Int) := by
    rw [shl_one (by omega), shl_one (by omega), andNot_nat (lt256_63 hs) (lt256_63 (pow_lt_256 hy)), or_nat (lt256_63 (dif_lt hs)) (lt256_63 (pow_lt_256 hx))]; rfl
  unfold impl_goesOn.f stN
  refine Ev.cbind (implHas_eq _ _) ?_
  rw [hbx]
  cases h1 : s.testBit x
  · refine Ev.ifn (by decide) ?_
    apply Ev.step
    · intro k; rw [impl_goesOn.j0]
    refine Ev.ifn (by decide) (Ev.cbind (implHas_eq _ _) ?_)
    rw [hbx, h1]
    refine Ev.ifn (by decide) (Ev.cbind (implHas_eq _ _) ?_)
    rw [hby]
    cases h2 : s.testBit y
    · exact Ev.ifn (by decide) (Ev.now _)
    · refine Ev.ifp rfl (Ev.ifp (by omega) (Ev.ifp (by omega) ?_))
      rw [e2]
      have := implInd_ev (m : Int) L' ((swp s y x : Nat) : Int) hl' hL'
      rw [indB_nat (swp_lt hs hx)] at this
      exact Ev.bind this (Ev.now _)
  · refine Ev.ifp rfl (Ev.cbind (implHas_eq _ _) ?_)
    rw [hby]
    cases h2 : s.testBit y
    · apply Ev.step
      · intro k; rw [impl_goesOn.j0]
      refine Ev.ifp rfl (Ev.ifp (by omega) (Ev.ifp (by omega) ?_))
      rw [e1]
      have := implInd_ev (m : Int) L ((swp s x y : Nat) : Int) hl hL
      rw [indB_nat (swp_lt hs hy)] at this
      exact Ev.bind this (Ev.now _)
    · apply Ev.step
      · intro k; rw [impl_goesOn.j0]
      refine Ev.ifn (by decide) (Ev.cbind (implHas_eq _ _) ?_)
      rw [hbx, h1]
      exact Ev.ifp rfl (Ev.now _)
theorem implPath_ev (hm : m ≤ 8) (hl : L.length ≤ 17592186044416) (hl' : L'.length ≤ 17592186044416) (hL : ∀ b ∈ L, b < 256) (hL' : ∀ b ∈ L', b < 256) (hs : s < 256) : ∀ (d a : Nat) (acc : List Nat), a < m → lvN m L L' s a = d + 1 → acc.length + d ≤ 100 → Ev (fun k => impl_AugmentingPath.l5 k (s : Int) (labI m (fun e => cod (lvN m L L' s e))) (a : Int) (ints acc) (m : Int) (ints L) (m : Int) (ints L')) (ints (acc ++ pathT m (lvN m L L' s) (stN L L' s) d a), true) := by
  intro d
  induction d with
  | zero =>
    intro a acc ha hv _
    apply Ev.step
    · intro k
      rw [impl_AugmentingPath.l5, if_pos (by omega), if_pos (by rw [labI_len]; omega), labI_rd _ _ a ha, cod_of (by omega), if_neg (by omega)]
    · rw [pathT, List.append_nil]; exact Ev.now _
  | succ d ih =>
    intro a acc ha hv hlen
    apply Ev.step
    · intro k
      rw [impl_AugmentingPath.l5, if_pos (by omega), if_pos (by rw [labI_len]; omega), labI_rd _ _ a ha, cod_of (by omega), if_pos (by omega)]
    obtain ⟨k1, k2, k3, k4⟩ := nxtN_spec (lvN_prev hv)
    rw [pathT]
    generalize nxtN m (lvN m L L' s) (stN L L' s) a = x at k1 k2 k3 k4
    have h := down (P := fun y => Ev (fun k => impl_AugmentingPath.l6 k (s : Int) (labI m (fun e => cod (lvN m L L' s e))) (a : Int) (ints acc) (if x < y then (x : Int) else -1) ((labI m (fun e => cod (lvN m L L' s e))).length : Int) (y : Int) (m : Int) (ints L) (m : Int) (ints L')) (ints (acc ++ x :: pathT m (lvN m L L' s) (stN L L' s) d x), true)) m
      (by
        apply Ev.step
        · intro k
          rw [impl_AugmentingPath.l6, if_neg (by rw [labI_len]; omega), if_pos k1]
        · refine Ev.ifp (by rw [ints_len]; omega) ?_
          have := ih x (acc ++ [x]) k1 (by omega) (by rw [List.length_append, List.length_singleton]; omega)
          rw [List.append_assoc, List.singleton_append] at this
          rw [show ints acc ++ [(x : Int)] = ints (acc ++ [x]) from by simp [ints]]
          exact this)
      (by
        intro y hy ihy
        apply Ev.step
        · intro k
          rw [impl_AugmentingPath.l6, if_pos (by rw [labI_len]; omega), w_succ hy (by omega)]
        · by_cases hxy : x < y
          · rw [if_pos hxy] at *
            rw [if_pos (show x < y + 1 by omega)] at ihy
            exact Ev.ifn (by omega) ihy
          · rw [if_neg hxy]
            refine Ev.ifp (by omega) (Ev.ifp (by omega) (Ev.ifp (by rw [labI_len]; omega) (Ev.ifp (by omega) (Ev.ifp (by rw [labI_len]; omega) ?_))))
            rw [labI_rd _ _ a ha, labI_rd _ _ y hy, cod_of (v := lvN m L L' s a) (by omega), hv, wrap64_of (n := ((d + 1 + 1 : Nat) : Int) - 1) (by omega) (by omega)]
            have hat : (cod (lvN m L L' s y) = ((d + 1 + 1 : Nat) : Int) - 1) ↔ lvN m L L' s y + 1 = lvN m L L' s a := by
              have := @cod_at (lvN m L L' s y) d
              rw [show ((d + 1 + 1 : Nat) : Int) - 1 = (d : Int) + 1 from by omega, this]; omega
            by_cases he : y = x
            · subst he
              refine Ev.ifp (hat.2 k2) (Ev.bind (implStep_ev hl hl' hL hL' hs (by omega) (by omega)) (Ev.ifp k3 ?_))
              rw [if_pos (by omega)] at ihy
              exact ihy
            · have hk := k4 y (by omega)
              rw [if_neg (show ¬ x < y + 1 by omega)] at ihy
              by_cases hc : lvN m L L' s y + 1 = lvN m L L' s a
              · rw [decide_eq_true hc, Bool.true_and] at hk
                exact Ev.ifp (hat.2 hc) (Ev.bind (implStep_ev hl hl' hL hL' hs (by omega) (by omega)) (Ev.ifn (by rw [hk]; decide) ihy))
              · exact Ev.ifn (fun h => hc (hat.1 h)) ihy)
    rw [if_neg (by omega)] at h
    exact h
theorem implBest_ev (hm : m ≤ 8) (hl : L.length ≤ 17592186044416) (hl' : L'.length ≤ 17592186044416) (hL : ∀ b ∈ L, b < 256) (hL' : ∀ b ∈ L', b < 256) (hs : s < 256) : Ev (fun k => impl_AugmentingPath.l4 k (s : Int) (labI m (fun e => cod (lvN m L L' s e))) (-1) ((labI m (fun e => cod (lvN m L L' s e))).length : Int) 0 (m : Int) (ints L) (m : Int) (ints L')) (augN m L L' s) := by
  have h := down (P := fun e => ∀ a : Option Nat, (∀ b, a = some b → b < m ∧ 0 < lvN m L L' s b) → bestL (frN L s) (lvN m L L' s) none (List.range m) = bestL (frN L s) (lvN m L L' s) a (List.range' e (m - e)) → Ev (fun k => impl_AugmentingPath.l4 k (s : Int) (labI m (fun e => cod (lvN m L L' s e))) (cdO a) ((labI m (fun e => cod (lvN m L L' s e))).length : Int) (e : Int) (m : Int) (ints L) (m : Int) (ints L')) (augN m L L' s)) m
    (by
      intro a ha hb
      rw [Nat.sub_self, List.range'_zero, bestL_nil] at hb
      apply Ev.step
      · intro k
        rw [impl_AugmentingPath.l4, if_neg (by rw [labI_len]; omega)]
      · unfold augN
        rw [hb]
        cases a with
        | none => exact Ev.ifp (show (-1 : Int) < 0 by decide) (Ev.now _)
        | some b =>
          obtain ⟨hbm, hbv⟩ := ha b rfl
          refine Ev.ifn (show ¬ ((b : Nat) : Int) < 0 by omega) ?_
          have := implPath_ev hm hl hl' hL hL' hs (lvN m L L' s b - 1) b [b] hbm (by omega) (by have := lvN_le m L L' s b; simp; omega)
          exact this)
    (by
      intro e he ih a ha hb
      have h2e := pow_lt_256 (show e < 8 by omega)
      have hbe : hasB (s : Int) (e : Int) = s.testBit e := by rw [hasB_nat, decide_eq_true hs, decide_eq_true (show e < 8 by omega)]; simp
      rw [range'_cons' he, bestL_cons] at hb
      apply Ev.step
      · intro k
        rw [impl_AugmentingPath.l4, if_pos (by rw [labI_len]; omega)]
      · refine Ev.cbind (implHas_eq _ _) ?_
        rw [hbe, shl_one (by omega), or_nat (lt256_63 hs) (lt256_63 h2e), w_succ he (by omega)]
        cases hbit : s.testBit e
        rotate_left
        · refine Ev.ifp rfl (ih a ha ?_)
          rw [hb, if_neg]
          unfold frN; rw [hbit]; simp
        have hind := implInd_ev (m : Int) L ((s ||| 2 ^ e : Nat) : Int) hl hL
        rw [indB_nat (or_lt hs (by omega))] at hind
        refine Ev.ifn (by decide) (Ev.ifp (by omega) (Ev.bind hind ?_))
        by_cases hi : indN L (s ||| 2 ^ e) = true
        rotate_left
        · refine Ev.ifn hi (ih a ha ?_)
          rw [hb, if_neg]
          unfold frN; rw [Bool.eq_false_iff.2 hi]; simp
        have hf : frN L s e = true := by unfold frN; rw [hbit, hi]; rfl
        rw [hf, Bool.true_and] at hb
        refine Ev.ifp hi (Ev.ifp (by rw [labI_len]; omega) ?_)
        rw [labI_rd _ _ e he]
        by_cases hv : 0 < lvN m L L' s e
        rotate_left
        · refine Ev.ifn (fun h => hv (cod_pos.1 h)) (ih a ha ?_)
          rw [hb, if_neg]
          rw [decide_eq_false hv]; simp
        rw [decide_eq_true hv, Bool.true_and] at hb
        refine Ev.ifp (cod_pos.2 hv) ?_
        cases a with
        | none =>
          rw [if_pos (show betN (lvN m L L' s) e none = true from rfl)] at hb
          exact Ev.ifp (show (-1 : Int) < 0 by decide) (ih (some e) (fun b h => by obtain rfl := Option.some.inj h; exact ⟨he, hv⟩) hb)
        | some b =>
          obtain ⟨hbm, hbv⟩ := ha b rfl
          refine Ev.ifn (show ¬ ((b : Nat) : Int) < 0 by omega) (Ev.ifp (show (0 : Int) ≤ ((b : Nat) : Int) by omega) (Ev.ifp (by rw [labI_len]; show ((b : Nat) : Int) < (m : Int); omega) ?_))
          rw [show cdO (some b) = ((b : Nat) : Int) from rfl, labI_rd _ _ b hbm, cod_of hv, cod_of hbv]
          simp only [betN, decide_eq_true_eq] at hb
          by_cases hlt : lvN m L L' s e < lvN m L L' s b
          · rw [if_pos hlt] at hb
            exact Ev.ifp (by omega) (ih (some e) (fun b h => by obtain rfl := Option.some.inj h; exact ⟨he, hv⟩) hb)
          · rw [if_neg hlt] at hb
            exact Ev.ifn (by omega) (ih (some b) ha hb))
  exact h none (fun _ h => by cases h) (by rw [Nat.sub_zero, ← List.range_eq_range'])
theorem implFar_ev (hm : m ≤ 8) (hl : L.length ≤ 17592186044416) (hl' : L'.length ≤ 17592186044416) (hL : ∀ b ∈ L, b < 256) (hL' : ∀ b ∈ L', b < 256) (hs : s < 256) : Ev (fun k => impl_AugmentingPath.l0 k (s : Int) (labI m (fun _ => 0)) ((labI m (fun _ => (0 : Int))).length : Int) 0 (m : Int) (ints L) (m : Int) (ints L')) (augN m L L' s) := by
  generalize hR : augN m L L' s = R
  have h1 := down (P := fun j => Ev (fun k => impl_AugmentingPath.l1 k (s : Int) (labI m (fun e => cod (lev m (frN L' s) (stN L L' s) j e))) ((j : Int) + 1) (m : Int) (ints L) (m : Int) (ints L')) R) m
    (by
      apply Ev.step
      · intro k
        rw [impl_AugmentingPath.l1, if_neg (by omega)]
      · have e : labI m (fun e => cod (lev m (frN L' s) (stN L L' s) m e)) = labI m (fun e => cod (lvN m L L' s e)) := labI_congr (fun v hv => by rw [lev_last hv]; rfl)
        rw [e, ← hR]
        exact implBest_ev hm hl hl' hL hL' hs)
    (by
      intro j hj ih
      apply Ev.step
      · intro k
        rw [impl_AugmentingPath.l1, if_pos (by omega)]
      have h2 := down (P := fun x => Ev (fun k => impl_AugmentingPath.l2 k (s : Int) (labI m (fun i => if i < x then cod (lev m (frN L' s) (stN L L' s) (j + 1) i) else cod (lev m (frN L' s) (stN L L' s) j i))) ((j : Int) + 1) (m : Int) (x : Int) (m : Int) (ints L) (m : Int) (ints L')) R) m
        (by
          apply Ev.step
          · intro k
            rw [impl_AugmentingPath.l2, if_neg (by omega), wrap64_of (by omega) (by omega)]
          · have e : labI m (fun i => if i < m then cod (lev m (frN L' s) (stN L L' s) (j + 1) i) else cod (lev m (frN L' s) (stN L L' s) j i)) = labI m (fun i => cod (lev m (frN L' s) (stN L L' s) (j + 1) i)) := labI_congr (fun v hv => by rw [if_pos hv])
            rw [e, show (j : Int) + 1 + 1 = ((j + 1 : Nat) : Int) + 1 from by omega]
            exact ih)
        (by
          intro x hx ihx
          apply Ev.step
          · intro k
            rw [impl_AugmentingPath.l2, if_pos (by omega), labI_len]
          have h3 := down (P := fun y => Ev (fun k => impl_AugmentingPath.l3 k (s : Int) (labI m (fun i => if i < x then cod (lev m (frN L' s) (stN L L' s) (j + 1) i) else if i = x then (if (decide (lev m (frN L' s) (stN L L' s) j x = 0) && (List.range y).any (fun g => decide (lev m (frN L' s) (stN L L' s) j g = j + 1) && stN L L' s x g)) = true then (j : Int) + 2 else cod (lev m (frN L' s) (stN L L' s) j x)) else cod (lev m (frN L' s) (stN L L' s) j i))) ((j : Int) + 1) (x : Int) (m : Int) (x : Int) (m : Int) (y : Int) (m : Int) (ints L) (m : Int) (ints L')) R) m
            (by
              apply Ev.step
              · intro k
                rw [impl_AugmentingPath.l3, if_neg (by omega), w_succ hx (by omega)]
              · have e : labI m (fun i => if i < x then cod (lev m (frN L' s) (stN L L' s) (j + 1) i) else if i = x then (if (decide (lev m (frN L' s) (stN L L' s) j x = 0) && (List.range m).any (fun g => decide (lev m (frN L' s) (stN L L' s) j g = j + 1) && stN L L' s x g)) = true then (j : Int) + 2 else cod (lev m (frN L' s) (stN L L' s) j x)) else cod (lev m (frN L' s) (stN L L' s) j i)) = labI m (fun i => if i < x + 1 then cod (lev m (frN L' s) (stN L L' s) (j + 1) i) else cod (lev m (frN L' s) (stN L L' s) j i)) := by
                  apply labI_congr
                  intro i _
                  by_cases h1 : i < x
                  · rw [if_pos h1, if_pos (by omega)]
                  · rw [if_neg h1]
                    by_cases h2 : i = x
                    · subst h2
                      rw [if_pos (show i = i from rfl), if_pos (show i < i + 1 by omega), lev]
                      by_cases h0 : lev m (frN L' s) (stN L L' s) j i = 0
                      · rw [if_pos h0, decide_eq_true h0, Bool.true_and]
                        by_cases ha : (List.range m).any (fun g => decide (lev m (frN L' s) (stN L L' s) j g = j + 1) && stN L L' s i g) = true
                        · rw [if_pos ha, if_pos ha, cod_of (by omega)]; rfl
                        · rw [if_neg ha, if_neg ha, h0]
                      · rw [if_neg h0, decide_eq_false h0, Bool.false_and, if_neg (by decide)]
                    · rw [if_neg h2, if_neg (by omega)]
                rw [e]
                exact ihx)
            (by
              intro y hy ihy
              have hsucc : (decide (lev m (frN L' s) (stN L L' s) j x = 0) && (List.range (y + 1)).any (fun g => decide (lev m (frN L' s) (stN L L' s) j g = j + 1) && stN L L' s x g)) = ((decide (lev m (frN L' s) (stN L L' s) j x = 0) && (List.range y).any (fun g => decide (lev m (frN L' s) (stN L L' s) j g = j + 1) && stN L L' s x g)) || (decide (lev m (frN L' s) (stN L L' s) j x = 0) && (decide (lev m (frN L' s) (stN L L' s) j y = j + 1) && stN L L' s x y))) := by
                rw [List.range_succ, List.any_append, List.any_cons, List.any_nil, Bool.or_false, Bool.and_or_distrib_left]
              rw [hsucc] at ihy
              generalize hF : (decide (lev m (frN L' s) (stN L L' s) j x = 0) && (List.range y).any (fun g => decide (lev m (frN L' s) (stN L L' s) j g = j + 1) && stN L L' s x g)) = F at ihy
              apply Ev.step
              · intro k
                rw [impl_AugmentingPath.l3, if_pos (by omega), if_pos (by omega), if_pos (by rw [labI_len]; omega), labI_rd _ _ x hx, if_neg (show ¬ x < x by omega), if_pos rfl, labI_len, w_succ hy (by omega)]
              by_cases hneg : (if F = true then (j : Int) + 2 else cod (lev m (frN L' s) (stN L L' s) j x)) < 0
              rotate_left
              · refine Ev.ifn hneg ?_
                cases F with
                | true => rw [Bool.true_or] at ihy; exact ihy
                | false =>
                  rw [if_neg (by decide), cod_neg] at hneg
                  rw [decide_eq_false hneg, Bool.false_and, Bool.or_false] at ihy
                  exact ihy
              refine Ev.ifp hneg ?_
              have hFf : F = false := by
                cases F with
                | true => rw [if_pos rfl] at hneg; omega
                | false => rfl
              subst hFf
              rw [if_neg (by decide), cod_neg] at hneg
              rw [decide_eq_true hneg, Bool.true_and, Bool.false_or] at ihy
              refine Ev.ifp (by omega) (Ev.ifp (by first | omega | (rw [labI_len]; omega)) ?_)
              rw [labI_rd _ _ y hy]
              have hat : ((if y < x then cod (lev m (frN L' s) (stN L L' s) (j + 1) y) else if y = x then (if (false = true) then (j : Int) + 2 else cod (lev m (frN L' s) (stN L L' s) j x)) else cod (lev m (frN L' s) (stN L L' s) j y)) = (j : Int) + 1) ↔ lev m (frN L' s) (stN L L' s) j y = j + 1 := by
                by_cases h1 : y < x
                · rw [if_pos h1, cod_at, lev_at]
                · rw [if_neg h1]
                  by_cases h2 : y = x
                  · subst h2; rw [if_pos (show y = y from rfl), if_neg (by decide), cod_at]
                  · rw [if_neg h2, cod_at]
              have hset : (labI m (fun i => if i < x then cod (lev m (frN L' s) (stN L L' s) (j + 1) i) else if i = x then (if (false = true) then (j : Int) + 2 else cod (lev m (frN L' s) (stN L L' s) j x)) else cod (lev m (frN L' s) (stN L L' s) j i))).set x ((j : Int) + 2) = labI m (fun i => if i < x then cod (lev m (frN L' s) (stN L L' s) (j + 1) i) else if i = x then (if (true = true) then (j : Int) + 2 else cod (lev m (frN L' s) (stN L L' s) j x)) else cod (lev m (frN L' s) (stN L L' s) j i)) := by
                rw [labI_set]
                apply labI_congr
                intro i _
                by_cases hi : i = x
                · subst hi; rw [if_pos rfl, if_neg (by omega), if_pos rfl, if_pos rfl]
                · rw [if_neg hi, if_neg hi, if_neg hi]
              by_cases hc : lev m (frN L' s) (stN L L' s) j y = j + 1
              · rw [decide_eq_true hc, Bool.true_and] at ihy
                refine Ev.ifp (hat.2 hc) (Ev.bind (implStep_ev hl hl' hL hL' hs (by omega) (by omega)) ?_)
                by_cases hst : stN L L' s x y = true
                · rw [hst] at ihy
                  refine Ev.ifp hst ?_
                  rw [wrap64_of (n := (j : Int) + 1 + 1) (by omega) (by omega), show (j : Int) + 1 + 1 = (j : Int) + 2 from by omega, Int.toNat_natCast, hset]
                  exact ihy
                · rw [Bool.eq_false_iff.2 hst] at ihy
                  exact Ev.ifn hst ihy
              · rw [decide_eq_false hc, Bool.false_and] at ihy
                exact Ev.ifn (fun h => hc (hat.1 h)) ihy)
          have e0 : labI m (fun i => if i < x then cod (lev m (frN L' s) (stN L L' s) (j + 1) i) else if i = x then (if (decide (lev m (frN L' s) (stN L L' s) j x = 0) && (List.range 0).any (fun g => decide (lev m (frN L' s) (stN L L' s) j g = j + 1) && stN L L' s x g)) = true then (j : Int) + 2 else cod (lev m (frN L' s) (stN L L' s) j x)) else cod (lev m (frN L' s) (stN L L' s) j i)) = labI m (fun i => if i < x then cod (lev m (frN L' s) (stN L L' s) (j + 1) i) else cod (lev m (frN L' s) (stN L L' s) j i)) := by
            apply labI_congr
            intro i _
            by_cases h1 : i < x
            · rw [if_pos h1, if_pos h1]
            · rw [if_neg h1, if_neg h1]
              by_cases h2 : i = x
              · subst h2; rw [if_pos (show i = i from rfl), if_neg (by simp)]
              · rw [if_neg h2]
          rw [e0] at h3
          exact h3)
      have e0 : labI m (fun i => if i < 0 then cod (lev m (frN L' s) (stN L L' s) (j + 1) i) else cod (lev m (frN L' s) (stN L L' s) j i)) = labI m (fun i => cod (lev m (frN L' s) (stN L L' s) j i)) := labI_congr (fun v _ => by rw [if_neg (by omega)])
      rw [e0] at h2
      rw [labI_len]
      exact h2)
  have h0 := down (P := fun e => Ev (fun k => impl_AugmentingPath.l0 k (s : Int) (labI m (fun i => if i < e then cod (lev m (frN L' s) (stN L L' s) 0 i) else 0)) (m : Int) (e : Int) (m : Int) (ints L) (m : Int) (ints L')) R) m
    (by
      apply Ev.step
      · intro k
        rw [impl_AugmentingPath.l0, if_neg (by omega)]
      · have e : labI m (fun i => if i < m then cod (lev m (frN L' s) (stN L L' s) 0 i) else 0) = labI m (fun i => cod (lev m (frN L' s) (stN L L' s) 0 i)) := labI_congr (fun v hv => by rw [if_pos hv])
        rw [e]
        exact h1)
    (by
      intro e he ih
      have h2e := pow_lt_256 (show e < 8 by omega)
      have hbe : hasB (s : Int) (e : Int) = s.testBit e := by rw [hasB_nat, decide_eq_true hs, decide_eq_true (show e < 8 by omega)]; simp
      have hset : ∀ (v u : Int), v = cod (lev m (frN L' s) (stN L L' s) 0 e) → ((labI m (fun i => if i < e then cod (lev m (frN L' s) (stN L L' s) 0 i) else 0)).set e u).set e v = labI m (fun i => if i < e + 1 then cod (lev m (frN L' s) (stN L L' s) 0 i) else 0) := by
        intro v u hv
        rw [labI_set, labI_set]
        apply labI_congr
        intro i _
        by_cases hi : i = e
        · subst hi; rw [if_pos rfl, if_pos (by omega), hv]
        · rw [if_neg hi, if_neg hi]
          by_cases hi2 : i < e
          · rw [if_pos hi2, if_pos (by omega)]
          · rw [if_neg hi2, if_neg (by omega)]
      have hset1 : ∀ (v : Int), v = cod (lev m (frN L' s) (stN L L' s) 0 e) → ((labI m (fun i => if i < e then cod (lev m (frN L' s) (stN L L' s) 0 i) else 0)).set e v) = labI m (fun i => if i < e + 1 then cod (lev m (frN L' s) (stN L L' s) 0 i) else 0) := by
        intro v hv
        rw [← hset v v hv, labI_set, labI_set]
        apply labI_congr
        intro i _
        by_cases hi : i = e
        · rw [if_pos hi, if_pos hi]
        · rw [if_neg hi, if_neg hi]
      apply Ev.step
      · intro k
        rw [impl_AugmentingPath.l0, if_pos (by omega), if_pos (by omega), if_pos (by rw [labI_len]; omega)]
      · refine Ev.cbind rfl (Ev.cbind (implHas_eq _ _) ?_)
        rw [hbe, shl_one (by omega), or_nat (lt256_63 hs) (lt256_63 h2e), w_succ he (by omega), Int.toNat_natCast]
        cases hbit : s.testBit e
        · have hind := implInd_ev (m : Int) L' ((s ||| 2 ^ e : Nat) : Int) hl' hL'
          rw [indB_nat (or_lt hs (by omega))] at hind
          refine Ev.ifn (by decide) (Ev.bind hind ?_)
          by_cases hi : indN L' (s ||| 2 ^ e) = true
          · refine Ev.ifp hi ?_
            rw [hset 1 (-1) (by unfold lev frN; rw [hbit, hi]; rfl)]
            exact ih
          · refine Ev.ifn hi ?_
            rw [hset1 (-1) (by unfold lev frN; rw [hbit, Bool.eq_false_iff.2 hi]; rfl)]
            exact ih
        · refine Ev.ifp rfl ?_
          rw [hset1 (-1) (by unfold lev frN; rw [hbit]; rfl)]
          exact ih)
  have e0 : labI m (fun i => if i < 0 then cod (lev m (frN L' s) (stN L L' s) 0 i) else 0) = labI m (fun _ => 0) := labI_congr (fun v _ => by rw [if_neg (by omega)])
  rw [e0] at h0
  rw [labI_len]
  exact h0
end
theorem implAug_ev (n : Int) (l : List Int) (n' : Int) (l' : List Int) (s : Int) (hl : l.length ≤ 17592186044416) (hl' : l'.length ≤ 17592186044416) : Ev (fun k => impl_AugmentingPath.f k n l n' l' s) (augB n l n' l' s) := by
  unfold impl_AugmentingPath.f augB
  refine Ev.bind (implCommon_ev n l n' l' s hl hl') ?_
  by_cases h : commonB n l n' l' s = true
  · rw [if_pos h]
    obtain ⟨m, L, L', t, rfl, rfl, hm, rfl, rfl, hL, hL', hne, hne', rfl, ht, ht256, _, _⟩ := commonB_nat h
    rw [ints_len] at hl hl'
    rw [show (ints L).map Int.toNat = L from toNat_map L, show (ints L').map Int.toNat = L' from toNat_map L', Int.toNat_natCast, Int.toNat_natCast]
    refine Ev.ifp h (Ev.ifp (by omega) (Ev.ifp (by omega) (Ev.cbind rfl ?_)))
    rw [labI_zero]
    exact implFar_ev hm hl hl' hL hL' ht256
  · rw [if_neg h]; exact Ev.ifn h (Ev.now _)
end Go.Proofs.Ytagncnjllpebjaa.Q
namespace Go.Proofs.Ytagncnjllpebjaa.Pure
open Go Go.RowKit Go.Proofs.Ytagncnjllpebjaa.A Go.Proofs.YtagncnjllpebjaaW.PrintWords Go.Proofs.YtagncnjllpebjaaW.PrintLast Go.Proofs.YtagncnjllpebjaaW.PrintMore Go.Proofs.Ytagncnjllpebjaa.Z Go.Proofs.Ytagncnjllpebjaa.Q
set_option linter.unusedVariables false
set_option linter.unusedSimpArgs false
theorem markMat_from (n : Int) (l : List Int) (a : Int) (h0 : 0 ≤ a) (h1 : a ≤ 1000000000000000) (hl : l.length ≤ 17592186044416) : Ev (fun k => laws_markMatroid.f k n l a) (a + (l.length : Int), marks a l.length) := by
  unfold laws_markMatroid.f
  exact Ev.bind (mark_ev l a h0 h1 hl) (Ev.now _)
theorem FnExactAugmentingPath : laws_FnExactAugmentingPath.Pure := by
  intro n l n' l' s hn hm hw hn' hm' hw' hs
  unfold laws_FnExactAugmentingPath.f
  refine Ev.rounds ?_
  refine Ev.cbind (szMat_eq n l 1048576 (by omega) (by omega) hm) ?_
  by_cases h1 : (l.length : Int) > 1048576
  · rw [if_pos h1]
    exact Ev.ifp (by decide) (Ev.now _)
  rw [if_neg h1]
  refine Ev.ifn (by omega) ?_
  refine Ev.cbind (szMat_eq n' l' _ (by omega) (by omega) hm') ?_
  by_cases h2 : (l'.length : Int) > 1048576 - (l.length : Int)
  · rw [if_pos h2]
    exact Ev.ifp (by decide) (Ev.now _)
  rw [if_neg h2]
  refine Ev.ifn (by omega) ?_
  have hl : l.length ≤ 17592186044416 := by omega
  have hl' : l'.length ≤ 17592186044416 := by omega
  have hg : (augB n l n' l' s).1.length ≤ 17592186044416 := Nat.le_trans (augB_len n l n' l' s) (by decide)
  refine Ev.bind (toMat_ev n l hl) (Ev.bind (toMat_ev n' l' hl') (Ev.bind (specAug_ev n l n' l' s hl hl') (Ev.bind (toMat_ev n l hl) (Ev.bind (toMat_ev n' l' hl') (Ev.bind (implAug_ev n l n' l' s hl hl') (Ev.bind (eqInt_self _ hg) (Ev.ifp rfl ?_)))))))
  apply Ev.step
  · intro k
    rw [laws_FnExactAugmentingPath.j0]
  refine Ev.ifn (by simp) (Ev.bind (toMat_ev n l hl) (Ev.bind (eqMat_ev n l hl) (Ev.ifp rfl (Ev.bind (toMat_ev n' l' hl') (Ev.bind (eqMat_ev n' l' hl') (Ev.ifp rfl (Ev.bind (markMat_ev n l hl) (Ev.bind (markMat_from n' l' _ (by simp only []; omega) (by simp only []; omega) hl') (Ev.ifn (by simp only []; omega) (Ev.bind (eqInt_self _ hg) (Ev.ifp rfl ?_)))))))))))
  apply Ev.step
  · intro k
    rw [laws_FnExactAugmentingPath.j1]
  refine Ev.ifn (by simp) (Ev.bind (mark_ev _ 1 (by omega) (by omega) hg) (Ev.bind (held_ev _ 1 (by omega) (by omega) hg) ?_))
  refine Ev.ifn (by omega) (Ev.ifp rfl ?_)
  refine Ev.bind (toMat_ev n l hl) (Ev.bind (toMat_ev n' l' hl') (Ev.bind (implAug_ev n l n' l' s hl hl') (Ev.bind (eqInt_self _ hg) (Ev.ifp rfl ?_))))
  apply Ev.step
  · intro k
    rw [laws_FnExactAugmentingPath.j2]
  refine Ev.ifn (by simp) (Ev.bind (held_ev _ 1 (by omega) (by omega) hg) ?_)
  exact Ev.ifn (by omega) (Ev.ifp rfl (Ev.now _))
end Go.Proofs.Ytagncnjllpebjaa.Pure
