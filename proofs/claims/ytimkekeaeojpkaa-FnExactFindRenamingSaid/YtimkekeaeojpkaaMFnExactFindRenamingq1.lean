/- The pure side of the law FnExactFindRenaming: what the Lean functions of the print compute, and that the law holds of them. Conditions: those in each lemma. -/
import Derived.Test.YtimkekeaeojpkaaMFnExactFindRenaming1
import Derived.Test.YtimkekeaeojpkaaMFnExactFindRenaming2
import Derived.Test.YtimkekeaeojpkaaMFnExactFindRenaming3
import Derived.Test.YtimkekeaeojpkaaMFnExactFindRenaming4
import Derived.Test.YtimkekeaeojpkaaMFnExactFindRenaming5
import Derived.Test.YtimkekeaeojpkaaMFnExactFindRenaming6
import Derived.Test.YtimkekeaeojpkaaMFnExactFindRenaming7
import Derived.Test.YtimkekeaeojpkaaMFnExactFindRenamingq0
namespace Go.Proofs.Ytimkekeaeojpkaa.A
open Go.RowKit
def laws_FnExactFindRenaming.Pure : Prop := ∀ (a0_0 : Int) (l0_1 : List Int) (a1_0 : Int) (l1_1 : List Int), (Lit.int .i64 a0_0).wf = true → l0_1.length ≤ maxLen → (∀ x ∈ l0_1, (Lit.int .i64 x).wf = true) → (Lit.int .i64 a1_0).wf = true → l1_1.length ≤ maxLen → (∀ x ∈ l1_1, (Lit.int .i64 x).wf = true) → ∃ k, laws_FnExactFindRenaming.f k a0_0 l0_1 a1_0 l1_1 = some true
end Go.Proofs.Ytimkekeaeojpkaa.A
namespace Go.Proofs.Ytimkekeaeojpkaa.Q
open Go Go.RowKit Go.Proofs.Ytimkekeaeojpkaa.A Go.Proofs.YtimkekeaeojpkaaW.PrintWords Go.Proofs.YtimkekeaeojpkaaW.PrintLast Go.Proofs.YtimkekeaeojpkaaW.PrintMore Go.Proofs.Ytimkekeaeojpkaa.Z
set_option linter.unusedVariables false
set_option linter.unusedSimpArgs false
theorem iN (l : List Int) (hl : l.length ≤ 17592186044416) : ∀ (rest pre : List Int), l = pre ++ rest → Ev (fun k => laws_toIntS.l0 k l (pre ++ List.replicate rest.length 0) (pre.length : Int)) l := by
 intro rest
 induction rest with
 | nil =>
  intro pre h
  apply Ev.step
  ·intro k; simp only [laws_toIntS.l0]; rw [if_neg (by rw [h]; simp)]
  ·subst h; simpa using Ev.now _
 | cons x rest ih =>
  intro pre h; have hlen : (pre.length : Int) < (l.length : Int) := by rw [h]; simp; omega
  apply Ev.step
  ·intro k; simp only [laws_toIntS.l0]; rw [if_pos hlen, if_pos (by omega), if_pos (by simp; omega)]
  ·have := ih (pre ++ [x]) (by rw [h]; simp); have e : wrap64 ((pre.length : Int) + 1) = ((pre ++ [x]).length : Int) := by
    rw [bu (by omega) (by omega)]; simp
   rw [e]; have e2 : (pre ++ List.replicate (x :: rest).length 0).set (pre.length : Int).toNat (rd l (pre.length : Int)) = (pre ++ [x]) ++ List.replicate rest.length 0 := by
    have : rd l (pre.length : Int) = x := by rw [h]; exact fW _ _ _
    rw [this]; simp [List.replicate_succ]
   rw [e2]; exact this
theorem iw (l : List Int) (hl : l.length ≤ 17592186044416) : Ev (fun k => laws_toIntS.f k l) l := by
 unfold laws_toIntS.f; refine Ev.ifp (by omega) (Ev.ifp (by simp; omega) ?_)
 simpa using iN l hl l [] rfl
theorem ix (l : List Int) (hl : l.length ≤ 17592186044416) (l' : List Int) (hll : l'.length = l.length) : ∀ (rest rest' pre : List Int), l = pre ++ rest → l' = pre ++ rest' → Ev (fun k => laws_eqIntS.l0 k l l' (pre.length : Int)) (decide (l = l')) := by
 intro rest
 induction rest with
 | nil =>
  intro rest' pre h h'; have : rest' = [] := by
   apply List.eq_nil_of_length_eq_zero
   have h1 := congrArg List.length h; have h2 := congrArg List.length h'; rw [List.length_append] at h1 h2; simp only [List.length_nil] at h1; omega
  subst this
  apply Ev.step
  ·intro k; simp only [laws_eqIntS.l0]; rw [if_neg (by rw [h]; simp)]
  ·have : l = l' := by rw [h, h']
   simpa [this] using Ev.now _
 | cons x rest ih =>
  intro rest' pre h h'; have hlen : (pre.length : Int) < (l.length : Int) := by rw [h]; simp; omega
  cases rest' with
  | nil => exact absurd hll (by rw [h, h']; simp)
  | cons y rest' =>
  have e1 : rd l (pre.length : Int) = x := by rw [h]; exact fW _ _ _
  have e2 : rd l' (pre.length : Int) = y := by rw [h']; exact fW _ _ _
  by_cases hxy : x = y
  ·subst hxy
   apply Ev.step
   ·intro k; simp only [laws_eqIntS.l0]; rw [if_pos hlen, if_pos (by omega), if_pos (by omega), if_pos (by rw [e1, e2])]
   ·have := ih rest' (pre ++ [x]) (by rw [h]; simp) (by rw [h']; simp); have e : wrap64 ((pre.length : Int) + 1) = ((pre ++ [x]).length : Int) := by
     rw [bu (by omega) (by omega)]; simp
    rw [e]; exact this
  ·apply Ev.step
   ·intro k; simp only [laws_eqIntS.l0]; rw [if_pos hlen, if_pos (by omega), if_pos (by omega), if_neg (by rw [e1, e2]; exact hxy)]
   ·have : l ≠ l' := by rw [h, h']; simp [hxy]
    simpa [this] using Ev.now _
theorem iu (l l' : List Int) (hl : l.length ≤ 17592186044416) : Ev (fun k => laws_eqIntS.f k l l') (decide (l = l')) := by
 unfold laws_eqIntS.f; by_cases h : (l.length : Int) = (l'.length : Int)
 ·refine Ev.ifp h ?_; exact ix l hl l' (by omega) l l' [] rfl rfl
 ·refine Ev.ifn h ?_; have : l ≠ l' := by rintro rfl; exact h rfl
  simpa [this] using Ev.now _
theorem cM (l : List Int) (hl : l.length ≤ 17592186044416) : Ev (fun k => laws_eqIntS.f k l l) true := by simpa using iu l l hl
theorem fQ (n : Int) (l : List Int) (left : Int) (h0 : 0 ≤ left) (h1 : left ≤ 1048576) (hl : l.length ≤ maxLen) : laws_szMatroid.f n l left = some (if (l.length : Int) > left then -1 else left - (l.length : Int)) := by
 unfold maxLen at hl; unfold laws_szMatroid.f laws_szIntS.f; rw [bu (by omega) (by omega)]; by_cases h : (l.length : Int) > left
 ·rw [if_pos h, if_pos (by omega), Option.bind_some, if_pos (by decide)]
 ·rw [if_neg h, if_neg (by omega), Option.bind_some, if_neg (by omega)]
theorem cp (n : Int) (l : List Int) (hl : l.length ≤ 17592186044416) : Ev (fun k => laws_toMatroid.f k n l) (n, l) := by
 unfold laws_toMatroid.f; exact Ev.bind (iw l hl) (Ev.now _)
theorem fG (n : Int) (l : List Int) (hl : l.length ≤ 17592186044416) : Ev (fun k => laws_eqMatroid.f k n l n l) true := by
 unfold laws_eqMatroid.f; refine Ev.ifp rfl (Ev.bind (cM l hl) (Ev.ifp rfl (Ev.now _)))
def ci (a : Int) (n : Nat) : List Int := (List.range n).map (fun i : Nat => a + (i : Int))
theorem marks_len (a : Int) (n : Nat) : (ci a n).length = n := by simp [ci]
theorem marks_succ (a : Int) (n : Nat) : ci a (n + 1) = ci a n ++ [a + (n : Int)] := by simp [ci, List.range_succ]
theorem gY (a : Int) (n i : Nat) (h : i < n) : rd (ci a n) (i : Int) = a + (i : Int) := by
 rw [aY _ i (by rw [marks_len]; exact h)]; simp [ci]
theorem fg (l : List Int) (a : Int) (h0 : 0 ≤ a) (h1 : a ≤ 1000000000000000) (hl : l.length ≤ 17592186044416) : Ev (fun k => laws_markIntS.f k l a) (a + (l.length : Int), ci a l.length) := by
 have h := down (P := fun i => Ev (fun k => laws_markIntS.l0 k (ci a i ++ l.drop i) (a + (i : Int)) (i : Int)) (a + (l.length : Int), ci a l.length)) l.length
  (by
   apply Ev.step
   ·intro k; simp only [laws_markIntS.l0]; rw [if_neg (by rw [List.length_append, marks_len, List.length_drop]; omega)]
   ·rw [b7, List.append_nil]; exact Ev.now _)
  (by
   intro i hi ih
   apply Ev.step
   ·intro k; simp only [laws_markIntS.l0]; rw [if_pos (by rw [List.length_append, marks_len, List.length_drop]; omega), if_pos (by omega), bI hi hl, bu (by omega) (by omega)]
   ·have e : (ci a i ++ l.drop i).set (i : Int).toNat (a + (i : Int)) = ci a (i + 1) ++ l.drop (i + 1) := by
     rw [bN l i hi, marks_succ, Int.toNat_natCast, List.set_append_right _ _ (by rw [marks_len]; omega), marks_len, Nat.sub_self, List.set_cons_zero, List.append_assoc]
     rfl
    rw [e, show a + (i : Int) + 1 = a + ((i + 1 : Nat) : Int) from by omega]; exact ih)
 have e : ci a 0 ++ l.drop 0 = l := by simp [ci]
 rw [e, show a + ((0 : Nat) : Int) = a from by omega] at h; exact h
theorem gT (n : Nat) (a : Int) (h0 : 0 ≤ a) (h1 : a ≤ 1000000000000000) (hl : n ≤ 17592186044416) : Ev (fun k => laws_heldIntS.f k (ci a n) a) (a + (n : Int)) := by
 have h := down (P := fun i => Ev (fun k => laws_heldIntS.l0 k (ci a n) (a + (i : Int)) (i : Int)) (a + (n : Int))) n
  (by
   apply Ev.step
   ·intro k; simp only [laws_heldIntS.l0]; rw [if_neg (by rw [marks_len]; omega)]
   ·exact Ev.now _)
  (by
   intro i hi ih
   apply Ev.step
   ·intro k; simp only [laws_heldIntS.l0]; rw [if_pos (by rw [marks_len]; omega), if_pos (by omega), if_pos (gY a n i hi), bI hi hl, bu (by omega) (by omega)]
   ·rw [show a + (i : Int) + 1 = a + ((i + 1 : Nat) : Int) from by omega]; exact ih)
 rw [show a + ((0 : Nat) : Int) = a from by omega] at h; exact h
theorem gC (n : Int) (l : List Int) (hl : l.length ≤ 17592186044416) : Ev (fun k => laws_markMatroid.f k n l 1) (1 + (l.length : Int), ci 1 l.length) := by
 unfold laws_markMatroid.f; exact Ev.bind (fg l 1 (by omega) (by omega) hl) (Ev.now _)
theorem l1In_eq (a b c : Int) : bZ.f a b c = some (decide (b ≤ a) && decide (a ≤ c)) := by
 unfold bZ.f; by_cases h : a ≥ b
 ·rw [if_pos h]; simp [h]
 ·rw [if_neg h]; simp only [ge_iff_le] at h; simp [h]
theorem isSize_eq (a : Int) : bW.f a = some (decide (0 ≤ a) && decide (a ≤ 8)) := by
 unfold bW.f; by_cases h : a ≥ 0
 ·rw [if_pos h]; simp [h]
 ·rw [if_neg h]; simp only [ge_iff_le] at h; simp [h]
theorem specIsSet_eq (n s : Int) : bp.f n s = some (cH n s) := by
 unfold bp.f; rw [l1In_eq, Option.bind_some]; unfold cH; by_cases h : (decide (0 ≤ n) && decide (n ≤ 8)) = true
 ·rw [if_pos h, if_pos (cz _), l1In_eq, Option.bind_some, h, Bool.true_and]; simp only [Bool.and_eq_true, decide_eq_true_eq] at h; obtain ⟨m, rfl⟩ := Int.eq_ofNat_of_zero_le h.1; have h8 : m ≤ 8 := by omega
  rw [ef (by omega) (by omega), db (by omega)]; have hp := b1 h8; rw [Int.toNat_natCast]; have e : (2 : Int) ^ m = ((2 ^ m : Nat) : Int) := by simp
  rw [e]; generalize 2 ^ m = q at hp; rw [bu (by omega) (by omega)]
  congr 2
  rw [Bool.eq_iff_iff]; simp only [decide_eq_true_eq]; omega
 ·rw [if_neg h, Bool.eq_false_iff.2 h, Bool.false_and]
theorem implIsSet_eq (n s : Int) : b4.f n s = some (cH n s) := by
 unfold b4.f; rw [isSize_eq, Option.bind_some]; unfold cH; by_cases h : (decide (0 ≤ n) && decide (n ≤ 8)) = true
 ·rw [if_pos h, h, Bool.true_and]; simp only [Bool.and_eq_true, decide_eq_true_eq] at h; by_cases hs : s ≥ 0
  ·rw [if_pos hs, if_pos h.1]; obtain ⟨m, rfl⟩ := Int.eq_ofNat_of_zero_le h.1; rw [db (by omega), Int.toNat_natCast]; have e : ((2 ^ m : Nat) : Int) = 2 ^ m := by simp
   rw [e]; have : decide (0 ≤ s) = true := by simpa using hs
   rw [this, Bool.true_and]
  ·rw [if_neg hs]; have : decide (0 ≤ s) = false := by simpa using hs
   rw [this, Bool.false_and]
 ·rw [if_neg h, Bool.eq_false_iff.2 h, Bool.false_and]
theorem iK (s : Int) : b5.f s = some (cU s) := by
 unfold b5.f cU; by_cases h : s ≥ 0
 ·rw [if_pos h]; simp [h]
 ·rw [if_neg h]; simp only [ge_iff_le] at h; simp [h]
theorem hP {s : Int} (h : cU s = true) : ∃ t : Nat, s = t ∧ t < 256 := by
 simp only [cU, Bool.and_eq_true, decide_eq_true_eq] at h; obtain ⟨t, rfl⟩ := Int.eq_ofNat_of_zero_le h.1; exact ⟨t, rfl, by omega⟩
theorem implHas_eq (s e : Int) : bH.f s e = some (hasB s e) := by
 unfold bH.f hasB; rw [iK, Option.bind_some]; by_cases h : cU s = true
 ·rw [if_pos h, h, Bool.true_and]; obtain ⟨t, rfl, ht⟩ := hP h; by_cases h0 : e ≥ 0
  ·rw [if_pos h0]; obtain ⟨m, rfl⟩ := Int.eq_ofNat_of_zero_le h0; by_cases h8 : (m : Int) < 8
   ·rw [if_pos h8, if_pos h0, fm (bM ht)]; simp [h8]
   ·rw [if_neg h8]; simp [h8]
  ·rw [if_neg h0]; simp only [ge_iff_le] at h0; simp [h0]
 ·rw [if_neg h, Bool.eq_false_iff.2 h]; simp
theorem cL {s e : Nat} (hs : s < 2 ^ 63) (he : e < 2 ^ 63) : aU.f (s : Int) (e : Int) = some (s.testBit e) := by
 unfold aU.f; rw [if_pos (cz _), ef (by omega) (by omega), fm hs]
def famG (n : Int) : Option Int → List Int → Bool
 | _, [] => decide (0 ≤ n) && decide (n ≤ 8)
 | p, x :: xs => cH n x && ((match p with | none => true | some q => decide (q < x)) && famG n (some x) xs)
def famB (n : Int) (l : List Int) : Bool := famG n none l
def dQ (l : List Int) (i : Nat) : Option Int := if i = 0 then none else some (rd l ((i - 1 : Nat) : Int))
theorem ed (l : List Int) (i : Nat) (hi : i < l.length) : dQ l (i + 1) = some l[i] := by
 unfold dQ; rw [if_neg (by omega), Nat.add_sub_cancel, aY l i hi]
theorem eA (n : Int) (l : List Int) (hl : l.length ≤ 17592186044416) : Ev (fun k => aK.f k n l) (famB n l) := by
 have h := down (P := fun i => Ev (fun k => aK.l0 k n l (i : Int)) (famG n (dQ l i) (l.drop i))) l.length
  (by
   apply Ev.step
   ·intro k; simp only [aK.l0, l1In_eq, Option.bind_some]; rw [if_neg (by omega)]
   ·rw [b7]; exact Ev.now _)
  (by
   intro i hi ih
   apply Ev.step
   ·intro k; simp only [aK.l0, specIsSet_eq, Option.bind_some]; rw [if_pos (by omega), if_pos (by omega), aY l i hi, bI hi hl]
   ·rw [bN l i hi]; rw [ed l i hi] at ih; simp only [famG]; by_cases hx : cH n l[i] = true
    ·refine Ev.ifp hx ?_; rw [hx, Bool.true_and]; by_cases h0 : (i : Int) > 0
     ·refine Ev.ifp h0 ?_; rw [bu (by omega) (by omega), show (i : Int) - 1 = ((i - 1 : Nat) : Int) from by omega]; refine Ev.ifp (by omega) (Ev.ifp (by omega) ?_); unfold dQ; rw [if_neg (by omega)]; by_cases hq : rd l ((i - 1 : Nat) : Int) ≥ l[i]
      ·refine Ev.ifp hq ?_; simp only []; rw [show decide (rd l ((i - 1 : Nat) : Int) < l[i]) = false from by simpa using hq, Bool.false_and]; exact Ev.now _
      ·refine Ev.ifn hq ?_; simp only []; rw [show decide (rd l ((i - 1 : Nat) : Int) < l[i]) = true from by simpa using hq, Bool.true_and]; exact ih
     ·refine Ev.ifn h0 ?_; unfold dQ; rw [if_pos (by omega)]; simp only [Bool.true_and]; exact ih
    ·refine Ev.ifn hx ?_; rw [Bool.eq_false_iff.2 hx, Bool.false_and]; exact Ev.now _)
 exact h
theorem eH (n : Int) (l : List Int) (hl : l.length ≤ 17592186044416) : Ev (fun k => aM.f k n l) (famB n l) := by
 have h := down (P := fun i => Ev (fun k => aM.l0 k n l l (l.length : Int) (i : Int)) (famG n (dQ l i) (l.drop i))) l.length
  (by
   apply Ev.step
   ·intro k; simp only [aM.l0, isSize_eq, Option.bind_some]; rw [if_neg (by omega)]
   ·rw [b7]; exact Ev.now _)
  (by
   intro i hi ih
   apply Ev.step
   ·intro k; simp only [aM.l0, implIsSet_eq, Option.bind_some]; rw [if_pos (by omega), if_pos (by omega), if_pos (by omega), aY l i hi, bI hi hl]
   ·rw [bN l i hi]; rw [ed l i hi] at ih; simp only [famG]; by_cases hx : cH n l[i] = true
    ·refine Ev.ifp hx ?_; rw [hx, Bool.true_and]; by_cases h0 : (i : Int) > 0
     ·refine Ev.ifp h0 ?_; rw [bu (by omega) (by omega), show (i : Int) - 1 = ((i - 1 : Nat) : Int) from by omega]; refine Ev.ifp (by omega) (Ev.ifp (by omega) ?_); unfold dQ; rw [if_neg (by omega)]; by_cases hq : l[i] ≤ rd l ((i - 1 : Nat) : Int)
      ·refine Ev.ifp hq ?_; simp only []; rw [show decide (rd l ((i - 1 : Nat) : Int) < l[i]) = false from by simpa using hq, Bool.false_and]; exact Ev.now _
      ·refine Ev.ifn hq ?_; simp only []; rw [show decide (rd l ((i - 1 : Nat) : Int) < l[i]) = true from by simpa using hq, Bool.true_and]; exact ih
     ·refine Ev.ifn h0 ?_; unfold dQ; rw [if_pos (by omega)]; simp only [Bool.true_and]; exact ih
    ·refine Ev.ifn hx ?_; rw [Bool.eq_false_iff.2 hx, Bool.false_and]; exact Ev.now _)
 exact h
theorem gw (n : Int) : ∀ (l : List Int) (p : Option Int), famG n p l = true → (0 ≤ n ∧ n ≤ 8) ∧ (∀ x ∈ l, cH n x = true) ∧ l.Pairwise (· < ·) ∧ (∀ q, p = some q → ∀ x ∈ l, q < x) := by
 intro l
 induction l with
 | nil =>
  intro p h; simp only [famG, Bool.and_eq_true, decide_eq_true_eq] at h; exact ⟨h, fun x hx => by simp at hx, List.Pairwise.nil, fun q _ x hx => by simp at hx⟩
 | cons y l ih =>
  intro p h; simp only [famG, Bool.and_eq_true] at h; obtain ⟨h1, h2, h3⟩ := h; obtain ⟨i1, i2, i3, i4⟩ := ih _ h3; refine ⟨i1, fun x hx => ?_, List.pairwise_cons.2 ⟨fun x hx => i4 y rfl x hx, i3⟩, fun q hq x hx => ?_⟩
  ·rcases List.mem_cons.1 hx with rfl | hx
   ·exact h1
   ·exact i2 x hx
  ·subst hq; simp only [decide_eq_true_eq] at h2; rcases List.mem_cons.1 hx with rfl | hx
   ·exact h2
   ·exact Int.lt_trans h2 (i4 y rfl x hx)
theorem eD {n : Int} {l : List Int} (h : famB n l = true) : ∃ (m : Nat) (L : List Nat), n = m ∧ m ≤ 8 ∧ l = L.map (fun x : Nat => (x : Int)) ∧ (∀ x ∈ L, x < 2 ^ m) ∧ L.Pairwise (· < ·) := by
 obtain ⟨h1, h2, h3, _⟩ := gw n l none h; obtain ⟨m, rfl⟩ := Int.eq_ofNat_of_zero_le h1.1; have hnn : ∀ x ∈ l, 0 ≤ x := fun x hx => by
  obtain ⟨_, t, _, rfl, _⟩ := eX (h2 x hx); omega
 have hl : l = (l.map Int.toNat).map (fun x : Nat => (x : Int)) := by
  rw [List.map_map]
  conv => lhs; rw [← List.map_id l]
  apply List.map_congr_left
  intro x hx; have := hnn x hx; simp only [id, Function.comp]; omega
 refine ⟨m, l.map Int.toNat, rfl, by omega, hl, fun x hx => ?_, ?_⟩
 ·obtain ⟨y, hy, rfl⟩ := List.mem_map.1 hx; obtain ⟨m', t, hm, rfl, _, ht, _⟩ := eX (h2 y hy); have : m = m' := by omega
  subst this; rw [Int.toNat_natCast]; exact ht
 ·rw [List.pairwise_map]; exact h3.imp_of_mem (fun {a b} ha hb hab => by
   have := hnn a ha; have := hnn b hb; omega)
def elsB (s : Int) : List Int := ((List.range 8).filter (fun e : Nat => hasB s (e : Int))).map (fun e : Nat => (e : Int))
theorem cE {i n : Nat} (h : i < n) : List.range' i (n - i) = i :: List.range' (i + 1) (n - (i + 1)) := by
 rw [show n - i = (n - (i + 1)) + 1 from by omega, List.range'_succ]
theorem dV {s : Int} {i : Nat} (l : List Nat) : ((i :: l).filter (fun e : Nat => hasB s (e : Int))).map (fun e : Nat => (e : Int)) = (if hasB s (i : Int) = true then [(i : Int)] else []) ++ (l.filter (fun e : Nat => hasB s (e : Int))).map (fun e : Nat => (e : Int)) := by
 rw [List.filter_cons]; by_cases h : hasB s (i : Int) = true
 ·rw [if_pos h, if_pos h]; rfl
 ·rw [if_neg h, if_neg h]; rfl
theorem ct (s : Int) : Ev (fun k => an.f k s) (elsB s) := by
 have h := down (P := fun i => ∀ acc : List Int, acc.length ≤ i → Ev (fun k => an.l0 k s acc (i : Int)) (acc ++ ((List.range' i (8 - i)).filter (fun e : Nat => hasB s (e : Int))).map (fun e : Nat => (e : Int)))) 8
  (by
   intro acc ha
   apply Ev.step
   ·intro k; simp only [an.l0, implHas_eq, Option.bind_some]; rw [if_neg (by omega)]
   ·simpa using Ev.now _)
  (by
   intro i hi ih acc ha
   apply Ev.step
   ·intro k; simp only [an.l0, implHas_eq, Option.bind_some]; rw [if_pos (by omega), bI hi (by omega)]
   ·rw [cE hi, dV]; by_cases hx : hasB s (i : Int) = true
    ·refine Ev.ifp hx (Ev.ifp (by omega) ?_); rw [if_pos hx, ← List.append_assoc]; exact ih (acc ++ [(i : Int)]) (by simp; omega)
    ·refine Ev.ifn hx ?_; rw [if_neg hx]; exact ih acc (by omega))
 have h0 := h [] (Nat.le_refl 0); rw [show ((0 : Nat) : Int) = 0 from rfl] at h0; have e : elsB s = [] ++ ((List.range' 0 (8 - 0)).filter (fun e : Nat => hasB s (e : Int))).map (fun e : Nat => (e : Int)) := by
  unfold elsB; rw [List.nil_append, List.range_eq_range']
 rw [e]; unfold an.f; exact h0
theorem ee {s : Nat} (h : s < 256) : elsB (s : Int) = (els s).map (fun e : Nat => (e : Int)) := by
 have e : (List.range 8).filter (fun e : Nat => hasB (s : Int) (e : Int)) = (List.range 8).filter (fun e : Nat => s.testBit e) :=
  List.filter_congr (fun e he => by
   rw [List.mem_range] at he; rw [iq]; simp [h, he])
 unfold elsB els; rw [e]
theorem de (x : Int) (l : List Int) (a : Int) : (x :: l).contains a = (decide (x = a) || l.contains a) := by
 rw [Bool.eq_iff_iff]; simp only [List.contains_iff_mem, List.mem_cons, Bool.or_eq_true, decide_eq_true_eq]
 constructor
 ·rintro (h | h)
  ·exact .inl h.symm
  ·exact .inr h
 ·rintro (h | h)
  ·exact .inl h.symm
  ·exact .inr h
theorem dd (l : List Int) (a : Int) (hl : l.length ≤ 17592186044416) : Ev (fun k => bh.f k l a) (l.contains a) := by
 have h := down (P := fun i => Ev (fun k => bh.l0 k l a (i : Int)) ((l.drop i).contains a)) l.length
  (by
   apply Ev.step
   ·intro k; simp only [bh.l0]; rw [if_neg (by omega)]
   ·rw [b7]; exact Ev.now _)
  (by
   intro i hi ih
   apply Ev.step
   ·intro k; simp only [bh.l0]; rw [if_pos (by omega), if_pos (by omega), aY l i hi, bI hi hl]
   ·rw [bN l i hi, de]; by_cases hx : l[i] = a
    ·refine Ev.ifp hx ?_; rw [show decide (l[i] = a) = true from by simpa using hx, Bool.true_or]; exact Ev.now _
    ·refine Ev.ifn hx ?_; rw [show decide (l[i] = a) = false from by simpa using hx, Bool.false_or]; exact ih)
 exact h
theorem im (l : List Int) (a : Int) (hl : l.length ≤ 17592186044416) : ∃ r : Int, Ev (fun k => am.f k l a) r ∧ (decide (r ≥ 0) = l.contains a) := by
 have h := down (P := fun i => ∃ r : Int, Ev (fun k => am.l0 k l a (l.length : Int) (i : Int)) r ∧ (decide (r ≥ 0) = (l.drop i).contains a)) l.length
  (by
   refine ⟨-1, ?_, by rw [b7]; rfl⟩
   apply Ev.step
   ·intro k; simp only [am.l0]; rw [if_neg (by omega)]
   ·exact Ev.now _)
  (by
   intro i hi ih; rw [bN l i hi, de]; by_cases hx : l[i] = a
   ·refine ⟨(i : Int), ?_, ?_⟩
    ·apply Ev.step
     ·intro k; simp only [am.l0]; rw [if_pos (by omega), if_pos (by omega), if_pos (by omega), aY l i hi, if_pos hx.symm]
     ·exact Ev.now _
    ·rw [show decide (l[i] = a) = true from by simpa using hx, Bool.true_or]; simp
   ·obtain ⟨r, hr, hd⟩ := ih; refine ⟨r, ?_, ?_⟩
    ·apply Ev.step
     ·intro k; simp only [am.l0]; rw [if_pos (by omega), if_pos (by omega), if_pos (by omega), aY l i hi, if_neg (fun hc => hx hc.symm), bI hi hl]
     ·exact hr
    ·rw [show decide (l[i] = a) = false from by simpa using hx, Bool.false_or]; exact hd)
 exact h
theorem dR (l : List Int) (a : Int) (hl : l.length ≤ 17592186044416) : Ev (fun k => aD.f k l a) (l.contains a) := by
 obtain ⟨r, hr, hd⟩ := im l a hl; unfold aD.f; refine Ev.bind hr ?_; rw [hd]; exact Ev.now _
end Go.Proofs.Ytimkekeaeojpkaa.Q
namespace Go.Proofs.Ytimkekeaeojpkaa.Q
open Go Go.RowKit Go.Proofs.YtimkekeaeojpkaaW.PrintWords Go.Proofs.YtimkekeaeojpkaaW.PrintLast Go.Proofs.YtimkekeaeojpkaaW.PrintMore Go.Proofs.Ytimkekeaeojpkaa.Z
set_option linter.unusedVariables false
set_option linter.unusedSimpArgs false
def dM (l : List Int) (a b e : Nat) : Bool := (els (dif b a)).any (fun f => l.contains ((dif a (2 ^ e) ||| 2 ^ f : Nat) : Int))
def cC (l : List Int) (a b : Nat) : List Nat → Option Nat
 | [] => none
 | e :: es => if dM l a b e = true then cC l a b es else some e
def cI (l : List Int) (a : Nat) : List Nat → Option (Nat × Nat)
 | [] => none
 | b :: bs => match cC l a b (els (dif a b)) with
  | none => cI l a bs
  | some e => some (b, e)
def cT (l : List Int) (L : List Nat) : List Nat → Option (Nat × Nat × Nat)
 | [] => none
 | a :: la => match cI l a L with
  | none => cT l L la
  | some (b, e) => some (a, b, e)
def told : Option (Nat × Nat × Nat) → Int × Int × Int × Bool
 | none => (0, 0, 0, false)
 | some (a, b, e) => ((a : Int), (b : Int), (e : Int), true)
def e4 (n : Int) (l : List Int) : Int × Int × Int × Bool := if famB n l = true then told (cT l (l.map Int.toNat) (l.map Int.toNat)) else (0, 0, 0, false)
theorem gG {a b n : Nat} (ha : a < 2 ^ n) (hn : n ≤ 8) : els (dif a b) = (List.range n).filter (fun e => a.testBit e && !b.testBit e) := by
 have h1 : (List.range 8).filter (fun e => (dif a b).testBit e) = (List.range 8).filter (fun e => decide (e < n) && (a.testBit e && !b.testBit e)) :=
  List.filter_congr (fun e _ => by
   rw [dC]; by_cases h : e < n
   ·simp [h]
   ·have : a.testBit e = false := Nat.testBit_lt_two_pow (Nat.lt_of_lt_of_le ha (Nat.pow_le_pow_right (by decide) (by omega))); simp [this])
 unfold els; rw [h1]; have h2 : ∀ (p : Nat → Bool) (a b : Nat), (List.range a).filter (fun e => decide (e < b) && p e) = (List.range (min a b)).filter p := by
  intro p a b
  induction a with
  | zero => simp
  | succ a ih =>
   rw [List.range_succ, List.filter_append, ih]; by_cases h : a < b
   ·rw [show min (a + 1) b = min a b + 1 from by omega, List.range_succ, List.filter_append]; have e : min a b = a := by omega
    rw [e]
    congr 1
    simp [List.filter_cons, h]
   ·rw [show min (a + 1) b = min a b from by omega]; simp [List.filter_cons, h]
 rw [h2, Nat.min_eq_right hn]
end Go.Proofs.Ytimkekeaeojpkaa.Q
namespace Go.Proofs.Ytimkekeaeojpkaa.Q
open Go Go.RowKit Go.Proofs.Ytimkekeaeojpkaa.A Go.Proofs.YtimkekeaeojpkaaW.PrintWords Go.Proofs.YtimkekeaeojpkaaW.PrintLast Go.Proofs.YtimkekeaeojpkaaW.PrintMore Go.Proofs.Ytimkekeaeojpkaa.Z
set_option linter.unusedVariables false
set_option linter.unusedSimpArgs false
theorem ie (n : Nat) (hn : n ≤ 8) (l : List Int) (hl : l.length ≤ 17592186044416) (a b e : Nat) (ha : a < 256) (hb : b < 2 ^ n) (he : e < 8) (hae : a.testBit e = true) :
  Ev (fun k => aJ.f k (n : Int) l (a : Int) (b : Int) (e : Int)) (dM l a b e) := by
 have hb256 : b < 256 := Nat.lt_of_lt_of_le hb (b1 hn); have h := down (P := fun f => Ev (fun k => aJ.l0 k (a : Int) (b : Int) (e : Int) (f : Int) (n : Int) l) (((List.range' f (n - f)).filter (fun f => b.testBit f && !a.testBit f)).any (fun f => l.contains ((dif a (2 ^ e) ||| 2 ^ f : Nat) : Int)))) n
  (by
   apply Ev.step
   ·intro k; simp only [aJ.l0]; rw [if_neg (by omega)]
   ·rw [Nat.sub_self]; exact Ev.now _)
  (by
   intro f hf ih; have hih : Ev (fun k => aJ.l0 k (a : Int) (b : Int) (e : Int) (wrap64 ((f : Int) + 1)) (n : Int) l) (((List.range' (f + 1) (n - (f + 1))).filter (fun f => b.testBit f && !a.testBit f)).any (fun f => l.contains ((dif a (2 ^ e) ||| 2 ^ f : Nat) : Int))) := by
    rw [bI hf (by omega)]; exact ih
   apply Ev.step
   ·intro k; simp only [aJ.l0, cL (bM hb256) (show f < 2 ^ 63 by omega), cL (bM ha) (show f < 2 ^ 63 by omega), Option.bind_some]; rw [if_pos (by omega)]
   ·rw [cE hf, List.filter_cons]; by_cases hbf : b.testBit f = true
    ·refine Ev.ifp hbf ?_; by_cases haf : a.testBit f = true
     ·refine Ev.ifp haf ?_; rw [if_neg (by rw [haf]; simp)]; exact hih
     ·refine Ev.ifn haf (Ev.ifp (cz _) (Ev.ifp (cz _) ?_)); have haf' := Bool.eq_false_iff.2 haf; rw [if_pos (by rw [hbf, haf']; rfl), List.any_cons]; obtain ⟨x1, x2, x3⟩ := gA ha he (show f < 8 by omega) hae haf'; have hp : 2 ^ f < 256 := Nat.pow_lt_pow_right (a := 2) (m := f) (n := 8) (by decide) (by omega); have ex : wrap64 (wrap64 ((a : Int) - shl .i64 1 (IntKind.u64.wrap (e : Int))) + shl .i64 1 (IntKind.u64.wrap (f : Int))) = ((dif a (2 ^ e) ||| 2 ^ f : Nat) : Int) := by
       rw [ef (by omega) (by omega), ef (by omega) (by omega), db (by omega), db (by omega), ← x1]; generalize 2 ^ e = p at *; generalize 2 ^ f = q at *; rw [bu (n := (a : Int) - (p : Int)) (by omega) (by omega), bu (by omega) (by omega)]; omega
      rw [ex]; refine Ev.bind (dd l _ hl) ?_; by_cases hc : l.contains ((dif a (2 ^ e) ||| 2 ^ f : Nat) : Int) = true
      ·refine Ev.ifp hc ?_; rw [hc, Bool.true_or]; exact Ev.now _
      ·refine Ev.ifn hc ?_; rw [Bool.eq_false_iff.2 hc, Bool.false_or]; exact hih
    ·refine Ev.ifn hbf ?_; rw [if_neg (by rw [Bool.eq_false_iff.2 hbf]; simp)]; exact hih)
 rw [Nat.sub_zero, ← List.range_eq_range', ← gG hb hn] at h; exact h
theorem fT (n : Nat) (hn : n ≤ 8) (l : List Int) (hl : l.length ≤ 17592186044416) (i j : Nat) (hi : i < l.length) (hj : j < l.length) (a b : Nat) (hai : rd l (i : Int) = a) (hbj : rd l (j : Int) = b) (ha : a < 2 ^ n) (hb : b < 2 ^ n) (K : Int × Int × Int × Bool)
  (hK : Ev (fun k => ai.l1 k (i : Int) (wrap64 ((j : Int) + 1)) (n : Int) l) K) :
  Ev (fun k => ai.l2 k (i : Int) (j : Int) 0 (n : Int) l) (match cC l a b (els (dif a b)) with | none => K | some e => ((a : Int), (b : Int), (e : Int), true)) := by
 have ha256 : a < 256 := Nat.lt_of_lt_of_le ha (b1 hn); have hb256 : b < 256 := Nat.lt_of_lt_of_le hb (b1 hn); have h := down (P := fun e => Ev (fun k => ai.l2 k (i : Int) (j : Int) (e : Int) (n : Int) l) (match cC l a b ((List.range' e (n - e)).filter (fun e => a.testBit e && !b.testBit e)) with | none => K | some e => ((a : Int), (b : Int), (e : Int), true))) n
  (by
   apply Ev.step
   ·intro k; simp only [ai.l2]; rw [if_neg (by omega)]
   ·rw [Nat.sub_self]; exact hK)
  (by
   intro e he ih; have hih : Ev (fun k => ai.l2 k (i : Int) (j : Int) (wrap64 ((e : Int) + 1)) (n : Int) l) (match cC l a b ((List.range' (e + 1) (n - (e + 1))).filter (fun e => a.testBit e && !b.testBit e)) with | none => K | some e => ((a : Int), (b : Int), (e : Int), true)) := by
    rw [bI he (by omega)]; exact ih
   apply Ev.step
   ·intro k; simp only [ai.l2]; rw [if_pos (by omega), if_pos (by omega), if_pos (by omega), if_pos (by omega), if_pos (by omega), hai, hbj, cL (bM ha256) (show e < 2 ^ 63 by omega), cL (bM hb256) (show e < 2 ^ 63 by omega), Option.bind_some, Option.bind_some]
   ·rw [cE he, List.filter_cons]; by_cases hae : a.testBit e = true
    ·refine Ev.ifp hae ?_; by_cases hbe : b.testBit e = true
     ·refine Ev.ifp hbe ?_; rw [if_neg (by rw [hbe]; simp)]; exact hih
     ·refine Ev.ifn hbe (Ev.bind (ie n hn l hl a b e ha256 hb (by omega) hae) ?_); rw [if_pos (by rw [hae, Bool.eq_false_iff.2 hbe]; rfl)]; simp only [cC]; by_cases hx : dM l a b e = true
      ·refine Ev.ifp hx ?_; rw [if_pos hx]; exact hih
      ·refine Ev.ifn hx ?_; rw [if_neg hx]; exact Ev.now _
    ·refine Ev.ifn hae ?_; rw [if_neg (by rw [Bool.eq_false_iff.2 hae]; simp)]; exact hih)
 rw [Nat.sub_zero, ← List.range_eq_range', ← gG ha hn] at h; exact h
theorem fC (n : Int) (l : List Int) (hl : l.length ≤ 17592186044416) : Ev (fun k => ai.f k n l) (e4 n l) := by
 unfold ai.f e4; refine Ev.bind (eA n l hl) ?_; by_cases hf : famB n l = true
 ·refine Ev.ifp hf ?_; rw [if_pos hf]; obtain ⟨m, L, rfl, hm, rfl, hL, _⟩ := eD hf; rw [cg]; have hlen : (L.map (fun x : Nat => (x : Int))).length = L.length := List.length_map _; rw [hlen] at hl; have hrd : ∀ i, (h : i < L.length) → rd (L.map (fun x : Nat => (x : Int))) (i : Int) = (L[i] : Int) := fun i h => by
   rw [aY _ i (by rw [hlen]; exact h), List.getElem_map]
  have hl' : (L.map (fun x : Nat => (x : Int))).length ≤ 17592186044416 := by rw [hlen]; exact hl
  generalize L.map (fun x : Nat => (x : Int)) = l at hlen hrd hl'; have h := down (P := fun i => Ev (fun k => ai.l0 k (i : Int) (m : Int) l) (told (cT l L (L.drop i)))) L.length
   (by
    apply Ev.step
    ·intro k; simp only [ai.l0]; rw [if_neg (by omega)]
    ·rw [b7]; exact Ev.now _)
   (by
    intro i hi ih; have hia := hL _ (List.getElem_mem hi); have hih : Ev (fun k => ai.l0 k (wrap64 ((i : Int) + 1)) (m : Int) l) (told (cT l L (L.drop (i + 1)))) := by
     rw [bI hi hl]; exact ih
    apply Ev.step
    ·intro k; simp only [ai.l0]; rw [if_pos (by omega)]
    ·have h1 := down (P := fun j => Ev (fun k => ai.l1 k (i : Int) (j : Int) (m : Int) l) (match cI l L[i] (L.drop j) with | none => told (cT l L (L.drop (i + 1))) | some (b, e) => ((L[i] : Int), (b : Int), (e : Int), true))) L.length
      (by
       apply Ev.step
       ·intro k; simp only [ai.l1]; rw [if_neg (by omega)]
       ·rw [b7]; exact hih)
      (by
       intro j hj ihj; have hjb := hL _ (List.getElem_mem hj)
       apply Ev.step
       ·intro k; simp only [ai.l1]; rw [if_pos (by omega)]
       ·have h2 := fT m hm l hl' i j (by omega) (by omega) L[i] L[j] (hrd i hi) (hrd j hj) hia hjb _ (by rw [bI hj hl]; exact ihj); rw [bN L j hj]; simp only [cI]; generalize cC l L[i] L[j] (els (dif L[i] L[j])) = q at h2; cases q with
        | none => exact h2
        | some e => exact h2)
     rw [bN L i hi]; simp only [cT]; rw [List.drop_zero] at h1; generalize cI l L[i] L = q at h1; cases q with
     | none => exact h1
     | some x => exact h1)
  exact h
 ·refine Ev.ifn hf ?_; rw [if_neg hf]; exact Ev.now _
def matB (n : Int) (l : List Int) : Bool := famB n l && (decide ((l.length : Int) > 0) && !(e4 n l).2.2.2)
theorem dh (n : Int) (l : List Int) (hl : l.length ≤ 17592186044416) : Ev (fun k => aN.f k n l) (matB n l) := by
 unfold aN.f matB; refine Ev.bind (fC n l hl) (Ev.bind (eA n l hl) ?_); by_cases hf : famB n l = true
 ·refine Ev.ifp hf ?_; rw [hf, Bool.true_and]; by_cases h0 : (l.length : Int) > 0
  ·refine Ev.ifp h0 ?_; rw [show decide ((l.length : Int) > 0) = true from by simpa using h0, Bool.true_and]; exact Ev.now _
  ·refine Ev.ifn h0 ?_; rw [show decide ((l.length : Int) > 0) = false from by simpa using h0, Bool.false_and]; exact Ev.now _
 ·refine Ev.ifn hf ?_; rw [Bool.eq_false_iff.2 hf, Bool.false_and]; exact Ev.now _
end Go.Proofs.Ytimkekeaeojpkaa.Q
namespace Go.Proofs.Ytimkekeaeojpkaa.Q
open Go Go.RowKit Go.Proofs.YtimkekeaeojpkaaW.PrintWords Go.Proofs.YtimkekeaeojpkaaW.PrintLast Go.Proofs.YtimkekeaeojpkaaW.PrintMore Go.Proofs.Ytimkekeaeojpkaa.Z
set_option linter.unusedVariables false
set_option linter.unusedSimpArgs false
theorem dw {n : Int} {l : List Int} (h : matB n l = true) : ∃ (m : Nat) (L : List Nat), n = m ∧ m ≤ 8 ∧ l = ints L ∧ (∀ x ∈ L, x < 2 ^ m) ∧ (∀ x ∈ L, x < 256) ∧ L.Pairwise (· < ·) ∧ L ≠ [] := by
 simp only [matB, Bool.and_eq_true, decide_eq_true_eq] at h; obtain ⟨m, L, rfl, hm, rfl, hL, hp⟩ := eD h.1; refine ⟨m, L, rfl, hm, rfl, hL, fun x hx => Nat.lt_of_lt_of_le (hL x hx) (b1 hm), hp, ?_⟩; rintro rfl; simp at h
theorem aG (L : List Nat) : (ints L).length = L.length := List.length_map _
theorem dq (L : List Nat) (i : Nat) (h : i < L.length) : rd (ints L) (i : Int) = (L[i] : Int) := by
 rw [aY _ i (by rw [aG]; exact h)]; simp [ints]
theorem filter_range_swap (p : Nat → Bool) (a b : Nat) : (List.range a).filter (fun e => decide (e < b) && p e) = (List.range (min a b)).filter p := by
 induction a with
 | zero => simp
 | succ a ih =>
  rw [List.range_succ, List.filter_append, ih]; by_cases h : a < b
  ·rw [show min (a + 1) b = min a b + 1 from by omega, List.range_succ, List.filter_append]; have e : min a b = a := by omega
   rw [e]
   congr 1
   simp [List.filter_cons, h]
  ·rw [show min (a + 1) b = min a b from by omega]; simp [List.filter_cons, h]
theorem je {a x : Nat} (ha : a < 256) (hx : x < 8) : a ||| 2 ^ x < 256 := by
 have h1 : a < 2 ^ 8 := ha; have h2 : 2 ^ x < 2 ^ 8 := Nat.pow_lt_pow_right (by decide) hx; exact Nat.or_lt_two_pow h1 h2
theorem eI {x : Nat} (hx : x < 8) : 2 ^ x < 256 := Nat.pow_lt_pow_right (a := 2) (m := x) (n := 8) (by decide) hx
end Go.Proofs.Ytimkekeaeojpkaa.Q
namespace Go.Proofs.Ytimkekeaeojpkaa.Q
open Go Go.RowKit Go.Proofs.Ytimkekeaeojpkaa.A Go.Proofs.YtimkekeaeojpkaaW.PrintWords Go.Proofs.YtimkekeaeojpkaaW.PrintLast Go.Proofs.YtimkekeaeojpkaaW.PrintMore Go.Proofs.Ytimkekeaeojpkaa.Z
set_option linter.unusedVariables false
set_option linter.unusedSimpArgs false
def cN (l : List Int) (acc : Nat) (es : List Nat) : Nat := es.foldl (fun (a : Nat) (e : Nat) => a ||| 2 ^ (rd l (e : Int)).toNat) acc
def bT (l : List Int) (s : Nat) : Nat := cN l 0 ((List.range l.length).filter (fun e => s.testBit e))
theorem fI {l : List Int} (hm : ∀ x ∈ l, 0 ≤ x ∧ x < 8) {i : Nat} (hi : i < l.length) : ∃ x : Nat, rd l (i : Int) = x ∧ x < 8 := by
 have h := hm _ (List.getElem_mem hi); obtain ⟨x, hx⟩ := Int.eq_ofNat_of_zero_le h.1; exact ⟨x, by rw [aY l i hi, hx], by omega⟩
theorem fl (l : List Int) (s : Nat) (hl : l.length ≤ 17592186044416) (hm : ∀ x ∈ l, 0 ≤ x ∧ x < 8) (hs : s < 256) : Ev (fun k => bn.f k l (s : Int)) ((bT l s : Nat) : Int) := by
 have h := down (P := fun i => ∀ acc : Nat, acc < 256 → Ev (fun k => bn.l0 k l (s : Int) (acc : Int) (i : Int)) ((cN l acc ((List.range' i (l.length - i)).filter (fun e => s.testBit e)) : Nat) : Int)) l.length
  (by
   intro acc ha
   apply Ev.step
   ·intro k; simp only [bn.l0]; rw [if_neg (by omega)]
   ·rw [Nat.sub_self]; exact Ev.now _)
  (by
   intro i hi ih acc ha; obtain ⟨x, hx, hx8⟩ := fI hm hi
   apply Ev.step
   ·intro k; simp only [bn.l0, cL (bM hs) (show i < 2 ^ 63 by omega), Option.bind_some]; rw [if_pos (by omega), bI hi hl]
   ·rw [cE hi, List.filter_cons]; by_cases hb : s.testBit i = true
    ·refine Ev.ifp hb (Ev.ifp (by omega) (Ev.ifp (cz _) ?_)); rw [if_pos hb, hx, ef (by omega) (by omega), db (by omega), go (bM ha) (bM (eI hx8))]; have := ih _ (je ha hx8); have e : cN l acc (i :: (List.range' (i + 1) (l.length - (i + 1))).filter (fun e => s.testBit e)) = cN l (acc ||| 2 ^ x) ((List.range' (i + 1) (l.length - (i + 1))).filter (fun e => s.testBit e)) := by
      simp only [cN, List.foldl_cons, hx, Int.toNat_natCast]
     rw [e]; exact this
    ·refine Ev.ifn hb ?_; rw [if_neg hb]; exact ih acc ha)
 have h0 := h 0 (by omega); rw [Nat.sub_zero, ← List.range_eq_range'] at h0; exact h0
theorem eL (l : List Int) (s : Nat) (h8 : l.length ≤ 8) (hm : ∀ x ∈ l, 0 ≤ x ∧ x < 8) (hs : s < 2 ^ l.length) : Ev (fun k => aA.f k l (s : Int)) ((bT l s : Nat) : Int) := by
 have hs256 : s < 256 := Nat.lt_of_lt_of_le hs (b1 h8); unfold aA.f; refine Ev.bind (ct _) ?_; have he : elsB (s : Int) = ((List.range l.length).filter (fun e => s.testBit e)).map (fun e : Nat => (e : Int)) := by
  rw [ee hs256, els]; have h1 : (List.range 8).filter (fun e => s.testBit e) = (List.range 8).filter (fun e => decide (e < l.length) && s.testBit e) :=
   List.filter_congr (fun e _ => by
    by_cases hq : e < l.length
    ·simp [hq]
    ·have : s.testBit e = false := Nat.testBit_lt_two_pow (Nat.lt_of_lt_of_le hs (Nat.pow_le_pow_right (by decide) (by omega))); simp [this])
  rw [h1, filter_range_swap, Nat.min_eq_right h8]
 rw [he]; unfold bT; have hes : ∀ e ∈ (List.range l.length).filter (fun e => s.testBit e), e < l.length := by
  intro e hmem; simp at hmem
  exact hmem.1
 have hlen : ((List.range l.length).filter (fun e => s.testBit e)).length ≤ 8 := Nat.le_trans (List.length_filter_le _ _) (by simpa using h8); generalize (List.range l.length).filter (fun e => s.testBit e) = es at hes hlen; have h := down (P := fun i => ∀ acc : Nat, acc < 256 → Ev (fun k => aA.l0 k l (acc : Int) (es.map (fun e : Nat => (e : Int))) ((es.map (fun e : Nat => (e : Int))).length : Int) (i : Int)) ((cN l acc (es.drop i) : Nat) : Int)) es.length
  (by
   intro acc ha
   apply Ev.step
   ·intro k; simp only [aA.l0]; rw [if_neg (by rw [List.length_map]; omega)]
   ·rw [b7]; exact Ev.now _)
  (by
   intro i hi ih acc ha; have hi' : i < (es.map (fun e : Nat => (e : Int))).length := by rw [List.length_map]; exact hi
   have hr : rd (es.map (fun e : Nat => (e : Int))) (i : Int) = (es[i] : Int) := by rw [aY _ _ hi', List.getElem_map]
   have hei := hes _ (List.getElem_mem hi); obtain ⟨x, hx, hx8⟩ := fI hm hei
   apply Ev.step
   ·intro k; simp only [aA.l0]; rw [if_pos (by omega), if_pos (by omega), if_pos (by omega), hr, if_pos (by omega), if_pos (by omega), hx, if_pos (by omega), bI hi (by omega), db (by omega), go (bM ha) (bM (eI hx8))]
   ·have e : cN l acc (es.drop i) = cN l (acc ||| 2 ^ x) (es.drop (i + 1)) := by
     rw [bN es i hi]; simp only [cN, List.foldl_cons, hx, Int.toNat_natCast]
    rw [e]; exact ih _ (je ha hx8))
 exact h 0 (by omega)
def insO (x : Int) : List Int → List Int
 | [] => [x]
 | y :: ys => if y < x then y :: insO x ys else (if y = x then y :: ys else x :: y :: ys)
def cn (acc X : List Int) : List Int := X.foldl (fun a x => insO x a) acc
theorem fK (x : Int) (l : List Int) : (insO x l).length ≤ l.length + 1 := by
 induction l with
 | nil => exact Nat.le_refl _
 | cons y l ih =>
  simp only [insO]; by_cases h : y < x
  ·rw [if_pos h, List.length_cons, List.length_cons]; omega
  ·rw [if_neg h]; by_cases h2 : y = x
   ·rw [if_pos h2]; omega
   ·rw [if_neg h2]; simp only [List.length_cons]; omega
theorem insO_mem (x a : Int) (l : List Int) : a ∈ insO x l ↔ a = x ∨ a ∈ l := by
 induction l with
 | nil => simp [insO]
 | cons y l ih =>
  simp only [insO]; by_cases h : y < x
  ·rw [if_pos h, List.mem_cons, ih, List.mem_cons]
   constructor
   ·rintro (h' | h' | h')
    ·exact .inr (.inl h')
    ·exact .inl h'
    ·exact .inr (.inr h')
   ·rintro (h' | h' | h')
    ·exact .inr (.inl h')
    ·exact .inl h'
    ·exact .inr (.inr h')
  ·rw [if_neg h]; by_cases h2 : y = x
   ·rw [if_pos h2]; subst h2
    constructor
    ·exact .inr
    ·rintro (rfl | h')
     ·exact List.mem_cons_self ..
     ·exact h'
   ·rw [if_neg h2, List.mem_cons]
theorem hZ (x : Int) (l : List Int) (hl : l.Pairwise (· < ·)) : (insO x l).Pairwise (· < ·) := by
 induction l with
 | nil => simp [insO]
 | cons y l ih =>
  rw [List.pairwise_cons] at hl; simp only [insO]; by_cases h : y < x
  ·rw [if_pos h, List.pairwise_cons]; refine ⟨fun a ha => ?_, ih hl.2⟩; rcases (insO_mem x a l).1 ha with rfl | ha
   ·exact h
   ·exact hl.1 a ha
  ·rw [if_neg h]; by_cases h2 : y = x
   ·rw [if_pos h2, List.pairwise_cons]; exact hl
   ·rw [if_neg h2, List.pairwise_cons, List.pairwise_cons]; refine ⟨fun a ha => ?_, hl⟩; rcases List.mem_cons.1 ha with rfl | ha
    ·omega
    ·have := hl.1 a ha; omega
theorem ii (X : List Int) (a : Int) : ∀ acc : List Int, a ∈ cn acc X ↔ a ∈ X ∨ a ∈ acc := by
 induction X with
 | nil => intro acc; simp [cn]
 | cons x X ih =>
  intro acc; have := ih (insO x acc); unfold cn at this ⊢; rw [List.foldl_cons, this, insO_mem, List.mem_cons]
  constructor
  ·rintro (h | h | h)
   ·exact .inl (.inr h)
   ·exact .inl (.inl h)
   ·exact .inr h
  ·rintro ((h | h) | h)
   ·exact .inr (.inl h)
   ·exact .inl h
   ·exact .inr (.inr h)
theorem gv (X : List Int) : ∀ acc : List Int, acc.Pairwise (· < ·) → (cn acc X).Pairwise (· < ·) := by
 induction X with
 | nil => intro acc h; exact h
 | cons x X ih => intro acc h; exact ih _ (hZ x acc h)
theorem fB : ∀ {X Y : List Int}, X.Pairwise (· < ·) → Y.Pairwise (· < ·) → (∀ a, a ∈ X ↔ a ∈ Y) → X = Y := by
 intro X
 induction X with
 | nil =>
  intro Y _ _ h; cases Y with
  | nil => rfl
  | cons y Y => exact absurd ((h y).2 (List.mem_cons_self ..)) (by simp)
 | cons x X ih =>
  intro Y hX hY h; cases Y with
  | nil => exact absurd ((h x).1 (List.mem_cons_self ..)) (by simp)
  | cons y Y =>
   rw [List.pairwise_cons] at hX hY; have hxy : x = y := by
    rcases List.mem_cons.1 ((h x).1 (List.mem_cons_self ..)) with e | hx
    ·exact e
    ·rcases List.mem_cons.1 ((h y).2 (List.mem_cons_self ..)) with e | hy
     ·exact e.symm
     ·have h1 := hX.1 y hy; have h2 := hY.1 x hx; omega
   subst hxy; rw [ih hX.2 hY.2 (fun a => ?_)]
   constructor
   ·intro ha; rcases List.mem_cons.1 ((h a).1 (List.mem_cons_of_mem _ ha)) with e | h'
    ·have := hX.1 a ha; omega
    ·exact h'
   ·intro ha; rcases List.mem_cons.1 ((h a).2 (List.mem_cons_of_mem _ ha)) with e | h'
    ·have := hY.1 a ha; omega
    ·exact h'
theorem fA (X : List Int) (hx : X.length ≤ 8796093022208) : Ev (fun k => ac.f k X) (cn [] X) := by
 have hd := down (P := fun i => ∀ acc : List Int, acc.length ≤ i → Ev (fun k => ac.l0 k X acc (i : Int)) (cn acc (X.drop i))) X.length
  (by
   intro acc _
   apply Ev.step
   ·intro k; rw [ac.l0, if_neg (by omega)]
   ·rw [b7]; exact Ev.now _)
  (by
   intro i hi ih acc ha; have ihs := fun y (hy : y = insO X[i] acc) => ih y (by subst hy; have := fK X[i] acc; omega)
   rw [bN X i hi]; have h1 := down (P := fun j => Ev (fun k => ac.l1 k X acc (i : Int) (j : Int)) (cn (acc.take j ++ insO X[i] (acc.drop j)) (X.drop (i + 1)))) acc.length
    (by
     rw [List.take_length, b7]; have hr := ih (acc ++ [X[i]]) (by rw [List.length_append, List.length_singleton]; omega)
     apply Ev.step
     ·intro k; rw [ac.l1, if_neg (by omega), bI hi (by omega)]
     ·simp only [Option.bind_some, Int.toNat_natCast, List.drop_length, List.take_length, List.nil_append, List.append_nil, List.length_nil, List.length_append, List.length_singleton]; refine Ev.ifp (by omega) (Ev.ifp (by omega) (Ev.ifp (by omega) (Ev.ifp (by omega) (Ev.ifp (by omega) (Ev.ifp (by omega) (Ev.ifp (by omega) ?_)))))); rw [aY X i hi]; exact hr)
    (by
     intro j hj ihj
     apply Ev.step
     ·intro k; rw [ac.l1, if_pos (by omega), if_pos (by omega), if_pos (by omega), if_pos (by omega), aY acc j hj, aY X i hi, bI hi (by omega), bI hj (by omega)]
     ·rw [bN acc j hj]; simp only [insO]; by_cases hlt : acc[j] < X[i]
      ·rw [if_pos hlt]; refine Ev.ifp hlt ?_; rw [cZ acc j hj, List.append_assoc, List.singleton_append] at ihj; exact ihj
      ·rw [if_neg hlt]; refine Ev.ifn hlt ?_; by_cases heq : acc[j] = X[i]
       ·rw [if_pos heq]; refine Ev.ifp heq ?_; rw [← bN acc j hj, List.take_append_drop]; exact ih acc (by omega)
       ·rw [if_neg heq]; refine Ev.ifn heq ?_; have hr := ih (acc.take j ++ X[i] :: acc[j] :: acc.drop (j + 1)) (by
         rw [List.length_append, List.length_cons, List.length_cons, List.length_take, List.length_drop]; omega)
        simp only [Option.bind_some, Int.toNat_natCast, List.nil_append, List.length_nil]; refine Ev.ifp (by omega) (Ev.ifp (by rw [List.length_drop]; omega) (Ev.ifp (by rw [List.length_take]; omega) (Ev.ifp (by rw [List.length_append, List.length_singleton, List.length_take, List.length_drop]; omega) ?_))); rw [bN acc j hj, List.append_assoc, List.singleton_append]; exact hr)
   apply Ev.step
   ·intro k; rw [ac.l0, if_pos (by omega)]
   ·have h0 := h1; rw [List.take_zero, List.drop_zero, List.nil_append] at h0
    show Ev _ (cn acc (X[i] :: X.drop (i + 1)))
    exact h0)
 exact hd [] (Nat.zero_le _)
theorem fJ (X : List Int) : eW X = cn [] X :=
 fB (eh X).1 (gv X [] List.Pairwise.nil) (fun a => by rw [(eh X).2 a, ii]; simp)
theorem eQ (X : List Int) : ∀ acc : List Int, (cn acc X).length ≤ acc.length + X.length := by
 induction X with
 | nil => intro acc; exact Nat.le_refl _
 | cons x X ih =>
  intro acc; have h1 := ih (insO x acc); have h2 := fK x acc; rw [List.length_cons]
  show (cn (insO x acc) X).length ≤ _
  omega
theorem eo (w : List Int) (L : List Nat) (hw : w.length ≤ 17592186044416) (hl : L.length ≤ 8796093022208) (hm : ∀ x ∈ w, 0 ≤ x ∧ x < 8) (hL : ∀ b ∈ L, b < 256) : Ev (fun k => a8.f k w (ints L)) (cn [] (ints (L.map (bT w)))) := by
 have hd := down (P := fun i => Ev (fun k => a8.l0 k w (ints L) (ints ((L.take i).map (bT w))) (i : Int)) (cn [] (ints (L.map (bT w))))) L.length
  (by
   apply Ev.step
   ·intro k; rw [a8.l0, if_neg (by rw [aG]; omega)]
   ·rw [List.take_length]; exact Ev.bind (fA _ (by rw [aG, List.length_map]; exact hl)) (Ev.now _))
  (by
   intro i hi ih; have hb := hL _ (List.getElem_mem hi)
   apply Ev.step
   ·intro k; rw [a8.l0, if_pos (by rw [aG]; omega), if_pos (by omega), dq L i hi, bI hi (by omega)]
   ·refine Ev.bind (fl w _ hw hm hb) (Ev.ifp ?_ ?_)
    ·rw [aG, List.length_map, List.length_take]; omega
    ·rw [cZ L i hi, List.map_append] at ih; rw [show ints ((L.take i).map (bT w)) ++ [((bT w L[i] : Nat) : Int)] = ints ((L.take i).map (bT w) ++ [L[i]].map (bT w)) from by simp [ints]]; exact ih)
 exact hd
theorem eJ (n : Int) (w : List Int) (L : List Nat) (hl : L.length ≤ 8796093022208) (h8 : w.length ≤ 8) (hm : ∀ x ∈ w, 0 ≤ x ∧ x < 8) (hL : ∀ b ∈ L, b < 2 ^ w.length) : Ev (fun k => ax.f k n (ints L) w) (n, cn [] (ints (L.map (bT w)))) := by
 have hd := down (P := fun i => Ev (fun k => ax.l0 k w (ints L) ((ints L).length : Int) (i : Int) n (ints ((L.take i).map (bT w)))) (n, cn [] (ints (L.map (bT w))))) L.length
  (by
   apply Ev.step
   ·intro k; rw [ax.l0, if_neg (by rw [aG]; omega)]
   ·rw [List.take_length]; refine Ev.cbind (a := cn [] (ints (L.map (bT w)))) ?_ (Ev.now _); unfold b9.f; rw [if_pos (by rw [aG, List.length_map]; omega), fJ])
  (by
   intro i hi ih; have hb := hL _ (List.getElem_mem hi)
   apply Ev.step
   ·intro k; rw [ax.l0, if_pos (by rw [aG]; omega), if_pos (by omega), if_pos (by rw [aG]; omega), dq L i hi, bI hi (by omega)]
   ·refine Ev.bind (eL w _ h8 hm hb) (Ev.ifp ?_ ?_)
    ·rw [aG, List.length_map, List.length_take]; omega
    ·rw [cZ L i hi, List.map_append] at ih; rw [show ints ((L.take i).map (bT w)) ++ [((bT w L[i] : Nat) : Int)] = ints ((L.take i).map (bT w) ++ [L[i]].map (bT w)) from by simp [ints]]; exact ih)
 exact hd
end Go.Proofs.Ytimkekeaeojpkaa.Q
namespace Go.Proofs.Ytimkekeaeojpkaa.Q
open Go Go.RowKit Go.Proofs.YtimkekeaeojpkaaW.PrintWords Go.Proofs.YtimkekeaeojpkaaW.PrintLast Go.Proofs.YtimkekeaeojpkaaW.PrintMore Go.Proofs.Ytimkekeaeojpkaa.Z
set_option linter.unusedVariables false
set_option linter.unusedSimpArgs false
theorem gq {l : List Int} {a b : Nat} : ∀ {es : List Nat}, cC l a b es = none → ∀ e ∈ es, dM l a b e = true := by
 intro es
 induction es with
 | nil => intro _ e he; simp at he
 | cons x es ih =>
  intro h e he; simp only [cC] at h; by_cases hx : dM l a b x = true
  ·rw [if_pos hx] at h; rcases List.mem_cons.1 he with rfl | he
   ·exact hx
   ·exact ih h e he
  ·rw [if_neg hx] at h; cases h
theorem gr {l : List Int} {a : Nat} : ∀ {bs : List Nat}, cI l a bs = none → ∀ b ∈ bs, cC l a b (els (dif a b)) = none := by
 intro bs
 induction bs with
 | nil => intro _ e he; simp at he
 | cons x bs ih =>
  intro h b hb; simp only [cI] at h; cases hx : cC l a x (els (dif a x)) with
  | none =>
   rw [hx] at h; rcases List.mem_cons.1 hb with rfl | hb
   ·exact hx
   ·exact ih h b hb
  | some e => rw [hx] at h; cases h
theorem gy {l : List Int} {L : List Nat} : ∀ {la : List Nat}, cT l L la = none → ∀ a ∈ la, cI l a L = none := by
 intro la
 induction la with
 | nil => intro _ e he; simp at he
 | cons x la ih =>
  intro h b hb; simp only [cT] at h; cases hx : cI l x L with
  | none =>
   rw [hx] at h; rcases List.mem_cons.1 hb with rfl | hb
   ·exact hx
   ·exact ih h b hb
  | some e => rw [hx] at h; cases h
theorem ints_mem {L : List Nat} {x : Nat} : (ints L).contains (x : Int) = true ↔ x ∈ L := by
 rw [List.contains_iff_mem]; unfold ints; rw [List.mem_map]
 constructor
 ·rintro ⟨y, hy, he⟩; have : y = x := by omega
  subst this; exact hy
 ·intro h; exact ⟨x, h, rfl⟩
theorem dx {n : Int} {l : List Int} (h : matB n l = true) : ∃ (m : Nat) (L : List Nat), n = m ∧ l = ints L ∧ Mat m L ∧ L.Pairwise (· < ·) := by
 have h0 := h; obtain ⟨m, L, rfl, hm, rfl, hL, hL256, hp, hne⟩ := dw h; refine ⟨m, L, rfl, rfl, ⟨hm, hL, hne, ?_⟩, hp⟩; simp only [matB, Bool.and_eq_true] at h0; obtain ⟨hf, _, hff⟩ := h0; unfold e4 at hff; rw [if_pos hf, show (ints L).map Int.toNat = L from cg L] at hff; cases hA : cT (ints L) L L with
 | some x => rw [hA] at hff; simp [told] at hff
 | none =>
  intro a ha b hb e he hae hbe; have h1 := gq (gr (gy hA a ha) b hb) e (ff.2 ⟨he, by rw [dC, hae, hbe]; rfl⟩); unfold dM at h1; obtain ⟨f, hf', hc⟩ := List.any_eq_true.1 h1; obtain ⟨hf8, hfb⟩ := ff.1 hf'; rw [dC] at hfb; simp only [Bool.and_eq_true, Bool.not_eq_true'] at hfb; exact ⟨f, hf8, hfb.1, hfb.2, ints_mem.1 hc⟩
end Go.Proofs.Ytimkekeaeojpkaa.Q
namespace Go.Proofs.Ytimkekeaeojpkaa.Q
open Go Go.RowKit Go.Proofs.Ytimkekeaeojpkaa.A Go.Proofs.YtimkekeaeojpkaaW.PrintWords Go.Proofs.YtimkekeaeojpkaaW.PrintLast Go.Proofs.YtimkekeaeojpkaaW.PrintMore Go.Proofs.Ytimkekeaeojpkaa.Z
set_option linter.unusedVariables false
set_option linter.unusedSimpArgs false
theorem fL {e : Nat} (he : e < 8) : IntKind.i64.wrap (2 ^ e) = ((2 ^ e : Nat) : Int) := by
 have h2 : (2 ^ e : Nat) < 9223372036854775808 := by
  have := Nat.pow_lt_pow_right (a := 2) (by decide) (show e < 63 by omega)
  simpa using this
 have h3 : (2 : Int) ^ e = ((2 ^ e : Nat) : Int) := by simp
 rw [h3]; exact cP h2
theorem iL (l : List Int) (hl : l.length ≤ 17592186044416) (a e f : Nat) (ha : a < 256) (he : e < 8) (hf : f < 8) : Ev (fun k => ah.c k l (a : Int) (e : Int) (f : Int)) (l.contains ((dif a (2 ^ e) ||| 2 ^ f : Nat) : Int)) := by
 unfold ah.c bV.f; refine Ev.ifp (by omega) (Ev.ifp (by omega) ?_); have hp : ∀ x < 8, 2 ^ x < 2 ^ 63 := fun x hx => Nat.pow_lt_pow_right (by decide) (by omega)
 rw [Int.toNat_natCast, Int.toNat_natCast, fL he, fL hf, dn (bM ha) (hp e he), go (bM (gn ha)) (hp f hf)]; exact Ev.bind (dR l _ hl) (Ev.now _)
theorem iv {s e : Nat} (h : e ∈ els s) : e < 8 := (ff.1 h).1
theorem any_map (p : Int → Bool) (L : List Nat) : (L.map (fun x : Nat => (x : Int))).any p = L.any (fun x => p (x : Int)) := by
 rw [List.any_map]; rfl
theorem fu (l : List Int) (hl : l.length ≤ 17592186044416) (a b : Nat) (ha : a < 256) (hb : b < 256) : ∀ es : List Nat, (∀ e ∈ es, e < 8) → Ev (fun k => ah.l2 k l (a : Int) (b : Int) (es.map (fun x : Nat => (x : Int)))) ((cC l a b es).map (fun x : Nat => (x : Int))) := by
 intro es
 induction es with
 | nil => intro _; exact Ev.now _
 | cons e es ih =>
  intro hm; have he := hm e (List.mem_cons_self ..); simp only [List.map_cons, ah.l2]; rw [dn (bM hb) (bM ha)]; refine Ev.bind (ct _) ?_; rw [ee (gn hb)]; refine Ev.bind (a := dM l a b e) ?_ ?_
  ·have h := ja (g := fun k f => ah.c k l (a : Int) (e : Int) f) (p := fun f => l.contains ((dif a (2 ^ e) ||| 2 ^ f.toNat : Nat) : Int)) (l := (els (dif b a)).map (fun x : Nat => (x : Int)))
    (fun x hx => by
     obtain ⟨f, hf, rfl⟩ := List.mem_map.1 hx; have := iL l hl a e f ha he (iv hf); rw [Int.toNat_natCast]; exact this)
   rw [any_map] at h; simp only [Int.toNat_natCast] at h; exact h
  ·simp only [cC]; by_cases hx : dM l a b e = true
   ·refine Ev.ifp hx ?_; rw [if_pos hx]; exact ih (fun e' he' => hm e' (List.mem_cons_of_mem _ he'))
   ·refine Ev.ifn hx ?_; rw [if_neg hx]; exact Ev.now _
theorem fE (l : List Int) (hl : l.length ≤ 17592186044416) (a : Nat) (ha : a < 256) : ∀ bs : List Nat, (∀ b ∈ bs, b < 256) → Ev (fun k => ah.l1 k l (a : Int) (bs.map (fun x : Nat => (x : Int)))) ((cI l a bs).map (fun x : Nat × Nat => ((x.1 : Int), (x.2 : Int)))) := by
 intro bs
 induction bs with
 | nil => intro _; exact Ev.now _
 | cons b bs ih =>
  intro hm; have hb := hm b (List.mem_cons_self ..); simp only [List.map_cons, ah.l1]; rw [dn (bM ha) (bM hb)]; refine Ev.bind (ct _) ?_; rw [ee (gn ha)]; refine Ev.bind (fu l hl a b ha hb _ (fun e he => iv he)) ?_; simp only [cI]; cases cC l a b (els (dif a b)) with
  | none => exact ih (fun b' hb' => hm b' (List.mem_cons_of_mem _ hb'))
  | some e => exact Ev.now _
theorem fM (l : List Int) (L : List Nat) (hlL : l = L.map (fun x : Nat => (x : Int))) (hl : l.length ≤ 17592186044416) (hL : ∀ b ∈ L, b < 256) : ∀ la : List Nat, (∀ a ∈ la, a < 256) → Ev (fun k => ah.l0 k l (la.map (fun x : Nat => (x : Int)))) ((cT l L la).map (fun x : Nat × Nat × Nat => ((x.1 : Int), (x.2.1 : Int), (x.2.2 : Int)))) := by
 intro la
 induction la with
 | nil => intro _; exact Ev.now _
 | cons a la ih =>
  intro hm; have ha := hm a (List.mem_cons_self ..); simp only [List.map_cons, ah.l0]; refine Ev.bind (a := (cI l a L).map (fun x : Nat × Nat => ((x.1 : Int), (x.2 : Int)))) (by
   have := fE l hl a ha L hL; rw [← hlL] at this; exact this) ?_
  simp only [cT]; cases cI l a L with
  | none => exact ih (fun a' ha' => hm a' (List.mem_cons_of_mem _ ha'))
  | some x => exact Ev.now _
theorem fS (n : Int) (l : List Int) (hl : l.length ≤ 17592186044416) : Ev (fun k => ah.f k n l) (e4 n l) := by
 unfold ah.f e4; refine Ev.bind (eH n l hl) ?_; by_cases hf : famB n l = true
 ·refine Ev.ifp hf ?_; rw [if_pos hf]; obtain ⟨m, L, rfl, hm, hlL, hL, _⟩ := eD hf; have hmap : l.map Int.toNat = L := by rw [hlL, cg]
  have h256 : ∀ b ∈ L, b < 256 := fun b hb => Nat.lt_of_lt_of_le (hL b hb) (b1 hm)
  have h := fM l L hlL hl h256 L h256; rw [← hlL] at h; refine Ev.bind h ?_; rw [hmap]; cases cT l L L with
  | none => exact Ev.now _
  | some x => exact Ev.now _
 ·refine Ev.ifn hf ?_; rw [if_neg hf]; exact Ev.now _
theorem ew (n : Int) (l : List Int) (hl : l.length ≤ 17592186044416) : Ev (fun k => aV.f k n l) (matB n l) := by
 unfold aV.f matB; refine Ev.bind (fS n l hl) (Ev.bind (eH n l hl) ?_); by_cases hf : famB n l = true
 ·refine Ev.ifp hf ?_; rw [hf, Bool.true_and]; by_cases h0 : (l.length : Int) > 0
  ·refine Ev.ifp h0 ?_; rw [show decide ((l.length : Int) > 0) = true from by simpa using h0, Bool.true_and]; exact Ev.now _
  ·refine Ev.ifn h0 ?_; rw [show decide ((l.length : Int) > 0) = false from by simpa using h0, Bool.false_and]; exact Ev.now _
 ·refine Ev.ifn hf ?_; rw [Bool.eq_false_iff.2 hf, Bool.false_and]; exact Ev.now _
end Go.Proofs.Ytimkekeaeojpkaa.Q
namespace Go.Proofs.Ytimkekeaeojpkaa.Q
open Go Go.RowKit Go.Proofs.YtimkekeaeojpkaaW.PrintWords Go.Proofs.YtimkekeaeojpkaaW.PrintLast Go.Proofs.YtimkekeaeojpkaaW.PrintMore Go.Proofs.Ytimkekeaeojpkaa.Z
set_option linter.unusedVariables false
set_option linter.unusedSimpArgs false
def canT (L p : List Nat) : List Int := cn [] (ints (L.map (bT (ints p))))
structure Part (m : Nat) (p : List Nat) (d : Nat) : Prop where
 nodup : p.Nodup
 lt : ∀ e ∈ p, e < m
 len : p.length + d = m
theorem Part.next {m d : Nat} {p : List Nat} (h : Part m p (d + 1)) {e : Nat} (he : e < m) (hn : ¬ e ∈ p) : Part m (p ++ [e]) d := by
 refine ⟨?_, ?_, ?_⟩
 ·rw [List.nodup_append]; refine ⟨h.nodup, by simp, ?_⟩; intro a ha b hb; rw [List.mem_singleton] at hb; subst hb; rintro rfl; exact hn ha
 ·intro x hx; rcases List.mem_append.1 hx with hx | hx
  ·exact h.lt x hx
  ·rw [List.mem_singleton.1 hx]; exact he
 ·have := h.len; rw [List.length_append, List.length_singleton]; omega
end Go.Proofs.Ytimkekeaeojpkaa.Q
namespace Go.Proofs.Ytimkekeaeojpkaa.Q
open Go Go.RowKit Go.Proofs.Ytimkekeaeojpkaa.A Go.Proofs.YtimkekeaeojpkaaW.PrintWords Go.Proofs.YtimkekeaeojpkaaW.PrintLast Go.Proofs.YtimkekeaeojpkaaW.PrintMore Go.Proofs.Ytimkekeaeojpkaa.Z
set_option linter.unusedVariables false
set_option linter.unusedSimpArgs false
def degN (L : List Nat) (e : Nat) : Nat := (L.map (fun b => bt1 b e)).sum
def upI (X : List Int) : List Int := X.mergeSort (fun x y => decide (x ≤ y))
def degV (n : Nat) (f : Nat → Nat) : List Int := (List.range n).map (fun e => (f e : Int))
def sigB (n : Int) (l : List Int) : List Int := if matB n l = true then upI (degV n.toNat (degN (l.map Int.toNat))) else []
theorem dG (X : List Int) : (upI X).Perm X := List.mergeSort_perm _ _
theorem ez (X : List Int) : (upI X).Pairwise (fun a b => a ≤ b) := by
 have h := List.pairwise_mergeSort (le := fun x y : Int => decide (x ≤ y)) (fun a b c h1 h2 => by simp only [decide_eq_true_eq] at *; omega) (fun a b => by simp only [Bool.or_eq_true, decide_eq_true_eq]; omega) X; exact h.imp (fun h => of_decide_eq_true h)
theorem e8 {X Y : List Int} (h : X.Perm Y) (hX : X.Pairwise (fun a b => a ≤ b)) (hY : Y.Pairwise (fun a b => a ≤ b)) : X = Y :=
 List.Perm.eq_of_pairwise (fun a b _ _ h1 h2 => by omega) hX hY h
theorem cA (n : Nat) (f : Nat → Nat) : (degV n f).length = n := by simp [degV]
theorem upI_len (X : List Int) : (upI X).length = X.length := (dG X).length_eq
theorem iF (n : Int) (l : List Int) : (sigB n l).length ≤ 256 := by
 unfold sigB; by_cases h : matB n l = true
 ·rw [if_pos h, upI_len, cA]; obtain ⟨m, L, rfl, hm, _⟩ := dw h; omega
 ·rw [if_neg h]; exact Nat.zero_le _
theorem gF (b e : Nat) : bt1 b e ≤ 1 := by
 unfold bt1; by_cases h : b.testBit e = true
 ·rw [if_pos h]; omega
 ·rw [if_neg h]; omega
theorem iW (e : Nat) (L : List Nat) : degN L e ≤ L.length := by
 unfold degN
 induction L with
 | nil => exact Nat.le_refl _
 | cons b L ih =>
  rw [List.map_cons, List.sum_cons, List.length_cons]; have := gF b e; omega
theorem gW (L : List Nat) (b e : Nat) : degN (L ++ [b]) e = degN L e + bt1 b e := by
 simp [degN]
theorem i9 {b e : Nat} (hb : b < 2 ^ 63) : Go.bits .and .i64 (shr .i64 (b : Int) (e : Int)) 1 = (bt1 b e : Int) := by
 have h := @iD b e hb; rw [gI hb] at h ⊢; have hs : b >>> e < 2 ^ 63 := by
  rw [Nat.shiftRight_eq_div_pow]; exact Nat.lt_of_le_of_lt (Nat.div_le_self _ _) hb
 have e1 := gL (b := 1) hs (by decide); rw [show ((1 : Nat) : Int) = 1 from rfl] at e1; rw [e1] at h ⊢; rw [Nat.and_one_is_mod] at h ⊢; unfold bt1; by_cases hc : b.testBit e = true
 ·rw [if_pos hc]; have := h.2 hc; omega
 ·rw [if_neg hc]; have : ¬ (((b >>> e % 2 : Nat) : Int) = 1) := fun h' => hc (h.1 h')
  omega
theorem dz (n : Int) (L : List Nat) (e : Nat) (hl : L.length ≤ 17592186044416) (hL : ∀ b ∈ L, b < 256) : Ev (fun k => az.f k n (ints L) (e : Int)) (degN L e : Int) := by
 have h := down (P := fun i => ∀ c : Nat, c ≤ i → Ev (fun k => az.l0 k (e : Int) (c : Int) (ints L) ((ints L).length : Int) (i : Int)) ((c + degN (L.drop i) e : Nat) : Int)) L.length
  (by
   intro c _
   apply Ev.step
   ·intro k; simp only [az.l0]; rw [if_neg (by rw [aG]; omega)]
   ·rw [b7]; exact Ev.now _)
  (by
   intro i hi ih c hc; have hb := hL _ (List.getElem_mem hi); have h1 := gF L[i] e
   apply Ev.step
   ·intro k; simp only [az.l0]; rw [if_pos (by rw [aG]; omega), if_pos (by omega), if_pos (by rw [aG]; omega), if_pos (by omega), dq L i hi, i9 (bM hb), bu (by omega) (by omega), bI hi hl]
   ·rw [bN L i hi]; have := ih (c + bt1 L[i] e) (by omega); rw [show degN (L[i] :: L.drop (i + 1)) e = bt1 L[i] e + degN (L.drop (i + 1)) e from by unfold degN; rw [List.map_cons, List.sum_cons], ← Nat.add_assoc]; rw [show ((c + bt1 L[i] e : Nat) : Int) = (c : Int) + (bt1 L[i] e : Int) from by omega] at this; exact this)
 have := h 0 (Nat.le_refl _); rw [List.drop_zero, Nat.zero_add] at this; exact this
theorem i7 (n : Nat) (f : Nat → Nat) (j : Nat) (hj : j < n) : rd (degV n f) (j : Int) = (f j : Int) := by
 rw [aY _ j (by rw [cA]; exact hj)]; simp [degV]
theorem iz (n : Nat) (f : Nat → Nat) (j x : Nat) : (degV n f).set j (x : Int) = degV n (fun e => if e = j then x else f e) := by
 apply List.ext_getElem
 ·simp [degV]
 ·intro i h1 h2; rw [List.getElem_set]; by_cases h : j = i
  ·subst h; simp [degV]
  ·rw [if_neg h]; simp [degV, Ne.symm h]
theorem dm (n : Nat) (hn : n ≤ 8) (L : List Nat) (hl : L.length ≤ 8796093022208) (hL : ∀ b ∈ L, b < 256) : Ev (fun k => aj.f k (n : Int) (ints L)) (degV n (degN L)) := by
 have hd := down (P := fun i => Ev (fun k => aj.l0 k (degV n (degN (L.take i))) (i : Int) (n : Int) (ints L)) (degV n (degN L))) L.length
  (by
   apply Ev.step
   ·intro k; rw [aj.l0, if_neg (by rw [aG]; omega)]
   ·rw [List.take_length]; exact Ev.now _)
  (by
   intro i hi ih; have hb := hL _ (List.getElem_mem hi)
   apply Ev.step
   ·intro k; rw [aj.l0, if_pos (by rw [aG]; omega)]
   ·have h1 := down (P := fun j => Ev (fun k => aj.l1 k (degV n (fun e => degN (L.take i) e + (if e < j then bt1 L[i] e else 0))) (i : Int) (j : Int) (n : Int) (ints L)) (degV n (degN L))) n
     (by
      apply Ev.step
      ·intro k; rw [aj.l1, if_neg (by omega), bI hi (by omega)]
      ·have e1 : degV n (fun e => degN (L.take i) e + (if e < n then bt1 L[i] e else 0)) = degV n (degN (L.take (i + 1))) := by
        unfold degV
        apply List.map_congr_left
        intro e he
        dsimp only
        rw [if_pos (List.mem_range.1 he), cZ L i hi, gW]
       rw [e1]; exact ih)
     (by
      intro j hj ihj; have hdl := iW j (L.take i); have htl : (L.take i).length ≤ L.length := by simp; omega
      have hbl := gF L[i] j
      apply Ev.step
      ·intro k; rw [aj.l1, if_pos (by omega), if_pos (by omega), if_pos (by rw [cA]; omega), if_pos (by omega), if_pos (by rw [aG]; omega), dq L i hi, cL (bM hb) (by omega), Option.bind_some, i7 n _ j hj, bI hj (by omega)]
      ·refine Ev.cbind (a := (bt1 L[i] j : Int)) ?_ ?_
       ·unfold cx.f bt1; by_cases hc : L[i].testBit j = true
        ·rw [hc]; rfl
        ·rw [Bool.eq_false_iff.2 hc]; rfl
       ·rw [if_neg (Nat.lt_irrefl j), Nat.add_zero, bu (by omega) (by omega), Int.toNat_natCast]; have e2 : ((degN (L.take i) j : Nat) : Int) + (bt1 L[i] j : Int) = ((degN (L.take i) j + bt1 L[i] j : Nat) : Int) := by omega
        rw [e2, iz]; have e3 : (fun e => if e = j then degN (L.take i) j + bt1 L[i] j else degN (L.take i) e + (if e < j then bt1 L[i] e else 0)) = (fun e => degN (L.take i) e + (if e < j + 1 then bt1 L[i] e else 0)) := by
         funext e
         by_cases h : e = j
         ·subst h; rw [if_pos rfl, if_pos (by omega)]
         ·rw [if_neg h]; by_cases h' : e < j
          ·rw [if_pos h', if_pos (by omega)]
          ·rw [if_neg h', if_neg (by omega)]
        rw [e3]; exact ihj)
    have e0 : degV n (fun e => degN (L.take i) e + (if e < 0 then bt1 L[i] e else 0)) = degV n (degN (L.take i)) := by
     unfold degV
     apply List.map_congr_left
     intro e _
     dsimp only
     rw [if_neg (Nat.not_lt_zero e), Nat.add_zero]
    rw [e0] at h1; exact h1)
 unfold aj.f; refine Ev.ifp (by omega) (Ev.ifp (by omega) ?_); have e0 : List.replicate ((n : Int)).toNat (0 : Int) = degV n (degN (L.take 0)) := by
  rw [Int.toNat_natCast]; unfold degV degN; simp only [List.take_zero, List.map_nil, List.sum_nil]; rw [List.map_const', List.length_range]
  rfl
 rw [e0]; exact hd
def putI (x : Int) (l : List Int) : Nat → List Int
 | 0 => x :: l
 | p + 1 => if l.getD p 0 > x then putI x l p else l.take (p + 1) ++ x :: l.drop (p + 1)
theorem g7 (x : Int) (l : List Int) : ∀ p, (putI x l p).Perm (x :: l) := by
 intro p
 induction p with
 | zero => exact List.Perm.refl _
 | succ p ih =>
  rw [putI]; by_cases h : l.getD p 0 > x
  ·rw [if_pos h]; exact ih
  ·rw [if_neg h]; have := @List.perm_middle _ x (l.take (p + 1)) (l.drop (p + 1)); rw [List.take_append_drop] at this; exact this
theorem g5 (x : Int) (l : List Int) (hl : l.Pairwise (fun a b => a ≤ b)) : ∀ p, p ≤ l.length → (∀ i (h : i < l.length), p ≤ i → x ≤ l[i]) → (putI x l p).Pairwise (fun a b => a ≤ b) := by
 intro p
 induction p with
 | zero =>
  intro _ h; rw [putI, List.pairwise_cons]; refine ⟨fun a ha => ?_, hl⟩; obtain ⟨i, hi, rfl⟩ := List.mem_iff_getElem.1 ha; exact h i hi (Nat.zero_le _)
 | succ p ih =>
  intro hp h; have hpl : p < l.length := by omega
  have hg : l.getD p 0 = l[p] := by simp [hpl]
  rw [putI, hg]; by_cases hc : l[p] > x
  ·rw [if_pos hc]; refine ih (by omega) (fun i hi hpi => ?_); by_cases he : i = p
   ·subst he; omega
   ·exact h i hi (by omega)
  ·rw [if_neg hc]; have hg := List.pairwise_iff_getElem.1 hl; have hl2 := hl; rw [← List.take_append_drop (p + 1) l, List.pairwise_append] at hl2; rw [List.pairwise_append, List.pairwise_cons]; refine ⟨hl2.1, ⟨fun a ha => ?_, hl2.2.1⟩, fun a ha b hb => ?_⟩
   ·obtain ⟨i, hi, rfl⟩ := List.mem_iff_getElem.1 ha; rw [List.getElem_drop]; exact h _ _ (by omega)
   ·have hax : a ≤ x := by
     obtain ⟨i, hi, rfl⟩ := List.mem_iff_getElem.1 ha; rw [List.length_take] at hi; rw [List.getElem_take]; by_cases he : i = p
     ·subst he; omega
     ·have := hg i p (by omega) hpl (by omega); omega
    rcases List.mem_cons.1 hb with rfl | hb
    ·exact hax
    ·exact hl2.2.2 a ha b hb
def ordI (acc X : List Int) : List Int := X.foldl (fun a x => putI x a a.length) acc
theorem g8 (X : List Int) : ∀ acc, (ordI acc X).Perm (X ++ acc) := by
 induction X with
 | nil => intro acc; exact List.Perm.refl _
 | cons x X ih =>
  intro acc; refine (ih (putI x acc acc.length)).trans ?_; refine ((g7 x acc acc.length).append_left X).trans ?_; rw [List.cons_append]; exact List.perm_middle
theorem g9 (X : List Int) : ∀ acc, acc.Pairwise (fun a b => a ≤ b) → (ordI acc X).Pairwise (fun a b => a ≤ b) := by
 induction X with
 | nil => intro acc h; exact h
 | cons x X ih =>
  intro acc h; exact ih _ (g5 x acc h _ (Nat.le_refl _) (fun i hi hge => by omega))
theorem iS (X : List Int) : ordI [] X = upI X := by
 refine e8 ?_ (g9 X [] List.Pairwise.nil) (ez X); have h := g8 X []; rw [List.append_nil] at h; exact h.trans (dG X).symm
theorem eN (X : List Int) (hx : X.length ≤ 8796093022208) : Ev (fun k => af.f k X) (upI X) := by
 have hd := down (P := fun i => ∀ acc : List Int, acc.length ≤ i → Ev (fun k => af.l0 k X acc (i : Int)) (ordI acc (X.drop i))) X.length
  (by
   intro acc _
   apply Ev.step
   ·intro k; rw [af.l0, if_neg (by omega)]
   ·rw [b7]; exact Ev.now _)
  (by
   intro i hi ih acc ha; rw [bN X i hi]; have h1 : ∀ j : Nat, j ≤ acc.length → Ev (fun k => af.l1 k X acc (i : Int) (j : Int)) (ordI (putI X[i] acc j) (X.drop (i + 1))) := by
    intro j
    induction j with
    | zero =>
     intro _
     apply Ev.step
     ·intro k; rw [af.l1, if_neg (by omega), bI hi (by omega)]
     ·simp only [Option.bind_some, Int.toNat_natCast, List.drop_zero, List.take_zero, List.nil_append, List.length_nil, Int.ofNat_zero, Int.natCast_zero, Int.toNat_zero, List.length_singleton]; have hr := ih (X[i] :: acc) (by rw [List.length_cons]; omega); refine Ev.ifp (by omega) (Ev.ifp (by omega) (Ev.ifp (by omega) (Ev.ifp (by omega) (Ev.ifp (by omega) (Ev.ifp (by omega) (Ev.ifp (by omega) ?_)))))); rw [aY X i hi]; exact hr
    | succ j ihj =>
     intro hj; have hjl : j < acc.length := by omega
     have hw : wrap64 (((j + 1 : Nat) : Int) - 1) = (j : Int) := by rw [bu (by omega) (by omega)]; omega
     apply Ev.step
     ·intro k; rw [af.l1, if_pos (by omega), hw, if_pos (by omega), if_pos (by omega), if_pos (by omega), if_pos (by omega), aY acc j hjl, aY X i hi, bI hi (by omega)]
     ·have hg : acc.getD j 0 = acc[j] := by simp [hjl]
      rw [putI, hg]; by_cases hc : acc[j] > X[i]
      ·rw [if_pos hc]; exact Ev.ifp hc (ihj (by omega))
      ·rw [if_neg hc]; refine Ev.ifn hc ?_; have hr := ih (acc.take (j + 1) ++ X[i] :: acc.drop (j + 1)) (by
        have := (@List.perm_middle _ X[i] (acc.take (j + 1)) (acc.drop (j + 1))).length_eq; rw [List.take_append_drop] at this; rw [this, List.length_cons]; omega)
       simp only [Option.bind_some, Int.toNat_natCast, List.nil_append, List.length_nil, List.length_append, List.length_take, List.length_drop, List.length_singleton]; refine Ev.ifp (by omega) (Ev.ifp (by omega) (Ev.ifp (by omega) (Ev.ifp (by omega) (Ev.ifp (by omega) ?_)))); rw [List.append_assoc, List.singleton_append]; exact hr
   apply Ev.step
   ·intro k; rw [af.l0, if_pos (by omega)]
   ·exact h1 acc.length (Nat.le_refl _))
 have := hd [] (Nat.le_refl _); rw [List.drop_zero, iS] at this; exact this
theorem ev (n : Int) (l : List Int) (hl : l.length ≤ 8796093022208) : Ev (fun k => bt.f k n l) (sigB n l) := by
 unfold bt.f sigB; refine Ev.bind (dh n l (by omega)) ?_; by_cases h : matB n l = true
 ·rw [if_pos h]; obtain ⟨m, L, rfl, hm, rfl, _, h256, _⟩ := dw h; rw [aG] at hl; rw [show (ints L).map Int.toNat = L from cg L, Int.toNat_natCast]; exact Ev.ifp h (Ev.bind (dm m hm L hl h256) (Ev.bind (eN _ (by rw [cA]; omega)) (Ev.now _)))
 ·rw [if_neg h]; exact Ev.ifn h (Ev.now _)
theorem dA (X Y : List Int) (hl : X.length = Y.length) (i : Nat) (hi : i < X.length) : (X.drop i = Y.drop i) ↔ (X[i] = Y[i]'(by omega) ∧ X.drop (i + 1) = Y.drop (i + 1)) := by
 rw [List.drop_eq_getElem_cons hi, List.drop_eq_getElem_cons (show i < Y.length by omega), List.cons.injEq]
theorem fw (X Y : List Int) (hl : X.length ≤ 17592186044416) : Ev (fun k => bi.f k X Y) (decide (X = Y)) := by
 unfold bi.f; by_cases h : X.length = Y.length
 rotate_left
 ·rw [decide_eq_false (fun e => h (by rw [e]))]; exact Ev.ifn (by omega) (Ev.now _)
 refine Ev.ifp (by omega) ?_; have hd := down (P := fun i => Ev (fun k => bi.l0 k X Y (i : Int)) (decide (X.drop i = Y.drop i))) X.length
  (by
   rw [List.drop_length, h, List.drop_length]
   apply Ev.step
   ·intro k; rw [bi.l0, if_neg (by omega)]
   ·exact Ev.now _)
  (by
   intro i hi ih
   apply Ev.step
   ·intro k; rw [bi.l0, if_pos (by omega), if_pos (by omega), if_pos (by omega), aY X i hi, aY Y i (by omega), bI hi hl]
   ·by_cases hc : X[i] = Y[i]'(by omega)
    ·refine Ev.ifp hc ?_; rw [show decide (X.drop i = Y.drop i) = decide (X.drop (i + 1) = Y.drop (i + 1)) from by simp only [dA X Y h i hi, hc, true_and]]; exact ih
    ·rw [decide_eq_false (fun e => hc ((dA X Y h i hi).1 e).1)]; exact Ev.ifn hc (Ev.now _))
 exact hd
theorem ia (X Y : List Int) (hl : X.length ≤ 17592186044416) : Ev (fun k => al.f k X Y) (decide (X = Y)) := by
 unfold al.f; by_cases h : X.length = Y.length
 rotate_left
 ·rw [decide_eq_false (fun e => h (by rw [e]))]; exact Ev.ifn (by omega) (Ev.now _)
 refine Ev.ifp (by omega) ?_; have hd := down (P := fun i => Ev (fun k => al.l0 k X Y (X.length : Int) (i : Int)) (decide (X.drop i = Y.drop i))) X.length
  (by
   rw [List.drop_length, h, List.drop_length]
   apply Ev.step
   ·intro k; rw [al.l0, if_neg (by omega)]
   ·exact Ev.now _)
  (by
   intro i hi ih
   apply Ev.step
   ·intro k; rw [al.l0, if_pos (by omega), if_pos (by omega), if_pos (by omega), if_pos (by omega), aY X i hi, aY Y i (by omega), bI hi hl]
   ·by_cases hc : X[i] = Y[i]'(by omega)
    ·refine Ev.ifp hc ?_; rw [show decide (X.drop i = Y.drop i) = decide (X.drop (i + 1) = Y.drop (i + 1)) from by simp only [dA X Y h i hi, hc, true_and]]; exact ih
    ·rw [decide_eq_false (fun e => hc ((dA X Y h i hi).1 e).1)]; exact Ev.ifn hc (Ev.now _))
 exact hd
theorem eC {p : List Nat} {e j : Nat} (h : j < p.length) : (p ++ [e]).getD j 0 = p.getD j 0 := by
 rw [List.getD_eq_getElem?_getD, List.getElem?_append_left h, ← List.getD_eq_getElem?_getD]
theorem eu {p : List Nat} {e : Nat} : (p ++ [e]).getD p.length 0 = e := by
 rw [List.getD_eq_getElem?_getD, List.getElem?_append_right (Nat.le_refl _), Nat.sub_self]; rfl
def degA (L L2 p : List Nat) (i : Nat) : Bool := (List.range' i (p.length - i)).all (fun j => decide (degN L j = degN L2 (p.getD j 0)))
theorem ip (L L2 p : List Nat) : degA L L2 p p.length = true := by simp [degA]
theorem gX {L L2 p : List Nat} {i : Nat} (hi : i < p.length) : degA L L2 p i = (decide (degN L i = degN L2 (p.getD i 0)) && degA L L2 p (i + 1)) := by
 unfold degA; rw [show p.length - i = (p.length - (i + 1)) + 1 by omega, List.range'_succ, List.all_cons]
theorem degA_iff {L L2 p : List Nat} : degA L L2 p 0 = true ↔ ∀ j, j < p.length → degN L j = degN L2 (p.getD j 0) := by
 unfold degA; rw [List.all_eq_true, Nat.sub_zero]
 constructor
 ·intro h j hj; exact of_decide_eq_true (h j (List.mem_range'_1.2 ⟨Nat.zero_le _, by omega⟩))
 ·intro h j hj; have := (List.mem_range'_1.1 hj).2; exact decide_eq_true (h j (by omega))
theorem dH {L L2 p : List Nat} {e : Nat} : degA L L2 (p ++ [e]) 0 = (degA L L2 p 0 && decide (degN L p.length = degN L2 e)) := by
 rw [Bool.eq_iff_iff, Bool.and_eq_true, degA_iff, degA_iff, decide_eq_true_eq, List.length_append, List.length_singleton]
 constructor
 ·intro h; refine ⟨fun j hj => ?_, ?_⟩
  ·have := h j (by omega)
   rwa [eC hj] at this
  ·have := h p.length (by omega)
   rwa [eu] at this
 ·rintro ⟨h1, h2⟩ j hj; by_cases hc : j < p.length
  ·rw [eC hc]; exact h1 j hc
  ·obtain rfl : j = p.length := by omega
   rw [eu]; exact h2
def finF (L L2 : List Nat) (m : Nat) : Nat → List Nat → Option (List Nat)
 | 0, p => if degA L L2 p 0 = true ∧ canT L p = ints L2 then some p else none
 | d + 1, p => (List.range m).findSome? (fun e => if e ∈ p then none else finF L L2 m d (p ++ [e]))
theorem iU {L L2 : List Nat} {m : Nat} : ∀ (d : Nat) (p : List Nat), ¬ degA L L2 p 0 = true → finF L L2 m d p = none := by
 intro d
 induction d with
 | zero => intro p h; simp only [finF]; rw [if_neg (fun hc => h hc.1)]
 | succ d ih =>
  intro p h; simp only [finF]; rw [List.findSome?_eq_none_iff]; intro e _
  split
  ·rfl
  ·refine ih _ (fun hc => h ?_); rw [dH, Bool.and_eq_true] at hc; exact hc.1
theorem eT {L L2 : List Nat} {m : Nat} : ∀ (d : Nat) (p q : List Nat), Part m p d → finF L L2 m d p = some q → Part m q 0 ∧ degA L L2 q 0 = true ∧ canT L q = ints L2 := by
 intro d
 induction d with
 | zero =>
  intro p q hp h; simp only [finF] at h
  split at h
  ·cases h; exact ⟨hp, by assumption⟩
  ·cases h
 | succ d ih =>
  intro p q hp h; simp only [finF] at h; obtain ⟨e, he, h⟩ := List.exists_of_findSome?_eq_some h
  split at h
  ·cases h
  ·exact ih _ q (hp.next (List.mem_range.1 he) (by assumption)) h
theorem iZ {L L2 : List Nat} {m : Nat} (hl : L.length ≤ 17592186044416) (hl2 : L2.length ≤ 17592186044416) (hL : ∀ b ∈ L, b < 256) (hL2 : ∀ b ∈ L2, b < 256) (p : List Nat) (hp : p.length ≤ 8) : Ev (fun k => aq.d k (m : Int) (ints L) (m : Int) (ints L2) (ints p) 0) (degA L L2 p 0) := by
 have hd := down (P := fun i => Ev (fun k => aq.d k (m : Int) (ints L) (m : Int) (ints L2) (ints p) (i : Int)) (degA L L2 p i)) p.length
  (by
   rw [ip]
   apply Ev.step
   ·intro k; rw [aq.d, if_neg (by rw [aG]; omega)]
   ·exact Ev.now _)
  (by
   intro i hi ih
   apply Ev.step
   ·intro k; rw [aq.d, if_pos (by rw [aG]; omega), if_pos (by omega), dq p i hi, bI hi (by omega)]
   ·refine Ev.bind (dz _ L i hl hL) (Ev.bind (dz _ L2 p[i] hl2 hL2) ?_); rw [gX hi, show p.getD i 0 = p[i] from by rw [List.getD_eq_getElem?_getD, List.getElem?_eq_getElem hi]; rfl]; by_cases hc : degN L i = degN L2 p[i]
    ·rw [decide_eq_true hc, Bool.true_and]; exact Ev.ifp (by omega) ih
    ·rw [decide_eq_false hc, Bool.false_and]; exact Ev.ifn (by omega) (Ev.now _))
 exact hd
def finR : Option (List Nat) → (List Int × Bool) × Bool
 | some q => ((ints q, true), false)
 | none => (([], false), true)
theorem gu {m : Nat} {L L2 : List Nat} (hm : m ≤ 8) (hL : ∀ b ∈ L, b < 2 ^ m) (hL2 : ∀ b ∈ L2, b < 256) (hl : L.length ≤ 8796093022208) (hl2 : L2.length ≤ 8796093022208) : ∀ (d : Nat) (p : List Nat) (D : Nat), Part m p d → d < D → Ev (fun k => renO k (aq.g k (m : Int) (ints L) (m : Int) (ints L2)) (m : Int) D (ints p) (([] : List Int), false)) (finR (finF L L2 m d p)) := by
 have h256 := b1 hm; intro d
 induction d with
 | zero =>
  intro p D hp hD; obtain ⟨D, rfl⟩ : ∃ D', D = D' + 1 := ⟨D - 1, by omega⟩; have hlen := hp.len; have h8 : ∀ x ∈ ints p, 0 ≤ x ∧ x < 8 := by
   intro x hx; obtain ⟨y, hy, rfl⟩ := List.mem_map.1 hx; have := hp.lt y hy; omega
  have hT : (canT L p).length ≤ L.length := by
   have := eQ (ints (L.map (bT (ints p)))) []; rw [aG, List.length_map] at this; unfold canT
   simpa using this
  simp only [renO, finF]; refine Ev.ifp (by rw [aG]; omega) ?_; unfold aq.g; refine Ev.bind (iZ (by omega) (by omega) (fun b hb => by have := hL b hb; omega) hL2 p (by omega)) ?_; by_cases hx : degA L L2 p 0 = true
  ·refine Ev.ifp hx (Ev.bind (eJ (m : Int) (ints p) L hl (by rw [aG]; omega) h8 (by rw [aG, show p.length = m by omega]; exact hL)) ?_); unfold bg.f; refine Ev.bind (a := decide (canT L p = ints L2)) (Ev.ifp rfl (Ev.bind (ia (canT L p) (ints L2) (by omega)) (Ev.now _))) ?_; by_cases hc : canT L p = ints L2
   ·rw [show (if degA L L2 p 0 = true ∧ canT L p = ints L2 then some p else none) = some p from if_pos ⟨hx, hc⟩]; refine Ev.ifp (decide_eq_true hc) (Ev.ifp ⟨rfl, by simp only [List.length_nil]; rw [aG]; omega⟩ ?_); exact Ev.now _
   ·rw [show (if degA L L2 p 0 = true ∧ canT L p = ints L2 then some p else none) = none from if_neg (fun h => hc h.2)]; exact Ev.ifn (by rw [decide_eq_false hc]; decide) (Ev.now _)
  ·rw [show (if degA L L2 p 0 = true ∧ canT L p = ints L2 then some p else none) = none from if_neg (fun h => hx h.1)]; exact Ev.ifn hx (Ev.now _)
 | succ d ih =>
  intro p D hp hD; obtain ⟨D, rfl⟩ : ∃ D', D = D' + 1 := ⟨D - 1, by omega⟩; have hlen := hp.len; simp only [renO, finF]; refine Ev.ifn (by rw [aG]; omega) (Ev.ifp (by rw [aG]; omega) ?_); rw [Int.toNat_natCast]; have hd := down (P := fun i => Ev (fun k => renE k (renO k (aq.g k (m : Int) (ints L) (m : Int) (ints L2)) (m : Int) D) (ints p) (m - i) (i : Int) (([] : List Int), false)) (finR ((List.range' i (m - i)).findSome? (fun e => if e ∈ p then none else finF L L2 m d (p ++ [e]))))) m
   (by
    rw [Nat.sub_self]; simp only [renE, List.range'_zero, List.findSome?_nil]; exact Ev.now _)
   (by
    intro i hi ih2; rw [dv hi, List.findSome?_cons, show m - i = (m - (i + 1)) + 1 by omega]; simp only [renE]; refine Ev.bind (dR (ints p) (i : Int) (by rw [aG]; omega)) ?_; have ec : (ints p).contains (i : Int) = decide (i ∈ p) := by rw [Bool.eq_iff_iff, ints_mem, decide_eq_true_eq]
    rw [ec, show (i : Int) + 1 = ((i + 1 : Nat) : Int) from rfl]; by_cases hc : i ∈ p
    ·rw [if_pos hc]; exact Ev.ifp (decide_eq_true hc) ih2
    ·rw [if_neg hc]; refine Ev.ifn (by rw [decide_eq_false hc]; decide) ?_; rw [show ints p ++ [(i : Int)] = ints (p ++ [i]) from by simp [ints]]; refine Ev.bind (ih (p ++ [i]) D (hp.next hi hc) (by omega)) ?_; cases hf : finF L L2 m d (p ++ [i]) with
     | some q => exact Ev.ifn (by simp [finR]) (Ev.now _)
     | none => exact Ev.ifp rfl ih2)
  rw [Nat.sub_zero, ← List.range_eq_range'] at hd; exact hd
end Go.Proofs.Ytimkekeaeojpkaa.Q
