/- The pure side of the law FnSpecial: what the Lean functions of the print compute, and that the law holds of them. Conditions: those in each lemma. -/
import Derived.Test.YtimkekeaeojpkaaGreatMFnSpecial1
import Derived.Test.YtimkekeaeojpkaaGreatMFnSpecial2
import Derived.Test.YtimkekeaeojpkaaGreatMFnSpecial3
import Derived.Test.YtimkekeaeojpkaaGreatMFnSpecial4
import Derived.Test.YtimkekeaeojpkaaGreatMFnSpecial5
import Derived.Test.YtimkekeaeojpkaaGreatMFnSpecialq0
import Derived.Test.YtimkekeaeojpkaaGreatMFnSpecialq1
namespace Go.Proofs.YtimkekeaeojpkaaGreat.Q
open Go Go.RowKit Go.Proofs.YtimkekeaeojpkaaGreat.A Go.Proofs.YtimkekeaeojpkaaGreatW.PrintWords Go.Proofs.YtimkekeaeojpkaaGreatW.PrintLast Go.Proofs.YtimkekeaeojpkaaGreatW.PrintMore Go.Proofs.YtimkekeaeojpkaaGreat.Z
set_option linter.unusedVariables false
set_option linter.unusedSimpArgs false
def okJ (x : Nat) (pre : List Nat) : Bool := pre.all (fun t => decide (t &&& x = 0))
def okR : List Nat → List Nat → List Int → Bool
 | _, [], _ => true
 | _, _ :: _, [] => true
 | pre, x :: xs, y :: ys => (okJ x pre && decide (0 ≤ y)) && okR (pre ++ [x]) xs ys
theorem g1 : ∀ (S pre : List Nat) (Y : List Int), Y.length = S.length → okR pre S Y = true → (∀ y ∈ Y, 0 ≤ y) ∧ S.Pairwise (fun a b => a &&& b = 0) ∧ ∀ t ∈ pre, ∀ x ∈ S, t &&& x = 0 := by
 intro S
 induction S with
 | nil => intro pre Y hl _; rw [List.length_eq_zero_iff.1 hl]; simp
 | cons x S ih =>
  intro pre Y hl h; cases Y with
  | nil => simp at hl
  | cons y Y =>
   simp only [okR, Bool.and_eq_true, decide_eq_true_eq] at h; obtain ⟨⟨h1, h2⟩, h3⟩ := h; obtain ⟨k1, k2, k3⟩ := ih (pre ++ [x]) Y (by simpa using hl) h3; refine ⟨fun z hz => ?_, ?_, fun t ht z hz => ?_⟩
   ·rcases List.mem_cons.1 hz with rfl | hz
    ·exact h2
    ·exact k1 z hz
   ·rw [List.pairwise_cons]; exact ⟨fun z hz => k3 x (by simp) z hz, k2⟩
   ·rcases List.mem_cons.1 hz with rfl | hz
    ·have := List.all_eq_true.1 h1 t ht; exact of_decide_eq_true this
    ·exact k3 t (List.mem_append_left _ ht) z hz
theorem lV {t x : Nat} (ht : t < 256) (hx : x < 256) : (Go.bits .and .i64 (t : Int) (x : Int) = 0) ↔ t &&& x = 0 := by
 rw [eH (bR ht) (bR hx)]; omega
theorem mM {x : Nat} (hx : x < 256) : ∀ pre : List Nat, (∀ t ∈ pre, t < 256) → gI (x : Int) (ints pre) = okJ x pre := by
 intro pre
 induction pre with
 | nil => intro _; rfl
 | cons t pre ih =>
  intro h; have ih := ih (fun z hz => h z (List.mem_cons_of_mem _ hz)); have e := lV (h t (List.mem_cons_self ..)) hx
  show gI (x : Int) ((t : Int) :: ints pre) = _
  unfold okJ at ih ⊢; simp only [gI, List.all_cons]; by_cases hc : t &&& x = 0
  ·rw [if_neg (fun hn => hn (e.2 hc)), ih, decide_eq_true hc, Bool.true_and]
  ·rw [if_pos (fun hn => hc (e.1 hn)), decide_eq_false hc, Bool.false_and]
theorem mP : ∀ (S pre : List Nat) (Y : List Int), Y.length = S.length → (∀ t ∈ pre, t < 256) → (∀ t ∈ S, t < 256) → ie (ints pre) (ints S) Y = some (okR pre S Y) := by
 intro S
 induction S with
 | nil => intro pre Y hl _ _; rfl
 | cons x S ih =>
  intro pre Y hl hp hS; cases Y with
  | nil => simp at hl
  | cons y Y =>
   have hx := hS x (List.mem_cons_self ..); have ih := ih (pre ++ [x]) Y (by simpa using hl) (fun t ht => by
    rcases List.mem_append.1 ht with ht | ht
    ·exact hp t ht
    ·rw [List.mem_singleton.1 ht]; exact hx) (fun t ht => hS t (List.mem_cons_of_mem _ ht))
   show ie (ints pre) ((x : Int) :: ints S) (y :: Y) = _
   simp only [ie, okR]; rw [mM hx pre hp]; by_cases hy : y < 0
   ·rw [if_pos hy, decide_eq_false (by omega), Bool.and_false, Bool.false_and]
   ·rw [if_neg hy, decide_eq_true (show (0 : Int) ≤ y by omega), Bool.and_true]; by_cases hj : okJ x pre = true
    ·rw [if_pos hj, hj, Bool.true_and, show ints pre ++ [(x : Int)] = ints (pre ++ [x]) from by simp [ints]]; exact ih
    ·rw [if_neg hj, Bool.eq_false_iff.2 hj, Bool.false_and]
def prL (S : List Nat) (Y : List Int) : List (Nat × Nat) := S.zip (Y.map Int.toNat)
def fewB (m : Nat) (ps : List (Nat × Nat)) (s : Nat) : Bool := decide (s < 2 ^ m) && ps.all (fun p => decide (pc (p.1 &&& s) ≤ p.2))
theorem jo (m : Nat) (ps : List (Nat × Nat)) (s : Nat) : fewB m ps s = true ↔ Few m ps s := by
 unfold fewB Few; rw [Bool.and_eq_true, decide_eq_true_eq, List.all_eq_true]; simp only [decide_eq_true_eq]
theorem iO {S : List Nat} {Y : List Int} (hl : Y.length = S.length) (h : S.Pairwise (fun a b => a &&& b = 0)) : (prL S Y).Pairwise (fun p q => p.1 &&& q.1 = 0) := by
 have e : (prL S Y).map Prod.fst = S := by unfold prL; rw [List.map_fst_zip]; rw [List.length_map]; omega
 rw [← e, List.pairwise_map] at h; exact h
theorem mK {s : Nat} (hs : s < 256) : ∀ (S : List Nat) (Y : List Int), Y.length = S.length → (∀ t ∈ S, t < 256) → (∀ y ∈ Y, 0 ≤ y) → fI (ints S) Y (s : Int) = some ((prL S Y).all (fun p => decide (pc (p.1 &&& s) ≤ p.2))) := by
 intro S
 induction S with
 | nil => intro Y hl _ _; rfl
 | cons x S ih =>
  intro Y hl hS hY; cases Y with
  | nil => simp at hl
  | cons y Y =>
   have hx := hS x (List.mem_cons_self ..); have hy := hY y (List.mem_cons_self ..); have ih := ih Y (by simpa using hl) (fun t ht => hS t (List.mem_cons_of_mem _ ht)) (fun z hz => hY z (List.mem_cons_of_mem _ hz)); have hlt : s &&& x < 256 := ki hs
   show fI ((x : Int) :: ints S) (y :: Y) (s : Int) = _
   have e : prL (x :: S) (y :: Y) = (x, y.toNat) :: prL S Y := rfl; simp only [fI]; rw [eH (bR hs) (bR hx), eo _ hlt, Option.bind_some, e, List.all_cons, Nat.and_comm x s]; by_cases hc : ((pc (s &&& x) : Nat) : Int) > y
   ·rw [if_pos hc, decide_eq_false (by omega), Bool.false_and]
   ·rw [if_neg hc, ih, decide_eq_true (show pc (s &&& x) ≤ y.toNat by omega), Bool.true_and]
theorem nz {s : Nat} (hs : s < 256) {S : List Nat} {Y : List Int} (hl : Y.length = S.length) (hn : S.length ≤ 6) (hS : ∀ t ∈ S, t < 256) (hY : ∀ y ∈ Y, 0 ≤ y) : Ev (fun k => bT.f k (ints S) Y (s : Int)) ((prL S Y).all (fun p => decide (pc (p.1 &&& s) ≤ p.2))) := by
 unfold bT.f; have hd := down (P := fun i => Ev (fun k => bT.l0 k (ints S) Y (s : Int) (i : Int)) ((prL (S.drop i) (Y.drop i)).all (fun p => decide (pc (p.1 &&& s) ≤ p.2)))) S.length
  (by
   apply Ev.step
   ·intro k; rw [bT.l0, if_neg (by rw [ints_len]; omega)]
   ·rw [cH]; exact Ev.now _)
  (by
   intro i hi ih; have hi2 : i < Y.length := by omega
   have hx := hS _ (List.getElem_mem hi); have hy := hY _ (List.getElem_mem hi2); rw [b0 S i hi, b0 Y i hi2]
   apply Ev.step
   ·intro k; rw [bT.l0, if_pos (by rw [ints_len]; omega), if_pos (by omega), dr S i hi, ch Y i hi2, eH (bR hx) (bR hs), bU hi (by omega)]
   ·refine Ev.bind (dk _ (ki hx)) (Ev.ifp (by omega) ?_); have e : prL (S[i] :: S.drop (i + 1)) (Y[i] :: Y.drop (i + 1)) = (S[i], Y[i].toNat) :: prL (S.drop (i + 1)) (Y.drop (i + 1)) := rfl; rw [e, List.all_cons]; by_cases hc : ((pc (S[i] &&& s) : Nat) : Int) > Y[i]
    ·rw [decide_eq_false (show ¬ pc (S[i] &&& s) ≤ Y[i].toNat by omega), Bool.false_and]; exact Ev.ifp hc (Ev.now _)
    ·rw [decide_eq_true (show pc (S[i] &&& s) ≤ Y[i].toNat by omega), Bool.true_and]; exact Ev.ifn hc ih)
 exact hd
def pmB (n : Int) (l w : List Int) : Int × List Int × Bool := if dA n l = true ∧ w.length = l.length ∧ okR [] (l.map Int.toNat) w = true then (n, ints (bsI n.toNat (fewB n.toNat (prL (l.map Int.toNat) w))), true) else (0, [], false)
theorem l8 (n : Int) (l w : List Int) : (pmB n l w).2.1.length ≤ 256 := by
 unfold pmB; by_cases h : dA n l = true ∧ w.length = l.length ∧ okR [] (l.map Int.toNat) w = true
 ·rw [if_pos h]; obtain ⟨m, S, rfl, hm, rfl, _⟩ := eA h.1; simp only [ints_len]; rw [Int.toNat_natCast]; exact mc hm _
 ·rw [if_neg h]; exact Nat.zero_le _
theorem km (n : Int) (l w : List Int) (hl : l.length ≤ 17592186044416) : Ev (fun k => bM.f k n l w) (pmB n l w) := by
 unfold bM.f pmB; refine Ev.bind (iv n l hl) ?_; by_cases h : dA n l = true
 rotate_left
 ·rw [if_neg (fun hc => h hc.1)]; exact Ev.ifn h (Ev.now _)
 refine Ev.ifp h ?_; by_cases hw : w.length = l.length
 rotate_left
 ·rw [if_neg (fun hc => hw hc.2.1)]; exact Ev.ifn hw (Ev.now _)
 refine Ev.ifp hw ?_; have h' := h; obtain ⟨m, S, rfl, hm, rfl, h6, hS⟩ := eA h; rw [show (ints S).map Int.toNat = S from cu S, Int.toNat_natCast]; rw [ints_len] at hw; have h2m := bj hm; have hS256 : ∀ t ∈ S, t < 256 := fun t ht => by have := hS t ht; omega
 refine Ev.cbind (mP S [] w hw (by simp) hS256) ?_; by_cases hok : okR [] S w = true
 rotate_left
 ·rw [if_neg (fun hc => hok hc.2.2)]; exact Ev.ifn hok (Ev.now _)
 rw [if_pos ⟨h', by rw [ints_len]; exact hw, hok⟩]; refine Ev.ifp hok ?_; obtain ⟨hY, hpw, _⟩ := g1 S [] w hw hok; have hI := Ind.few hm (iO hw hpw); have hset := gY hm (g := fun _ s => fI (ints S) w s) (p := fewB m (prL S w)) (fun t ht => by
  rw [mK (by omega) S w hw hS256 hY]; unfold fewB; rw [decide_eq_true ht, Bool.true_and]; exact Ev.now _)
 exact Ev.cbind (e5 hm) (Ev.ifp (go hm) (Ev.bind hset (Ev.bind (iR hI (jo m _)) (Ev.now _))))
theorem kY (n : Int) (l w : List Int) (hl : l.length ≤ 17592186044416) : Ev (fun k => ag.f k n l w) (pmB n l w) := by
 unfold ag.f pmB; refine Ev.bind (iu n l hl) ?_; by_cases h : dA n l = true
 rotate_left
 ·rw [if_neg (fun hc => h hc.1)]; refine Ev.ifn h ?_
  apply Ev.step
  ·intro k; rw [ag.j0]
  ·exact Ev.ifp rfl (Ev.now _)
 refine Ev.ifp h ?_
 apply Ev.step
 ·intro k; rw [ag.j0]
 by_cases hw : w.length = l.length
 rotate_left
 ·rw [if_neg (fun hc => hw hc.2.1)]; exact Ev.ifp (by rw [bne_iff_ne]; omega) (Ev.now _)
 refine Ev.ifn (by rw [hw]; simp) ?_; have h' := h; obtain ⟨m, S, rfl, hm, rfl, h6, hS⟩ := eA h; rw [show (ints S).map Int.toNat = S from cu S, Int.toNat_natCast]; rw [ints_len] at hw; have h2m := bj hm; have hp2 := Nat.two_pow_pos m; have hS256 : ∀ t ∈ S, t < 256 := fun t ht => by have := hS t ht; omega
 have hR : ∀ b : Bool, okR [] S w = b → (if dA (m : Int) (ints S) = true ∧ w.length = (ints S).length ∧ okR [] S w = true then ((m : Int), ints (bsI m (fewB m (prL S w))), true) else (0, [], false)) = (if b = true then ((m : Int), ints (bsI m (fewB m (prL S w))), true) else (0, [], false)) := by
  intro b hb; cases b with
  | true => rw [if_pos ⟨h', by rw [ints_len]; exact hw, hb⟩, if_pos rfl]
  | false => rw [if_neg (fun hc => by rw [hb] at hc; exact absurd hc.2.2 (by decide)), if_neg (by decide)]
 rw [hR _ rfl]; have hd := down (P := fun i => okR [] S w = okR (S.take i) (S.drop i) (w.drop i) → Ev (fun k => ag.l0 k (m : Int) (ints S) w (i : Int)) (if okR (S.take i) (S.drop i) (w.drop i) = true then ((m : Int), ints (bsI m (fewB m (prL S w))), true) else (0, [], false))) S.length
  (by
   intro hok; rw [cH] at hok ⊢; have hok' : okR [] S w = true := by rw [hok]; rfl
   rw [if_pos (by rfl)]; obtain ⟨hY, hpw, _⟩ := g1 S [] w hw hok'; have hI := Ind.few hm (iO hw hpw); have hmx := jq hI (jo m _)
   apply Ev.step
   ·intro k; rw [ag.l0, if_neg (by rw [ints_len]; omega)]
   have hd := down (P := fun i => ∀ acc : List Nat, acc.length ≤ i → acc ++ (List.range' i (2 ^ m - i)).filter (fewB m (prL S w)) = (List.range (2 ^ m)).filter (fewB m (prL S w)) → Ev (fun k => ag.l2 k (m : Int) (ints S) w (ints acc) (i : Int)) ((m : Int), ints (bsI m (fewB m (prL S w))), true)) (2 ^ m)
    (by
     intro acc _ he; rw [Nat.sub_self, List.range'_zero, List.filter_nil, List.append_nil] at he
     apply Ev.step
     ·intro k; simp only [ag.l2, cV hm, Option.bind_some]; rw [if_neg (by unfold dm; omega), he]
     ·exact Ev.bind hmx (Ev.now _))
    (by
     intro i hi ih acc ha he; rw [dZ hi, List.filter_cons] at he
     apply Ev.step
     ·intro k; simp only [ag.l2, cV hm, Option.bind_some]; rw [if_pos (by unfold dm; omega), bU hi (by omega)]
     ·refine Ev.bind (nz (show i < 256 by omega) hw h6 hS256 hY) ?_; have e : (prL S w).all (fun p => decide (pc (p.1 &&& i) ≤ p.2)) = fewB m (prL S w) i := by
       unfold fewB; rw [decide_eq_true hi, Bool.true_and]
      rw [e]; by_cases hc : fewB m (prL S w) i = true
      ·rw [if_pos hc] at he; refine Ev.ifp hc (Ev.ifp (by rw [ints_len]; omega) ?_); rw [show ints acc ++ [(i : Int)] = ints (acc ++ [i]) from by simp [ints]]; exact ih (acc ++ [i]) (by rw [List.length_append, List.length_singleton]; omega) (by rw [List.append_assoc, List.singleton_append]; exact he)
      ·rw [if_neg hc] at he; exact Ev.ifn hc (ih acc (by omega) he))
   exact hd [] (Nat.zero_le _) (by rw [Nat.sub_zero, ← List.range_eq_range', List.nil_append]))
  (by
   intro i hi ih hok; have hi2 : i < w.length := by omega
   have hx := hS256 _ (List.getElem_mem hi); rw [b0 S i hi, b0 w i hi2] at hok ⊢; have eR : okR (S.take i) (S[i] :: S.drop (i + 1)) (w[i] :: w.drop (i + 1)) = ((okJ S[i] (S.take i) && decide (0 ≤ w[i])) && okR (S.take (i + 1)) (S.drop (i + 1)) (w.drop (i + 1))) := by
    rw [fO S i hi]; rfl
   rw [eR] at hok ⊢
   apply Ev.step
   ·intro k; rw [ag.l0, if_pos (by rw [ints_len]; omega)]
   have h1 := down (P := fun j => j ≤ i → okJ S[i] (S.take j) = true → Ev (fun k => ag.l1 k (m : Int) (ints S) w (i : Int) (j : Int)) (if ((okJ S[i] (S.take i) && decide (0 ≤ w[i])) && okR (S.take (i + 1)) (S.drop (i + 1)) (w.drop (i + 1))) = true then ((m : Int), ints (bsI m (fewB m (prL S w))), true) else (0, [], false))) i
    (by
     intro _ hj; rw [hj] at hok ⊢
     apply Ev.step
     ·intro k; rw [ag.l1, if_neg (by omega), if_pos (by omega), if_pos (by omega), ch w i hi2, bU hi (by omega)]
     ·by_cases hy : w[i] < 0
      ·rw [decide_eq_false (show ¬ (0 : Int) ≤ w[i] by omega), Bool.and_false, Bool.false_and, if_neg (by decide)]; exact Ev.ifp hy (Ev.now _)
      ·rw [decide_eq_true (show (0 : Int) ≤ w[i] by omega), Bool.and_true, Bool.true_and] at hok ⊢; exact Ev.ifn hy (ih hok))
    (by
     intro j hj ihj hle hjok; have hjS : j < S.length := by omega
     have ht := hS256 _ (List.getElem_mem hjS)
     apply Ev.step
     ·intro k; rw [ag.l1, if_pos (by omega), if_pos (by omega), if_pos (by rw [ints_len]; omega), if_pos (by omega), if_pos (by rw [ints_len]; omega), dr S i hi, dr S j hjS, bU hj (by omega)]
     ·have e := lV hx ht; by_cases hc : S[j] &&& S[i] = 0
      ·refine Ev.ifp (e.2 (by rw [Nat.and_comm]; exact hc)) (ihj (by omega) ?_); unfold okJ at hjok ⊢; rw [fO S j hjS, List.all_append, hjok]; simp [hc]
      ·have hno : okJ S[i] (S.take i) = false := by
        rw [Bool.eq_false_iff]; intro hall; unfold okJ at hall; have := List.all_eq_true.1 hall S[j] (by
         rw [List.mem_iff_getElem]; exact ⟨j, by rw [List.length_take]; omega, by rw [List.getElem_take]⟩)
        exact hc (of_decide_eq_true this)
       rw [hno, Bool.false_and, Bool.false_and, if_neg (by decide)]; exact Ev.ifn (fun hz => hc (by rw [Nat.and_comm]; exact e.1 hz)) (Ev.now _))
   have := h1 (Nat.zero_le _) (by simp [okJ]); exact this)
 have := hd (by simp)
 simpa using this
end Go.Proofs.YtimkekeaeojpkaaGreat.Q
namespace Go.Proofs.YtimkekeaeojpkaaGreat.Q
open Go Go.RowKit Go.Proofs.YtimkekeaeojpkaaGreatW.PrintWords Go.Proofs.YtimkekeaeojpkaaGreatW.PrintLast Go.Proofs.YtimkekeaeojpkaaGreatW.PrintMore Go.Proofs.YtimkekeaeojpkaaGreat.Z
set_option linter.unusedVariables false
set_option linter.unusedSimpArgs false
theorem lN {n : Int} {l : List Int} {s : Int} (h : (dT n l s).2.2 = true) : matB (dT n l s).1 (dT n l s).2.1 = true ∧ dB (dT n l s).1 (dT n l s).2.1 = s := by
 unfold dT at h ⊢; by_cases hc : matB n l = true ∧ 0 ≤ s ∧ s ≤ dB n l
 rotate_left
 ·rw [if_neg hc] at h; cases h
 rw [if_pos hc]; obtain ⟨hm, h0, h1⟩ := hc; obtain ⟨m, L, rfl, rfl, hM, _⟩ := dx hm; obtain ⟨b, hb⟩ := List.exists_mem_of_ne_nil _ hM.some; rw [fL hm hM b hb] at h1; obtain ⟨r, rfl⟩ := Int.eq_ofNat_of_zero_le h0; simp only
 rw [show (ints L).map Int.toNat = L from cu L, Int.toNat_natCast, Int.toNat_natCast]; have e : trN m L r = (List.range (2 ^ m)).filter (fun s => indN L s && decide (pc s = r)) := by
  unfold trN; congr 1; funext x; rw [Bool.and_comm]
 have hI := Mat.ind hM; have hp : ∀ s, indN L s = true ↔ (fun s => indN L s = true) s := fun s => Iff.rfl
 have hex : ∃ b, indN L b = true ∧ pc b = r := by
  have : ∀ d, ∀ x, indN L x = true → pc x = r + d → ∃ b, indN L b = true ∧ pc b = r := by
   intro d
   induction d with
   | zero => intro x hx hp; exact ⟨x, hx, hp⟩
   | succ d ih =>
    intro x hx hp; obtain ⟨e, he, hb⟩ := ft (a := x) (by omega); have hpd := fl he hb; refine ih (dif x (2 ^ e)) (hI.down _ x hx (cn.2 fun i hi => ?_)) (by omega); rw [del_bit, Bool.and_eq_true] at hi; exact hi.1
  exact this (pc b - r) b (Mat.base_ind hb) (by omega)
 have h2 := jy hI hp hex; rw [e]; refine ⟨h2, ?_⟩; obtain ⟨x, hx, hxr⟩ := hex; have hxm : x ∈ (List.range (2 ^ m)).filter (fun s => indN L s && decide (pc s = r)) := (kp hI hp x).2 ⟨hx, hxr⟩; obtain ⟨m', L', e1, e2, hM', _⟩ := dx h2; rw [fL h2 (k9 hI hp ⟨x, hx, hxr⟩) x hxm, hxr]
theorem nE {n : Int} {l w : List Int} (h : (pmB n l w).2.2 = true) : matB (pmB n l w).1 (pmB n l w).2.1 = true := by
 unfold pmB at h ⊢; by_cases hc : dA n l = true ∧ w.length = l.length ∧ okR [] (l.map Int.toNat) w = true
 rotate_left
 ·rw [if_neg hc] at h; cases h
 rw [if_pos hc]; obtain ⟨h1, hw, hok⟩ := hc; obtain ⟨m, S, rfl, hm, rfl, _, _⟩ := eA h1; rw [show (ints S).map Int.toNat = S from cu S] at hok ⊢; rw [ints_len] at hw; obtain ⟨_, hpw, _⟩ := g1 S [] w hw hok; exact kP (Ind.few hm (iO hw hpw)) (jo m _)
theorem lu {n : Int} {l : List Int} {s : Int} (h : (dy n l s).2.2 = true) :
  ∃ (m : Nat) (L : List Nat) (t : Nat), n = m ∧ l = ints L ∧ s = t ∧ t < 256 ∧ t < 2 ^ m ∧ (dy n l s).1 = m ∧ ∃ D : List Nat, (dy n l s).2.1 = ints D ∧ matB (m : Int) (ints D) = true ∧ t ∈ D ∧ D.length = L.length + 1 := by
 unfold dy at h ⊢; by_cases hc : relB n l s = true
 rotate_left
 ·rw [if_neg hc] at h; cases h
 rw [if_pos hc]; unfold relB at hc; rw [Bool.and_eq_true, Bool.and_eq_true] at hc; obtain ⟨hm, h1, h2⟩ := hc; obtain ⟨m, L, rfl, rfl, hM, hpw⟩ := dx hm; rw [show (ints L).map Int.toNat = L from cu L, Int.toNat_natCast] at h1; obtain ⟨b, hb⟩ := List.exists_mem_of_ne_nil _ hM.some; have hrb := fL hm hM; unfold hypB at h2; rw [jg hm, hrb b hb] at h2; obtain ⟨t, ht, rfl⟩ : ∃ t ∈ cirN m L, s = (t : Int) := by
  rw [List.contains_iff_mem] at h1; obtain ⟨t, ht, e⟩ := List.mem_map.1 h1; exact ⟨t, ht, e.symm⟩
 have h2' := iU.1 h2; rw [List.mem_filter, decide_eq_true_eq] at h2'; obtain ⟨hfl, hrk⟩ := h2'; have htm := fQ (fy ht); have ht256 : t < 256 := Nat.lt_of_lt_of_le htm (bj hM.size); have hcir := ht; unfold cirN lowN at hcir; rw [List.mem_filter] at hcir; obtain ⟨hdep, hmin⟩ := hcir; have hd : indN L t = false := by
  unfold depN at hdep
  simpa using (List.mem_filter.1 hdep).2
 have hcm : ∀ x, x < 256 → subN x t → x ≠ t → indN L x = true := by
  intro x hx hsub hne; refine Classical.byContradiction fun hni => ?_
  have hxm : x < 2 ^ m := Nat.lt_of_le_of_lt (by rw [← show x &&& t = x from hsub]; exact Nat.and_le_right) htm; have hxd : x ∈ depN m L := by
   unfold depN; exact List.mem_filter.2 ⟨List.mem_range.2 hxm, by rw [Bool.eq_false_iff.2 hni]; rfl⟩
  have hany : (depN m L).any (fun u => decide (u ≠ t) && decide (subN u t)) = true := List.any_eq_true.2 ⟨x, hxd, by rw [decide_eq_true hne, decide_eq_true hsub]; rfl⟩; rw [hany] at hmin; cases hmin
 have hcl : fx m L t = t := by
  unfold flN at hfl; exact of_decide_eq_true (List.mem_filter.1 hfl).2
 have hf : ∀ x, x < m → t.testBit x = false → rkN L t < rkN L (t ||| 2 ^ x) := by
  intro x hx hb'; have h3 : rkN L t ≤ rkN L (t ||| 2 ^ x) := fv hM.some (fun i hi => by rw [add_bit, hi]; rfl); have h4 : rkN L (t ||| 2 ^ x) ≠ rkN L t := by
   intro he; have : (fx m L t).testBit x = true := by
    unfold fx; rw [clN_bit, decide_eq_true (List.mem_range.2 hx), decide_eq_true he]; simp
   rw [hcl, hb'] at this; cases this
  omega
 have hr : ∀ c ∈ L, pc c = rkN L t + 1 := by
  intro c hc; have := hM.card hc hb; omega
 have hpD : ((List.range (2 ^ m)).filter (fun c => L.contains c || decide (c = t))).Pairwise (· < ·) := List.Pairwise.filter _ List.pairwise_lt_range; have hmD : ∀ c, c ∈ (List.range (2 ^ m)).filter (fun c => L.contains c || decide (c = t)) ↔ c ∈ L ∨ c = t := by
  intro c; rw [List.mem_filter, List.mem_range, Bool.or_eq_true, decide_eq_true_eq, List.contains_iff_mem]
  constructor
  ·exact fun h => h.2
  ·rintro (h | rfl)
   ·exact ⟨hM.sets c h, .inl h⟩
   ·exact ⟨htm, .inr rfl⟩
 obtain ⟨hMD, hnot, _⟩ := Mat.relax hM htm hd hcm hf hr hmD; refine ⟨m, L, t, rfl, rfl, rfl, ht256, htm, rfl, _, fz hpD (fun a => ?_), kV hMD hpD, (hmD t).2 (.inr rfl), ?_⟩
 ·rw [List.mem_append, List.mem_singleton]; unfold ints; rw [List.mem_map, List.mem_map]
  constructor
  ·rintro (⟨c, hc, rfl⟩ | rfl)
   ·exact ⟨c, (hmD c).2 (.inl hc), rfl⟩
   ·exact ⟨t, (hmD t).2 (.inr rfl), rfl⟩
  ·rintro ⟨c, hc, rfl⟩; rcases (hmD c).1 hc with h | rfl
   ·exact .inl ⟨c, h, rfl⟩
   ·exact .inr rfl
 ·have n1 := hpD.imp (fun {a b} (hlt : a < b) => Nat.ne_of_lt hlt); have n2 : (t :: L).Nodup := List.nodup_cons.2 ⟨hnot, hpw.imp (fun {a b} (hlt : a < b) => Nat.ne_of_lt hlt)⟩; have h3 := ((List.perm_ext_iff_of_nodup n1 n2).2 (fun c => by rw [hmD, List.mem_cons]; exact or_comm)).length_eq; rw [h3, List.length_cons]
end Go.Proofs.YtimkekeaeojpkaaGreat.Q
namespace Go.Proofs.YtimkekeaeojpkaaGreat.Q
open Go Go.RowKit Go.Proofs.YtimkekeaeojpkaaGreat.A Go.Proofs.YtimkekeaeojpkaaGreatW.PrintWords Go.Proofs.YtimkekeaeojpkaaGreatW.PrintLast Go.Proofs.YtimkekeaeojpkaaGreatW.PrintMore Go.Proofs.YtimkekeaeojpkaaGreat.Z
set_option linter.unusedVariables false
set_option linter.unusedSimpArgs false
def gir : Nat → List Nat → Nat
 | acc, [] => acc
 | acc, c :: cs => if acc = 0 then gir (pc c) cs else (if pc c < acc then gir (pc c) cs else gir acc cs)
theorem nr (r : Int) : ∀ (cs : List Nat) (acc : Nat), (∀ c ∈ cs, 0 < pc c) → ((gir acc cs = 0 ∨ r ≤ (gir acc cs : Int)) ↔ ((acc = 0 ∨ r ≤ (acc : Int)) ∧ ∀ c ∈ cs, r ≤ (pc c : Int))) := by
 intro cs
 induction cs with
 | nil => intro acc _; simp [gir]
 | cons c cs ih =>
  intro acc h; have hc := h c (List.mem_cons_self ..); have hcs : ∀ x ∈ cs, 0 < pc x := fun x hx => h x (List.mem_cons_of_mem _ hx)
  rw [List.forall_mem_cons, gir]; by_cases h0 : acc = 0
  ·rw [if_pos h0, ih _ hcs]
   constructor
   ·rintro ⟨h1, h2⟩; exact ⟨.inl h0, by omega, h2⟩
   ·rintro ⟨_, h1, h2⟩; exact ⟨.inr h1, h2⟩
  ·rw [if_neg h0]; by_cases h1 : pc c < acc
   ·rw [if_pos h1, ih _ hcs]
    constructor
    ·rintro ⟨h2, h3⟩; exact ⟨.inr (by omega), by omega, h3⟩
    ·rintro ⟨_, h2, h3⟩; exact ⟨.inr h2, h3⟩
   ·rw [if_neg h1, ih _ hcs]
    constructor
    ·rintro ⟨h2, h3⟩; exact ⟨h2, by omega, h3⟩
    ·rintro ⟨h2, _, h3⟩; exact ⟨h2, h3⟩
def lP (n : Int) (l : List Int) : Bool := matB n l && !(cirN n.toNat (l.map Int.toNat)).any (fun c => decide ((pc c : Int) < dB n l))
theorem kH (C : List Nat) (hl : C.length ≤ 17592186044416) (hC : ∀ c ∈ C, c < 256) : Ev (fun k => bH.l0 k (ints C) 0 0) (gir 0 C : Int) := by
 have hd := down (P := fun i => ∀ acc : Nat, Ev (fun k => bH.l0 k (ints C) (acc : Int) (i : Int)) (gir acc (C.drop i) : Int)) C.length
  (by
   intro acc
   apply Ev.step
   ·intro k; rw [bH.l0, if_neg (by rw [ints_len]; omega)]
   ·rw [cH]; exact Ev.now _)
  (by
   intro i hi ih acc; have hc := hC _ (List.getElem_mem hi)
   apply Ev.step
   ·intro k; rw [bH.l0, if_pos (by rw [ints_len]; omega), if_pos (by omega), dr C i hi, bU hi hl]
   ·refine Ev.bind (dk _ hc) ?_; rw [b0 C i hi, gir]; by_cases h0 : acc = 0
    ·rw [if_pos h0]; exact Ev.ifp (by omega) (ih _)
    ·rw [if_neg h0]; refine Ev.ifn (by omega) ?_; by_cases h1 : pc C[i] < acc
     ·rw [if_pos h1]; exact Ev.ifp (by omega) (ih _)
     ·rw [if_neg h1]; exact Ev.ifn (by omega) (ih _))
 have := hd 0; rw [List.drop_zero] at this; exact this
theorem jX {m : Nat} {L : List Nat} (hmat : matB (m : Int) (ints L) = true) (hM : Mat m L) (hl : L.length ≤ 17592186044416) : Ev (fun k => bH.f k (m : Int) (ints L)) (gir 0 (cirN m L) : Int) := by
 unfold bH.f cZ.f; have hlen := gR hM.size L; refine Ev.bind (Ev.bind (dg _ _ (by rw [ints_len]; exact hl)) (Ev.ifp hmat (Ev.bind (fB hM hl) (Ev.now _)))) (kH _ (by omega) (fun c hc => ?_)); exact Nat.lt_of_lt_of_le (fQ (fy hc)) (bj hM.size)
theorem kd {n : Int} {l : List Int} (h : ¬ matB n l = true) (hl : l.length ≤ 17592186044416) : Ev (fun k => bH.f k n l) 0 := by
 unfold bH.f cZ.f; refine Ev.bind (Ev.bind (dg _ _ hl) (Ev.ifn h (Ev.now _))) ?_; exact kH [] (Nat.zero_le _) (fun c hc => by simp at hc)
theorem mR {m : Nat} {L : List Nat} (hne : L ≠ []) {c : Nat} (h : c ∈ cirN m L) (hc256 : c < 256) : 0 < pc c := by
 have hd := List.mem_filter.1 (fy h); rcases Nat.eq_zero_or_pos (pc c) with h0 | h0
 ·rw [hU hc256] at h0; subst h0; obtain ⟨b, hb⟩ := List.exists_mem_of_ne_nil L hne; have : indN L 0 = true := by
   unfold indN; exact List.any_eq_true.2 ⟨b, hb, decide_eq_true (cn.2 (fun i hi => by simp at hi))⟩
  rw [this] at hd; exact absurd hd.2 (by decide)
 ·exact h0
theorem kU (n : Int) (l : List Int) (hl : l.length ≤ 17592186044416) : Ev (fun k => dv.f k n l) (lP n l) := by
 unfold dv.f lP; by_cases h : matB n l = true
 ·have hmat := h; obtain ⟨m, L, rfl, rfl, hM, _⟩ := dx h; rw [show (ints L).map Int.toNat = L from cu L, Int.toNat_natCast, h, Bool.true_and]; have hl' : L.length ≤ 17592186044416 := by rw [ints_len] at hl; exact hl
  refine Ev.bind (jX hmat hM hl') (Ev.bind (dg _ _ hl) (Ev.ifp h ?_)); have hpos : ∀ c ∈ cirN m L, 0 < pc c := fun c hc => mR hM.some hc (Nat.lt_of_lt_of_le (fQ (fy hc)) (bj hM.size))
  have hiff := nr (dB (m : Int) (ints L)) (cirN m L) 0 hpos; have hall : (!(cirN m L).any (fun c => decide ((pc c : Int) < dB (m : Int) (ints L)))) = true ↔ ∀ c ∈ cirN m L, dB (m : Int) (ints L) ≤ (pc c : Int) := by
   rw [Bool.not_eq_true', ← Bool.not_eq_true, List.any_eq_true]
   constructor
   ·intro h c hc; by_cases hq : dB (m : Int) (ints L) ≤ (pc c : Int)
    ·exact hq
    ·exact absurd ⟨c, hc, decide_eq_true (by omega)⟩ h
   ·rintro h ⟨c, hc, hq⟩; have := h c hc; have := of_decide_eq_true hq; omega
  by_cases h0 : gir 0 (cirN m L) = 0
  ·have hv := hall.2 (hiff.1 (.inl h0)).2; rw [hv]; exact Ev.ifp (by omega) (Ev.now _)
  ·refine Ev.ifn (by omega) (Ev.bind (fb _ _ hl) ?_); have e : decide (((gir 0 (cirN m L) : Nat) : Int) ≥ dB (m : Int) (ints L)) = !(cirN m L).any (fun c => decide ((pc c : Int) < dB (m : Int) (ints L))) := by
    rw [Bool.eq_iff_iff, decide_eq_true_eq, hall]
    constructor
    ·intro hq; exact (hiff.1 (.inr hq)).2
    ·intro hq; rcases hiff.2 ⟨.inl rfl, hq⟩ with h1 | h1
     ·exact absurd h1 h0
     ·exact h1
   rw [e]; exact Ev.now _
 ·rw [Bool.eq_false_iff.2 h, Bool.false_and]; exact Ev.bind (kd h hl) (Ev.bind (dg _ _ hl) (Ev.ifn h (Ev.now _)))
theorem ks (n : Int) (l : List Int) (hl : l.length ≤ 17592186044416) : Ev (fun k => ci.f k n l) (lP n l) := by
 unfold ci.f lP; refine Ev.bind (e9 n l hl) (Ev.bind (ef n l hl) ?_); by_cases h : matB n l = true
 ·have hmat := h; obtain ⟨m, L, rfl, rfl, hM, _⟩ := dx h; rw [show (ints L).map Int.toNat = L from cu L, Int.toNat_natCast, h, Bool.true_and]; refine Ev.ifp rfl (Ev.bind (iL hmat hM (by rw [ints_len] at hl; exact hl)) ?_); have ha := iA (g := fun _ c => ci.c (dB (m : Int) (ints L)) c) (p := fun c : Int => decide ((pc c.toNat : Int) < dB (m : Int) (ints L))) (l := ints (cirN m L)) (fun y hy => by
   obtain ⟨c, hc, rfl⟩ := List.mem_map.1 hy
   apply Ev.const
   unfold ci.c; rw [eo c (Nat.lt_of_lt_of_le (fQ (fy hc)) (bj hM.size)), Option.bind_some, Int.toNat_natCast])
  refine Ev.bind ha ?_; have e : (ints (cirN m L)).any (fun c : Int => decide ((pc c.toNat : Int) < dB (m : Int) (ints L))) = (cirN m L).any (fun c => decide ((pc c : Int) < dB (m : Int) (ints L))) := by
   unfold ints; rw [List.any_map]
   rfl
  rw [e]; exact Ev.now _
 ·rw [Bool.eq_false_iff.2 h, Bool.false_and]; exact Ev.ifn (by simp) (Ev.now _)
def ExE {α : Type} (g : Nat → Option α) (P : α → Prop) : Prop := ∃ r, Ev g r ∧ P r
theorem ExE.now {α : Type} {r : α} {P : α → Prop} (h : P r) : ExE (fun _ => some r) P := ⟨r, Ev.now _, h⟩
theorem ExE.bind {α β : Type} {g : Nat → Option α} {f : Nat → α → Option β} {P : α → Prop} {R : β → Prop} (h : ExE g P) (k : ∀ a, P a → ExE (fun n => f n a) R) : ExE (fun n => (g n).bind (f n)) R := by
 obtain ⟨a, ha, hp⟩ := h; obtain ⟨b, hb, hr⟩ := k a hp; exact ⟨b, Ev.bind ha hb, hr⟩
theorem ExE.cbind {α β : Type} {g : Option α} {f : Nat → α → Option β} {P : α → Prop} {R : β → Prop} (h : ∃ a, g = some a ∧ P a) (k : ∀ a, P a → ExE (fun n => f n a) R) : ExE (fun n => g.bind (f n)) R := by
 obtain ⟨a, ha, hp⟩ := h; obtain ⟨b, hb, hr⟩ := k a hp; exact ⟨b, Ev.cbind ha hb, hr⟩
theorem ExE.ev {α β : Type} {g : Nat → Option α} {f : Nat → α → Option β} {a : α} {R : β → Prop} (h : Ev g a) (k : ExE (fun n => f n a) R) : ExE (fun n => (g n).bind (f n)) R := by
 obtain ⟨b, hb, hr⟩ := k; exact ⟨b, Ev.bind h hb, hr⟩
theorem ExE.ite {α : Type} {c : Prop} [Decidable c] {g f : Nat → Option α} {P : α → Prop} (h : c → ExE g P) (k : ¬ c → ExE f P) : ExE (fun n => if c then g n else f n) P := by
 by_cases hc : c
 ·obtain ⟨r, hr, hp⟩ := h hc; exact ⟨r, Ev.ifp hc hr, hp⟩
 ·obtain ⟨r, hr, hp⟩ := k hc; exact ⟨r, Ev.ifn hc hr, hp⟩
theorem ExE.ifp {α : Type} {c : Prop} [Decidable c] {g f : Nat → Option α} {P : α → Prop} (hc : c) (h : ExE g P) : ExE (fun n => if c then g n else f n) P := ExE.ite (fun _ => h) (fun k => absurd hc k)
theorem ExE.step {α : Type} {g f : Nat → Option α} {P : α → Prop} (h : ∀ k, g (k + 1) = f k) (k : ExE f P) : ExE g P := by
 obtain ⟨r, hr, hp⟩ := k; exact ⟨r, Ev.step h hr, hp⟩
theorem ExE.imp {α : Type} {g : Nat → Option α} {P R : α → Prop} (h : ExE g P) (k : ∀ a, P a → R a) : ExE g R := by
 obtain ⟨r, hr, hp⟩ := h; exact ⟨r, hr, k r hp⟩
theorem ExE.of {α : Type} {g : Nat → Option α} {r : α} {P : α → Prop} (h : Ev g r) (hp : P r) : ExE g P := ⟨r, h, hp⟩
theorem j8 (v : Int) : 0 ≤ Go.bits .and .i64 v 255 ∧ Go.bits .and .i64 v 255 < 256 := by
 have h : ∀ n : Nat, n ≤ 255 → IntKind.i64.wrap (n : Int) = (n : Int) := fun n hn => eI (by omega)
 simp only [Go.bits, BitVec.toNat_and]; have hle : (BitVec.ofInt IntKind.i64.bits v).toNat &&& (BitVec.ofInt IntKind.i64.bits 255).toNat ≤ 255 := Nat.le_trans Nat.and_le_right (by decide); rw [h _ hle]; omega
theorem fc {b : List Int} (hb : b.length ≤ 17592186044416) {p h : Int} (hp : 0 ≤ p) : ∃ r, cJ.f b p h = some r ∧ 0 ≤ r.1 ∧ r.1 < 256 ∧ 0 ≤ r.2.1 := by
 unfold cJ.f; by_cases h1 : p < (b.length : Int)
 ·rw [if_pos h1, if_pos hp]; exact ⟨_, rfl, (j8 _).1, (j8 _).2, by show 0 ≤ wrap64 (p + 1); rw [bD (n := p + 1) (by omega) (by omega)]; omega⟩
 ·rw [if_neg h1]; exact ⟨_, rfl, (j8 _).1, (j8 _).2, hp⟩
theorem lY {x n : Int} (hx : 0 ≤ x) (hn : 0 < n) : 0 ≤ Int.tmod x n ∧ Int.tmod x n < n := by
 rw [Int.tmod_eq_emod_of_nonneg hx]; exact ⟨Int.emod_nonneg _ (by omega), Int.emod_lt_of_pos _ hn⟩
theorem cw {b : List Int} (hb : b.length ≤ 17592186044416) {p h : Int} (hp : 0 ≤ p) (n : Int) : ∃ r, an.f b p h n = some r ∧ 0 ≤ r.1 ∧ (0 < n → r.1 < n) ∧ (n ≤ 0 → r.1 = 0) ∧ 0 ≤ r.2.1 := by
 unfold an.f; by_cases h1 : n ≤ 0
 ·rw [if_pos h1]; exact ⟨_, rfl, Int.le_refl _, fun h => by omega, fun _ => rfl, hp⟩
 rw [if_neg h1]; have hn : ¬ n = 0 := by omega
 by_cases h2 : n ≤ 256
 ·rw [if_pos h2]; obtain ⟨r, e, r1, r2, r3⟩ := fc hb (h := h) hp; rw [e, Option.bind_some, if_neg hn]; have := lY r1 (show 0 < n by omega); exact ⟨_, rfl, this.1, fun _ => this.2, fun h => absurd h h1, r3⟩
 ·rw [if_neg h2]; obtain ⟨x, e, x1, x2, x3⟩ := fc hb (h := h) hp; rw [e, Option.bind_some]; obtain ⟨y, e, y1, y2, y3⟩ := fc hb (h := x.2.2) x3; rw [e, Option.bind_some]; obtain ⟨z, e, z1, z2, z3⟩ := fc hb (h := y.2.2) y3; rw [e, Option.bind_some]; obtain ⟨w, e, w1, w2, w3⟩ := fc hb (h := z.2.2) z3; rw [e, Option.bind_some, if_neg hn]; have e1 : 0 ≤ wrap64 ((wrap64 ((wrap64 ((wrap64 (x.1 * 16777216)) + (wrap64 (y.1 * 65536)))) + (wrap64 (z.1 * 256)))) + w.1) := by
   rw [bD (n := x.1 * 16777216) (by omega) (by omega), bD (n := y.1 * 65536) (by omega) (by omega), bD (n := z.1 * 256) (by omega) (by omega)]; rw [bD (n := x.1 * 16777216 + y.1 * 65536) (by omega) (by omega), bD (n := x.1 * 16777216 + y.1 * 65536 + z.1 * 256) (by omega) (by omega), bD (by omega) (by omega)]; omega
  have := lY e1 (show 0 < n by omega); exact ⟨_, rfl, this.1, fun _ => this.2, fun h => absurd h h1, w3⟩
theorem mj {b : List Int} (hb : b.length ≤ 17592186044416) {p h : Int} (hp : 0 ≤ p) (n : Int) : ∃ r, dH.f b p h n = some r ∧ 0 ≤ r.2.1 := by
 unfold dH.f; obtain ⟨r, e, _, _, _, r3⟩ := cw hb (h := h) hp n; rw [e, Option.bind_some]; exact ⟨_, rfl, r3⟩
theorem fo {b : List Int} (hb : b.length ≤ 17592186044416) {p h : Int} (hp : 0 ≤ p) {l : List Int} (hl : l ≠ []) : ∃ r, cg.f b p h l = some r ∧ r.1 ∈ l ∧ 0 ≤ r.2.1 := by
 unfold cg.f; obtain ⟨r, e, r1, r2, _, r3⟩ := cw hb (h := h) hp (l.length : Int); have h0 : 0 < l.length := List.length_pos_iff.2 hl; have hlt := r2 (by omega); rw [e, Option.bind_some, if_pos r1, if_pos hlt]; exact ⟨_, rfl, nQ l r.1 r1 hlt, r3⟩
theorem gV (l : List Int) (hl : l.length ≤ 17592186044416) : ExE (fun k => ce.f k l) (fun r => r.1 = l ∧ r.2.1 = 0) := by
 unfold ce.f; have hd := down (P := fun i => ∀ h : Int, ExE (fun k => ce.l0 k l h (i : Int)) (fun r => r.1 = l ∧ r.2.1 = 0)) l.length
  (by
   intro h
   apply ExE.step
   ·intro k; rw [ce.l0, if_neg (by omega)]
   ·exact ExE.now ⟨rfl, rfl⟩)
  (by
   intro i hi ih h
   apply ExE.step
   ·intro k; rw [ce.l0, if_pos (by omega), bU hi hl]
   ·refine ExE.ite (fun _ => ExE.ite (fun _ => ih _) (fun h => absurd (by omega) h)) (fun _ => ExE.now ⟨rfl, rfl⟩))
 exact hd _
theorem lw (r n : Int) : ExE (fun k => br.f k r n) (fun q => 0 ≤ q.1 ∧ q.1 ≤ 8 ∧ (0 ≤ n → q.1 ≤ n) ∧ q.2.length ≤ 256) := by
 unfold br.f; refine ExE.cbind (P := fun a => a = (decide (0 ≤ n) && decide (n ≤ 8))) ⟨_, l1In_eq n 0 8, rfl⟩ ?_; rintro a rfl; have hno : ExE (fun k => br.j0 k r n true) (fun q => 0 ≤ q.1 ∧ q.1 ≤ 8 ∧ (0 ≤ n → q.1 ≤ n) ∧ q.2.length ≤ 256) := by
  apply ExE.step
  ·intro k; rw [br.j0]
  ·exact ExE.ifp rfl (ExE.now ⟨by simp, by simp, fun h => h, by simp⟩)
 refine ExE.ite (fun hn => ?_) (fun _ => hno); rw [Bool.and_eq_true, decide_eq_true_eq, decide_eq_true_eq] at hn; refine ExE.cbind (P := fun _ => True) ⟨_, l1In_eq r 0 n, trivial⟩ ?_; rintro a -; cases a
 ·exact hno
 obtain ⟨m, rfl⟩ := Int.eq_ofNat_of_zero_le hn.1; have hm : m ≤ 8 := by omega
 have h256 := bj hm; have hp := Nat.two_pow_pos m; have hd := down (P := fun i => ∀ l : List Int, l.length ≤ i → ExE (fun k => br.l0 k r (m : Int) (i : Int) (m : Int) l) (fun q => 0 ≤ q.1 ∧ q.1 ≤ 8 ∧ (0 ≤ (m : Int) → q.1 ≤ (m : Int)) ∧ q.2.length ≤ 256)) (2 ^ m)
  (by
   intro l hl
   apply ExE.step
   ·intro k; rw [br.l0, cV hm, Option.bind_some, if_neg (by unfold dm; omega)]
   ·exact ExE.now ⟨by simp only []; omega, by simp only []; omega, fun _ => Int.le_refl _, by simp only []; omega⟩)
  (by
   intro i hi ih l hl
   apply ExE.step
   ·intro k; rw [br.l0, cV hm, Option.bind_some, if_pos (by unfold dm; omega), bU hi (by omega)]
   ·refine ExE.ev (dk i (by omega)) (ExE.ite (fun _ => ExE.ifp (by omega) (ih _ (by rw [List.length_append, List.length_singleton]; omega))) (fun _ => ih _ (by omega))))
 apply ExE.step
 ·intro k; rw [br.j0]
 ·exact ExE.ite (fun h => absurd h (by decide)) (fun _ => hd [] (Nat.zero_le _))
section
variable {P : Int} {R N s : Nat}
theorem ix {x y : Nat} {a : List Int} (ha : a.length = R * N) (hx : x < R) (hy : y < N) (hR : R ≤ 8) (hN : N ≤ 8) : wrap64 ((wrap64 ((x : Int) * (N : Int))) + (y : Int)) = ((x * N + y : Nat) : Int) ∧ 0 ≤ ((x * N + y : Nat) : Int) ∧ ((x * N + y : Nat) : Int) < (a.length : Int) := by
 have h1 : x * N ≤ 7 * 8 := Nat.mul_le_mul (by omega) hN; have h2 : (x + 1) * N ≤ R * N := Nat.mul_le_mul (by omega) (Nat.le_refl N); rw [Nat.add_mul] at h2; rw [show (x : Int) * (N : Int) = ((x * N : Nat) : Int) from by simp, ha]; generalize x * N = q at *; generalize R * N = u at *; rw [bD (n := (q : Int)) (by omega) (by omega), bD (by omega) (by omega)]; exact ⟨by omega, by omega, by omega⟩
theorem ltc {x y : Nat} (h : x < y) : (x : Int) < (y : Int) := by omega
theorem gec {x y : Nat} (h : y ≤ x) : ¬ (x : Int) < (y : Int) := by omega
section
variable (hR : R ≤ 8) (hN : N ≤ 8) (hP : P ≠ 0) (j : Nat) (hj : j < N)
  (hnext : ∀ (a : List Int) (q : Nat), a.length = R * N → ExE (fun k => ak.l0 k P (R : Int) (N : Int) (s : Int) a (q : Int) (wrap64 ((j : Int) + 1))) (fun _ => True))
include hR hN hP hj hnext
theorem nc {q : Nat} (hq : q < R) : ∀ (c i : Nat), i + c = R → ∀ a : List Int, a.length = R * N → ExE (fun k => ak.l3 k P (R : Int) (N : Int) (s : Int) a (q : Int) (j : Int) (i : Int)) (fun _ => True) := by
 have hR' : R ≤ 17592186044416 := Nat.le_trans hR (by decide); have hN' : N ≤ 17592186044416 := Nat.le_trans hN (by decide); intro c
 induction c with
 | zero =>
  intro i hi a ha
  apply ExE.step
  ·intro k; rw [ak.l3, if_neg (gec (by omega)), bU hq hR']
  ·exact hnext a (q + 1) ha
 | succ c ih3 =>
  intro i hi a ha; have hiR : i < R := by omega
  have hnxt : i + 1 + c = R := by omega
  obtain ⟨e1, p1, l1⟩ := ix ha hiR hj hR hN; obtain ⟨e2, p2, l2⟩ := ix ha hq hj hR hN
  apply ExE.step
  ·intro k; rw [ak.l3, if_pos (ltc hiR), e1, e2, if_pos p1, if_pos l1, if_pos p2, if_pos l2]
  ·clear e1 e2 p1 p2 l1 l2; generalize rd a ((i * N + j : Nat) : Int) = x; generalize rd a ((q * N + j : Nat) : Int) = y; have hd := down (P := fun t => ∀ a : List Int, a.length = R * N → ExE (fun k => ak.l4 k P (R : Int) (N : Int) (s : Int) a (q : Int) (j : Int) (i : Int) x y (t : Int)) (fun _ => True)) N
    (by
     intro a ha
     apply ExE.step
     ·intro k; rw [ak.l4, if_neg (gec (Nat.le_refl N)), bU hiR hR']
     ·exact ih3 (i + 1) hnxt a ha)
    (by
     intro t ht ih4 a ha; obtain ⟨e3, p3, l3⟩ := ix ha hiR ht hR hN; obtain ⟨e4, p4, l4⟩ := ix ha hq ht hR hN
     apply ExE.step
     ·intro k; rw [ak.l4, if_pos (ltc ht), e3, e4, if_pos p3, if_pos l3, if_pos p4, if_pos l4, if_neg hP, bU ht hN']
     ·exact ih4 _ (by rw [List.length_set]; exact ha))
   exact hd a ha
theorem nD {q at_ : Nat} (hq : q < R) (hat : at_ < R) (a : List Int) (ha : a.length = R * N) : ExE (fun k => ak.l2 k P (R : Int) (N : Int) (s : Int) a (q : Int) (j : Int) (at_ : Int) 0) (fun _ => True) := by
 have hR' : R ≤ 17592186044416 := Nat.le_trans hR (by decide); have hN' : N ≤ 17592186044416 := Nat.le_trans hN (by decide); have hb := nc hR hN hP j hj hnext hq (R - (q + 1)) (q + 1) (by omega); have hd := down (P := fun t => ∀ a : List Int, a.length = R * N → ExE (fun k => ak.l2 k P (R : Int) (N : Int) (s : Int) a (q : Int) (j : Int) (at_ : Int) (t : Int)) (fun _ => True)) N
  (by
   intro a ha
   apply ExE.step
   ·intro k; rw [ak.l2, if_neg (gec (Nat.le_refl N)), bU hq hR']
   ·exact hb a ha)
  (by
   intro t ht ih2 a ha; obtain ⟨e3, p3, l3⟩ := ix ha hat ht hR hN; obtain ⟨e4, p4, l4⟩ := ix ha hq ht hR hN
   apply ExE.step
   ·intro k; rw [ak.l2, if_pos (ltc ht), e3, e4, if_pos p3, if_pos l3, if_pos p4, if_pos l4, bU ht hN']
   ·exact ih2 _ (by rw [List.length_set, List.length_set]; exact ha))
 exact hd a ha
theorem kz {q : Nat} (a : List Int) (ha : a.length = R * N) (at_ : Nat) (h1 : q ≤ at_) : ExE (fun k => ak.j2 k P (R : Int) (N : Int) (s : Int) a (q : Int) (j : Int) (at_ : Int)) (fun _ => True) := by
 apply ExE.step
 ·intro k; rw [ak.j2]
 ·exact ExE.ite (fun _ => hnext a q ha) (fun h => nD hR hN hP j hj hnext (by omega) (by omega) a ha)
theorem nm {q : Nat} (a : List Int) (ha : a.length = R * N) : ∀ (c at_ : Nat), R - at_ = c → q ≤ at_ → ExE (fun k => ak.l1 k P (R : Int) (N : Int) (s : Int) a (q : Int) (j : Int) (at_ : Int)) (fun _ => True) := by
 have hR' : R ≤ 17592186044416 := Nat.le_trans hR (by decide); intro c
 induction c with
 | zero =>
  intro at_ h1 h4
  apply ExE.step
  ·intro k; rw [ak.l1, if_neg (gec (by omega))]
  ·exact kz hR hN hP j hj hnext a ha at_ h4
 | succ c ih1 =>
  intro at_ h1 h4; have hatR : at_ < R := by omega
  have hn1 : R - (at_ + 1) = c := by omega
  have hn2 : q ≤ at_ + 1 := by omega
  obtain ⟨e1, p1, l1⟩ := ix ha hatR hj hR hN
  apply ExE.step
  ·intro k; rw [ak.l1, if_pos (ltc hatR), e1, if_pos p1, if_pos l1, bU hatR hR']
  ·exact ExE.ite (fun _ => ih1 (at_ + 1) hn1 hn2) (fun _ => kz hR hN hP j hj hnext a ha at_ h4)
end
theorem mA (hR : R ≤ 8) (hN : N ≤ 8) (hP : P ≠ 0) : ∀ (d j : Nat), j + d = N → ∀ (a : List Int) (q : Nat), a.length = R * N → ExE (fun k => ak.l0 k P (R : Int) (N : Int) (s : Int) a (q : Int) (j : Int)) (fun _ => True) := by
 have hN' : N ≤ 17592186044416 := Nat.le_trans hN (by decide); intro d
 induction d with
 | zero =>
  intro j hj a q ha
  apply ExE.step
  ·intro k; rw [ak.l0, if_neg (gec (by omega))]
  ·exact ExE.now trivial
 | succ d ih =>
  intro j hj a q ha; have hj8 : j < N := by omega
  have hj1 : j + 1 + d = N := by omega
  have hnext : ∀ (a : List Int) (q : Nat), a.length = R * N → ExE (fun k => ak.l0 k P (R : Int) (N : Int) (s : Int) a (q : Int) (wrap64 ((j : Int) + 1))) (fun _ => True) := by
   intro a q ha; rw [bU hj8 hN']; exact ih (j + 1) hj1 a q ha
  apply ExE.step
  ·intro k; rw [ak.l0, if_pos (ltc hj8)]
  ·refine ExE.cbind (P := fun _ => True) ⟨_, by unfold bG.f; rw [if_pos (dW _)], trivial⟩ ?_; rintro b -; exact ExE.ite (fun _ => nm hR hN hP j hj8 hnext a ha (R - q) q rfl (Nat.le_refl _)) (fun _ => hnext a q ha)
theorem jE (hR : R ≤ 8) (hN : N ≤ 8) (hP : P ≠ 0) {a : List Int} (ha : a.length = R * N) : ExE (fun k => ak.f k P (R : Int) (N : Int) a (s : Int)) (fun _ => True) := by
 unfold ak.f; refine ExE.cbind (P := fun y => y = []) ⟨_, rfl, rfl⟩ ?_; rintro y rfl; have h64 : R * N ≤ 8 * 8 := Nat.mul_le_mul hR hN; refine ExE.ifp (by rw [ha]; simp; omega) ?_; rw [List.nil_append]; exact mA hR hN hP N 0 (by omega) a 0 ha
theorem kR (hR : R ≤ 8) (hN : N ≤ 8) (hP : P ≠ 0) {a : List Int} (ha : a.length = R * N) : ExE (fun k => bS.f k P (R : Int) (N : Int) a) (fun q => q.1 = (N : Int) ∧ q.2.length ≤ 256) := by
 unfold bS.f; have h256 := bj hN; have hp := Nat.two_pow_pos N; refine ExE.cbind (P := fun x => x = ((dm N : Nat) : Int)) ⟨_, cV hN, rfl⟩ ?_; rintro x rfl; refine ExE.bind (jE hR hN hP ha) ?_; rintro r -; have hd := down (P := fun i => ∀ l : List Int, l.length ≤ i → ExE (fun k => bS.l0 k P (R : Int) (N : Int) a r (i : Int) (N : Int) l) (fun q => q.1 = (N : Int) ∧ q.2.length ≤ 256)) (2 ^ N)
  (by
   intro l hl
   apply ExE.step
   ·intro k; rw [bS.l0, cV hN, Option.bind_some, if_neg (by unfold dm; omega)]
   ·exact ExE.now ⟨rfl, by simp only []; omega⟩)
  (by
   intro i hi ih l hl
   apply ExE.step
   ·intro k; rw [bS.l0, cV hN, Option.bind_some, if_pos (by unfold dm; omega), bU hi (by omega)]
   ·refine ExE.ev (dk i (by omega)) (ExE.ite (fun _ => ?_) (fun _ => ih _ (by omega))); refine ExE.bind (jE hR hN hP ha) ?_; rintro c -; exact ExE.ite (fun _ => ExE.ifp (by omega) (ih _ (by rw [List.length_append, List.length_singleton]; omega))) (fun _ => ih _ (by omega)))
 exact hd [] (Nat.zero_le _)
end
theorem kj {b : List Int} (hb : b.length ≤ 17592186044416) {p h : Int} (hp : 0 ≤ p) {n : Nat} (hn : n ≤ 8) : ExE (fun k => bv.f k b p h (n : Int)) (fun q => q.1 = (n : Int) ∧ q.2.1.length ≤ 256 ∧ 0 ≤ q.2.2.1) := by
 unfold bv.f; obtain ⟨u, eu, u1, u2⟩ := fo hb (h := h) hp (l := [2, 3, 5, 2]) (by simp); refine ExE.cbind (P := fun a => a = u) ⟨u, eu, rfl⟩ ?_; intro u' e; subst e; obtain ⟨v, ev, v1, v2, _, v3⟩ := cw hb (h := u'.2.2) u2 3; refine ExE.cbind (P := fun a => a = v) ⟨v, ev, rfl⟩ ?_; intro v' e; subst e; have v2 := v2 (by omega); obtain ⟨R, hR⟩ : ∃ R : Nat, wrap64 (1 + v'.1) = (R : Int) ∧ R ≤ 3 := by
  rw [bD (by omega) (by omega)]; exact ⟨(1 + v'.1).toNat, by omega, by omega⟩
 rw [hR.1]; have hRn : R * n ≤ 3 * 8 := Nat.mul_le_mul hR.2 hn; have hP : u'.1 ≠ 0 := by
  intro h0; rw [h0] at u1; simp at u1
 have hmul : wrap64 ((R : Int) * (n : Int)) = ((R * n : Nat) : Int) := by
  rw [show (R : Int) * (n : Int) = ((R * n : Nat) : Int) from by simp, bD (by omega) (by omega)]
 have hd := down (P := fun i => ∀ (l : List Int) (p h : Int), 0 ≤ p → l.length = i → ExE (fun k => bv.l0 k (n : Int) u'.1 (R : Int) l (i : Int) b p h) (fun q => q.1 = (n : Int) ∧ q.2.1.length ≤ 256 ∧ 0 ≤ q.2.2.1)) (R * n)
  (by
   intro l p h hp hl
   apply ExE.step
   ·intro k; rw [bv.l0, hmul, if_neg (by omega)]
   ·refine ExE.bind (kR (by omega) hn hP hl) ?_; rintro q ⟨q1, q2⟩; exact ExE.now ⟨q1, q2, hp⟩)
  (by
   intro i hi ih l p h hp hl; obtain ⟨x, ex, _, _, _, x3⟩ := cw hb (h := h) hp u'.1
   apply ExE.step
   ·intro k; rw [bv.l0, hmul, if_pos (by omega), bU hi (by omega)]
   ·refine ExE.cbind (P := fun a => a = x) ⟨x, ex, rfl⟩ ?_; rintro _ rfl; exact ExE.ifp (by omega) (ih _ _ _ x3 (by rw [List.length_append, List.length_singleton]; omega)))
 exact hd [] _ _ v3 rfl
theorem Ev.ofMono {α : Type} {g : Nat → Option α} (h : ∀ k, LeO (g k) (g (k + 1))) {K : Nat} {r : α} (e : g K = some r) : Ev g r := by
 refine ⟨K, fun k hk => ?_⟩; obtain ⟨d, rfl⟩ : ∃ d, k = K + d := ⟨k - K, by omega⟩; clear hk
 induction d with
 | zero => exact e
 | succ d ih => exact h (K + d) r ih
theorem em {s : ByteArray} {r : Int × List Int × Bool} (h : bd.f 300 s = some r) {P : Int × List Int × Bool → Prop} (hp : P r) : ExE (fun k => bd.f k s) P := ⟨r, Ev.ofMono (g := fun k => bd.f k s) (fun k => bd.mono s k) h, hp⟩
theorem mD {b : List Int} (hb : b.length ≤ 17592186044416) {p h : Int} (hp : 0 ≤ p) {l : List ByteArray} (hl : l ≠ []) : ∃ r, dI.f b p h l = some r ∧ (∃ i, i < l.length ∧ r.1 = l.getD i ByteArray.empty) ∧ 0 ≤ r.2.1 := by
 unfold dI.f; obtain ⟨r, e, r1, r2, _, r3⟩ := cw hb (h := h) hp (l.length : Int); have h0 : 0 < l.length := List.length_pos_iff.2 hl; have hlt := r2 (by omega); rw [e, Option.bind_some, if_pos r1, if_pos hlt]; refine ⟨_, rfl, ⟨r.1.toNat, by omega, ?_⟩, r3⟩; unfold rdOf
 rfl
def NmP (r : Int × List Int × Bool) : Prop := 0 ≤ r.1 ∧ r.1 ≤ 8 ∧ r.2.1.length ≤ 256
theorem ln {b : List Int} (hb : b.length ≤ 17592186044416) {p h : Int} (hp : 0 ≤ p) : ExE (fun k => dJ.f k b p h) (fun q => 0 ≤ q.1 ∧ q.1 ≤ 8 ∧ q.2.1.length ≤ 256 ∧ 0 ≤ q.2.2.1) := by
 unfold dJ.f; obtain ⟨u, eu, ⟨i, hi, u1⟩, u2⟩ := mD hb (h := h) hp (l := [(⟨#[48, 32, 45]⟩ : ByteArray), (⟨#[49, 32, 45]⟩ : ByteArray), (⟨#[49, 32, 97]⟩ : ByteArray), (⟨#[52, 32, 97, 98, 44, 97, 99, 44, 98, 99, 44, 97, 100, 44, 98, 100, 44, 99, 100]⟩ : ByteArray), (⟨#[52, 32, 97, 98, 44, 97, 99, 44, 97, 100, 44, 98, 100, 44, 99, 100]⟩ : ByteArray), (⟨#[51, 32, 97, 44, 98]⟩ : ByteArray), (⟨#[53, 32, 97, 98, 44, 97, 99, 44, 98, 99, 44, 97, 100, 44, 98, 100]⟩ : ByteArray), (⟨#[50, 32, 45]⟩ : ByteArray), (⟨#[51, 32, 97, 98, 99]⟩ : ByteArray)]) (by simp); refine ExE.cbind (P := fun a => a = u) ⟨u, eu, rfl⟩ ?_; intro u' e; subst e; have key : ExE (fun k => bd.f k u'.1) NmP := by
  rw [u1]; simp only [List.length_cons, List.length_nil] at hi
  match i, hi with
  | 0, _ => exact em (r := (0, [0], true)) (by decide +kernel) (by unfold NmP; decide)
  | 1, _ => exact em (r := (1, [0], true)) (by decide +kernel) (by unfold NmP; decide)
  | 2, _ => exact em (r := (1, [1], true)) (by decide +kernel) (by unfold NmP; decide)
  | 3, _ => exact em (r := (4, [3, 5, 6, 9, 10, 12], true)) (by decide +kernel) (by unfold NmP; decide)
  | 4, _ => exact em (r := (4, [3, 5, 9, 10, 12], true)) (by decide +kernel) (by unfold NmP; decide)
  | 5, _ => exact em (r := (3, [1, 2], true)) (by decide +kernel) (by unfold NmP; decide)
  | 6, _ => exact em (r := (5, [3, 5, 6, 9, 10], true)) (by decide +kernel) (by unfold NmP; decide)
  | 7, _ => exact em (r := (2, [0], true)) (by decide +kernel) (by unfold NmP; decide)
  | 8, _ => exact em (r := (3, [7], true)) (by decide +kernel) (by unfold NmP; decide)
  | n + 9, h => omega
 refine ExE.bind key ?_; rintro q ⟨q1, q2, q3⟩; exact ExE.now ⟨q1, q2, q3, u2⟩
theorem jB {b : List Int} (hb : b.length ≤ 17592186044416) {p h : Int} (hp : 0 ≤ p) {n : Int} (h0 : 0 ≤ n) (h8 : n ≤ 8) : ExE (fun k => cC.f k b p h n) (fun q => 0 ≤ q.1 ∧ q.1 ≤ 8 ∧ q.2.1.length ≤ 256 ∧ 0 ≤ q.2.2.1) := by
 unfold cC.f; rw [bD (n := n + 1) (by omega) (by omega)]; obtain ⟨u, eu, u1, u2, _, u3⟩ := cw hb (h := h) hp 6; refine ExE.cbind (P := fun a => a = u) ⟨u, eu, rfl⟩ ?_; intro u' e; subst e; have hcol : ∀ (p h : Int), 0 ≤ p → ExE (fun k => (an.f b p h (n + 1)).bind fun x => ((bv.f k b x.2.1 x.2.2 x.1).bind fun y => (some (y.1, y.2.1, y.2.2.1, y.2.2.2)))) (fun q => 0 ≤ q.1 ∧ q.1 ≤ 8 ∧ q.2.1.length ≤ 256 ∧ 0 ≤ q.2.2.1) := by
  intro p h hp; obtain ⟨v, ev, v1, v2, _, v3⟩ := cw hb (h := h) hp (n + 1); refine ExE.cbind (P := fun a => a = v) ⟨v, ev, rfl⟩ ?_; intro v' e; subst e; have v2 := v2 (by omega); obtain ⟨m, hm⟩ := Int.eq_ofNat_of_zero_le v1; rw [hm]; refine ExE.bind (kj hb v3 (n := m) (by omega)) ?_; rintro q ⟨q1, q2, q3⟩; exact ExE.now ⟨by simp only []; omega, by simp only []; omega, q2, q3⟩
 refine ExE.ite (fun _ => ?_) (fun _ => ExE.ite (fun _ => ?_) (fun _ => hcol _ _ u3))
 ·obtain ⟨v, ev, v1, v2, _, v3⟩ := cw hb (h := u'.2.2) u3 (n + 1); refine ExE.cbind (P := fun a => a = v) ⟨v, ev, rfl⟩ ?_; intro v' e; subst e; obtain ⟨w, ew, w1, w2, _, w3⟩ := cw hb (h := v'.2.2) v3 (wrap64 (v'.1 + 1)); refine ExE.cbind (P := fun a => a = w) ⟨w, ew, rfl⟩ ?_; intro w' e; subst e; refine ExE.bind (lw w'.1 v'.1) ?_; rintro q ⟨q1, q2, q3, q4⟩; exact ExE.now ⟨q1, q2, q4, w3⟩
 ·refine ExE.bind (ln hb u3) ?_; rintro q ⟨q1, q2, q3, q4⟩; exact ExE.ite (fun _ => ExE.now ⟨q1, q2, q3, q4⟩) (fun _ => hcol _ _ q4)
theorem mG (X : List Int) : ∀ acc : List Int, (ek acc X).length ≤ acc.length + X.length := by
 induction X with
 | nil => intro acc; exact Nat.le_refl _
 | cons x X ih =>
  intro acc; have h1 := ih (insO x acc); have h2 := kI x acc; rw [List.length_cons]
  show (ek (insO x acc) X).length ≤ _
  omega
theorem jD {b : List Int} (hb : b.length ≤ 17592186044416) {p h : Int} (hp : 0 ≤ p) : ∃ r, dC.f b p h = some r ∧ 0 ≤ r.2.1 := by
 unfold dC.f; obtain ⟨u, eu, u1⟩ := mj hb (h := h) hp 8; rw [eu, Option.bind_some]; by_cases hc : u.1 = true
 ·rw [if_pos hc]; obtain ⟨v, ev, _, v2⟩ := fo hb (h := u.2.2) u1 (l := [(-1), 256, 1000, (-9223372036854775808)]) (by simp); rw [ev, Option.bind_some]; exact ⟨_, rfl, v2⟩
 ·rw [if_neg hc]; unfold ei.f; obtain ⟨v, ev, _, _, _, v3⟩ := cw hb (h := u.2.2) u1 256; rw [ev, Option.bind_some, Option.bind_some]; exact ⟨_, rfl, v3⟩
theorem ms {b : List Int} (hb : b.length ≤ 17592186044416) {p h : Int} (hp : 0 ≤ p) (n : Int) : ExE (fun k => cq.f k b p h n) (fun r => r.1.length ≤ 6 ∧ 0 ≤ r.2.1) := by
 unfold cq.f; obtain ⟨c, e, c1, c2, _, c3⟩ := cw hb (h := h) hp 6; refine ExE.cbind (P := fun a => a = c) ⟨c, e, rfl⟩ ?_; rintro a rfl; obtain ⟨m, hm⟩ := Int.eq_ofNat_of_zero_le c1; have hm5 : m < 6 := by have := c2 (by omega); omega
 rw [hm]; have hd := down (P := fun i => ∀ (l : List Int) (p h : Int), 0 ≤ p → l.length ≤ i → ExE (fun k => cq.l0 k n l (m : Int) (i : Int) b p h) (fun r => r.1.length ≤ 6 ∧ 0 ≤ r.2.1)) m
  (by
   intro l p h hp hl
   apply ExE.step
   ·intro k; rw [cq.l0, if_neg (by omega)]
   ·exact ExE.now ⟨by simp only []; omega, hp⟩)
  (by
   intro i hi ih l p h hp hl
   apply ExE.step
   ·intro k; rw [cq.l0, if_pos (by omega), if_pos (dW _), bU hi (by omega)]
   ·obtain ⟨x, ex, _, _, _, x3⟩ := cw hb (h := h) hp (shl .i64 1 (IntKind.u64.wrap n)); refine ExE.cbind (P := fun a => a = x) ⟨x, ex, rfl⟩ ?_; rintro a rfl; exact ExE.ifp (by omega) (ih _ _ _ x3 (by rw [List.length_append, List.length_singleton]; omega)))
 exact hd [] _ _ c3 (Nat.le_refl _)
theorem jL {b : List Int} (hb : b.length ≤ 17592186044416) {p h : Int} (hp : 0 ≤ p) {n : Int} (h0 : 0 ≤ n) (h8 : n ≤ 8) : ExE (fun k => bk.f k b p h n) (fun q => -1 ≤ q.1 ∧ q.1 ≤ 9 ∧ q.2.1.length ≤ 300 ∧ 0 ≤ q.2.2.1) := by
 unfold bk.f; refine ExE.bind (jB hb hp h0 h8) ?_; rintro m ⟨m1, m2, m3, m4⟩; obtain ⟨u, eu, u1, u2, _, u3⟩ := cw hb (h := m.2.2.2) m4 10; refine ExE.cbind (P := fun a => a = u) ⟨u, eu, rfl⟩ ?_; intro u' e; subst e; refine ExE.ite (fun _ => ?_) (fun _ => ExE.ite (fun _ => ?_) (fun _ => ExE.ite (fun _ => ?_) (fun _ => ExE.ite (fun _ => ?_) (fun _ => ExE.now ⟨by simp only []; omega, by simp only []; omega, by simp only []; omega, u3⟩))))
 ·obtain ⟨v, ev, v1, v2⟩ := fo hb (h := u'.2.2) u3 (l := [(-1), 0, 2, 9]) (by simp); refine ExE.cbind (P := fun a => a = v) ⟨v, ev, rfl⟩ ?_; intro v' e; subst e; have hv : -1 ≤ v'.1 ∧ v'.1 ≤ 9 := by
   simp only [List.mem_cons, List.not_mem_nil, or_false] at v1; omega
  exact ExE.now ⟨hv.1, hv.2, by simp only []; omega, v2⟩
 ·obtain ⟨v, ev, v1⟩ := jD hb (h := u'.2.2) u3; refine ExE.cbind (P := fun a => a = v) ⟨v, ev, rfl⟩ ?_; intro v' e; subst e; exact ExE.ifp (by omega) (ExE.now ⟨by simp only []; omega, by simp only []; omega, by simp only [List.length_append, List.length_singleton]; omega, v1⟩)
 ·refine ExE.ite (fun hlen => ?_) (fun _ => ExE.now ⟨by simp only []; omega, by simp only []; omega, by simp only []; omega, u3⟩); obtain ⟨v, ev, v1, v2, _, v3⟩ := cw hb (h := u'.2.2) u3 (m.2.1.length : Int); refine ExE.cbind (P := fun a => a = v) ⟨v, ev, rfl⟩ ?_; intro v' e; subst e; have v2 := v2 (by omega); have hw : wrap64 (v'.1 + 1) = v'.1 + 1 := bD (by omega) (by omega); rw [hw]; have ht1 : (m.2.1.take v'.1.toNat).length ≤ m.2.1.length := by rw [List.length_take]; omega
  have ht2 : (m.2.1.drop (v'.1 + 1).toNat).length ≤ m.2.1.length := by rw [List.length_drop]; omega
  have ht3 : (m.2.1.take v'.1.toNat).length + (m.2.1.drop (v'.1 + 1).toNat).length ≤ 300 := by rw [List.length_take, List.length_drop]; omega
  refine ExE.cbind (P := fun y => y = []) ⟨_, rfl, rfl⟩ ?_; rintro y rfl; refine ExE.ifp v1 (ExE.ifp (by omega) ?_); refine ExE.cbind (P := fun y => y = m.2.1.take v'.1.toNat) ⟨_, rfl, rfl⟩ ?_; rintro y rfl; refine ExE.ifp (by simp only [List.length_nil]; omega) ?_; refine ExE.cbind (P := fun y => y = m.2.1.take v'.1.toNat) ⟨_, rfl, by simp⟩ ?_; rintro y rfl; refine ExE.ifp (by omega) (ExE.ifp (by omega) ?_); refine ExE.cbind (P := fun y => y = m.2.1.drop (v'.1 + 1).toNat) ⟨_, rfl, rfl⟩ ?_; rintro y rfl; exact ExE.ifp (by omega) (ExE.now ⟨by simp only []; omega, by simp only []; omega, by simp only [List.length_append]; omega, v3⟩)
 ·refine ExE.cbind (P := fun _ => True) ⟨_, by unfold eT.f; exact (apply_ite some _ _ _).symm, trivial⟩ ?_; rintro x -; refine ExE.cbind (P := fun _ => True) ⟨_, by unfold dM.f; exact (apply_ite some _ _ _).symm, trivial⟩ ?_; rintro y -; refine ExE.bind (ms hb u3 y) ?_; rintro q ⟨q1, q2⟩; refine ExE.ev (eX q.1 (by omega)) ?_; have := mG q.1 []; exact ExE.now ⟨by simp only []; omega, by simp only []; omega, by simp only [List.length_nil] at this ⊢; omega, q2⟩
theorem eQ (n : Int) (l : List Int) (hl : l.length ≤ 17592186044416) : Ev (fun k => aD.f k n l n l) true := by
 unfold aD.f; have hd := down (P := fun i => Ev (fun k => aD.l0 k (i : Int) n l n l) true) l.length
  (by
   apply Ev.step
   ·intro k; rw [aD.l0, if_neg (by omega)]
   ·exact Ev.now _)
  (by
   intro i hi ih
   apply Ev.step
   ·intro k; rw [aD.l0, if_pos (by omega), if_pos (by omega), if_pos (by omega), if_pos rfl, bU hi hl]
   ·exact ih)
 refine Ev.ifp rfl ?_
 apply Ev.step
 ·intro k; rw [aD.j0]
 ·exact Ev.ifn (by simp) hd
theorem kW (n : Int) (l : List Int) (hl : l.length ≤ 17592186044416) : ExE (fun k => cZ.f k n l) (fun r => r.length ≤ 256) := by
 unfold cZ.f; refine ExE.ev (dg n l hl) ?_; refine ExE.ite (fun h => ?_) (fun _ => ExE.now (Nat.zero_le _)); obtain ⟨m, L, rfl, rfl, hM, _⟩ := dx h; refine ExE.ev (fB hM (by rw [ints_len] at hl; exact hl)) (ExE.now ?_); rw [ints_len]; exact gR hM.size L
theorem ml (l : List Int) (hl : l.length ≤ 17592186044416) : ExE (fun k => cX.f k l) (fun r => r.2.1.length ≤ 300) := by
 unfold cX.f; refine ExE.bind (gV l hl) ?_; rintro ⟨b, p, h⟩ ⟨rfl, hp⟩; simp only at hp; subst hp; refine ExE.bind (jL hl (Int.le_refl 0) (by decide) (by decide)) ?_; rintro q ⟨_, _, q3, q4⟩; obtain ⟨v, ev, _⟩ := cw hl (h := q.2.2.2) q4 5; refine ExE.cbind (P := fun a => a = v) ⟨v, ev, rfl⟩ ?_; rintro a rfl; exact ExE.now q3
theorem mv (l : List Int) (hl : l.length ≤ 17592186044416) : ExE (fun k => cW.f k l) (fun r => r.2.length ≤ 300) := by
 unfold cW.f; refine ExE.bind (gV l hl) ?_; rintro ⟨b, p, h⟩ ⟨rfl, hp⟩; simp only at hp; subst hp; refine ExE.bind (jL hl (Int.le_refl 0) (by decide) (by decide)) ?_; rintro q ⟨_, _, q3, q4⟩; exact ExE.now q3
theorem mr (l : List Int) (hl : l.length ≤ 17592186044416) : ExE (fun k => ax.f k l) (fun r => r.2.1.length ≤ 10) := by
 unfold ax.f; refine ExE.bind (gV l hl) ?_; rintro ⟨b, p, h⟩ ⟨rfl, hp⟩; simp only at hp; subst hp; obtain ⟨x, ex, x0, x1, _, x3⟩ := cw hl (h := h) (Int.le_refl 0) 7; refine ExE.cbind (P := fun a => a = x) ⟨x, ex, rfl⟩ ?_; rintro a rfl; have x1 := x1 (by decide); obtain ⟨n, hn⟩ := Int.eq_ofNat_of_zero_le x0; refine ExE.cbind (P := fun a => a = (dm n : Int)) ⟨_, by rw [hn]; exact cV (by omega), rfl⟩ ?_; rintro f rfl; obtain ⟨c, ec, c0, c1, _, c3⟩ := cw hl (h := a.2.2) x3 4; refine ExE.cbind (P := fun a => a = c) ⟨c, ec, rfl⟩ ?_; rintro y rfl; have c1 := c1 (by decide); obtain ⟨m, hm⟩ := Int.eq_ofNat_of_zero_le c0; have hm4 : m < 4 := by omega
 rw [hm]; have hd := down (P := fun i => ∀ (u v : List Int) (f p h : Int), 0 ≤ p → u.length ≤ i → v.length ≤ i → ExE (fun k => ax.l0 k a.1 u v f (m : Int) (i : Int) b p h) (fun r => r.2.1.length ≤ 10)) m
  (by
   intro u v f p h hp hu hv
   apply ExE.step
   ·intro k; rw [ax.l0, if_neg (by omega)]
   ·obtain ⟨z, ez, _⟩ := cw hl (h := h) hp 10; refine ExE.cbind (P := fun a => a = z) ⟨z, ez, rfl⟩ ?_; rintro w rfl; refine ExE.ite (fun _ => ?_) (fun _ => ExE.ite (fun _ => ?_) (fun _ => ExE.now (by simp only []; omega)))
    ·exact ExE.ifp (by omega) (ExE.now (by simp only [List.length_append, List.length_singleton]; omega))
    ·exact ExE.ifp (by omega) (ExE.ifp (by omega) (ExE.now (by simp only [List.length_append, List.length_singleton]; omega))))
  (by
   intro i hi ih u v f p h hp hu hv
   apply ExE.step
   ·intro k; rw [ax.l0, if_pos (by omega), if_pos (dW _), bU hi (by omega)]
   ·obtain ⟨z, ez, _, _, _, z3⟩ := cw hl (h := h) hp (shl .i64 1 (IntKind.u64.wrap a.1)); refine ExE.cbind (P := fun a => a = z) ⟨z, ez, rfl⟩ ?_; rintro w rfl; refine ExE.ifp (by omega) ?_; obtain ⟨t, et, _, _, _, t3⟩ := cw hl (h := w.2.2) z3 3; refine ExE.cbind (P := fun a => a = t) ⟨t, et, rfl⟩ ?_; rintro o rfl; exact ExE.ifp (by omega) (ih _ _ _ _ _ t3 (by rw [List.length_append, List.length_singleton]; omega) (by rw [List.length_append, List.length_singleton]; omega)))
 exact hd [] [] _ _ _ c3 (Nat.le_refl _) (Nat.le_refl _)
theorem mo (l : List Int) (hl : l.length ≤ 17592186044416) : ExE (fun k => dp.f k l) (fun r => r.2.1.length ≤ 300) := by
 unfold dp.f; refine ExE.bind (gV l hl) ?_; rintro ⟨b, p, h⟩ ⟨rfl, hp⟩; simp only at hp; subst hp; refine ExE.bind (P := fun r => r.2.1.length ≤ 300) ?_ (fun a ha => ExE.now ha); unfold cy.f; refine ExE.bind (jB hl (Int.le_refl 0) (by decide) (by decide)) ?_; rintro q ⟨_, _, q3, q4⟩; refine ExE.bind (kW q.1 q.2.1 (by omega)) ?_; intro C hC; have hd := down (P := fun i => ExE (fun k => cy.l0 k C (i : Int) b q.2.2.1 q.2.2.2 q.1 q.2.1) (fun r => r.2.1.length ≤ 300)) C.length
  (by
   apply ExE.step
   ·intro k; rw [cy.l0, if_neg (by omega)]
   ·obtain ⟨z, ez, _⟩ := jD hl (h := q.2.2.2) q4; refine ExE.cbind (P := fun a => a = z) ⟨z, ez, rfl⟩ ?_; rintro w rfl; exact ExE.now (by simp only []; omega))
  (by
   intro i hi ih
   apply ExE.step
   ·intro k; rw [cy.l0, if_pos (by omega), if_pos (by omega), bU hi (by omega)]
   ·refine ExE.ev (gA q.1 q.2.1 _ (by omega)) ?_; exact ExE.ite (fun _ => ExE.now (by simp only []; omega)) (fun _ => ih))
 exact hd
theorem k6 {m : Nat} {D : List Nat} (h : matB (m : Int) (ints D) = true) (hl : D.length ≤ 17592186044416) {t : Nat} (ht : t ∈ D) (htm : t < 2 ^ m) (ht256 : t < 256) : Ev (fun k => db.f k (m : Int) (ints D) (t : Int)) true := by
 obtain ⟨m', D', e1, e2, hM, _⟩ := dx h; have e1 : m = m' := by omega
 subst e1; have e2 : D = D' := by
  have := congrArg (fun l => l.map Int.toNat) e2
  rwa [show (ints D).map Int.toNat = D from cu D, show (ints D').map Int.toNat = D' from cu D'] at this
 subst e2; have hset : dP (m : Int) (t : Int) = true := by
  rw [ja, decide_eq_true hM.size, decide_eq_true htm]; rfl
 have hr : rkN D t = pc t := (ey ht256 hM.some).2 (indN_iff.2 ⟨t, ht, fJ t⟩); unfold db.f; refine Ev.bind (a := (rkN D t : Int)) ?_ (Ev.bind (dk t ht256) (Ev.ifp (by rw [hr]) (Ev.cbind (specIsSet_eq _ _) ?_)))
 ·unfold dX.f; refine Ev.bind (dg _ _ (by rw [ints_len]; exact hl)) (Ev.ifp h (Ev.cbind (specIsSet_eq _ _) (Ev.ifp hset (Ev.bind (eh _ D t hl hM.lt ht256) (Ev.now _)))))
 ·rw [hset]; exact Ev.now _
end Go.Proofs.YtimkekeaeojpkaaGreat.Q
namespace Go.Proofs.YtimkekeaeojpkaaGreat.Pure
open Go Go.RowKit Go.Proofs.YtimkekeaeojpkaaGreat.A Go.Proofs.YtimkekeaeojpkaaGreatW.PrintWords Go.Proofs.YtimkekeaeojpkaaGreatW.PrintLast Go.Proofs.YtimkekeaeojpkaaGreatW.PrintMore Go.Proofs.YtimkekeaeojpkaaGreat.Z Go.Proofs.YtimkekeaeojpkaaGreat.Q
set_option linter.unusedVariables false
set_option linter.unusedSimpArgs false
theorem jP (n : Int) (l : List Int) (s : Int) (hl : l.length ≤ 300) : Ev (fun k => laws_FnSpecial.j1 k s (dy n l s).2.2 false n l (dy n l s).1 (dy n l s).2.1) true := by
 have hlen := jc n l s
 apply Ev.step
 ·intro k; rw [laws_FnSpecial.j1, if_neg (by simp)]
 ·by_cases h : (dy n l s).2.2 = true
  ·refine Ev.ifp h ?_; obtain ⟨m, L, t, rfl, rfl, rfl, ht256, htm, e1, D, e2, hmat, htD, hd⟩ := lu h; rw [e1, e2]; rw [e2] at hlen; have hlen' : (ints D).length ≤ 17592186044416 := by omega
   rw [ints_len] at hlen'; refine Ev.bind (dg _ _ (by omega)) (Ev.ifp hmat (Ev.bind (k6 hmat hlen' htD htm ht256) (Ev.ifp rfl ?_))); have e : (((ints D).length : Int) == wrap64 (((ints L).length : Int) + 1)) = true := by
    rw [bD (by omega) (by omega), ints_len, ints_len, hd]; simp
   rw [e]; exact Ev.now _
  ·exact Ev.ifn h (Ev.now _)
theorem mB (n : Int) (l : List Int) (r : Int) (n2 : Int) (l2 w2 : List Int) (n3 : Int) (l3 : List Int) (s : Int) (p : Bool) (hl : l.length ≤ 300) (hl2 : l2.length ≤ 10) (hl3 : l3.length ≤ 300) : Ev (fun k => laws_FnSpecial.j0 k r (dT n l r).2.2 (pmB n2 l2 w2).2.2 s (dy n3 l3 s).2.2 (p != p) (dT n l r).1 (dT n l r).2.1 (pmB n2 l2 w2).1 (pmB n2 l2 w2).2.1 n3 l3 (dy n3 l3 s).1 (dy n3 l3 s).2.1) true := by
 have h1 := iP n l r; have h2 := l8 n2 l2 w2; rw [show (p != p) = false by simp]; have hj : Ev (fun k => if (pmB n2 l2 w2).2.2 = true then (ao.f k (pmB n2 l2 w2).1 (pmB n2 l2 w2).2.1).bind fun t => laws_FnSpecial.j1 k s (dy n3 l3 s).2.2 (!t) n3 l3 (dy n3 l3 s).1 (dy n3 l3 s).2.1 else laws_FnSpecial.j1 k s (dy n3 l3 s).2.2 false n3 l3 (dy n3 l3 s).1 (dy n3 l3 s).2.1) true := by
  by_cases hp : (pmB n2 l2 w2).2.2 = true
  ·refine Ev.ifp hp (Ev.bind (dg _ _ (by omega)) ?_); rw [nE hp, Bool.not_true]; exact jP n3 l3 s hl3
  ·exact Ev.ifn hp (jP n3 l3 s hl3)
 apply Ev.step
 ·intro k; rw [laws_FnSpecial.j0, if_neg (by simp)]
 ·by_cases h : (dT n l r).2.2 = true
  ·obtain ⟨hm, hr⟩ := lN h; exact Ev.ifp h (Ev.bind (dg _ _ (by omega)) (Ev.ifp hm (Ev.bind (fb _ _ (by omega)) (Ev.ifp hr hj))))
  ·exact Ev.ifn h hj
theorem FnSpecial : laws_FnSpecial.Pure := by
 intro l0 hm hm1 hw; unfold laws_FnSpecial.f; refine Ev.rounds ?_; refine Ev.cbind rfl ?_; by_cases hb : (l0.length : Int) > 1048576
 ·exact Ev.ifp (decide_eq_true hb) (Ev.now _)
 refine Ev.ifn (by simpa using hb) ?_; have hl0 : l0.length ≤ 17592186044416 := by omega
 obtain ⟨⟨n1, l1, r1⟩, d1, p1⟩ := ml l0 hl0; obtain ⟨⟨n2, l2, w2⟩, d2, p2⟩ := mr l0 hl0; obtain ⟨⟨n3, l3, s3⟩, d3, p3⟩ := mo l0 hl0; obtain ⟨⟨n4, l4⟩, d4, p4⟩ := mv l0 hl0; simp only at p1 p2 p3 p4; have h1 := iP n1 l1 r1; have h2 := l8 n2 l2 w2; have h3 := jc n3 l3 s3; refine Ev.bind d1 (Ev.bind (jZ n1 l1 r1 (by omega)) (Ev.bind (jU n1 l1 r1 (by omega)) (Ev.bind d2 (Ev.bind (km n2 l2 w2 (by omega)) (Ev.bind (kY n2 l2 w2 (by omega)) (Ev.bind d3 (Ev.bind (jV n3 l3 s3 (by omega)) (Ev.bind (j4 n3 l3 s3 (by omega)) (Ev.bind d4 ?_))))))))); refine Ev.ifn (by simp) (Ev.bind (eQ _ _ (by omega)) (Ev.ifp rfl (Ev.ifn (by simp) (Ev.bind (eQ _ _ (by omega)) (Ev.ifp rfl (Ev.ifn (by simp) (Ev.bind (eQ _ _ (by omega)) (Ev.ifp rfl ?_)))))))); exact Ev.bind (iJ n3 l3 s3 (by omega)) (Ev.bind (gA n3 l3 s3 (by omega)) (Ev.ifn (by simp) (Ev.bind (ks n4 l4 (by omega)) (Ev.bind (kU n4 l4 (by omega)) (mB n1 l1 r1 n2 l2 w2 n3 l3 s3 _ p1 p2 p3)))))
end Go.Proofs.YtimkekeaeojpkaaGreat.Pure
