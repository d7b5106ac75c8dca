/- The pure side of the law FnWeighted: what the Lean functions of the print compute, and that the law holds of them. Conditions: those in each lemma. -/
import Derived.Test.YtimkekeaeojpkaaGreatMFnWeighted1
import Derived.Test.YtimkekeaeojpkaaGreatMFnWeighted2
import Derived.Test.YtimkekeaeojpkaaGreatMFnWeighted3
import Derived.Test.YtimkekeaeojpkaaGreatMFnWeighted4
import Derived.Test.YtimkekeaeojpkaaGreatMFnWeighted5
import Derived.Test.YtimkekeaeojpkaaGreatMFnWeighted6
import Derived.Test.YtimkekeaeojpkaaGreatMFnWeightedq0
import Derived.Test.YtimkekeaeojpkaaGreatMFnWeightedq1
namespace Go.Proofs.YtimkekeaeojpkaaGreat.Q
open Go Go.RowKit Go.Proofs.YtimkekeaeojpkaaGreat.A Go.Proofs.YtimkekeaeojpkaaGreatW.PrintWords Go.Proofs.YtimkekeaeojpkaaGreatW.PrintLast Go.Proofs.YtimkekeaeojpkaaGreatW.PrintMore Go.Proofs.YtimkekeaeojpkaaGreat.Z
set_option linter.unusedVariables false
set_option linter.unusedSimpArgs false
def jr (n : Int) (l : List Int) : Bool := l.all (dJ n)
def dN (n : Int) (l : List Int) : Bool := (decide (0 ≤ n) && decide (n ≤ 8)) && (decide (l.length ≤ 6) && jr n l)
theorem g6 (n : Int) (l : List Int) (hl : l.length ≤ 17592186044416) : Ev (fun k => be.f k n l) (jr n l) := by
 have h := down (P := fun i => Ev (fun k => be.l0 k n l (i : Int)) (jr n (l.drop i))) l.length
  (by
   apply Ev.step
   ·intro k; simp only [be.l0, specIsSet_eq, Option.bind_some]; rw [if_neg (by omega)]
   ·rw [c9]; exact Ev.now _)
  (by
   intro i hi ih
   apply Ev.step
   ·intro k; simp only [be.l0, specIsSet_eq, Option.bind_some]; rw [if_pos (by omega), if_pos (by omega), bV l i hi, b9 hi hl]
   ·rw [cl l i hi]; simp only [jr, List.all_cons]; by_cases hx : dJ n l[i] = true
    ·refine Ev.ifp hx ?_; rw [hx, Bool.true_and]; exact ih
    ·refine Ev.ifn hx ?_; rw [Bool.eq_false_iff.2 hx, Bool.false_and]; exact Ev.now _)
 exact h
theorem hZ (n : Int) (l : List Int) (hl : l.length ≤ 17592186044416) : Ev (fun k => dn.f k n l) (dN n l) := by
 unfold dn.f dN; refine Ev.cbind (l1In_eq _ _ _) ?_; by_cases h : (decide (0 ≤ n) && decide (n ≤ 8)) = true
 ·refine Ev.ifp h ?_; rw [h, Bool.true_and]; by_cases h6 : (l.length : Int) ≤ 6
  ·refine Ev.ifp h6 ?_; rw [show decide (l.length ≤ 6) = true from by simp; omega, Bool.true_and]; exact Ev.bind (g6 n l hl) (Ev.now _)
  ·refine Ev.ifn h6 ?_; rw [show decide (l.length ≤ 6) = false from by simp; omega, Bool.false_and]; exact Ev.now _
 ·refine Ev.ifn h ?_; rw [Bool.eq_false_iff.2 h, Bool.false_and]; exact Ev.now _
theorem kg {X : List Int} {D : List Nat} (hD : D.Pairwise (· < ·)) (h : ∀ a, a ∈ X ↔ a ∈ ints D) : ez [] X = ints D :=
 ky (lq X [] List.Pairwise.nil) (l9 hD) (fun a => by rw [mf, h]; simp)
def topB (m : Nat) (L : List Nat) (w : List Int) (s : Nat) : Bool := ((List.range (2 ^ m)).filter (indN L)).all (fun t => !(decide (pc t = pc s) && decide (ce w (t : Int) > ce w (s : Int))))
theorem lf {m : Nat} {L : List Nat} (hM : Mat m L) {w : List Int} (hw : areW (m : Int) w = true) {s : Nat} (hs : indN L s = true) : decide (ce w ((orL 0 ((takN m L w).take (pc s)) : Nat) : Int) = ce w (s : Int)) = topB m L w s := by
 have hb := (d5 hw).1; have hI := Mat.ind hM; obtain ⟨r1, r2, r3⟩ := iS hM w; have hbest := r3 (pc s); have hlen := (fP hM w (pc s) s hs rfl).1; have hpc : pc (orL 0 ((takN m L w).take (pc s))) = pc s := by
  rw [kX _ (List.Nodup.sublist (List.take_sublist _ _) r2) (fun e he => by have := r1 e (List.mem_of_mem_take he); have := hM.size; omega), List.length_take]; omega
 have hwt : ∀ t, indN L t = true → ce w (t : Int) = wsum (fun i => rd w (i : Int)) t := fun t ht => by rw [dg hb (hI.lt ht), wS_wsum]
 rw [Bool.eq_iff_iff, decide_eq_true_eq]; unfold topB; rw [List.all_eq_true, hwt _ hbest, hwt s hs]
 constructor
 ·intro he t ht; have hti := (List.mem_filter.1 ht).2; rw [Bool.not_eq_true', Bool.and_eq_false_iff, decide_eq_false_iff_not, decide_eq_false_iff_not]; by_cases hp : pc t = pc s
  ·right
   have := (fP hM w (pc s) t hti hp).2; rw [hwt t hti, ← he]; omega
  ·exact .inl hp
 ·intro hall; have h1 := hall (orL 0 ((takN m L w).take (pc s))) (List.mem_filter.2 ⟨List.mem_range.2 (hI.sets _ hbest), hbest⟩); rw [Bool.not_eq_true', Bool.and_eq_false_iff, decide_eq_false_iff_not, decide_eq_false_iff_not] at h1; rcases h1 with h1 | h1
  ·exact absurd hpc h1
  ·rw [hwt _ hbest] at h1; have := (fP hM w (pc s) s hs rfl).2; omega
theorem ju {m : Nat} {L : List Nat} (hmat : matB (m : Int) (ints L) = true) (hM : Mat m L) (hl : L.length ≤ 17592186044416) {w : List Int} (hwl : w.length ≤ 17592186044416) {s : Nat} (hs : indN L s = true) : Ev (fun k => b4.f k (m : Int) (ints L) w (s : Int)) (areW (m : Int) w && topB m L w s) := by
 have hI := Mat.ind hM; unfold b4.f; refine Ev.bind (dl s (hI.lt hs)) (Ev.bind (ls _ _ w _ (by rw [ints_len]; exact hl) hwl) ?_); unfold bosB; by_cases h : areW (m : Int) w = true
 ·obtain ⟨b, hb, hsub⟩ := indN_iff.1 hs; have hr := jx hmat hM b hb; have hle := jO hsub; rw [if_pos ⟨h, by omega, by omega⟩, Int.toNat_natCast, Int.toNat_natCast, show (ints L).map Int.toNat = L from b3 L]; refine Ev.ifp rfl (Ev.bind (dy w _ hwl) (Ev.bind (dy w _ hwl) ?_)); rw [h, Bool.true_and, ← lf hM h hs]; have : ∀ a b : Int, (a == b) = decide (a = b) := fun a b => by rw [Bool.eq_iff_iff]; simp
  rw [this]; exact Ev.now _
 ·rw [if_neg (fun hc => h hc.1), Bool.eq_false_iff.2 h, Bool.false_and]; exact Ev.ifn (by decide) (Ev.now _)
theorem iN {m : Nat} {L : List Nat} (hmat : matB (m : Int) (ints L) = true) (hM : Mat m L) (hl : L.length ≤ 17592186044416) {w : List Int} (hwl : w.length ≤ 17592186044416) {s : Nat} (hs : s < 256) : Ev (fun k => bY.f k (m : Int) (ints L) w (s : Int)) (topB m L w s) := by
 have hm := hM.size; have h2m := bZ hm; unfold bY.f topB; have hI : Ev (fun k => bN.f k (m : Int) (ints L)) (ints ((List.range (2 ^ m)).filter (indN L))) := by
  unfold bN.f; refine Ev.bind (fY _ _ (by rw [ints_len]; exact hl)) (Ev.ifp hmat (Ev.cbind (g9 hm) (Ev.ifp (kZ hm) ?_))); refine mu hm (g := fun k s => bN.c k (m : Int) (ints L) s) (p := indN L) (fun t ht => ?_); unfold bN.c; have := eN (m : Int) L (t : Int) hl hM.lt; rw [fg (by omega)] at this; exact Ev.bind this (Ev.now _)
 refine Ev.bind hI ?_; have hF : ∀ x ∈ (List.range (2 ^ m)).filter (indN L), x < 256 := fun x hx => by have := List.mem_range.1 (List.mem_filter.1 hx).1; omega
 have hfl : ((List.range (2 ^ m)).filter (indN L)).length ≤ 256 := Nat.le_trans (List.length_filter_le _ _) (by rw [List.length_range]; exact h2m); generalize (List.range (2 ^ m)).filter (indN L) = F at hF hfl; have hd := down (P := fun i => Ev (fun k => bY.l0 k w (s : Int) (ints F) ((ints F).length : Int) (i : Int)) ((F.drop i).all (fun t => !(decide (pc t = pc s) && decide (ce w (t : Int) > ce w (s : Int)))))) F.length
  (by
   apply Ev.step
   ·intro k; rw [bY.l0, if_neg (by rw [ints_len]; omega)]
   ·rw [c9]; exact Ev.now _)
  (by
   intro i hi ih; have ht := hF _ (List.getElem_mem hi)
   apply Ev.step
   ·intro k; rw [bY.l0, if_pos (by rw [ints_len]; omega), if_pos (by omega), if_pos (by rw [ints_len]; omega), dL F i hi, b9 hi (by omega)]
   ·rw [cl F i hi, List.all_cons]; refine Ev.cbind (fo _ ht) (Ev.cbind (fo _ hs) ?_); by_cases h1 : pc F[i] = pc s
    ·refine Ev.ifp (by omega) (Ev.bind (dW w _ hwl) (Ev.bind (dW w _ hwl) ?_)); by_cases h2 : ce w (F[i] : Int) > ce w (s : Int)
     ·refine Ev.ifp h2 ?_; simp only [h1, h2, decide_true, Bool.and_self, Bool.not_true, Bool.false_and]; exact Ev.now _
     ·refine Ev.ifn h2 ?_; simp only [h1, h2, decide_true, decide_false, Bool.and_false, Bool.not_false, Bool.true_and]; exact ih
    ·refine Ev.ifn (by omega) ?_; simp only [h1, decide_false, Bool.false_and, Bool.not_false, Bool.true_and]; exact ih)
 exact hd
def fD (n : Int) (l : List Int) (n' : Int) (l' u v : List Int) (s : Int) : Bool := ef n l n' l' s && ((areW n u && topB n.toNat (l.map Int.toNat) u s.toNat) && (areW n v && topB n.toNat (l'.map Int.toNat) v s.toNat))
theorem fj {n n' : Int} {l l' : List Int} {s : Int} (h : ef n l n' l' s = true) : ∃ (m : Nat) (L L' : List Nat) (t : Nat), n = m ∧ n' = m ∧ l = ints L ∧ l' = ints L' ∧ s = t ∧ matB (m : Int) (ints L) = true ∧ matB (m : Int) (ints L') = true ∧ Mat m L ∧ Mat m L' ∧ indN L t = true ∧ indN L' t = true ∧ t < 256 := by
 unfold ef togB at h; simp only [Bool.and_eq_true, decide_eq_true_eq] at h; obtain ⟨⟨h1, h2, h3⟩, h4, h5⟩ := h; obtain ⟨m, L, rfl, rfl, hM, _⟩ := fe h1; obtain ⟨m', L', hm', rfl, hM', _⟩ := fe h2; have : m' = m := by omega
 subst this; rw [show (ints L).map Int.toNat = L from b3 L] at h4; rw [show (ints L').map Int.toNat = L' from b3 L'] at h5; obtain ⟨t, rfl, _, ht, hi⟩ := km hM.sets h4; rw [fg ht] at h5; refine ⟨m', L, L', t, rfl, hm', rfl, rfl, rfl, h1, ?_, hM, hM', hi, h5, ht⟩; rw [← hm']; exact h2
theorem jW (n : Int) (l : List Int) (n' : Int) (l' u v : List Int) (s : Int) (hl : l.length ≤ 17592186044416) (hl' : l'.length ≤ 17592186044416) (hu : u.length ≤ 17592186044416) (hv : v.length ≤ 17592186044416) : Ev (fun k => dw.f k n l n' l' u v s) (fD n l n' l' u v s) := by
 unfold dw.f fD; refine Ev.bind (fW n l n' l' s hl hl') ?_; by_cases h : ef n l n' l' s = true
 ·refine Ev.ifp h ?_; rw [h, Bool.true_and]; obtain ⟨m, L, L', t, rfl, rfl, rfl, rfl, rfl, h1, h2, hM, hM', hi, hi', ht⟩ := fj h; rw [ints_len] at hl hl'; rw [Int.toNat_natCast, Int.toNat_natCast, show (ints L).map Int.toNat = L from b3 L, show (ints L').map Int.toNat = L' from b3 L']; refine Ev.bind (ju h1 hM hl hu hi) ?_; by_cases hc : (areW (m : Int) u && topB m L u t) = true
  ·refine Ev.ifp hc ?_; rw [hc, Bool.true_and]; exact Ev.bind (ju h2 hM' hl' hv hi') (Ev.now _)
  ·refine Ev.ifn hc ?_; rw [Bool.eq_false_iff.2 hc, Bool.false_and]; exact Ev.now _
 ·refine Ev.ifn h ?_; rw [Bool.eq_false_iff.2 h, Bool.false_and]; exact Ev.now _
theorem jS (n : Int) (l : List Int) (n' : Int) (l' u v : List Int) (s : Int) (hl : l.length ≤ 17592186044416) (hl' : l'.length ≤ 17592186044416) (hu : u.length ≤ 17592186044416) (hv : v.length ≤ 17592186044416) : Ev (fun k => dv.f k n l n' l' u v s) (fD n l n' l' u v s) := by
 unfold dv.f fD; refine Ev.bind (ji n l n' l' s hl hl') ?_; by_cases h : ef n l n' l' s = true
 ·refine Ev.ifp h ?_; rw [h, Bool.true_and]; obtain ⟨m, L, L', t, rfl, rfl, rfl, rfl, rfl, h1, h2, hM, hM', hi, hi', ht⟩ := fj h; rw [ints_len] at hl hl'; rw [Int.toNat_natCast, Int.toNat_natCast, show (ints L).map Int.toNat = L from b3 L, show (ints L').map Int.toNat = L' from b3 L']; refine Ev.bind (ec _ u hu) ?_; by_cases a1 : areW (m : Int) u = true
  ·refine Ev.ifp a1 (Ev.bind (ec _ v hv) ?_); by_cases a2 : areW (m : Int) v = true
   ·refine Ev.ifp a2 (Ev.bind (iN h1 hM hl hu ht) ?_); rw [a1, a2, Bool.true_and, Bool.true_and]; by_cases hc : topB m L u t = true
    ·refine Ev.ifp hc ?_; rw [hc, Bool.true_and]; exact Ev.bind (iN h2 hM' hl' hv ht) (Ev.now _)
    ·refine Ev.ifn hc ?_; rw [Bool.eq_false_iff.2 hc, Bool.false_and]; exact Ev.now _
   ·refine Ev.ifn a2 ?_; rw [Bool.eq_false_iff.2 a2, Bool.false_and, Bool.and_false]; exact Ev.now _
  ·refine Ev.ifn a1 ?_; rw [Bool.eq_false_iff.2 a1, Bool.false_and, Bool.false_and]; exact Ev.now _
 ·refine Ev.ifn h ?_; rw [Bool.eq_false_iff.2 h, Bool.false_and]; exact Ev.now _
def addG (u v : List Int) : List Int := List.zipWith (fun x y => wrap64 (x + y)) u v
def addB (u v : List Int) : List Int := if u.length = v.length then addG u v else []
theorem gH (u v : List Int) (h : u.length = v.length) : (addG u v).length = u.length := by simp [addG, h]
theorem jw (u v : List Int) (i : Nat) (h : u.length = v.length) (hi : i < u.length) : addG (u.drop i) (v.drop i) = wrap64 (u[i] + v[i]) :: addG (u.drop (i + 1)) (v.drop (i + 1)) := by
 rw [cl u i hi, cl v i (by omega)]
 rfl
theorem ln (u v : List Int) (hl : u.length ≤ 17592186044415) : Ev (fun k => a8.f k u v) (addB u v) := by
 unfold a8.f addB; refine Ev.cbind rfl ?_; by_cases he : u.length = v.length
 ·refine Ev.ifp (by omega) ?_; rw [if_pos he]; have h := down (P := fun i => ∀ acc : List Int, acc.length = i → Ev (fun k => a8.l0 k u v acc (i : Int)) (acc ++ addG (u.drop i) (v.drop i))) u.length
   (by
    intro acc ha
    apply Ev.step
    ·intro k; simp only [a8.l0]; rw [if_neg (by omega)]
    ·rw [c9]; simp only [addG, List.zipWith_nil_left, List.append_nil]; exact Ev.now _)
   (by
    intro i hi ih acc ha
    apply Ev.step
    ·intro k; simp only [a8.l0]; rw [if_pos (by omega), if_pos (by omega), if_pos (by omega), if_pos (by omega), bV u i hi, bV v i (by omega), b9 hi (by omega)]
    ·rw [jw u v i he hi]; have := ih (acc ++ [wrap64 (u[i] + v[i])]) (by simp [ha]); rw [List.append_assoc] at this; exact this)
  exact h [] rfl
 ·refine Ev.ifn (by omega) ?_; rw [if_neg he]; exact Ev.now _
theorem il (u v : List Int) (hl : u.length ≤ 17592186044415) : Ev (fun k => aK.f k u v) (addB u v) := by
 unfold aK.f addB; by_cases he : u.length = v.length
 ·refine Ev.ifp (by omega) ?_; rw [if_pos he]; have h := down (P := fun i => ∀ acc : List Int, acc.length = i → Ev (fun k => aK.l0 k u v acc (u.length : Int) (i : Int)) (acc ++ addG (u.drop i) (v.drop i))) u.length
   (by
    intro acc ha
    apply Ev.step
    ·intro k; simp only [aK.l0]; rw [if_neg (by omega)]
    ·rw [c9]; simp only [addG, List.zipWith_nil_left, List.append_nil]; exact Ev.now _)
   (by
    intro i hi ih acc ha
    apply Ev.step
    ·intro k; simp only [aK.l0]; rw [if_pos (by omega), if_pos (by omega), if_pos (by omega), if_pos (by omega), if_pos (by omega), bV u i hi, bV v i (by omega), b9 hi (by omega)]
    ·rw [jw u v i he hi]; have := ih (acc ++ [wrap64 (u[i] + v[i])]) (by simp [ha]); rw [List.append_assoc] at this; exact this)
  exact h [] rfl
 ·refine Ev.ifn (by omega) ?_; rw [if_neg he]; exact Ev.now _
theorem ip (u v : List Int) : (addB u v).length ≤ u.length := by
 unfold addB; by_cases he : u.length = v.length
 ·rw [if_pos he, gH u v he]; omega
 ·rw [if_neg he]; simp
end Go.Proofs.YtimkekeaeojpkaaGreat.Q
namespace Go.Proofs.YtimkekeaeojpkaaGreat.Q
open Go Go.RowKit Go.Proofs.YtimkekeaeojpkaaGreatW.PrintWords Go.Proofs.YtimkekeaeojpkaaGreatW.PrintLast Go.Proofs.YtimkekeaeojpkaaGreatW.PrintMore Go.Proofs.YtimkekeaeojpkaaGreat.Z
set_option linter.unusedVariables false
set_option linter.unusedSimpArgs false
theorem mZ {n n' : Int} {l l' : List Int} (h : togB n l n' l' = true) : ∃ (m : Nat) (L L' : List Nat), n = m ∧ n' = m ∧ l = ints L ∧ l' = ints L' ∧ Mat m L ∧ Mat m L' := by
 simp only [togB, Bool.and_eq_true, decide_eq_true_eq] at h; obtain ⟨h1, h2, h3⟩ := h; obtain ⟨m, L, rfl, rfl, hM, _⟩ := fe h1; obtain ⟨m', L', rfl, rfl, hM', _⟩ := fe h2; have : m = m' := by omega
 subst this; exact ⟨m, L, L', rfl, rfl, rfl, rfl, hM, hM'⟩
theorem e8 {L K : List Nat} (h : ints L = ints K) : L = K := by
 have := congrArg (List.map Int.toNat) h
 rwa [show (ints L).map Int.toNat = L from b3 L, show (ints K).map Int.toNat = K from b3 K] at this
theorem nA (w : List Int) (c : Int) : ∀ (ts : List Nat) (b : Int), (bcN w c b ts = b ∨ ∃ t ∈ ts, (pc t : Int) = c ∧ bcN w c b ts = (t : Int)) ∧ (∀ t ∈ ts, (pc t : Int) = c → 0 ≤ bcN w c b ts ∧ ce w (t : Int) ≤ ce w (bcN w c b ts)) ∧ (0 ≤ b → 0 ≤ bcN w c b ts ∧ ce w b ≤ ce w (bcN w c b ts)) := by
 intro ts
 induction ts with
 | nil => intro b; exact ⟨.inl rfl, fun t ht => absurd ht (List.not_mem_nil), fun h => ⟨h, Int.le_refl _⟩⟩
 | cons t ts ih =>
  intro b; rw [fE]; obtain ⟨i1, i2, i3⟩ := ih (dQ w c b t); have hstep : (dQ w c b t = b ∨ ((pc t : Int) = c ∧ dQ w c b t = (t : Int))) ∧ ((pc t : Int) = c → 0 ≤ dQ w c b t ∧ ce w (t : Int) ≤ ce w (dQ w c b t)) ∧ (0 ≤ b → 0 ≤ dQ w c b t ∧ ce w b ≤ ce w (dQ w c b t)) := by
   unfold dQ; by_cases h1 : (pc t : Int) = c
   ·rw [if_pos h1]; by_cases h2 : b < 0
    ·rw [if_pos h2]; exact ⟨.inr ⟨h1, rfl⟩, fun _ => ⟨by omega, Int.le_refl _⟩, fun h => absurd h (by omega)⟩
    ·rw [if_neg h2]; by_cases h3 : ce w (t : Int) > ce w b
     ·rw [if_pos h3]; exact ⟨.inr ⟨h1, rfl⟩, fun _ => ⟨by omega, Int.le_refl _⟩, fun h => ⟨by omega, by omega⟩⟩
     ·rw [if_neg h3]; exact ⟨.inl rfl, fun _ => ⟨by omega, by omega⟩, fun h => ⟨h, Int.le_refl _⟩⟩
   ·rw [if_neg h1]; exact ⟨.inl rfl, fun h => absurd h h1, fun h => ⟨h, Int.le_refl _⟩⟩
  refine ⟨?_, ?_, ?_⟩
  ·rcases i1 with i1 | ⟨x, hx, hc, e⟩
   ·rw [i1]; rcases hstep.1 with h | ⟨h, e⟩
    ·exact .inl h
    ·exact .inr ⟨t, List.mem_cons_self .., h, e⟩
   ·exact .inr ⟨x, List.mem_cons_of_mem _ hx, hc, e⟩
  ·intro x hx hc; rcases List.mem_cons.1 hx with rfl | hx
   ·obtain ⟨k1, k2⟩ := hstep.2.1 hc; obtain ⟨k3, k4⟩ := i3 k1; exact ⟨k3, Int.le_trans k2 k4⟩
   ·exact i2 x hx hc
  ·intro h; obtain ⟨k1, k2⟩ := hstep.2.2 h; obtain ⟨k3, k4⟩ := i3 k1; exact ⟨k3, Int.le_trans k2 k4⟩
theorem gI {n n' : Int} {l l' w : List Int} {c : Int} (h : (bcB n l n' l' w c).2 = true) : ∃ (m : Nat) (L L' : List Nat) (u : Nat), n = m ∧ n' = m ∧ l = ints L ∧ l' = ints L' ∧ Mat m L ∧ Mat m L' ∧ areW (m : Int) w = true ∧ (bcB n l n' l' w c).1 = (u : Int) ∧ u < 256 ∧ indN L u = true ∧ indN L' u = true ∧ (pc u : Int) = c ∧ ∀ t, indN L t = true → indN L' t = true → (pc t : Int) = c → wS w t ≤ wS w u := by
 unfold bcB at h ⊢; by_cases h1 : togB n l n' l' = true
 rotate_left
 ·rw [if_neg h1] at h; cases h
 by_cases h2 : areW n w = true
 rotate_left
 ·rw [if_pos h1, if_neg h2] at h; cases h
 rw [if_pos h1, if_pos h2] at h ⊢; obtain ⟨m, L, L', rfl, rfl, rfl, rfl, hM, hM'⟩ := mZ h1; rw [show (ints L).map Int.toNat = L from b3 L, show (ints L').map Int.toNat = L' from b3 L', Int.toNat_natCast] at h ⊢; obtain ⟨i1, i2, _⟩ := nA w c (csN m L L') (-1); have hb := (d5 h2).1; have h256 := bZ hM.size; have hneg : ¬ bcN w c (-1) (csN m L L') < 0 := by
  intro hc; unfold fin2 at h; rw [if_pos hc] at h; cases h
 rcases i1 with i1 | ⟨u, hu, hc, e⟩
 ·exact absurd i1 (by omega)
 have hcm := (List.mem_filter.1 hu).2; unfold comN at hcm; rw [Bool.and_eq_true] at hcm; have hu2 := j7 hu; refine ⟨m, L, L', u, rfl, rfl, rfl, rfl, hM, hM', h2, ?_, by omega, hcm.1, hcm.2, hc, ?_⟩
 ·unfold fin2; rw [if_neg hneg]; exact e
 ·intro t h1 h2 hct; have ht : t ∈ csN m L L' := by
   obtain ⟨x, hx, hs⟩ := indN_iff.1 h1; exact List.mem_filter.2 ⟨List.mem_range.2 (Nat.lt_of_le_of_lt (fq hs) (hM.sets x hx)), by unfold comN; rw [h1, h2]; rfl⟩
  have := (i2 t ht hct).2; have ht2 := j7 ht; rw [e, dg hb (by omega), dg hb (by omega)] at this; exact this
theorem nq (n : Int) (l : List Int) (n' : Int) (l' w : List Int) : ∀ (j c i : Nat) (h : i < (bwN n l n' l' w j c).length), (bcB n l n' l' w ((c + i : Nat) : Int)).2 = true ∧ (bwN n l n' l' w j c)[i] = ce w (bcB n l n' l' w ((c + i : Nat) : Int)).1 := by
 intro j
 induction j with
 | zero => intro c i h; exact absurd h (Nat.not_lt_zero _)
 | succ j ih =>
  intro c i h; by_cases hc : (bcB n l n' l' w (c : Int)).2 = true
  ·have e : bwN n l n' l' w (j + 1) c = ce w (bcB n l n' l' w (c : Int)).1 :: bwN n l n' l' w j (c + 1) := by simp only [bwN]; rw [if_pos hc]
   cases i with
   | zero => simp only [e]; exact ⟨hc, rfl⟩
   | succ i =>
    have := ih (c + 1) i (by rw [e, List.length_cons] at h; omega); rw [show c + 1 + i = c + (i + 1) from by omega] at this; refine ⟨this.1, ?_⟩; simp only [e, List.getElem_cons_succ]; exact this.2
  ·have e : bwN n l n' l' w (j + 1) c = [] := by simp only [bwN]; rw [if_neg hc]
   rw [e] at h; exact absurd h (Nat.not_lt_zero _)
theorem le {n n' : Int} {l l' w : List Int} {i : Nat} (h : i + 2 < (bwB n l n' l' w).length) : (∀ j (hj : j < (bwB n l n' l' w).length), -8000 ≤ (bwB n l n' l' w)[j] ∧ (bwB n l n' l' w)[j] ≤ 8000) ∧ (bwB n l n' l' w)[i + 2] - (bwB n l n' l' w)[i + 1] ≤ (bwB n l n' l' w)[i + 1] - (bwB n l n' l' w)[i] := by
 unfold bwB at h ⊢; have hget := nq n l n' l' w 9 0; simp only [Nat.zero_add] at hget; obtain ⟨a1, a2⟩ := hget i (by omega); obtain ⟨b1, b2⟩ := hget (i + 1) (by omega); obtain ⟨c1, c2⟩ := hget (i + 2) (by omega); obtain ⟨m, L, L', Q, rfl, rfl, rfl, rfl, hM, hM', hw, aQ, hQ, iQ, iQ', pQ, _⟩ := gI a1; obtain ⟨mm, LL, LL', R, e1, _, e2, e3, _, _, _, aR, hR, iR, iR', pR, bR⟩ := gI b1; obtain rfl : mm = m := by omega
 have e2 := e8 e2; have e3 := e8 e3; subst e2; subst e3; obtain ⟨m3, L3, L3', P, e4, _, e5, e6, _, _, _, aP, hP, iP, iP', pP, _⟩ := gI c1; have e5 := e8 e5; have e6 := e8 e6; subst e5; subst e6; have hb := (d5 hw).1; refine ⟨fun j hj => ?_, ?_⟩
 ·obtain ⟨d1, d2⟩ := hget j hj; obtain ⟨_, _, _, S, _, _, _, _, _, _, _, aS, hS, _⟩ := gI d1; rw [d2, aS, dg hb hS]; exact m0 hb S
 ·rw [a2, b2, c2, aQ, aR, aP, dg hb hQ, dg hb hR, dg hb hP]; obtain ⟨I, h1, h2, h3, h4⟩ := nE hM hM' (fun i => rd w (i : Int)) (k := i + 1) iP iP' iQ iQ' (by omega) (by omega); have h5 := bR I h1 h2 (by omega); rw [wS_wsum] at h5 ⊢; rw [wS_wsum] at h5 ⊢; rw [wS_wsum]; omega
theorem mw {n n' : Int} {l l' u v : List Int} {t : Int} (h : fD n l n' l' u v t = true) : ∃ c : Nat, t = (c : Int) ∧ c < 256 ∧ ((bcB n l n' l' (addB u v) (pc c : Int)).2 = true → ce (addB u v) (bcB n l n' l' (addB u v) (pc c : Int)).1 = ce (addB u v) t) := by
 unfold fD at h; simp only [Bool.and_eq_true] at h; obtain ⟨h0, ⟨hu, tu⟩, hv, tv⟩ := h; obtain ⟨m, L, L', t, rfl, rfl, rfl, rfl, rfl, m1, m2, hM, hM', it, it', ht⟩ := fj h0; refine ⟨t, rfl, ht, fun hs => ?_⟩; rw [Int.toNat_natCast, Int.toNat_natCast, show (ints L).map Int.toNat = L from b3 L] at tu; rw [Int.toNat_natCast, Int.toNat_natCast, show (ints L').map Int.toNat = L' from b3 L'] at tv; obtain ⟨m3, L3, L3', x, e1, _, e2, e3, _, _, hw, aX, hX, iX, iX', pX, bX⟩ := gI hs; have e2 := e8 e2; have e3 := e8 e3; subst e2; subst e3; obtain rfl : m3 = m := by omega
 have bu := d5 hu; have bv := d5 hv; have bw := d5 hw; have hlen : u.length = v.length := by omega
 have hsum : ∀ s, wS (addB u v) s = wS u s + wS v s := by
  intro s; rw [wS_wsum, wS_wsum, wS_wsum, ← eF]
  congr 1
  funext i
  unfold addB; rw [if_pos hlen]; by_cases hi : i < u.length
  ·have hi' : i < v.length := by omega
   have hg : i < (addG u v).length := by rw [gH u v hlen]; exact hi
   have k1 := gG bu.1 i; have k2 := gG bv.1 i; rw [bV _ i hg, bV u i hi, bV v i hi'] at *; simp only [addG, List.getElem_zipWith]; exact bC (by omega) (by omega)
  ·have z : ∀ (q : List Int), q.length ≤ i → rd q (i : Int) = 0 := fun q hq => by
    rw [jT, List.getD_eq_getElem?_getD, List.getElem?_eq_none hq]; rfl
   rw [z u (by omega), z v (by omega), z (addG u v) (by rw [gH u v hlen]; omega)]
   rfl
 have htop : ∀ (LL : List Nat) (q : List Int), Mat m3 LL → (∀ y ∈ q, -1000 ≤ y ∧ y ≤ 1000) → topB m3 LL q t = true → indN LL x = true → wS q x ≤ wS q t := by
  intro LL q hMM hq htq hx; unfold topB at htq; rw [List.all_eq_true] at htq; have hI := Mat.ind hMM; have := htq x (List.mem_filter.2 ⟨List.mem_range.2 (hI.sets x hx), hx⟩); rw [Bool.not_eq_true', Bool.and_eq_false_iff, decide_eq_false_iff_not, decide_eq_false_iff_not, dg hq hX, dg hq ht] at this; omega
 have k1 := htop L u hM bu.1 tu iX; have k2 := htop L' v hM' bv.1 tv iX'; have k3 := bX t it it' rfl; rw [aX, dg bw.1 hX, dg bw.1 ht]; rw [hsum, hsum] at k3 ⊢; omega
end Go.Proofs.YtimkekeaeojpkaaGreat.Q
namespace Go.Proofs.YtimkekeaeojpkaaGreat.Q
open Go Go.RowKit Go.Proofs.YtimkekeaeojpkaaGreat.A Go.Proofs.YtimkekeaeojpkaaGreatW.PrintWords Go.Proofs.YtimkekeaeojpkaaGreatW.PrintLast Go.Proofs.YtimkekeaeojpkaaGreatW.PrintMore Go.Proofs.YtimkekeaeojpkaaGreat.Z
set_option linter.unusedVariables false
set_option linter.unusedSimpArgs false
def ExE {α : Type} (g : Nat → Option α) (P : α → Prop) : Prop := ∃ r, Ev g r ∧ P r
theorem ExE.now {α : Type} {r : α} {P : α → Prop} (h : P r) : ExE (fun _ => some r) P := ⟨r, Ev.now _, h⟩
theorem ExE.bind {α β : Type} {g : Nat → Option α} {f : Nat → α → Option β} {P : α → Prop} {R : β → Prop} (h : ExE g P) (k : ∀ a, P a → ExE (fun n => f n a) R) : ExE (fun n => (g n).bind (f n)) R := by
 obtain ⟨a, ha, hp⟩ := h; obtain ⟨b, hb, hr⟩ := k a hp; exact ⟨b, Ev.bind ha hb, hr⟩
theorem ExE.cbind {α β : Type} {g : Option α} {f : Nat → α → Option β} {P : α → Prop} {R : β → Prop} (h : ∃ a, g = some a ∧ P a) (k : ∀ a, P a → ExE (fun n => f n a) R) : ExE (fun n => g.bind (f n)) R := by
 obtain ⟨a, ha, hp⟩ := h; obtain ⟨b, hb, hr⟩ := k a hp; exact ⟨b, Ev.cbind ha hb, hr⟩
theorem ExE.ev {α β : Type} {g : Nat → Option α} {f : Nat → α → Option β} {a : α} {R : β → Prop} (h : Ev g a) (k : ExE (fun n => f n a) R) : ExE (fun n => (g n).bind (f n)) R := by
 obtain ⟨b, hb, hr⟩ := k; exact ⟨b, Ev.bind h hb, hr⟩
theorem ExE.ite {α : Type} {c : Prop} [Decidable c] {g f : Nat → Option α} {P : α → Prop} (h : c → ExE g P) (k : ¬ c → ExE f P) : ExE (fun n => if c then g n else f n) P := by
 by_cases hc : c
 ·obtain ⟨r, hr, hp⟩ := h hc; exact ⟨r, Ev.ifp hc hr, hp⟩
 ·obtain ⟨r, hr, hp⟩ := k hc; exact ⟨r, Ev.ifn hc hr, hp⟩
theorem ExE.ifp {α : Type} {c : Prop} [Decidable c] {g f : Nat → Option α} {P : α → Prop} (hc : c) (h : ExE g P) : ExE (fun n => if c then g n else f n) P := ExE.ite (fun _ => h) (fun k => absurd hc k)
theorem ExE.step {α : Type} {g f : Nat → Option α} {P : α → Prop} (h : ∀ k, g (k + 1) = f k) (k : ExE f P) : ExE g P := by
 obtain ⟨r, hr, hp⟩ := k; exact ⟨r, Ev.step h hr, hp⟩
theorem ExE.imp {α : Type} {g : Nat → Option α} {P R : α → Prop} (h : ExE g P) (k : ∀ a, P a → R a) : ExE g R := by
 obtain ⟨r, hr, hp⟩ := h; exact ⟨r, hr, k r hp⟩
theorem ExE.of {α : Type} {g : Nat → Option α} {r : α} {P : α → Prop} (h : Ev g r) (hp : P r) : ExE g P := ⟨r, h, hp⟩
theorem jQ (v : Int) : 0 ≤ Go.bits .and .i64 v 255 ∧ Go.bits .and .i64 v 255 < 256 := by
 have h : ∀ n : Nat, n ≤ 255 → IntKind.i64.wrap (n : Int) = (n : Int) := fun n hn => eA (by omega)
 simp only [Go.bits, BitVec.toNat_and]; have hle : (BitVec.ofInt IntKind.i64.bits v).toNat &&& (BitVec.ofInt IntKind.i64.bits 255).toNat ≤ 255 := Nat.le_trans Nat.and_le_right (by decide); rw [h _ hle]; omega
theorem fh {b : List Int} (hb : b.length ≤ 17592186044416) {p h : Int} (hp : 0 ≤ p) : ∃ r, cL.f b p h = some r ∧ 0 ≤ r.1 ∧ r.1 < 256 ∧ 0 ≤ r.2.1 := by
 unfold cL.f; by_cases h1 : p < (b.length : Int)
 ·rw [if_pos h1, if_pos hp]; exact ⟨_, rfl, (jQ _).1, (jQ _).2, by show 0 ≤ wrap64 (p + 1); rw [bC (n := p + 1) (by omega) (by omega)]; omega⟩
 ·rw [if_neg h1]; exact ⟨_, rfl, (jQ _).1, (jQ _).2, hp⟩
theorem lQ {x n : Int} (hx : 0 ≤ x) (hn : 0 < n) : 0 ≤ Int.tmod x n ∧ Int.tmod x n < n := by
 rw [Int.tmod_eq_emod_of_nonneg hx]; exact ⟨Int.emod_nonneg _ (by omega), Int.emod_lt_of_pos _ hn⟩
theorem cd {b : List Int} (hb : b.length ≤ 17592186044416) {p h : Int} (hp : 0 ≤ p) (n : Int) : ∃ r, ai.f b p h n = some r ∧ 0 ≤ r.1 ∧ (0 < n → r.1 < n) ∧ (n ≤ 0 → r.1 = 0) ∧ 0 ≤ r.2.1 := by
 unfold ai.f; by_cases h1 : n ≤ 0
 ·rw [if_pos h1]; exact ⟨_, rfl, Int.le_refl _, fun h => by omega, fun _ => rfl, hp⟩
 rw [if_neg h1]; have hn : ¬ n = 0 := by omega
 by_cases h2 : n ≤ 256
 ·rw [if_pos h2]; obtain ⟨r, e, r1, r2, r3⟩ := fh hb (h := h) hp; rw [e, Option.bind_some, if_neg hn]; have := lQ r1 (show 0 < n by omega); exact ⟨_, rfl, this.1, fun _ => this.2, fun h => absurd h h1, r3⟩
 ·rw [if_neg h2]; obtain ⟨x, e, x1, x2, x3⟩ := fh hb (h := h) hp; rw [e, Option.bind_some]; obtain ⟨y, e, y1, y2, y3⟩ := fh hb (h := x.2.2) x3; rw [e, Option.bind_some]; obtain ⟨z, e, z1, z2, z3⟩ := fh hb (h := y.2.2) y3; rw [e, Option.bind_some]; obtain ⟨w, e, w1, w2, w3⟩ := fh hb (h := z.2.2) z3; rw [e, Option.bind_some, if_neg hn]; have e1 : 0 ≤ wrap64 ((wrap64 ((wrap64 ((wrap64 (x.1 * 16777216)) + (wrap64 (y.1 * 65536)))) + (wrap64 (z.1 * 256)))) + w.1) := by
   rw [bC (n := x.1 * 16777216) (by omega) (by omega), bC (n := y.1 * 65536) (by omega) (by omega), bC (n := z.1 * 256) (by omega) (by omega)]; rw [bC (n := x.1 * 16777216 + y.1 * 65536) (by omega) (by omega), bC (n := x.1 * 16777216 + y.1 * 65536 + z.1 * 256) (by omega) (by omega), bC (by omega) (by omega)]; omega
  have := lQ e1 (show 0 < n by omega); exact ⟨_, rfl, this.1, fun _ => this.2, fun h => absurd h h1, w3⟩
theorem gS {b : List Int} (hb : b.length ≤ 17592186044416) {p h : Int} (hp : 0 ≤ p) (n : Int) : ∃ r, cE.f b p h n = some r ∧ 0 ≤ r.2.1 := by
 unfold cE.f; obtain ⟨r, e, _, _, _, r3⟩ := cd hb (h := h) hp n; rw [e, Option.bind_some]; exact ⟨_, rfl, r3⟩
theorem eD {b : List Int} (hb : b.length ≤ 17592186044416) {p h : Int} (hp : 0 ≤ p) {l : List Int} (hl : l ≠ []) : ∃ r, b8.f b p h l = some r ∧ r.1 ∈ l ∧ 0 ≤ r.2.1 := by
 unfold b8.f; obtain ⟨r, e, r1, r2, _, r3⟩ := cd hb (h := h) hp (l.length : Int); have h0 : 0 < l.length := List.length_pos_iff.2 hl; have hlt := r2 (by omega); rw [e, Option.bind_some, if_pos r1, if_pos hlt]; exact ⟨_, rfl, mN l r.1 r1 hlt, r3⟩
theorem iz (l : List Int) (hl : l.length ≤ 17592186044416) : ExE (fun k => cp.f k l) (fun r => r.1 = l ∧ r.2.1 = 0) := by
 unfold cp.f; have hd := down (P := fun i => ∀ h : Int, ExE (fun k => cp.l0 k l h (i : Int)) (fun r => r.1 = l ∧ r.2.1 = 0)) l.length
  (by
   intro h
   apply ExE.step
   ·intro k; rw [cp.l0, if_neg (by omega)]
   ·exact ExE.now ⟨rfl, rfl⟩)
  (by
   intro i hi ih h
   apply ExE.step
   ·intro k; rw [cp.l0, if_pos (by omega), b9 hi hl]
   ·refine ExE.ite (fun _ => ExE.ite (fun _ => ih _) (fun h => absurd (by omega) h)) (fun _ => ExE.now ⟨rfl, rfl⟩))
 exact hd _
theorem lA (r n : Int) : ExE (fun k => bH.f k r n) (fun q => 0 ≤ q.1 ∧ q.1 ≤ 8 ∧ (0 ≤ n → q.1 ≤ n) ∧ q.2.length ≤ 256) := by
 unfold bH.f; refine ExE.cbind (P := fun a => a = (decide (0 ≤ n) && decide (n ≤ 8))) ⟨_, l1In_eq n 0 8, rfl⟩ ?_; rintro a rfl; have hno : ExE (fun k => bH.j0 k r n true) (fun q => 0 ≤ q.1 ∧ q.1 ≤ 8 ∧ (0 ≤ n → q.1 ≤ n) ∧ q.2.length ≤ 256) := by
  apply ExE.step
  ·intro k; rw [bH.j0]
  ·exact ExE.ifp rfl (ExE.now ⟨by simp, by simp, fun h => h, by simp⟩)
 refine ExE.ite (fun hn => ?_) (fun _ => hno); rw [Bool.and_eq_true, decide_eq_true_eq, decide_eq_true_eq] at hn; refine ExE.cbind (P := fun _ => True) ⟨_, l1In_eq r 0 n, trivial⟩ ?_; rintro a -; cases a
 ·exact hno
 obtain ⟨m, rfl⟩ := Int.eq_ofNat_of_zero_le hn.1; have hm : m ≤ 8 := by omega
 have h256 := bZ hm; have hp := Nat.two_pow_pos m; have hd := down (P := fun i => ∀ l : List Int, l.length ≤ i → ExE (fun k => bH.l0 k r (m : Int) (i : Int) (m : Int) l) (fun q => 0 ≤ q.1 ∧ q.1 ≤ 8 ∧ (0 ≤ (m : Int) → q.1 ≤ (m : Int)) ∧ q.2.length ≤ 256)) (2 ^ m)
  (by
   intro l hl
   apply ExE.step
   ·intro k; rw [bH.l0, dx hm, Option.bind_some, if_neg (by unfold cq; omega)]
   ·exact ExE.now ⟨by simp only []; omega, by simp only []; omega, fun _ => Int.le_refl _, by simp only []; omega⟩)
  (by
   intro i hi ih l hl
   apply ExE.step
   ·intro k; rw [bH.l0, dx hm, Option.bind_some, if_pos (by unfold cq; omega), b9 hi (by omega)]
   ·refine ExE.ev (dl i (by omega)) (ExE.ite (fun _ => ExE.ifp (by omega) (ih _ (by rw [List.length_append, List.length_singleton]; omega))) (fun _ => ih _ (by omega))))
 apply ExE.step
 ·intro k; rw [bH.j0]
 ·exact ExE.ite (fun h => absurd h (by decide)) (fun _ => hd [] (Nat.zero_le _))
section
variable {P : Int} {R N s : Nat}
theorem ix {x y : Nat} {a : List Int} (ha : a.length = R * N) (hx : x < R) (hy : y < N) (hR : R ≤ 8) (hN : N ≤ 8) : wrap64 ((wrap64 ((x : Int) * (N : Int))) + (y : Int)) = ((x * N + y : Nat) : Int) ∧ 0 ≤ ((x * N + y : Nat) : Int) ∧ ((x * N + y : Nat) : Int) < (a.length : Int) := by
 have h1 : x * N ≤ 7 * 8 := Nat.mul_le_mul (by omega) hN; have h2 : (x + 1) * N ≤ R * N := Nat.mul_le_mul (by omega) (Nat.le_refl N); rw [Nat.add_mul] at h2; rw [show (x : Int) * (N : Int) = ((x * N : Nat) : Int) from by simp, ha]; generalize x * N = q at *; generalize R * N = u at *; rw [bC (n := (q : Int)) (by omega) (by omega), bC (by omega) (by omega)]; exact ⟨by omega, by omega, by omega⟩
theorem ltc {x y : Nat} (h : x < y) : (x : Int) < (y : Int) := by omega
theorem gec {x y : Nat} (h : y ≤ x) : ¬ (x : Int) < (y : Int) := by omega
section
variable (hR : R ≤ 8) (hN : N ≤ 8) (hP : P ≠ 0) (j : Nat) (hj : j < N)
  (hnext : ∀ (a : List Int) (q : Nat), a.length = R * N → ExE (fun k => ah.l0 k P (R : Int) (N : Int) (s : Int) a (q : Int) (wrap64 ((j : Int) + 1))) (fun _ => True))
include hR hN hP hj hnext
theorem ni {q : Nat} (hq : q < R) : ∀ (c i : Nat), i + c = R → ∀ a : List Int, a.length = R * N → ExE (fun k => ah.l3 k P (R : Int) (N : Int) (s : Int) a (q : Int) (j : Int) (i : Int)) (fun _ => True) := by
 have hR' : R ≤ 17592186044416 := Nat.le_trans hR (by decide); have hN' : N ≤ 17592186044416 := Nat.le_trans hN (by decide); intro c
 induction c with
 | zero =>
  intro i hi a ha
  apply ExE.step
  ·intro k; rw [ah.l3, if_neg (gec (by omega)), b9 hq hR']
  ·exact hnext a (q + 1) ha
 | succ c ih3 =>
  intro i hi a ha; have hiR : i < R := by omega
  have hnxt : i + 1 + c = R := by omega
  obtain ⟨e1, p1, l1⟩ := ix ha hiR hj hR hN; obtain ⟨e2, p2, l2⟩ := ix ha hq hj hR hN
  apply ExE.step
  ·intro k; rw [ah.l3, if_pos (ltc hiR), e1, e2, if_pos p1, if_pos l1, if_pos p2, if_pos l2]
  ·clear e1 e2 p1 p2 l1 l2; generalize rd a ((i * N + j : Nat) : Int) = x; generalize rd a ((q * N + j : Nat) : Int) = y; have hd := down (P := fun t => ∀ a : List Int, a.length = R * N → ExE (fun k => ah.l4 k P (R : Int) (N : Int) (s : Int) a (q : Int) (j : Int) (i : Int) x y (t : Int)) (fun _ => True)) N
    (by
     intro a ha
     apply ExE.step
     ·intro k; rw [ah.l4, if_neg (gec (Nat.le_refl N)), b9 hiR hR']
     ·exact ih3 (i + 1) hnxt a ha)
    (by
     intro t ht ih4 a ha; obtain ⟨e3, p3, l3⟩ := ix ha hiR ht hR hN; obtain ⟨e4, p4, l4⟩ := ix ha hq ht hR hN
     apply ExE.step
     ·intro k; rw [ah.l4, if_pos (ltc ht), e3, e4, if_pos p3, if_pos l3, if_pos p4, if_pos l4, if_neg hP, b9 ht hN']
     ·exact ih4 _ (by rw [List.length_set]; exact ha))
   exact hd a ha
theorem nm {q at_ : Nat} (hq : q < R) (hat : at_ < R) (a : List Int) (ha : a.length = R * N) : ExE (fun k => ah.l2 k P (R : Int) (N : Int) (s : Int) a (q : Int) (j : Int) (at_ : Int) 0) (fun _ => True) := by
 have hR' : R ≤ 17592186044416 := Nat.le_trans hR (by decide); have hN' : N ≤ 17592186044416 := Nat.le_trans hN (by decide); have hb := ni hR hN hP j hj hnext hq (R - (q + 1)) (q + 1) (by omega); have hd := down (P := fun t => ∀ a : List Int, a.length = R * N → ExE (fun k => ah.l2 k P (R : Int) (N : Int) (s : Int) a (q : Int) (j : Int) (at_ : Int) (t : Int)) (fun _ => True)) N
  (by
   intro a ha
   apply ExE.step
   ·intro k; rw [ah.l2, if_neg (gec (Nat.le_refl N)), b9 hq hR']
   ·exact hb a ha)
  (by
   intro t ht ih2 a ha; obtain ⟨e3, p3, l3⟩ := ix ha hat ht hR hN; obtain ⟨e4, p4, l4⟩ := ix ha hq ht hR hN
   apply ExE.step
   ·intro k; rw [ah.l2, if_pos (ltc ht), e3, e4, if_pos p3, if_pos l3, if_pos p4, if_pos l4, b9 ht hN']
   ·exact ih2 _ (by rw [List.length_set, List.length_set]; exact ha))
 exact hd a ha
theorem ki {q : Nat} (a : List Int) (ha : a.length = R * N) (at_ : Nat) (h1 : q ≤ at_) : ExE (fun k => ah.j2 k P (R : Int) (N : Int) (s : Int) a (q : Int) (j : Int) (at_ : Int)) (fun _ => True) := by
 apply ExE.step
 ·intro k; rw [ah.j2]
 ·exact ExE.ite (fun _ => hnext a q ha) (fun h => nm hR hN hP j hj hnext (by omega) (by omega) a ha)
theorem nv {q : Nat} (a : List Int) (ha : a.length = R * N) : ∀ (c at_ : Nat), R - at_ = c → q ≤ at_ → ExE (fun k => ah.l1 k P (R : Int) (N : Int) (s : Int) a (q : Int) (j : Int) (at_ : Int)) (fun _ => True) := by
 have hR' : R ≤ 17592186044416 := Nat.le_trans hR (by decide); intro c
 induction c with
 | zero =>
  intro at_ h1 h4
  apply ExE.step
  ·intro k; rw [ah.l1, if_neg (gec (by omega))]
  ·exact ki hR hN hP j hj hnext a ha at_ h4
 | succ c ih1 =>
  intro at_ h1 h4; have hatR : at_ < R := by omega
  have hn1 : R - (at_ + 1) = c := by omega
  have hn2 : q ≤ at_ + 1 := by omega
  obtain ⟨e1, p1, l1⟩ := ix ha hatR hj hR hN
  apply ExE.step
  ·intro k; rw [ah.l1, if_pos (ltc hatR), e1, if_pos p1, if_pos l1, b9 hatR hR']
  ·exact ExE.ite (fun _ => ih1 (at_ + 1) hn1 hn2) (fun _ => ki hR hN hP j hj hnext a ha at_ h4)
end
theorem l8 (hR : R ≤ 8) (hN : N ≤ 8) (hP : P ≠ 0) : ∀ (d j : Nat), j + d = N → ∀ (a : List Int) (q : Nat), a.length = R * N → ExE (fun k => ah.l0 k P (R : Int) (N : Int) (s : Int) a (q : Int) (j : Int)) (fun _ => True) := by
 have hN' : N ≤ 17592186044416 := Nat.le_trans hN (by decide); intro d
 induction d with
 | zero =>
  intro j hj a q ha
  apply ExE.step
  ·intro k; rw [ah.l0, if_neg (gec (by omega))]
  ·exact ExE.now trivial
 | succ d ih =>
  intro j hj a q ha; have hj8 : j < N := by omega
  have hj1 : j + 1 + d = N := by omega
  have hnext : ∀ (a : List Int) (q : Nat), a.length = R * N → ExE (fun k => ah.l0 k P (R : Int) (N : Int) (s : Int) a (q : Int) (wrap64 ((j : Int) + 1))) (fun _ => True) := by
   intro a q ha; rw [b9 hj8 hN']; exact ih (j + 1) hj1 a q ha
  apply ExE.step
  ·intro k; rw [ah.l0, if_pos (ltc hj8)]
  ·refine ExE.cbind (P := fun _ => True) ⟨_, by unfold bq.f; rw [if_pos (di _)], trivial⟩ ?_; rintro b -; exact ExE.ite (fun _ => nv hR hN hP j hj8 hnext a ha (R - q) q rfl (Nat.le_refl _)) (fun _ => hnext a q ha)
theorem jy (hR : R ≤ 8) (hN : N ≤ 8) (hP : P ≠ 0) {a : List Int} (ha : a.length = R * N) : ExE (fun k => ah.f k P (R : Int) (N : Int) a (s : Int)) (fun _ => True) := by
 unfold ah.f; refine ExE.cbind (P := fun y => y = []) ⟨_, rfl, rfl⟩ ?_; rintro y rfl; have h64 : R * N ≤ 8 * 8 := Nat.mul_le_mul hR hN; refine ExE.ifp (by rw [ha]; simp; omega) ?_; rw [List.nil_append]; exact l8 hR hN hP N 0 (by omega) a 0 ha
theorem kp (hR : R ≤ 8) (hN : N ≤ 8) (hP : P ≠ 0) {a : List Int} (ha : a.length = R * N) : ExE (fun k => b5.f k P (R : Int) (N : Int) a) (fun q => q.1 = (N : Int) ∧ q.2.length ≤ 256) := by
 unfold b5.f; have h256 := bZ hN; have hp := Nat.two_pow_pos N; refine ExE.cbind (P := fun x => x = ((cq N : Nat) : Int)) ⟨_, dx hN, rfl⟩ ?_; rintro x rfl; refine ExE.bind (jy hR hN hP ha) ?_; rintro r -; have hd := down (P := fun i => ∀ l : List Int, l.length ≤ i → ExE (fun k => b5.l0 k P (R : Int) (N : Int) a r (i : Int) (N : Int) l) (fun q => q.1 = (N : Int) ∧ q.2.length ≤ 256)) (2 ^ N)
  (by
   intro l hl
   apply ExE.step
   ·intro k; rw [b5.l0, dx hN, Option.bind_some, if_neg (by unfold cq; omega)]
   ·exact ExE.now ⟨rfl, by simp only []; omega⟩)
  (by
   intro i hi ih l hl
   apply ExE.step
   ·intro k; rw [b5.l0, dx hN, Option.bind_some, if_pos (by unfold cq; omega), b9 hi (by omega)]
   ·refine ExE.ev (dl i (by omega)) (ExE.ite (fun _ => ?_) (fun _ => ih _ (by omega))); refine ExE.bind (jy hR hN hP ha) ?_; rintro c -; exact ExE.ite (fun _ => ExE.ifp (by omega) (ih _ (by rw [List.length_append, List.length_singleton]; omega))) (fun _ => ih _ (by omega)))
 exact hd [] (Nat.zero_le _)
end
theorem gJ {b : List Int} (hb : b.length ≤ 17592186044416) {p h : Int} (hp : 0 ≤ p) {n : Nat} (hn : n ≤ 8) : ExE (fun k => bE.f k b p h (n : Int)) (fun q => q.1 = (n : Int) ∧ q.2.1.length ≤ 256 ∧ 0 ≤ q.2.2.1) := by
 unfold bE.f; obtain ⟨u, eu, u1, u2⟩ := eD hb (h := h) hp (l := [2, 3, 5, 2]) (by simp); refine ExE.cbind (P := fun a => a = u) ⟨u, eu, rfl⟩ ?_; intro u' e; subst e; obtain ⟨v, ev, v1, v2, _, v3⟩ := cd hb (h := u'.2.2) u2 3; refine ExE.cbind (P := fun a => a = v) ⟨v, ev, rfl⟩ ?_; intro v' e; subst e; have v2 := v2 (by omega); obtain ⟨R, hR⟩ : ∃ R : Nat, wrap64 (1 + v'.1) = (R : Int) ∧ R ≤ 3 := by
  rw [bC (by omega) (by omega)]; exact ⟨(1 + v'.1).toNat, by omega, by omega⟩
 rw [hR.1]; have hRn : R * n ≤ 3 * 8 := Nat.mul_le_mul hR.2 hn; have hP : u'.1 ≠ 0 := by
  intro h0; rw [h0] at u1; simp at u1
 have hmul : wrap64 ((R : Int) * (n : Int)) = ((R * n : Nat) : Int) := by
  rw [show (R : Int) * (n : Int) = ((R * n : Nat) : Int) from by simp, bC (by omega) (by omega)]
 have hd := down (P := fun i => ∀ (l : List Int) (p h : Int), 0 ≤ p → l.length = i → ExE (fun k => bE.l0 k (n : Int) u'.1 (R : Int) l (i : Int) b p h) (fun q => q.1 = (n : Int) ∧ q.2.1.length ≤ 256 ∧ 0 ≤ q.2.2.1)) (R * n)
  (by
   intro l p h hp hl
   apply ExE.step
   ·intro k; rw [bE.l0, hmul, if_neg (by omega)]
   ·refine ExE.bind (kp (by omega) hn hP hl) ?_; rintro q ⟨q1, q2⟩; exact ExE.now ⟨q1, q2, hp⟩)
  (by
   intro i hi ih l p h hp hl; obtain ⟨x, ex, _, _, _, x3⟩ := cd hb (h := h) hp u'.1
   apply ExE.step
   ·intro k; rw [bE.l0, hmul, if_pos (by omega), b9 hi (by omega)]
   ·refine ExE.cbind (P := fun a => a = x) ⟨x, ex, rfl⟩ ?_; rintro _ rfl; exact ExE.ifp (by omega) (ih _ _ _ x3 (by rw [List.length_append, List.length_singleton]; omega)))
 exact hd [] _ _ v3 rfl
theorem Ev.ofMono {α : Type} {g : Nat → Option α} (h : ∀ k, LeO (g k) (g (k + 1))) {K : Nat} {r : α} (e : g K = some r) : Ev g r := by
 refine ⟨K, fun k hk => ?_⟩; obtain ⟨d, rfl⟩ : ∃ d, k = K + d := ⟨k - K, by omega⟩; clear hk
 induction d with
 | zero => exact e
 | succ d ih => exact h (K + d) r ih
theorem d8 {s : ByteArray} {r : Int × List Int × Bool} (h : bm.f 300 s = some r) {P : Int × List Int × Bool → Prop} (hp : P r) : ExE (fun k => bm.f k s) P := ⟨r, Ev.ofMono (g := fun k => bm.f k s) (fun k => bm.mono s k) h, hp⟩
theorem mz {b : List Int} (hb : b.length ≤ 17592186044416) {p h : Int} (hp : 0 ≤ p) {l : List ByteArray} (hl : l ≠ []) : ∃ r, dD.f b p h l = some r ∧ (∃ i, i < l.length ∧ r.1 = l.getD i ByteArray.empty) ∧ 0 ≤ r.2.1 := by
 unfold dD.f; obtain ⟨r, e, r1, r2, _, r3⟩ := cd hb (h := h) hp (l.length : Int); have h0 : 0 < l.length := List.length_pos_iff.2 hl; have hlt := r2 (by omega); rw [e, Option.bind_some, if_pos r1, if_pos hlt]; refine ⟨_, rfl, ⟨r.1.toNat, by omega, ?_⟩, r3⟩; unfold rdOf
 rfl
def NmP (r : Int × List Int × Bool) : Prop := 0 ≤ r.1 ∧ r.1 ≤ 8 ∧ r.2.1.length ≤ 256
theorem lw {b : List Int} (hb : b.length ≤ 17592186044416) {p h : Int} (hp : 0 ≤ p) : ExE (fun k => dF.f k b p h) (fun q => 0 ≤ q.1 ∧ q.1 ≤ 8 ∧ q.2.1.length ≤ 256 ∧ 0 ≤ q.2.2.1) := by
 unfold dF.f; obtain ⟨u, eu, ⟨i, hi, u1⟩, u2⟩ := mz hb (h := h) hp (l := [(⟨#[48, 32, 45]⟩ : ByteArray), (⟨#[49, 32, 45]⟩ : ByteArray), (⟨#[49, 32, 97]⟩ : ByteArray), (⟨#[52, 32, 97, 98, 44, 97, 99, 44, 98, 99, 44, 97, 100, 44, 98, 100, 44, 99, 100]⟩ : ByteArray), (⟨#[52, 32, 97, 98, 44, 97, 99, 44, 97, 100, 44, 98, 100, 44, 99, 100]⟩ : ByteArray), (⟨#[51, 32, 97, 44, 98]⟩ : ByteArray), (⟨#[53, 32, 97, 98, 44, 97, 99, 44, 98, 99, 44, 97, 100, 44, 98, 100]⟩ : ByteArray), (⟨#[50, 32, 45]⟩ : ByteArray), (⟨#[51, 32, 97, 98, 99]⟩ : ByteArray)]) (by simp); refine ExE.cbind (P := fun a => a = u) ⟨u, eu, rfl⟩ ?_; intro u' e; subst e; have key : ExE (fun k => bm.f k u'.1) NmP := by
  rw [u1]; simp only [List.length_cons, List.length_nil] at hi
  match i, hi with
  | 0, _ => exact d8 (r := (0, [0], true)) (by decide +kernel) (by unfold NmP; decide)
  | 1, _ => exact d8 (r := (1, [0], true)) (by decide +kernel) (by unfold NmP; decide)
  | 2, _ => exact d8 (r := (1, [1], true)) (by decide +kernel) (by unfold NmP; decide)
  | 3, _ => exact d8 (r := (4, [3, 5, 6, 9, 10, 12], true)) (by decide +kernel) (by unfold NmP; decide)
  | 4, _ => exact d8 (r := (4, [3, 5, 9, 10, 12], true)) (by decide +kernel) (by unfold NmP; decide)
  | 5, _ => exact d8 (r := (3, [1, 2], true)) (by decide +kernel) (by unfold NmP; decide)
  | 6, _ => exact d8 (r := (5, [3, 5, 6, 9, 10], true)) (by decide +kernel) (by unfold NmP; decide)
  | 7, _ => exact d8 (r := (2, [0], true)) (by decide +kernel) (by unfold NmP; decide)
  | 8, _ => exact d8 (r := (3, [7], true)) (by decide +kernel) (by unfold NmP; decide)
  | n + 9, h => omega
 refine ExE.bind key ?_; rintro q ⟨q1, q2, q3⟩; exact ExE.now ⟨q1, q2, q3, u2⟩
theorem jp {b : List Int} (hb : b.length ≤ 17592186044416) {p h : Int} (hp : 0 ≤ p) {n : Int} (h0 : 0 ≤ n) (h8 : n ≤ 8) : ExE (fun k => cn.f k b p h n) (fun q => 0 ≤ q.1 ∧ q.1 ≤ 8 ∧ q.2.1.length ≤ 256 ∧ 0 ≤ q.2.2.1) := by
 unfold cn.f; rw [bC (n := n + 1) (by omega) (by omega)]; obtain ⟨u, eu, u1, u2, _, u3⟩ := cd hb (h := h) hp 6; refine ExE.cbind (P := fun a => a = u) ⟨u, eu, rfl⟩ ?_; intro u' e; subst e; have hcol : ∀ (p h : Int), 0 ≤ p → ExE (fun k => (ai.f b p h (n + 1)).bind fun x => ((bE.f k b x.2.1 x.2.2 x.1).bind fun y => (some (y.1, y.2.1, y.2.2.1, y.2.2.2)))) (fun q => 0 ≤ q.1 ∧ q.1 ≤ 8 ∧ q.2.1.length ≤ 256 ∧ 0 ≤ q.2.2.1) := by
  intro p h hp; obtain ⟨v, ev, v1, v2, _, v3⟩ := cd hb (h := h) hp (n + 1); refine ExE.cbind (P := fun a => a = v) ⟨v, ev, rfl⟩ ?_; intro v' e; subst e; have v2 := v2 (by omega); obtain ⟨m, hm⟩ := Int.eq_ofNat_of_zero_le v1; rw [hm]; refine ExE.bind (gJ hb v3 (n := m) (by omega)) ?_; rintro q ⟨q1, q2, q3⟩; exact ExE.now ⟨by simp only []; omega, by simp only []; omega, q2, q3⟩
 refine ExE.ite (fun _ => ?_) (fun _ => ExE.ite (fun _ => ?_) (fun _ => hcol _ _ u3))
 ·obtain ⟨v, ev, v1, v2, _, v3⟩ := cd hb (h := u'.2.2) u3 (n + 1); refine ExE.cbind (P := fun a => a = v) ⟨v, ev, rfl⟩ ?_; intro v' e; subst e; obtain ⟨w, ew, w1, w2, _, w3⟩ := cd hb (h := v'.2.2) v3 (wrap64 (v'.1 + 1)); refine ExE.cbind (P := fun a => a = w) ⟨w, ew, rfl⟩ ?_; intro w' e; subst e; refine ExE.bind (lA w'.1 v'.1) ?_; rintro q ⟨q1, q2, q3, q4⟩; exact ExE.now ⟨q1, q2, q4, w3⟩
 ·refine ExE.bind (lw hb u3) ?_; rintro q ⟨q1, q2, q3, q4⟩; exact ExE.ite (fun _ => ExE.now ⟨q1, q2, q3, q4⟩) (fun _ => hcol _ _ q4)
end Go.Proofs.YtimkekeaeojpkaaGreat.Q
namespace Go.Proofs.YtimkekeaeojpkaaGreat.Q
open Go Go.RowKit Go.Proofs.YtimkekeaeojpkaaGreatW.PrintWords Go.Proofs.YtimkekeaeojpkaaGreatW.PrintLast Go.Proofs.YtimkekeaeojpkaaGreatW.PrintMore Go.Proofs.YtimkekeaeojpkaaGreat.Z
set_option linter.unusedVariables false
set_option linter.unusedSimpArgs false
theorem nR {a x : Nat} (ha : a < 256) (hx : x < 8) : a ||| 2 ^ x < 256 := by
 have h1 : a < 2 ^ 8 := ha; have h2 : 2 ^ x < 2 ^ 8 := Nat.pow_lt_pow_right (by decide) hx; exact Nat.or_lt_two_pow h1 h2
theorem iH {x : Nat} (hx : x < 8) : 2 ^ x < 256 := Nat.pow_lt_pow_right (a := 2) (m := x) (n := 8) (by decide) hx
end Go.Proofs.YtimkekeaeojpkaaGreat.Q
namespace Go.Proofs.YtimkekeaeojpkaaGreat.Q
open Go Go.RowKit Go.Proofs.YtimkekeaeojpkaaGreat.A Go.Proofs.YtimkekeaeojpkaaGreatW.PrintWords Go.Proofs.YtimkekeaeojpkaaGreatW.PrintLast Go.Proofs.YtimkekeaeojpkaaGreatW.PrintMore Go.Proofs.YtimkekeaeojpkaaGreat.Z
set_option linter.unusedVariables false
set_option linter.unusedSimpArgs false
def i6 (l : List Int) (acc : Nat) (es : List Nat) : Nat := es.foldl (fun (a : Nat) (e : Nat) => a ||| 2 ^ (rd l (e : Int)).toNat) acc
def em (l : List Int) (s : Nat) : Nat := i6 l 0 ((List.range l.length).filter (fun e => s.testBit e))
theorem mO {l : List Int} (hm : ∀ x ∈ l, 0 ≤ x ∧ x < 8) {i : Nat} (hi : i < l.length) : ∃ x : Nat, rd l (i : Int) = x ∧ x < 8 := by
 have h := hm _ (List.getElem_mem hi); obtain ⟨x, hx⟩ := Int.eq_ofNat_of_zero_le h.1; exact ⟨x, by rw [bV l i hi, hx], by omega⟩
theorem jI (l : List Int) (s : Nat) (hl : l.length ≤ 17592186044416) (hm : ∀ x ∈ l, 0 ≤ x ∧ x < 8) (hs : s < 256) : Ev (fun k => cF.f k l (s : Int)) ((em l s : Nat) : Int) := by
 have h := down (P := fun i => ∀ acc : Nat, acc < 256 → Ev (fun k => cF.l0 k l (s : Int) (acc : Int) (i : Int)) ((i6 l acc ((List.range' i (l.length - i)).filter (fun e => s.testBit e)) : Nat) : Int)) l.length
  (by
   intro acc ha
   apply Ev.step
   ·intro k; simp only [cF.l0]; rw [if_neg (by omega)]
   ·rw [Nat.sub_self]; exact Ev.now _)
  (by
   intro i hi ih acc ha; obtain ⟨x, hx, hx8⟩ := mO hm hi
   apply Ev.step
   ·intro k; simp only [cF.l0, ep (cr hs) (show i < 2 ^ 63 by omega), Option.bind_some]; rw [if_pos (by omega), b9 hi hl]
   ·rw [dH hi, List.filter_cons]; by_cases hb : s.testBit i = true
    ·refine Ev.ifp hb (Ev.ifp (by omega) (Ev.ifp (di _) ?_)); rw [if_pos hb, hx, fm (by omega) (by omega), eE (by omega), jN (cr ha) (cr (iH hx8))]; have := ih _ (nR ha hx8); have e : i6 l acc (i :: (List.range' (i + 1) (l.length - (i + 1))).filter (fun e => s.testBit e)) = i6 l (acc ||| 2 ^ x) ((List.range' (i + 1) (l.length - (i + 1))).filter (fun e => s.testBit e)) := by
      simp only [i6, List.foldl_cons, hx, Int.toNat_natCast]
     rw [e]; exact this
    ·refine Ev.ifn hb ?_; rw [if_neg hb]; exact ih acc ha)
 have h0 := h 0 (by omega); rw [Nat.sub_zero, ← List.range_eq_range'] at h0; exact h0
theorem jq (X : List Int) : ∀ acc : List Int, (ez acc X).length ≤ acc.length + X.length := by
 induction X with
 | nil => intro acc; exact Nat.le_refl _
 | cons x X ih =>
  intro acc; have h1 := ih (insO x acc); have h2 := kL x acc; rw [List.length_cons]
  show (ez (insO x acc) X).length ≤ _
  omega
theorem iB (w : List Int) (L : List Nat) (hw : w.length ≤ 17592186044416) (hl : L.length ≤ 8796093022208) (hm : ∀ x ∈ w, 0 ≤ x ∧ x < 8) (hL : ∀ b ∈ L, b < 256) : Ev (fun k => co.f k w (ints L)) (ez [] (ints (L.map (em w)))) := by
 have hd := down (P := fun i => Ev (fun k => co.l0 k w (ints L) (ints ((L.take i).map (em w))) (i : Int)) (ez [] (ints (L.map (em w))))) L.length
  (by
   apply Ev.step
   ·intro k; rw [co.l0, if_neg (by rw [ints_len]; omega)]
   ·rw [List.take_length]; exact Ev.bind (fG _ (by rw [ints_len, List.length_map]; exact hl)) (Ev.now _))
  (by
   intro i hi ih; have hb := hL _ (List.getElem_mem hi)
   apply Ev.step
   ·intro k; rw [co.l0, if_pos (by rw [ints_len]; omega), if_pos (by omega), dL L i hi, b9 hi (by omega)]
   ·refine Ev.bind (jI w _ hw hm hb) (Ev.ifp ?_ ?_)
    ·rw [ints_len, List.length_map, List.length_take]; omega
    ·rw [eZ L i hi, List.map_append] at ih; rw [show ints ((L.take i).map (em w)) ++ [((em w L[i] : Nat) : Int)] = ints ((L.take i).map (em w) ++ [L[i]].map (em w)) from by simp [ints]]; exact ih)
 exact hd
theorem mg {b : List Int} (hb : b.length ≤ 17592186044416) {p h : Int} (hp : 0 ≤ p) : ∃ r, dK.f b p h = some r ∧ 0 ≤ r.2.1 := by
 unfold dK.f; obtain ⟨u, eu, u1⟩ := gS hb (h := h) hp 8; rw [eu, Option.bind_some]; by_cases hc : u.1 = true
 ·rw [if_pos hc]; obtain ⟨v, ev, _, v2⟩ := eD hb (h := u.2.2) u1 (l := [(-1), 256, 1000, (-9223372036854775808)]) (by simp); rw [ev, Option.bind_some]; exact ⟨_, rfl, v2⟩
 ·rw [if_neg hc]; unfold d7.f; obtain ⟨v, ev, _, _, _, v3⟩ := cd hb (h := u.2.2) u1 256; rw [ev, Option.bind_some, Option.bind_some]; exact ⟨_, rfl, v3⟩
theorem me {b : List Int} (hb : b.length ≤ 17592186044416) {p h : Int} (hp : 0 ≤ p) (n : Int) : ExE (fun k => ct.f k b p h n) (fun r => r.1.length ≤ 6 ∧ 0 ≤ r.2.1) := by
 unfold ct.f; obtain ⟨c, e, c1, c2, _, c3⟩ := cd hb (h := h) hp 6; refine ExE.cbind (P := fun a => a = c) ⟨c, e, rfl⟩ ?_; rintro a rfl; obtain ⟨m, hm⟩ := Int.eq_ofNat_of_zero_le c1; have hm5 : m < 6 := by have := c2 (by omega); omega
 rw [hm]; have hd := down (P := fun i => ∀ (l : List Int) (p h : Int), 0 ≤ p → l.length ≤ i → ExE (fun k => ct.l0 k n l (m : Int) (i : Int) b p h) (fun r => r.1.length ≤ 6 ∧ 0 ≤ r.2.1)) m
  (by
   intro l p h hp hl
   apply ExE.step
   ·intro k; rw [ct.l0, if_neg (by omega)]
   ·exact ExE.now ⟨by simp only []; omega, hp⟩)
  (by
   intro i hi ih l p h hp hl
   apply ExE.step
   ·intro k; rw [ct.l0, if_pos (by omega), if_pos (di _), b9 hi (by omega)]
   ·obtain ⟨x, ex, _, _, _, x3⟩ := cd hb (h := h) hp (shl .i64 1 (IntKind.u64.wrap n)); refine ExE.cbind (P := fun a => a = x) ⟨x, ex, rfl⟩ ?_; rintro a rfl; exact ExE.ifp (by omega) (ih _ _ _ x3 (by rw [List.length_append, List.length_singleton]; omega)))
 exact hd [] _ _ c3 (Nat.le_refl _)
theorem l7 {b : List Int} (hb : b.length ≤ 17592186044416) {p h : Int} (hp : 0 ≤ p) {n : Int} (h0 : 0 ≤ n) (h8 : n ≤ 8) : ExE (fun k => bK.f k b p h n) (fun q => -1 ≤ q.1 ∧ q.1 ≤ 9 ∧ q.2.1.length ≤ 300 ∧ 0 ≤ q.2.2.1) := by
 unfold bK.f; refine ExE.bind (jp hb hp h0 h8) ?_; rintro m ⟨m1, m2, m3, m4⟩; obtain ⟨u, eu, u1, u2, _, u3⟩ := cd hb (h := m.2.2.2) m4 10; refine ExE.cbind (P := fun a => a = u) ⟨u, eu, rfl⟩ ?_; intro u' e; subst e; refine ExE.ite (fun _ => ?_) (fun _ => ExE.ite (fun _ => ?_) (fun _ => ExE.ite (fun _ => ?_) (fun _ => ExE.ite (fun _ => ?_) (fun _ => ExE.now ⟨by simp only []; omega, by simp only []; omega, by simp only []; omega, u3⟩))))
 ·obtain ⟨v, ev, v1, v2⟩ := eD hb (h := u'.2.2) u3 (l := [(-1), 0, 2, 9]) (by simp); refine ExE.cbind (P := fun a => a = v) ⟨v, ev, rfl⟩ ?_; intro v' e; subst e; have hv : -1 ≤ v'.1 ∧ v'.1 ≤ 9 := by
   simp only [List.mem_cons, List.not_mem_nil, or_false] at v1; omega
  exact ExE.now ⟨hv.1, hv.2, by simp only []; omega, v2⟩
 ·obtain ⟨v, ev, v1⟩ := mg hb (h := u'.2.2) u3; refine ExE.cbind (P := fun a => a = v) ⟨v, ev, rfl⟩ ?_; intro v' e; subst e; exact ExE.ifp (by omega) (ExE.now ⟨by simp only []; omega, by simp only []; omega, by simp only [List.length_append, List.length_singleton]; omega, v1⟩)
 ·refine ExE.ite (fun hlen => ?_) (fun _ => ExE.now ⟨by simp only []; omega, by simp only []; omega, by simp only []; omega, u3⟩); obtain ⟨v, ev, v1, v2, _, v3⟩ := cd hb (h := u'.2.2) u3 (m.2.1.length : Int); refine ExE.cbind (P := fun a => a = v) ⟨v, ev, rfl⟩ ?_; intro v' e; subst e; have v2 := v2 (by omega); have hw : wrap64 (v'.1 + 1) = v'.1 + 1 := bC (by omega) (by omega); rw [hw]; have ht1 : (m.2.1.take v'.1.toNat).length ≤ m.2.1.length := by rw [List.length_take]; omega
  have ht2 : (m.2.1.drop (v'.1 + 1).toNat).length ≤ m.2.1.length := by rw [List.length_drop]; omega
  have ht3 : (m.2.1.take v'.1.toNat).length + (m.2.1.drop (v'.1 + 1).toNat).length ≤ 300 := by rw [List.length_take, List.length_drop]; omega
  refine ExE.cbind (P := fun y => y = []) ⟨_, rfl, rfl⟩ ?_; rintro y rfl; refine ExE.ifp v1 (ExE.ifp (by omega) ?_); refine ExE.cbind (P := fun y => y = m.2.1.take v'.1.toNat) ⟨_, rfl, rfl⟩ ?_; rintro y rfl; refine ExE.ifp (by simp only [List.length_nil]; omega) ?_; refine ExE.cbind (P := fun y => y = m.2.1.take v'.1.toNat) ⟨_, rfl, by simp⟩ ?_; rintro y rfl; refine ExE.ifp (by omega) (ExE.ifp (by omega) ?_); refine ExE.cbind (P := fun y => y = m.2.1.drop (v'.1 + 1).toNat) ⟨_, rfl, rfl⟩ ?_; rintro y rfl; exact ExE.ifp (by omega) (ExE.now ⟨by simp only []; omega, by simp only []; omega, by simp only [List.length_append]; omega, v3⟩)
 ·refine ExE.cbind (P := fun _ => True) ⟨_, by unfold dt.f; exact (apply_ite some _ _ _).symm, trivial⟩ ?_; rintro x -; refine ExE.cbind (P := fun _ => True) ⟨_, by unfold cG.f; exact (apply_ite some _ _ _).symm, trivial⟩ ?_; rintro y -; refine ExE.bind (me hb u3 y) ?_; rintro q ⟨q1, q2⟩; refine ExE.ev (fG q.1 (by omega)) ?_; have := jq q.1 []; exact ExE.now ⟨by simp only []; omega, by simp only []; omega, by simp only [List.length_nil] at this ⊢; omega, q2⟩
theorem eV {b : List Int} (hb : b.length ≤ 17592186044416) {p h : Int} (hp : 0 ≤ p) (n : Int) (hn : n ≤ 9) : ExE (fun k => bh.f k b p h n) (fun r => r.1.length ≤ 9 ∧ 0 ≤ r.2.1) := by
 unfold bh.f; by_cases h0 : n ≤ 0
 ·apply ExE.step
  ·intro k; rw [bh.l0, if_neg (by omega)]
  ·exact ExE.now ⟨by simp, hp⟩
 obtain ⟨m, rfl⟩ := Int.eq_ofNat_of_zero_le (show 0 ≤ n by omega); have hd := down (P := fun i => ∀ (l : List Int) (p h : Int), 0 ≤ p → l.length ≤ i → ExE (fun k => bh.l0 k (m : Int) l (i : Int) b p h) (fun r => r.1.length ≤ 9 ∧ 0 ≤ r.2.1)) m
  (by
   intro l p h hp hl
   apply ExE.step
   ·intro k; rw [bh.l0, if_neg (by omega)]
   ·exact ExE.now ⟨by simp only []; omega, hp⟩)
  (by
   intro i hi ih l p h hp hl
   apply ExE.step
   ·intro k; rw [bh.l0, if_pos (by omega), b9 hi (by omega)]
   ·obtain ⟨x, ex, _, _, _, x3⟩ := cd hb (h := h) hp 9; refine ExE.cbind (P := fun a => a = x) ⟨x, ex, rfl⟩ ?_; intro x' e; subst e; exact ExE.ifp (by omega) (ih _ _ _ x3 (by rw [List.length_append, List.length_singleton]; omega)))
 exact hd [] p h hp (Nat.zero_le _)
theorem go {b : List Int} (hb : b.length ≤ 17592186044416) {p h : Int} (hp : 0 ≤ p) (n : Int) : ExE (fun k => cR.f k b p h n) (fun r => r.1.length ≤ 10 ∧ 0 ≤ r.2.1) := by
 unfold cR.f; refine ExE.cbind (P := fun x => x ≤ 8) ⟨_, by unfold dt.f; exact (apply_ite some _ _ _).symm, by split <;> omega⟩ ?_; intro x hx; refine ExE.cbind (P := fun y => y ≤ 8) ⟨_, by unfold cG.f; exact (apply_ite some _ _ _).symm, by split <;> omega⟩ ?_; intro y hy; refine ExE.bind (eV hb hp y (by omega)) ?_; rintro q ⟨q1, q2⟩; obtain ⟨u, eu, u1, u2, _, u3⟩ := cd hb (h := q.2.2) q2 12; refine ExE.cbind (P := fun a => a = u) ⟨u, eu, rfl⟩ ?_; intro u' e; subst e; refine ExE.ite (fun _ => ExE.ifp (by omega) (ExE.now ⟨by simp only [List.length_append, List.length_singleton]; omega, u3⟩)) (fun _ => ExE.ite (fun _ => ExE.ite (fun hl => ?_) (fun _ => ExE.now ⟨by simp only []; omega, u3⟩)) (fun _ => ExE.now ⟨by simp only []; omega, u3⟩)); obtain ⟨v, ev, v1, v2⟩ := eD hb (h := u'.2.2) u3 (l := [1000, 1001, (-1000), (-1001)]) (by simp); refine ExE.cbind (P := fun a => a = v) ⟨v, ev, rfl⟩ ?_; intro v' e; subst e; exact ExE.ifp (by omega) (ExE.now ⟨by simp only [List.length_set]; omega, v2⟩)
theorem lz {b : List Int} (hb : b.length ≤ 17592186044416) {p h : Int} (hp : 0 ≤ p) (n : Int) : ExE (fun k => ci.f k b p h n) (fun r => r.1.length ≤ 5 ∧ 0 ≤ r.2.1) := by
 unfold ci.f; obtain ⟨c, e, c1, c2, _, c3⟩ := cd hb (h := h) hp 5; refine ExE.cbind (P := fun a => a = c) ⟨c, e, rfl⟩ ?_; rintro a rfl; obtain ⟨m, hm⟩ := Int.eq_ofNat_of_zero_le c1; have hm5 : m < 5 := by have := c2 (by omega); omega
 rw [hm]; have hd := down (P := fun i => ∀ (l : List Int) (p h : Int), 0 ≤ p → l.length ≤ i → ExE (fun k => ci.l0 k n l (m : Int) (i : Int) b p h) (fun r => r.1.length ≤ 5 ∧ 0 ≤ r.2.1)) m
  (by
   intro l p h hp hl
   apply ExE.step
   ·intro k; rw [ci.l0, if_neg (by omega)]
   ·exact ExE.now ⟨by simp only []; omega, hp⟩)
  (by
   intro i hi ih l p h hp hl
   apply ExE.step
   ·intro k; rw [ci.l0, if_pos (by omega), if_pos (di _), b9 hi (by omega)]
   ·obtain ⟨x, ex, _, _, _, x3⟩ := cd hb (h := h) hp (shl .i64 1 (IntKind.u64.wrap n)); refine ExE.cbind (P := fun a => a = x) ⟨x, ex, rfl⟩ ?_; rintro a rfl; exact ExE.ifp (by omega) (ih _ _ _ x3 (by rw [List.length_append, List.length_singleton]; omega)))
 exact hd [] _ _ c3 (Nat.le_refl _)
def asgT (sets list : List Int) (used : List Int) (k : Nat) : Bool := !(used.contains (k : Int)) && (rd sets (k : Int)).toNat.testBit (rd list (used.length : Int)).toNat
def asgL (rec : List Int → List Int × Bool) (sets list : List Int) (used : List Int) : List Nat → List Int × Bool
 | [] => ([], false)
 | k :: ks => if asgT sets list used k = true then (if (rec (used ++ [(k : Int)])).2 = true then ((rec (used ++ [(k : Int)])).1, true) else asgL rec sets list used ks) else asgL rec sets list used ks
def asg (sets list : List Int) : Nat → List Int → List Int × Bool
 | 0, used => (used, true)
 | d + 1, used => asgL (asg sets list d) sets list used (List.range sets.length)
theorem mo {sets : List Int} (hm : ∀ x ∈ sets, ∃ t : Nat, x = t ∧ t < 256) {i : Nat} (hi : i < sets.length) : ∃ t : Nat, rd sets (i : Int) = t ∧ t < 256 := by
 rw [bV sets i hi]; exact hm _ (List.getElem_mem hi)
theorem nY {list : List Int} (hm : ∀ x ∈ list, ∃ e : Nat, x = e ∧ e < 8) {i : Nat} (hi : i < list.length) : ∃ e : Nat, rd list (i : Int) = e ∧ e < 8 := by
 rw [bV list i hi]; exact hm _ (List.getElem_mem hi)
theorem jl (sets list : List Int) (hs : sets.length ≤ 6) (hsm : ∀ x ∈ sets, ∃ t : Nat, x = t ∧ t < 256) (hll : list.length ≤ 8) (hlm : ∀ x ∈ list, ∃ e : Nat, x = e ∧ e < 8) :
  ∀ (d : Nat) (used : List Int), used.length + d = list.length → Ev (fun k => aE.f k sets list used) (asg sets list d used) := by
 intro d
 induction d with
 | zero =>
  intro used hu
  apply Ev.step
  ·intro k; simp only [aE.f]; rw [if_pos (by omega)]
  ·exact Ev.now _
 | succ d ihd =>
  intro used hu
  apply Ev.step
  ·intro k; simp only [aE.f]; rw [if_neg (by omega)]
  ·have h := down (P := fun i => Ev (fun k => aE.l0 k sets list used (i : Int)) (asgL (asg sets list d) sets list used (List.range' i (sets.length - i)))) sets.length
    (by
     apply Ev.step
     ·intro k; simp only [aE.l0]; rw [if_neg (by omega)]
     ·rw [Nat.sub_self]; exact Ev.now _)
    (by
     intro i hi ih; rw [dH hi]; obtain ⟨t, ht, ht256⟩ := mo hsm hi; obtain ⟨e, he, he8⟩ := nY hlm (show used.length < list.length by omega); have hT : asgT sets list used i = (!(used.contains (i : Int)) && t.testBit e) := by
      unfold asgT; rw [ht, he, Int.toNat_natCast, Int.toNat_natCast]
     have hih : Ev (fun k => aE.l0 k sets list used (wrap64 ((i : Int) + 1))) (asgL (asg sets list d) sets list used (List.range' (i + 1) (sets.length - (i + 1)))) := by
      rw [b9 hi (by omega)]; exact ih
     apply Ev.step
     ·intro k; simp only [aE.l0]; rw [if_pos (by omega)]
     ·refine Ev.bind (fT used _ (by omega)) ?_; by_cases hc : used.contains (i : Int) = true
      ·refine Ev.ifp hc ?_; simp only [asgL]; rw [hT, hc, if_neg (by simp)]
       apply Ev.step
       ·intro k; rw [aE.j1]
       ·exact Ev.ifp rfl hih
      ·refine Ev.ifn hc (Ev.ifp (by omega) (Ev.ifp (by omega) (Ev.ifp (by omega) ?_))); refine Ev.cbind (a := t.testBit e) (by rw [ht, he]; exact ep (cr ht256) (by omega)) ?_; simp only [asgL]; rw [hT, Bool.eq_false_iff.2 hc]; cases hb : t.testBit e with
       | false =>
        rw [if_neg (by simp)]
        apply Ev.step
        ·intro k; rw [aE.j1]
        ·exact Ev.ifp rfl hih
       | true =>
        rw [if_pos (by simp)]
        apply Ev.step
        ·intro k; rw [aE.j1]
        ·refine Ev.ifn (by simp) (Ev.cbind rfl (Ev.ifp (by simp; omega) (Ev.cbind rfl (Ev.ifp (by simp; omega) ?_)))); refine Ev.bind (ihd (used ++ [(i : Int)]) (by simp; omega)) ?_; by_cases h2 : (asg sets list d (used ++ [(i : Int)])).2 = true
         ·rw [if_pos h2]; exact Ev.ifp h2 (Ev.now _)
         ·rw [if_neg h2]; exact Ev.ifn h2 hih)
   rw [Nat.sub_zero, ← List.range_eq_range'] at h; exact h
theorem k9 (s : Int) : ∀ x ∈ elsB s, ∃ e : Nat, x = e ∧ e < 8 := fun x hx => by
 obtain ⟨e, h1, h2, _⟩ := kj hx; exact ⟨e, h1, h2⟩
end Go.Proofs.YtimkekeaeojpkaaGreat.Q
namespace Go.Proofs.YtimkekeaeojpkaaGreat.Q
open Go Go.RowKit Go.Proofs.YtimkekeaeojpkaaGreatW.PrintWords Go.Proofs.YtimkekeaeojpkaaGreatW.PrintLast Go.Proofs.YtimkekeaeojpkaaGreatW.PrintMore Go.Proofs.YtimkekeaeojpkaaGreat.Z
set_option linter.unusedVariables false
set_option linter.unusedSimpArgs false
def TP : List Nat → Nat → Prop
 | [], s => s = 0
 | x :: S, s => Uni (TP S) (One x) s
theorem ny {m : Nat} (hm : m ≤ 8) : Ind m (fun s => s = 0) := by
 refine ⟨hm, ?_, rfl, ?_, ?_⟩
 ·rintro s rfl; exact Nat.two_pow_pos _
 ·rintro s t rfl h; have := fq h; omega
 ·rintro a b rfl rfl h; omega
theorem Ind.trans {m : Nat} (hm : m ≤ 8) : ∀ S : List Nat, (∀ x ∈ S, x < 2 ^ m) → Ind m (TP S) := by
 intro S
 induction S with
 | nil => intro _; exact ny hm
 | cons x S ih => intro h; exact (ih (fun y hy => h y (List.mem_cons_of_mem _ hy))).union (Ind.one hm (h x (List.mem_cons_self ..)))
def MTz : List Nat → List Nat → Prop
 | _, [] => True
 | S, e :: es => ∃ k, k < S.length ∧ (S.getD k 0).testBit e = true ∧ MTz (S.set k 0) es
theorem One.zero {s : Nat} : One 0 s ↔ s = 0 := by
 constructor
 ·rintro (h | ⟨e, _, h, _⟩)
  ·exact h
  ·rw [Nat.zero_testBit] at h; cases h
 ·intro h; exact .inl h
theorem n4 {e : Nat} (he : e < 8) : ∀ (S : List Nat) (k t : Nat), k < S.length → (S.getD k 0).testBit e = true → TP (S.set k 0) t → TP S (t ||| 2 ^ e) := by
 intro S
 induction S with
 | nil => intro k t hk; simp at hk
 | cons x S ih =>
  intro k t hk hb ht; cases k with
  | zero =>
   rw [List.set_cons_zero] at ht; obtain ⟨y, z, hy, hz, rfl⟩ := ht; have := One.zero.1 hz; subst this; exact ⟨y, 2 ^ e, hy, .inr ⟨e, he, hb, rfl⟩, by rw [Nat.or_zero]⟩
  | succ k =>
   rw [List.set_cons_succ] at ht; obtain ⟨y, z, hy, hz, rfl⟩ := ht; refine ⟨y ||| 2 ^ e, z, ih k y (by simpa using hk) hb hy, hz, ?_⟩
   apply Nat.eq_of_testBit_eq
   intro i; simp only [Nat.testBit_or]; cases y.testBit i <;> cases z.testBit i <;> cases (2 ^ e).testBit i <;> rfl
theorem np : ∀ (S : List Nat) (s t : Nat), TP S t → subN s t → TP S s := by
 intro S
 induction S with
 | nil => rintro s t rfl h; exact Nat.le_zero.1 (fq h)
 | cons x S ih =>
  rintro s t ⟨y, z, hy, hz, rfl⟩ h; refine ⟨y &&& s, z &&& s, ih _ y hy (bU.2 fun i hi => by rw [Nat.testBit_and, Bool.and_eq_true] at hi; exact hi.1), ?_, ?_⟩
  ·rcases hz with rfl | ⟨e, he, hb, rfl⟩
   ·left; exact Nat.zero_and _
   ·cases hs : s.testBit e
    ·left
     apply Nat.eq_of_testBit_eq
     intro i; rw [Nat.testBit_and, Nat.testBit_two_pow, Nat.zero_testBit]; by_cases hi : e = i
     ·subst hi; rw [hs]; simp
     ·simp [hi]
    ·right
     refine ⟨e, he, hb, ?_⟩
     apply Nat.eq_of_testBit_eq
     intro i; rw [Nat.testBit_and, Nat.testBit_two_pow]; by_cases hi : e = i
     ·subst hi; rw [hs]; simp
     ·simp [hi]
  ·apply Nat.eq_of_testBit_eq
   intro i; have h1 := bU.1 h i; rw [Nat.testBit_or] at h1; rw [Nat.testBit_or, Nat.testBit_and, Nat.testBit_and]; cases hs : s.testBit i
   ·simp
   ·rw [hs] at h1; simpa using (h1 rfl).symm
theorem nu {e : Nat} : ∀ (S : List Nat) (u : Nat), TP S u → u.testBit e = true → ∃ k, k < S.length ∧ (S.getD k 0).testBit e = true ∧ TP (S.set k 0) (dif u (2 ^ e)) := by
 intro S
 induction S with
 | nil => rintro u rfl h; rw [Nat.zero_testBit] at h; cases h
 | cons x S ih =>
  rintro u ⟨y, z, hy, hz, rfl⟩ h; by_cases hze : z.testBit e = true
  ·have hzz : z = 2 ^ e ∧ x.testBit e = true := by
    rcases hz with rfl | ⟨f, hf, hb, rfl⟩
    ·rw [Nat.zero_testBit] at hze; cases hze
    ·rw [Nat.testBit_two_pow] at hze; have := of_decide_eq_true hze; subst this; exact ⟨rfl, hb⟩
   refine ⟨0, by simp, hzz.2, ?_⟩; rw [List.set_cons_zero]; refine ⟨dif y (2 ^ e), 0, np S _ y hy (bU.2 fun i hi => by rw [del_bit, Bool.and_eq_true] at hi; exact hi.1), .inl rfl, ?_⟩; rw [hzz.1]
   apply Nat.eq_of_testBit_eq
   intro i; simp only [dif_bit, Nat.testBit_or, Nat.zero_testBit]; cases y.testBit i <;> cases (2 ^ e).testBit i <;> rfl
  ·have hze' := Bool.eq_false_iff.2 hze; rw [Nat.testBit_or, hze', Bool.or_false] at h; obtain ⟨k, hk, hb, ht⟩ := ih y hy h; refine ⟨k + 1, by simpa using hk, by simpa using hb, ?_⟩; rw [List.set_cons_succ]; refine ⟨dif y (2 ^ e), z, ht, hz, ?_⟩
   apply Nat.eq_of_testBit_eq
   intro i; rw [del_bit, Nat.testBit_or, Nat.testBit_or, del_bit]; by_cases hi : e = i
   ·subst hi; rw [hze']; simp
   ·simp [hi]
theorem n9 : ∀ (es S : List Nat), es.Nodup → (∀ e ∈ es, e < 8) → (MTz S es ↔ TP S (orL 0 es)) := by
 intro es
 induction es with
 | nil =>
  intro S _ _; refine ⟨fun _ => ?_, fun _ => trivial⟩; have : ∀ S : List Nat, TP S 0 := by
   intro S
   induction S with
   | nil => rfl
   | cons x S ih => exact ⟨0, 0, ih, .inl rfl, rfl⟩
  exact this S
 | cons e es ih =>
  intro S hnd h8; rw [List.nodup_cons] at hnd; have ihS := fun S => ih S hnd.2 (fun x hx => h8 x (List.mem_cons_of_mem _ hx))
  have he := h8 e (List.mem_cons_self ..); simp only [MTz, orL]
  constructor
  ·rintro ⟨k, hk, hb, hm⟩; exact n4 he S k _ hk hb ((ihS _).1 hm)
  ·intro ht; obtain ⟨k, hk, hb, h2⟩ := nu (e := e) S _ ht (by rw [add_bit]; simp); refine ⟨k, hk, hb, (ihS _).2 ?_⟩; have : dif (orL 0 es ||| 2 ^ e) (2 ^ e) = orL 0 es := by
    apply Nat.eq_of_testBit_eq
    intro i; rw [del_bit, add_bit, orL_bit]; by_cases hi : e = i
    ·subst hi; simp [hnd.1]
    ·simp [hi]
   rw [this] at h2; exact h2
theorem nJ (rec : List Int → List Int × Bool) (sets list used : List Int) : ∀ ks : List Nat, (asgL rec sets list used ks).2 = true ↔ ∃ k ∈ ks, asgT sets list used k = true ∧ (rec (used ++ [(k : Int)])).2 = true := by
 intro ks
 induction ks with
 | nil => simp [asgL]
 | cons k ks ih =>
  simp only [asgL]; by_cases h1 : asgT sets list used k = true
  ·rw [if_pos h1]; by_cases h2 : (rec (used ++ [(k : Int)])).2 = true
   ·rw [if_pos h2]; exact ⟨fun _ => ⟨k, List.mem_cons_self .., h1, h2⟩, fun _ => rfl⟩
   ·rw [if_neg h2, ih]
    constructor
    ·rintro ⟨x, hx, h⟩; exact ⟨x, List.mem_cons_of_mem _ hx, h⟩
    ·rintro ⟨x, hx, h3, h4⟩; rcases List.mem_cons.1 hx with rfl | hx
     ·exact absurd h4 h2
     ·exact ⟨x, hx, h3, h4⟩
  ·rw [if_neg h1, ih]
   constructor
   ·rintro ⟨x, hx, h⟩; exact ⟨x, List.mem_cons_of_mem _ hx, h⟩
   ·rintro ⟨x, hx, h3, h4⟩; rcases List.mem_cons.1 hx with rfl | hx
    ·exact absurd h3 h1
    ·exact ⟨x, hx, h3, h4⟩
def zer (S U : List Nat) : List Nat := (List.range S.length).map (fun i => if i ∈ U then 0 else S.getD i 0)
theorem zer_len (S U : List Nat) : (zer S U).length = S.length := by unfold zer; simp
theorem lN (S U : List Nat) (k : Nat) (hk : k < S.length) : (zer S U).getD k 0 = if k ∈ U then 0 else S.getD k 0 := by
 unfold zer; rw [List.getD, List.getElem?_map, List.getElem?_range hk]; rfl
theorem nC (S : List Nat) : zer S [] = S := by
 apply List.ext_getElem
 ·exact zer_len S []
 ·intro i h1 h2; unfold zer; simp [List.getD, h2]
theorem lV (S U : List Nat) (k : Nat) : (zer S U).set k 0 = zer S (U ++ [k]) := by
 apply List.ext_getElem
 ·rw [List.length_set, zer_len, zer_len]
 ·intro i h1 h2; rw [List.getElem_set]; unfold zer; simp only [List.getElem_map, List.getElem_range, List.mem_append, List.mem_singleton]; by_cases h : k = i
  ·subst h; simp
  ·have : ¬ i = k := fun x => h x.symm
   simp [h, this]
theorem ints_getD (S : List Nat) (k : Nat) : (rd (ints S) (k : Int)).toNat = S.getD k 0 := by
 rw [jT]; unfold ints; rw [List.getD, List.getD, List.getElem?_map]; cases S[k]? <;> rfl
theorem nW (S es : List Nat) : ∀ (d : Nat) (U : List Nat), U.length + d = es.length → ((asg (ints S) (ints es) d (ints U)).2 = true ↔ MTz (zer S U) (es.drop U.length)) := by
 intro d
 induction d with
 | zero =>
  intro U hU; rw [List.drop_eq_nil_of_le (by omega)]; simp only [asg, MTz]
 | succ d ih =>
  intro U hU; have hlt : U.length < es.length := by omega
  rw [cl es U.length hlt]; simp only [asg, MTz]; rw [nJ]
  constructor
  ·rintro ⟨k, hk, h1, h2⟩; rw [List.mem_range, ints_len] at hk; unfold asgT at h1; rw [Bool.and_eq_true, Bool.not_eq_true', ints_getD, ints_len, ints_getD] at h1; have hkU : ¬ k ∈ U := fun h => by
    have := h1.1; rw [Bool.eq_false_iff] at this; exact this (iq.2 h)
   refine ⟨k, by rw [zer_len]; exact hk, ?_, ?_⟩
   ·rw [lN S U k hk, if_neg hkU]; have := h1.2; rw [show es.getD U.length 0 = es[U.length] from by rw [List.getD, List.getElem?_eq_getElem hlt]; rfl] at this; exact this
   ·rw [lV]; have := (ih (U ++ [k]) (by simp; omega)).1 (by unfold ints at h2 ⊢; simpa using h2)
    simpa using this
  ·rintro ⟨k, hk, h1, h2⟩; rw [zer_len] at hk; rw [lN S U k hk] at h1; have hkU : ¬ k ∈ U := fun h => by rw [if_pos h, Nat.zero_testBit] at h1; cases h1
   rw [if_neg hkU] at h1; refine ⟨k, List.mem_range.2 (by rw [ints_len]; exact hk), ?_, ?_⟩
   ·unfold asgT; rw [Bool.and_eq_true, Bool.not_eq_true', ints_getD, ints_len, ints_getD, Bool.eq_false_iff]; refine ⟨fun h => hkU (iq.1 h), ?_⟩; rw [show es.getD U.length 0 = es[U.length] from by rw [List.getD, List.getElem?_eq_getElem hlt]; rfl]; exact h1
   ·rw [lV] at h2; have := (ih (U ++ [k]) (by simp; omega)).2 (by simpa using h2); unfold ints at this ⊢
    simpa using this
theorem nM {s : Nat} (hs : s < 256) : orL 0 (els s) = s := by
 apply Nat.eq_of_testBit_eq
 intro i; rw [orL_bit, Nat.zero_testBit, Bool.false_or, Bool.eq_iff_iff, decide_eq_true_eq, d9]; refine ⟨fun h => h.2, fun h => ⟨?_, h⟩⟩; refine Classical.byContradiction fun hc => ?_
 rw [j3 hs hc] at h; cases h
theorem mW {S : List Nat} {s : Nat} (hs : s < 256) : (asg (ints S) (ints (els s)) (els s).length []).2 = true ↔ TP S s := by
 have h1 := nW S (els s) (els s).length [] (by simp); have h2 := n9 (els s) S (List.Nodup.sublist List.filter_sublist List.nodup_range) (fun e he => (d9.1 he).1); rw [nM hs] at h2; rw [nC, List.length_nil, List.drop_zero] at h1; exact h1.trans h2
theorem hO {n : Int} {l : List Int} (h : dN n l = true) : l.length ≤ 6 ∧ ∀ x ∈ l, ∃ t : Nat, x = t ∧ t < 256 := by
 simp only [dN, Bool.and_eq_true, decide_eq_true_eq] at h; refine ⟨h.2.1, fun x hx => ?_⟩; have := List.all_eq_true.1 h.2.2 x hx; obtain ⟨_, t, _, rfl, _, _, ht⟩ := e9 this; exact ⟨t, rfl, ht⟩
end Go.Proofs.YtimkekeaeojpkaaGreat.Q
namespace Go.Proofs.YtimkekeaeojpkaaGreat.Q
open Go Go.RowKit Go.Proofs.YtimkekeaeojpkaaGreat.A Go.Proofs.YtimkekeaeojpkaaGreatW.PrintWords Go.Proofs.YtimkekeaeojpkaaGreatW.PrintLast Go.Proofs.YtimkekeaeojpkaaGreatW.PrintMore Go.Proofs.YtimkekeaeojpkaaGreat.Z
set_option linter.unusedVariables false
set_option linter.unusedSimpArgs false
theorem hH (s : Int) : Ev (fun k => aA.f k s) (elsB s) := by
 have h := down (P := fun i => ∀ acc : List Int, acc.length ≤ i → Ev (fun k => aA.l0 k s acc (i : Int)) (acc ++ ((List.range' i (8 - i)).filter (fun e : Nat => hasB s (e : Int))).map (fun e : Nat => (e : Int)))) 8
  (by
   intro acc ha
   apply Ev.step
   ·intro k; simp only [aA.l0, specHas_eq, Option.bind_some]; rw [if_neg (by omega)]
   ·simpa using Ev.now _)
  (by
   intro i hi ih acc ha
   apply Ev.step
   ·intro k; simp only [aA.l0, specHas_eq, Option.bind_some]; rw [if_pos (by omega), b9 hi (by omega)]
   ·rw [dH hi, fx]; by_cases hx : hasB s (i : Int) = true
    ·refine Ev.ifp hx (Ev.ifp (by omega) ?_); rw [if_pos hx, ← List.append_assoc]; exact ih (acc ++ [(i : Int)]) (by simp; omega)
    ·refine Ev.ifn hx ?_; rw [if_neg hx]; exact ih acc (by omega))
 have h0 := h [] (Nat.le_refl 0); rw [show ((0 : Nat) : Int) = 0 from rfl] at h0; have e : elsB s = [] ++ ((List.range' 0 (8 - 0)).filter (fun e : Nat => hasB s (e : Int))).map (fun e : Nat => (e : Int)) := by
  unfold elsB; rw [List.nil_append, List.range_eq_range']
 rw [e]; unfold aA.f; exact h0
def cN (t s : Nat) : Bool := decide (t = s) || !decide (subN s t)
theorem gr (F : List Nat) (s : Nat) : F.all (fun t => cN t s) = !F.any (fun t => decide (t ≠ s) && decide (subN s t)) := by
 induction F with
 | nil => rfl
 | cons x F ih =>
  rw [List.all_cons, List.any_cons, ih, Bool.not_or]
  congr 1
  unfold cN; by_cases h : x = s
  ·simp [h]
  ·simp [h]
theorem fZ {F : List Nat} (hF : ∀ x ∈ F, x < 256) (hp : F.Pairwise (· < ·)) (hl : F.length ≤ 65536) : Ev (fun k => aN.f k (ints F)) (ints (topN F)) := by
 have hset : jr 8 (ints F) = true := by
  unfold jr; rw [List.all_eq_true]; intro x hx; obtain ⟨t, ht, rfl⟩ := List.mem_map.1 hx; rw [j5, dY]; exact decide_eq_true (hF t ht)
 have hd := down (P := fun i => ∀ acc : List Nat, acc.length ≤ i → Ev (fun k => aN.l0 k (ints F) (ints acc) (i : Int)) (ez [] (ints (acc ++ (F.drop i).filter (fun s => F.all (fun t => cN t s)))))) F.length
  (by
   intro acc ha
   apply Ev.step
   ·intro k; rw [aN.l0, if_neg (by rw [ints_len]; omega)]
   ·rw [c9, List.filter_nil, List.append_nil]; exact Ev.bind (fG _ (by rw [ints_len]; omega)) (Ev.now _))
  (by
   intro i hi ih acc ha; rw [cl F i hi, List.filter_cons]; have hs := hF _ (List.getElem_mem hi); have h1 := down (P := fun j => ∀ fine : Bool, Ev (fun k => aN.l1 k (ints F) (ints acc) (i : Int) fine (j : Int)) (ez [] (ints ((if (fine && (F.drop j).all (fun t => cN t F[i])) = true then acc ++ [F[i]] else acc) ++ (F.drop (i + 1)).filter (fun s => F.all (fun t => cN t s)))))) F.length
    (by
     intro fine
     apply Ev.step
     ·intro k; rw [aN.l1, if_neg (by rw [ints_len]; omega)]
     ·rw [c9]; cases fine with
      | true =>
       refine Ev.ifp rfl (Ev.ifp (by omega) (Ev.ifp (by rw [ints_len]; omega) (Ev.ifp (by rw [ints_len]; omega) ?_))); rw [dL F i hi, b9 hi (by omega), if_pos (by rfl)]; have := ih (acc ++ [F[i]]) (by rw [List.length_append, List.length_singleton]; omega); rw [show ints acc ++ [(F[i] : Int)] = ints (acc ++ [F[i]]) from by simp [ints]]; exact this
      | false =>
       refine Ev.ifn (by decide) ?_; rw [b9 hi (by omega), if_neg (by simp)]; exact ih acc (by omega))
    (by
     intro j hj ihj fine; have ht := hF _ (List.getElem_mem hj)
     apply Ev.step
     ·intro k; rw [aN.l1, if_pos (by rw [ints_len]; omega)]
     ·rw [cl F j hj, List.all_cons]; cases fine with
      | true =>
       refine Ev.ifp rfl (Ev.ifp (by omega) (Ev.ifp (by omega) (Ev.ifp (by rw [ints_len]; omega) ?_))); rw [dL F i hi, dL F j hj, b9 hj (by omega)]; by_cases he : F[j] = F[i]
       ·refine Ev.ifp (by rw [he]) ?_; have := ihj true; rw [show cN F[j] F[i] = true from by unfold cN; simp [he], Bool.true_and]; exact this
       ·refine Ev.ifn (fun h => he (by omega)) ?_; have := ihj (cN F[j] F[i]); rw [Bool.true_and]; have e : ((Go.bits .and .i64 (F[j] : Int) (F[i] : Int)) != (F[i] : Int)) = cN F[j] F[i] := by
         rw [ie (cr ht) (cr hs), Bool.eq_iff_iff, bne_iff_ne]; unfold cN; rw [show decide (F[j] = F[i]) = false from decide_eq_false he, Bool.false_or, Bool.not_eq_true', decide_eq_false_iff_not]; unfold subN; rw [Nat.and_comm]
         constructor
         ·intro h1 h2; exact h1 (by rw [h2])
         ·intro h1 h2; exact h1 (by omega)
        rw [e]; exact this
      | false =>
       refine Ev.ifn (by decide) ?_; have := ihj false; rw [b9 hj (by omega)]
       simpa using this)
   have h0 := h1 true; rw [List.drop_zero, Bool.true_and] at h0
   apply Ev.step
   ·intro k; rw [aN.l0, if_pos (by rw [ints_len]; omega)]
   ·by_cases hg : F.all (fun t => cN t F[i]) = true
    ·rw [if_pos hg]; rw [if_pos hg, List.append_assoc, List.singleton_append] at h0; exact h0
    ·rw [if_neg hg]; rw [if_neg hg] at h0; exact h0)
 have h0 := hd [] (Nat.zero_le _); rw [List.drop_zero, List.nil_append] at h0; have e : topN F = F.filter (fun s => F.all (fun t => cN t s)) := by
  unfold topN
  apply List.filter_congr
  intro s _; rw [gr]
 rw [← e, kg (D := topN F) (List.Pairwise.filter _ hp) (fun a => Iff.rfl)] at h0; unfold aN.f; simp only [Option.bind_some]; refine Ev.bind (g6 8 (ints F) (by rw [ints_len]; omega)) ?_; rw [hset]; exact Ev.ifp rfl h0
variable {m : Nat} {I : Nat → Prop} {p : Nat → Bool}
def rkI (m : Nat) (p : Nat → Bool) : Nat := maxN 0 (((List.range (2 ^ m)).filter p).map pc)
def bsI (m : Nat) (p : Nat → Bool) : List Nat := (List.range (2 ^ m)).filter (fun s => p s && decide (pc s = rkI m p))
theorem mj (hI : Ind m I) (hp : ∀ s, p s = true ↔ I s) : (∃ b, I b ∧ pc b = rkI m p) ∧ (∀ s, I s → pc s ≤ rkI m p) := by
 obtain ⟨r, ⟨b, hb, hr⟩, hmax⟩ := hI.max; have hle : ∀ s, I s → pc s ≤ rkI m p := fun s hs => i8 _ 0 _ (List.mem_map.2 ⟨s, List.mem_filter.2 ⟨List.mem_range.2 (hI.sets s hs), (hp s).2 hs⟩, rfl⟩)
 have hge : rkI m p ≤ r := by
  apply lP (Nat.zero_le _)
  intro x hx; obtain ⟨s, hs, rfl⟩ := List.mem_map.1 hx; exact hmax s ((hp s).1 (List.mem_filter.1 hs).2)
 have := hle b hb; exact ⟨⟨b, hb, by omega⟩, hle⟩
theorem lL (hm : m ≤ 8) (q : Nat → Bool) : ((List.range (2 ^ m)).filter q).length ≤ 256 := by
 have h1 := List.length_filter_le q (List.range (2 ^ m)); rw [List.length_range] at h1; exact Nat.le_trans h1 (bZ hm)
theorem nP (hm : m ≤ 8) (p : Nat → Bool) : (bsI m p).length ≤ 256 := lL hm _
theorem n5 (hm : m ≤ 8) (q : Nat → Bool) : ∀ x ∈ (List.range (2 ^ m)).filter q, x < 256 := fun x hx => by
 have := List.mem_range.1 (List.mem_filter.1 hx).1; have := bZ hm; omega
theorem jf (hI : Ind m I) (hp : ∀ s, p s = true ↔ I s) : Ev (fun k => aN.f k (ints ((List.range (2 ^ m)).filter p))) (ints (bsI m p)) := by
 obtain ⟨hex, hmax⟩ := mj hI hp; have htop := nL hI hp hex hmax; have hmx := fZ (F := (List.range (2 ^ m)).filter p) (n5 hI.size p) (List.Pairwise.filter _ List.pairwise_lt_range) (Nat.le_trans (lL hI.size p) (by decide)); rw [htop] at hmx; exact hmx
theorem fQ {n : Int} {l : List Int} (h : dN n l = true) : ∃ (m : Nat) (S : List Nat), n = m ∧ m ≤ 8 ∧ l = ints S ∧ S.length ≤ 6 ∧ (∀ x ∈ S, x < 2 ^ m) := by
 have h2 := h; simp only [dN, Bool.and_eq_true, decide_eq_true_eq] at h2; obtain ⟨⟨h0, h8⟩, h6, hs⟩ := h2; obtain ⟨m, rfl⟩ := Int.eq_ofNat_of_zero_le h0; have hall : ∀ x ∈ l, ∃ t : Nat, x = t ∧ t < 2 ^ m := fun x hx => by
  have := List.all_eq_true.1 hs x hx; obtain ⟨m', t, hm', rfl, _, ht, _⟩ := e9 this; have : m = m' := by omega
  subst this; exact ⟨t, rfl, ht⟩
 refine ⟨m, l.map Int.toNat, rfl, by omega, ?_, by rw [List.length_map]; exact h6, ?_⟩
 ·unfold ints; rw [List.map_map]
  conv => lhs; rw [← List.map_id l]
  apply List.map_congr_left
  intro x hx; obtain ⟨t, rfl, _⟩ := hall x hx
  rfl
 ·intro x hx; obtain ⟨y, hy, rfl⟩ := List.mem_map.1 hx; obtain ⟨t, rfl, ht⟩ := hall y hy; rw [Int.toNat_natCast]; exact ht
def tpB (m : Nat) (S : List Nat) (s : Nat) : Bool := decide (s < 2 ^ m) && (asg (ints S) (ints (els s)) (els s).length []).2
theorem no {m : Nat} (hm : m ≤ 8) {S : List Nat} (hS : ∀ x ∈ S, x < 2 ^ m) (s : Nat) : tpB m S s = true ↔ TP S s := by
 have h2m := bZ hm; unfold tpB; rw [Bool.and_eq_true, decide_eq_true_eq]
 constructor
 ·rintro ⟨h1, h2⟩; exact (mW (by omega)).1 h2
 ·intro h; have hs := (Ind.trans hm S hS).sets s h; exact ⟨hs, (mW (by omega)).2 h⟩
def fsB (n : Int) (l : List Int) : Int × List Int := if dN n l = true then (n, ints (bsI n.toNat (tpB n.toNat (l.map Int.toNat)))) else (0, [])
theorem nN (n : Int) (l : List Int) : (fsB n l).2.length ≤ 256 := by
 unfold fsB; by_cases h : dN n l = true
 ·rw [if_pos h]; obtain ⟨m, S, rfl, hm, rfl, _⟩ := fQ h; simp only [ints_len]; rw [Int.toNat_natCast]; exact nP hm _
 ·rw [if_neg h]; exact Nat.zero_le _
theorem hG (n : Int) (l : List Int) (hl : l.length ≤ 17592186044416) : Ev (fun k => bT.f k n l) (fsB n l) := by
 unfold bT.f fsB; refine Ev.bind (hZ n l hl) ?_; by_cases h : dN n l = true
 rotate_left
 ·rw [if_neg h]; exact Ev.ifn h (Ev.now _)
 rw [if_pos h]; refine Ev.ifp h ?_; have hfc := hO h; obtain ⟨m, S, rfl, hm, rfl, h6, hS⟩ := fQ h; rw [show (ints S).map Int.toNat = S from b3 S, Int.toNat_natCast]; have h2m := bZ hm; have hp2 := Nat.two_pow_pos m; have hmx := jf (Ind.trans hm S hS) (no hm hS); have hd := down (P := fun i => ∀ acc : List Nat, acc.length ≤ i → acc ++ (List.range' i (2 ^ m - i)).filter (tpB m S) = (List.range (2 ^ m)).filter (tpB m S) → Ev (fun k => bT.l0 k (m : Int) (ints S) (ints acc) (i : Int)) ((m : Int), ints (bsI m (tpB m S)))) (2 ^ m)
  (by
   intro acc _ he; rw [Nat.sub_self, List.range'_zero, List.filter_nil, List.append_nil] at he
   apply Ev.step
   ·intro k; simp only [bT.l0, dx hm, Option.bind_some]; rw [if_neg (by unfold cq; omega), he]
   ·exact Ev.bind hmx (Ev.now _))
  (by
   intro i hi ih acc ha he; rw [gu hi, List.filter_cons] at he; have h256 : i < 256 := by omega
   apply Ev.step
   ·intro k; simp only [bT.l0, dx hm, Option.bind_some]; rw [if_pos (by unfold cq; omega), b9 hi (by omega)]
   ·refine Ev.bind (hH _) ?_; refine Ev.bind (jl (ints S) (elsB (i : Int)) hfc.1 hfc.2 (kC _) (k9 _) (elsB (i : Int)).length [] (by simp)) ?_; have e : (asg (ints S) (elsB (i : Int)) (elsB (i : Int)).length []).2 = tpB m S i := by
     unfold tpB; rw [iD h256, decide_eq_true hi, Bool.true_and, List.length_map]
     rfl
    by_cases hc : tpB m S i = true
    ·rw [if_pos hc] at he; refine Ev.ifp (by rw [e]; exact hc) (Ev.ifp (by rw [ints_len]; omega) ?_); rw [show ints acc ++ [(i : Int)] = ints (acc ++ [i]) from by simp [ints]]; exact ih (acc ++ [i]) (by rw [List.length_append, List.length_singleton]; omega) (by rw [List.append_assoc, List.singleton_append]; exact he)
    ·rw [if_neg hc] at he; exact Ev.ifn (by rw [e]; exact hc) (ih acc (by omega) he))
 exact hd [] (Nat.zero_le _) (by rw [Nat.sub_zero, ← List.range_eq_range', List.nil_append])
def renG (n : Int) : List Int → Nat → Bool
 | [], _ => true
 | x :: xs, seen => (decide (0 ≤ x) && decide (x < n) && decide (x < 8) && !seen.testBit x.toNat) && renG n xs (seen ||| 2 ^ x.toNat)
def fl (n : Int) (l : List Int) : Bool := decide ((l.length : Int) = n) && decide (n ≤ 8) && renG n l 0
theorem lE (n : Int) (l : List Int) (hl : l.length ≤ 17592186044416) (hn : (l.length : Int) = n) (h8 : n ≤ 8) : ∀ seen : Nat, seen < 256 → Ev (fun k => bi.l0 k n l (seen : Int) 0) (renG n l seen) := by
 have h := down (P := fun i => ∀ seen : Nat, seen < 256 → Ev (fun k => bi.l0 k n l (seen : Int) (i : Int)) (renG n (l.drop i) seen)) l.length
  (by
   intro seen hs
   apply Ev.step
   ·intro k; simp only [bi.l0]; rw [if_neg (by omega)]
   ·rw [c9]; exact Ev.now _)
  (by
   intro i hi ih seen hs
   apply Ev.step
   ·intro k; simp only [bi.l0, l1In_eq, Option.bind_some]; rw [if_pos (by omega), if_pos (by omega), if_pos (by omega), bV l i hi, b9 hi hl, bC (by omega) (by omega)]
   ·rw [cl l i hi]; simp only [renG]; by_cases hx : (decide (0 ≤ l[i]) && decide (l[i] ≤ n - 1)) = true
    ·refine Ev.ifp hx ?_; simp only [Bool.and_eq_true, decide_eq_true_eq] at hx; obtain ⟨x, hxe⟩ := Int.eq_ofNat_of_zero_le hx.1; rw [hxe] at hx ⊢; have hx8 : x < 8 := by omega
     have c1 : (decide (0 ≤ (x : Int)) && decide ((x : Int) < n) && decide ((x : Int) < 8)) = true := by
      simp only [Bool.and_eq_true, decide_eq_true_eq]; omega
     rw [c1, Bool.true_and, Int.toNat_natCast]; refine Ev.cbind (ep (cr hs) (by omega)) ?_; by_cases hb : seen.testBit x = true
     ·refine Ev.ifp hb ?_; rw [hb]; exact Ev.now _
     ·refine Ev.ifn hb (Ev.ifp (di _) ?_); rw [Bool.eq_false_iff.2 hb, fm (by omega) (by omega), eE (by omega), jN (cr hs) (cr (iH hx8))]; exact ih _ (nR hs hx8)
    ·refine Ev.ifn hx ?_; have c1 : (decide (0 ≤ l[i]) && decide (l[i] < n)) = false := by
      rw [Bool.eq_false_iff]; intro hc
      apply hx
      simp only [Bool.and_eq_true, decide_eq_true_eq] at *; omega
     rw [c1]; exact Ev.now _)
 exact h
theorem lh (n : Int) (l : List Int) (hl : l.length ≤ 17592186044416) : Ev (fun k => bi.f k n l) (fl n l) := by
 unfold bi.f fl; by_cases hn : (l.length : Int) = n
 ·refine Ev.ifp hn ?_; rw [show decide ((l.length : Int) = n) = true from by simpa using hn, Bool.true_and]
  apply Ev.step
  ·intro k; rw [bi.j0]
  ·by_cases h8 : n > 8
   ·refine Ev.ifp (by simpa using h8) ?_; rw [show decide (n ≤ 8) = false from by simpa using h8]; exact Ev.now _
   ·refine Ev.ifn (by simpa using h8) ?_; rw [show decide (n ≤ 8) = true from by simp; omega, Bool.true_and]; exact lE n l hl hn (by omega) 0 (by omega)
 ·refine Ev.ifn hn ?_; rw [show decide ((l.length : Int) = n) = false from by simpa using hn]
  apply Ev.step
  ·intro k; rw [bi.j0]
  ·refine Ev.ifp rfl ?_; exact Ev.now _
end Go.Proofs.YtimkekeaeojpkaaGreat.Q
namespace Go.Proofs.YtimkekeaeojpkaaGreat.Q
open Go Go.RowKit Go.Proofs.YtimkekeaeojpkaaGreatW.PrintWords Go.Proofs.YtimkekeaeojpkaaGreatW.PrintLast Go.Proofs.YtimkekeaeojpkaaGreatW.PrintMore Go.Proofs.YtimkekeaeojpkaaGreat.Z
set_option linter.unusedVariables false
set_option linter.unusedSimpArgs false
theorem mY {n : Int} : ∀ {l : List Int} {seen : Nat}, renG n l seen = true → ∀ x ∈ l, 0 ≤ x ∧ x < n ∧ x < 8 := by
 intro l
 induction l with
 | nil => intro seen _ x hx; simp at hx
 | cons y ys ih =>
  intro seen h x hx; simp only [renG, Bool.and_eq_true, decide_eq_true_eq] at h; rcases List.mem_cons.1 hx with rfl | hx
  ·exact ⟨h.1.1.1.1, h.1.1.1.2, h.1.1.2⟩
  ·exact ih h.2 x hx
theorem jX {l : List Int} (h : fl (l.length : Int) l = true) : l.length ≤ 8 ∧ ∀ x ∈ l, 0 ≤ x ∧ x < 8 := by
 simp only [fl, Bool.and_eq_true, decide_eq_true_eq] at h; refine ⟨by omega, fun x hx => ?_⟩; have := mY h.2 x hx; omega
end Go.Proofs.YtimkekeaeojpkaaGreat.Q
namespace Go.Proofs.YtimkekeaeojpkaaGreat.Q
open Go Go.RowKit Go.Proofs.YtimkekeaeojpkaaGreat.A Go.Proofs.YtimkekeaeojpkaaGreatW.PrintWords Go.Proofs.YtimkekeaeojpkaaGreatW.PrintLast Go.Proofs.YtimkekeaeojpkaaGreatW.PrintMore Go.Proofs.YtimkekeaeojpkaaGreat.Z
set_option linter.unusedVariables false
set_option linter.unusedSimpArgs false
theorem lg {n : Int} {w : List Int} (h : fl n w = true) : (w.length : Int) = n := by
 simp only [fl, Bool.and_eq_true, decide_eq_true_eq] at h; exact h.1.1
def ic (n : Int) (l w : List Int) : Int × List Int × Bool := if (matB n l && fl n w) = true then (n, ez [] (ints ((l.map Int.toNat).map (em w))), true) else (0, [], false)
theorem j9 (n : Int) (l w : List Int) : (ic n l w).2.1.length ≤ l.length := by
 unfold ic; by_cases h : (matB n l && fl n w) = true
 ·rw [if_pos h]; have := jq (ints ((l.map Int.toNat).map (em w))) []; rw [ints_len, List.length_map, List.length_map, List.length_nil, Nat.zero_add] at this; exact this
 ·rw [if_neg h]; exact Nat.zero_le _
theorem jk (n : Int) (l w : List Int) (hl : l.length ≤ 8796093022208) (hw : w.length ≤ 17592186044416) : Ev (fun k => bg.f k n l w) (ic n l w) := by
 unfold bg.f ic; refine Ev.bind (fu n l (by omega)) ?_; by_cases h : matB n l = true
 ·rw [h, Bool.true_and]; refine Ev.ifp rfl (Ev.bind (lh n w hw) ?_); by_cases h2 : fl n w = true
  ·rw [if_pos h2]; obtain ⟨m, L, rfl, hm, rfl, _, h256, _⟩ := eq h; rw [ints_len] at hl; have hwm : (w.length : Int) = (m : Int) := lg h2; rw [← hwm] at h2; obtain ⟨h8, hmem⟩ := jX h2; rw [show (ints L).map Int.toNat = L from b3 L]; rw [← hwm]; exact Ev.ifp h2 (Ev.bind (iB w L hw hl hmem h256) (Ev.now _))
  ·rw [if_neg h2]; exact Ev.ifn h2 (Ev.now _)
 ·rw [Bool.eq_false_iff.2 h, Bool.false_and]; exact Ev.ifn (by decide) (Ev.now _)
theorem iM {b : List Int} (hb : b.length ≤ 17592186044416) {p h : Int} (hp : 0 ≤ p) {n : Nat} (hn : n ≤ 9) : ExE (fun k => bp.f k b p h (n : Int)) (fun r => r.1.length = n ∧ 0 ≤ r.2.1) := by
 unfold bp.f; have hd := down (P := fun i => ∀ (l : List Int) (p h : Int), 0 ≤ p → l.length = i → ExE (fun k => bp.l0 k (n : Int) l (i : Int) b p h) (fun r => r.1.length = n ∧ 0 ≤ r.2.1)) n
  (by
   intro l p h hp hl
   apply ExE.step
   ·intro k; rw [bp.l0, if_neg (by omega)]
   ·exact ExE.now ⟨hl, hp⟩)
  (by
   intro i hi ih l p h hp hl
   apply ExE.step
   ·intro k; rw [bp.l0, if_pos (by omega), b9 hi (by omega)]
   ·obtain ⟨v, ev, v1, v2, _, v3⟩ := cd hb (h := h) hp (wrap64 ((l.length : Int) + 1)); refine ExE.cbind (P := fun a => a = v) ⟨v, ev, rfl⟩ ?_; intro v' e; subst e; rw [bC (n := (l.length : Int) + 1) (by omega) (by omega)] at v2; have v2 := v2 (by omega); refine ExE.cbind (P := fun y => y = []) ⟨_, rfl, rfl⟩ ?_; rintro y rfl; refine ExE.ifp v1 (ExE.ifp (by omega) ?_); refine ExE.cbind (P := fun y => y = l.drop v'.1.toNat) ⟨_, rfl, rfl⟩ ?_; rintro y rfl; have h1 : (l.drop v'.1.toNat).length ≤ l.length := by rw [List.length_drop]; omega
    have h2 : (l.take v'.1.toNat).length ≤ l.length := by rw [List.length_take]; omega
    have h3 : (l.take v'.1.toNat).length + (l.drop v'.1.toNat).length = l.length := by rw [List.length_take, List.length_drop]; omega
    refine ExE.ifp (by simp only [List.length_nil]; omega) ?_; refine ExE.cbind (P := fun y => y = l.drop v'.1.toNat) ⟨_, rfl, by simp⟩ ?_; rintro y rfl; refine ExE.cbind (P := fun y => y = l.take v'.1.toNat) ⟨_, rfl, rfl⟩ ?_; rintro y rfl; refine ExE.ifp (by omega) ?_; refine ExE.cbind (P := fun y => y = l.take v'.1.toNat ++ [(i : Int)]) ⟨_, rfl, rfl⟩ ?_; rintro y rfl; refine ExE.ifp (by rw [List.length_append, List.length_singleton]; omega) (ih _ _ _ v3 ?_); rw [List.length_append, List.length_append, List.length_singleton]; omega)
 exact hd [] _ _ hp rfl
def TwoP (q : Int × List Int × Int × List Int × Int × Int) : Prop := q.2.1.length ≤ 300 ∧ q.2.2.2.1.length ≤ 300 ∧ 0 ≤ q.2.2.2.2.1 ∧ 0 ≤ q.1 ∧ q.1 ≤ 8
theorem jC {b : List Int} (hb : b.length ≤ 17592186044416) {p h : Int} (hp : 0 ≤ p) : ExE (fun k => bO.f k b p h) TwoP := by
 unfold bO.f; refine ExE.bind (jp hb hp (by decide) (by decide)) ?_; rintro m ⟨m1, m2, m3, m4⟩; obtain ⟨u, eu, u1⟩ := gS hb (h := m.2.2.2) m4 12; refine ExE.cbind (P := fun a => a = u) ⟨u, eu, rfl⟩ ?_; intro u' e; subst e; refine ExE.ite (fun _ => ?_) (fun _ => ?_)
 ·refine ExE.bind (l7 hb u1 (by decide) (by decide)) ?_; rintro q ⟨_, _, q1, q2⟩; exact ExE.now ⟨by simp only []; omega, q1, q2, m1, m2⟩
 obtain ⟨v, ev, v1, v2, _, v3⟩ := cd hb (h := u'.2.2) u1 3; refine ExE.cbind (P := fun a => a = v) ⟨v, ev, rfl⟩ ?_; intro v' e; subst e; obtain ⟨mn, hmn⟩ := Int.eq_ofNat_of_zero_le m1; refine ExE.ite (fun _ => ?_) (fun _ => ExE.ite (fun _ => ?_) (fun _ => ?_))
 ·rw [hmn]; refine ExE.bind (iM hb v3 (n := mn) (by omega)) ?_; rintro q ⟨q1, q2⟩; refine ExE.ev (jk _ _ _ (by omega) (by omega)) ?_; have := j9 (mn : Int) m.2.1 q.1; exact ExE.now ⟨by simp only []; omega, by simp only []; omega, q2, by simp only []; omega, by simp only []; omega⟩
 ·refine ExE.bind (lz hb v3 m.1) ?_; rintro q ⟨q1, q2⟩; refine ExE.ev (hG _ _ (by omega)) ?_; have := nN m.1 q.1; exact ExE.now ⟨by simp only []; omega, by simp only []; omega, q2, m1, m2⟩
 ·rw [hmn]; refine ExE.bind (gJ hb v3 (n := mn) (by omega)) ?_; rintro q ⟨q1, q2, q3⟩; exact ExE.now ⟨by simp only []; omega, by simp only []; omega, q3, by simp only []; omega, by simp only []; omega⟩
theorem fV (l : List Int) (hl : l.length ≤ 17592186044416) : Ev (fun k => laws_sameInts.f k l l) true := by
 unfold laws_sameInts.f; have hd := down (P := fun i => Ev (fun k => laws_sameInts.l0 k l l (i : Int)) true) l.length
  (by
   apply Ev.step
   ·intro k; rw [laws_sameInts.l0, if_neg (by omega)]
   ·exact Ev.now _)
  (by
   intro i hi ih
   apply Ev.step
   ·intro k; rw [laws_sameInts.l0, if_pos (by omega), if_pos (by omega), if_pos (by omega), if_pos rfl, b9 hi hl]
   ·exact ih)
 exact Ev.ifp rfl hd
end Go.Proofs.YtimkekeaeojpkaaGreat.Q
namespace Go.Proofs.YtimkekeaeojpkaaGreat.Pure
open Go Go.RowKit Go.Proofs.YtimkekeaeojpkaaGreat.A Go.Proofs.YtimkekeaeojpkaaGreatW.PrintWords Go.Proofs.YtimkekeaeojpkaaGreatW.PrintLast Go.Proofs.YtimkekeaeojpkaaGreatW.PrintMore Go.Proofs.YtimkekeaeojpkaaGreat.Z Go.Proofs.YtimkekeaeojpkaaGreat.Q
set_option linter.unusedVariables false
set_option linter.unusedSimpArgs false
theorem jH (l : List Int) (hl : l.length ≤ 17592186044416) : ExE (fun k => bj.f k l) (fun r => r.2.1.length ≤ 300 ∧ r.2.2.2.1.length ≤ 300 ∧ r.2.2.2.2.1.length ≤ 10) := by
 unfold bj.f; refine ExE.bind (iz l hl) ?_; rintro ⟨b, p, h⟩ ⟨rfl, hp⟩; simp only at hp; subst hp; refine ExE.bind (jC hl (Int.le_refl 0)) ?_; rintro q ⟨q1, q2, q3, _⟩; refine ExE.bind (go hl q3 _) ?_; rintro y ⟨y1, y2⟩; obtain ⟨v, ev, _⟩ := cd hl (h := y.2.2) y2 6; refine ExE.cbind (P := fun a => a = v) ⟨v, ev, rfl⟩ ?_; intro v' e; exact ExE.now ⟨q1, q2, y1⟩
theorem lX (l : List Int) (hl : l.length ≤ 17592186044416) : ExE (fun k => cy.f k l) (fun r => r.2.1.length ≤ 300 ∧ r.2.2.2.1.length ≤ 300 ∧ r.2.2.2.2.length ≤ 10) := by
 unfold cy.f; exact ExE.bind (jH l hl) (fun a ha => ExE.now ha)
theorem mq (l : List Int) (hl : l.length ≤ 17592186044416) : ExE (fun k => aM.f k l) (fun r => r.2.1.length ≤ 300 ∧ r.2.2.2.1.length ≤ 300 ∧ r.2.2.2.2.1.length ≤ 10 ∧ r.2.2.2.2.2.1.length ≤ 10) := by
 unfold aM.f; refine ExE.bind (iz l hl) ?_; rintro ⟨b, p, h⟩ ⟨rfl, hp⟩; simp only at hp; subst hp; refine ExE.bind (jC hl (Int.le_refl 0)) ?_; rintro q ⟨q1, q2, q3, q4, q5⟩; refine ExE.bind (go hl q3 _) ?_; rintro y ⟨y1, y2⟩; refine ExE.bind (go hl y2 _) ?_; rintro z ⟨z1, z2⟩; obtain ⟨u, eu, u1⟩ := gS hl (h := z.2.2) z2 2; refine ExE.cbind (P := fun a => a = u) ⟨u, eu, rfl⟩ ?_; intro u' e; subst e; have hbc := fun c => fa q.1 q.2.1 q.2.2.1 q.2.2.2.1 y.1 c (by omega) (by omega) (by omega)
 refine ExE.ite (fun _ => ?_) (fun _ => ?_)
 ·refine ExE.cbind (P := fun x => x = q.1) ⟨_, by unfold cG.f; exact (apply_ite some _ _ _).symm, by split <;> omega⟩ ?_; rintro x rfl; refine ExE.ifp q4 (ExE.ifp (by omega) ?_); obtain ⟨v, ev, _⟩ := cd hl (h := u'.2.2) u1 4; refine ExE.cbind (P := fun a => a = v) ⟨v, ev, rfl⟩ ?_; intro v' e; exact ExE.ev (hbc _) (ExE.now ⟨q1, q2, y1, by simp only [List.length_replicate]; omega⟩)
 ·obtain ⟨v, ev, _⟩ := cd hl (h := u'.2.2) u1 4; refine ExE.cbind (P := fun a => a = v) ⟨v, ev, rfl⟩ ?_; intro v' e; exact ExE.ev (hbc _) (ExE.now ⟨q1, q2, y1, z1⟩)
theorem ld (l : List Int) (hl : l.length ≤ 17592186044416) : ExE (fun k => cD.f k l) (fun r => r.1.length ≤ 9 ∧ r.2.length ≤ 9) := by
 unfold cD.f; refine ExE.bind (iz l hl) ?_; rintro ⟨b, p, h⟩ ⟨rfl, hp⟩; simp only at hp; subst hp; obtain ⟨x, ex, _, x2, _, x3⟩ := cd hl (h := h) (Int.le_refl 0) 5; refine ExE.cbind (P := fun a => a = x) ⟨x, ex, rfl⟩ ?_; rintro a rfl; have x2 := x2 (by decide); refine ExE.bind (eV hl x3 _ (by omega)) ?_; rintro y ⟨y1, y2⟩; obtain ⟨v, ev, _, v2, _, v3⟩ := cd hl (h := y.2.2) y2 5; refine ExE.cbind (P := fun a => a = v) ⟨v, ev, rfl⟩ ?_; intro v' e; subst e; have v2 := v2 (by decide); refine ExE.bind (eV hl v3 _ (by omega)) ?_; rintro z ⟨z1, z2⟩; exact ExE.now ⟨y1, z1⟩
theorem ip (u v : List Int) : (addB u v).length ≤ u.length := by
 unfold addB
 split
 ·rw [gH u v (by assumption)]; exact Nat.le_refl _
 ·exact Nat.zero_le _
theorem nT {X u v l r : List Int} {t n m : Int} {s : Bool} (hlen : X.length ≤ 9) (hX : ∀ i (h : i + 2 < X.length), (∀ j (hj : j < X.length), -8000 ≤ X[j] ∧ X[j] ≤ 8000) ∧ X[i + 2] - X[i + 1] ≤ X[i + 1] - X[i]) (hlast : ∀ i : Int, (X.length : Int) ≤ i → Ev (fun k => laws_FnWeighted.l0 k X u v t s i n l m r) true) : Ev (fun k => laws_FnWeighted.l0 k X u v t s 2 n l m r) true := by
 by_cases hl : X.length < 2
 ·exact hlast 2 (by omega)
 have hd := down (P := fun i => Ev (fun k => laws_FnWeighted.l0 k X u v t s ((i + 2 : Nat) : Int) n l m r) true) (X.length - 2)
  (hlast _ (by omega))
  (by
   intro i hi ih; have hi2 : i + 2 < X.length := by omega
   obtain ⟨hbd, hcc⟩ := hX i hi2; have b0 := hbd i (by omega); have b1 := hbd (i + 1) (by omega); have b2 := hbd (i + 2) hi2; have e1 : wrap64 (((i + 2 : Nat) : Int) - 1) = ((i + 1 : Nat) : Int) := (bC (n := ((i + 2 : Nat) : Int) - 1) (by omega) (by omega)).trans (by omega); have e2 : wrap64 (((i + 2 : Nat) : Int) - 2) = ((i : Nat) : Int) := (bC (n := ((i + 2 : Nat) : Int) - 2) (by omega) (by omega)).trans (by omega); have e3 : wrap64 (((i + 2 : Nat) : Int) + 1) = ((i + 1 + 2 : Nat) : Int) := (bC (n := ((i + 2 : Nat) : Int) + 1) (by omega) (by omega)).trans (by omega); have g1 : wrap64 (X[i + 2] - X[i + 1]) = X[i + 2] - X[i + 1] := bC (by omega) (by omega); have g2 : wrap64 (X[i + 1] - X[i]) = X[i + 1] - X[i] := bC (by omega) (by omega); have hno : ¬ (X[i + 2] - X[i + 1] > X[i + 1] - X[i]) := by omega
   have c0 : ((i + 2 : Nat) : Int) < (X.length : Int) := by omega
   have c1 : ((i + 1 : Nat) : Int) < (X.length : Int) := by omega
   have c2 : ((i : Nat) : Int) < (X.length : Int) := by omega
   apply Ev.step
   ·intro k; rw [laws_FnWeighted.l0, e1, e2, e3, bV X (i + 2) hi2, bV X (i + 1) (by omega), bV X i (by omega), g1, g2, if_pos c0, if_pos (Int.natCast_nonneg _), if_pos (Int.natCast_nonneg _), if_pos c1, if_pos (Int.natCast_nonneg _), if_pos c2, if_neg hno]
   ·exact ih)
 exact hd
theorem FnWeighted : laws_FnWeighted.Pure := by
 intro l0 hm hm1 hw; unfold laws_FnWeighted.f; refine Ev.rounds ?_; refine Ev.cbind rfl ?_; by_cases hb : (l0.length : Int) > 1048576
 ·exact Ev.ifp (decide_eq_true hb) (Ev.now _)
 refine Ev.ifn (by simpa using hb) ?_; have hl0 : l0.length ≤ 17592186044416 := by omega
 obtain ⟨⟨n1, l1, m1, r1, w1⟩, d1, p1, q1, s1⟩ := lX l0 hl0; obtain ⟨⟨n2, l2, m2, r2, w2, c2⟩, d2, p2, q2, s2⟩ := jH l0 hl0; obtain ⟨⟨n3, l3, m3, r3, u3, v3, t3⟩, d3, p3, q3, s3, t4⟩ := mq l0 hl0; obtain ⟨⟨u4, v4⟩, d4, p4, q4⟩ := ld l0 hl0; simp only at p1 q1 s1 p2 q2 s2 p3 q3 s3 t4 p4 q4; have h : ∀ {a b : Nat}, a ≤ b → b ≤ 300 → a ≤ 17592186044415 := fun h1 h2 => by omega
 have g : ∀ {a b : Nat}, a ≤ b → b ≤ 300 → a ≤ 17592186044416 := fun h1 h2 => by omega
 have hbw := nG n1 l1 m1 r1 w1; have ha4 := ip u4 v4; have ha3 := ip u3 v3; have hp1 := g p1 (by decide); have hq1 := g q1 (by decide); have hs1 := g s1 (by decide); have hp2 := g p2 (by decide); have hq2 := g q2 (by decide); have hs2 := g s2 (by decide); have hp3 := g p3 (by decide); have hq3 := g q3 (by decide); have hs3 := g s3 (by decide); have ht4 := g t4 (by decide); refine Ev.bind d1 (Ev.bind (ml n1 l1 m1 r1 w1 hp1 hq1 hs1) (Ev.bind d2 (Ev.bind (gP n2 l2 m2 r2 w2 c2 hp2 hq2 hs2) (Ev.bind (fa n2 l2 m2 r2 w2 c2 hp2 hq2 hs2) (Ev.bind d3 (Ev.bind (jS n3 l3 m3 r3 u3 v3 t3 hp3 hq3 hs3 ht4) (Ev.bind d4 (Ev.bind (mC n1 l1 m1 r1 w1 hp1 hq1 hs1) (Ev.bind (fV _ (g hbw (by decide))) (Ev.ifp rfl (Ev.ifn (by simp) (Ev.ifp rfl (Ev.bind (jW n3 l3 m3 r3 u3 v3 t3 hp3 hq3 hs3 ht4) (Ev.ifn (by simp) (Ev.bind (il u4 v4 (h p4 (by decide))) (Ev.bind (ln u4 v4 (h p4 (by decide))) (Ev.bind (fV _ (g (Nat.le_trans ha4 p4) (by decide))) ?_))))))))))))))))); rw [Bool.not_true]; have hlast : Ev (fun k => (aK.f k u3 v3).bind fun t4076 => ((aD.f k t3).bind fun t4079 => ((aq.f k n3 l3 m3 r3 t4076 t4079).bind fun bt4080 => (if fD n3 l3 m3 r3 u3 v3 t3 = true then (if bt4080.2 = true then ((bd.f k t4076 bt4080.1).bind fun t4082 => ((bd.f k t4076 t3).bind fun t4083 => (some (t4082 == t4083)))) else (some true)) else (some true))))) true := by
  have hc := jm t3; refine Ev.bind (il u3 v3 (h s3 (by decide))) (Ev.bind hc (Ev.bind (fa n3 l3 m3 r3 (addB u3 v3) _ hp3 hq3 (g (Nat.le_trans ha3 s3) (by decide))) ?_)); by_cases hs : fD n3 l3 m3 r3 u3 v3 t3 = true
  ·refine Ev.ifp hs ?_; obtain ⟨c, rfl, hc256, hall⟩ := mw hs; rw [ly hc256]; by_cases hk : (bcB n3 l3 m3 r3 (addB u3 v3) (pc c : Int)).2 = true
   ·have he := hall hk; refine Ev.ifp hk (Ev.bind (dy _ _ (g (Nat.le_trans ha3 s3) (by decide))) (Ev.bind (dy _ _ (g (Nat.le_trans ha3 s3) (by decide))) ?_)); rw [he, beq_self_eq_true]; exact Ev.now _
   ·exact Ev.ifn hk (Ev.now _)
  ·exact Ev.ifn hs (Ev.now _)
 apply Ev.step
 ·intro k; rw [laws_FnWeighted.j0]
 refine Ev.ifn (by simp) (nT hbw (fun i hi => le hi) (fun i hi => ?_))
 apply Ev.step
 ·intro k; rw [laws_FnWeighted.l0, if_neg (by omega)]
 exact hlast
end Go.Proofs.YtimkekeaeojpkaaGreat.Pure
