/- The pure side of the law FnExactFindRenaming: what the Lean functions of the print compute, and that the law holds of them. Conditions: those in each lemma. -/
import Derived.Test.YtimkekeaeojpkaaMFnExactFindRenaming1
import Derived.Test.YtimkekeaeojpkaaMFnExactFindRenaming2
import Derived.Test.YtimkekeaeojpkaaMFnExactFindRenaming3
import Derived.Test.YtimkekeaeojpkaaMFnExactFindRenaming4
import Derived.Test.YtimkekeaeojpkaaMFnExactFindRenaming5
import Derived.Test.YtimkekeaeojpkaaMFnExactFindRenaming6
import Derived.Test.YtimkekeaeojpkaaMFnExactFindRenaming7
import Derived.Test.YtimkekeaeojpkaaMFnExactFindRenamingq0
import Derived.Test.YtimkekeaeojpkaaMFnExactFindRenamingq1
namespace Go.Proofs.Ytimkekeaeojpkaa.Q
open Go Go.RowKit Go.Proofs.Ytimkekeaeojpkaa.A Go.Proofs.YtimkekeaeojpkaaW.PrintWords Go.Proofs.YtimkekeaeojpkaaW.PrintLast Go.Proofs.YtimkekeaeojpkaaW.PrintMore Go.Proofs.Ytimkekeaeojpkaa.Z
set_option linter.unusedVariables false
set_option linter.unusedSimpArgs false
theorem fx {n : Nat} {f : Nat → Nat} {e : Nat} (he : e < n) : rd (degV n f) (e : Int) = (f e : Int) := by
 rw [aY (degV n f) e (by rw [cA]; exact he)]; simp [degV]
def SpF (L L2 : List Nat) (m : Nat) (F : Option (List Nat)) (r : List Int × Bool) : Prop := r.2 = F.isSome ∧ (∀ q, F = some q → r.1 = ints q) ∧ r.1.length ≤ 8
theorem gi {m : Nat} {L L2 : List Nat} (hm : m ≤ 8) (hL : ∀ b ∈ L, b < 2 ^ m) (hl : L.length ≤ 8796093022208) : ∀ (d : Nat) (p : List Nat), Part m p d → degA L L2 p 0 = true → ∃ r, Ev (fun k => ae.f k (m : Int) (ints L) (m : Int) (ints L2) (degV m (degN L)) (degV m (degN L2)) (ints p)) r ∧ SpF L L2 m (finF L L2 m d p) r := by
 have h256 := b1 hm; intro d
 induction d with
 | zero =>
  intro p hp hA; have hlen := hp.len; have h8 : ∀ x ∈ ints p, 0 ≤ x ∧ x < 8 := by
   intro x hx; obtain ⟨y, hy, rfl⟩ := List.mem_map.1 hx; have := hp.lt y hy; omega
  have hT : (canT L p).length ≤ L.length := by
   have := eQ (ints (L.map (bT (ints p)))) []; rw [aG, List.length_map] at this; unfold canT
   simpa using this
  refine ⟨(ints p, decide (canT L p = ints L2)), ?_, ?_⟩
  ·apply Ev.step
   ·intro k; rw [ae.f]
   ·exact Ev.ifp (by rw [aG]; omega) (Ev.bind (eo (ints p) L (by rw [aG]; omega) hl h8 (fun b hb => by have := hL b hb; omega)) (Ev.bind (fw (canT L p) (ints L2) (by omega)) (Ev.now _)))
  ·simp only [finF]; by_cases hc : canT L p = ints L2
   ·rw [if_pos ⟨hA, hc⟩]; exact ⟨by simp [hc], (fun q hq => by cases hq; rfl), by simp only []; rw [aG]; omega⟩
   ·rw [if_neg (fun h => hc h.2)]; exact ⟨by simp [hc], (fun q hq => by cases hq), by simp only []; rw [aG]; omega⟩
 | succ d ih =>
  intro p hp hA; have hlen := hp.len; have hd := down (P := fun i => ∃ r, Ev (fun k => ae.l0 k (degV m (degN L)) (degV m (degN L2)) (ints p) (i : Int) (m : Int) (ints L) (m : Int) (ints L2)) r ∧ SpF L L2 m ((List.range' i (m - i)).findSome? (fun e => if e ∈ p then none else finF L L2 m d (p ++ [e]))) r) m
   (by
    rw [Nat.sub_self, List.range'_zero, List.findSome?_nil]; refine ⟨([], false), ?_, rfl, (fun q hq => by cases hq), Nat.zero_le _⟩
    apply Ev.step
    ·intro k; rw [ae.l0, if_neg (by omega)]
    ·exact Ev.now _)
   (by
    intro i hi ih2; rw [dv hi, List.findSome?_cons]; obtain ⟨r2, e2, h2⟩ := ih2; have hh := dd (ints p) (i : Int) (by rw [aG]; omega); have ec : (ints p).contains (i : Int) = decide (i ∈ p) := by rw [Bool.eq_iff_iff, ints_mem, decide_eq_true_eq]
    rw [ec] at hh; have hnext : Ev (fun k => ae.j1 k (degV m (degN L)) (degV m (degN L2)) (ints p) (i : Int) true (m : Int) (ints L) (m : Int) (ints L2)) r2 := by
     apply Ev.step
     ·intro k; rw [ae.j1, bI hi (by omega)]
     ·exact Ev.ifp rfl e2
    have hl0 : ∀ {r : List Int × Bool}, Ev (fun k => if decide (i ∈ p) = true then ae.j1 k (degV m (degN L)) (degV m (degN L2)) (ints p) (i : Int) true (m : Int) (ints L) (m : Int) (ints L2) else (if 0 ≤ ((ints p).length : Int) then (if ((ints p).length : Int) < ((degV m (degN L)).length : Int) then (if 0 ≤ (i : Int) then (if (i : Int) < ((degV m (degN L2)).length : Int) then ae.j1 k (degV m (degN L)) (degV m (degN L2)) (ints p) (i : Int) ((rd (degV m (degN L)) ((ints p).length : Int)) != (rd (degV m (degN L2)) (i : Int))) (m : Int) (ints L) (m : Int) (ints L2) else none) else none) else none) else none)) r → Ev (fun k => ae.l0 k (degV m (degN L)) (degV m (degN L2)) (ints p) (i : Int) (m : Int) (ints L) (m : Int) (ints L2)) r := by
     intro r hr
     apply Ev.step
     ·intro k; rw [ae.l0, if_pos (by omega)]
     ·exact Ev.bind hh hr
    by_cases hc : i ∈ p
    ·rw [if_pos hc]; exact ⟨r2, hl0 (Ev.ifp (decide_eq_true hc) hnext), h2⟩
    ·rw [if_neg hc]; have hplen : p.length < m := by omega
     have hskip : ∀ {r : List Int × Bool}, Ev (fun k => ae.j1 k (degV m (degN L)) (degV m (degN L2)) (ints p) (i : Int) ((rd (degV m (degN L)) ((ints p).length : Int)) != (rd (degV m (degN L2)) (i : Int))) (m : Int) (ints L) (m : Int) (ints L2)) r → Ev (fun k => ae.l0 k (degV m (degN L)) (degV m (degN L2)) (ints p) (i : Int) (m : Int) (ints L) (m : Int) (ints L2)) r := fun hr => hl0 (Ev.ifn (by rw [decide_eq_false hc]; decide) (Ev.ifp (by omega) (Ev.ifp (by rw [aG, cA]; omega) (Ev.ifp (by omega) (Ev.ifp (by rw [cA]; omega) hr)))))
     rw [aG, fx hplen, fx hi] at hskip; by_cases hdg : degN L p.length = degN L2 i
     ·rw [show (((degN L p.length : Nat) : Int) != ((degN L2 i : Nat) : Int)) = false from by rw [hdg]; simp] at hskip; have hA2 : degA L L2 (p ++ [i]) 0 = true := by rw [dH, hA, decide_eq_true hdg]; rfl
      obtain ⟨r, er, h1, h3, h4⟩ := ih (p ++ [i]) (hp.next hi hc) hA2; have hj : ∀ {s : List Int × Bool}, Ev (fun k => if r.2 = true then some (r.1, true) else ae.l0 k (degV m (degN L)) (degV m (degN L2)) (ints p) ((i + 1 : Nat) : Int) (m : Int) (ints L) (m : Int) (ints L2)) s → Ev (fun k => ae.j1 k (degV m (degN L)) (degV m (degN L2)) (ints p) (i : Int) false (m : Int) (ints L) (m : Int) (ints L2)) s := by
       intro s hs
       apply Ev.step
       ·intro k; rw [ae.j1, bI hi (by omega)]
       ·refine Ev.ifn (by decide) (Ev.cbind rfl (Ev.ifp (by rw [aG]; simp; omega) (Ev.cbind rfl (Ev.cbind rfl (Ev.ifp (by rw [List.nil_append, aG]; simp; omega) ?_))))); rw [List.nil_append, show ints p ++ [(i : Int)] = ints (p ++ [i]) from by simp [ints]]; exact Ev.bind er hs
      cases hf : finF L L2 m d (p ++ [i]) with
      | some q =>
       rw [hf] at h1 h3; exact ⟨(r.1, true), hskip (hj (Ev.ifp h1 (Ev.now _))), rfl, (fun q' hq' => by cases hq'; exact h3 q rfl), h4⟩
      | none =>
       rw [hf] at h1; exact ⟨r2, hskip (hj (Ev.ifn (by rw [h1]; decide) e2)), h2⟩
     ·rw [show (((degN L p.length : Nat) : Int) != ((degN L2 i : Nat) : Int)) = true from by rw [bne_iff_ne]; omega] at hskip; rw [iU d (p ++ [i]) (by rw [dH, decide_eq_false hdg, Bool.and_false]; decide)]; exact ⟨r2, hskip hnext, h2⟩)
  rw [Nat.sub_zero, ← List.range_eq_range'] at hd; obtain ⟨r, er, h⟩ := hd; refine ⟨r, ?_, h⟩
  apply Ev.step
  ·intro k; rw [ae.f]
  ·exact Ev.ifn (by rw [aG]; omega) er
def fiB (n : Int) (l : List Int) (n2 : Int) (l2 : List Int) : List Int × Bool := if matB n l = true ∧ matB n2 l2 = true ∧ n = n2 ∧ l.length = l2.length then (match finF (l.map Int.toNat) (l2.map Int.toNat) n.toNat n.toNat [] with | some q => (ints q, true) | none => ([], false)) else ([], false)
theorem jf : ∀ (m : Nat) (l : List Nat), l.Nodup → (∀ x ∈ l, x < m) → l.length ≤ m := by
 intro m
 induction m with
 | zero =>
  intro l _ h; cases l with
  | nil => exact Nat.le_refl _
  | cons x l => exact absurd (h x (List.mem_cons_self ..)) (Nat.not_lt_zero _)
 | succ m ih =>
  intro l hn h; have h1 := ih (l.erase m) (hn.erase m) (fun x hx => by
   have := h x (List.mem_of_mem_erase hx); have hne : x ≠ m := (hn.mem_erase_iff.1 hx).1; omega)
  by_cases hm : m ∈ l
  ·rw [List.length_erase_of_mem hm] at h1; omega
  ·rw [List.erase_of_not_mem hm] at h1; omega
theorem dD (m : Nat) : Part m [] m := ⟨List.nodup_nil, (fun e he => by cases he), by simp⟩
theorem gV {m : Nat} {L L2 : List Nat} (h : matB (m : Int) (ints L) = true) (h2 : matB (m : Int) (ints L2) = true) (hlen : L.length = L2.length) : fiB (m : Int) (ints L) (m : Int) (ints L2) = (match finF L L2 m m [] with | some q => (ints q, true) | none => ([], false)) := by
 unfold fiB; rw [if_pos ⟨h, h2, rfl, by rw [aG, aG]; exact hlen⟩, Int.toNat_natCast, show (ints L).map Int.toNat = L from cg L, show (ints L2).map Int.toNat = L2 from cg L2]
theorem iY (n : Int) (l : List Int) (n2 : Int) (l2 : List Int) : (fiB n l n2 l2).1.length ≤ 8 := by
 unfold fiB
 split
 ·rename_i h
  obtain ⟨m, L, rfl, hm, rfl, _⟩ := dw h.1; rw [Int.toNat_natCast]
  split
  ·rename_i q hq
   have := (eT m [] q (dD m) hq).1.len; simp only [aG]; omega
  ·exact Nat.zero_le _
 ·exact Nat.zero_le _
theorem dT (n : Int) (l : List Int) (n2 : Int) (l2 : List Int) (hl : l.length ≤ 8796093022208) (hl2 : l2.length ≤ 8796093022208) : Ev (fun k => aq.f k n l n2 l2) (fiB n l n2 l2) := by
 unfold aq.f; refine Ev.bind (ew n l (by omega)) ?_; by_cases h : matB n l = true
 rotate_left
 ·rw [show fiB n l n2 l2 = ([], false) from if_neg (fun hc => h hc.1)]; exact Ev.ifn h (Ev.now _)
 refine Ev.ifp h (Ev.bind (ew n2 l2 (by omega)) ?_); by_cases h2 : matB n2 l2 = true
 rotate_left
 ·rw [show fiB n l n2 l2 = ([], false) from if_neg (fun hc => h2 hc.2.1)]; exact Ev.ifn h2 (Ev.now _)
 refine Ev.ifp h2 ?_; by_cases h3 : n = n2
 rotate_left
 ·rw [show fiB n l n2 l2 = ([], false) from if_neg (fun hc => h3 hc.2.2.1)]; exact Ev.ifn h3 (Ev.now _)
 refine Ev.ifp h3 ?_; by_cases h4 : l.length = l2.length
 rotate_left
 ·rw [show fiB n l n2 l2 = ([], false) from if_neg (fun hc => h4 hc.2.2.2)]; exact Ev.ifn (by omega) (Ev.now _)
 refine Ev.ifp (by omega) ?_; subst h3; obtain ⟨m, L, rfl, rfl, hM, _⟩ := dx h; obtain ⟨m2, L2, e1, rfl, hM2, _⟩ := dx h2; rw [aG] at hl hl2; rw [aG, aG] at h4; have hm := hM.size; rw [gV h h2 h4]; refine Ev.ifp ⟨by omega, by omega⟩ (Ev.bind (gu hM.size hM.sets hM2.lt hl hl2 m [] 16 (dD m) (by omega)) ?_); cases hf : finF L L2 m m [] with
 | some q => exact Ev.ifp rfl (Ev.now _)
 | none => exact Ev.ifn (by simp [finR]) (Ev.now _)
theorem gD {m : Nat} {L L2 : List Nat} (h : matB (m : Int) (ints L) = true) (h2 : matB (m : Int) (ints L2) = true) {q : List Nat} (hq : finF L L2 m m [] = some q) : sigB (m : Int) (ints L) = sigB (m : Int) (ints L2) := by
 obtain ⟨hp, hA, _⟩ := eT m [] q (dD m) hq; have hlen := hp.len; rw [degA_iff] at hA; unfold sigB; rw [if_pos h, if_pos h2, Int.toNat_natCast, show (ints L).map Int.toNat = L from cg L, show (ints L2).map Int.toNat = L2 from cg L2]; have hperm : q.Perm (List.range m) := by
  refine (List.perm_ext_iff_of_nodup hp.nodup List.nodup_range).2 (fun x => ⟨fun hx => List.mem_range.2 (hp.lt x hx), fun hx => ?_⟩); refine Classical.byContradiction fun hn => ?_
  have := jf m (x :: q) (List.nodup_cons.2 ⟨hn, hp.nodup⟩) (fun y hy => by
   rcases List.mem_cons.1 hy with rfl | hy
   ·exact List.mem_range.1 hx
   ·exact hp.lt y hy)
  rw [List.length_cons] at this; omega
 have e : degV m (degN L) = q.map (fun e => (degN L2 e : Int)) := by
  unfold degV
  apply List.ext_getElem
  ·rw [List.length_map, List.length_map, List.length_range]; omega
  ·intro i h1 h3; have hi : i < q.length := by rw [List.length_map] at h3; exact h3
   have := hA i hi; rw [List.getElem_map, List.getElem_map, List.getElem_range, this, List.getD_eq_getElem?_getD, List.getElem?_eq_getElem hi]; rfl
 have hp2 : (degV m (degN L)).Perm (degV m (degN L2)) := by
  rw [e]; exact hperm.map _
 exact e8 ((dG _).trans (hp2.trans (dG _).symm)) (ez _) (ez _)
theorem fz (n : Int) (l : List Int) (n2 : Int) (l2 : List Int) (hl : l.length ≤ 8796093022208) (hl2 : l2.length ≤ 8796093022208) : Ev (fun k => ag.f k n l n2 l2) (fiB n l n2 l2) := by
 have hno : Ev (fun k => ag.j0 k true n l n2 l2) ([], false) := by
  apply Ev.step
  ·intro k; rw [ag.j0]
  ·exact Ev.ifp rfl (Ev.now _)
 unfold ag.f; refine Ev.bind (dh n l (by omega)) ?_; by_cases h : matB n l = true
 rotate_left
 ·rw [show fiB n l n2 l2 = ([], false) from if_neg (fun hc => h hc.1)]; exact Ev.ifn h hno
 refine Ev.ifp h (Ev.bind (dh n2 l2 (by omega)) ?_); by_cases h2 : matB n2 l2 = true
 rotate_left
 ·rw [show fiB n l n2 l2 = ([], false) from if_neg (fun hc => h2 hc.2.1)]; exact Ev.ifn h2 hno
 refine Ev.ifp h2 ?_; by_cases h3 : n = n2
 rotate_left
 ·rw [show fiB n l n2 l2 = ([], false) from if_neg (fun hc => h3 hc.2.2.1)]; exact Ev.ifn h3 hno
 refine Ev.ifp h3 ?_; by_cases h4 : l.length = l2.length
 rotate_left
 ·rw [show fiB n l n2 l2 = ([], false) from if_neg (fun hc => h4 hc.2.2.2)]; exact Ev.ifn (by omega) hno
 refine Ev.ifp (by omega) ?_; subst h3; obtain ⟨m, L, rfl, rfl, hM, _⟩ := dx h; obtain ⟨m2, L2, e1, rfl, hM2, _⟩ := dx h2; have hs := iF (m : Int) (ints L); refine Ev.bind (ev _ _ hl) (Ev.bind (ev _ _ hl2) (Ev.bind (fw _ _ (by omega)) ?_)); rw [aG] at hl hl2; rw [aG, aG] at h4; have hm := hM.size; rw [gV h h2 h4]; by_cases hsig : sigB (m : Int) (ints L) = sigB (m : Int) (ints L2)
 rotate_left
 ·rw [decide_eq_false hsig, Bool.not_false]; cases hf : finF L L2 m m [] with
  | some q => exact absurd (gD h h2 hf) hsig
  | none => exact hno
 rw [decide_eq_true hsig, Bool.not_true]; obtain ⟨r, er, h5, h6, h7⟩ := gi (L2 := L2) hM.size hM.sets hl m [] (dD m) (by simp [degA])
 apply Ev.step
 ·intro k; rw [ag.j0]
 ·refine Ev.ifn (by decide) (Ev.bind (dm m hM.size L hl hM.lt) (Ev.bind (dm m hM.size L2 hl2 hM2.lt) (Ev.bind er ?_))); cases hf : finF L L2 m m [] with
  | some q =>
   rw [hf] at h5 h6; refine Ev.ifp h5 (Ev.cbind rfl (Ev.ifp (by simp; omega) ?_)); rw [List.nil_append, h6 q rfl]; exact Ev.now _
  | none =>
   rw [hf] at h5; exact Ev.ifn (by rw [h5]; decide) (Ev.now _)
end Go.Proofs.Ytimkekeaeojpkaa.Q
namespace Go.Proofs.Ytimkekeaeojpkaa.Pure
open Go Go.RowKit Go.Proofs.Ytimkekeaeojpkaa.A Go.Proofs.YtimkekeaeojpkaaW.PrintWords Go.Proofs.YtimkekeaeojpkaaW.PrintLast Go.Proofs.YtimkekeaeojpkaaW.PrintMore Go.Proofs.Ytimkekeaeojpkaa.Z Go.Proofs.Ytimkekeaeojpkaa.Q
set_option linter.unusedVariables false
set_option linter.unusedSimpArgs false
theorem fp (n : Int) (l : List Int) (a : Int) (h0 : 0 ≤ a) (h1 : a ≤ 1000000000000000) (hl : l.length ≤ 17592186044416) : Ev (fun k => laws_markMatroid.f k n l a) (a + (l.length : Int), ci a l.length) := by
 unfold laws_markMatroid.f; exact Ev.bind (fg l a h0 h1 hl) (Ev.now _)
theorem FnExactFindRenaming : laws_FnExactFindRenaming.Pure := by
 intro n l n' l' hn hm hw hn' hm' hw'; unfold laws_FnExactFindRenaming.f; refine Ev.rounds ?_; refine Ev.cbind (fQ n l 1048576 (by omega) (by omega) hm) ?_; by_cases h1 : (l.length : Int) > 1048576
 ·rw [if_pos h1]; exact Ev.ifp (by decide) (Ev.now _)
 rw [if_neg h1]; refine Ev.ifn (by omega) ?_; refine Ev.cbind (fQ n' l' _ (by omega) (by omega) hm') ?_; by_cases h2 : (l'.length : Int) > 1048576 - (l.length : Int)
 ·rw [if_pos h2]; exact Ev.ifp (by decide) (Ev.now _)
 rw [if_neg h2]; refine Ev.ifn (by omega) ?_; have hl : l.length ≤ 17592186044416 := by omega
 have hl' : l'.length ≤ 17592186044416 := by omega
 have hg : (fiB n l n' l').1.length ≤ 17592186044416 := Nat.le_trans (iY n l n' l') (by decide); refine Ev.bind (cp n l hl) (Ev.bind (cp n' l' hl') (Ev.bind (fz n l n' l' (by omega) (by omega)) (Ev.bind (cp n l hl) (Ev.bind (cp n' l' hl') (Ev.bind (dT n l n' l' (by omega) (by omega)) (Ev.bind (cM _ hg) (Ev.ifp rfl ?_)))))))
 apply Ev.step
 ·intro k; rw [laws_FnExactFindRenaming.j0]
 refine Ev.ifn (by simp) (Ev.bind (cp n l hl) (Ev.bind (fG n l hl) (Ev.ifp rfl (Ev.bind (cp n' l' hl') (Ev.bind (fG n' l' hl') (Ev.ifp rfl (Ev.bind (gC n l hl) (Ev.bind (fp n' l' _ (by simp only []; omega) (by simp only []; omega) hl') (Ev.ifn (by simp only []; omega) (Ev.bind (cM _ hg) (Ev.ifp rfl ?_)))))))))))
 apply Ev.step
 ·intro k; rw [laws_FnExactFindRenaming.j1]
 refine Ev.ifn (by simp) (Ev.bind (fg _ 1 (by omega) (by omega) hg) (Ev.bind (gT _ 1 (by omega) (by omega) hg) ?_)); refine Ev.ifn (by omega) (Ev.ifp rfl ?_); refine Ev.bind (cp n l hl) (Ev.bind (cp n' l' hl') (Ev.bind (dT n l n' l' (by omega) (by omega)) (Ev.bind (cM _ hg) (Ev.ifp rfl ?_))))
 apply Ev.step
 ·intro k; rw [laws_FnExactFindRenaming.j2]
 refine Ev.ifn (by simp) (Ev.bind (gT _ 1 (by omega) (by omega) hg) ?_); exact Ev.ifn (by omega) (Ev.ifp rfl (Ev.now _))
end Go.Proofs.Ytimkekeaeojpkaa.Pure
