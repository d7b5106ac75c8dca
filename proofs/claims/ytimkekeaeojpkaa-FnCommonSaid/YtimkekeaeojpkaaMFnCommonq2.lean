/- The pure side of the law FnCommon: what the Lean functions of the print compute, and that the law holds of them. Conditions: those in each lemma. -/
import Derived.Test.YtimkekeaeojpkaaMFnCommon1
import Derived.Test.YtimkekeaeojpkaaMFnCommon2
import Derived.Test.YtimkekeaeojpkaaMFnCommon3
import Derived.Test.YtimkekeaeojpkaaMFnCommon4
import Derived.Test.YtimkekeaeojpkaaMFnCommon5
import Derived.Test.YtimkekeaeojpkaaMFnCommon6
import Derived.Test.YtimkekeaeojpkaaMFnCommonq0
import Derived.Test.YtimkekeaeojpkaaMFnCommonq1
namespace Go.Proofs.Ytimkekeaeojpkaa.Q
open Go Go.RowKit Go.Proofs.Ytimkekeaeojpkaa.A Go.Proofs.YtimkekeaeojpkaaW.PrintWords Go.Proofs.YtimkekeaeojpkaaW.PrintLast Go.Proofs.YtimkekeaeojpkaaW.PrintMore Go.Proofs.Ytimkekeaeojpkaa.Z
set_option linter.unusedVariables false
set_option linter.unusedSimpArgs false
def comN (L L' : List Nat) (s : Nat) : Bool := indN L s && indN L' s
def csN (m : Nat) (L L' : List Nat) : List Nat := (List.range (2 ^ m)).filter (comN L L')
theorem yfc {m : Nat} {L L' : List Nat} {t : Nat} (h : t ∈ csN m L L') : t < 2 ^ m := List.mem_range.1 (List.mem_filter.1 h).1
theorem yhS {m : Nat} (hm : m ≤ 8) (L L' : List Nat) : (csN m L L').length ≤ 256 := by
 have h1 : (csN m L L').length ≤ (List.range (2 ^ m)).length := List.length_filter_le _ _
 rw [List.length_range] at h1
 have := yal hm
 omega
theorem yed {m : Nat} (hm : m ≤ 8) (L L' : List Nat) (hl : L.length ≤ 17592186044416) (hl' : L'.length ≤ 17592186044416) (hL : ∀ b ∈ L, b < 256) (hL' : ∀ b ∈ L', b < 256) : Ev (fun k => yao.f k (m : Int) (ints L) (m : Int) (ints L')) (ints (csN m L L')) := by
 have h2m := yal hm
 have hp := Nat.two_pow_pos m
 unfold yao.f
 refine Ev.cbind (ycu hm) (Ev.ifp (by unfold yax; omega) ?_)
 have e : ycG 0 ((yax m : Nat) : Int) = ints (List.range (2 ^ m)) := by
  unfold ycG ints yax
  rw [List.range_eq_range', show (((2 ^ m - 1 : Nat) : Int) + 1).toNat - (0 : Int).toNat = 2 ^ m from by omega]
  rfl
 unfold yfw
 rw [e]
 have hf : (ints (List.range (2 ^ m))).filter (fun x : Int => comN L L' x.toNat) = ints (csN m L L') := by
  unfold ints csN
  rw [List.filter_map]
  congr 1
 rw [← hf]
 refine ygj (p := fun x : Int => comN L L' x.toNat) ?_
 intro x hx
 unfold ints at hx
 obtain ⟨t, ht, rfl⟩ := List.mem_map.1 hx
 have ht2 := List.mem_range.1 ht
 have h256 : t < 256 := by omega
 have h1 := ycE (m : Int) L (t : Int) hl hL
 have h2 := ycE (m : Int) L' (t : Int) hl' hL'
 rw [ycB h256] at h1 h2
 unfold yao.c
 refine Ev.bind h1 ?_
 show Ev _ (comN L L' (t : Int).toNat)
 rw [Int.toNat_natCast]
 unfold comN
 by_cases h : indN L t = true
 ·rw [h, Bool.true_and]; exact Ev.ifp rfl h2
 ·rw [Bool.eq_false_iff.2 h, Bool.false_and]; exact Ev.ifn (by decide) (Ev.now _)
end Go.Proofs.Ytimkekeaeojpkaa.Q
namespace Go.Proofs.Ytimkekeaeojpkaa.Q
open Go Go.RowKit Go.Proofs.Ytimkekeaeojpkaa.A Go.Proofs.YtimkekeaeojpkaaW.PrintWords Go.Proofs.YtimkekeaeojpkaaW.PrintLast Go.Proofs.YtimkekeaeojpkaaW.PrintMore Go.Proofs.Ytimkekeaeojpkaa.Z
set_option linter.unusedVariables false
set_option linter.unusedSimpArgs false
def bigN (best : Nat) (ts : List Nat) : Nat := ts.foldl (fun b t => if pc t > pc b then t else b) best
def lgB (n : Int) (l : List Int) (n' : Int) (l' : List Int) : Int × Bool := if togB n l n' l' = true then (((bigN 0 (csN n.toNat (l.map Int.toNat) (l'.map Int.toNat)) : Nat) : Int), true) else (0, false)
theorem ydG (n : Int) (l : List Int) (n' : Int) (l' : List Int) (hl : l.length ≤ 17592186044416) (hl' : l'.length ≤ 17592186044416) : Ev (fun k => yw.f k n l n' l') (lgB n l n' l') := by
 unfold yw.f lgB
 have hc := ycw n l n' l' 0 hl hl'
 rw [ydu] at hc
 refine Ev.bind hc ?_
 by_cases h : togB n l n' l' = true
 ·refine Ev.ifp h ?_
  rw [if_pos h]
  obtain ⟨m, L, L', rfl, rfl, hm, rfl, rfl, hL, hL', hL256, hL256', hne, hne'⟩ := ycN h
  rw [show (ints L).map Int.toNat = L from yat L, show (ints L').map Int.toNat = L' from yat L', Int.toNat_natCast]
  rw [ints_len] at hl hl'
  have h2m := yal hm
  have hp := Nat.two_pow_pos m
  have hd := down (P := fun t => ∀ best : Nat, best < 256 → Ev (fun k => yw.l0 k (best : Int) (t : Int) (m : Int) (ints L) (m : Int) (ints L')) (((bigN best ((List.range' t (2 ^ m - t)).filter (comN L L')) : Nat) : Int), true)) (2 ^ m)
   (by
    intro best _
    apply Ev.step
    ·intro k
     simp only [yw.l0, ybg hm, Option.bind_some]
     rw [if_neg (by unfold yax; omega)]
    ·rw [Nat.sub_self]; exact Ev.now _)
   (by
    intro t ht ih best hb
    have h256 : t < 256 := by omega
    apply Ev.step
    ·intro k
     simp only [yw.l0, ybg hm, Option.bind_some]
     rw [if_pos (by unfold yax; omega), yay ht (by omega)]
    ·rw [ydk ht, List.filter_cons]
     refine Ev.bind (ybp t h256) (Ev.bind (ybp best hb) ?_)
     have hf1 := ycm (m : Int) L t hl hL256 hne h256
     have hf2 := ycm (m : Int) L' t hl' hL256' hne' h256
     by_cases hq : pc t > pc best
     ·refine Ev.ifp (by omega) (Ev.bind hf1 ?_)
      unfold comN
      by_cases h1 : indN L t = true
      ·refine Ev.ifp h1 (Ev.bind hf2 ?_)
       rw [h1, Bool.true_and]
       by_cases h2 : indN L' t = true
       ·rw [if_pos h2]
        refine Ev.ifp h2 ?_
        have := ih t h256
        unfold bigN at this ⊢
        rw [List.foldl_cons, if_pos hq]
        exact this
       ·rw [if_neg h2]
        exact Ev.ifn h2 (ih best hb)
      ·rw [Bool.eq_false_iff.2 h1, Bool.false_and, if_neg (by decide)]
       exact Ev.ifn (by decide) (ih best hb)
     ·refine Ev.ifn (by omega) ?_
      by_cases h1 : comN L L' t = true
      ·rw [if_pos h1]
       have := ih best hb
       unfold bigN at this ⊢
       rw [List.foldl_cons, if_neg hq]
       exact this
      ·rw [if_neg h1]; exact ih best hb)
  have h0 := hd 0 (by omega)
  rw [Nat.sub_zero, ← List.range_eq_range'] at h0
  exact h0
 ·refine Ev.ifn h ?_
  rw [if_neg h]; exact Ev.now _
theorem yeY (n : Int) (l : List Int) (n' : Int) (l' : List Int) (hl : l.length ≤ 17592186044416) (hl' : l'.length ≤ 17592186044416) : Ev (fun k => yQ.f k n l n' l') (lgB n l n' l') := by
 unfold yQ.f lgB
 refine Ev.bind (yfl n l n' l' hl hl') ?_
 by_cases h : togB n l n' l' = true
 ·refine Ev.ifp h ?_
  rw [if_pos h]
  obtain ⟨m, L, L', rfl, rfl, hm, rfl, rfl, hL, hL', hL256, hL256', hne, hne'⟩ := ycN h
  rw [show (ints L).map Int.toNat = L from yat L, show (ints L').map Int.toNat = L' from yat L', Int.toNat_natCast]
  rw [ints_len] at hl hl'
  have h2m := yal hm
  have hcl := yhS hm L L'
  refine Ev.bind (yed hm L L' hl hl' hL256 hL256') ?_
  have hmem : ∀ t ∈ csN m L L', t < 256 := fun t ht => Nat.lt_of_lt_of_le (yfc ht) h2m
  generalize csN m L L' = C at hmem hcl ⊢
  have hd := down (P := fun i => ∀ best : Nat, best < 256 → Ev (fun k => yQ.l0 k (best : Int) (ints C) ((ints C).length : Int) (i : Int)) (((bigN best (C.drop i) : Nat) : Int), true)) C.length
   (by
    intro best _
    apply Ev.step
    ·intro k
     simp only [yQ.l0]
     rw [if_neg (by rw [ints_len]; omega)]
    ·rw [ybl]; exact Ev.now _)
   (by
    intro i hi ih best hb
    have ht := hmem _ (List.getElem_mem hi)
    apply Ev.step
    ·intro k
     simp only [yQ.l0]
     rw [if_pos (by rw [ints_len]; omega), if_pos (by omega), if_pos (by rw [ints_len]; omega), ycp C i hi, yay hi (by omega), yca _ ht, yca _ hb, Option.bind_some, Option.bind_some]
    ·rw [yaS C i hi]
     unfold bigN
     rw [List.foldl_cons]
     by_cases hq : pc C[i] > pc best
     ·rw [if_pos hq]; exact Ev.ifp (by omega) (ih _ ht)
     ·rw [if_neg hq]; exact Ev.ifn (by omega) (ih _ hb))
  exact hd 0 (by omega)
 ·refine Ev.ifn h ?_
  rw [if_neg h]; exact Ev.now _
end Go.Proofs.Ytimkekeaeojpkaa.Q
namespace Go.Proofs.Ytimkekeaeojpkaa.Q
open Go Go.RowKit Go.Proofs.Ytimkekeaeojpkaa.A Go.Proofs.YtimkekeaeojpkaaW.PrintWords Go.Proofs.YtimkekeaeojpkaaW.PrintLast Go.Proofs.YtimkekeaeojpkaaW.PrintMore Go.Proofs.Ytimkekeaeojpkaa.Z
set_option linter.unusedVariables false
set_option linter.unusedSimpArgs false
theorem yfy (ts : List Nat) : ∀ best : Nat, pc best ≤ pc (bigN best ts) ∧ ∀ t ∈ ts, pc t ≤ pc (bigN best ts) := by
 induction ts with
 | nil => intro best; exact ⟨Nat.le_refl _, fun t ht => by simp at ht⟩
 | cons x ts ih =>
  intro best
  unfold bigN at ih ⊢
  rw [List.foldl_cons]
  by_cases h : pc x > pc best
  ·rw [if_pos h]
   obtain ⟨k1, k2⟩ := ih x
   refine ⟨by omega, fun t ht => ?_⟩
   rcases List.mem_cons.1 ht with rfl | ht
   ·exact k1
   ·exact k2 t ht
  ·rw [if_neg h]
   obtain ⟨k1, k2⟩ := ih best
   refine ⟨k1, fun t ht => ?_⟩
   rcases List.mem_cons.1 ht with rfl | ht
   ·omega
   ·exact k2 t ht
theorem yeF (ts : List Nat) : ∀ best : Nat, bigN best ts = best ∨ bigN best ts ∈ ts := by
 induction ts with
 | nil => intro best; exact .inl rfl
 | cons x ts ih =>
  intro best
  unfold bigN at ih ⊢
  rw [List.foldl_cons]
  by_cases h : pc x > pc best
  ·rw [if_pos h]
   rcases ih x with k | k
   ·exact .inr (by rw [k]; exact List.mem_cons_self ..)
   ·exact .inr (List.mem_cons_of_mem _ k)
  ·rw [if_neg h]
   rcases ih best with k | k
   ·exact .inl k
   ·exact .inr (List.mem_cons_of_mem _ k)
def bdN (m : Nat) (L L' : List Nat) (u : Nat) : Nat := rkN L u + rkN L' (dif (yax m) u)
theorem weak {m : Nat} {L L' : List Nat} {I u : Nat} (hI : I < 2 ^ m) (h1 : indN L I = true) (h2 : indN L' I = true) : pc I ≤ bdN m L L' u := by
 obtain ⟨b, hb, hs⟩ := indN_iff.1 h1
 obtain ⟨b', hb', hs'⟩ := indN_iff.1 h2
 have e := ycg I u
 have k1 : pc (I &&& u) ≤ rkN L u := Nat.le_trans (ybT fun i _ hi => by
  rw [Nat.testBit_and, Bool.and_eq_true] at hi ⊢
  exact ⟨ya4.1 hs i hi.1, hi.2⟩) (ydl hb u)
 have k2 : pc (dif I u) ≤ rkN L' (dif (yax m) u) := Nat.le_trans (ybT fun i _ hi => by
  rw [dif_bit, Bool.and_eq_true] at hi
  rw [Nat.testBit_and, dif_bit, full_bit, Bool.and_eq_true, Bool.and_eq_true]
  refine ⟨ya4.1 hs' i hi.1, ?_, hi.2⟩
  rcases Nat.lt_or_ge i m with h | h
  ·exact decide_eq_true h
  ·rw [ydx hI h] at hi; exact absurd hi.1 (by decide)) (ydl hb' _)
 unfold bdN
 omega
theorem yff {m : Nat} {L L' : List Nat} (hM : Mat m L) (hM' : Mat m L') : ∃ u, u < 2 ^ m ∧ bdN m L L' u = pc (bigN 0 (csN m L L')) := by
 refine Classical.byContradiction fun hc => ?_
 have hno : ∀ u, u < 2 ^ m → bdN m L L' u ≠ pc (bigN 0 (csN m L L')) := fun u hu he => hc ⟨u, hu, he⟩
 obtain ⟨_, hmax⟩ := yfy (csN m L L') 0
 have hw : ∀ u, u < 2 ^ m → pc (bigN 0 (csN m L L')) + 1 ≤ bdN m L L' u := by
  intro u hu
  have hle : pc (bigN 0 (csN m L L')) ≤ bdN m L L' u := by
   rcases yeF (csN m L L') 0 with k | k
   ·rw [k, pc_zero]; exact Nat.zero_le _
   ·have hcm := (List.mem_filter.1 k).2
    unfold comN at hcm
    rw [Bool.and_eq_true] at hcm
    exact weak (yfc k) hcm.1 hcm.2
  have := hno u hu
  omega
 obtain ⟨I, hI, k1, k2, k3⟩ := yhx m hM.size (rkN L) (rkN L') (Mat.rkF hM) (Mat.rkF hM') (pc (bigN 0 (csN m L L')) + 1) hw
 have hI256 : I < 256 := Nat.lt_of_lt_of_le hI (yal hM.size)
 have i1 : indN L I = true := (ycd hI256 hM.some).1 (Nat.le_antisymm (ych L I) k1)
 have i2 : indN L' I = true := (ycd hI256 hM'.some).1 (Nat.le_antisymm (ych L' I) k2)
 have hin : I ∈ csN m L L' := List.mem_filter.2 ⟨List.mem_range.2 hI, by unfold comN; rw [i1, i2]; rfl⟩
 have := hmax I hin
 omega
def yc2 (p : Nat → Bool) : Nat → Nat → Nat
 | 0, u => u
 | j + 1, u => if p u = true then u else yc2 p j (u + 1)
def yeV (n : Int) (l : List Int) (n' : Int) (l' : List Int) : Int × Bool := if togB n l n' l' = true then (((yc2 (fun u => decide (bdN n.toNat (l.map Int.toNat) (l'.map Int.toNat) u = pc (bigN 0 (csN n.toNat (l.map Int.toNat) (l'.map Int.toNat))))) (2 ^ n.toNat) 0 : Nat) : Int), true) else (0, false)
theorem ydi {n n' : Int} {l l' : List Int} (h : togB n l n' l' = true) : ∃ (m : Nat) (L L' : List Nat), n = m ∧ n' = m ∧ l = ints L ∧ l' = ints L' ∧ Mat m L ∧ Mat m L' := by
 simp only [togB, Bool.and_eq_true, decide_eq_true_eq] at h
 obtain ⟨h1, h2, h3⟩ := h
 obtain ⟨m, L, rfl, rfl, hM, _⟩ := yfW h1
 obtain ⟨m', L', rfl, rfl, hM', _⟩ := yfW h2
 have : m = m' := by omega
 subst this
 exact ⟨m, L, L', rfl, rfl, rfl, rfl, hM, hM'⟩
theorem ygB {m : Nat} {L L' : List Nat} (hm : m ≤ 8) : bigN 0 (csN m L L') < 256 := by
 rcases yeF (csN m L L') 0 with k | k
 ·rw [k]; decide
 ·exact Nat.lt_of_lt_of_le (yfc k) (yal hm)
theorem yfz (n : Int) (l : List Int) (n' : Int) (l' : List Int) (hl : l.length ≤ 17592186044416) (hl' : l'.length ≤ 17592186044416) : Ev (fun k => yE.f k n l n' l') (yeV n l n' l') := by
 unfold yE.f yeV
 refine Ev.bind (ydG n l n' l' hl hl') ?_
 unfold lgB
 by_cases h : togB n l n' l' = true
 ·rw [if_pos h, if_pos h]
  obtain ⟨m, L, L', rfl, rfl, rfl, rfl, hM, hM'⟩ := ydi h
  rw [show (ints L).map Int.toNat = L from yat L, show (ints L').map Int.toNat = L' from yat L', Int.toNat_natCast]
  rw [ints_len] at hl hl'
  refine Ev.ifp rfl ?_
  have hc := ygB (L := L) (L' := L') hM.size
  have hex := yff hM hM'
  generalize bigN 0 (csN m L L') = c at hc hex ⊢
  have h2m := yal hM.size
  have hm := hM.size
  have hd := down (P := fun u => (∃ v, u ≤ v ∧ v < 2 ^ m ∧ bdN m L L' v = pc c) → Ev (fun k => yE.l0 k (c : Int) (u : Int) (m : Int) (ints L) (m : Int) (ints L')) (((yc2 (fun u => decide (bdN m L L' u = pc c)) (2 ^ m - u) u : Nat) : Int), true)) (2 ^ m)
   (by
    rintro ⟨v, h1, h2, _⟩
    omega)
   (by
    intro u hu ih hv
    have h256 : u < 256 := by omega
    obtain ⟨f1, f2, f3⟩ := ydp hm hu
    have e : wrap64 (((yax m : Nat) : Int) - (u : Int)) = ((dif (yax m) u : Nat) : Int) := by
     rw [yak (by omega) (by omega), ← f1]
     have : u ≤ yax m := by unfold yax; omega
     omega
    apply Ev.step
    ·intro k
     simp only [yE.l0, ybg hm, Option.bind_some]
     rw [e, yay hu (by omega)]
    ·obtain ⟨j, hj⟩ : ∃ j, 2 ^ m - u = j + 1 := ⟨2 ^ m - u - 1, by omega⟩
     rw [hj]
     simp only [yc2]
     refine Ev.bind (yb3 _ L u hl hM.lt h256) (Ev.bind (yb3 _ L' _ hl' hM'.lt (yc5 f3)) (Ev.bind (ybp c hc) ?_))
     have h1 := Nat.le_trans (ych L u) (ydm u)
     have h2 := Nat.le_trans (ych L' (dif (yax m) u)) (ydm (dif (yax m) u))
     rw [yak (by omega) (by omega)]
     by_cases hq : bdN m L L' u = pc c
     ·rw [if_pos (decide_eq_true hq)]
      unfold bdN at hq
      exact Ev.ifp (by omega) (Ev.now _)
     ·rw [if_neg (by simpa using hq)]
      have hih := ih (by
       obtain ⟨v, v1, v2, v3⟩ := hv
       refine ⟨v, ?_, v2, v3⟩
       rcases Nat.eq_or_lt_of_le v1 with rfl | v1
       ·exact absurd v3 hq
       ·exact v1)
      rw [show 2 ^ m - (u + 1) = j from by omega] at hih
      unfold bdN at hq
      exact Ev.ifn (by omega) hih)
  have h0 := hd (by
   obtain ⟨u, h1, h2⟩ := hex
   exact ⟨u, Nat.zero_le _, h1, h2⟩)
  rw [Nat.sub_zero] at h0
  exact h0
 ·rw [if_neg h, if_neg h]
  exact Ev.ifn (by decide) (Ev.now _)
theorem ygP {m : Nat} {L L' : List Nat} (hM : Mat m L) (hM' : Mat m L') (htog : togB (m : Int) (ints L) (m : Int) (ints L') = true) {u : Nat} (hu : u < 2 ^ m) (hl : L.length ≤ 17592186044416) (hl' : L'.length ≤ 17592186044416) : Ev (fun k => yN.f k (m : Int) (ints L) (m : Int) (ints L') (u : Int)) ((bdN m L L' u : Nat) : Int) := by
 have hm := hM.size
 have h256 : u < 256 := Nat.lt_of_lt_of_le hu (yal hm)
 obtain ⟨f1, f2, f3⟩ := ydp hm hu
 unfold yN.f
 refine Ev.bind (yfl _ _ _ _ (by rw [ints_len]; exact hl) (by rw [ints_len]; exact hl')) (Ev.ifp htog (Ev.cbind (implIsSet_eq _ _) ?_))
 have hs : ybw (m : Int) (u : Int) = true := by
  rw [yda, show decide (m ≤ 8) = true from decide_eq_true hm, show decide (u < 2 ^ m) = true from decide_eq_true hu]; rfl
 rw [hs, Bool.not_true]
 apply Ev.step
 ·intro k
  rw [yN.j0]
 ·refine Ev.ifn (by decide) (Ev.bind (yct _ L u hl hM.lt h256) (Ev.cbind (ycu hm) ?_))
  rw [ybZ (yas f3) (yas h256)]
  refine Ev.bind (yct _ L' _ hl' hM'.lt (yc5 f3)) ?_
  have h1 := Nat.le_trans (ych L u) (ydm u)
  have h2 := Nat.le_trans (ych L' (dif (yax m) u)) (ydm (dif (yax m) u))
  rw [yak (by omega) (by omega)]
  exact Ev.now _
theorem yfr (n : Int) (l : List Int) (n' : Int) (l' : List Int) (hl : l.length ≤ 17592186044416) (hl' : l'.length ≤ 17592186044416) : Ev (fun k => yad.f k n l n' l') (yeV n l n' l') := by
 unfold yad.f yeV
 refine Ev.bind (yeY n l n' l' hl hl') ?_
 unfold lgB
 by_cases h : togB n l n' l' = true
 ·rw [if_pos h, if_pos h]
  obtain ⟨m, L, L', rfl, rfl, rfl, rfl, hM, hM'⟩ := ydi h
  rw [show (ints L).map Int.toNat = L from yat L, show (ints L').map Int.toNat = L' from yat L', Int.toNat_natCast]
  rw [ints_len] at hl hl'
  refine Ev.ifp rfl ?_
  have hc := ygB (L := L) (L' := L') hM.size
  have hex := yff hM hM'
  generalize bigN 0 (csN m L L') = c at hc hex ⊢
  have h2m := yal hM.size
  have hm := hM.size
  have hd := down (P := fun u => (∃ v, u ≤ v ∧ v < 2 ^ m ∧ bdN m L L' v = pc c) → Ev (fun k => yad.l0 k (c : Int) (u : Int) (m : Int) (ints L) (m : Int) (ints L')) (((yc2 (fun u => decide (bdN m L L' u = pc c)) (2 ^ m - u) u : Nat) : Int), true)) (2 ^ m)
   (by
    rintro ⟨v, h1, h2, _⟩
    omega)
   (by
    intro u hu ih hv
    apply Ev.step
    ·intro k
     simp only [yad.l0, ycu hm, yca c hc, Option.bind_some]
     rw [if_pos (by unfold yax; omega), yay hu (by omega)]
    ·obtain ⟨j, hj⟩ : ∃ j, 2 ^ m - u = j + 1 := ⟨2 ^ m - u - 1, by omega⟩
     rw [hj]
     simp only [yc2]
     refine Ev.bind (ygP hM hM' h hu hl hl') ?_
     by_cases hq : bdN m L L' u = pc c
     ·rw [if_pos (decide_eq_true hq)]
      exact Ev.ifp (by omega) (Ev.now _)
     ·rw [if_neg (by simpa using hq)]
      have hih := ih (by
       obtain ⟨v, v1, v2, v3⟩ := hv
       refine ⟨v, ?_, v2, v3⟩
       rcases Nat.eq_or_lt_of_le v1 with rfl | v1
       ·exact absurd v3 hq
       ·exact v1)
      rw [show 2 ^ m - (u + 1) = j from by omega] at hih
      exact Ev.ifn (by omega) hih)
  have h0 := hd (by
   obtain ⟨u, h1, h2⟩ := hex
   exact ⟨u, Nat.zero_le _, h1, h2⟩)
  rw [Nat.sub_zero] at h0
  exact h0
 ·rw [if_neg h, if_neg h]
  exact Ev.ifn (by decide) (Ev.now _)
end Go.Proofs.Ytimkekeaeojpkaa.Q
namespace Go.Proofs.Ytimkekeaeojpkaa.Q
open Go Go.RowKit Go.Proofs.Ytimkekeaeojpkaa.A Go.Proofs.YtimkekeaeojpkaaW.PrintWords Go.Proofs.YtimkekeaeojpkaaW.PrintLast Go.Proofs.YtimkekeaeojpkaaW.PrintMore Go.Proofs.Ytimkekeaeojpkaa.Z
set_option linter.unusedVariables false
set_option linter.unusedSimpArgs false
def yb5 (n : Int) (l : List Int) (n' : Int) (l' : List Int) (u : Int) : Int := if togB n l n' l' = true then (if ybw n u = true then ((rkN (l.map Int.toNat) u.toNat + rkN (l'.map Int.toNat) (dif (yax n.toNat) u.toNat) : Nat) : Int) else -1) else -1
theorem yfi (n : Int) (l : List Int) (n' : Int) (l' : List Int) (u : Int) (hl : l.length ≤ 17592186044416) (hl' : l'.length ≤ 17592186044416) : Ev (fun k => yaa.f k n l n' l' u) (yb5 n l n' l' u) := by
 unfold yaa.f yb5
 have hc := ycw n l n' l' 0 hl hl'
 rw [ydu] at hc
 refine Ev.bind hc ?_
 by_cases h : togB n l n' l' = true
 ·refine Ev.ifp h (Ev.cbind (specIsSet_eq _ _) ?_)
  rw [if_pos h]
  obtain ⟨m, L, L', rfl, rfl, hm, rfl, rfl, hL, hL', hL256, hL256', hne, hne'⟩ := ycN h
  rw [show (ints L).map Int.toNat = L from yat L, show (ints L').map Int.toNat = L' from yat L']
  rw [ints_len] at hl hl'
  by_cases hs : ybw (m : Int) u = true
  ·rw [if_pos hs, hs]
   obtain ⟨m', t, hmm, rfl, _, ht, ht256⟩ := ybW hs
   have : m' = m := by omega
   subst this
   obtain ⟨f1, f2, f3⟩ := ydp hm ht
   rw [Int.toNat_natCast, Int.toNat_natCast]
   apply Ev.step
   ·intro k
    rw [yaa.j0]
   ·refine Ev.ifn (by decide) (Ev.bind (yb3 _ L t hl hL256 ht256) (Ev.cbind (ybg hm) ?_))
    have e : wrap64 (((yax m' : Nat) : Int) - (t : Int)) = ((dif (yax m') t : Nat) : Int) := by
     rw [yak (by omega) (by omega), ← f1]
     have : t ≤ yax m' := by unfold yax; omega
     omega
    rw [e]
    refine Ev.bind (yb3 _ L' _ hl' hL256' (yc5 f3)) ?_
    have h1 := yd4 L t
    have h2 := yd4 L' (dif (yax m') t)
    rw [yak (by omega) (by omega)]
    exact Ev.now _
  ·rw [if_neg hs, Bool.eq_false_iff.2 hs]
   apply Ev.step
   ·intro k
    rw [yaa.j0]
   ·exact Ev.ifp rfl (Ev.now _)
 ·refine Ev.ifn h ?_
  rw [if_neg h]
  apply Ev.step
  ·intro k
   rw [yaa.j0]
  ·exact Ev.ifp rfl (Ev.now _)
theorem ydq (n : Int) (l : List Int) (n' : Int) (l' : List Int) (u : Int) (hl : l.length ≤ 17592186044416) (hl' : l'.length ≤ 17592186044416) : Ev (fun k => yN.f k n l n' l' u) (yb5 n l n' l' u) := by
 unfold yN.f yb5
 refine Ev.bind (yfl n l n' l' hl hl') ?_
 by_cases h : togB n l n' l' = true
 ·refine Ev.ifp h (Ev.cbind (implIsSet_eq _ _) ?_)
  rw [if_pos h]
  obtain ⟨m, L, L', rfl, rfl, hm, rfl, rfl, hL, hL', hL256, hL256', hne, hne'⟩ := ycN h
  rw [show (ints L).map Int.toNat = L from yat L, show (ints L').map Int.toNat = L' from yat L']
  rw [ints_len] at hl hl'
  by_cases hs : ybw (m : Int) u = true
  ·rw [if_pos hs, hs]
   obtain ⟨m', t, hmm, rfl, _, ht, ht256⟩ := ybW hs
   have : m' = m := by omega
   subst this
   obtain ⟨f1, f2, f3⟩ := ydp hm ht
   rw [Int.toNat_natCast, Int.toNat_natCast]
   apply Ev.step
   ·intro k
    rw [yN.j0]
   ·refine Ev.ifn (by decide) (Ev.bind (yct _ L t hl hL256 ht256) (Ev.cbind (ycu hm) ?_))
    rw [ybZ (yas f3) (yas ht256)]
    refine Ev.bind (yct _ L' _ hl' hL256' (yc5 f3)) ?_
    have h1 := yd4 L t
    have h2 := yd4 L' (dif (yax m') t)
    rw [yak (by omega) (by omega)]
    exact Ev.now _
  ·rw [if_neg hs, Bool.eq_false_iff.2 hs]
   apply Ev.step
   ·intro k
    rw [yN.j0]
   ·exact Ev.ifp rfl (Ev.now _)
 ·refine Ev.ifn h ?_
  rw [if_neg h]
  apply Ev.step
  ·intro k
   rw [yN.j0]
  ·exact Ev.ifp rfl (Ev.now _)
end Go.Proofs.Ytimkekeaeojpkaa.Q
namespace Go.Proofs.Ytimkekeaeojpkaa.Q
open Go Go.RowKit Go.Proofs.YtimkekeaeojpkaaW.PrintWords Go.Proofs.YtimkekeaeojpkaaW.PrintLast Go.Proofs.YtimkekeaeojpkaaW.PrintMore Go.Proofs.Ytimkekeaeojpkaa.Z
set_option linter.unusedVariables false
set_option linter.unusedSimpArgs false
theorem yf9 (p : Nat → Bool) : ∀ j u : Nat, (∃ v, u ≤ v ∧ v < u + j ∧ p v = true) → p (yc2 p j u) = true ∧ yc2 p j u < u + j := by
 intro j
 induction j with
 | zero => rintro u ⟨v, h1, h2, _⟩; omega
 | succ j ih =>
  rintro u ⟨v, h1, h2, h3⟩
  simp only [yc2]
  by_cases hp : p u = true
  ·rw [if_pos hp]; exact ⟨hp, by omega⟩
  ·rw [if_neg hp]
   have hne : ¬ u = v := by rintro rfl; exact hp h3
   obtain ⟨k1, k2⟩ := ih (u + 1) ⟨v, by omega, by omega, h3⟩
   exact ⟨k1, by omega⟩
theorem yeW {m : Nat} {L L' : List Nat} (hM : Mat m L) (hM' : Mat m L') : bigN 0 (csN m L L') < 2 ^ m ∧ indN L (bigN 0 (csN m L L')) = true ∧ indN L' (bigN 0 (csN m L L')) = true ∧ ∀ c, indN L c = true → indN L' c = true → pc c ≤ pc (bigN 0 (csN m L L')) := by
 obtain ⟨_, hmax⟩ := yfy (csN m L L') 0
 obtain ⟨b, hb⟩ := List.exists_mem_of_ne_nil L hM.some
 obtain ⟨b', hb'⟩ := List.exists_mem_of_ne_nil L' hM'.some
 have z : indN L 0 = true := indN_iff.2 ⟨b, hb, ydI b⟩
 have z' : indN L' 0 = true := indN_iff.2 ⟨b', hb', ydI b'⟩
 have hm : ∀ c, indN L c = true → indN L' c = true → c ∈ csN m L L' := fun c h1 h2 => by
  obtain ⟨x, hx, hs⟩ := indN_iff.1 h1
  exact List.mem_filter.2 ⟨List.mem_range.2 (Nat.lt_of_le_of_lt (ycS hs) (hM.sets x hx)), by unfold comN; rw [h1, h2]; rfl⟩
 refine ⟨?_, ?_, ?_, fun c h1 h2 => hmax c (hm c h1 h2)⟩
 all_goals
  rcases yeF (csN m L L') 0 with k | k
  ·rw [k]; first | exact Nat.two_pow_pos m | exact z | exact z'
  ·have hcm := (List.mem_filter.1 k).2
   unfold comN at hcm
   rw [Bool.and_eq_true] at hcm
   first | exact yfc k | exact hcm.1 | exact hcm.2
theorem ygT {n n' : Int} {l l' : List Int} (h : togB n l n' l' = true) : ∃ t : Nat, t < 256 ∧ lgB n l n' l' = ((t : Int), true) ∧ ycn n l n' l' (t : Int) = true ∧ yb5 n l n' l' (yeV n l n' l').1 = (pc t : Int) := by
 have h' := h
 obtain ⟨m, L, L', rfl, rfl, rfl, rfl, hM, hM'⟩ := ydi h
 obtain ⟨b1, b2, b3, _⟩ := yeW hM hM'
 have h256 := yal hM.size
 unfold lgB ycn yb5 yeV
 rw [if_pos h', if_pos h', if_pos h', h', show (ints L).map Int.toNat = L from yat L, show (ints L').map Int.toNat = L' from yat L', Int.toNat_natCast]
 refine ⟨bigN 0 (csN m L L'), by omega, rfl, ?_, ?_⟩
 ·rw [ycB (by omega), ycB (by omega), b2, b3]; rfl
 ·obtain ⟨u, hu, hbd⟩ := yff hM hM'
  obtain ⟨c1, c2⟩ := yf9 (fun u => decide (bdN m L L' u = pc (bigN 0 (csN m L L')))) (2 ^ m) 0 ⟨u, Nat.zero_le _, by omega, decide_eq_true hbd⟩
  generalize yc2 (fun u => decide (bdN m L L' u = pc (bigN 0 (csN m L L')))) (2 ^ m) 0 = v at c1 c2
  simp only []
  rw [if_pos (by rw [yda, decide_eq_true hM.size, decide_eq_true (by omega)]; rfl), Int.toNat_natCast]
  have := of_decide_eq_true c1
  unfold bdN at this
  rw [this]
theorem yfX {n n' : Int} {l l' : List Int} {u : Int} (h : 0 ≤ yb5 n l n' l' u) : ∃ t : Nat, t < 256 ∧ lgB n l n' l' = ((t : Int), true) ∧ (pc t : Int) ≤ yb5 n l n' l' u := by
 unfold yb5 at h ⊢
 by_cases h1 : togB n l n' l' = true
 ·rw [if_pos h1] at h ⊢
  by_cases h2 : ybw n u = true
  ·rw [if_pos h2]
   have h' := h1
   obtain ⟨m, L, L', rfl, rfl, rfl, rfl, hM, hM'⟩ := ydi h1
   obtain ⟨b1, b2, b3, _⟩ := yeW hM hM'
   have h256 := yal hM.size
   unfold lgB
   rw [if_pos h', show (ints L).map Int.toNat = L from yat L, show (ints L').map Int.toNat = L' from yat L', Int.toNat_natCast]
   refine ⟨bigN 0 (csN m L L'), by omega, rfl, ?_⟩
   have := weak (u := u.toNat) b1 b2 b3
   unfold bdN at this
   omega
  ·rw [if_neg h2] at h; omega
 ·rw [if_neg h1] at h; omega
end Go.Proofs.Ytimkekeaeojpkaa.Q
namespace Go.Proofs.Ytimkekeaeojpkaa.Pure
open Go Go.RowKit Go.Proofs.Ytimkekeaeojpkaa.A Go.Proofs.YtimkekeaeojpkaaW.PrintWords Go.Proofs.YtimkekeaeojpkaaW.PrintLast Go.Proofs.YtimkekeaeojpkaaW.PrintMore Go.Proofs.Ytimkekeaeojpkaa.Z Go.Proofs.Ytimkekeaeojpkaa.Q
set_option linter.unusedVariables false
set_option linter.unusedSimpArgs false
theorem yfQ (l : List Int) (hl : l.length ≤ 17592186044416) : ExE (fun k => yaD.f k l) (fun q => q.2.1.length ≤ 300 ∧ q.2.2.2.length ≤ 300) := by
 unfold yaD.f
 refine ExE.bind (yfo l hl) ?_
 rintro ⟨b, p, h⟩ ⟨rfl, hp⟩
 simp only at hp
 subst hp
 refine ExE.bind (yeP hl (Int.le_refl 0)) ?_
 rintro q ⟨q1, q2, _⟩
 exact ExE.now ⟨q1, q2⟩
theorem ye8 (l : List Int) (hl : l.length ≤ 17592186044416) : ExE (fun k => ya2.f k l) (fun q => q.2.1.length ≤ 300 ∧ q.2.2.2.1.length ≤ 300) := by
 unfold ya2.f ybi.f
 refine ExE.bind (P := fun q => q.2.1.length ≤ 300 ∧ q.2.2.2.1.length ≤ 300) (ExE.bind (yfo l hl) ?_) ?_
 ·rintro ⟨b, p, h⟩ ⟨rfl, hp⟩
  simp only at hp
  subst hp
  refine ExE.bind (yeP hl (Int.le_refl 0)) ?_
  rintro q ⟨q1, q2, q3, _⟩
  obtain ⟨v, ev, _⟩ := yaM hl (h := q.2.2.2.2.2) q3 70
  refine ExE.cbind (P := fun a => a = v) ⟨v, ev, rfl⟩ ?_
  intro v' e
  exact ExE.now ⟨q1, q2⟩
 ·rintro q ⟨q1, q2⟩
  exact ExE.now ⟨q1, q2⟩
theorem FnCommon : laws_FnCommon.Pure := by
 intro l0 hm hm1 hw
 unfold laws_FnCommon.f
 refine Ev.rounds ?_
 refine Ev.cbind rfl ?_
 by_cases hb : (l0.length : Int) > 1048576
 ·exact Ev.ifp (decide_eq_true hb) (Ev.now _)
 refine Ev.ifn (by simpa using hb) ?_
 have hl0 : l0.length ≤ 17592186044416 := by omega
 obtain ⟨⟨n, l, n', l'⟩, hd, h1, h2⟩ := yfQ l0 hl0
 obtain ⟨⟨c, x, c', x', t⟩, hd2, h3, h4⟩ := ye8 l0 hl0
 simp only at h1 h2 h3 h4
 have h1 : l.length ≤ 17592186044416 := by omega
 have h2 : l'.length ≤ 17592186044416 := by omega
 have h3 : x.length ≤ 17592186044416 := by omega
 have h4 : x'.length ≤ 17592186044416 := by omega
 refine Ev.bind hd (Ev.bind (yeY n l n' l' h1 h2) (Ev.bind (ydG n l n' l' h1 h2) (Ev.bind (yfr n l n' l' h1 h2) (Ev.bind (yfz n l n' l' h1 h2) (Ev.bind hd2 (Ev.bind (ydq c x c' x' t h3 h4) (Ev.ifn (by simp) (Ev.ifp rfl (Ev.ifn (by simp) (Ev.ifp rfl (Ev.bind (yfi c x c' x' t h3 h4) (Ev.ifp rfl (Ev.bind (yc1 c x c' x' t h3 h4) (Ev.bind (ycw c x c' x' t h3 h4) ?_))))))))))))))
 have hend : Ev (fun k => laws_FnCommon.j1 k (yb5 c x c' x' t) false c x c' x') true := by
  apply Ev.step
  ·intro k; rw [laws_FnCommon.j1]
  refine Ev.ifn (by simp) (Ev.bind (ydG c x c' x' h3 h4) ?_)
  by_cases hneg : yb5 c x c' x' t < 0
  ·exact Ev.ifp hneg (Ev.now _)
  ·obtain ⟨u, u1, u2, u3⟩ := yfX (show 0 ≤ yb5 c x c' x' t by omega)
   rw [u2]
   refine Ev.ifn hneg (Ev.ifp rfl (Ev.bind (ybp u u1) ?_))
   rw [decide_eq_true (by omega)]
   exact Ev.now _
 apply Ev.step
 ·intro k; rw [laws_FnCommon.j0]
 refine Ev.ifn (by simp) ?_
 by_cases ht : togB n l n' l' = true
 ·obtain ⟨u, u1, u2, u3, u4⟩ := ygT ht
  rw [u2]
  refine Ev.ifp rfl (Ev.bind (yc1 n l n' l' _ h1 h2) (Ev.ifp u3 (Ev.bind (ydq n l n' l' _ h1 h2) (Ev.bind (ybp u u1) ?_))))
  rw [u4, show ((pc u : Int) != (pc u : Int)) = false by simp]
  exact hend
 ·rw [show lgB n l n' l' = (0, false) by unfold lgB; rw [if_neg ht]]
  exact Ev.ifn (by simp) hend
end Go.Proofs.Ytimkekeaeojpkaa.Pure
