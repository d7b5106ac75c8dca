/- Words that this claim names, cut out of the kit's print. Conditions: those in each lemma. -/
import Derived.Test.YtimkekeaeojpkaaGreatMFnGreedywLast
import Derived.Test.YtimkekeaeojpkaaGreatMFnGreedywWords
namespace Go.Proofs.YtimkekeaeojpkaaGreatW.PrintLast
open Go.Proofs.YtimkekeaeojpkaaGreatW.PrintWords (Aside0)
def e6 (md : Region.Mode) (o : Oper) : List Nat := (o.after.toList.filter (fun e => Region.binds md e)).map (fun e => e.on)
def i7 (md : Region.Mode) (ops : Array Oper) (i : Nat) (oi : Oper) : List Nat := (List.range ops.size).filter fun j => !(j == i) && match ops[j]? with
  | some oj => !(oj.after.any (fun e => Region.binds md e && e.on == i) || oi.apart ops oj)
  | none => false
def rtab (md : Region.Mode) (ops : Array Oper) : Bool × List (List Nat × List Nat) := (Region.noSelect ops, (List.range ops.size).map fun i => match ops[i]? with
  | some o => (e6 md o, i7 md ops i o)
  | none => ([], []))
def er (T : List (List Nat × List Nat)) (l : List Bool) (i : Nat) : Bool := !l.getD i true && match T[i]? with
  | some r => r.1.all (fun j => l.getD j false)
  | none => false
def fT (T : List (List Nat × List Nat)) (l : List Bool) : List Nat := (List.range T.length).filter (er T l)
def jU (T : List (List Nat × List Nat)) (l : List Bool) (i : Nat) : Bool := match T[i]? with
  | some r => r.2.all (fun j => l.getD j true)
  | none => false
def gv (T : List (List Nat × List Nat)) (l : List Bool) : Bool := (List.range T.length).all fun j => !l.getD j false || match T[j]? with
  | some r => r.1.all (fun k => l.getD k false)
  | none => true
def fM (T : List (List Nat × List Nat)) (i : Nat) : Nat → Nat → Bool
  | 0, _ => false
  | fuel + 1, d => match T[d]? with
    | some r => r.1.any fun j => j == i || fM T i fuel j
    | none => false
def kO (T : List (List Nat × List Nat)) (l : List Bool) (ds : List Nat) (i : Nat) : Bool := ds.all fun d => l.getD d true || fM T i T.length d
section
variable {md : Region.Mode} {ops : Array Oper} {T : Bool × List (List Nat × List Nat)} {l l' li lj lk : Array Bool} {ds : List Nat} {i j k : Nat}
theorem gd (l : Array Bool) (j : Nat) (b : Bool) : l.getD j b = l.toList.getD j b := by simp [Array.getD_eq_getD_getElem?, List.getD_eq_getElem?_getD]
theorem iF (o : Oper) (p : Nat → Bool) : o.after.all (fun e => !Region.binds md e || p e.on) = (e6 md o).all p := by
  unfold e6
  rw [← Array.all_toList]
  induction o.after.toList with
  | nil => rfl
  | cons e r ih =>
    rw [List.all_cons, ih, List.filter_cons]
    cases h : Region.binds md e <;> simp
theorem lK (o : Oper) (p : Nat → Bool) : o.after.any (fun e => Region.binds md e && p e.on) = (e6 md o).any p := by
  unfold e6
  rw [← Array.any_toList]
  induction o.after.toList with
  | nil => rfl
  | cons e r ih =>
    rw [List.any_cons, ih, List.filter_cons]
    cases h : Region.binds md e <;> simp
theorem ep : (rtab md ops).2.length = ops.size := by simp [rtab]
theorem e9 {o : Oper} (h : ops[i]? = some o) : (rtab md ops).2[i]? = some (e6 md o, i7 md ops i o) := by
  have hi := (Array.getElem?_eq_some_iff.1 h).1
  unfold rtab
  rw [List.getElem?_map, List.getElem?_range hi, Option.map_some, h]
theorem e7 (h : ops[i]? = none) : (rtab md ops).2[i]? = none := by
  have hi : ops.size ≤ i := Array.getElem?_eq_none_iff.1 h
  exact List.getElem?_eq_none (by rw [ep]; exact hi)
theorem kp : er (rtab md ops).2 l.toList i = (!l.getD i true && ((ops[i]?).map (·.after.all fun e => !Region.binds md e || l.getD e.on false)).getD false) := by
  unfold er
  rw [gd]
  cases h : ops[i]? with
  | none => rw [e7 h]; rfl
  | some o =>
    rw [e9 h]
    simp only [Option.map_some, Option.getD_some]
    rw [← iF]
    simp only [gd]
theorem g6 : Region.ready md ops l = fT (rtab md ops).2 l.toList := by
  unfold Region.ready fT
  rw [ep]
  refine List.filter_congr (fun i _ => ?_)
  rw [kp]
theorem lc : Region.free md ops l i = jU (rtab md ops).2 l.toList i := by
  unfold Region.free jU
  cases h : ops[i]? with
  | none => rw [e7 h]
  | some oi =>
    rw [e9 h]
    simp only [i7]
    rw [List.all_filter]
    congr 1
    funext j
    rw [gd]
    cases hj : ops[j]? with
    | none => cases (j == i) <;> cases (l.toList.getD j true) <;> simp
    | some oj =>
      cases (j == i) <;> cases (l.toList.getD j true) <;> cases (oj.after.any (fun e => Region.binds md e && e.on == i) || oi.apart ops oj) <;> simp_all
theorem lI : Region.closedB md ops l = gv (rtab md ops).2 l.toList := by
  unfold Region.closedB gv
  rw [ep]
  congr 1
  funext j
  rw [gd]
  cases h : ops[j]? with
  | none => rw [e7 h]
  | some o =>
    rw [e9 h]
    simp only
    rw [← iF]
    simp only [gd]
theorem ka : ∀ (fuel d : Nat), Region.reachB md ops i fuel d = fM (rtab md ops).2 i fuel d
  | 0, _ => rfl
  | fuel + 1, d => by
    unfold Region.reachB fM
    cases h : ops[d]? with
    | none => rw [e7 h]
    | some o =>
      rw [e9 h]
      simp only
      rw [← lK]
      congr 1
      funext e
      rw [ka fuel]
theorem mQ : Region.lastB md ops l ds i = kO (rtab md ops).2 l.toList ds i := by
  unfold Region.lastB kO
  rw [ep]
  congr 1
  funext d
  rw [gd, ka]
theorem f5 (h : er T.2 l.toList i = true) (hT : rtab md ops = T) : (Region.ready md ops l).contains i = true := by
  subst hT
  rw [g6]
  unfold fT
  rw [List.contains_iff_mem, List.mem_filter, List.mem_range]
  refine ⟨?_, h⟩
  unfold er at h
  rw [Bool.and_eq_true] at h
  cases hq : (rtab md ops).2[i]? with
  | none => rw [hq] at h; simp at h
  | some r => exact (List.getElem?_eq_some_iff.1 hq).1
theorem kA (h : (l.toList.set i true == l'.toList) = true) : (l.setIfInBounds i true == l') = true := by
  rw [beq_iff_eq] at h ⊢
  apply Array.ext'
  rw [Array.toList_setIfInBounds]
  exact h
def anyT (T : Bool × List (List Nat × List Nat)) (l l' : List Bool) (i : Nat) : Bool := T.1 && jU T.2 l i && er T.2 l i && (l.set i true == l')
theorem ki (hT : rtab md ops = T) (h : anyT T l.toList l'.toList i = true) : anyB md ops l l' i = true := by
  simp only [anyT, Bool.and_eq_true] at h
  obtain ⟨⟨⟨h1, h2⟩, h3⟩, h4⟩ := h
  have h5 := f5 h3 hT
  have h6 := kA h4
  subst hT
  simp only [anyB, Bool.and_eq_true]
  exact ⟨⟨⟨h1, by rw [lc]; exact h2⟩, h5⟩, h6⟩
def takeT (T : Bool × List (List Nat × List Nat)) (ds : List Nat) (l l' : List Bool) (i : Nat) : Bool := T.1 && jU T.2 l i && er T.2 l i && gv T.2 l && kO T.2 l ds i && (l.set i true == l')
theorem mN (hT : rtab md ops = T) (h : takeT T ds l.toList l'.toList i = true) : iB md ops ds l l' i = true := by
  simp only [takeT, Bool.and_eq_true] at h
  obtain ⟨⟨⟨⟨⟨h1, h2⟩, h3⟩, h4⟩, h5⟩, h6⟩ := h
  have h7 := f5 h3 hT
  have h8 := kA h6
  subst hT
  simp only [iB, Bool.and_eq_true]
  exact ⟨⟨⟨⟨⟨h1, by rw [lc]; exact h2⟩, h7⟩, by rw [lI]; exact h4⟩, by rw [mQ]; exact h5⟩, h8⟩
theorem eB (hT : rtab md ops = T) (h : (fT T.2 l.toList == [i] && l.toList.set i true == l'.toList) = true) : ft md ops l l' i = true := by
  simp only [Bool.and_eq_true] at h
  obtain ⟨h1, h2⟩ := h
  subst hT
  simp only [ft, Bool.and_eq_true]
  exact ⟨by rw [g6]; exact h1, kA h2⟩
theorem cB (hT : rtab md ops = T) (h : (fT T.2 l.toList == []) = true) : (Region.ready md ops l == []) = true := by
  subst hT
  rw [g6]
  exact h
def upM (B : List Nat) (d : Nat) : List Nat → Nat
  | [] => 0
  | n :: r => (2 ^ n ||| (if n < d then B.getD n 0 else 0)) ||| upM B d r
def cY (T : List (List Nat × List Nat)) (B : List Nat) : Bool := (List.range T.length).all fun d => match T[d]? with
  | some r => (B.getD d 0 ||| upM B d r.1) == upM B d r.1
  | none => false
theorem ld {B : List Nat} {d i : Nat} : ∀ {ns : List Nat}, (upM B d ns).testBit i = true → ∃ n ∈ ns, n = i ∨ (n < d ∧ (B.getD n 0).testBit i = true)
  | [], h => by simp [upM] at h
  | n :: r, h => by
    unfold upM at h
    rw [Nat.testBit_or, Nat.testBit_or, Bool.or_eq_true, Bool.or_eq_true] at h
    rcases h with (h | h) | h
    · rw [Nat.testBit_two_pow] at h
      exact ⟨n, List.mem_cons_self, .inl (by simpa using h)⟩
    · by_cases hn : n < d
      · rw [if_pos hn] at h
        exact ⟨n, List.mem_cons_self, .inr ⟨hn, h⟩⟩
      · rw [if_neg hn] at h
        simp at h
    · obtain ⟨m, hm, h2⟩ := ld h
      exact ⟨m, List.mem_cons_of_mem _ hm, h2⟩
theorem iD {T : List (List Nat × List Nat)} {B : List Nat} (hB : cY T B = true) : ∀ (fuel d : Nat), d < fuel → d < T.length → (B.getD d 0).testBit i = true → fM T i fuel d = true
  | 0, d, h, _, _ => by omega
  | fuel + 1, d, h, hd, hb => by
    have h1 := List.all_eq_true.1 hB d (List.mem_range.2 hd)
    cases hr : T[d]? with
    | none => rw [hr] at h1; simp at h1
    | some r =>
      rw [hr] at h1
      simp only [beq_iff_eq] at h1
      have h2 : (upM B d r.1).testBit i = true := by rw [← h1, Nat.testBit_or, hb, Bool.true_or]
      obtain ⟨n, hn, h3⟩ := ld h2
      unfold fM
      rw [hr]
      simp only
      rw [List.any_eq_true]
      refine ⟨n, hn, ?_⟩
      rcases h3 with rfl | ⟨h4, h5⟩
      · simp
      · rw [iD hB fuel n (by omega) (by omega) h5, Bool.or_true]
def m8 (T : List (List Nat × List Nat)) (B : List Nat) (l : List Bool) (ds : List Nat) (i : Nat) : Bool := ds.all fun d => l.getD d true || (decide (d < T.length) && (B.getD d 0).testBit i)
def jT (T : Bool × List (List Nat × List Nat)) (B : List Nat) (ds : List Nat) (l l' : List Bool) (i : Nat) : Bool := T.1 && jU T.2 l i && er T.2 l i && gv T.2 l && m8 T.2 B l ds i && (l.set i true == l')
theorem dZ {B : List Nat} (hT : rtab md ops = T) (hB : cY T.2 B = true) (h : jT T B ds l.toList l'.toList i = true) : iB md ops ds l l' i = true := by
  refine mN hT ?_
  simp only [jT, takeT, Bool.and_eq_true] at h ⊢
  obtain ⟨⟨⟨⟨⟨h1, h2⟩, h3⟩, h4⟩, h5⟩, h6⟩ := h
  refine ⟨⟨⟨⟨⟨h1, h2⟩, h3⟩, h4⟩, ?_⟩, h6⟩
  unfold m8 at h5
  unfold kO
  rw [List.all_eq_true] at h5 ⊢
  intro d hd
  have h7 := h5 d hd
  rw [Bool.or_eq_true, Bool.and_eq_true, decide_eq_true_eq] at h7
  rcases h7 with h7 | ⟨h8, h9⟩
  · rw [h7, Bool.true_or]
  · rw [iD hB _ d h8 h8 h9, Bool.or_true]
theorem b0 {P : Program} {Q : Exit → Act → World → Prop} {S : World → Prop} {n : Nat} {a : Act} {w : World} {B : List Nat} (hT : rtab md ops = T) (hB : cY T.2 B = true) (h : Aside0 (rtab md ops = T) → Aside0 (cY T.2 B = true) → aD P md ops Q S ds n l a w) : aD P md ops Q S ds n l a w := h ⟨hT⟩ ⟨hB⟩
end
def fa : Code → Nat → Option (Array Oper)
  | .region id ops _, k => if id == k then some ops else none
  | .seq a b, k => match fa a k with
    | some o => some o
    | none => fa b k
  | .cond _ a b, k => match fa a k with
    | some o => some o
    | none => fa b k
  | .block _ c, k => fa c k
  | .loop c, k => fa c k
  | .scope c, k => fa c k
  | .rangeFunc _ _ a b, k => match fa a k with
    | some o => some o
    | none => fa b k
  | _, _ => none
def eV (f : Func) (k : Nat) : Array Oper := ((f.body.bind fun c => fa c k)).getD #[]
end Go.Proofs.YtimkekeaeojpkaaGreatW.PrintLast
