/- Words that this claim names, cut out of the kit's print. Conditions: those in each lemma. -/
import Derived.Test.YtbdloopelidneaaGreatMFnRenamedwLast
import Derived.Test.YtbdloopelidneaaGreatMFnRenamedwWords
namespace Go.Proofs.YtbdloopelidneaaGreatW.PrintLast
open Go.Proofs.YtbdloopelidneaaGreatW.PrintWords (Aside0)
def fG (md : Region.Mode) (o : Oper) : List Nat := (o.after.toList.filter (fun e => Region.binds md e)).map (fun e => e.on)
def jm (md : Region.Mode) (ops : Array Oper) (i : Nat) (oi : Oper) : List Nat := (List.range ops.size).filter fun j => !(j == i) && match ops[j]? with
  | some oj => !(oj.after.any (fun e => Region.binds md e && e.on == i) || oi.apart ops oj)
  | none => false
def rtab (md : Region.Mode) (ops : Array Oper) : Bool × List (List Nat × List Nat) := (Region.noSelect ops, (List.range ops.size).map fun i => match ops[i]? with
  | some o => (fG md o, jm md ops i o)
  | none => ([], []))
def eQ (T : List (List Nat × List Nat)) (l : List Bool) (i : Nat) : Bool := !l.getD i true && match T[i]? with
  | some r => r.1.all (fun j => l.getD j false)
  | none => false
def fu (T : List (List Nat × List Nat)) (l : List Bool) : List Nat := (List.range T.length).filter (eQ T l)
def jU (T : List (List Nat × List Nat)) (l : List Bool) (i : Nat) : Bool := match T[i]? with
  | some r => r.2.all (fun j => l.getD j true)
  | none => false
def hZ (T : List (List Nat × List Nat)) (l : List Bool) : Bool := (List.range T.length).all fun j => !l.getD j false || match T[j]? with
  | some r => r.1.all (fun k => l.getD k false)
  | none => true
def gU (T : List (List Nat × List Nat)) (i : Nat) : Nat → Nat → Bool
  | 0, _ => false
  | fuel + 1, d => match T[d]? with
    | some r => r.1.any fun j => j == i || gU T i fuel j
    | none => false
def kV (T : List (List Nat × List Nat)) (l : List Bool) (ds : List Nat) (i : Nat) : Bool := ds.all fun d => l.getD d true || gU T i T.length d
section
variable {md : Region.Mode} {ops : Array Oper} {T : Bool × List (List Nat × List Nat)} {l l' li lj lk : Array Bool} {ds : List Nat} {i j k : Nat}
theorem gd (l : Array Bool) (j : Nat) (b : Bool) : l.getD j b = l.toList.getD j b := by simp [Array.getD_eq_getD_getElem?, List.getD_eq_getElem?_getD]
theorem jc (o : Oper) (p : Nat → Bool) : o.after.all (fun e => !Region.binds md e || p e.on) = (fG md o).all p := by
  unfold fG; rw [← Array.all_toList]
  induction o.after.toList with
  | nil => rfl
  | cons e r ih =>
    rw [List.all_cons, ih, List.filter_cons]; cases h : Region.binds md e <;> simp
theorem lS (o : Oper) (p : Nat → Bool) : o.after.any (fun e => Region.binds md e && p e.on) = (fG md o).any p := by
  unfold fG; rw [← Array.any_toList]
  induction o.after.toList with
  | nil => rfl
  | cons e r ih =>
    rw [List.any_cons, ih, List.filter_cons]; cases h : Region.binds md e <;> simp
theorem eY : (rtab md ops).2.length = ops.size := by simp [rtab]
theorem fz {o : Oper} (h : ops[i]? = some o) : (rtab md ops).2[i]? = some (fG md o, jm md ops i o) := by
  have hi := (Array.getElem?_eq_some_iff.1 h).1; unfold rtab; rw [List.getElem?_map, List.getElem?_range hi, Option.map_some, h]
theorem fE (h : ops[i]? = none) : (rtab md ops).2[i]? = none := by
  have hi : ops.size ≤ i := Array.getElem?_eq_none_iff.1 h; exact List.getElem?_eq_none (by rw [eY]; exact hi)
theorem kx : eQ (rtab md ops).2 l.toList i = (!l.getD i true && ((ops[i]?).map (·.after.all fun e => !Region.binds md e || l.getD e.on false)).getD false) := by
  unfold eQ; rw [gd]; cases h : ops[i]? with
  | none => rw [fE h]; rfl
  | some o =>
    rw [fz h]; simp only [Option.map_some, Option.getD_some]; rw [← jc]; simp only [gd]
theorem fp : Region.ready md ops l = fu (rtab md ops).2 l.toList := by
  unfold Region.ready fu; rw [eY]; refine List.filter_congr (fun i _ => ?_); rw [kx]
theorem ld : Region.free md ops l i = jU (rtab md ops).2 l.toList i := by
  unfold Region.free jU; cases h : ops[i]? with
  | none => rw [fE h]
  | some oi =>
    rw [fz h]; simp only [jm]; rw [List.all_filter]
    congr 1
    funext j
    rw [gd]; cases hj : ops[j]? with
    | none => cases (j == i) <;> cases (l.toList.getD j true) <;> simp
    | some oj =>
      cases (j == i) <;> cases (l.toList.getD j true) <;> cases (oj.after.any (fun e => Region.binds md e && e.on == i) || oi.apart ops oj) <;> simp_all
theorem ln : Region.closedB md ops l = hZ (rtab md ops).2 l.toList := by
  unfold Region.closedB hZ; rw [eY]
  congr 1
  funext j
  rw [gd]; cases h : ops[j]? with
  | none => rw [fE h]
  | some o =>
    rw [fz h]; simp only
    rw [← jc]; simp only [gd]
theorem j6 : ∀ (fuel d : Nat), Region.C8 md ops i fuel d = gU (rtab md ops).2 i fuel d
  | 0, _ => rfl
  | fuel + 1, d => by
    unfold Region.C8 gU; cases h : ops[d]? with
    | none => rw [fE h]
    | some o =>
      rw [fz h]; simp only
      rw [← lS]
      congr 1
      funext e
      rw [j6 fuel]
theorem mO : Region.lastB md ops l ds i = kV (rtab md ops).2 l.toList ds i := by
  unfold Region.lastB kV; rw [eY]
  congr 1
  funext d
  rw [gd, j6]
theorem g4 (h : eQ T.2 l.toList i = true) (hT : rtab md ops = T) : (Region.ready md ops l).contains i = true := by
  subst hT; rw [fp]; unfold fu; rw [List.contains_iff_mem, List.mem_filter, List.mem_range]; refine ⟨?_, h⟩; unfold eQ at h; rw [Bool.and_eq_true] at h; cases hq : (rtab md ops).2[i]? with
  | none => rw [hq] at h; simp at h
  | some r => exact (List.getElem?_eq_some_iff.1 hq).1
theorem fx (h : (l.toList.set i true == l'.toList) = true) : (l.setIfInBounds i true == l') = true := by
  rw [beq_iff_eq] at h ⊢
  apply Array.ext'
  rw [Array.toList_setIfInBounds]; exact h
def anyT (T : Bool × List (List Nat × List Nat)) (l l' : List Bool) (i : Nat) : Bool := T.1 && jU T.2 l i && eQ T.2 l i && (l.set i true == l')
theorem kD (hT : rtab md ops = T) (h : anyT T l.toList l'.toList i = true) : anyB md ops l l' i = true := by
  simp only [anyT, Bool.and_eq_true] at h; obtain ⟨⟨⟨h1, h2⟩, h3⟩, h4⟩ := h; have h5 := g4 h3 hT; have h6 := fx h4; subst hT; simp only [anyB, Bool.and_eq_true]; exact ⟨⟨⟨h1, by rw [ld]; exact h2⟩, h5⟩, h6⟩
def takeT (T : Bool × List (List Nat × List Nat)) (ds : List Nat) (l l' : List Bool) (i : Nat) : Bool := T.1 && jU T.2 l i && eQ T.2 l i && hZ T.2 l && kV T.2 l ds i && (l.set i true == l')
theorem mQ (hT : rtab md ops = T) (h : takeT T ds l.toList l'.toList i = true) : iK md ops ds l l' i = true := by
  simp only [takeT, Bool.and_eq_true] at h; obtain ⟨⟨⟨⟨⟨h1, h2⟩, h3⟩, h4⟩, h5⟩, h6⟩ := h; have h7 := g4 h3 hT; have h8 := fx h6; subst hT; simp only [iK, Bool.and_eq_true]; exact ⟨⟨⟨⟨⟨h1, by rw [ld]; exact h2⟩, h7⟩, by rw [ln]; exact h4⟩, by rw [mO]; exact h5⟩, h8⟩
theorem cm (hT : rtab md ops = T) (h : (fu T.2 l.toList == [i] && l.toList.set i true == l'.toList) = true) : fW md ops l l' i = true := by
  simp only [Bool.and_eq_true] at h; obtain ⟨h1, h2⟩ := h; subst hT; simp only [fW, Bool.and_eq_true]; exact ⟨by rw [fp]; exact h1, fx h2⟩
theorem ei (hT : rtab md ops = T) (h : (fu T.2 l.toList == [i, j] && l.toList.set i true == li.toList && l.toList.set j true == lj.toList) = true) : (Region.ready md ops l == [i, j] && l.setIfInBounds i true == li && l.setIfInBounds j true == lj) = true := by
  simp only [Bool.and_eq_true] at h ⊢; obtain ⟨⟨h1, h2⟩, h3⟩ := h; subst hT; exact ⟨⟨by rw [fp]; exact h1, fx h2⟩, fx h3⟩
theorem l5 (hT : rtab md ops = T) (h : (fu T.2 l.toList == [i, j, k] && l.toList.set i true == li.toList && l.toList.set j true == lj.toList && l.toList.set k true == lk.toList) = true) :
    (Region.ready md ops l == [i, j, k] && l.setIfInBounds i true == li && l.setIfInBounds j true == lj && l.setIfInBounds k true == lk) = true := by
  simp only [Bool.and_eq_true] at h ⊢; obtain ⟨⟨⟨h1, h2⟩, h3⟩, h4⟩ := h; subst hT; exact ⟨⟨⟨by rw [fp]; exact h1, fx h2⟩, fx h3⟩, fx h4⟩
theorem cg (hT : rtab md ops = T) (h : (fu T.2 l.toList == []) = true) : (Region.ready md ops l == []) = true := by
  subst hT; rw [fp]; exact h
def upM (B : List Nat) (d : Nat) : List Nat → Nat
  | [] => 0
  | n :: r => (2 ^ n ||| (if n < d then B.getD n 0 else 0)) ||| upM B d r
def cC (T : List (List Nat × List Nat)) (B : List Nat) : Bool := (List.range T.length).all fun d => match T[d]? with
  | some r => (B.getD d 0 ||| upM B d r.1) == upM B d r.1
  | none => false
theorem k9 {B : List Nat} {d i : Nat} : ∀ {ns : List Nat}, (upM B d ns).testBit i = true → ∃ n ∈ ns, n = i ∨ (n < d ∧ (B.getD n 0).testBit i = true)
  | [], h => by simp [upM] at h
  | n :: r, h => by
    unfold upM at h; rw [Nat.testBit_or, Nat.testBit_or, Bool.or_eq_true, Bool.or_eq_true] at h; rcases h with (h | h) | h
    · rw [Nat.testBit_two_pow] at h
      exact ⟨n, List.mem_cons_self, .inl (by simpa using h)⟩
    · by_cases hn : n < d
      · rw [if_pos hn] at h
        exact ⟨n, List.mem_cons_self, .inr ⟨hn, h⟩⟩
      · rw [if_neg hn] at h
        simp at h
    · obtain ⟨m, hm, h2⟩ := k9 h
      exact ⟨m, List.mem_cons_of_mem _ hm, h2⟩
theorem jb {T : List (List Nat × List Nat)} {B : List Nat} (hB : cC T B = true) : ∀ (fuel d : Nat), d < fuel → d < T.length → (B.getD d 0).testBit i = true → gU T i fuel d = true
  | 0, d, h, _, _ => by omega
  | fuel + 1, d, h, hd, hb => by
    have h1 := List.all_eq_true.1 hB d (List.mem_range.2 hd); cases hr : T[d]? with
    | none => rw [hr] at h1; simp at h1
    | some r =>
      rw [hr] at h1; simp only [beq_iff_eq] at h1; have h2 : (upM B d r.1).testBit i = true := by rw [← h1, Nat.testBit_or, hb, Bool.true_or]
      obtain ⟨n, hn, h3⟩ := k9 h2; unfold gU; rw [hr]; simp only
      rw [List.any_eq_true]; refine ⟨n, hn, ?_⟩; rcases h3 with rfl | ⟨h4, h5⟩
      · simp
      · rw [jb hB fuel n (by omega) (by omega) h5, Bool.or_true]
def mZ (T : List (List Nat × List Nat)) (B : List Nat) (l : List Bool) (ds : List Nat) (i : Nat) : Bool := ds.all fun d => l.getD d true || (decide (d < T.length) && (B.getD d 0).testBit i)
def i7 (T : Bool × List (List Nat × List Nat)) (B : List Nat) (ds : List Nat) (l l' : List Bool) (i : Nat) : Bool := T.1 && jU T.2 l i && eQ T.2 l i && hZ T.2 l && mZ T.2 B l ds i && (l.set i true == l')
theorem cE {B : List Nat} (hT : rtab md ops = T) (hB : cC T.2 B = true) (h : i7 T B ds l.toList l'.toList i = true) : iK md ops ds l l' i = true := by
  refine mQ hT ?_; simp only [i7, takeT, Bool.and_eq_true] at h ⊢; obtain ⟨⟨⟨⟨⟨h1, h2⟩, h3⟩, h4⟩, h5⟩, h6⟩ := h; refine ⟨⟨⟨⟨⟨h1, h2⟩, h3⟩, h4⟩, ?_⟩, h6⟩; unfold mZ at h5; unfold kV; rw [List.all_eq_true] at h5 ⊢; intro d hd; have h7 := h5 d hd; rw [Bool.or_eq_true, Bool.and_eq_true, decide_eq_true_eq] at h7; rcases h7 with h7 | ⟨h8, h9⟩
  · rw [h7, Bool.true_or]
  · rw [jb hB _ d h8 h8 h9, Bool.or_true]
theorem bG {P : Program} {Q : Exit → Act → World → Prop} {S : World → Prop} {n : Nat} {a : Act} {w : World} {B : List Nat} (hT : rtab md ops = T) (hB : cC T.2 B = true) (h : Aside0 (rtab md ops = T) → Aside0 (cC T.2 B = true) → aJ P md ops Q S ds n l a w) : aJ P md ops Q S ds n l a w := h ⟨hT⟩ ⟨hB⟩
end
def fJ : Code → Nat → Option (Array Oper)
  | .region id ops _, k => if id == k then some ops else none
  | .seq a b, k => match fJ a k with
    | some o => some o
    | none => fJ b k
  | .cond _ a b, k => match fJ a k with
    | some o => some o
    | none => fJ b k
  | .block _ c, k => fJ c k
  | .loop c, k => fJ c k
  | .scope c, k => fJ c k
  | .rangeFunc _ _ a b, k => match fJ a k with
    | some o => some o
    | none => fJ b k
  | _, _ => none
def dG (f : Func) (k : Nat) : Array Oper := ((f.body.bind fun c => fJ c k)).getD #[]
end Go.Proofs.YtbdloopelidneaaGreatW.PrintLast
