/- Plain facts on numbers, sets and lists that the law FnAugmented leans on. Conditions: those in each lemma. -/
import Derived.Laws.BitsLemmas
import Derived.Test.YtimkekeaeojpkaaMFnAugmentedwMore
import Derived.Test.YtimkekeaeojpkaaMFnAugmentedwWords
namespace Go.Proofs.Ytimkekeaeojpkaa.Z
open Go Go.RowKit Go.Proofs.YtimkekeaeojpkaaW.PrintWords Go.Proofs.YtimkekeaeojpkaaW.PrintMore
theorem Ev.at {α : Type} {g : Nat → Option α} {r : α} (h : Ev g r) : ∃ K, ∀ k, K ≤ k → g k = some r := h
theorem Ev.ifp {α : Type} {c : Prop} [Decidable c] {g f : Nat → Option α} {r : α} (hc : c) (h : Ev g r) : Ev (fun k => if c then g k else f k) r := by
 simpa only [if_pos hc] using h
theorem Ev.ifn {α : Type} {c : Prop} [Decidable c] {g f : Nat → Option α} {r : α} (hc : ¬ c) (h : Ev f r) : Ev (fun k => if c then g k else f k) r := by
 simpa only [if_neg hc] using h
theorem Ev.cbind {α β : Type} {g : Option α} {f : Nat → α → Option β} {a : α} {r : β} (h : g = some a) (k : Ev (fun n => f n a) r) : Ev (fun n => g.bind (f n)) r := by
 subst h
 simpa only [Option.bind_some] using k
theorem bF {n : Int} (h0 : -9223372036854775808 ≤ n) (h1 : n < 9223372036854775808) : wrap64 n = n := by unfold wrap64; omega
theorem dR {n : Int} (h0 : 0 ≤ n) (h1 : n < 18446744073709551616) : IntKind.u64.wrap n = n := by
 simp [IntKind.wrap, IntKind.bits, IntKind.signed]
 omega
theorem cI (n : Int) : 0 ≤ IntKind.u64.wrap n := by
 simp [IntKind.wrap, IntKind.bits, IntKind.signed]
 omega
theorem mS (l : List Int) (i : Nat) : rd l (i : Int) = l.getD i 0 := by simp [rd]
theorem b9 (l : List Int) (i : Nat) (h : i < l.length) : rd l (i : Int) = l[i] := by simp [rd, h]
theorem m6 (l : List Int) (i : Int) (h0 : 0 ≤ i) (h1 : i < (l.length : Int)) : rd l i ∈ l := by
 obtain ⟨n, rfl⟩ := Int.eq_ofNat_of_zero_le h0; have h : n < l.length := by omega
 rw [b9 l n h]; exact List.getElem_mem h
def ints (L : List Nat) : List Int := L.map (fun x : Nat => (x : Int))
theorem bP (L : List Nat) : (L.map (fun x : Nat => (x : Int))).map Int.toNat = L := by
 rw [List.map_map]
 conv => rhs; rw [← List.map_id L]
 exact List.map_congr_left (fun x _ => Int.toNat_natCast x)
theorem dX {i n : Nat} (h : i < n) : List.range' i (n - i) = i :: List.range' (i + 1) (n - (i + 1)) := by
 rw [show n - i = (n - (i + 1)) + 1 from by omega, List.range'_succ]
theorem down {P : Nat → Prop} (n : Nat) (hend : P n) (hstep : ∀ i, i < n → P (i + 1) → P i) : P 0 := by
 have h : ∀ d, d ≤ n → P (n - d) := by
  intro d
  induction d with
  | zero => intro _; exact hend
  | succ d ih =>
   intro hd
   apply hstep (n - (d + 1)) (by omega)
   rw [show n - (d + 1) + 1 = n - d from by omega]; exact ih (by omega)
 have := h n (Nat.le_refl _)
 rwa [Nat.sub_self] at this
theorem bG {i n : Nat} (h : i < n) (hn : n ≤ 17592186044416) : wrap64 ((i : Int) + 1) = ((i + 1 : Nat) : Int) := by
 rw [bF (by omega) (by omega)]; rfl
theorem cp {α : Type} (l : List α) (i : Nat) (h : i < l.length) : l.drop i = l[i] :: l.drop (i + 1) := List.drop_eq_getElem_cons h
theorem cO {α : Type} (l : List α) : l.drop l.length = [] := List.drop_length
theorem iz {α : Type} (l : List α) (i : Nat) (h : i < l.length) : l.take (i + 1) = l.take i ++ [l[i]] := by
 rw [List.take_succ_eq_append_getElem h]
theorem dF {n : Nat} (h : n < 9223372036854775808) : IntKind.i64.wrap (n : Int) = (n : Int) := by
 rw [IntKind.wrap_i64]; omega
theorem jI (n : Int) (h0 : 0 ≤ n) (h1 : n < 2 ^ 63) : IntKind.i64.wrap n = n := by
 rw [IntKind.wrap_i64]; omega
theorem gv {a b : Nat} (ha : a < 2 ^ 63) (hb : b < 2 ^ 63) : Go.bits .and .i64 (a : Int) (b : Int) = ((a &&& b : Nat) : Int) := (bits_nat .i64 63 (by decide) jI a b ha hb).1
theorem ef {a b : Nat} (ha : a < 2 ^ 63) (hb : b < 2 ^ 63) : Go.bits .or .i64 (a : Int) (b : Int) = ((a ||| b : Nat) : Int) := (bits_nat .i64 63 (by decide) jI a b ha hb).2
theorem fC {a b : Nat} (ha : a < 2 ^ 63) (hb : b < 2 ^ 63) : Go.bits .xor .i64 (a : Int) (b : Int) = ((a ^^^ b : Nat) : Int) := by
 have e1 : a % 2 ^ IntKind.i64.bits = a := Nat.mod_eq_of_lt (Nat.lt_of_lt_of_le ha (by decide)); have e2 : b % 2 ^ IntKind.i64.bits = b := Nat.mod_eq_of_lt (Nat.lt_of_lt_of_le hb (by decide)); have h := Nat.xor_lt_two_pow ha hb; simp only [Go.bits, BitVec.ofInt_natCast, BitVec.toNat_xor, BitVec.toNat_ofNat, e1, e2]; exact dF h
def dif (a b : Nat) : Nat := a ^^^ (a &&& b)
theorem dif_bit (a b i : Nat) : (dif a b).testBit i = (a.testBit i && !b.testBit i) := by
 simp only [dif, Nat.testBit_xor, Nat.testBit_and]; cases a.testBit i <;> cases b.testBit i <;> rfl
theorem dG {a b : Nat} (ha : a < 2 ^ 63) (hb : b < 2 ^ 63) : Go.bits .andNot .i64 (a : Int) (b : Int) = ((dif a b : Nat) : Int) := by
 have e1 : a % 2 ^ IntKind.i64.bits = a := Nat.mod_eq_of_lt (Nat.lt_of_lt_of_le ha (by decide)); have e2 : b % 2 ^ IntKind.i64.bits = b := Nat.mod_eq_of_lt (Nat.lt_of_lt_of_le hb (by decide)); have key : a &&& (2 ^ IntKind.i64.bits - 1 - b) = dif a b := by
  apply Nat.eq_of_testBit_eq
  intro i; have hb' : (2 ^ IntKind.i64.bits - 1 - b).testBit i = (decide (i < 64) && !b.testBit i) := by
   have : 2 ^ IntKind.i64.bits - 1 - b = 2 ^ 64 - (b + 1) := by
    show 2 ^ 64 - 1 - b = 2 ^ 64 - (b + 1)
    omega
   rw [this, Nat.testBit_two_pow_sub_succ (Nat.lt_of_lt_of_le hb (by decide))]
  rw [dif_bit, Nat.testBit_and, hb']; by_cases hi : i < 64
  ·simp [hi]
  ·have : a.testBit i = false := Nat.testBit_lt_two_pow (Nat.lt_of_lt_of_le ha (Nat.pow_le_pow_right (by decide) (by omega))); simp [this]
 have hlt : dif a b < 9223372036854775808 := Nat.xor_lt_two_pow ha (Nat.and_lt_two_pow _ hb); simp only [Go.bits, BitVec.ofInt_natCast, BitVec.toNat_and, BitVec.toNat_not, BitVec.toNat_ofNat, e1, e2]; rw [key]; exact dF hlt
theorem cQ {y : Nat} (h : y < 63) : shl .i64 1 (y : Int) = ((2 ^ y : Nat) : Int) := by
 unfold shl; have : min (y : Int).toNat IntKind.i64.bits = y := by simp [IntKind.bits]; omega
 rw [this]; have h2 : (2 ^ y : Nat) < 9223372036854775808 := by
  have := Nat.pow_lt_pow_right (a := 2) (by decide) h
  simpa using this
 have h3 : (1 : Int) * 2 ^ y = ((2 ^ y : Nat) : Int) := by simp
 rw [h3]; exact dF h2
theorem ms {a y : Nat} (ha : a < 2 ^ 63) : shr .i64 (a : Int) (y : Int) = ((a >>> y : Nat) : Int) := by
 unfold shr; rw [Int.toNat_natCast, Nat.shiftRight_eq_div_pow]; simp only [IntKind.bits]; by_cases h : y ≤ 64
 ·rw [Nat.min_eq_left h]; simp
 ·rw [Nat.min_eq_right (by omega)]; have h1 : a / 2 ^ y = 0 := Nat.div_eq_of_lt (Nat.lt_of_lt_of_le ha (Nat.pow_le_pow_right (by decide) (by omega))); rw [h1]; have h2 : a / 2 ^ 64 = 0 := Nat.div_eq_of_lt (Nat.lt_of_lt_of_le ha (by decide)); have h3 : (a : Int) / 2 ^ 64 = ((a / 2 ^ 64 : Nat) : Int) := by simp
  rw [h3, h2]
theorem kz {a y : Nat} (ha : a < 2 ^ 63) : ((Go.bits .and .i64 (shr .i64 (a : Int) (y : Int)) 1) == 1) = a.testBit y := by
 rw [ms ha]; have h : a >>> y < 2 ^ 63 := by
  rw [Nat.shiftRight_eq_div_pow]; exact Nat.lt_of_le_of_lt (Nat.div_le_self _ _) ha
 have e := gv (b := 1) h (by decide); rw [show ((1 : Nat) : Int) = 1 from rfl] at e; rw [e, Nat.testBit]; have hb : (a >>> y) &&& 1 = 0 ∨ (a >>> y) &&& 1 = 1 := by
  rw [Nat.and_one_is_mod]; omega
 have hc : 1 &&& (a >>> y) = (a >>> y) &&& 1 := Nat.and_comm _ _; rw [hc]; rcases hb with hb | hb <;> rw [hb] <;> rfl
theorem lZ {t s : Nat} : dif t s = 0 ↔ t &&& s = t := by
 constructor
 ·intro h
  apply Nat.eq_of_testBit_eq
  intro i; have := congrArg (fun x => Nat.testBit x i) h; simp only [dif_bit, Nat.zero_testBit] at this; rw [Nat.testBit_and]; cases ht : t.testBit i
  ·rfl
  ·rw [ht] at this; cases hs : s.testBit i
   ·rw [hs] at this; cases this
   ·rfl
 ·intro h; unfold dif; rw [h, Nat.xor_self]
def els (s : Nat) : List Nat := (List.range 8).filter (fun e => s.testBit e)
def pc (s : Nat) : Nat := (els s).length
def du (n s : Int) : Bool := decide (0 ≤ n) && decide (n ≤ 8) && (decide (0 ≤ s) && decide (s < 2 ^ n.toNat))
def cG (s : Int) : Bool := decide (0 ≤ s) && decide (s < 256)
def hasB (s e : Int) : Bool := cG s && (decide (0 ≤ e) && decide (e < 8)) && s.toNat.testBit e.toNat
theorem dW {s e : Nat} : e ∈ els s ↔ e < 8 ∧ s.testBit e = true := by simp [els]
theorem cn {n : Nat} (h : n ≤ 8) : 2 ^ n ≤ 256 := by
 have := Nat.pow_le_pow_right (n := 2) (by decide) h
 simpa using this
theorem eE {n s : Int} (h : du n s = true) : ∃ (m t : Nat), n = m ∧ s = t ∧ m ≤ 8 ∧ t < 2 ^ m ∧ t < 256 := by
 simp only [du, Bool.and_eq_true, decide_eq_true_eq] at h; obtain ⟨⟨h0, h8⟩, hs0, hs1⟩ := h; obtain ⟨m, rfl⟩ := Int.eq_ofNat_of_zero_le h0; obtain ⟨t, rfl⟩ := Int.eq_ofNat_of_zero_le hs0; have hm : m ≤ 8 := by omega
 have ht : t < 2 ^ m := by
  rw [Int.toNat_natCast] at hs1
  exact_mod_cast hs1
 exact ⟨m, t, rfl, rfl, hm, ht, Nat.lt_of_lt_of_le ht (cn hm)⟩
theorem j6 {m t : Nat} : du (m : Int) (t : Int) = (decide (m ≤ 8) && decide (t < 2 ^ m)) := by
 unfold du; rw [Int.toNat_natCast, Bool.eq_iff_iff]; simp only [Bool.and_eq_true, decide_eq_true_eq]
 constructor
 ·rintro ⟨⟨_, h⟩, _, h'⟩; exact ⟨by omega, by exact_mod_cast h'⟩
 ·rintro ⟨h, h'⟩; exact ⟨⟨by omega, by omega⟩, by omega, by exact_mod_cast h'⟩
theorem isAnyB_nat {t : Nat} : cG (t : Int) = decide (t < 256) := by
 unfold cG; rw [Bool.eq_iff_iff]; simp only [Bool.and_eq_true, decide_eq_true_eq]; omega
theorem ey {s e : Nat} : hasB (s : Int) (e : Int) = (decide (s < 256) && decide (e < 8) && s.testBit e) := by
 unfold hasB; rw [isAnyB_nat, Int.toNat_natCast, Int.toNat_natCast]; have : (decide (0 ≤ (e : Int)) && decide ((e : Int) < 8)) = decide (e < 8) := by
  rw [Bool.eq_iff_iff]; simp only [Bool.and_eq_true, decide_eq_true_eq]; omega
 rw [this]
theorem aZ {s : Nat} (h : s < 256) : s < 2 ^ 63 := Nat.lt_of_lt_of_le h (by decide)
theorem mi : ∀ x < 256, pc x = x % 2 + pc (x / 2) := by decide +kernel
theorem jq (s : Nat) : pc s ≤ 8 := by
 unfold pc els; exact Nat.le_trans (List.length_filter_le _ _) (by simp)
theorem pc_zero : pc 0 = 0 := by decide
theorem lL : ∀ a < 256, ∀ e < 8, ∀ f < 8, (!(a.testBit e && !a.testBit f) || (decide (a - 2 ^ e + 2 ^ f = dif a (2 ^ e) ||| 2 ^ f) && decide (2 ^ e ≤ a) && decide (dif a (2 ^ e) ||| 2 ^ f < 256))) = true := by decide +kernel
theorem kn {a e f : Nat} (ha : a < 256) (he : e < 8) (hf : f < 8) (h1 : a.testBit e = true) (h2 : a.testBit f = false) : a - 2 ^ e + 2 ^ f = dif a (2 ^ e) ||| 2 ^ f ∧ 2 ^ e ≤ a ∧ dif a (2 ^ e) ||| 2 ^ f < 256 := by
 have h := lL a ha e he f hf; rw [h1, h2] at h; simp only [Bool.not_false, Bool.and_self, Bool.not_true, Bool.false_or, Bool.and_eq_true, decide_eq_true_eq] at h; exact ⟨h.1.1, h.1.2, h.2⟩
theorem eS {a b : Nat} (ha : a < 256) : dif a b < 256 := by
 have h : dif a b ≤ a := by
  apply Nat.le_of_testBit
  intro i hi; rw [dif_bit] at hi; simp only [Bool.and_eq_true] at hi; exact hi.1
 omega
theorem mY {a b : Nat} (ha : a < 256) : a &&& b < 256 := Nat.lt_of_le_of_lt Nat.and_le_left ha
theorem ky (b s : Nat) : els (b &&& s) = (els s).filter (fun e => b.testBit e) := by
 unfold els; rw [List.filter_filter]
 apply List.filter_congr
 intro e _; rw [Nat.testBit_and]
theorem fa (b s : Nat) : pc (b &&& s) ≤ pc s := by
 unfold pc; rw [ky]; exact List.length_filter_le _ _
theorem iM {s i : Nat} (hs : s < 256) (hi : ¬ i < 8) : s.testBit i = false :=
 Nat.testBit_lt_two_pow (Nat.lt_of_lt_of_le hs (show 2 ^ 8 ≤ 2 ^ i from Nat.pow_le_pow_right (by decide) (by omega)))
theorem kE {s t : Nat} (hs : s < 256) (ht : t < 256) (h : ∀ i, i < 8 → s.testBit i = t.testBit i) : s = t := by
 apply Nat.eq_of_testBit_eq
 intro i; by_cases hi : i < 8
 ·exact h i hi
 ·rw [iM hs hi, iM ht hi]
theorem iJ {b s : Nat} (hs : s < 256) : pc (b &&& s) = pc s ↔ b &&& s = s := by
 constructor
 ·intro h; unfold pc at h; rw [ky] at h; have hall := List.length_filter_eq_length_iff.1 h
  apply kE (Nat.lt_of_le_of_lt Nat.and_le_right hs) hs
  intro i hi; rw [Nat.testBit_and]; cases hb : s.testBit i
  ·simp
  ·have := hall i (dW.2 ⟨hi, hb⟩); rw [this]; rfl
 ·intro h; rw [h]
def subN (s t : Nat) : Prop := s &&& t = s
instance (s t : Nat) : Decidable (subN s t) := inferInstanceAs (Decidable (_ = _))
theorem bS {s t : Nat} : subN s t ↔ ∀ i, s.testBit i = true → t.testBit i = true := by
 constructor
 ·intro h i hi; have := congrArg (fun x => Nat.testBit x i) h; simp only [Nat.testBit_and, hi, Bool.true_and] at this; exact this
 ·intro h
  apply Nat.eq_of_testBit_eq
  intro i; rw [Nat.testBit_and]; cases hs : s.testBit i
  ·rfl
  ·rw [h i hs]; rfl
theorem eI {s t : Nat} (h : subN s t) : s ≤ t := by
 have : s &&& t ≤ t := Nat.and_le_right; rw [h] at this; exact this
theorem fx {a b c : Nat} (h : subN a b) (k : subN b c) : subN a c := bS.2 fun i hi => bS.1 k i (bS.1 h i hi)
theorem fS (a : Nat) : subN a a := Nat.and_self a
theorem e8 (a : Nat) : subN 0 a := Nat.zero_and a
def maxN (acc : Nat) (l : List Nat) : Nat := l.foldl max acc
theorem iy (acc x : Nat) (l : List Nat) : maxN acc (x :: l) = maxN (max acc x) l := rfl
theorem mm (l : List Nat) : ∀ acc : Nat, acc ≤ maxN acc l := by
 induction l with
 | nil => intro acc; exact Nat.le_refl _
 | cons x l ih => intro acc; exact Nat.le_trans (Nat.le_max_left _ _) (ih _)
theorem gS (l : List Nat) : ∀ acc : Nat, ∀ x ∈ l, x ≤ maxN acc l := by
 induction l with
 | nil => intro acc x hx; simp at hx
 | cons y l ih =>
  intro acc x hx; rcases List.mem_cons.1 hx with rfl | hx
  ·exact Nat.le_trans (Nat.le_max_right _ _) (mm l _)
  ·exact ih _ x hx
theorem fv (l : List Nat) : ∀ acc : Nat, maxN acc l = acc ∨ maxN acc l ∈ l := by
 induction l with
 | nil => intro acc; exact .inl rfl
 | cons y l ih =>
  intro acc; rw [iy]; rcases ih (max acc y) with h | h
  ·by_cases hm : acc ≤ y
   ·rw [h, Nat.max_eq_right hm]; exact .inr (List.mem_cons_self ..)
   ·rw [h, Nat.max_eq_left (by omega)]; exact .inl rfl
  ·exact .inr (List.mem_cons_of_mem _ h)
theorem kM {l : List Nat} {acc m : Nat} (ha : acc ≤ m) (h : ∀ x ∈ l, x ≤ m) : maxN acc l ≤ m := by
 rcases fv l acc with e | e
 ·rw [e]; exact ha
 ·exact h _ e
def rkN (L : List Nat) (s : Nat) : Nat := maxN 0 (L.map (fun b => pc (b &&& s)))
theorem lT (L : List Nat) (s : Nat) : rkN L s ≤ pc s := by
 apply kM (Nat.zero_le _)
 intro x hx; obtain ⟨b, _, rfl⟩ := List.mem_map.1 hx; exact fa b s
def indN (L : List Nat) (s : Nat) : Bool := L.any (fun b => decide (subN s b))
theorem indN_iff {L : List Nat} {s : Nat} : indN L s = true ↔ ∃ b ∈ L, subN s b := by simp [indN]
theorem e7 {L : List Nat} {s : Nat} (hs : s < 256) (hL : L ≠ []) : rkN L s = pc s ↔ indN L s = true := by
 rw [indN_iff]
 constructor
 ·intro h; unfold rkN at h; rcases fv (L.map (fun b => pc (b &&& s))) 0 with e | e
  ·rw [e] at h; obtain ⟨b, hb⟩ := List.exists_mem_of_ne_nil L hL; refine ⟨b, hb, ?_⟩; have h1 := fa b s; have h2 : pc (b &&& s) = pc s := by omega
   have := (iJ hs).1 h2; unfold subN; rw [Nat.and_comm]; exact this
  ·obtain ⟨b, hb, hbe⟩ := List.mem_map.1 e; rw [h] at hbe; refine ⟨b, hb, ?_⟩; have := (iJ hs).1 hbe; unfold subN; rw [Nat.and_comm]; exact this
 ·rintro ⟨b, hb, hsub⟩
  apply Nat.le_antisymm (lT L s)
  have : pc (b &&& s) ∈ L.map (fun b => pc (b &&& s)) := List.mem_map.2 ⟨b, hb, rfl⟩; have h := gS _ 0 _ this; unfold rkN; rw [Nat.and_comm, show s &&& b = s from hsub] at h; exact h
def bt1 (s i : Nat) : Nat := if s.testBit i then 1 else 0
theorem fK (p : Nat → Bool) (l : List Nat) : (l.filter p).length = (l.map (fun i => if p i then 1 else 0)).sum := by
 induction l with
 | nil => rfl
 | cons x l ih =>
  rw [List.filter_cons, List.map_cons, List.sum_cons, ← ih]; by_cases h : p x = true
  ·rw [if_pos h, if_pos h, List.length_cons]; omega
  ·rw [if_neg h, if_neg h]; omega
theorem pc_sum (s : Nat) : pc s = ((List.range 8).map (bt1 s)).sum := by
 unfold pc els bt1; exact fK _ _
theorem eX (f g : Nat → Nat) (l : List Nat) : (l.map (fun i => f i + g i)).sum = (l.map f).sum + (l.map g).sum := by
 induction l with
 | nil => rfl
 | cons x l ih => simp only [List.map_cons, List.sum_cons, ih]; omega
theorem jY {f g : Nat → Nat} {l : List Nat} (h : ∀ i ∈ l, f i ≤ g i) : (l.map f).sum ≤ (l.map g).sum := by
 induction l with
 | nil => exact Nat.le_refl _
 | cons x l ih =>
  simp only [List.map_cons, List.sum_cons]; have h1 := h x (List.mem_cons_self ..); have h2 := ih (fun i hi => h i (List.mem_cons_of_mem _ hi)); omega
theorem fT (a b : Nat) : pc (a ||| b) + pc (a &&& b) = pc a + pc b := by
 rw [pc_sum, pc_sum, pc_sum, pc_sum, ← eX, ← eX]
 congr 1
 apply List.map_congr_left
 intro i _; unfold bt1; rw [Nat.testBit_or, Nat.testBit_and]; cases a.testBit i <;> cases b.testBit i <;> rfl
theorem dI (a b : Nat) : pc (dif a b) + pc (a &&& b) = pc a := by
 rw [pc_sum, pc_sum, pc_sum, ← eX]
 congr 1
 apply List.map_congr_left
 intro i _; unfold bt1; rw [dif_bit, Nat.testBit_and]; cases a.testBit i <;> cases b.testBit i <;> rfl
theorem dV {a b : Nat} (h : ∀ i, i < 8 → a.testBit i = true → b.testBit i = true) : pc a ≤ pc b := by
 rw [pc_sum, pc_sum]
 apply jY
 intro i hi; unfold bt1; cases ha : a.testBit i
 ·simp
 ·rw [h i (List.mem_range.1 hi) ha]; simp
theorem mV {a b : Nat} (h : subN a b) : pc a ≤ pc b := dV fun i _ hi => bS.1 h i hi
theorem lu {s i : Nat} (hi : i < 8) (h : s.testBit i = true) : 0 < pc s := by
 unfold pc; exact List.length_pos_of_mem (dW.2 ⟨hi, h⟩)
theorem iT {i : Nat} (hi : i < 8) : pc (2 ^ i) = 1 := by
 have : ∀ i < 8, pc (2 ^ i) = 1 := by decide +kernel
 exact this i hi
theorem gW {a b : Nat} (h : pc a < pc b) : ∃ e, e < 8 ∧ b.testBit e = true ∧ a.testBit e = false := by
 refine Classical.byContradiction fun hc => ?_
 have : pc b ≤ pc a := dV fun i hi hb => by
  cases ha : a.testBit i
  ·exact absurd ⟨i, hi, hb, ha⟩ hc
  ·rfl
 omega
theorem iX {a : Nat} (h : 0 < pc a) : ∃ e, e < 8 ∧ a.testBit e = true := by
 have : pc 0 < pc a := by rw [pc_zero]; exact h
 obtain ⟨e, h1, h2, _⟩ := gW this; exact ⟨e, h1, h2⟩
def swp (a e f : Nat) : Nat := dif a (2 ^ e) ||| 2 ^ f
theorem swp_bit (a e f i : Nat) : (swp a e f).testBit i = ((a.testBit i && !decide (e = i)) || decide (f = i)) := by
 unfold swp; rw [Nat.testBit_or, dif_bit, Nat.testBit_two_pow, Nat.testBit_two_pow]
theorem add_bit (a f i : Nat) : (a ||| 2 ^ f).testBit i = (a.testBit i || decide (f = i)) := by
 rw [Nat.testBit_or, Nat.testBit_two_pow]
theorem del_bit (a e i : Nat) : (dif a (2 ^ e)).testBit i = (a.testBit i && !decide (e = i)) := by
 rw [dif_bit, Nat.testBit_two_pow]
theorem ed {a f : Nat} (hf : f < 8) (h : a.testBit f = false) : pc (a ||| 2 ^ f) = pc a + 1 := by
 have h1 := fT a (2 ^ f); have h2 : a &&& 2 ^ f = 0 := by
  apply Nat.eq_of_testBit_eq
  intro i; rw [Nat.testBit_and, Nat.testBit_two_pow, Nat.zero_testBit]; by_cases hi : f = i
  ·subst hi; rw [h]; rfl
  ·simp [hi]
 rw [h2, pc_zero, iT hf] at h1; omega
theorem fV {a e : Nat} (he : e < 8) (h : a.testBit e = true) : pc (dif a (2 ^ e)) + 1 = pc a := by
 have h1 := dI a (2 ^ e); have h2 : a &&& 2 ^ e = 2 ^ e := by
  apply Nat.eq_of_testBit_eq
  intro i; rw [Nat.testBit_and, Nat.testBit_two_pow]; by_cases hi : e = i
  ·subst hi; rw [h]; rfl
  ·simp [hi]
 rw [h2, iT he] at h1; exact h1
theorem lP {a e f : Nat} (he : e < 8) (hf : f < 8) (h1 : a.testBit e = true) (h2 : a.testBit f = false) : pc (swp a e f) = pc a := by
 have hd := fV he h1; have hb : (dif a (2 ^ e)).testBit f = false := by rw [del_bit, h2]; rfl
 have ha := ed (a := dif a (2 ^ e)) hf hb; unfold swp; omega
def Exch (L : List Nat) : Prop := ∀ a ∈ L, ∀ b ∈ L, ∀ e, e < 8 → a.testBit e = true → b.testBit e = false → ∃ f, f < 8 ∧ b.testBit f = true ∧ a.testBit f = false ∧ swp a e f ∈ L
structure Mat (m : Nat) (L : List Nat) : Prop where
 size : m ≤ 8
 sets : ∀ b ∈ L, b < 2 ^ m
 some : L ≠ []
 exch : Exch L
variable {m : Nat} {L : List Nat}
theorem Mat.lt (h : Mat m L) : ∀ b ∈ L, b < 256 := fun b hb => Nat.lt_of_lt_of_le (h.sets b hb) (cn h.size)
theorem Mat.equi (h : Mat m L) : ∀ (d : Nat) (a b : Nat), a ∈ L → b ∈ L → pc (dif a b) = d → pc a = pc b := by
 intro d
 induction d with
 | zero =>
  intro a b ha hb hd; have hab : ∀ i, i < 8 → a.testBit i = true → b.testBit i = true := by
   intro i hi hai; cases hbi : b.testBit i
   ·have : 0 < pc (dif a b) := lu hi (by rw [dif_bit, hai, hbi]; rfl); omega
   ·rfl
  refine Nat.le_antisymm (dV hab) (dV fun i hi hbi => ?_); cases hai : a.testBit i
  ·obtain ⟨f, hf, h1, h2, _⟩ := h.exch b hb a ha i hi hbi hai; rw [hab f hf h1] at h2; exact h2.symm
  ·rfl
 | succ d ih =>
  intro a b ha hb hd; obtain ⟨e, he, hde⟩ := iX (a := dif a b) (by omega); rw [dif_bit] at hde; simp only [Bool.and_eq_true, Bool.not_eq_true'] at hde; obtain ⟨f, hf, h1, h2, hm⟩ := h.exch a ha b hb e he hde.1 hde.2; have hs := ih (swp a e f) b hm hb (by
   have e1 : dif (swp a e f) b = dif (dif a b) (2 ^ e) := by
    apply Nat.eq_of_testBit_eq
    intro i; rw [dif_bit, swp_bit, del_bit, dif_bit]; by_cases hi : f = i
    ·subst hi; rw [h1, h2]; simp
    ·simp [hi]
     cases a.testBit i <;> cases b.testBit i <;> simp
   rw [e1]; have := fV (a := dif a b) he (by rw [dif_bit, hde.1, hde.2]; rfl); omega)
  rw [lP he hf hde.1 h2] at hs; exact hs
theorem Mat.card (h : Mat m L) {a b : Nat} (ha : a ∈ L) (hb : b ∈ L) : pc a = pc b := h.equi _ a b ha hb rfl
theorem j5 (A : Option Addr) (x y c : Nat) : (Value.slice A x c).ownBlock = (Value.slice A y c).ownBlock := by cases A <;> rfl
def idxO (g : Int → Option Bool) : List Int → Nat → Option Int
 | [], _ => some (-1)
 | x :: xs, i => (g x).bind fun b => if b = true then some (i : Int) else idxO g xs (i + 1)
def anyO (g : Int → Option Bool) : List Int → Option Bool
 | [] => some false
 | x :: xs => (g x).bind fun b => if b = true then some true else anyO g xs
theorem kW (g : Int → Option Bool) : ∀ (l : List Int) (i : Nat) (b : Bool), anyO g l = some b → ∃ r, idxO g l i = some r ∧ decide (r ≥ 0) = b := by
 intro l
 induction l with
 | nil => intro i b h; simp only [anyO, Option.some.injEq] at h; subst h; exact ⟨-1, rfl, rfl⟩
 | cons x xs ih =>
  intro i b h; simp only [anyO] at h; obtain ⟨y, hy, h⟩ := Option.bind_eq_some_iff.1 h; simp only [idxO, hy, Option.bind_some]; by_cases hb : y = true
  ·rw [if_pos hb] at h ⊢; simp only [Option.some.injEq] at h; exact ⟨(i : Int), rfl, by rw [← h]; simp⟩
  ·rw [if_neg hb] at h ⊢; exact ih (i + 1) b h
theorem mr {g : Nat → Int → Option Bool} {p : Int → Bool} : ∀ {l : List Int}, (∀ x ∈ l, Ev (fun k => g k x) (p x)) → Ev (fun k => anyO (g k) l) (l.any p) := by
 intro l
 induction l with
 | nil => intro _; exact Ev.now _
 | cons x l ih =>
  intro h; simp only [anyO, List.any_cons]; refine Ev.bind (h x (List.mem_cons_self ..)) ?_; by_cases hp : p x = true
  ·refine Ev.ifp hp ?_; rw [hp, Bool.true_or]; exact Ev.now _
  ·refine Ev.ifn hp ?_; rw [Bool.eq_false_iff.2 hp, Bool.false_or]; exact ih (fun y hy => h y (List.mem_cons_of_mem _ hy))
theorem fJ (l : List Int) (x : Int) (h0 : 0 ≤ x) (h1 : x < (l.length : Int)) : l.drop x.toNat = rd l x :: l.drop (x + 1).toNat := by
 obtain ⟨i, rfl⟩ := Int.eq_ofNat_of_zero_le h0; have hi : i < l.length := by omega
 rw [Int.toNat_natCast, show ((i : Int) + 1).toNat = i + 1 from by omega, cp l i hi, b9 l i hi]
theorem dU (l : List Int) (x : Int) (h1 : ¬ x < (l.length : Int)) : l.drop x.toNat = [] := List.drop_eq_nil_of_le (by omega)
end Go.Proofs.Ytimkekeaeojpkaa.Z
