/- Plain facts on numbers, sets and lists that the law FnGreedy leans on. Conditions: those in each lemma. -/
import Derived.Laws.BitsLemmas
import Derived.Shelf.SlSortCmp.Insertion
import Derived.Sort.Defs
import Derived.Sort.Grow
import Derived.Test.YtimkekeaeojpkaaGreatMFnGreedywMore
import Derived.Test.YtimkekeaeojpkaaGreatMFnGreedywWords
namespace Go.Proofs.YtimkekeaeojpkaaGreat.Z
open Go Go.RowKit Go.Proofs.YtimkekeaeojpkaaGreatW.PrintWords Go.Proofs.YtimkekeaeojpkaaGreatW.PrintMore
theorem Ev.at {α : Type} {g : Nat → Option α} {r : α} (h : Ev g r) : ∃ K, ∀ k, K ≤ k → g k = some r := h
theorem Ev.ifp {α : Type} {c : Prop} [Decidable c] {g f : Nat → Option α} {r : α} (hc : c) (h : Ev g r) : Ev (fun k => if c then g k else f k) r := by
 simpa only [if_pos hc] using h
theorem Ev.ifn {α : Type} {c : Prop} [Decidable c] {g f : Nat → Option α} {r : α} (hc : ¬ c) (h : Ev f r) : Ev (fun k => if c then g k else f k) r := by
 simpa only [if_neg hc] using h
theorem Ev.cbind {α β : Type} {g : Option α} {f : Nat → α → Option β} {a : α} {r : β} (h : g = some a) (k : Ev (fun n => f n a) r) : Ev (fun n => g.bind (f n)) r := by
 subst h
 simpa only [Option.bind_some] using k
theorem be {n : Int} (h0 : -9223372036854775808 ≤ n) (h1 : n < 9223372036854775808) : wrap64 n = n := by unfold wrap64; omega
theorem mO {n : Int} (h0 : -9223372036854775808 ≤ n) (h1 : n < 9223372036854775808) : (Lit.int .i64 n).wf = true := by
 simp only [Lit.wf, IntKind.min, IntKind.max, IntKind.signed, IntKind.bits, Bool.and_eq_true, decide_eq_true_eq, if_true]
 omega
theorem fw {n : Int} (h0 : 0 ≤ n) (h1 : n < 18446744073709551616) : IntKind.u64.wrap n = n := by
 simp [IntKind.wrap, IntKind.bits, IntKind.signed]
 omega
theorem dl (n : Int) : 0 ≤ IntKind.u64.wrap n := by
 simp [IntKind.wrap, IntKind.bits, IntKind.signed]
 omega
theorem mf (pre : List Int) (x : Int) (rest : List Int) : rd (pre ++ x :: rest) (pre.length : Int) = x := by
 simp [rd]
theorem mi (l : List Int) (i : Nat) : rd l (i : Int) = l.getD i 0 := by simp [rd]
theorem cf (l : List Int) (i : Nat) (h : i < l.length) : rd l (i : Int) = l[i] := by simp [rd, h]
theorem mm (l : List Int) (i : Int) (h0 : 0 ≤ i) (h1 : i < (l.length : Int)) : rd l i ∈ l := by
 obtain ⟨n, rfl⟩ := Int.eq_ofNat_of_zero_le h0
 have h : n < l.length := by omega
 rw [cf l n h]
 exact List.getElem_mem h
def ints (L : List Nat) : List Int := L.map (fun x : Nat => (x : Int))
theorem cq (L : List Nat) : (L.map (fun x : Nat => (x : Int))).map Int.toNat = L := by
 rw [List.map_map]
 conv => rhs; rw [← List.map_id L]
 exact List.map_congr_left (fun x _ => Int.toNat_natCast x)
theorem down {P : Nat → Prop} (n : Nat) (hend : P n) (hstep : ∀ i, i < n → P (i + 1) → P i) : P 0 := by
 have h : ∀ d, d ≤ n → P (n - d) := by
  intro d
  induction d with
  | zero => intro _; exact hend
  | succ d ih =>
   intro hd
   apply hstep (n - (d + 1)) (by omega)
   rw [show n - (d + 1) + 1 = n - d from by omega]
   exact ih (by omega)
 have := h n (Nat.le_refl _)
 rwa [Nat.sub_self] at this
theorem bU {i n : Nat} (h : i < n) (hn : n ≤ 17592186044416) : wrap64 ((i : Int) + 1) = ((i + 1 : Nat) : Int) := by
 rw [be (by omega) (by omega)]; rfl
theorem bQ {α : Type} (l : List α) (i : Nat) (h : i < l.length) : l.drop i = l[i] :: l.drop (i + 1) := List.drop_eq_getElem_cons h
theorem cu {α : Type} (l : List α) : l.drop l.length = [] := List.drop_length
theorem dT {α : Type} (l : List α) (i : Nat) (h : i < l.length) : l.take (i + 1) = l.take i ++ [l[i]] := by
 rw [List.take_succ_eq_append_getElem h]
theorem dO {n : Nat} (h : n < 9223372036854775808) : IntKind.i64.wrap (n : Int) = (n : Int) := by
 rw [IntKind.wrap_i64]; omega
theorem jI (n : Int) (h0 : 0 ≤ n) (h1 : n < 2 ^ 63) : IntKind.i64.wrap n = n := by
 rw [IntKind.wrap_i64]; omega
theorem eY {a b : Nat} (ha : a < 2 ^ 63) (hb : b < 2 ^ 63) : Go.bits .and .i64 (a : Int) (b : Int) = ((a &&& b : Nat) : Int) := (bits_nat .i64 63 (by decide) jI a b ha hb).1
theorem ij {a b : Nat} (ha : a < 2 ^ 63) (hb : b < 2 ^ 63) : Go.bits .or .i64 (a : Int) (b : Int) = ((a ||| b : Nat) : Int) := (bits_nat .i64 63 (by decide) jI a b ha hb).2
theorem mL {a b : Nat} (ha : a < 2 ^ 63) (hb : b < 2 ^ 63) : Go.bits .xor .i64 (a : Int) (b : Int) = ((a ^^^ b : Nat) : Int) := by
 have e1 : a % 2 ^ IntKind.i64.bits = a := Nat.mod_eq_of_lt (Nat.lt_of_lt_of_le ha (by decide))
 have e2 : b % 2 ^ IntKind.i64.bits = b := Nat.mod_eq_of_lt (Nat.lt_of_lt_of_le hb (by decide))
 have h := Nat.xor_lt_two_pow ha hb
 simp only [Go.bits, BitVec.ofInt_natCast, BitVec.toNat_xor, BitVec.toNat_ofNat, e1, e2]
 exact dO h
def dif (a b : Nat) : Nat := a ^^^ (a &&& b)
theorem dif_bit (a b i : Nat) : (dif a b).testBit i = (a.testBit i && !b.testBit i) := by
 simp only [dif, Nat.testBit_xor, Nat.testBit_and]
 cases a.testBit i <;> cases b.testBit i <;> rfl
theorem dH {a b : Nat} (ha : a < 2 ^ 63) (hb : b < 2 ^ 63) : Go.bits .andNot .i64 (a : Int) (b : Int) = ((dif a b : Nat) : Int) := by
 have e1 : a % 2 ^ IntKind.i64.bits = a := Nat.mod_eq_of_lt (Nat.lt_of_lt_of_le ha (by decide))
 have e2 : b % 2 ^ IntKind.i64.bits = b := Nat.mod_eq_of_lt (Nat.lt_of_lt_of_le hb (by decide))
 have key : a &&& (2 ^ IntKind.i64.bits - 1 - b) = dif a b := by
  apply Nat.eq_of_testBit_eq
  intro i
  have hb' : (2 ^ IntKind.i64.bits - 1 - b).testBit i = (decide (i < 64) && !b.testBit i) := by
   have : 2 ^ IntKind.i64.bits - 1 - b = 2 ^ 64 - (b + 1) := by
    show 2 ^ 64 - 1 - b = 2 ^ 64 - (b + 1)
    omega
   rw [this, Nat.testBit_two_pow_sub_succ (Nat.lt_of_lt_of_le hb (by decide))]
  rw [dif_bit, Nat.testBit_and, hb']
  by_cases hi : i < 64
  ·simp [hi]
  ·have : a.testBit i = false := Nat.testBit_lt_two_pow (Nat.lt_of_lt_of_le ha (Nat.pow_le_pow_right (by decide) (by omega)))
   simp [this]
 have hlt : dif a b < 9223372036854775808 := Nat.xor_lt_two_pow ha (Nat.and_lt_two_pow _ hb)
 simp only [Go.bits, BitVec.ofInt_natCast, BitVec.toNat_and, BitVec.toNat_not, BitVec.toNat_ofNat, e1, e2]
 rw [key]
 exact dO hlt
theorem dV {y : Nat} (h : y < 63) : shl .i64 1 (y : Int) = ((2 ^ y : Nat) : Int) := by
 unfold shl
 have : min (y : Int).toNat IntKind.i64.bits = y := by simp [IntKind.bits]; omega
 rw [this]
 have h2 : (2 ^ y : Nat) < 9223372036854775808 := by
  have := Nat.pow_lt_pow_right (a := 2) (by decide) h
  simpa using this
 have h3 : (1 : Int) * 2 ^ y = ((2 ^ y : Nat) : Int) := by simp
 rw [h3]
 exact dO h2
theorem mX {a y : Nat} (ha : a < 2 ^ 63) : shr .i64 (a : Int) (y : Int) = ((a >>> y : Nat) : Int) := by
 unfold shr
 rw [Int.toNat_natCast, Nat.shiftRight_eq_div_pow]
 simp only [IntKind.bits]
 by_cases h : y ≤ 64
 ·rw [Nat.min_eq_left h]; simp
 ·rw [Nat.min_eq_right (by omega)]
  have h1 : a / 2 ^ y = 0 := Nat.div_eq_of_lt (Nat.lt_of_lt_of_le ha (Nat.pow_le_pow_right (by decide) (by omega)))
  rw [h1]
  have h2 : a / 2 ^ 64 = 0 := Nat.div_eq_of_lt (Nat.lt_of_lt_of_le ha (by decide))
  have h3 : (a : Int) / 2 ^ 64 = ((a / 2 ^ 64 : Nat) : Int) := by simp
  rw [h3, h2]
theorem k7 {a y : Nat} (ha : a < 2 ^ 63) : ((Go.bits .and .i64 (shr .i64 (a : Int) (y : Int)) 1) == 1) = a.testBit y := by
 rw [mX ha]
 have h : a >>> y < 2 ^ 63 := by
  rw [Nat.shiftRight_eq_div_pow]; exact Nat.lt_of_le_of_lt (Nat.div_le_self _ _) ha
 have e := eY (b := 1) h (by decide)
 rw [show ((1 : Nat) : Int) = 1 from rfl] at e
 rw [e, Nat.testBit]
 have hb : (a >>> y) &&& 1 = 0 ∨ (a >>> y) &&& 1 = 1 := by
  rw [Nat.and_one_is_mod]; omega
 have hc : 1 &&& (a >>> y) = (a >>> y) &&& 1 := Nat.and_comm _ _
 rw [hc]
 rcases hb with hb | hb <;> rw [hb] <;> rfl
theorem ma {t s : Nat} : dif t s = 0 ↔ t &&& s = t := by
 constructor
 ·intro h
  apply Nat.eq_of_testBit_eq
  intro i
  have := congrArg (fun x => Nat.testBit x i) h
  simp only [dif_bit, Nat.zero_testBit] at this
  rw [Nat.testBit_and]
  cases ht : t.testBit i
  ·rfl
  ·rw [ht] at this
   cases hs : s.testBit i
   ·rw [hs] at this; cases this
   ·rfl
 ·intro h
  unfold dif
  rw [h, Nat.xor_self]
def els (s : Nat) : List Nat := (List.range 8).filter (fun e => s.testBit e)
def pc (s : Nat) : Nat := (els s).length
def d7 (n s : Int) : Bool := decide (0 ≤ n) && decide (n ≤ 8) && (decide (0 ≤ s) && decide (s < 2 ^ n.toNat))
def da (s : Int) : Bool := decide (0 ≤ s) && decide (s < 256)
def hasB (s e : Int) : Bool := da s && (decide (0 ≤ e) && decide (e < 8)) && s.toNat.testBit e.toNat
theorem ec {s e : Nat} : e ∈ els s ↔ e < 8 ∧ s.testBit e = true := by simp [els]
theorem cj {n : Nat} (h : n ≤ 8) : 2 ^ n ≤ 256 := by
 have := Nat.pow_le_pow_right (n := 2) (by decide) h
 simpa using this
theorem iR {n s : Int} (h : d7 n s = true) : ∃ (m t : Nat), n = m ∧ s = t ∧ m ≤ 8 ∧ t < 2 ^ m ∧ t < 256 := by
 simp only [d7, Bool.and_eq_true, decide_eq_true_eq] at h
 obtain ⟨⟨h0, h8⟩, hs0, hs1⟩ := h
 obtain ⟨m, rfl⟩ := Int.eq_ofNat_of_zero_le h0
 obtain ⟨t, rfl⟩ := Int.eq_ofNat_of_zero_le hs0
 have hm : m ≤ 8 := by omega
 have ht : t < 2 ^ m := by
  rw [Int.toNat_natCast] at hs1
  exact_mod_cast hs1
 exact ⟨m, t, rfl, rfl, hm, ht, Nat.lt_of_lt_of_le ht (cj hm)⟩
theorem isAnyB_nat {t : Nat} : da (t : Int) = decide (t < 256) := by
 unfold da
 rw [Bool.eq_iff_iff]
 simp only [Bool.and_eq_true, decide_eq_true_eq]
 omega
theorem hasB_nat {s e : Nat} : hasB (s : Int) (e : Int) = (decide (s < 256) && decide (e < 8) && s.testBit e) := by
 unfold hasB
 rw [isAnyB_nat, Int.toNat_natCast, Int.toNat_natCast]
 have : (decide (0 ≤ (e : Int)) && decide ((e : Int) < 8)) = decide (e < 8) := by
  rw [Bool.eq_iff_iff]; simp only [Bool.and_eq_true, decide_eq_true_eq]; omega
 rw [this]
theorem bu {s : Nat} (h : s < 256) : s < 2 ^ 63 := Nat.lt_of_lt_of_le h (by decide)
theorem mJ : ∀ x < 256, pc x = x % 2 + pc (x / 2) := by decide +kernel
theorem jP (s : Nat) : pc s ≤ 8 := by
 unfold pc els
 exact Nat.le_trans (List.length_filter_le _ _) (by simp)
theorem pc_zero : pc 0 = 0 := by decide
theorem lR : ∀ a < 256, ∀ e < 8, ∀ f < 8, (!(a.testBit e && !a.testBit f) || (decide (a - 2 ^ e + 2 ^ f = dif a (2 ^ e) ||| 2 ^ f) && decide (2 ^ e ≤ a) && decide (dif a (2 ^ e) ||| 2 ^ f < 256))) = true := by decide +kernel
theorem kg {a e f : Nat} (ha : a < 256) (he : e < 8) (hf : f < 8) (h1 : a.testBit e = true) (h2 : a.testBit f = false) : a - 2 ^ e + 2 ^ f = dif a (2 ^ e) ||| 2 ^ f ∧ 2 ^ e ≤ a ∧ dif a (2 ^ e) ||| 2 ^ f < 256 := by
 have h := lR a ha e he f hf
 rw [h1, h2] at h
 simp only [Bool.not_false, Bool.and_self, Bool.not_true, Bool.false_or, Bool.and_eq_true, decide_eq_true_eq] at h
 exact ⟨h.1.1, h.1.2, h.2⟩
theorem eC {a b : Nat} (ha : a < 256) : dif a b < 256 := by
 have h : dif a b ≤ a := by
  apply Nat.le_of_testBit
  intro i hi
  rw [dif_bit] at hi
  simp only [Bool.and_eq_true] at hi
  exact hi.1
 omega
theorem jm {a b : Nat} (ha : a < 256) : a &&& b < 256 := Nat.lt_of_le_of_lt Nat.and_le_left ha
theorem kS (b s : Nat) : els (b &&& s) = (els s).filter (fun e => b.testBit e) := by
 unfold els
 rw [List.filter_filter]
 apply List.filter_congr
 intro e _
 rw [Nat.testBit_and]
theorem iM (b s : Nat) : pc (b &&& s) ≤ pc s := by
 unfold pc
 rw [kS]
 exact List.length_filter_le _ _
theorem kr {s i : Nat} (hs : s < 256) (hi : ¬ i < 8) : s.testBit i = false :=
 Nat.testBit_lt_two_pow (Nat.lt_of_lt_of_le hs (show 2 ^ 8 ≤ 2 ^ i from Nat.pow_le_pow_right (by decide) (by omega)))
theorem jn {s t : Nat} (hs : s < 256) (ht : t < 256) (h : ∀ i, i < 8 → s.testBit i = t.testBit i) : s = t := by
 apply Nat.eq_of_testBit_eq
 intro i
 by_cases hi : i < 8
 ·exact h i hi
 ·rw [kr hs hi, kr ht hi]
theorem iI {b s : Nat} (hs : s < 256) : pc (b &&& s) = pc s ↔ b &&& s = s := by
 constructor
 ·intro h
  unfold pc at h
  rw [kS] at h
  have hall := List.length_filter_eq_length_iff.1 h
  apply jn (Nat.lt_of_le_of_lt Nat.and_le_right hs) hs
  intro i hi
  rw [Nat.testBit_and]
  cases hb : s.testBit i
  ·simp
  ·have := hall i (ec.2 ⟨hi, hb⟩)
   rw [this]; rfl
 ·intro h; rw [h]
def subN (s t : Nat) : Prop := s &&& t = s
instance (s t : Nat) : Decidable (subN s t) := inferInstanceAs (Decidable (_ = _))
theorem b8 {s t : Nat} : subN s t ↔ ∀ i, s.testBit i = true → t.testBit i = true := by
 constructor
 ·intro h i hi
  have := congrArg (fun x => Nat.testBit x i) h
  simp only [Nat.testBit_and, hi, Bool.true_and] at this
  exact this
 ·intro h
  apply Nat.eq_of_testBit_eq
  intro i
  rw [Nat.testBit_and]
  cases hs : s.testBit i
  ·rfl
  ·rw [h i hs]; rfl
theorem gC {s t : Nat} (h : subN s t) : s ≤ t := by
 have : s &&& t ≤ t := Nat.and_le_right
 rw [h] at this
 exact this
theorem fj {a b c : Nat} (h : subN a b) (k : subN b c) : subN a c := b8.2 fun i hi => b8.1 k i (b8.1 h i hi)
theorem ee (a : Nat) : subN a a := Nat.and_self a
theorem lF (a : Nat) : subN 0 a := Nat.zero_and a
def maxN (acc : Nat) (l : List Nat) : Nat := l.foldl max acc
theorem iC (acc x : Nat) (l : List Nat) : maxN acc (x :: l) = maxN (max acc x) l := rfl
theorem m6 (l : List Nat) : ∀ acc : Nat, acc ≤ maxN acc l := by
 induction l with
 | nil => intro acc; exact Nat.le_refl _
 | cons x l ih => intro acc; exact Nat.le_trans (Nat.le_max_left _ _) (ih _)
theorem jN (l : List Nat) : ∀ acc : Nat, ∀ x ∈ l, x ≤ maxN acc l := by
 induction l with
 | nil => intro acc x hx; simp at hx
 | cons y l ih =>
  intro acc x hx
  rcases List.mem_cons.1 hx with rfl | hx
  ·exact Nat.le_trans (Nat.le_max_right _ _) (m6 l _)
  ·exact ih _ x hx
theorem fx (l : List Nat) : ∀ acc : Nat, maxN acc l = acc ∨ maxN acc l ∈ l := by
 induction l with
 | nil => intro acc; exact .inl rfl
 | cons y l ih =>
  intro acc
  rw [iC]
  rcases ih (max acc y) with h | h
  ·by_cases hm : acc ≤ y
   ·rw [h, Nat.max_eq_right hm]; exact .inr (List.mem_cons_self ..)
   ·rw [h, Nat.max_eq_left (by omega)]; exact .inl rfl
  ·exact .inr (List.mem_cons_of_mem _ h)
theorem mV {l : List Nat} {acc m : Nat} (ha : acc ≤ m) (h : ∀ x ∈ l, x ≤ m) : maxN acc l ≤ m := by
 rcases fx l acc with e | e
 ·rw [e]; exact ha
 ·exact h _ e
def rkN (L : List Nat) (s : Nat) : Nat := maxN 0 (L.map (fun b => pc (b &&& s)))
theorem my (L : List Nat) (s : Nat) : rkN L s ≤ pc s := by
 apply mV (Nat.zero_le _)
 intro x hx
 obtain ⟨b, _, rfl⟩ := List.mem_map.1 hx
 exact iM b s
def indN (L : List Nat) (s : Nat) : Bool := L.any (fun b => decide (subN s b))
theorem indN_iff {L : List Nat} {s : Nat} : indN L s = true ↔ ∃ b ∈ L, subN s b := by simp [indN]
theorem eZ {L : List Nat} {s : Nat} (hs : s < 256) (hL : L ≠ []) : rkN L s = pc s ↔ indN L s = true := by
 rw [indN_iff]
 constructor
 ·intro h
  unfold rkN at h
  rcases fx (L.map (fun b => pc (b &&& s))) 0 with e | e
  ·rw [e] at h
   obtain ⟨b, hb⟩ := List.exists_mem_of_ne_nil L hL
   refine ⟨b, hb, ?_⟩
   have h1 := iM b s
   have h2 : pc (b &&& s) = pc s := by omega
   have := (iI hs).1 h2
   unfold subN
   rw [Nat.and_comm]; exact this
  ·obtain ⟨b, hb, hbe⟩ := List.mem_map.1 e
   rw [h] at hbe
   refine ⟨b, hb, ?_⟩
   have := (iI hs).1 hbe
   unfold subN
   rw [Nat.and_comm]; exact this
 ·rintro ⟨b, hb, hsub⟩
  apply Nat.le_antisymm (my L s)
  have : pc (b &&& s) ∈ L.map (fun b => pc (b &&& s)) := List.mem_map.2 ⟨b, hb, rfl⟩
  have h := jN _ 0 _ this
  unfold rkN
  rw [Nat.and_comm, show s &&& b = s from hsub] at h
  exact h
def bt1 (s i : Nat) : Nat := if s.testBit i then 1 else 0
theorem fG (p : Nat → Bool) (l : List Nat) : (l.filter p).length = (l.map (fun i => if p i then 1 else 0)).sum := by
 induction l with
 | nil => rfl
 | cons x l ih =>
  rw [List.filter_cons, List.map_cons, List.sum_cons, ← ih]
  by_cases h : p x = true
  ·rw [if_pos h, if_pos h, List.length_cons]; omega
  ·rw [if_neg h, if_neg h]; omega
theorem pc_sum (s : Nat) : pc s = ((List.range 8).map (bt1 s)).sum := by
 unfold pc els bt1
 exact fG _ _
theorem ey (f g : Nat → Nat) (l : List Nat) : (l.map (fun i => f i + g i)).sum = (l.map f).sum + (l.map g).sum := by
 induction l with
 | nil => rfl
 | cons x l ih => simp only [List.map_cons, List.sum_cons, ih]; omega
theorem kx {f g : Nat → Nat} {l : List Nat} (h : ∀ i ∈ l, f i ≤ g i) : (l.map f).sum ≤ (l.map g).sum := by
 induction l with
 | nil => exact Nat.le_refl _
 | cons x l ih =>
  simp only [List.map_cons, List.sum_cons]
  have h1 := h x (List.mem_cons_self ..)
  have h2 := ih (fun i hi => h i (List.mem_cons_of_mem _ hi))
  omega
theorem fP (a b : Nat) : pc (a ||| b) + pc (a &&& b) = pc a + pc b := by
 rw [pc_sum, pc_sum, pc_sum, pc_sum, ← ey, ← ey]
 congr 1
 apply List.map_congr_left
 intro i _
 unfold bt1
 rw [Nat.testBit_or, Nat.testBit_and]
 cases a.testBit i <;> cases b.testBit i <;> rfl
theorem dv (a b : Nat) : pc (dif a b) + pc (a &&& b) = pc a := by
 rw [pc_sum, pc_sum, pc_sum, ← ey]
 congr 1
 apply List.map_congr_left
 intro i _
 unfold bt1
 rw [dif_bit, Nat.testBit_and]
 cases a.testBit i <;> cases b.testBit i <;> rfl
theorem dM {a b : Nat} (h : ∀ i, i < 8 → a.testBit i = true → b.testBit i = true) : pc a ≤ pc b := by
 rw [pc_sum, pc_sum]
 apply kx
 intro i hi
 unfold bt1
 cases ha : a.testBit i
 ·simp
 ·rw [h i (List.mem_range.1 hi) ha]; simp
theorem kF {a b : Nat} (h : subN a b) : pc a ≤ pc b := dM fun i _ hi => b8.1 h i hi
theorem jp {s i : Nat} (hi : i < 8) (h : s.testBit i = true) : 0 < pc s := by
 unfold pc
 exact List.length_pos_of_mem (ec.2 ⟨hi, h⟩)
theorem jz {s : Nat} (hs : s < 256) : pc s = 0 ↔ s = 0 := by
 constructor
 ·intro h
  apply jn hs (by omega)
  intro i hi
  rw [Nat.zero_testBit]
  cases hb : s.testBit i
  ·rfl
  ·have := jp hi hb; omega
 ·rintro rfl; exact pc_zero
theorem il {i : Nat} (hi : i < 8) : pc (2 ^ i) = 1 := by
 have : ∀ i < 8, pc (2 ^ i) = 1 := by decide +kernel
 exact this i hi
theorem gT {a b : Nat} (h : pc a < pc b) : ∃ e, e < 8 ∧ b.testBit e = true ∧ a.testBit e = false := by
 refine Classical.byContradiction fun hc => ?_
 have : pc b ≤ pc a := dM fun i hi hb => by
  cases ha : a.testBit i
  ·exact absurd ⟨i, hi, hb, ha⟩ hc
  ·rfl
 omega
theorem fy {a : Nat} (h : 0 < pc a) : ∃ e, e < 8 ∧ a.testBit e = true := by
 have : pc 0 < pc a := by rw [pc_zero]; exact h
 obtain ⟨e, h1, h2, _⟩ := gT this
 exact ⟨e, h1, h2⟩
def swp (a e f : Nat) : Nat := dif a (2 ^ e) ||| 2 ^ f
theorem swp_bit (a e f i : Nat) : (swp a e f).testBit i = ((a.testBit i && !decide (e = i)) || decide (f = i)) := by
 unfold swp
 rw [Nat.testBit_or, dif_bit, Nat.testBit_two_pow, Nat.testBit_two_pow]
theorem add_bit (a f i : Nat) : (a ||| 2 ^ f).testBit i = (a.testBit i || decide (f = i)) := by
 rw [Nat.testBit_or, Nat.testBit_two_pow]
theorem del_bit (a e i : Nat) : (dif a (2 ^ e)).testBit i = (a.testBit i && !decide (e = i)) := by
 rw [dif_bit, Nat.testBit_two_pow]
theorem eK {a f : Nat} (hf : f < 8) (h : a.testBit f = false) : pc (a ||| 2 ^ f) = pc a + 1 := by
 have h1 := fP a (2 ^ f)
 have h2 : a &&& 2 ^ f = 0 := by
  apply Nat.eq_of_testBit_eq
  intro i
  rw [Nat.testBit_and, Nat.testBit_two_pow, Nat.zero_testBit]
  by_cases hi : f = i
  ·subst hi; rw [h]; rfl
  ·simp [hi]
 rw [h2, pc_zero, il hf] at h1
 omega
theorem eU {a e : Nat} (he : e < 8) (h : a.testBit e = true) : pc (dif a (2 ^ e)) + 1 = pc a := by
 have h1 := dv a (2 ^ e)
 have h2 : a &&& 2 ^ e = 2 ^ e := by
  apply Nat.eq_of_testBit_eq
  intro i
  rw [Nat.testBit_and, Nat.testBit_two_pow]
  by_cases hi : e = i
  ·subst hi; rw [h]; rfl
  ·simp [hi]
 rw [h2, il he] at h1
 exact h1
theorem jr {a e f : Nat} (he : e < 8) (hf : f < 8) (h1 : a.testBit e = true) (h2 : a.testBit f = false) : pc (swp a e f) = pc a := by
 have hd := eU he h1
 have hb : (dif a (2 ^ e)).testBit f = false := by rw [del_bit, h2]; rfl
 have ha := eK (a := dif a (2 ^ e)) hf hb
 unfold swp
 omega
def Exch (L : List Nat) : Prop := ∀ a ∈ L, ∀ b ∈ L, ∀ e, e < 8 → a.testBit e = true → b.testBit e = false → ∃ f, f < 8 ∧ b.testBit f = true ∧ a.testBit f = false ∧ swp a e f ∈ L
structure Mat (m : Nat) (L : List Nat) : Prop where
 size : m ≤ 8
 sets : ∀ b ∈ L, b < 2 ^ m
 some : L ≠ []
 exch : Exch L
variable {m : Nat} {L : List Nat}
theorem Mat.lt (h : Mat m L) : ∀ b ∈ L, b < 256 := fun b hb => Nat.lt_of_lt_of_le (h.sets b hb) (cj h.size)
theorem Mat.equi (h : Mat m L) : ∀ (d : Nat) (a b : Nat), a ∈ L → b ∈ L → pc (dif a b) = d → pc a = pc b := by
 intro d
 induction d with
 | zero =>
  intro a b ha hb hd
  have hab : ∀ i, i < 8 → a.testBit i = true → b.testBit i = true := by
   intro i hi hai
   cases hbi : b.testBit i
   ·have : 0 < pc (dif a b) := jp hi (by rw [dif_bit, hai, hbi]; rfl)
    omega
   ·rfl
  refine Nat.le_antisymm (dM hab) (dM fun i hi hbi => ?_)
  cases hai : a.testBit i
  ·obtain ⟨f, hf, h1, h2, _⟩ := h.exch b hb a ha i hi hbi hai
   rw [hab f hf h1] at h2
   exact h2.symm
  ·rfl
 | succ d ih =>
  intro a b ha hb hd
  obtain ⟨e, he, hde⟩ := fy (a := dif a b) (by omega)
  rw [dif_bit] at hde
  simp only [Bool.and_eq_true, Bool.not_eq_true'] at hde
  obtain ⟨f, hf, h1, h2, hm⟩ := h.exch a ha b hb e he hde.1 hde.2
  have hs := ih (swp a e f) b hm hb (by
   have e1 : dif (swp a e f) b = dif (dif a b) (2 ^ e) := by
    apply Nat.eq_of_testBit_eq
    intro i
    rw [dif_bit, swp_bit, del_bit, dif_bit]
    by_cases hi : f = i
    ·subst hi; rw [h1, h2]; simp
    ·simp [hi]
     cases a.testBit i <;> cases b.testBit i <;> simp
   rw [e1]
   have := eU (a := dif a b) he (by rw [dif_bit, hde.1, hde.2]; rfl)
   omega)
  rw [jr he hf hde.1 h2] at hs
  exact hs
theorem Mat.card (h : Mat m L) {a b : Nat} (ha : a ∈ L) (hb : b ∈ L) : pc a = pc b := h.equi _ a b ha hb rfl
theorem eT (A : Option Addr) (x y c : Nat) : (Value.slice A x c).ownBlock = (Value.slice A y c).ownBlock := by cases A <;> rfl
def idxO (g : Int → Option Bool) : List Int → Nat → Option Int
 | [], _ => some (-1)
 | x :: xs, i => (g x).bind fun b => if b = true then some (i : Int) else idxO g xs (i + 1)
def anyO (g : Int → Option Bool) : List Int → Option Bool
 | [] => some false
 | x :: xs => (g x).bind fun b => if b = true then some true else anyO g xs
theorem lL (g : Int → Option Bool) : ∀ (l : List Int) (i : Nat) (b : Bool), anyO g l = some b → ∃ r, idxO g l i = some r ∧ decide (r ≥ 0) = b := by
 intro l
 induction l with
 | nil => intro i b h; simp only [anyO, Option.some.injEq] at h; subst h; exact ⟨-1, rfl, rfl⟩
 | cons x xs ih =>
  intro i b h
  simp only [anyO] at h
  obtain ⟨y, hy, h⟩ := Option.bind_eq_some_iff.1 h
  simp only [idxO, hy, Option.bind_some]
  by_cases hb : y = true
  ·rw [if_pos hb] at h ⊢
   simp only [Option.some.injEq] at h
   exact ⟨(i : Int), rfl, by rw [← h]; simp⟩
  ·rw [if_neg hb] at h ⊢
   exact ih (i + 1) b h
theorem mA {g g' : Int → Option Bool} (h : ∀ x, LeO (g x) (g' x)) : ∀ l, LeO (anyO g l) (anyO g' l) := by
 intro l
 induction l with
 | nil => exact LeO.refl _
 | cons x xs ih => exact LeO.bind (h x) (fun b => LeO.ite (LeO.refl _) ih)
theorem mG {g : Nat → Int → Option Bool} {p : Int → Bool} : ∀ {l : List Int}, (∀ x ∈ l, Ev (fun k => g k x) (p x)) → Ev (fun k => anyO (g k) l) (l.any p) := by
 intro l
 induction l with
 | nil => intro _; exact Ev.now _
 | cons x l ih =>
  intro h
  simp only [anyO, List.any_cons]
  refine Ev.bind (h x (List.mem_cons_self ..)) ?_
  by_cases hp : p x = true
  ·refine Ev.ifp hp ?_
   rw [hp, Bool.true_or]; exact Ev.now _
  ·refine Ev.ifn hp ?_
   rw [Bool.eq_false_iff.2 hp, Bool.false_or]
   exact ih (fun y hy => h y (List.mem_cons_of_mem _ hy))
theorem eS (l : List Int) (x : Int) (h0 : 0 ≤ x) (h1 : x < (l.length : Int)) : l.drop x.toNat = rd l x :: l.drop (x + 1).toNat := by
 obtain ⟨i, rfl⟩ := Int.eq_ofNat_of_zero_le h0
 have hi : i < l.length := by omega
 rw [Int.toNat_natCast, show ((i : Int) + 1).toNat = i + 1 from by omega, bQ l i hi, cf l i hi]
theorem dP (l : List Int) (x : Int) (h1 : ¬ x < (l.length : Int)) : l.drop x.toNat = [] := List.drop_eq_nil_of_le (by omega)
end Go.Proofs.YtimkekeaeojpkaaGreat.Z
namespace Go.Proofs.YtimkekeaeojpkaaGreat.Z
open Go Go.RowKit Go.Sort Go.Proofs.YtimkekeaeojpkaaGreatW.PrintWords Go.Proofs.YtimkekeaeojpkaaGreatW.PrintMore
theorem ms {w : World} {g : Nat} {cur : Array Value} {e : TypeId} (h : w.heap[g]? = some (.cells cur e (0, 0))) (n : Nat) (d : Array Int) (os : Array Obj) :
  (grow (putRow (Value.int .i64) (Sort.ahead w n) g 0 d) os).heap[g]? = some (.cells (putCells (Value.int .i64) 0 d cur) e (0, 0)) := by
 have hlt : g < w.heap.size := by
  refine Classical.byContradiction fun hc => ?_
  rw [Array.getElem?_eq_none (by omega)] at h; cases h
 rw [heap_grow_old _ _ (by rw [size_putRow]; exact hlt)]
 show ((Sort.ahead w n).heap.modify g (onCells (putCells (Value.int .i64) 0 d)))[g]? = _
 rw [Array.getElem?_modify, if_pos rfl]
 show Option.map _ (w.heap[g]?) = _
 rw [h]; rfl
theorem gu {w : World} {g k : Nat} (hk : k ≠ g) (hlt : k < w.heap.size) (n : Nat) (d : Array Int) (os : Array Obj) :
  (grow (putRow (Value.int .i64) (Sort.ahead w n) g 0 d) os).heap[k]? = w.heap[k]? := by
 rw [heap_grow_old _ _ (by rw [size_putRow]; exact hlt)]
 show ((Sort.ahead w n).heap.modify g (onCells (putCells (Value.int .i64) 0 d)))[k]? = _
 rw [Array.getElem?_modify, if_neg (fun h => hk h.symm)]; rfl
theorem iH {B : Nat} {w0 w : World} {g : Nat} (h : Below B w0 w) (hg : B ≤ g) (hB : B ≤ w.heap.size) (n : Nat) (d : Array Int) (os : Array Obj) : Below B w0 (grow (putRow (Value.int .i64) (Sort.ahead w n) g 0 d) os) := by
 refine ⟨h.os, h.tape, h.output, ?_, fun k hk => ?_⟩
 ·rw [size_grow, size_putRow]
  have := h.size
  show w0.heap.size ≤ w.heap.size + os.size
  omega
 ·rw [gu (by omega) (by omega)]; exact h.block k hk
theorem iX {R : Int → List Value → Prop} (hR : ∀ p c, R p c ↔ c = [Value.int .i64 p]) : ∀ (xs : List Int) (cs : List Value), Reps R 1 xs cs ↔ cs = xs.map (Value.int .i64) := by
 intro xs cs
 constructor
 ·rintro ⟨h1, h2⟩
  apply List.ext_getElem
  ·rw [h1, List.length_map]; omega
  ·intro i k1 k2
   have hi : i < xs.length := by simpa using k2
   have h3 := (hR _ _).1 (h2 i xs[i] (List.getElem?_eq_getElem hi))
   rw [Nat.mul_one, List.drop_eq_getElem_cons k1] at h3
   simp only [List.take_succ_cons, List.take_zero, List.cons.injEq, and_true] at h3
   rw [h3, List.getElem_map]
 ·rintro rfl
  refine ⟨by rw [List.length_map]; omega, fun j p hp => (hR _ _).2 ?_⟩
  obtain ⟨hj, rfl⟩ := List.getElem?_eq_some_iff.1 hp
  rw [Nat.mul_one, List.drop_eq_getElem_cons (by rw [List.length_map]; exact hj)]
  simp
theorem i9 {e : Nat} {w : World} {base : Nat} {ok : Nat → Prop} {v : Value} {xs : List Int} :
  Kd.R (Kd.int .i64) e w base ok v xs ↔ (∀ k, v.ownBlock = some k → ok k) ∧ w.ownsRow base e 1 v xs.length (xs.map (Value.int .i64)) := by
 constructor
 ·rintro ⟨h0, inner, ho, hr⟩
  refine ⟨h0, ?_⟩
  rw [← (iX (fun p c => Iff.rfl) xs inner).1 hr]; exact ho
 ·rintro ⟨h0, ho⟩
  exact ⟨h0, _, ho, (iX (fun p c => Iff.rfl) xs _).2 rfl⟩
theorem l9 {d : Array Int} {cur : Array Value} (h : d.size ≤ cur.size) : (putCells (Value.int .i64) 0 d cur).toList.take d.size = d.toList.map (Value.int .i64) := by
 apply List.ext_getElem
 ·simp [putCells]; omega
 ·intro i h1 h2
  have hi : i < d.size := by simpa using h2
  simp [putCells, hi]
theorem mR {e : Nat} {w : World} {base : Nat} {ok : Nat → Prop} {A : Option Addr} {c : Nat} {xs : List Int} (h : Kd.R (Kd.int .i64) e w base ok (.slice A xs.length c) xs) :
  (A = none ∧ xs = []) ∨ ∃ g, A = some ⟨g, 0, none⟩ ∧ base ≤ g ∧ g < w.heap.size ∧ xs.length ≤ c := by
 obtain ⟨_, h1, h2⟩ := i9.1 h
 rcases h2 with ⟨hv, hn⟩ | ⟨g, cap, cur, hv, hg, hh, hc, _⟩
 ·injection hv with h3
  exact .inl ⟨h3, List.length_eq_zero_iff.1 hn⟩
 ·injection hv with h3 _ h4
  refine .inr ⟨g, h3, hg, ?_, by omega⟩
  refine Classical.byContradiction fun hcn => ?_
  rw [Array.getElem?_eq_none (by omega)] at hh; cases hh
theorem mH {e : Nat} {w : World} {base : Nat} {ok : Nat → Prop} {g c : Nat} {xs : List Int} (h : Kd.R (Kd.int .i64) e w base ok (.slice (some ⟨g, 0, none⟩) xs.length c) xs) : Holds (Value.int .i64) w g 0 xs.toArray := by
 obtain ⟨_, h1, h2⟩ := i9.1 h
 rcases h2 with ⟨hv, _⟩ | ⟨g', cap, cur, hv, hg, hh, hc, _, hs, ht⟩
 ·cases hv
 ·injection hv with h3 _ h4
  injection h3 with h3
  injection h3 with h3
  subst h3
  intro j hj
  have hj' : j < xs.length := by simpa using hj
  rw [ac hh, aH hh, Nat.zero_add]
  refine ⟨?_, rfl⟩
  have h5 : cur.toList[j]? = some (Value.int .i64 xs[j]) := by
   have := congrArg (fun l : List Value => l[j]?) ht
   simp only [Nat.mul_one] at this
   rw [List.getElem?_take_of_lt hj'] at this
   rw [this]; simp [hj']
  rw [← Array.getElem?_toList, h5]
  simp [hj']
theorem k8 {e : Nat} {w : World} {base : Nat} {ok : Nat → Prop} {g c : Nat} {xs ys : List Int} (h : Kd.R (Kd.int .i64) e w base ok (.slice (some ⟨g, 0, none⟩) xs.length c) xs) (hy : ys.length = xs.length) (n : Nat) (os : Array Obj) :
  Kd.R (Kd.int .i64) e (grow (putRow (Value.int .i64) (Sort.ahead w n) g 0 ys.toArray) os) base ok (.slice (some ⟨g, 0, none⟩) ys.length c) ys := by
 obtain ⟨h0, h1, h2⟩ := i9.1 h
 refine i9.2 ⟨fun k hk => h0 k hk, by rw [List.length_map]; omega, .inr ?_⟩
 rcases h2 with ⟨hv, _⟩ | ⟨g', cap, cur, hv, hg, hh, hc, hm, hs, ht⟩
 ·cases hv
 ·injection hv with h3 _ h4
  injection h3 with h3
  injection h3 with h3
  subst h3
  subst h4
  refine ⟨g, c, _, rfl, hg, ms hh n ys.toArray os, by omega, hm, ?_, ?_⟩
  ·rw [← hs]; simp [putCells]
  ·have := l9 (d := ys.toArray) (cur := cur) (by simp; omega)
   simpa using this
theorem kQ {e : Nat} {w : World} {base : Nat} {ok : Nat → Prop} {g c : Nat} {xs ys : List Int} (h : Kd.R (Kd.int .i64) e w base ok (.slice (some ⟨g, 0, none⟩) xs.length c) xs) (hy : ys.length = xs.length) (n : Nat) :
  Kd.R (Kd.int .i64) e (putRow (Value.int .i64) (Sort.ahead w n) g 0 ys.toArray) base ok (.slice (some ⟨g, 0, none⟩) ys.length c) ys := by
 have := k8 h hy n #[]
 rwa [grow_empty] at this
theorem kf {B : Nat} {w0 w : World} {g : Nat} (h : Below B w0 w) (hg : B ≤ g) (hB : B ≤ w.heap.size) (n : Nat) (d : Array Int) : Below B w0 (putRow (Value.int .i64) (Sort.ahead w n) g 0 d) := by
 have := iH h hg hB n d #[]
 rwa [grow_empty] at this
end Go.Proofs.YtimkekeaeojpkaaGreat.Z
namespace Go.Proofs.YtimkekeaeojpkaaGreat.Z
open Go Go.RowKit
section
variable {α : Type} (f : α → Int)
def insF (k : α) : List α → List α
 | [] => [k]
 | x :: xs => if f x < f k then k :: x :: xs else x :: insF k xs
def fU (lt : α → α → Bool) (x : α) : List α → List α
 | [] => [x]
 | y :: ys => if lt x y = true then y :: fU lt x ys else x :: y :: ys
theorem insF_len (k : α) : ∀ l : List α, (insF f k l).length = l.length + 1 := by
 intro l
 induction l with
 | nil => rfl
 | cons x l ih =>
  simp only [insF]
  by_cases h : f x < f k
  ·rw [if_pos h]; rfl
  ·rw [if_neg h, List.length_cons, ih]; rfl
theorem i8 {k y : α} (h : f y < f k) : ∀ l : List α, insF f k (l ++ [y]) = insF f k l ++ [y] := by
 intro l
 induction l with
 | nil => simp only [List.nil_append, insF]; rw [if_pos h]; rfl
 | cons x l ih =>
  simp only [List.cons_append, insF]
  by_cases hx : f x < f k
  ·rw [if_pos hx, if_pos hx]; rfl
  ·rw [if_neg hx, if_neg hx, ih]; rfl
theorem mo {k : α} : ∀ l : List α, (∀ x ∈ l, ¬ f x < f k) → insF f k l = l ++ [k] := by
 intro l
 induction l with
 | nil => intro _; rfl
 | cons x l ih =>
  intro h
  simp only [insF]
  rw [if_neg (h x (List.mem_cons_self ..)), ih (fun y hy => h y (List.mem_cons_of_mem _ hy))]; rfl
theorem jY (k a : α) : ∀ l : List α, a ∈ insF f k l ↔ a = k ∨ a ∈ l := by
 intro l
 induction l with
 | nil => simp [insF]
 | cons x l ih =>
  simp only [insF]
  by_cases h : f x < f k
  ·rw [if_pos h, List.mem_cons]
  ·rw [if_neg h, List.mem_cons, ih, List.mem_cons]
   constructor
   ·rintro (h' | h' | h')
    ·exact .inr (.inl h')
    ·exact .inl h'
    ·exact .inr (.inr h')
   ·rintro (h' | h' | h')
    ·exact .inr (.inl h')
    ·exact .inl h'
    ·exact .inr (.inr h')
theorem lA (k : α) : ∀ l : List α, l.Pairwise (fun a b => f b ≤ f a) → (insF f k l).Pairwise (fun a b => f b ≤ f a) := by
 intro l
 induction l with
 | nil => intro _; simp [insF]
 | cons x l ih =>
  intro hl
  have hl' := hl
  rw [List.pairwise_cons] at hl
  simp only [insF]
  by_cases h : f x < f k
  ·rw [if_pos h, List.pairwise_cons]
   refine ⟨fun b hb => ?_, hl'⟩
   rcases List.mem_cons.1 hb with rfl | hb
   ·omega
   ·have := hl.1 b hb; omega
  ·rw [if_neg h, List.pairwise_cons]
   refine ⟨fun b hb => ?_, ih hl.2⟩
   rcases (jY f k b l).1 hb with rfl | hb
   ·omega
   ·exact hl.1 b hb
theorem jX (k : α) : ∀ (n : Nat) (l : List α), l.length = n → l.Pairwise (fun a b => f b ≤ f a) → (fU (fun x y => decide (f y < f x)) k l.reverse).reverse = insF f k l := by
 intro n
 induction n with
 | zero =>
  intro l hn _
  rw [List.length_eq_zero_iff.1 hn]; rfl
 | succ n ih =>
  intro l hn hl
  have hne : l ≠ [] := fun h => by rw [h] at hn; simp at hn
  obtain ⟨l', y, rfl⟩ : ∃ l' y, l = l' ++ [y] := ⟨l.dropLast, l.getLast hne, (List.dropLast_concat_getLast hne).symm⟩
  rw [List.pairwise_append] at hl
  have hn' : l'.length = n := by simpa using hn
  rw [List.reverse_append]
  simp only [List.reverse_cons, List.reverse_nil, List.nil_append, List.cons_append, fU]
  by_cases h : f y < f k
  ·rw [if_pos (decide_eq_true h), List.reverse_cons, ih l' hn' hl.1, i8 f h]
  ·rw [if_neg (by simpa using h), List.reverse_cons, List.reverse_cons, List.reverse_reverse, mo]
   ·intro x hx
    rcases List.mem_append.1 hx with hx | hx
    ·have := hl.2.2 x hx y (List.mem_singleton.2 rfl)
     omega
    ·rw [List.mem_singleton.1 hx]; exact h
variable [Inhabited α]
theorem gS (d : Array α) (i : Nat) (h : i < d.size) : d[i]! = d.toList[i]'(by simpa using h) := by
 rw [getElem!_pos d i h]; rfl
theorem iw (lt : α → α → Bool) (x : α) : ∀ (ys rest : List α) (d : Array α), d.toList = ys.reverse ++ x :: rest → (Sort.insInner lt 0 ys.length d).toList = (fU lt x ys).reverse ++ rest := by
 intro ys
 induction ys with
 | nil =>
  intro rest d h
  simp only [List.length_nil, Sort.insInner, fU]
  simpa using h
 | cons y ys ih =>
  intro rest d h
  have hsz : d.size = ys.length + 1 + (rest.length + 1) := by
   rw [← Array.length_toList, h]; simp; omega
  have hx : d[ys.length + 1]! = x := by
   rw [gS d _ (by omega)]
   simp only [h]
   rw [List.getElem_append_right (by simp)]
   simp
  have hy : d[ys.length]! = y := by
   rw [gS d _ (by omega)]
   simp only [h]
   rw [List.getElem_append_left (by simp)]
   simp
  simp only [List.length_cons, Sort.insInner, fU]
  rw [hx, hy]
  by_cases hl : lt x y = true
  ·rw [if_pos (by simp [hl]), if_pos hl]
   have hsw : (Sort.swp d (ys.length + 1) ys.length).toList = ys.reverse ++ x :: (y :: rest) := by
    unfold Sort.swp
    rw [hx, hy, Array.toList_setIfInBounds, Array.toList_setIfInBounds, h]
    rw [show (y :: ys).reverse ++ x :: rest = ys.reverse ++ y :: x :: rest from by simp]
    rw [List.set_append_right _ _ (by simp), List.set_append_right _ _ (by simp)]
    simp
   rw [ih (y :: rest) _ hsw]
   simp
  ·rw [if_neg (by simp [hl]), if_neg hl]
   rw [h]; simp
theorem iv (l : List α) : ∀ (n i : Nat) (d : Array α), l.length - i = n → i ≤ l.length → d.toList = (l.take i).foldl (fun out k => insF f k out) [] ++ l.drop i → (Sort.insOuter (fun x y => decide (f y < f x)) 0 l.length i d).toList = l.foldl (fun out k => insF f k out) [] := by
 have hlen : ∀ i, i ≤ l.length → ((l.take i).foldl (fun out k => insF f k out) []).length = i ∧ ((l.take i).foldl (fun out k => insF f k out) []).Pairwise (fun a b => f b ≤ f a) := by
  intro i
  induction i with
  | zero => intro _; simp
  | succ i ih =>
   intro hi
   obtain ⟨h1, h2⟩ := ih (by omega)
   rw [dT l i (by omega), List.foldl_append, List.foldl_cons, List.foldl_nil]
   exact ⟨by rw [insF_len, h1], lA f _ _ h2⟩
 intro n
 induction n with
 | zero =>
  intro i d hn hi h
  rw [Sort.insOuter, if_neg (by omega), h, show i = l.length from by omega, List.take_length, List.drop_length, List.append_nil]
 | succ n ih =>
  intro i d hn hi h
  have hlt : i < l.length := by omega
  rw [Sort.insOuter, if_pos hlt]
  obtain ⟨h1, h2⟩ := hlen i hi
  refine ih (i + 1) _ (by omega) (by omega) ?_
  rw [bQ l i hlt] at h
  have e : (l.take (i + 1)).foldl (fun out k => insF f k out) [] = insF f l[i] ((l.take i).foldl (fun out k => insF f k out) []) := by
   rw [dT l i hlt, List.foldl_append]; rfl
  rw [e]
  generalize ((l.take i).foldl (fun out k => insF f k out) []) = F at h h1 h2 ⊢
  have h3 := iw (fun x y => decide (f y < f x)) l[i] F.reverse (l.drop (i + 1)) d (by rw [List.reverse_reverse]; exact h)
  rw [List.length_reverse, h1] at h3
  rw [h3, jX f l[i] F.length F rfl h2]
theorem fq (l : List α) : (Sort.insertionSort (fun x y => decide (f y < f x)) l.toArray 0 l.length).toList = l.foldl (fun out k => insF f k out) [] := by
 unfold Sort.insertionSort
 cases l with
 | nil => rw [Sort.insOuter, if_neg (by simp)]; rfl
 | cons x l =>
  refine iv f (x :: l) _ 1 _ rfl (by simp) ?_
  simp [insF]
end
end Go.Proofs.YtimkekeaeojpkaaGreat.Z
namespace Go.Proofs.YtimkekeaeojpkaaGreat.Z
open Go Go.RowKit Go.Sort Go.Proofs.YtimkekeaeojpkaaGreatW.PrintWords Go.Proofs.YtimkekeaeojpkaaGreatW.PrintMore
def cF (wl : List Int) (x : Int) : Int := if 0 ≤ x ∧ x < (wl.length : Int) then x else 0
def gCf (wl : List Int) (x y : Int) : Int := wrap64 (rd wl (cF wl y) - rd wl (cF wl x))
def fk (wl : List Int) : Prop := ∀ v ∈ wl, -4611686018427387903 ≤ v ∧ v ≤ 4611686018427387903
theorem gU {wl : List Int} (h : wl ≠ []) (x : Int) : 0 ≤ cF wl x ∧ cF wl x < (wl.length : Int) := by
 unfold cF
 have := List.length_pos_iff.2 h
 split <;> omega
theorem fC {wl : List Int} {x : Int} (h : 0 ≤ x ∧ x < (wl.length : Int)) : cF wl x = x := if_pos h
theorem gRd {wl : List Int} (hs : fk wl) (h : wl ≠ []) (x : Int) : -4611686018427387903 ≤ rd wl (cF wl x) ∧ rd wl (cF wl x) ≤ 4611686018427387903 := by
 obtain ⟨h0, h1⟩ := gU h x
 obtain ⟨i, hi⟩ := Int.eq_ofNat_of_zero_le h0
 rw [hi] at h1 ⊢
 rw [cf wl i (by omega)]
 exact hs _ (List.getElem_mem _)
theorem gLt {wl : List Int} (hs : fk wl) (h : wl ≠ []) : Go.Proofs.ltOf (gCf wl) = fun x y => decide (rd wl (cF wl y) < rd wl (cF wl x)) := by
 funext x y
 unfold Go.Proofs.ltOf gCf
 have h1 := gRd hs h x
 have h2 := gRd hs h y
 rw [be (by omega) (by omega), Bool.eq_iff_iff, decide_eq_true_eq, decide_eq_true_eq]
 omega
theorem go (wl : List Int) (w : World) (g : Nat) (d : Array Int) : putRow (fun x => Value.int .i64 (cF wl x)) w g 0 d = putRow (Value.int .i64) w g 0 (d.map (cF wl)) := by
 unfold putRow
 congr 1
 funext c
 unfold putCells
 congr 1
 funext k x
 rw [Array.size_map]
 by_cases h : 0 ≤ k ∧ k < 0 + d.size
 ·rw [if_pos h, if_pos h, getElem!_pos d (k - 0) (by omega), getElem!_pos (d.map (cF wl)) (k - 0) (by rw [Array.size_map]; omega), Array.getElem_map]
 ·rw [if_neg h, if_neg h]
theorem lM {wl xs : List Int} (hx : ∀ x ∈ xs, 0 ≤ x ∧ x < (wl.length : Int)) : ∀ y ∈ xs.foldl (fun out k => insF (fun x => rd wl (cF wl x)) k out) [], 0 ≤ y ∧ y < (wl.length : Int) := by
 have h : ∀ (ys acc : List Int), (∀ x ∈ ys, 0 ≤ x ∧ x < (wl.length : Int)) → (∀ x ∈ acc, 0 ≤ x ∧ x < (wl.length : Int)) → ∀ y ∈ ys.foldl (fun out k => insF (fun x => rd wl (cF wl x)) k out) acc, 0 ≤ y ∧ y < (wl.length : Int) := by
  intro ys
  induction ys with
  | nil => intro acc _ ha; exact ha
  | cons y ys ih =>
   intro acc h1 h2
   refine ih _ (fun x hx => h1 x (List.mem_cons_of_mem _ hx)) (fun x hx => ?_)
   rcases (jY _ y x acc).1 hx with rfl | hx
   ·exact h1 _ (List.mem_cons_self ..)
   ·exact h2 _ hx
 exact h xs [] hx (fun _ h => absurd h List.not_mem_nil)
theorem mj {wl : List Int} : ∀ (ys acc : List Int), (ys.foldl (fun out k => insF (fun x => rd wl (cF wl x)) k out) acc).length = acc.length + ys.length := by
 intro ys
 induction ys with
 | nil => intro acc; rfl
 | cons y ys ih => intro acc; rw [List.foldl_cons, ih, insF_len, List.length_cons]; omega
def gOrd (wl xs : List Int) : List Int := xs.foldl (fun out k => insF (fun x => rd wl (cF wl x)) k out) []
theorem ig (wl xs : List Int) : (gOrd wl xs).length = xs.length := by unfold gOrd; rw [mj]; simp
theorem mC {wl xs : List Int} (hs : fk wl) (h : wl ≠ []) (hx : ∀ x ∈ xs, 0 ≤ x ∧ x < (wl.length : Int)) (w : World) (g : Nat) :
  putRow (fun x => Value.int .i64 (cF wl x)) w g 0 (Sort.insertionSort (Go.Proofs.ltOf (gCf wl)) xs.toArray 0 xs.length) = putRow (Value.int .i64) w g 0 (gOrd wl xs).toArray := by
 rw [go, gLt hs h]
 congr 1
 have e := fq (fun x => rd wl (cF wl x)) xs
 apply Array.toList_inj.1
 rw [Array.toList_map, e]
 show (gOrd wl xs).map (cF wl) = gOrd wl xs
 have hc := lM hx
 have e2 : ∀ l : List Int, (∀ y ∈ l, 0 ≤ y ∧ y < (wl.length : Int)) → l.map (cF wl) = l := by
  intro l hl
  induction l with
  | nil => rfl
  | cons y l ih => rw [List.map_cons, fC (hl y (List.mem_cons_self ..)), ih (fun z hz => hl z (List.mem_cons_of_mem _ hz))]
 exact e2 _ hc
end Go.Proofs.YtimkekeaeojpkaaGreat.Z
