/- Plain facts on numbers, sets and lists that the law FnExactAllCuts leans on. Conditions: those in each lemma. -/
import Derived.Laws.BitsLemmas
import Derived.Shelf.SlSortCmp.Whole1
import Derived.Sort.Grow
import Derived.Sort.Statements
import Derived.Test.YtbdloopelidneaaMFnExactAllCutswApart
import Derived.Test.YtbdloopelidneaaMFnExactAllCutswKept
import Derived.Test.YtbdloopelidneaaMFnExactAllCutswMore
import Derived.Test.YtbdloopelidneaaMFnExactAllCutswN
import Derived.Test.YtbdloopelidneaaMFnExactAllCutswWords
namespace Go.Proofs.Ytbdloopelidneaa.Z
open Go Go.RowKit Go.Proofs.YtbdloopelidneaaW.PrintWords Go.Proofs.YtbdloopelidneaaW.PrintMore
/-! ### Ev: from some number of rounds on -/
theorem Ev.at {α : Type} {g : Nat → Option α} {r : α} (h : Ev g r) : ∃ K, ∀ k, K ≤ k → g k = some r := h
theorem Ev.ifp {α : Type} {c : Prop} [Decidable c] {g f : Nat → Option α} {r : α} (hc : c) (h : Ev g r) : Ev (fun k => if c then g k else f k) r := by
  simpa only [if_pos hc] using h
theorem Ev.ifn {α : Type} {c : Prop} [Decidable c] {g f : Nat → Option α} {r : α} (hc : ¬ c) (h : Ev f r) : Ev (fun k => if c then g k else f k) r := by
  simpa only [if_neg hc] using h
theorem Ev.cbind {α β : Type} {g : Option α} {f : Nat → α → Option β} {a : α} {r : β} (h : g = some a) (k : Ev (fun n => f n a) r) : Ev (fun n => g.bind (f n)) r := by
  subst h
  simpa only [Option.bind_some] using k
/-! ### wrap64, u64 -/
theorem wrap64_of {n : Int} (h0 : -9223372036854775808 ≤ n) (h1 : n < 9223372036854775808) : wrap64 n = n := by unfold wrap64; omega
theorem u64_of {n : Int} (h0 : 0 ≤ n) (h1 : n < 18446744073709551616) : IntKind.u64.wrap n = n := by
  simp [IntKind.wrap, IntKind.bits, IntKind.signed]
  omega
theorem u64_nonneg (n : Int) : 0 ≤ IntKind.u64.wrap n := by
  simp [IntKind.wrap, IntKind.bits, IntKind.signed]
  omega
/-! ### reading a list -/
theorem rd_mid (pre : List Int) (x : Int) (rest : List Int) : rd (pre ++ x :: rest) (pre.length : Int) = x := by
  simp [rd]
theorem rd_getElem (l : List Int) (i : Nat) (h : i < l.length) : rd l (i : Int) = l[i] := by simp [rd, h]
/-- Numbers told as whole numbers. -/
def ints (L : List Nat) : List Int := L.map (fun x : Nat => (x : Int))
theorem toNat_map (L : List Nat) : (L.map (fun x : Nat => (x : Int))).map Int.toNat = L := by
  rw [List.map_map]
  conv => rhs; rw [← List.map_id L]
  exact List.map_congr_left (fun x _ => Int.toNat_natCast x)
theorem range'_cons' {i n : Nat} (h : i < n) : List.range' i (n - i) = i :: List.range' (i + 1) (n - (i + 1)) := by
  rw [show n - i = (n - (i + 1)) + 1 from by omega, List.range'_succ]
/-! ### going through a loop -/
/-- Downward: what holds at the end, and goes from i + 1 to i, holds at the start. -/
theorem down {P : Nat → Prop} (n : Nat) (hend : P n) (hstep : ∀ i, i < n → P (i + 1) → P i) : P 0 := by
  have h : ∀ d, d ≤ n → P (n - d) := by
    intro d
    induction d with
    | zero => intro _; exact hend
    | succ d ih =>
      intro hd
      apply hstep (n - (d + 1)) (by omega)
      rw [show n - (d + 1) + 1 = n - d from by omega]
      exact ih (by omega)
  have := h n (Nat.le_refl _)
  rwa [Nat.sub_self] at this
theorem w_succ {i n : Nat} (h : i < n) (hn : n ≤ 17592186044416) : wrap64 ((i : Int) + 1) = ((i + 1 : Nat) : Int) := by
  rw [wrap64_of (by omega) (by omega)]; rfl
theorem drop_cons {α : Type} (l : List α) (i : Nat) (h : i < l.length) : l.drop i = l[i] :: l.drop (i + 1) := List.drop_eq_getElem_cons h
theorem drop_end {α : Type} (l : List α) : l.drop l.length = [] := List.drop_length
end Go.Proofs.Ytbdloopelidneaa.Z
namespace Go.Proofs.Ytbdloopelidneaa.Z
open Go Go.RowKit Go.Proofs.YtbdloopelidneaaW.PrintWords Go.Proofs.YtbdloopelidneaaW.PrintMore
theorem i64_wrap_nat {n : Nat} (h : n < 9223372036854775808) : IntKind.i64.wrap (n : Int) = (n : Int) := by
  rw [IntKind.wrap_i64]; omega
theorem i64_keep (n : Int) (h0 : 0 ≤ n) (h1 : n < 2 ^ 63) : IntKind.i64.wrap n = n := by
  rw [IntKind.wrap_i64]; omega
theorem and_nat {a b : Nat} (ha : a < 2 ^ 63) (hb : b < 2 ^ 63) : Go.bits .and .i64 (a : Int) (b : Int) = ((a &&& b : Nat) : Int) := (bits_nat .i64 63 (by decide) i64_keep a b ha hb).1
theorem or_nat {a b : Nat} (ha : a < 2 ^ 63) (hb : b < 2 ^ 63) : Go.bits .or .i64 (a : Int) (b : Int) = ((a ||| b : Nat) : Int) := (bits_nat .i64 63 (by decide) i64_keep a b ha hb).2
/-- The difference of two sets. -/
def dif (a b : Nat) : Nat := a ^^^ (a &&& b)
theorem dif_bit (a b i : Nat) : (dif a b).testBit i = (a.testBit i && !b.testBit i) := by
  simp only [dif, Nat.testBit_xor, Nat.testBit_and]
  cases a.testBit i <;> cases b.testBit i <;> rfl
theorem andNot_nat {a b : Nat} (ha : a < 2 ^ 63) (hb : b < 2 ^ 63) : Go.bits .andNot .i64 (a : Int) (b : Int) = ((dif a b : Nat) : Int) := by
  have e1 : a % 2 ^ IntKind.i64.bits = a := Nat.mod_eq_of_lt (Nat.lt_of_lt_of_le ha (by decide))
  have e2 : b % 2 ^ IntKind.i64.bits = b := Nat.mod_eq_of_lt (Nat.lt_of_lt_of_le hb (by decide))
  have key : a &&& (2 ^ IntKind.i64.bits - 1 - b) = dif a b := by
    apply Nat.eq_of_testBit_eq
    intro i
    have hb' : (2 ^ IntKind.i64.bits - 1 - b).testBit i = (decide (i < 64) && !b.testBit i) := by
      have : 2 ^ IntKind.i64.bits - 1 - b = 2 ^ 64 - (b + 1) := by
        show 2 ^ 64 - 1 - b = 2 ^ 64 - (b + 1)
        omega
      rw [this, Nat.testBit_two_pow_sub_succ (Nat.lt_of_lt_of_le hb (by decide))]
    rw [dif_bit, Nat.testBit_and, hb']
    by_cases hi : i < 64
    · simp [hi]
    · have : a.testBit i = false := Nat.testBit_lt_two_pow (Nat.lt_of_lt_of_le ha (Nat.pow_le_pow_right (by decide) (by omega)))
      simp [this]
  have hlt : dif a b < 9223372036854775808 := Nat.xor_lt_two_pow ha (Nat.and_lt_two_pow _ hb)
  simp only [Go.bits, BitVec.ofInt_natCast, BitVec.toNat_and, BitVec.toNat_not, BitVec.toNat_ofNat, e1, e2]
  rw [key]
  exact i64_wrap_nat hlt
theorem shl_one {y : Nat} (h : y < 63) : shl .i64 1 (y : Int) = ((2 ^ y : Nat) : Int) := by
  unfold shl
  have : min (y : Int).toNat IntKind.i64.bits = y := by simp [IntKind.bits]; omega
  rw [this]
  have h2 : (2 ^ y : Nat) < 9223372036854775808 := by
    have := Nat.pow_lt_pow_right (a := 2) (by decide) h
    simpa using this
  have h3 : (1 : Int) * 2 ^ y = ((2 ^ y : Nat) : Int) := by simp
  rw [h3]
  exact i64_wrap_nat h2
theorem shr_nat {a y : Nat} (ha : a < 2 ^ 63) : shr .i64 (a : Int) (y : Int) = ((a >>> y : Nat) : Int) := by
  unfold shr
  rw [Int.toNat_natCast, Nat.shiftRight_eq_div_pow]
  simp only [IntKind.bits]
  by_cases h : y ≤ 64
  · rw [Nat.min_eq_left h]; simp
  · rw [Nat.min_eq_right (by omega)]
    have h1 : a / 2 ^ y = 0 := Nat.div_eq_of_lt (Nat.lt_of_lt_of_le ha (Nat.pow_le_pow_right (by decide) (by omega)))
    rw [h1]
    have h2 : a / 2 ^ 64 = 0 := Nat.div_eq_of_lt (Nat.lt_of_lt_of_le ha (by decide))
    have h3 : (a : Int) / 2 ^ 64 = ((a / 2 ^ 64 : Nat) : Int) := by simp
    rw [h3, h2]
/-- The bit test, as both texts spell it. -/
theorem bit_nat {a y : Nat} (ha : a < 2 ^ 63) : ((Go.bits .and .i64 (shr .i64 (a : Int) (y : Int)) 1) == 1) = a.testBit y := by
  rw [shr_nat ha]
  have h : a >>> y < 2 ^ 63 := by
    rw [Nat.shiftRight_eq_div_pow]; exact Nat.lt_of_le_of_lt (Nat.div_le_self _ _) ha
  have e := and_nat (b := 1) h (by decide)
  rw [show ((1 : Nat) : Int) = 1 from rfl] at e
  rw [e, Nat.testBit]
  have hb : (a >>> y) &&& 1 = 0 ∨ (a >>> y) &&& 1 = 1 := by
    rw [Nat.and_one_is_mod]; omega
  have hc : 1 &&& (a >>> y) = (a >>> y) &&& 1 := Nat.and_comm _ _
  rw [hc]
  rcases hb with hb | hb <;> rw [hb] <;> rfl
theorem bit_natP {a y : Nat} (ha : a < 2 ^ 63) : ((Go.bits .and .i64 (shr .i64 (a : Int) (y : Int)) 1) = 1) ↔ a.testBit y = true := by
  rw [← bit_nat ha]; simp
theorem dif_zero {t s : Nat} : dif t s = 0 ↔ t &&& s = t := by
  constructor
  · intro h
    apply Nat.eq_of_testBit_eq
    intro i
    have := congrArg (fun x => Nat.testBit x i) h
    simp only [dif_bit, Nat.zero_testBit] at this
    rw [Nat.testBit_and]
    cases ht : t.testBit i
    · rfl
    · rw [ht] at this
      cases hs : s.testBit i
      · rw [hs] at this; cases this
      · rfl
  · intro h
    unfold dif
    rw [h, Nat.xor_self]
/-! ### sets of at most eight elements -/
/-- The elements of a set. -/
def els (s : Nat) : List Nat := (List.range 8).filter (fun e => s.testBit e)
/-- How many elements a set has. -/
def pc (s : Nat) : Nat := (els s).length
/-- s is a set of n elements. -/
def isSetB (n s : Int) : Bool := decide (0 ≤ n) && decide (n ≤ 8) && (decide (0 ≤ s) && decide (s < 2 ^ n.toNat))
def isAnyB (s : Int) : Bool := decide (0 ≤ s) && decide (s < 256)
def hasB (s e : Int) : Bool := isAnyB s && (decide (0 ≤ e) && decide (e < 8)) && s.toNat.testBit e.toNat
theorem mem_els {s e : Nat} : e ∈ els s ↔ e < 8 ∧ s.testBit e = true := by simp [els]
theorem pow_le_256 {n : Nat} (h : n ≤ 8) : 2 ^ n ≤ 256 := by
  have := Nat.pow_le_pow_right (n := 2) (by decide) h
  simpa using this
theorem isSetB_lt {n s : Int} (h : isSetB n s = true) : ∃ (m t : Nat), n = m ∧ s = t ∧ m ≤ 8 ∧ t < 2 ^ m ∧ t < 256 := by
  simp only [isSetB, Bool.and_eq_true, decide_eq_true_eq] at h
  obtain ⟨⟨h0, h8⟩, hs0, hs1⟩ := h
  obtain ⟨m, rfl⟩ := Int.eq_ofNat_of_zero_le h0
  obtain ⟨t, rfl⟩ := Int.eq_ofNat_of_zero_le hs0
  have hm : m ≤ 8 := by omega
  have ht : t < 2 ^ m := by
    rw [Int.toNat_natCast] at hs1
    exact_mod_cast hs1
  exact ⟨m, t, rfl, rfl, hm, ht, Nat.lt_of_lt_of_le ht (pow_le_256 hm)⟩
theorem isSetB_nat {m t : Nat} : isSetB (m : Int) (t : Int) = (decide (m ≤ 8) && decide (t < 2 ^ m)) := by
  unfold isSetB
  rw [Int.toNat_natCast, Bool.eq_iff_iff]
  simp only [Bool.and_eq_true, decide_eq_true_eq]
  constructor
  · rintro ⟨⟨_, h⟩, _, h'⟩; exact ⟨by omega, by exact_mod_cast h'⟩
  · rintro ⟨h, h'⟩; exact ⟨⟨by omega, by omega⟩, by omega, by exact_mod_cast h'⟩
theorem isAnyB_nat {t : Nat} : isAnyB (t : Int) = decide (t < 256) := by
  unfold isAnyB
  rw [Bool.eq_iff_iff]
  simp only [Bool.and_eq_true, decide_eq_true_eq]
  omega
theorem hasB_nat {s e : Nat} : hasB (s : Int) (e : Int) = (decide (s < 256) && decide (e < 8) && s.testBit e) := by
  unfold hasB
  rw [isAnyB_nat, Int.toNat_natCast, Int.toNat_natCast]
  have : (decide (0 ≤ (e : Int)) && decide ((e : Int) < 8)) = decide (e < 8) := by
    rw [Bool.eq_iff_iff]; simp only [Bool.and_eq_true, decide_eq_true_eq]; omega
  rw [this]
theorem lt256_63 {s : Nat} (h : s < 256) : s < 2 ^ 63 := Nat.lt_of_lt_of_le h (by decide)
end Go.Proofs.Ytbdloopelidneaa.Z
namespace Go.Proofs.Ytbdloopelidneaa.Z
open Go Go.RowKit Go.Proofs.YtbdloopelidneaaW.PrintWords Go.Proofs.YtbdloopelidneaaW.PrintMore
theorem pc_step : ∀ x < 256, pc x = x % 2 + pc (x / 2) := by decide +kernel
theorem pc_le (s : Nat) : pc s ≤ 8 := by
  unfold pc els
  exact Nat.le_trans (List.length_filter_le _ _) (by simp)
theorem pc_zero : pc 0 = 0 := by decide
end Go.Proofs.Ytbdloopelidneaa.Z
namespace Go.Proofs.Ytbdloopelidneaa.Z
open Go Go.RowKit Go.Proofs.YtbdloopelidneaaW.PrintWords Go.Proofs.YtbdloopelidneaaW.PrintMore
theorem exch_all : ∀ a < 256, ∀ e < 8, ∀ f < 8, (!(a.testBit e && !a.testBit f) || (decide (a - 2 ^ e + 2 ^ f = dif a (2 ^ e) ||| 2 ^ f) && decide (2 ^ e ≤ a) && decide (dif a (2 ^ e) ||| 2 ^ f < 256))) = true := by decide +kernel
theorem exch_arith {a e f : Nat} (ha : a < 256) (he : e < 8) (hf : f < 8) (h1 : a.testBit e = true) (h2 : a.testBit f = false) : a - 2 ^ e + 2 ^ f = dif a (2 ^ e) ||| 2 ^ f ∧ 2 ^ e ≤ a ∧ dif a (2 ^ e) ||| 2 ^ f < 256 := by
  have h := exch_all a ha e he f hf
  rw [h1, h2] at h
  simp only [Bool.not_false, Bool.and_self, Bool.not_true, Bool.false_or, Bool.and_eq_true, decide_eq_true_eq] at h
  exact ⟨h.1.1, h.1.2, h.2⟩
theorem dif_lt {a b : Nat} (ha : a < 256) : dif a b < 256 := by
  have h : dif a b ≤ a := by
    apply Nat.le_of_testBit
    intro i hi
    rw [dif_bit] at hi
    simp only [Bool.and_eq_true] at hi
    exact hi.1
  omega
theorem and_lt {a b : Nat} (ha : a < 256) : a &&& b < 256 := Nat.lt_of_le_of_lt Nat.and_le_left ha
theorem els_and (b s : Nat) : els (b &&& s) = (els s).filter (fun e => b.testBit e) := by
  unfold els
  rw [List.filter_filter]
  apply List.filter_congr
  intro e _
  rw [Nat.testBit_and]
theorem pc_and_le (b s : Nat) : pc (b &&& s) ≤ pc s := by
  unfold pc
  rw [els_and]
  exact List.length_filter_le _ _
theorem bit_ge {s i : Nat} (hs : s < 256) (hi : ¬ i < 8) : s.testBit i = false :=
  Nat.testBit_lt_two_pow (Nat.lt_of_lt_of_le hs (show 2 ^ 8 ≤ 2 ^ i from Nat.pow_le_pow_right (by decide) (by omega)))
theorem set_ext {s t : Nat} (hs : s < 256) (ht : t < 256) (h : ∀ i, i < 8 → s.testBit i = t.testBit i) : s = t := by
  apply Nat.eq_of_testBit_eq
  intro i
  by_cases hi : i < 8
  · exact h i hi
  · rw [bit_ge hs hi, bit_ge ht hi]
theorem pc_and_eq {b s : Nat} (hs : s < 256) : pc (b &&& s) = pc s ↔ b &&& s = s := by
  constructor
  · intro h
    unfold pc at h
    rw [els_and] at h
    have hall := List.length_filter_eq_length_iff.1 h
    apply set_ext (Nat.lt_of_le_of_lt Nat.and_le_right hs) hs
    intro i hi
    rw [Nat.testBit_and]
    cases hb : s.testBit i
    · simp
    · have := hall i (mem_els.2 ⟨hi, hb⟩)
      rw [this]; rfl
  · intro h; rw [h]
/-- s is a subset of t. -/
def subN (s t : Nat) : Prop := s &&& t = s
instance (s t : Nat) : Decidable (subN s t) := inferInstanceAs (Decidable (_ = _))
theorem subN_bit {s t : Nat} : subN s t ↔ ∀ i, s.testBit i = true → t.testBit i = true := by
  constructor
  · intro h i hi
    have := congrArg (fun x => Nat.testBit x i) h
    simp only [Nat.testBit_and, hi, Bool.true_and] at this
    exact this
  · intro h
    apply Nat.eq_of_testBit_eq
    intro i
    rw [Nat.testBit_and]
    cases hs : s.testBit i
    · rfl
    · rw [h i hs]; rfl
theorem subN_le {s t : Nat} (h : subN s t) : s ≤ t := by
  have : s &&& t ≤ t := Nat.and_le_right
  rw [h] at this
  exact this
theorem subN_trans {a b c : Nat} (h : subN a b) (k : subN b c) : subN a c := subN_bit.2 fun i hi => subN_bit.1 k i (subN_bit.1 h i hi)
theorem subN_refl (a : Nat) : subN a a := Nat.and_self a
theorem subN_zero (a : Nat) : subN 0 a := Nat.zero_and a
/-- The greatest of some numbers, from acc on. -/
def maxN (acc : Nat) (l : List Nat) : Nat := l.foldl max acc
theorem maxN_cons (acc x : Nat) (l : List Nat) : maxN acc (x :: l) = maxN (max acc x) l := rfl
theorem maxN_ge (l : List Nat) : ∀ acc : Nat, acc ≤ maxN acc l := by
  induction l with
  | nil => intro acc; exact Nat.le_refl _
  | cons x l ih => intro acc; exact Nat.le_trans (Nat.le_max_left _ _) (ih _)
theorem maxN_mem (l : List Nat) : ∀ acc : Nat, ∀ x ∈ l, x ≤ maxN acc l := by
  induction l with
  | nil => intro acc x hx; simp at hx
  | cons y l ih =>
    intro acc x hx
    rcases List.mem_cons.1 hx with rfl | hx
    · exact Nat.le_trans (Nat.le_max_right _ _) (maxN_ge l _)
    · exact ih _ x hx
theorem maxN_cases (l : List Nat) : ∀ acc : Nat, maxN acc l = acc ∨ maxN acc l ∈ l := by
  induction l with
  | nil => intro acc; exact .inl rfl
  | cons y l ih =>
    intro acc
    rw [maxN_cons]
    rcases ih (max acc y) with h | h
    · by_cases hm : acc ≤ y
      · rw [h, Nat.max_eq_right hm]; exact .inr (List.mem_cons_self ..)
      · rw [h, Nat.max_eq_left (by omega)]; exact .inl rfl
    · exact .inr (List.mem_cons_of_mem _ h)
theorem maxN_le {l : List Nat} {acc m : Nat} (ha : acc ≤ m) (h : ∀ x ∈ l, x ≤ m) : maxN acc l ≤ m := by
  rcases maxN_cases l acc with e | e
  · rw [e]; exact ha
  · exact h _ e
/-- The rank of s in the family L of bases. -/
def rkN (L : List Nat) (s : Nat) : Nat := maxN 0 (L.map (fun b => pc (b &&& s)))
theorem rkN_le (L : List Nat) (s : Nat) : rkN L s ≤ pc s := by
  apply maxN_le (Nat.zero_le _)
  intro x hx
  obtain ⟨b, _, rfl⟩ := List.mem_map.1 hx
  exact pc_and_le b s
/-- s lies in some set of L. -/
def indN (L : List Nat) (s : Nat) : Bool := L.any (fun b => decide (subN s b))
theorem indN_iff {L : List Nat} {s : Nat} : indN L s = true ↔ ∃ b ∈ L, subN s b := by simp [indN]
theorem rk_eq_iff {L : List Nat} {s : Nat} (hs : s < 256) (hL : L ≠ []) : rkN L s = pc s ↔ indN L s = true := by
  rw [indN_iff]
  constructor
  · intro h
    unfold rkN at h
    rcases maxN_cases (L.map (fun b => pc (b &&& s))) 0 with e | e
    · rw [e] at h
      obtain ⟨b, hb⟩ := List.exists_mem_of_ne_nil L hL
      refine ⟨b, hb, ?_⟩
      have h1 := pc_and_le b s
      have h2 : pc (b &&& s) = pc s := by omega
      have := (pc_and_eq hs).1 h2
      unfold subN
      rw [Nat.and_comm]; exact this
    · obtain ⟨b, hb, hbe⟩ := List.mem_map.1 e
      rw [h] at hbe
      refine ⟨b, hb, ?_⟩
      have := (pc_and_eq hs).1 hbe
      unfold subN
      rw [Nat.and_comm]; exact this
  · rintro ⟨b, hb, hsub⟩
    apply Nat.le_antisymm (rkN_le L s)
    have : pc (b &&& s) ∈ L.map (fun b => pc (b &&& s)) := List.mem_map.2 ⟨b, hb, rfl⟩
    have h := maxN_mem _ 0 _ this
    unfold rkN
    rw [Nat.and_comm, show s &&& b = s from hsub] at h
    exact h
end Go.Proofs.Ytbdloopelidneaa.Z
namespace Go.Proofs.Ytbdloopelidneaa.Z
open Go Go.RowKit Go.Proofs.YtbdloopelidneaaW.PrintWords Go.Proofs.YtbdloopelidneaaW.PrintMore
/-! ### counting -/
/-- One bit, as a number. -/
def bt1 (s i : Nat) : Nat := if s.testBit i then 1 else 0
theorem filter_length_sum (p : Nat → Bool) (l : List Nat) : (l.filter p).length = (l.map (fun i => if p i then 1 else 0)).sum := by
  induction l with
  | nil => rfl
  | cons x l ih =>
    rw [List.filter_cons, List.map_cons, List.sum_cons, ← ih]
    by_cases h : p x = true
    · rw [if_pos h, if_pos h, List.length_cons]; omega
    · rw [if_neg h, if_neg h]; omega
theorem pc_sum (s : Nat) : pc s = ((List.range 8).map (bt1 s)).sum := by
  unfold pc els bt1
  exact filter_length_sum _ _
theorem sum_map_add (f g : Nat → Nat) (l : List Nat) : (l.map (fun i => f i + g i)).sum = (l.map f).sum + (l.map g).sum := by
  induction l with
  | nil => rfl
  | cons x l ih => simp only [List.map_cons, List.sum_cons, ih]; omega
theorem sum_map_le {f g : Nat → Nat} {l : List Nat} (h : ∀ i ∈ l, f i ≤ g i) : (l.map f).sum ≤ (l.map g).sum := by
  induction l with
  | nil => exact Nat.le_refl _
  | cons x l ih =>
    simp only [List.map_cons, List.sum_cons]
    have h1 := h x (List.mem_cons_self ..)
    have h2 := ih (fun i hi => h i (List.mem_cons_of_mem _ hi))
    omega
theorem pc_or_and (a b : Nat) : pc (a ||| b) + pc (a &&& b) = pc a + pc b := by
  rw [pc_sum, pc_sum, pc_sum, pc_sum, ← sum_map_add, ← sum_map_add]
  congr 1
  apply List.map_congr_left
  intro i _
  unfold bt1
  rw [Nat.testBit_or, Nat.testBit_and]
  cases a.testBit i <;> cases b.testBit i <;> rfl
theorem pc_dif_and (a b : Nat) : pc (dif a b) + pc (a &&& b) = pc a := by
  rw [pc_sum, pc_sum, pc_sum, ← sum_map_add]
  congr 1
  apply List.map_congr_left
  intro i _
  unfold bt1
  rw [dif_bit, Nat.testBit_and]
  cases a.testBit i <;> cases b.testBit i <;> rfl
theorem pc_mono {a b : Nat} (h : ∀ i, i < 8 → a.testBit i = true → b.testBit i = true) : pc a ≤ pc b := by
  rw [pc_sum, pc_sum]
  apply sum_map_le
  intro i hi
  unfold bt1
  cases ha : a.testBit i
  · simp
  · rw [h i (List.mem_range.1 hi) ha]; simp
theorem pc_pos {s i : Nat} (hi : i < 8) (h : s.testBit i = true) : 0 < pc s := by
  unfold pc
  exact List.length_pos_of_mem (mem_els.2 ⟨hi, h⟩)
theorem pc_zero_iff {s : Nat} (hs : s < 256) : pc s = 0 ↔ s = 0 := by
  constructor
  · intro h
    apply set_ext hs (by omega)
    intro i hi
    rw [Nat.zero_testBit]
    cases hb : s.testBit i
    · rfl
    · have := pc_pos hi hb; omega
  · rintro rfl; exact pc_zero
theorem pc_pow {i : Nat} (hi : i < 8) : pc (2 ^ i) = 1 := by
  have : ∀ i < 8, pc (2 ^ i) = 1 := by decide +kernel
  exact this i hi
/-- An element of b that is not in a, where b has more. -/
theorem exists_new {a b : Nat} (h : pc a < pc b) : ∃ e, e < 8 ∧ b.testBit e = true ∧ a.testBit e = false := by
  refine Classical.byContradiction fun hc => ?_
  have : pc b ≤ pc a := pc_mono fun i hi hb => by
    cases ha : a.testBit i
    · exact absurd ⟨i, hi, hb, ha⟩ hc
    · rfl
  omega
theorem exists_of_pc {a : Nat} (h : 0 < pc a) : ∃ e, e < 8 ∧ a.testBit e = true := by
  have : pc 0 < pc a := by rw [pc_zero]; exact h
  obtain ⟨e, h1, h2, _⟩ := exists_new this
  exact ⟨e, h1, h2⟩
/-- e taken out of a, f put in. -/
def swp (a e f : Nat) : Nat := dif a (2 ^ e) ||| 2 ^ f
theorem swp_bit (a e f i : Nat) : (swp a e f).testBit i = ((a.testBit i && !decide (e = i)) || decide (f = i)) := by
  unfold swp
  rw [Nat.testBit_or, dif_bit, Nat.testBit_two_pow, Nat.testBit_two_pow]
theorem add_bit (a f i : Nat) : (a ||| 2 ^ f).testBit i = (a.testBit i || decide (f = i)) := by
  rw [Nat.testBit_or, Nat.testBit_two_pow]
theorem del_bit (a e i : Nat) : (dif a (2 ^ e)).testBit i = (a.testBit i && !decide (e = i)) := by
  rw [dif_bit, Nat.testBit_two_pow]
theorem pc_add {a f : Nat} (hf : f < 8) (h : a.testBit f = false) : pc (a ||| 2 ^ f) = pc a + 1 := by
  have h1 := pc_or_and a (2 ^ f)
  have h2 : a &&& 2 ^ f = 0 := by
    apply Nat.eq_of_testBit_eq
    intro i
    rw [Nat.testBit_and, Nat.testBit_two_pow, Nat.zero_testBit]
    by_cases hi : f = i
    · subst hi; rw [h]; rfl
    · simp [hi]
  rw [h2, pc_zero, pc_pow hf] at h1
  omega
theorem pc_del {a e : Nat} (he : e < 8) (h : a.testBit e = true) : pc (dif a (2 ^ e)) + 1 = pc a := by
  have h1 := pc_dif_and a (2 ^ e)
  have h2 : a &&& 2 ^ e = 2 ^ e := by
    apply Nat.eq_of_testBit_eq
    intro i
    rw [Nat.testBit_and, Nat.testBit_two_pow]
    by_cases hi : e = i
    · subst hi; rw [h]; rfl
    · simp [hi]
  rw [h2, pc_pow he] at h1
  exact h1
theorem pc_swp {a e f : Nat} (he : e < 8) (hf : f < 8) (h1 : a.testBit e = true) (h2 : a.testBit f = false) : pc (swp a e f) = pc a := by
  have hd := pc_del he h1
  have hb : (dif a (2 ^ e)).testBit f = false := by rw [del_bit, h2]; rfl
  have ha := pc_add (a := dif a (2 ^ e)) hf hb
  unfold swp
  omega
/-! ### bases -/
/-- The exchange of bases. -/
def Exch (L : List Nat) : Prop := ∀ a ∈ L, ∀ b ∈ L, ∀ e, e < 8 → a.testBit e = true → b.testBit e = false → ∃ f, f < 8 ∧ b.testBit f = true ∧ a.testBit f = false ∧ swp a e f ∈ L
/-- A matroid on m elements, by its bases. -/
structure Mat (m : Nat) (L : List Nat) : Prop where
  size : m ≤ 8
  sets : ∀ b ∈ L, b < 2 ^ m
  some : L ≠ []
  exch : Exch L
variable {m : Nat} {L : List Nat}
theorem Mat.lt (h : Mat m L) : ∀ b ∈ L, b < 256 := fun b hb => Nat.lt_of_lt_of_le (h.sets b hb) (pow_le_256 h.size)
theorem Mat.equi (h : Mat m L) : ∀ (d : Nat) (a b : Nat), a ∈ L → b ∈ L → pc (dif a b) = d → pc a = pc b := by
  intro d
  induction d with
  | zero =>
    intro a b ha hb hd
    have hab : ∀ i, i < 8 → a.testBit i = true → b.testBit i = true := by
      intro i hi hai
      cases hbi : b.testBit i
      · have : 0 < pc (dif a b) := pc_pos hi (by rw [dif_bit, hai, hbi]; rfl)
        omega
      · rfl
    refine Nat.le_antisymm (pc_mono hab) (pc_mono fun i hi hbi => ?_)
    cases hai : a.testBit i
    · obtain ⟨f, hf, h1, h2, _⟩ := h.exch b hb a ha i hi hbi hai
      rw [hab f hf h1] at h2
      exact h2.symm
    · rfl
  | succ d ih =>
    intro a b ha hb hd
    obtain ⟨e, he, hde⟩ := exists_of_pc (a := dif a b) (by omega)
    rw [dif_bit] at hde
    simp only [Bool.and_eq_true, Bool.not_eq_true'] at hde
    obtain ⟨f, hf, h1, h2, hm⟩ := h.exch a ha b hb e he hde.1 hde.2
    have hs := ih (swp a e f) b hm hb (by
      have e1 : dif (swp a e f) b = dif (dif a b) (2 ^ e) := by
        apply Nat.eq_of_testBit_eq
        intro i
        rw [dif_bit, swp_bit, del_bit, dif_bit]
        by_cases hi : f = i
        · subst hi; rw [h1, h2]; simp
        · simp [hi]
          cases a.testBit i <;> cases b.testBit i <;> simp
      rw [e1]
      have := pc_del (a := dif a b) he (by rw [dif_bit, hde.1, hde.2]; rfl)
      omega)
    rw [pc_swp he hf hde.1 h2] at hs
    exact hs
theorem Mat.card (h : Mat m L) {a b : Nat} (ha : a ∈ L) (hb : b ∈ L) : pc a = pc b := h.equi _ a b ha hb rfl
end Go.Proofs.Ytbdloopelidneaa.Z
namespace Go.Proofs.Ytbdloopelidneaa.Z
open Go Go.RowKit Go.Proofs.YtbdloopelidneaaW.PrintWords Go.Proofs.YtbdloopelidneaaW.PrintMore
/-- The first place, from i on, at which g answers yes; -1 where there is none. -/
def idxO (g : Int → Option Bool) : List Int → Nat → Option Int
  | [], _ => some (-1)
  | x :: xs, i => (g x).bind fun b => if b = true then some (i : Int) else idxO g xs (i + 1)
/-- Does g answer yes somewhere? -/
def anyO (g : Int → Option Bool) : List Int → Option Bool
  | [] => some false
  | x :: xs => (g x).bind fun b => if b = true then some true else anyO g xs
/-- Those at which g answers yes. -/
def filterO (g : Int → Option Bool) : List Int → Option (List Int)
  | [] => some []
  | x :: xs => (g x).bind fun b => (filterO g xs).bind fun ys => some (if b = true then x :: ys else ys)
theorem anyO_idxO (g : Int → Option Bool) : ∀ (l : List Int) (i : Nat) (b : Bool), anyO g l = some b → ∃ r, idxO g l i = some r ∧ decide (r ≥ 0) = b := by
  intro l
  induction l with
  | nil => intro i b h; simp only [anyO, Option.some.injEq] at h; subst h; exact ⟨-1, rfl, rfl⟩
  | cons x xs ih =>
    intro i b h
    simp only [anyO] at h
    obtain ⟨y, hy, h⟩ := Option.bind_eq_some_iff.1 h
    simp only [idxO, hy, Option.bind_some]
    by_cases hb : y = true
    · rw [if_pos hb] at h ⊢
      simp only [Option.some.injEq] at h
      exact ⟨(i : Int), rfl, by rw [← h]; simp⟩
    · rw [if_neg hb] at h ⊢
      exact ih (i + 1) b h
theorem LeO_anyO {g g' : Int → Option Bool} (h : ∀ x, LeO (g x) (g' x)) : ∀ l, LeO (anyO g l) (anyO g' l) := by
  intro l
  induction l with
  | nil => exact LeO.refl _
  | cons x xs ih => exact LeO.bind (h x) (fun b => LeO.ite (LeO.refl _) ih)
theorem LeO_filterO {g g' : Int → Option Bool} (h : ∀ x, LeO (g x) (g' x)) : ∀ l, LeO (filterO g l) (filterO g' l) := by
  intro l
  induction l with
  | nil => exact LeO.refl _
  | cons x xs ih => exact LeO.bind (h x) (fun b => LeO.bind ih (fun ys => LeO.refl _))
/-- The numbers from x on to m. -/
def fromTo (x m : Int) : List Int := (List.range' x.toNat ((m + 1).toNat - x.toNat)).map (fun i : Nat => (i : Int))
theorem fromTo_cons {x m : Int} (h0 : 0 ≤ x) (h : x ≤ m) : fromTo x m = x :: fromTo (x + 1) m := by
  unfold fromTo
  rw [show (m + 1).toNat - x.toNat = ((m + 1).toNat - (x + 1).toNat) + 1 from by omega, List.range'_succ, List.map_cons, show x.toNat + 1 = (x + 1).toNat from by omega]
  congr 1
  omega
theorem fromTo_end {x m : Int} (h0 : 0 ≤ x) (h : ¬ x ≤ m) : fromTo x m = [] := by
  unfold fromTo
  rw [show (m + 1).toNat - x.toNat = 0 from by omega]
  rfl
/-- The numbers from 0 to m at which g answers yes. -/
def setsO (g : Int → Option Bool) (m : Int) : Option (List Int) := filterO g (fromTo 0 m)
theorem LeO_setsO {g g' : Int → Option Bool} (h : ∀ x, LeO (g x) (g' x)) (m : Int) : LeO (setsO g m) (setsO g' m) := LeO_filterO h _
theorem Ev_anyO {g : Nat → Int → Option Bool} {p : Int → Bool} : ∀ {l : List Int}, (∀ x ∈ l, Ev (fun k => g k x) (p x)) → Ev (fun k => anyO (g k) l) (l.any p) := by
  intro l
  induction l with
  | nil => intro _; exact Ev.now _
  | cons x l ih =>
    intro h
    simp only [anyO, List.any_cons]
    refine Ev.bind (h x (List.mem_cons_self ..)) ?_
    by_cases hp : p x = true
    · refine Ev.ifp hp ?_
      rw [hp, Bool.true_or]; exact Ev.now _
    · refine Ev.ifn hp ?_
      rw [Bool.eq_false_iff.2 hp, Bool.false_or]
      exact ih (fun y hy => h y (List.mem_cons_of_mem _ hy))
theorem Ev_filterO {g : Nat → Int → Option Bool} {p : Int → Bool} : ∀ {l : List Int}, (∀ x ∈ l, Ev (fun k => g k x) (p x)) → Ev (fun k => filterO (g k) l) (l.filter p) := by
  intro l
  induction l with
  | nil => intro _; exact Ev.now _
  | cons x l ih =>
    intro h
    simp only [filterO]
    refine Ev.bind (h x (List.mem_cons_self ..)) (Ev.bind (ih (fun y hy => h y (List.mem_cons_of_mem _ hy))) ?_)
    rw [List.filter_cons]
    exact Ev.now _
/-- One round of a list that is gone through by an index. -/
theorem int_drop (l : List Int) (x : Int) (h0 : 0 ≤ x) (h1 : x < (l.length : Int)) : l.drop x.toNat = rd l x :: l.drop (x + 1).toNat := by
  obtain ⟨i, rfl⟩ := Int.eq_ofNat_of_zero_le h0
  have hi : i < l.length := by omega
  rw [Int.toNat_natCast, show ((i : Int) + 1).toNat = i + 1 from by omega, drop_cons l i hi, rd_getElem l i hi]
theorem int_drop_end (l : List Int) (x : Int) (h1 : ¬ x < (l.length : Int)) : l.drop x.toNat = [] := List.drop_eq_nil_of_le (by omega)
end Go.Proofs.Ytbdloopelidneaa.Z
namespace Go.Proofs.Ytbdloopelidneaa.Z
open Go Go.RowKit Go.Sort Go.Proofs.YtbdloopelidneaaW.PrintWords Go.Proofs.YtbdloopelidneaaW.PrintMore
theorem put_heap {w : World} {g : Nat} {cur : Array Value} {e : TypeId} (h : w.heap[g]? = some (.cells cur e (0, 0))) (n : Nat) (d : Array Int) (os : Array Obj) :
    (grow (putRow (Value.int .i64) (Sort.ahead w n) g 0 d) os).heap[g]? = some (.cells (putCells (Value.int .i64) 0 d cur) e (0, 0)) := by
  have hlt : g < w.heap.size := by
    refine Classical.byContradiction fun hc => ?_
    rw [Array.getElem?_eq_none (by omega)] at h; cases h
  rw [heap_grow_old _ _ (by rw [size_putRow]; exact hlt)]
  show ((Sort.ahead w n).heap.modify g (onCells (putCells (Value.int .i64) 0 d)))[g]? = _
  rw [Array.getElem?_modify, if_pos rfl]
  show Option.map _ (w.heap[g]?) = _
  rw [h]; rfl
theorem reps_ints {R : Int → List Value → Prop} (hR : ∀ p c, R p c ↔ c = [Value.int .i64 p]) : ∀ (xs : List Int) (cs : List Value), Reps R 1 xs cs ↔ cs = xs.map (Value.int .i64) := by
  intro xs cs
  constructor
  · rintro ⟨h1, h2⟩
    apply List.ext_getElem
    · rw [h1, List.length_map]; omega
    · intro i k1 k2
      have hi : i < xs.length := by simpa using k2
      have h3 := (hR _ _).1 (h2 i xs[i] (List.getElem?_eq_getElem hi))
      rw [Nat.mul_one, List.drop_eq_getElem_cons k1] at h3
      simp only [List.take_succ_cons, List.take_zero, List.cons.injEq, and_true] at h3
      rw [h3, List.getElem_map]
  · rintro rfl
    refine ⟨by rw [List.length_map]; omega, fun j p hp => (hR _ _).2 ?_⟩
    obtain ⟨hj, rfl⟩ := List.getElem?_eq_some_iff.1 hp
    rw [Nat.mul_one, List.drop_eq_getElem_cons (by rw [List.length_map]; exact hj)]
    simp
theorem R_ints {e : Nat} {w : World} {base : Nat} {ok : Nat → Prop} {v : Value} {xs : List Int} :
    Kd.R (Kd.int .i64) e w base ok v xs ↔ (∀ k, v.ownBlock = some k → ok k) ∧ w.ownsRow base e 1 v xs.length (xs.map (Value.int .i64)) := by
  constructor
  · rintro ⟨h0, inner, ho, hr⟩
    refine ⟨h0, ?_⟩
    rw [← (reps_ints (fun p c => Iff.rfl) xs inner).1 hr]; exact ho
  · rintro ⟨h0, ho⟩
    exact ⟨h0, _, ho, (reps_ints (fun p c => Iff.rfl) xs _).2 rfl⟩
theorem put_take {d : Array Int} {cur : Array Value} (h : d.size ≤ cur.size) : (putCells (Value.int .i64) 0 d cur).toList.take d.size = d.toList.map (Value.int .i64) := by
  apply List.ext_getElem
  · simp [putCells]; omega
  · intro i h1 h2
    have hi : i < d.size := by simpa using h2
    simp [putCells, hi]
theorem R_put {e : Nat} {w : World} {base : Nat} {ok : Nat → Prop} {g c : Nat} {xs ys : List Int} (h : Kd.R (Kd.int .i64) e w base ok (.slice (some ⟨g, 0, none⟩) xs.length c) xs) (hy : ys.length = xs.length) (n : Nat) (os : Array Obj) :
    Kd.R (Kd.int .i64) e (grow (putRow (Value.int .i64) (Sort.ahead w n) g 0 ys.toArray) os) base ok (.slice (some ⟨g, 0, none⟩) ys.length c) ys := by
  obtain ⟨h0, h1, h2⟩ := R_ints.1 h
  refine R_ints.2 ⟨fun k hk => h0 k hk, by rw [List.length_map]; omega, .inr ?_⟩
  rcases h2 with ⟨hv, _⟩ | ⟨g', cap, cur, hv, hg, hh, hc, hm, hs, ht⟩
  · cases hv
  · injection hv with h3 _ h4
    injection h3 with h3
    injection h3 with h3
    subst h3
    subst h4
    refine ⟨g, c, _, rfl, hg, put_heap hh n ys.toArray os, by omega, hm, ?_, ?_⟩
    · rw [← hs]; simp [putCells]
    · have := put_take (d := ys.toArray) (cur := cur) (by simp; omega)
      simpa using this
theorem R_grown {e : Nat} {w : World} {base : Nat} {ok : Nat → Prop} {g c : Nat} {xs ys : List Int} (h : Kd.R (Kd.int .i64) e w base ok (.slice (some ⟨g, 0, none⟩) xs.length c) xs) (hy : ys.length = xs.length) (n : Nat) :
    Kd.R (Kd.int .i64) e (putRow (Value.int .i64) (Sort.ahead w n) g 0 ys.toArray) base ok (.slice (some ⟨g, 0, none⟩) ys.length c) ys := by
  have := R_put h hy n #[]
  rwa [grow_empty] at this
end Go.Proofs.Ytbdloopelidneaa.Z
namespace Go.Proofs.Ytbdloopelidneaa.Z
open Go Go.RowKit Go.Sort Go.Proofs.YtbdloopelidneaaW.PrintWords Go.Proofs.YtbdloopelidneaaW.PrintMore
/-- The value of a row: where it lies, its length, its room. -/
abbrev SV := Option Addr × Nat × Nat
def svV (x : SV) : Value := .slice x.1 x.2.1 x.2.2
def kSV : Kd SV := Kd.scalar svV (fun _ => rfl)
instance : Inhabited SV := ⟨(none, 0, 0)⟩
def Inn (e : Nat) (W : World) (base : Nat) (vs : List SV) (ls : List (List Int)) : Prop := vs.length = ls.length ∧ ∀ p ∈ vs.zip ls, Kd.R (Kd.int .i64) e W base (fun _ => True) (svV p.1) p.2
def SvNe (x y : SV) : Prop := ∀ k, (svV x).ownBlock = some k → (svV y).ownBlock ≠ some k
theorem SvNe.symm {x y : SV} (h : SvNe x y) : SvNe y x := fun k h1 h2 => h k h2 h1
theorem Inn.nil (e : Nat) (W : World) (base : Nat) : Inn e W base [] [] := ⟨rfl, fun p hp => by cases hp⟩
theorem Inn.move {e : Nat} {W W1 : World} {base : Nat} {vs : List SV} {ls : List (List Int)} (h : Inn e W base vs ls) (hm : ∀ k, base ≤ k → k < W.heap.size → (∃ cells, W.heap[k]? = some (.cells cells e (0, 0))) → W1.heap[k]? = W.heap[k]?) : Inn e W1 base vs ls :=
  ⟨h.1, fun p hp => Kd.R_mono (Kd.R_move (Kd.R_bound (h.2 p hp)) (fun k hk => by
    obtain ⟨_, h1, h2, q, hq, cells, hc⟩ := hk
    have hq' : q = e := by rcases List.mem_cons.1 hq with hq | hq; exact hq; cases hq
    subst hq'
    exact hm k h1 h2 ⟨cells, hc⟩)) (fun _ _ => trivial)⟩
theorem Inn.below {e : Nat} {W W1 : World} {base : Nat} {vs : List SV} {ls : List (List Int)} (h : Inn e W base vs ls) (hb : Below W.heap.size W W1) : Inn e W1 base vs ls := h.move (fun k _ h2 _ => hb.block k h2)
/-- A row of another type's elements is written. -/
theorem Inn.grown {e t : Nat} {W W1 : World} {base : Nat} {vs : List SV} {ls : List (List Int)} (h : Inn e W base vs ls) {v : Value} (hty : ∀ k, v.ownBlock = some k → ∃ cells, W.heap[k]? = some (.cells cells t (0, 0))) (hne : e ≠ t) (hg : W.grownBy W1 v.ownBlock) : Inn e W1 base vs ls :=
  h.move (fun k _ h2 hc => hg.block k h2 (fun he => by
    obtain ⟨c1, h3⟩ := hc
    obtain ⟨c2, h4⟩ := hty k he.symm
    rw [h3] at h4
    injection h4 with h4
    injection h4 with _ h4
    exact hne h4))
theorem Inn.snoc {e : Nat} {W : World} {base : Nat} {vs : List SV} {ls : List (List Int)} (h : Inn e W base vs ls) {x : SV} {l : List Int} (hx : Kd.R (Kd.int .i64) e W base (fun _ => True) (svV x) l) : Inn e W base (vs ++ [x]) (ls ++ [l]) := by
  refine ⟨by rw [List.length_append, List.length_append, h.1]; rfl, fun p hp => ?_⟩
  rw [List.zip_append h.1] at hp
  rcases List.mem_append.1 hp with hp | hp
  · exact h.2 p hp
  · rw [List.zip_cons_cons, List.zip_nil_right, List.mem_singleton] at hp
    subst hp; exact hx
theorem Inn.app {e : Nat} {W : World} {base : Nat} {vs us : List SV} {ls ms : List (List Int)} (h : Inn e W base vs ls) (h2 : Inn e W base us ms) : Inn e W base (vs ++ us) (ls ++ ms) := by
  refine ⟨by rw [List.length_append, List.length_append, h.1, h2.1], fun p hp => ?_⟩
  rw [List.zip_append h.1] at hp
  rcases List.mem_append.1 hp with hp | hp
  · exact h.2 p hp
  · exact h2.2 p hp
theorem Inn.take {e : Nat} {W : World} {base : Nat} {vs : List SV} {ls : List (List Int)} (h : Inn e W base vs ls) (n : Nat) : Inn e W base (vs.take n) (ls.take n) := by
  refine ⟨by rw [List.length_take, List.length_take, h.1], fun p hp => h.2 p ?_⟩
  rw [List.zip, ← List.take_zipWith] at hp
  exact List.mem_of_mem_take hp
theorem Inn.drop {e : Nat} {W : World} {base : Nat} {vs : List SV} {ls : List (List Int)} (h : Inn e W base vs ls) (n : Nat) : Inn e W base (vs.drop n) (ls.drop n) := by
  refine ⟨by rw [List.length_drop, List.length_drop, h.1], fun p hp => h.2 p ?_⟩
  rw [List.zip, ← List.drop_zipWith] at hp
  exact List.mem_of_mem_drop hp
theorem Inn.at {e : Nat} {W : World} {base : Nat} {vs : List SV} {ls : List (List Int)} (h : Inn e W base vs ls) (i : Int) (h0 : 0 ≤ i) (h1 : i < (ls.length : Int)) : Kd.R (Kd.int .i64) e W base (fun _ => True) (svV (rdOf (none, 0, 0) vs i)) (rdOf [] ls i) := by
  have hi : i.toNat < ls.length := by omega
  have hi2 : i.toNat < vs.length := by rw [h.1]; exact hi
  have e1 : rdOf (none, 0, 0) vs i = vs[i.toNat] := by unfold rdOf; rw [List.getD_eq_getElem?_getD, List.getElem?_eq_getElem hi2]; rfl
  have e2 : rdOf [] ls i = ls[i.toNat] := by unfold rdOf; rw [List.getD_eq_getElem?_getD, List.getElem?_eq_getElem hi]; rfl
  rw [e1, e2]
  refine h.2 (vs[i.toNat], ls[i.toNat]) ?_
  have h3 : i.toNat < (vs.zip ls).length := by rw [List.length_zip]; omega
  have := List.getElem_mem h3
  rwa [List.getElem_zip] at this
theorem reps_slices {R : List Int → List Value → Prop} {R' : SV → List Value → Prop} (hR' : ∀ x c, R' x c ↔ c = [svV x]) : ∀ {vs : List SV} {ls : List (List Int)} {inner : List Value}, vs.length = ls.length → Reps R' 1 vs inner → (∀ p ∈ vs.zip ls, R p.2 [svV p.1]) → Reps R 1 ls inner := by
  intro vs ls inner hl h hR
  refine ⟨by rw [h.1, hl], fun j l hj => ?_⟩
  obtain ⟨hj2, rfl⟩ := List.getElem?_eq_some_iff.1 hj
  have hj3 : j < vs.length := by omega
  have h1 := (hR' _ _).1 (h.2 j vs[j] (List.getElem?_eq_getElem hj3))
  rw [h1]
  refine hR (vs[j], ls[j]) ?_
  have h3 : j < (vs.zip ls).length := by rw [List.length_zip]; omega
  have := List.getElem_mem h3
  rwa [List.getElem_zip] at this
/-- A row of one's own of such rows. -/
theorem Inn.row {e t : Nat} {W : World} {base : Nat} {ok : Nat → Prop} {v : Value} {vs : List SV} {ls : List (List Int)} (hne : e ≠ t) (h : kSV.R t W base ok v vs) (hI : Inn e W base vs ls) : (Kd.slice e (Kd.int .i64)).R t W base (fun _ => True) v ls := by
  have hty := Kd.R_typed h
  obtain ⟨h0, inner, ho, hr⟩ := h
  refine ⟨fun _ _ => trivial, inner, by rw [← hI.1]; exact ho, ?_⟩
  refine reps_slices (R' := fun x c => c = [svV x]) (fun x c => Iff.rfl) hI.1 hr (fun p hp => ⟨svV p.1, rfl, ?_⟩)
  refine Kd.R_mono (Kd.R_bound (hI.2 p hp)) (fun k hk => ⟨trivial, fun he => ?_⟩)
  obtain ⟨_, _, _, q, hq, cells, hc⟩ := hk
  have hq' : q = e := by rcases List.mem_cons.1 hq with hq | hq; exact hq; cases hq
  subst hq'
  obtain ⟨c2, h4⟩ := hty k he.symm
  rw [hc] at h4
  injection h4 with h4
  injection h4 with _ h4
  exact hne h4
theorem Inn.len {e : Nat} {W : World} {base : Nat} {vs : List SV} {ls : List (List Int)} (h : Inn e W base vs ls) : vs.length = ls.length := h.1
theorem Inn.alloc {e : Nat} {W : World} {base : Nat} {vs : List SV} {ls : List (List Int)} (h : Inn e W base vs ls) (o : Obj) : Inn e (W.alloc o) base vs ls := h.below (below_alloc (Below.refl _ _) o)
theorem Inn.drew {e : Nat} {W : World} {base : Nat} {vs : List SV} {ls : List (List Int)} (h : Inn e W base vs ls) : Inn e W.drew base vs ls := h.below (below_drew (Below.refl _ _))
theorem Inn.drewN {e : Nat} {W : World} {base : Nat} {vs : List SV} {ls : List (List Int)} (h : Inn e W base vs ls) (m : Nat) : Inn e (W.drewN m) base vs ls := h.below (pw_below_drewN (Below.refl _ _) m)
/-- The same, the inner rows apart from each other: what the printed readers of such rows ask for. -/
theorem Inn.srow {e t : Nat} {W : World} {base : Nat} {ok : Nat → Prop} {v : Value} {vs : List SV} {ls : List (List Int)} (hne : e ≠ t) (h : kSV.R t W base ok v vs) (hI : Inn e W base vs ls) (hS : vs.Pairwise SvNe) : Kd.S (Kd.slice e (Kd.int .i64)) t W base (fun _ => True) v ls := by
  have hty := Kd.R_typed h
  obtain ⟨h0, inner, ho, hr⟩ := h
  refine ⟨fun k => vs.findIdx (fun x => decide ((svV x).ownBlock = some k)), fun _ _ => trivial, inner, by rw [List.length_zipIdx, ← hI.1]; exact ho, by rw [List.length_zipIdx, hr.1, hI.1]; rfl, fun j p hj => ?_⟩
  rw [List.getElem?_zipIdx, Nat.zero_add] at hj
  obtain ⟨l, hl, rfl⟩ := Option.map_eq_some_iff.1 hj
  obtain ⟨hj2, rfl⟩ := List.getElem?_eq_some_iff.1 hl
  have hj3 : j < vs.length := by rw [hI.1]; exact hj2
  have h1 := hr.2 j vs[j] (List.getElem?_eq_getElem hj3)
  have h3 : j < (vs.zip ls).length := by rw [List.length_zip]; omega
  have h4 := List.getElem_mem h3
  rw [List.getElem_zip] at h4
  have hx := hI.2 (vs[j], ls[j]) h4
  refine ⟨svV vs[j], h1, Kd.R_mono (Kd.R_bound (Kd.R_tight rfl hx)) (fun k hk => ⟨⟨trivial, fun he => ?_⟩, ?_⟩)⟩
  · obtain ⟨_, _, _, q, hq, cells, hc⟩ := hk
    have hq' : q = e := by rcases List.mem_cons.1 hq with hq | hq; exact hq; cases hq
    subst hq'
    obtain ⟨c2, h4⟩ := hty k he.symm
    rw [hc] at h4
    injection h4 with h4
    injection h4 with _ h4
    exact hne h4
  · refine (List.findIdx_eq hj3).2 ⟨decide_eq_true hk.1.symm, fun i hi => decide_eq_false fun h5 => ?_⟩
    exact List.pairwise_iff_getElem.1 hS i j (by omega) hj3 hi k h5 hk.1.symm
theorem SvNe.ins {vs : List SV} {x : SV} {M : Nat} (z : Nat) (hS : vs.Pairwise SvNe) (h1 : ∀ a ∈ vs, ∀ k, (svV a).ownBlock = some k → k < M) (h2 : ∀ k, (svV x).ownBlock = some k → M ≤ k) : ((vs.take z ++ [x]) ++ ([] ++ vs.drop z)).Pairwise SvNe := by
  have hx : ∀ a ∈ vs, SvNe a x := fun a ha k q1 q2 => by
    have := h1 a ha k q1
    have := h2 k q2
    omega
  have h0 : (vs.take z ++ vs.drop z).Pairwise SvNe := by rw [List.take_append_drop]; exact hS
  have h0 := List.pairwise_append.1 h0
  rw [List.nil_append, List.append_assoc]
  refine List.pairwise_append.2 ⟨h0.1, List.pairwise_cons.2 ⟨fun a ha => SvNe.symm (hx a (List.mem_of_mem_drop ha)), h0.2.1⟩, fun a ha b hb => ?_⟩
  rcases List.mem_cons.1 hb with hb | hb
  · rw [hb]; exact hx a (List.mem_of_mem_take ha)
  · exact h0.2.2 a ha b hb
def toSV : Value → SV
  | .slice a n c => (a, n, c)
  | _ => (none, 0, 0)
/-- Rows apart from each other, taken apart into their values. -/
theorem S_open {e t : Nat} {W : World} {base : Nat} {ok : Nat → Prop} {v : Value} {ls : List (List Int)} (h : Kd.S (Kd.slice e (Kd.int .i64)) t W base ok v ls) :
    ∃ vs : List SV, kSV.R t W base ok v vs ∧ Inn e W base vs ls ∧ vs.Pairwise SvNe ∧ ∀ x ∈ vs, ∀ k, (svV x).ownBlock = some k → ok k := by
  obtain ⟨f, h0, inner, ho, hr⟩ := h
  have hl : inner.length = ls.length := by rw [hr.1, List.length_zipIdx]; exact Nat.mul_one _
  have key : ∀ j (hj : j < ls.length), ∃ A c, inner[j]? = some (.slice A ls[j].length c) ∧ Kd.R (Kd.int .i64) e W base (fun k => (ok k ∧ some k ≠ v.ownBlock) ∧ f k = j) (.slice A ls[j].length c) ls[j] := by
    intro j hj
    have h1 := hr.2 j (ls[j], j) (by rw [List.getElem?_zipIdx, List.getElem?_eq_getElem hj, Nat.zero_add]; rfl)
    obtain ⟨v', h2, h3⟩ := h1
    obtain ⟨A, c, rfl⟩ := Kd.R_slice h3
    refine ⟨A, c, ?_, h3⟩
    have h4 : ((inner.drop (j * 1)).take 1)[0]? = some (.slice A ls[j].length c) := by rw [show (inner.drop (j * 1)).take 1 = [.slice A ls[j].length c] from h2]; rfl
    rw [List.getElem?_take, if_pos (by decide), List.getElem?_drop, Nat.add_zero] at h4
    rw [← h4, Nat.mul_one]
  have hv : ∀ j (hj : j < ls.length) (hj2 : j < (inner.map toSV).length), ∃ A c, (inner.map toSV)[j] = (A, ls[j].length, c) ∧ inner[j]? = some (.slice A ls[j].length c) ∧ Kd.R (Kd.int .i64) e W base (fun k => (ok k ∧ some k ≠ v.ownBlock) ∧ f k = j) (.slice A ls[j].length c) ls[j] := by
    intro j hj hj2
    obtain ⟨A, c, h1, h2⟩ := key j hj
    refine ⟨A, c, ?_, h1, h2⟩
    obtain ⟨q, h3⟩ := List.getElem?_eq_some_iff.1 h1
    rw [List.getElem_map, h3]; rfl
  refine ⟨inner.map toSV, ⟨h0, inner, by rw [List.length_map, hl]; rw [List.length_zipIdx] at ho; exact ho, by rw [List.length_map]; exact (Nat.mul_one _).symm, fun j p hj => ?_⟩, ⟨by rw [List.length_map, hl], fun p hp => ?_⟩, ?_, ?_⟩
  · obtain ⟨hj2, rfl⟩ := List.getElem?_eq_some_iff.1 hj
    have hj3 : j < ls.length := by rw [List.length_map, hl] at hj2; exact hj2
    obtain ⟨A, c, h1, h2, _⟩ := hv j hj3 hj2
    rw [h1]
    obtain ⟨q, h3⟩ := List.getElem?_eq_some_iff.1 h2
    show (inner.drop (j * 1)).take 1 = [.slice A ls[j].length c]
    rw [Nat.mul_one, List.drop_eq_getElem_cons q, h3]; rfl
  · obtain ⟨j, hj, rfl⟩ := List.getElem_of_mem hp
    have hj1 : j < ls.length := by rw [List.length_zip] at hj; omega
    have hj2 : j < (inner.map toSV).length := by rw [List.length_zip] at hj; omega
    obtain ⟨A, c, h1, _, h3⟩ := hv j hj1 hj2
    rw [List.getElem_zip, h1]
    exact Kd.R_mono h3 (fun _ _ => trivial)
  · refine List.pairwise_iff_getElem.2 (fun i j hi hj hij k h1 h2 => ?_)
    obtain ⟨A, c, h3, _, h4⟩ := hv i (by rw [List.length_map, hl] at hi; exact hi) hi
    obtain ⟨B, d, h5, _, h6⟩ := hv j (by rw [List.length_map, hl] at hj; exact hj) hj
    rw [h3] at h1
    rw [h5] at h2
    have e1 := (h4.1 k h1).2
    have e2 := (h6.1 k h2).2
    omega
  · intro x hx k hk
    obtain ⟨j, hj, rfl⟩ := List.getElem_of_mem hx
    obtain ⟨A, c, h3, _, h4⟩ := hv j (by rw [List.length_map, hl] at hj; exact hj) hj
    rw [h3] at hk
    exact (h4.1 k hk).1.1
/-- And put together again, the blocks told. -/
theorem Inn.srowP {e t : Nat} {W : World} {base : Nat} {ok : Nat → Prop} {v : Value} {vs : List SV} {ls : List (List Int)} (hne : e ≠ t) (h : kSV.R t W base ok v vs) (hI : Inn e W base vs ls) (hS : vs.Pairwise SvNe) (hP : ∀ x ∈ vs, ∀ k, (svV x).ownBlock = some k → ok k) : Kd.S (Kd.slice e (Kd.int .i64)) t W base ok v ls := by
  have hty := Kd.R_typed h
  obtain ⟨h0, inner, ho, hr⟩ := h
  refine ⟨fun k => vs.findIdx (fun x => decide ((svV x).ownBlock = some k)), h0, inner, by rw [List.length_zipIdx, ← hI.1]; exact ho, by rw [List.length_zipIdx, hr.1, hI.1]; rfl, fun j p hj => ?_⟩
  rw [List.getElem?_zipIdx, Nat.zero_add] at hj
  obtain ⟨l, hl, rfl⟩ := Option.map_eq_some_iff.1 hj
  obtain ⟨hj2, rfl⟩ := List.getElem?_eq_some_iff.1 hl
  have hj3 : j < vs.length := by rw [hI.1]; exact hj2
  have h1 := hr.2 j vs[j] (List.getElem?_eq_getElem hj3)
  have h3 : j < (vs.zip ls).length := by rw [List.length_zip]; omega
  have h4 := List.getElem_mem h3
  rw [List.getElem_zip] at h4
  have hx := hI.2 (vs[j], ls[j]) h4
  refine ⟨svV vs[j], h1, Kd.R_mono (Kd.R_bound (Kd.R_tight rfl hx)) (fun k hk => ⟨⟨hP _ (List.getElem_mem hj3) k hk.1.symm, fun he => ?_⟩, ?_⟩)⟩
  · obtain ⟨_, _, _, q, hq, cells, hc⟩ := hk
    have hq' : q = e := by rcases List.mem_cons.1 hq with hq | hq; exact hq; cases hq
    subst hq'
    obtain ⟨c2, h4⟩ := hty k he.symm
    rw [hc] at h4
    injection h4 with h4
    injection h4 with _ h4
    exact hne h4
  · refine (List.findIdx_eq hj3).2 ⟨decide_eq_true hk.1.symm, fun i hi => decide_eq_false fun h5 => ?_⟩
    exact List.pairwise_iff_getElem.1 hS i j (by omega) hj3 hi k h5 hk.1.symm
/-- One inner row is written: the others stay. -/
theorem Inn.mark {e : Nat} {W W1 : World} {base : Nat} {vs : List SV} {ls : List (List Int)} {l : List Int} {ok : Nat → Prop} {z : Nat} (hI : Inn e W base vs ls) (hS : vs.Pairwise SvNe) (hz : z < vs.length) (hk : Kept W W1 (fun k => some k = (svV vs[z]).ownBlock)) (hR : Kd.R (Kd.int .i64) e W1 base ok (svV vs[z]) l) : Inn e W1 base vs (ls.set z l) := by
  refine ⟨by rw [List.length_set]; exact hI.1, fun p hp => ?_⟩
  obtain ⟨j, hj, rfl⟩ := List.getElem_of_mem hp
  have hj1 : j < vs.length := by rw [List.length_zip] at hj; omega
  have hj2 : j < ls.length := by rw [← hI.1]; exact hj1
  rw [List.getElem_zip]
  show Kd.R (Kd.int .i64) e W1 base (fun _ => True) (svV vs[j]) ((ls.set z l)[j]'_)
  rw [List.getElem_set]
  by_cases he : z = j
  · subst he
    rw [if_pos rfl]
    exact Kd.R_mono hR (fun _ _ => trivial)
  · rw [if_neg he]
    have h3 : j < (vs.zip ls).length := by rw [List.length_zip]; omega
    have h4 := List.getElem_mem h3
    rw [List.getElem_zip] at h4
    have hx := hI.2 (vs[j], ls[j]) h4
    refine Kd.R_mono (Kd.R_kept (Kd.R_tight rfl hx) hk (fun k h1 h2 => ?_)) (fun _ _ => trivial)
    rcases Nat.lt_or_gt_of_ne he with hl | hl
    · exact List.pairwise_iff_getElem.1 hS z j hz hj1 hl k h2.symm h1.symm
    · exact List.pairwise_iff_getElem.1 hS j z hj1 hz hl k h1.symm h2.symm
theorem blk_keptT {W W2 : World} {g e t : Nat} {cells : Array Value} {P : Nat → Prop} (hb : W.heap[g]? = some (.cells cells t (0, 0))) (hk : Kept W W2 (fun k => P k ∧ ∃ c, W.heap[k]? = some (.cells c e (0, 0)))) (hne : e ≠ t) : W2.heap[g]? = some (.cells cells t (0, 0)) :=
  blk_kept hb hk (fun hs => by
    obtain ⟨_, c, h⟩ := hs
    rw [hb] at h
    injection h with h
    injection h with _ h
    exact hne h.symm)
theorem S_size {α : Type} {d : Kd α} {e : Nat} {w1 : World} {B : Nat} {ok : Nat → Prop} {v : Value} {xs : List α} (_ : Kd.S d e w1 B ok v xs) : ∃ M, M = B := ⟨_, rfl⟩
theorem S_over {α : Type} {d : Kd α} {e : Nat} {w1 : World} {B M : Nat} {v : Value} {xs : List α} (hM : M = B) (h : Kd.S d e w1 B (fun _ => True) v xs) : Kd.S d e w1 B (fun k => M ≤ k) v xs := Kd.S_mono (Kd.S_bound h) (fun _ hk => hM ▸ hk.2.1)
theorem S_under {α : Type} {d : Kd α} {e : Nat} {W : World} {base M : Nat} {P Q : Nat → Prop} {v : Value} {xs : List α} (hM : M = W.heap.size) (h : Kd.S d e W base (fun k => (True ∧ P k) ∧ Q k) v xs) : Kd.S d e W base (fun k => (k < M ∧ P k) ∧ Q k) v xs := Kd.S_mono (Kd.S_bound h) (fun _ hk => ⟨⟨hM ▸ hk.2.2.1, hk.1.1.2⟩, hk.1.2⟩)
/-! #### the order of rows: by length, then number by number -/
def lexS : List Int → List Int → Bool
  | x :: xs, y :: ys => if x = y then lexS xs ys else decide (x < y)
  | _, _ => false
def befS (X Y : List Int) : Bool := if X.length = Y.length then lexS X Y else decide (X.length < Y.length)
def sortS (ls : List (List Int)) : List (List Int) := ls.mergeSort (fun x y => !befS y x)
theorem lexS_self : ∀ X : List Int, lexS X X = false
  | [] => rfl
  | x :: xs => by
    unfold lexS
    rw [if_pos rfl]; exact lexS_self xs
theorem lexS_anti : ∀ X Y : List Int, X.length = Y.length → lexS X Y = false → lexS Y X = false → X = Y := by
  intro X
  induction X with
  | nil => intro Y h _ _; exact (List.length_eq_zero_iff.1 h.symm).symm
  | cons x X ih =>
    intro Y h h1 h2
    cases Y with
    | nil => simp at h
    | cons y Y =>
      simp only [lexS] at h1 h2
      by_cases e : x = y
      · subst e
        rw [if_pos rfl] at h1 h2
        rw [ih Y (by simpa using h) h1 h2]
      · rw [if_neg e] at h1
        rw [if_neg (fun h => e h.symm)] at h2
        have a := of_decide_eq_false h1
        have b := of_decide_eq_false h2
        omega
theorem lexS_trans : ∀ X Y Z : List Int, lexS X Y = true → lexS Y Z = true → lexS X Z = true := by
  intro X
  induction X with
  | nil => intro Y Z h _; simp [lexS] at h
  | cons x X ih =>
    intro Y Z h1 h2
    cases Y with
    | nil => simp [lexS] at h1
    | cons y Y =>
      cases Z with
      | nil => simp [lexS] at h2
      | cons z Z =>
        simp only [lexS] at h1 h2 ⊢
        by_cases e1 : x = y
        · subst e1
          rw [if_pos rfl] at h1
          by_cases e2 : x = z
          · subst e2
            rw [if_pos rfl] at h2 ⊢
            exact ih Y Z h1 h2
          · rw [if_neg e2] at h2 ⊢; exact h2
        · rw [if_neg e1] at h1
          have a := of_decide_eq_true h1
          by_cases e2 : y = z
          · subst e2
            rw [if_neg e1]; exact h1
          · rw [if_neg e2] at h2
            have b := of_decide_eq_true h2
            rw [if_neg (show ¬ x = z by omega)]
            exact decide_eq_true (by omega)
theorem befS_self (X : List Int) : befS X X = false := by unfold befS; rw [if_pos rfl]; exact lexS_self X
theorem befS_anti {X Y : List Int} (h1 : befS X Y = false) (h2 : befS Y X = false) : X = Y := by
  unfold befS at h1 h2
  by_cases e : X.length = Y.length
  · rw [if_pos e] at h1
    rw [if_pos e.symm] at h2
    exact lexS_anti X Y e h1 h2
  · rw [if_neg e] at h1
    rw [if_neg (fun h => e h.symm)] at h2
    have a := of_decide_eq_false h1
    have b := of_decide_eq_false h2
    omega
theorem befS_trans {X Y Z : List Int} (h1 : befS X Y = true) (h2 : befS Y Z = true) : befS X Z = true := by
  unfold befS at *
  by_cases e : X.length = Y.length
  · rw [if_pos e] at h1
    by_cases e2 : Y.length = Z.length
    · rw [if_pos e2] at h2
      rw [if_pos (e.trans e2)]; exact lexS_trans X Y Z h1 h2
    · rw [if_neg e2] at h2
      rw [if_neg (by omega), e]; exact h2
  · rw [if_neg e] at h1
    have a := of_decide_eq_true h1
    by_cases e2 : Y.length = Z.length
    · rw [if_neg (by omega)]; exact decide_eq_true (by omega)
    · rw [if_neg e2] at h2
      have b := of_decide_eq_true h2
      rw [if_neg (by omega)]; exact decide_eq_true (by omega)
theorem befS_ntrans {X Y Z : List Int} (h1 : befS X Y = false) (h2 : befS Y Z = false) : befS X Z = false := by
  cases h : befS X Z
  · rfl
  · exfalso
    cases h3 : befS Y X
    · have e := befS_anti h1 h3
      subst e
      rw [h] at h2; cases h2
    · have := befS_trans h3 h
      rw [this] at h2; cases h2
/-- A row in order, with the same elements, is the sorted one. -/
theorem sortS_unique {X Y : List (List Int)} (hp : Y.Perm X) (hs : Y.Pairwise (fun a b => befS b a = false)) : Y = sortS X := by
  have h1 : (sortS X).Pairwise (fun a b => befS b a = false) := by
    have h := List.pairwise_mergeSort (le := fun x y : List Int => !befS y x) (fun a b c q1 q2 => by
      simp only [Bool.not_eq_true'] at *
      exact befS_ntrans q2 q1) (fun a b => by
      cases q : befS b a
      · rfl
      · cases q2 : befS a b
        · rfl
        · have := befS_trans q q2
          rw [befS_self] at this; cases this) X
    exact h.imp (fun h => by simpa using h)
  exact List.Perm.eq_of_pairwise (fun a b _ _ q1 q2 => befS_anti q2 q1) hs h1 (hp.trans (List.mergeSort_perm _ _).symm)
/-! #### worlds in which a row of one's own has been put in order -/
section
variable {α : Type} [Inhabited α] {enc : α → Value}
theorem putRow_map {β : Type} [Inhabited β] (f : α → β) (encB : β → Value) (w : World) (g : Nat) (d : Array α) : putRow (fun x => encB (f x)) w g 0 d = putRow encB w g 0 (d.map f) := by
  unfold putRow
  congr 1
  funext c
  unfold putCells
  congr 1
  funext k x
  rw [Array.size_map]
  by_cases h : 0 ≤ k ∧ k < 0 + d.size
  · rw [if_pos h, if_pos h, getElem!_pos d (k - 0) (by omega), getElem!_pos (d.map f) (k - 0) (by rw [Array.size_map]; omega), Array.getElem_map]
  · rw [if_neg h, if_neg h]
theorem gput_heap {w : World} {g : Nat} {cur : Array Value} {e : TypeId} (h : w.heap[g]? = some (.cells cur e (0, 0))) (n : Nat) (d : Array α) (os : Array Obj) :
    (grow (putRow enc (Sort.ahead w n) g 0 d) os).heap[g]? = some (.cells (putCells enc 0 d cur) e (0, 0)) := by
  have hlt : g < w.heap.size := by
    refine Classical.byContradiction fun hc => ?_
    rw [Array.getElem?_eq_none (by omega)] at h; cases h
  rw [heap_grow_old _ _ (by rw [size_putRow]; exact hlt)]
  show ((Sort.ahead w n).heap.modify g (onCells (putCells enc 0 d)))[g]? = _
  rw [Array.getElem?_modify, if_pos rfl]
  show Option.map _ (w.heap[g]?) = _
  rw [h]; rfl
theorem gput_far {w : World} {g k : Nat} (hk : k ≠ g) (hlt : k < w.heap.size) (n : Nat) (d : Array α) (os : Array Obj) :
    (grow (putRow enc (Sort.ahead w n) g 0 d) os).heap[k]? = w.heap[k]? := by
  rw [heap_grow_old _ _ (by rw [size_putRow]; exact hlt)]
  show ((Sort.ahead w n).heap.modify g (onCells (putCells enc 0 d)))[k]? = _
  rw [Array.getElem?_modify, if_neg (fun h => hk h.symm)]; rfl
theorem gbelow_put {B : Nat} {w0 w : World} {g : Nat} (h : Below B w0 w) (hg : B ≤ g) (hB : B ≤ w.heap.size) (n : Nat) (d : Array α) (os : Array Obj) : Below B w0 (grow (putRow enc (Sort.ahead w n) g 0 d) os) := by
  refine ⟨h.os, h.tape, h.output, ?_, fun k hk => ?_⟩
  · rw [size_grow, size_putRow]
    have := h.size
    show w0.heap.size ≤ w.heap.size + os.size
    omega
  · rw [gput_far (by omega) (by omega)]; exact h.block k hk
theorem gput_take {d : Array α} {cur : Array Value} (h : d.size ≤ cur.size) : (putCells enc 0 d cur).toList.take d.size = d.toList.map enc := by
  apply List.ext_getElem
  · simp [putCells]; omega
  · intro i h1 h2
    have hi : i < d.size := by simpa using h2
    simp [putCells, hi]
variable {h1 : ∀ x, (enc x).oneCell' = true}
omit [Inhabited α] in
theorem gR_where {e : Nat} {w : World} {base : Nat} {ok : Nat → Prop} {A : Option Addr} {c : Nat} {xs : List α} (h : Kd.R (Kd.scalar enc h1) e w base ok (.slice A xs.length c) xs) :
    (A = none ∧ xs = []) ∨ ∃ g, A = some ⟨g, 0, none⟩ ∧ base ≤ g ∧ g < w.heap.size ∧ xs.length ≤ c ∧ ∃ cells, w.heap[g]? = some (.cells cells e (0, 0)) := by
  rcases List.eq_nil_or_concat xs with hx | _
  · subst hx
    have h2 := Kd.own_of_R h
    rcases h2.2 with ⟨hv, hn⟩ | ⟨g, cap, cur, hv, hg, hh, hc, _⟩
    · injection hv with h3
      exact .inl ⟨h3, rfl⟩
    · injection hv with h3 _ h4
      refine .inr ⟨g, h3, hg, ?_, by simp, cur, hh⟩
      refine Classical.byContradiction fun hcn => ?_
      rw [Array.getElem?_eq_none (by omega)] at hh; cases hh
  · have h2 := Kd.own_of_R h
    rcases h2.2 with ⟨hv, hn⟩ | ⟨g, cap, cur, hv, hg, hh, hc, _⟩
    · injection hv with h3
      exact .inl ⟨h3, List.length_eq_zero_iff.1 hn⟩
    · injection hv with h3 _ h4
      refine .inr ⟨g, h3, hg, ?_, by omega, cur, hh⟩
      refine Classical.byContradiction fun hcn => ?_
      rw [Array.getElem?_eq_none (by omega)] at hh; cases hh
theorem gR_holds {e : Nat} {w : World} {base : Nat} {ok : Nat → Prop} {g c : Nat} {xs : List α} (h : Kd.R (Kd.scalar enc h1) e w base ok (.slice (some ⟨g, 0, none⟩) xs.length c) xs) : Holds enc w g 0 xs.toArray := by
  intro j hj
  have hj' : j < xs.length := by simpa using hj
  have h2 := Kd.R_cell default h (j : Int) (by omega) (by omega)
  rw [Int.toNat_natCast] at h2
  rw [Nat.zero_add]
  have e1 : rdOf default xs (j : Int) = xs.toArray[j]! := by
    unfold rdOf
    rw [Int.toNat_natCast, List.getD_eq_getElem?_getD, List.getElem?_eq_getElem hj', getElem!_pos xs.toArray j (by simpa using hj')]
    simp
  rw [← e1]; exact h2
theorem gR_put {e : Nat} {w : World} {base : Nat} {ok : Nat → Prop} {g c : Nat} {xs ys : List α} (h : Kd.R (Kd.scalar enc h1) e w base ok (.slice (some ⟨g, 0, none⟩) xs.length c) xs) (hy : ys.length = xs.length) (n : Nat) (os : Array Obj) :
    Kd.R (Kd.scalar enc h1) e (grow (putRow enc (Sort.ahead w n) g 0 ys.toArray) os) base ok (.slice (some ⟨g, 0, none⟩) ys.length c) ys := by
  have h0 := h.1
  have ho := Kd.own_of_R h
  refine Kd.R_of_own ⟨by simp [encs], .inr ?_⟩ (fun k hk => h0 k hk)
  rcases ho.2 with ⟨hv, _⟩ | ⟨g', cap, cur, hv, hg, hh, hc, hm, hs, ht⟩
  · cases hv
  · injection hv with h3 _ h4
    injection h3 with h3
    injection h3 with h3
    subst h3
    subst h4
    refine ⟨g, c, _, rfl, hg, gput_heap hh n ys.toArray os, by omega, hm, ?_, ?_⟩
    · rw [← hs]; simp [putCells]
    · have := gput_take (enc := enc) (d := ys.toArray) (cur := cur) (by simp; omega)
      simpa [encs] using this
end
end Go.Proofs.Ytbdloopelidneaa.Z
