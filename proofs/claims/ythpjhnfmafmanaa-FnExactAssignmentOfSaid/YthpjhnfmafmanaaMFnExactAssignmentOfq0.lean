/- Plain facts on numbers, sets and lists that the law FnExactAssignmentOf leans on. Conditions: those in each lemma. -/
import Derived.Laws.BitsLemmas
import Derived.Test.YthpjhnfmafmanaaWMore
import Derived.Test.YthpjhnfmafmanaaWWords
namespace Go.Proofs.Ythpjhnfmafmanaa.Z
open Go Go.RowKit Go.Proofs.YthpjhnfmafmanaaW.PrintWords Go.Proofs.YthpjhnfmafmanaaW.PrintMore

/-! ### Ev: from some number of rounds on -/
theorem Ev.at {α : Type} {g : Nat → Option α} {r : α} (h : Ev g r) : ∃ K, ∀ k, K ≤ k → g k = some r := h
theorem Ev.const {α : Type} {g : Option α} {r : α} (h : g = some r) : Ev (fun _ => g) r := ⟨0, fun _ _ => h⟩
theorem Ev.uniq {α : Type} {g : Nat → Option α} {r s : α} (h : Ev g r) (h' : Ev g s) : r = s := by
  obtain ⟨K, h⟩ := h
  obtain ⟨K', h'⟩ := h'
  have a := h (max K K') (by omega)
  have b := h' (max K K') (by omega)
  rw [a] at b
  exact Option.some.inj b
theorem Ev.ifp {α : Type} {c : Prop} [Decidable c] {g f : Nat → Option α} {r : α} (hc : c) (h : Ev g r) : Ev (fun k => if c then g k else f k) r := by
  simpa only [if_pos hc] using h
theorem Ev.ifn {α : Type} {c : Prop} [Decidable c] {g f : Nat → Option α} {r : α} (hc : ¬ c) (h : Ev f r) : Ev (fun k => if c then g k else f k) r := by
  simpa only [if_neg hc] using h
theorem Ev.cbind {α β : Type} {g : Option α} {f : Nat → α → Option β} {a : α} {r : β} (h : g = some a) (k : Ev (fun n => f n a) r) : Ev (fun n => g.bind (f n)) r := by
  subst h
  simpa only [Option.bind_some] using k

/-! ### wrap64, u64 -/
theorem wrap64_of {n : Int} (h0 : -9223372036854775808 ≤ n) (h1 : n < 9223372036854775808) : wrap64 n = n := by unfold wrap64; omega
theorem wf64 {n : Int} (h : (Lit.int .i64 n).wf = true) : -9223372036854775808 ≤ n ∧ n < 9223372036854775808 := by
  simp only [Lit.wf, IntKind.min, IntKind.max, IntKind.signed, IntKind.bits, Bool.and_eq_true, decide_eq_true_eq, if_true] at h
  omega
theorem wf64_mk {n : Int} (h0 : -9223372036854775808 ≤ n) (h1 : n < 9223372036854775808) : (Lit.int .i64 n).wf = true := by
  simp only [Lit.wf, IntKind.min, IntKind.max, IntKind.signed, IntKind.bits, Bool.and_eq_true, decide_eq_true_eq, if_true]
  omega
theorem u64_of {n : Int} (h0 : 0 ≤ n) (h1 : n < 18446744073709551616) : IntKind.u64.wrap n = n := by
  simp [IntKind.wrap, IntKind.bits, IntKind.signed]
  omega
theorem u64_nonneg (n : Int) : 0 ≤ IntKind.u64.wrap n := by
  simp [IntKind.wrap, IntKind.bits, IntKind.signed]
  omega

/-! ### reading a list -/
theorem rd_mid (pre : List Int) (x : Int) (rest : List Int) : rd (pre ++ x :: rest) (pre.length : Int) = x := by
  simp [rd]
theorem rd_nat (l : List Int) (i : Nat) : rd l (i : Int) = l.getD i 0 := by simp [rd]
theorem rd_getElem (l : List Int) (i : Nat) (h : i < l.length) : rd l (i : Int) = l[i] := by simp [rd, h]
theorem rd_mem (l : List Int) (i : Int) (h0 : 0 ≤ i) (h1 : i < (l.length : Int)) : rd l i ∈ l := by
  obtain ⟨n, rfl⟩ := Int.eq_ofNat_of_zero_le h0
  have h : n < l.length := by omega
  rw [rd_getElem l n h]
  exact List.getElem_mem h
/-- Numbers told as whole numbers. -/
def ints (L : List Nat) : List Int := L.map (fun x : Nat => (x : Int))
theorem toNat_map (L : List Nat) : (L.map (fun x : Nat => (x : Int))).map Int.toNat = L := by
  rw [List.map_map]
  conv => rhs; rw [← List.map_id L]
  exact List.map_congr_left (fun x _ => Int.toNat_natCast x)
theorem len_snoc (pre : List Int) (x : Int) : ((pre ++ [x]).length : Int) = (pre.length : Int) + 1 := by simp
theorem len_mid_lt (pre : List Int) (x : Int) (rest : List Int) : (pre.length : Int) < ((pre ++ x :: rest).length : Int) := by simp; omega
theorem len_end (pre : List Int) : ¬ (pre.length : Int) < ((pre ++ ([] : List Int)).length : Int) := by simp
theorem mid_assoc (pre : List Int) (x : Int) (rest : List Int) : pre ++ x :: rest = (pre ++ [x]) ++ rest := by simp

/-! ### going through a loop -/
/-- Downward: what holds at the end, and goes from i + 1 to i, holds at the start. -/
theorem down {P : Nat → Prop} (n : Nat) (hend : P n) (hstep : ∀ i, i < n → P (i + 1) → P i) : P 0 := by
  have h : ∀ d, d ≤ n → P (n - d) := by
    intro d
    induction d with
    | zero => intro _; exact hend
    | succ d ih =>
      intro hd
      apply hstep (n - (d + 1)) (by omega)
      rw [show n - (d + 1) + 1 = n - d from by omega]
      exact ih (by omega)
  have := h n (Nat.le_refl _)
  rwa [Nat.sub_self] at this
theorem w_succ {i n : Nat} (h : i < n) (hn : n ≤ 17592186044416) : wrap64 ((i : Int) + 1) = ((i + 1 : Nat) : Int) := by
  rw [wrap64_of (by omega) (by omega)]; rfl
theorem drop_cons {α : Type} (l : List α) (i : Nat) (h : i < l.length) : l.drop i = l[i] :: l.drop (i + 1) := List.drop_eq_getElem_cons h
theorem drop_end {α : Type} (l : List α) : l.drop l.length = [] := List.drop_length
theorem take_snoc {α : Type} (l : List α) (i : Nat) (h : i < l.length) : l.take (i + 1) = l.take i ++ [l[i]] := by
  rw [List.take_succ_eq_append_getElem h]

end Go.Proofs.Ythpjhnfmafmanaa.Z

namespace Go.Proofs.Ythpjhnfmafmanaa.Z
open Go Go.RowKit Go.Proofs.YthpjhnfmafmanaaW.PrintWords Go.Proofs.YthpjhnfmafmanaaW.PrintMore

theorem i64_wrap_nat {n : Nat} (h : n < 9223372036854775808) : IntKind.i64.wrap (n : Int) = (n : Int) := by
  rw [IntKind.wrap_i64]; omega
theorem i64_keep (n : Int) (h0 : 0 ≤ n) (h1 : n < 2 ^ 63) : IntKind.i64.wrap n = n := by
  rw [IntKind.wrap_i64]; omega
theorem and_nat {a b : Nat} (ha : a < 2 ^ 63) (hb : b < 2 ^ 63) : Go.bits .and .i64 (a : Int) (b : Int) = ((a &&& b : Nat) : Int) := (bits_nat .i64 63 (by decide) i64_keep a b ha hb).1
theorem or_nat {a b : Nat} (ha : a < 2 ^ 63) (hb : b < 2 ^ 63) : Go.bits .or .i64 (a : Int) (b : Int) = ((a ||| b : Nat) : Int) := (bits_nat .i64 63 (by decide) i64_keep a b ha hb).2
theorem xor_nat {a b : Nat} (ha : a < 2 ^ 63) (hb : b < 2 ^ 63) : Go.bits .xor .i64 (a : Int) (b : Int) = ((a ^^^ b : Nat) : Int) := by
  have e1 : a % 2 ^ IntKind.i64.bits = a := Nat.mod_eq_of_lt (Nat.lt_of_lt_of_le ha (by decide))
  have e2 : b % 2 ^ IntKind.i64.bits = b := Nat.mod_eq_of_lt (Nat.lt_of_lt_of_le hb (by decide))
  have h := Nat.xor_lt_two_pow ha hb
  simp only [Go.bits, BitVec.ofInt_natCast, BitVec.toNat_xor, BitVec.toNat_ofNat, e1, e2]
  exact i64_wrap_nat h
/-- The difference of two sets. -/
def dif (a b : Nat) : Nat := a ^^^ (a &&& b)
theorem dif_bit (a b i : Nat) : (dif a b).testBit i = (a.testBit i && !b.testBit i) := by
  simp only [dif, Nat.testBit_xor, Nat.testBit_and]
  cases a.testBit i <;> cases b.testBit i <;> rfl
theorem andNot_nat {a b : Nat} (ha : a < 2 ^ 63) (hb : b < 2 ^ 63) : Go.bits .andNot .i64 (a : Int) (b : Int) = ((dif a b : Nat) : Int) := by
  have e1 : a % 2 ^ IntKind.i64.bits = a := Nat.mod_eq_of_lt (Nat.lt_of_lt_of_le ha (by decide))
  have e2 : b % 2 ^ IntKind.i64.bits = b := Nat.mod_eq_of_lt (Nat.lt_of_lt_of_le hb (by decide))
  have key : a &&& (2 ^ IntKind.i64.bits - 1 - b) = dif a b := by
    apply Nat.eq_of_testBit_eq
    intro i
    have hb' : (2 ^ IntKind.i64.bits - 1 - b).testBit i = (decide (i < 64) && !b.testBit i) := by
      have : 2 ^ IntKind.i64.bits - 1 - b = 2 ^ 64 - (b + 1) := by
        show 2 ^ 64 - 1 - b = 2 ^ 64 - (b + 1)
        omega
      rw [this, Nat.testBit_two_pow_sub_succ (Nat.lt_of_lt_of_le hb (by decide))]
    rw [dif_bit, Nat.testBit_and, hb']
    by_cases hi : i < 64
    · simp [hi]
    · have : a.testBit i = false := Nat.testBit_lt_two_pow (Nat.lt_of_lt_of_le ha (Nat.pow_le_pow_right (by decide) (by omega)))
      simp [this]
  have hlt : dif a b < 9223372036854775808 := Nat.xor_lt_two_pow ha (Nat.and_lt_two_pow _ hb)
  simp only [Go.bits, BitVec.ofInt_natCast, BitVec.toNat_and, BitVec.toNat_not, BitVec.toNat_ofNat, e1, e2]
  rw [key]
  exact i64_wrap_nat hlt
theorem shl_one {y : Nat} (h : y < 63) : shl .i64 1 (y : Int) = ((2 ^ y : Nat) : Int) := by
  unfold shl
  have : min (y : Int).toNat IntKind.i64.bits = y := by simp [IntKind.bits]; omega
  rw [this]
  have h2 : (2 ^ y : Nat) < 9223372036854775808 := by
    have := Nat.pow_lt_pow_right (a := 2) (by decide) h
    simpa using this
  have h3 : (1 : Int) * 2 ^ y = ((2 ^ y : Nat) : Int) := by simp
  rw [h3]
  exact i64_wrap_nat h2
theorem shr_nat {a y : Nat} (ha : a < 2 ^ 63) : shr .i64 (a : Int) (y : Int) = ((a >>> y : Nat) : Int) := by
  unfold shr
  rw [Int.toNat_natCast, Nat.shiftRight_eq_div_pow]
  simp only [IntKind.bits]
  by_cases h : y ≤ 64
  · rw [Nat.min_eq_left h]; simp
  · rw [Nat.min_eq_right (by omega)]
    have h1 : a / 2 ^ y = 0 := Nat.div_eq_of_lt (Nat.lt_of_lt_of_le ha (Nat.pow_le_pow_right (by decide) (by omega)))
    rw [h1]
    have h2 : a / 2 ^ 64 = 0 := Nat.div_eq_of_lt (Nat.lt_of_lt_of_le ha (by decide))
    have h3 : (a : Int) / 2 ^ 64 = ((a / 2 ^ 64 : Nat) : Int) := by simp
    rw [h3, h2]
/-- The bit test, as both texts spell it. -/
theorem bit_nat {a y : Nat} (ha : a < 2 ^ 63) : ((Go.bits .and .i64 (shr .i64 (a : Int) (y : Int)) 1) == 1) = a.testBit y := by
  rw [shr_nat ha]
  have h : a >>> y < 2 ^ 63 := by
    rw [Nat.shiftRight_eq_div_pow]; exact Nat.lt_of_le_of_lt (Nat.div_le_self _ _) ha
  have e := and_nat (b := 1) h (by decide)
  rw [show ((1 : Nat) : Int) = 1 from rfl] at e
  rw [e, Nat.testBit]
  have hb : (a >>> y) &&& 1 = 0 ∨ (a >>> y) &&& 1 = 1 := by
    rw [Nat.and_one_is_mod]; omega
  have hc : 1 &&& (a >>> y) = (a >>> y) &&& 1 := Nat.and_comm _ _
  rw [hc]
  rcases hb with hb | hb <;> rw [hb] <;> rfl
theorem bit_natP {a y : Nat} (ha : a < 2 ^ 63) : ((Go.bits .and .i64 (shr .i64 (a : Int) (y : Int)) 1) = 1) ↔ a.testBit y = true := by
  rw [← bit_nat ha]; simp

theorem dif_zero {t s : Nat} : dif t s = 0 ↔ t &&& s = t := by
  constructor
  · intro h
    apply Nat.eq_of_testBit_eq
    intro i
    have := congrArg (fun x => Nat.testBit x i) h
    simp only [dif_bit, Nat.zero_testBit] at this
    rw [Nat.testBit_and]
    cases ht : t.testBit i
    · rfl
    · rw [ht] at this
      cases hs : s.testBit i
      · rw [hs] at this; cases this
      · rfl
  · intro h
    unfold dif
    rw [h, Nat.xor_self]

/-! ### sets of at most eight elements -/
/-- The elements of a set. -/
def els (s : Nat) : List Nat := (List.range 8).filter (fun e => s.testBit e)
/-- How many elements a set has. -/
def pc (s : Nat) : Nat := (els s).length
/-- s is a set of n elements. -/
def isSetB (n s : Int) : Bool := decide (0 ≤ n) && decide (n ≤ 8) && (decide (0 ≤ s) && decide (s < 2 ^ n.toNat))
def isAnyB (s : Int) : Bool := decide (0 ≤ s) && decide (s < 256)
def hasB (s e : Int) : Bool := isAnyB s && (decide (0 ≤ e) && decide (e < 8)) && s.toNat.testBit e.toNat
theorem mem_els {s e : Nat} : e ∈ els s ↔ e < 8 ∧ s.testBit e = true := by simp [els]
theorem pow_le_256 {n : Nat} (h : n ≤ 8) : 2 ^ n ≤ 256 := by
  have := Nat.pow_le_pow_right (n := 2) (by decide) h
  simpa using this
theorem isSetB_lt {n s : Int} (h : isSetB n s = true) : ∃ (m t : Nat), n = m ∧ s = t ∧ m ≤ 8 ∧ t < 2 ^ m ∧ t < 256 := by
  simp only [isSetB, Bool.and_eq_true, decide_eq_true_eq] at h
  obtain ⟨⟨h0, h8⟩, hs0, hs1⟩ := h
  obtain ⟨m, rfl⟩ := Int.eq_ofNat_of_zero_le h0
  obtain ⟨t, rfl⟩ := Int.eq_ofNat_of_zero_le hs0
  have hm : m ≤ 8 := by omega
  have ht : t < 2 ^ m := by
    rw [Int.toNat_natCast] at hs1
    exact_mod_cast hs1
  exact ⟨m, t, rfl, rfl, hm, ht, Nat.lt_of_lt_of_le ht (pow_le_256 hm)⟩
theorem isSetB_nat {m t : Nat} : isSetB (m : Int) (t : Int) = (decide (m ≤ 8) && decide (t < 2 ^ m)) := by
  unfold isSetB
  rw [Int.toNat_natCast, Bool.eq_iff_iff]
  simp only [Bool.and_eq_true, decide_eq_true_eq]
  constructor
  · rintro ⟨⟨_, h⟩, _, h'⟩; exact ⟨by omega, by exact_mod_cast h'⟩
  · rintro ⟨h, h'⟩; exact ⟨⟨by omega, by omega⟩, by omega, by exact_mod_cast h'⟩
theorem isAnyB_nat {t : Nat} : isAnyB (t : Int) = decide (t < 256) := by
  unfold isAnyB
  rw [Bool.eq_iff_iff]
  simp only [Bool.and_eq_true, decide_eq_true_eq]
  omega
theorem hasB_nat {s e : Nat} : hasB (s : Int) (e : Int) = (decide (s < 256) && decide (e < 8) && s.testBit e) := by
  unfold hasB
  rw [isAnyB_nat, Int.toNat_natCast, Int.toNat_natCast]
  have : (decide (0 ≤ (e : Int)) && decide ((e : Int) < 8)) = decide (e < 8) := by
    rw [Bool.eq_iff_iff]; simp only [Bool.and_eq_true, decide_eq_true_eq]; omega
  rw [this]
theorem lt256_63 {s : Nat} (h : s < 256) : s < 2 ^ 63 := Nat.lt_of_lt_of_le h (by decide)
end Go.Proofs.Ythpjhnfmafmanaa.Z
