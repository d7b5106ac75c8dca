/- Plain facts on numbers, sets and lists that the law FnRenamed leans on. Conditions: those in each lemma. -/
import Derived.Laws.BitsLemmas
import Derived.Shelf.Slices.CompactI
import Derived.Shelf.Slices.In.SortNone
import Derived.Shelf.Sort.Plain
import Derived.Sort.Grow
import Derived.Test.YtbdloopelidneaaGreatMFnRenamedwMore
import Derived.Test.YtbdloopelidneaaGreatMFnRenamedwWords
namespace Go.Proofs.YtbdloopelidneaaGreat.Z
open Go Go.RowKit Go.Proofs.YtbdloopelidneaaGreatW.PrintWords Go.Proofs.YtbdloopelidneaaGreatW.PrintMore
theorem Ev.at {α : Type} {g : Nat → Option α} {r : α} (h : Ev g r) : ∃ K, ∀ k, K ≤ k → g k = some r := h
theorem Ev.ifp {α : Type} {c : Prop} [Decidable c] {g f : Nat → Option α} {r : α} (hc : c) (h : Ev g r) : Ev (fun k => if c then g k else f k) r := by
 simpa only [if_pos hc] using h
theorem Ev.ifn {α : Type} {c : Prop} [Decidable c] {g f : Nat → Option α} {r : α} (hc : ¬ c) (h : Ev f r) : Ev (fun k => if c then g k else f k) r := by
 simpa only [if_neg hc] using h
theorem Ev.cbind {α β : Type} {g : Option α} {f : Nat → α → Option β} {a : α} {r : β} (h : g = some a) (k : Ev (fun n => f n a) r) : Ev (fun n => g.bind (f n)) r := by
 subst h
 simpa only [Option.bind_some] using k
theorem b4 {n : Int} (h0 : -9223372036854775808 ≤ n) (h1 : n < 9223372036854775808) : wrap64 n = n := by unfold wrap64; omega
theorem fQ {n : Int} (h0 : 0 ≤ n) (h1 : n < 18446744073709551616) : IntKind.u64.wrap n = n := by
 simp [IntKind.wrap, IntKind.bits, IntKind.signed]
 omega
theorem dt (n : Int) : 0 ≤ IntKind.u64.wrap n := by
 simp [IntKind.wrap, IntKind.bits, IntKind.signed]
 omega
theorem fU (l : List Int) (i : Nat) : rd l (i : Int) = l.getD i 0 := by simp [rd]
theorem bK (l : List Int) (i : Nat) (h : i < l.length) : rd l (i : Int) = l[i] := by simp [rd, h]
theorem m6 (l : List Int) (i : Int) (h0 : 0 ≤ i) (h1 : i < (l.length : Int)) : rd l i ∈ l := by
 obtain ⟨n, rfl⟩ := Int.eq_ofNat_of_zero_le h0; have h : n < l.length := by omega
 rw [bK l n h]; exact List.getElem_mem h
def ints (L : List Nat) : List Int := L.map (fun x : Nat => (x : Int))
theorem cK (L : List Nat) : (L.map (fun x : Nat => (x : Int))).map Int.toNat = L := by
 rw [List.map_map]
 conv => rhs; rw [← List.map_id L]
 exact List.map_congr_left (fun x _ => Int.toNat_natCast x)
theorem dP {i n : Nat} (h : i < n) : List.range' i (n - i) = i :: List.range' (i + 1) (n - (i + 1)) := by
 rw [show n - i = (n - (i + 1)) + 1 from by omega, List.range'_succ]
theorem down {P : Nat → Prop} (n : Nat) (hend : P n) (hstep : ∀ i, i < n → P (i + 1) → P i) : P 0 := by
 have h : ∀ d, d ≤ n → P (n - d) := by
  intro d
  induction d with
  | zero => intro _; exact hend
  | succ d ih =>
   intro hd
   apply hstep (n - (d + 1)) (by omega)
   rw [show n - (d + 1) + 1 = n - d from by omega]; exact ih (by omega)
 have := h n (Nat.le_refl _)
 rwa [Nat.sub_self] at this
theorem ck {i n : Nat} (h : i < n) (hn : n ≤ 17592186044416) : wrap64 ((i : Int) + 1) = ((i + 1 : Nat) : Int) := by
 rw [b4 (by omega) (by omega)]; rfl
theorem cH {α : Type} (l : List α) (i : Nat) (h : i < l.length) : l.drop i = l[i] :: l.drop (i + 1) := List.drop_eq_getElem_cons h
theorem dx {α : Type} (l : List α) : l.drop l.length = [] := List.drop_length
theorem fA {α : Type} (l : List α) (i : Nat) (h : i < l.length) : l.take (i + 1) = l.take i ++ [l[i]] := by
 rw [List.take_succ_eq_append_getElem h]
theorem em {n : Nat} (h : n < 9223372036854775808) : IntKind.i64.wrap (n : Int) = (n : Int) := by
 rw [IntKind.wrap_i64]; omega
theorem ki (n : Int) (h0 : 0 ≤ n) (h1 : n < 2 ^ 63) : IntKind.i64.wrap n = n := by
 rw [IntKind.wrap_i64]; omega
theorem jr {a b : Nat} (ha : a < 2 ^ 63) (hb : b < 2 ^ 63) : Go.bits .and .i64 (a : Int) (b : Int) = ((a &&& b : Nat) : Int) := (bits_nat .i64 63 (by decide) ki a b ha hb).1
theorem iq {a b : Nat} (ha : a < 2 ^ 63) (hb : b < 2 ^ 63) : Go.bits .or .i64 (a : Int) (b : Int) = ((a ||| b : Nat) : Int) := (bits_nat .i64 63 (by decide) ki a b ha hb).2
def dif (a b : Nat) : Nat := a ^^^ (a &&& b)
theorem dif_bit (a b i : Nat) : (dif a b).testBit i = (a.testBit i && !b.testBit i) := by
 simp only [dif, Nat.testBit_xor, Nat.testBit_and]; cases a.testBit i <;> cases b.testBit i <;> rfl
theorem fV {a b : Nat} (ha : a < 2 ^ 63) (hb : b < 2 ^ 63) : Go.bits .andNot .i64 (a : Int) (b : Int) = ((dif a b : Nat) : Int) := by
 have e1 : a % 2 ^ IntKind.i64.bits = a := Nat.mod_eq_of_lt (Nat.lt_of_lt_of_le ha (by decide)); have e2 : b % 2 ^ IntKind.i64.bits = b := Nat.mod_eq_of_lt (Nat.lt_of_lt_of_le hb (by decide)); have key : a &&& (2 ^ IntKind.i64.bits - 1 - b) = dif a b := by
  apply Nat.eq_of_testBit_eq
  intro i; have hb' : (2 ^ IntKind.i64.bits - 1 - b).testBit i = (decide (i < 64) && !b.testBit i) := by
   have : 2 ^ IntKind.i64.bits - 1 - b = 2 ^ 64 - (b + 1) := by
    show 2 ^ 64 - 1 - b = 2 ^ 64 - (b + 1)
    omega
   rw [this, Nat.testBit_two_pow_sub_succ (Nat.lt_of_lt_of_le hb (by decide))]
  rw [dif_bit, Nat.testBit_and, hb']; by_cases hi : i < 64
  ·simp [hi]
  ·have : a.testBit i = false := Nat.testBit_lt_two_pow (Nat.lt_of_lt_of_le ha (Nat.pow_le_pow_right (by decide) (by omega))); simp [this]
 have hlt : dif a b < 9223372036854775808 := Nat.xor_lt_two_pow ha (Nat.and_lt_two_pow _ hb); simp only [Go.bits, BitVec.ofInt_natCast, BitVec.toNat_and, BitVec.toNat_not, BitVec.toNat_ofNat, e1, e2]; rw [key]; exact em hlt
theorem eo {y : Nat} (h : y < 63) : shl .i64 1 (y : Int) = ((2 ^ y : Nat) : Int) := by
 unfold shl; have : min (y : Int).toNat IntKind.i64.bits = y := by simp [IntKind.bits]; omega
 rw [this]; have h2 : (2 ^ y : Nat) < 9223372036854775808 := by
  have := Nat.pow_lt_pow_right (a := 2) (by decide) h
  simpa using this
 have h3 : (1 : Int) * 2 ^ y = ((2 ^ y : Nat) : Int) := by simp
 rw [h3]; exact em h2
theorem kS {a y : Nat} (ha : a < 2 ^ 63) : shr .i64 (a : Int) (y : Int) = ((a >>> y : Nat) : Int) := by
 unfold shr; rw [Int.toNat_natCast, Nat.shiftRight_eq_div_pow]; simp only [IntKind.bits]; by_cases h : y ≤ 64
 ·rw [Nat.min_eq_left h]; simp
 ·rw [Nat.min_eq_right (by omega)]; have h1 : a / 2 ^ y = 0 := Nat.div_eq_of_lt (Nat.lt_of_lt_of_le ha (Nat.pow_le_pow_right (by decide) (by omega))); rw [h1]; have h2 : a / 2 ^ 64 = 0 := Nat.div_eq_of_lt (Nat.lt_of_lt_of_le ha (by decide)); have h3 : (a : Int) / 2 ^ 64 = ((a / 2 ^ 64 : Nat) : Int) := by simp
  rw [h3, h2]
theorem jC {a y : Nat} (ha : a < 2 ^ 63) : ((Go.bits .and .i64 (shr .i64 (a : Int) (y : Int)) 1) == 1) = a.testBit y := by
 rw [kS ha]; have h : a >>> y < 2 ^ 63 := by
  rw [Nat.shiftRight_eq_div_pow]; exact Nat.lt_of_le_of_lt (Nat.div_le_self _ _) ha
 have e := jr (b := 1) h (by decide); rw [show ((1 : Nat) : Int) = 1 from rfl] at e; rw [e, Nat.testBit]; have hb : (a >>> y) &&& 1 = 0 ∨ (a >>> y) &&& 1 = 1 := by
  rw [Nat.and_one_is_mod]; omega
 have hc : 1 &&& (a >>> y) = (a >>> y) &&& 1 := Nat.and_comm _ _; rw [hc]; rcases hb with hb | hb <;> rw [hb] <;> rfl
theorem io {a y : Nat} (ha : a < 2 ^ 63) : ((Go.bits .and .i64 (shr .i64 (a : Int) (y : Int)) 1) = 1) ↔ a.testBit y = true := by
 rw [← jC ha]; simp
def els (s : Nat) : List Nat := (List.range 8).filter (fun e => s.testBit e)
def pc (s : Nat) : Nat := (els s).length
def dH (n s : Int) : Bool := decide (0 ≤ n) && decide (n ≤ 8) && (decide (0 ≤ s) && decide (s < 2 ^ n.toNat))
def eZ (s : Int) : Bool := decide (0 ≤ s) && decide (s < 256)
def hasB (s e : Int) : Bool := eZ s && (decide (0 ≤ e) && decide (e < 8)) && s.toNat.testBit e.toNat
theorem gy {s e : Nat} : e ∈ els s ↔ e < 8 ∧ s.testBit e = true := by simp [els]
theorem cW {n : Nat} (h : n ≤ 8) : 2 ^ n ≤ 256 := by
 have := Nat.pow_le_pow_right (n := 2) (by decide) h
 simpa using this
theorem fB {n s : Int} (h : dH n s = true) : ∃ (m t : Nat), n = m ∧ s = t ∧ m ≤ 8 ∧ t < 2 ^ m ∧ t < 256 := by
 simp only [dH, Bool.and_eq_true, decide_eq_true_eq] at h; obtain ⟨⟨h0, h8⟩, hs0, hs1⟩ := h; obtain ⟨m, rfl⟩ := Int.eq_ofNat_of_zero_le h0; obtain ⟨t, rfl⟩ := Int.eq_ofNat_of_zero_le hs0; have hm : m ≤ 8 := by omega
 have ht : t < 2 ^ m := by
  rw [Int.toNat_natCast] at hs1
  exact_mod_cast hs1
 exact ⟨m, t, rfl, rfl, hm, ht, Nat.lt_of_lt_of_le ht (cW hm)⟩
theorem kB {m t : Nat} : dH (m : Int) (t : Int) = (decide (m ≤ 8) && decide (t < 2 ^ m)) := by
 unfold dH; rw [Int.toNat_natCast, Bool.eq_iff_iff]; simp only [Bool.and_eq_true, decide_eq_true_eq]
 constructor
 ·rintro ⟨⟨_, h⟩, _, h'⟩; exact ⟨by omega, by exact_mod_cast h'⟩
 ·rintro ⟨h, h'⟩; exact ⟨⟨by omega, by omega⟩, by omega, by exact_mod_cast h'⟩
theorem ii {t : Nat} : eZ (t : Int) = decide (t < 256) := by
 unfold eZ; rw [Bool.eq_iff_iff]; simp only [Bool.and_eq_true, decide_eq_true_eq]; omega
theorem mf {s e : Nat} : hasB (s : Int) (e : Int) = (decide (s < 256) && decide (e < 8) && s.testBit e) := by
 unfold hasB; rw [ii, Int.toNat_natCast, Int.toNat_natCast]; have : (decide (0 ≤ (e : Int)) && decide ((e : Int) < 8)) = decide (e < 8) := by
  rw [Bool.eq_iff_iff]; simp only [Bool.and_eq_true, decide_eq_true_eq]; omega
 rw [this]
theorem cG {s : Nat} (h : s < 256) : s < 2 ^ 63 := Nat.lt_of_lt_of_le h (by decide)
theorem mF : ∀ x < 256, pc x = x % 2 + pc (x / 2) := by decide +kernel
theorem nn (s : Nat) : pc s ≤ 8 := by
 unfold pc els; exact Nat.le_trans (List.length_filter_le _ _) (by simp)
theorem mT : pc 0 = 0 := by decide
theorem lX : ∀ a < 256, ∀ e < 8, ∀ f < 8, (!(a.testBit e && !a.testBit f) || (decide (a - 2 ^ e + 2 ^ f = dif a (2 ^ e) ||| 2 ^ f) && decide (2 ^ e ≤ a) && decide (dif a (2 ^ e) ||| 2 ^ f < 256))) = true := by decide +kernel
theorem kv {a e f : Nat} (ha : a < 256) (he : e < 8) (hf : f < 8) (h1 : a.testBit e = true) (h2 : a.testBit f = false) : a - 2 ^ e + 2 ^ f = dif a (2 ^ e) ||| 2 ^ f ∧ 2 ^ e ≤ a ∧ dif a (2 ^ e) ||| 2 ^ f < 256 := by
 have h := lX a ha e he f hf; rw [h1, h2] at h; simp only [Bool.not_false, Bool.and_self, Bool.not_true, Bool.false_or, Bool.and_eq_true, decide_eq_true_eq] at h; exact ⟨h.1.1, h.1.2, h.2⟩
theorem kC {a b : Nat} (ha : a < 256) : dif a b < 256 := by
 have h : dif a b ≤ a := by
  apply Nat.le_of_testBit
  intro i hi; rw [dif_bit] at hi; simp only [Bool.and_eq_true] at hi; exact hi.1
 omega
def subN (s t : Nat) : Prop := s &&& t = s
instance (s t : Nat) : Decidable (subN s t) := inferInstanceAs (Decidable (_ = _))
end Go.Proofs.YtbdloopelidneaaGreat.Z
namespace Go.Proofs.YtbdloopelidneaaGreat.Z
open Go Go.RowKit Go.Sort Go.Proofs.YtbdloopelidneaaGreatW.PrintWords Go.Proofs.YtbdloopelidneaaGreatW.PrintMore
def jf (l : List Int) : List Int := Lib.compact (l.mergeSort fun x y => decide (x ≤ y))
theorem gL (d : Array Int) (h : ∀ i j, i ≤ j → j < d.size → d[i]! ≤ d[j]!) : ∀ m, m ≤ d.size → (Lib.compactUpTo d m).Pairwise (· < ·) ∧ ∀ a, a ∈ Lib.compactUpTo d m ↔ ∃ j, j < m ∧ d[j]! = a := by
 intro m
 induction m with
 | zero =>
  intro _; refine ⟨by simp [Lib.compactUpTo], fun a => ?_⟩; simp [Lib.compactUpTo]
 | succ m ih =>
  intro hm; obtain ⟨h1, h2⟩ := ih (by omega); rw [Lib.compactUpTo_succ]; by_cases hk : Lib.keeps d m = true
  ·rw [hk, if_pos rfl]
   constructor
   ·rw [List.pairwise_append]; refine ⟨h1, by simp, fun a ha b hb => ?_⟩; simp only [List.mem_singleton] at hb; subst hb; obtain ⟨j, hj, rfl⟩ := (h2 a).1 ha; have hne : d[m]! ≠ d[m - 1]! := by
     have hk' := hk; simp only [Lib.keeps, decide_eq_true_eq] at hk'; rcases hk' with h0 | h0
     ·omega
     ·exact h0
    have k1 := h j (m - 1) (by omega) (by omega); have k2 := h (m - 1) m (by omega) (by omega); omega
   ·intro a; rw [List.mem_append, h2 a, List.mem_singleton]
    constructor
    ·rintro (⟨j, hj, rfl⟩ | rfl)
     ·exact ⟨j, by omega, rfl⟩
     ·exact ⟨m, by omega, rfl⟩
    ·rintro ⟨j, hj, rfl⟩; by_cases he : j = m
     ·subst he; exact .inr rfl
     ·exact .inl ⟨j, by omega, rfl⟩
  ·have hk' := Bool.eq_false_iff.2 hk; rw [hk', if_neg (by decide), List.append_nil]; refine ⟨h1, fun a => ?_⟩; rw [h2 a]
   constructor
   ·rintro ⟨j, hj, rfl⟩; exact ⟨j, by omega, rfl⟩
   ·rintro ⟨j, hj, rfl⟩; by_cases he : j = m
    ·subst he; simp only [Lib.keeps, decide_eq_false_iff_not] at hk'; rw [not_or, Classical.not_not] at hk'; exact ⟨j - 1, by omega, hk'.2.symm⟩
    ·exact ⟨j, by omega, rfl⟩
theorem iy (l : List Int) : (jf l).Pairwise (· < ·) ∧ ∀ a, a ∈ jf l ↔ a ∈ l := by
 unfold jf Lib.compact; have hs : (l.mergeSort fun x y => decide (x ≤ y)).Pairwise (fun x y => x ≤ y) := by
  have := List.pairwise_mergeSort (le := fun (x y : Int) => decide (x ≤ y)) (fun a b c h1 h2 => by simp only [decide_eq_true_eq] at *; omega) (fun a b => by simp only [Bool.or_eq_true, decide_eq_true_eq]; omega) l; exact this.imp (fun h => of_decide_eq_true h)
 have hp := List.mergeSort_perm l (fun x y => decide (x ≤ y)); generalize (l.mergeSort fun x y => decide (x ≤ y)) = zs at hs hp; have hg : ∀ i, i < zs.length → zs.toArray[i]! = zs[i]! := fun i hi => by simp
 have hz : ∀ i, ∀ h : i < zs.length, zs.toArray[i]! = zs[i] := fun i hi => by simp [hi]
 obtain ⟨h1, h2⟩ := gL zs.toArray (fun i j hij hj => by
  have hj' : j < zs.length := by simpa using hj
  rw [hz i (by omega), hz j hj']; rcases Nat.lt_or_ge i j with hlt | hge
  ·exact List.pairwise_iff_getElem.1 hs i j (by omega) hj' hlt
  ·have : i = j := by omega
   subst this; exact Int.le_refl _) zs.length (by simp)
 refine ⟨h1, fun a => ?_⟩; rw [h2 a, ← hp.mem_iff, List.mem_iff_getElem]
 constructor
 ·rintro ⟨j, hj, rfl⟩; exact ⟨j, hj, (hz j hj).symm⟩
 ·rintro ⟨j, hj, rfl⟩; exact ⟨j, hj, hz j hj⟩
theorem jL (zs : List Int) : (Lib.compact zs).length ≤ zs.length := by
 unfold Lib.compact Lib.compactUpTo; rw [List.length_map]; exact Nat.le_trans (List.length_filter_le _ _) (by rw [List.length_range]; exact Nat.le_refl _)
end Go.Proofs.YtbdloopelidneaaGreat.Z
namespace Go.Proofs.YtbdloopelidneaaGreat.Z
open Go Go.RowKit Go.Proofs.YtbdloopelidneaaGreatW.PrintWords Go.Proofs.YtbdloopelidneaaGreatW.PrintMore
def bt1 (s i : Nat) : Nat := if s.testBit i then 1 else 0
def swp (a e f : Nat) : Nat := dif a (2 ^ e) ||| 2 ^ f
theorem swp_bit (a e f i : Nat) : (swp a e f).testBit i = ((a.testBit i && !decide (e = i)) || decide (f = i)) := by
 unfold swp; rw [Nat.testBit_or, dif_bit, Nat.testBit_two_pow, Nat.testBit_two_pow]
theorem lf (a f i : Nat) : (a ||| 2 ^ f).testBit i = (a.testBit i || decide (f = i)) := by
 rw [Nat.testBit_or, Nat.testBit_two_pow]
def Exch (L : List Nat) : Prop := ∀ a ∈ L, ∀ b ∈ L, ∀ e, e < 8 → a.testBit e = true → b.testBit e = false → ∃ f, f < 8 ∧ b.testBit f = true ∧ a.testBit f = false ∧ swp a e f ∈ L
structure Mat (m : Nat) (L : List Nat) : Prop where
 size : m ≤ 8
 sets : ∀ b ∈ L, b < 2 ^ m
 some : L ≠ []
 exch : Exch L
variable {m : Nat} {L : List Nat}
theorem Mat.lt (h : Mat m L) : ∀ b ∈ L, b < 256 := fun b hb => Nat.lt_of_lt_of_le (h.sets b hb) (cW h.size)
theorem ic (A : Option Addr) (x y c : Nat) : (Value.slice A x c).ownBlock = (Value.slice A y c).ownBlock := by cases A <;> rfl
def idxO (g : Int → Option Bool) : List Int → Nat → Option Int
 | [], _ => some (-1)
 | x :: xs, i => (g x).bind fun b => if b = true then some (i : Int) else idxO g xs (i + 1)
def anyO (g : Int → Option Bool) : List Int → Option Bool
 | [] => some false
 | x :: xs => (g x).bind fun b => if b = true then some true else anyO g xs
theorem lD (g : Int → Option Bool) : ∀ (l : List Int) (i : Nat) (b : Bool), anyO g l = some b → ∃ r, idxO g l i = some r ∧ decide (r ≥ 0) = b := by
 intro l
 induction l with
 | nil => intro i b h; simp only [anyO, Option.some.injEq] at h; subst h; exact ⟨-1, rfl, rfl⟩
 | cons x xs ih =>
  intro i b h; simp only [anyO] at h; obtain ⟨y, hy, h⟩ := Option.bind_eq_some_iff.1 h; simp only [idxO, hy, Option.bind_some]; by_cases hb : y = true
  ·rw [if_pos hb] at h ⊢; simp only [Option.some.injEq] at h; exact ⟨(i : Int), rfl, by rw [← h]; simp⟩
  ·rw [if_neg hb] at h ⊢; exact ih (i + 1) b h
def fj (x m : Int) : List Int := (List.range' x.toNat ((m + 1).toNat - x.toNat)).map (fun i : Nat => (i : Int))
theorem jF {x m : Int} (h0 : 0 ≤ x) (h : x ≤ m) : fj x m = x :: fj (x + 1) m := by
 unfold fj; rw [show (m + 1).toNat - x.toNat = ((m + 1).toNat - (x + 1).toNat) + 1 from by omega, List.range'_succ, List.map_cons, show x.toNat + 1 = (x + 1).toNat from by omega]
 congr 1
 omega
theorem ko {x m : Int} (h0 : 0 ≤ x) (h : ¬ x ≤ m) : fj x m = [] := by
 unfold fj; rw [show (m + 1).toNat - x.toNat = 0 from by omega]
 rfl
theorem mx {g : Nat → Int → Option Bool} {p : Int → Bool} : ∀ {l : List Int}, (∀ x ∈ l, Ev (fun k => g k x) (p x)) → Ev (fun k => anyO (g k) l) (l.any p) := by
 intro l
 induction l with
 | nil => intro _; exact Ev.now _
 | cons x l ih =>
  intro h; simp only [anyO, List.any_cons]; refine Ev.bind (h x (List.mem_cons_self ..)) ?_; by_cases hp : p x = true
  ·refine Ev.ifp hp ?_; rw [hp, Bool.true_or]; exact Ev.now _
  ·refine Ev.ifn hp ?_; rw [Bool.eq_false_iff.2 hp, Bool.false_or]; exact ih (fun y hy => h y (List.mem_cons_of_mem _ hy))
theorem gv (l : List Int) (x : Int) (h0 : 0 ≤ x) (h1 : x < (l.length : Int)) : l.drop x.toNat = rd l x :: l.drop (x + 1).toNat := by
 obtain ⟨i, rfl⟩ := Int.eq_ofNat_of_zero_le h0; have hi : i < l.length := by omega
 rw [Int.toNat_natCast, show ((i : Int) + 1).toNat = i + 1 from by omega, cH l i hi, bK l i hi]
theorem ek (l : List Int) (x : Int) (h1 : ¬ x < (l.length : Int)) : l.drop x.toNat = [] := List.drop_eq_nil_of_le (by omega)
end Go.Proofs.YtbdloopelidneaaGreat.Z
namespace Go.Proofs.YtbdloopelidneaaGreat.Z
open Go Go.RowKit Go.Sort Go.Proofs.YtbdloopelidneaaGreatW.PrintWords Go.Proofs.YtbdloopelidneaaGreatW.PrintMore
theorem l7 {w : World} {g : Nat} {cur : Array Value} {e : TypeId} (h : w.heap[g]? = some (.cells cur e (0, 0))) (n : Nat) (d : Array Int) (os : Array Obj) :
  (grow (putRow (Value.int .i64) (Sort.ahead w n) g 0 d) os).heap[g]? = some (.cells (putCells (Value.int .i64) 0 d cur) e (0, 0)) := by
 have hlt : g < w.heap.size := by
  refine Classical.byContradiction fun hc => ?_
  rw [Array.getElem?_eq_none (by omega)] at h; cases h
 rw [heap_grow_old _ _ (by rw [size_putRow]; exact hlt)]
 show ((Sort.ahead w n).heap.modify g (onCells (putCells (Value.int .i64) 0 d)))[g]? = _
 rw [Array.getElem?_modify, if_pos rfl]
 show Option.map _ (w.heap[g]?) = _
 rw [h]; rfl
theorem mV {w : World} {g k : Nat} (hk : k ≠ g) (hlt : k < w.heap.size) (n : Nat) (d : Array Int) (os : Array Obj) :
  (grow (putRow (Value.int .i64) (Sort.ahead w n) g 0 d) os).heap[k]? = w.heap[k]? := by
 rw [heap_grow_old _ _ (by rw [size_putRow]; exact hlt)]
 show ((Sort.ahead w n).heap.modify g (onCells (putCells (Value.int .i64) 0 d)))[k]? = _
 rw [Array.getElem?_modify, if_neg (fun h => hk h.symm)]; rfl
theorem jk {B : Nat} {w0 w : World} {g : Nat} (h : Below B w0 w) (hg : B ≤ g) (hB : B ≤ w.heap.size) (n : Nat) (d : Array Int) (os : Array Obj) : Below B w0 (grow (putRow (Value.int .i64) (Sort.ahead w n) g 0 d) os) := by
 refine ⟨h.os, h.tape, h.output, ?_, fun k hk => ?_⟩
 ·rw [size_grow, size_putRow]; have := h.size
  show w0.heap.size ≤ w.heap.size + os.size
  omega
 ·rw [mV (by omega) (by omega)]; exact h.block k hk
theorem ja {R : Int → List Value → Prop} (hR : ∀ p c, R p c ↔ c = [Value.int .i64 p]) : ∀ (xs : List Int) (cs : List Value), Reps R 1 xs cs ↔ cs = xs.map (Value.int .i64) := by
 intro xs cs
 constructor
 ·rintro ⟨h1, h2⟩
  apply List.ext_getElem
  ·rw [h1, List.length_map]; omega
  ·intro i k1 k2; have hi : i < xs.length := by simpa using k2
   have h3 := (hR _ _).1 (h2 i xs[i] (List.getElem?_eq_getElem hi)); rw [Nat.mul_one, List.drop_eq_getElem_cons k1] at h3; simp only [List.take_succ_cons, List.take_zero, List.cons.injEq, and_true] at h3; rw [h3, List.getElem_map]
 ·rintro rfl; refine ⟨by rw [List.length_map]; omega, fun j p hp => (hR _ _).2 ?_⟩; obtain ⟨hj, rfl⟩ := List.getElem?_eq_some_iff.1 hp; rw [Nat.mul_one, List.drop_eq_getElem_cons (by rw [List.length_map]; exact hj)]; simp
theorem jB {e : Nat} {w : World} {base : Nat} {ok : Nat → Prop} {v : Value} {xs : List Int} :
  Kd.R (Kd.int .i64) e w base ok v xs ↔ (∀ k, v.ownBlock = some k → ok k) ∧ w.ownsRow base e 1 v xs.length (xs.map (Value.int .i64)) := by
 constructor
 ·rintro ⟨h0, inner, ho, hr⟩; refine ⟨h0, ?_⟩; rw [← (ja (fun p c => Iff.rfl) xs inner).1 hr]; exact ho
 ·rintro ⟨h0, ho⟩; exact ⟨h0, _, ho, (ja (fun p c => Iff.rfl) xs _).2 rfl⟩
theorem mv {d : Array Int} {cur : Array Value} (h : d.size ≤ cur.size) : (putCells (Value.int .i64) 0 d cur).toList.take d.size = d.toList.map (Value.int .i64) := by
 apply List.ext_getElem
 ·simp [putCells]; omega
 ·intro i h1 h2; have hi : i < d.size := by simpa using h2
  simp [putCells, hi]
theorem kW {e : Nat} {w : World} {base : Nat} {ok : Nat → Prop} {A : Option Addr} {c : Nat} {xs : List Int} (h : Kd.R (Kd.int .i64) e w base ok (.slice A xs.length c) xs) :
  (A = none ∧ xs = []) ∨ ∃ g, A = some ⟨g, 0, none⟩ ∧ base ≤ g ∧ g < w.heap.size ∧ xs.length ≤ c := by
 obtain ⟨_, h1, h2⟩ := jB.1 h; rcases h2 with ⟨hv, hn⟩ | ⟨g, cap, cur, hv, hg, hh, hc, _⟩
 ·injection hv with h3
  exact .inl ⟨h3, List.length_eq_zero_iff.1 hn⟩
 ·injection hv with h3 _ h4
  refine .inr ⟨g, h3, hg, ?_, by omega⟩; refine Classical.byContradiction fun hcn => ?_
  rw [Array.getElem?_eq_none (by omega)] at hh; cases hh
theorem kQ {e : Nat} {w : World} {base : Nat} {ok : Nat → Prop} {g c : Nat} {xs : List Int} (h : Kd.R (Kd.int .i64) e w base ok (.slice (some ⟨g, 0, none⟩) xs.length c) xs) : Holds (Value.int .i64) w g 0 xs.toArray := by
 obtain ⟨_, h1, h2⟩ := jB.1 h; rcases h2 with ⟨hv, _⟩ | ⟨g', cap, cur, hv, hg, hh, hc, _, hs, ht⟩
 ·cases hv
 ·injection hv with h3 _ h4
  injection h3 with h3
  injection h3 with h3
  subst h3; intro j hj; have hj' : j < xs.length := by simpa using hj
  rw [ab hh, ag hh, Nat.zero_add]; refine ⟨?_, rfl⟩; have h5 : cur.toList[j]? = some (Value.int .i64 xs[j]) := by
   have := congrArg (fun l : List Value => l[j]?) ht; simp only [Nat.mul_one] at this; rw [List.getElem?_take_of_lt hj'] at this; rw [this]; simp [hj']
  rw [← Array.getElem?_toList, h5]; simp [hj']
theorem j7 {e : Nat} {w : World} {base : Nat} {ok : Nat → Prop} {g c : Nat} {xs ys : List Int} (h : Kd.R (Kd.int .i64) e w base ok (.slice (some ⟨g, 0, none⟩) xs.length c) xs) (hy : ys.length = xs.length) (n : Nat) (os : Array Obj) :
  Kd.R (Kd.int .i64) e (grow (putRow (Value.int .i64) (Sort.ahead w n) g 0 ys.toArray) os) base ok (.slice (some ⟨g, 0, none⟩) ys.length c) ys := by
 obtain ⟨h0, h1, h2⟩ := jB.1 h; refine jB.2 ⟨fun k hk => h0 k hk, by rw [List.length_map]; omega, .inr ?_⟩; rcases h2 with ⟨hv, _⟩ | ⟨g', cap, cur, hv, hg, hh, hc, hm, hs, ht⟩
 ·cases hv
 ·injection hv with h3 _ h4
  injection h3 with h3
  injection h3 with h3
  subst h3; subst h4; refine ⟨g, c, _, rfl, hg, l7 hh n ys.toArray os, by omega, hm, ?_, ?_⟩
  ·rw [← hs]; simp [putCells]
  ·have := mv (d := ys.toArray) (cur := cur) (by simp; omega)
   simpa using this
theorem kN {e : Nat} {w : World} {base : Nat} {ok : Nat → Prop} {g c : Nat} {xs ys : List Int} (h : Kd.R (Kd.int .i64) e w base ok (.slice (some ⟨g, 0, none⟩) xs.length c) xs) (hy : ys.length = xs.length) (n : Nat) :
  Kd.R (Kd.int .i64) e (putRow (Value.int .i64) (Sort.ahead w n) g 0 ys.toArray) base ok (.slice (some ⟨g, 0, none⟩) ys.length c) ys := by
 have := j7 h hy n #[]
 rwa [grow_empty] at this
theorem kE {B : Nat} {w0 w : World} {g : Nat} (h : Below B w0 w) (hg : B ≤ g) (hB : B ≤ w.heap.size) (n : Nat) (d : Array Int) : Below B w0 (putRow (Value.int .i64) (Sort.ahead w n) g 0 d) := by
 have := jk h hg hB n d #[]
 rwa [grow_empty] at this
end Go.Proofs.YtbdloopelidneaaGreat.Z
