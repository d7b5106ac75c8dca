/- The pure side of the law FnAugmented: what the Lean functions of the print compute, and that the law holds of them. Conditions: those in each lemma. -/
import Derived.Test.YtimkekeaeojpkaaMFnAugmented1
import Derived.Test.YtimkekeaeojpkaaMFnAugmented2
import Derived.Test.YtimkekeaeojpkaaMFnAugmented3
import Derived.Test.YtimkekeaeojpkaaMFnAugmented4
import Derived.Test.YtimkekeaeojpkaaMFnAugmented5
import Derived.Test.YtimkekeaeojpkaaMFnAugmented6
import Derived.Test.YtimkekeaeojpkaaMFnAugmentedq0
import Derived.Test.YtimkekeaeojpkaaMFnAugmentedq1
namespace Go.Proofs.Ytimkekeaeojpkaa.Q
open Go Go.RowKit Go.Proofs.YtimkekeaeojpkaaW.PrintWords Go.Proofs.YtimkekeaeojpkaaW.PrintLast Go.Proofs.YtimkekeaeojpkaaW.PrintMore Go.Proofs.Ytimkekeaeojpkaa.Z
set_option linter.unusedVariables false
set_option linter.unusedSimpArgs false
section
variable {m : Nat} {d1 : Nat → Bool} {st : Nat → Nat → Bool}
theorem jD {j e : Nat} (h : lev m d1 st j e ≠ 0) : ∀ n, lev m d1 st (j + n) e = lev m d1 st j e := by
 intro n
 induction n with
 | zero => rfl
 | succ n ih =>
  show lev m d1 st ((j + n) + 1) e = _
  rw [eF (by rw [ih]; exact h), ih]
theorem kF : ∀ j e i, lev m d1 st j e = i + 1 → i ≤ j ∧ lev m d1 st i e = i + 1 := by
 intro j
 induction j with
 | zero =>
  intro e i h; have := iQ (m := m) (d1 := d1) (st := st) 0 e; obtain rfl : i = 0 := by omega
  exact ⟨Nat.le_refl _, h⟩
 | succ j ih =>
  intro e i h; by_cases h0 : lev m d1 st j e = 0
  ·have h2 := h; rw [lev, if_pos h0] at h; by_cases h3 : (List.range m).any (fun f => decide (lev m d1 st j f = j + 1) && st e f) = true
   ·rw [if_pos h3] at h; obtain rfl : i = j + 1 := by omega
    exact ⟨Nat.le_refl _, h2⟩
   ·rw [if_neg h3] at h; omega
  ·rw [eF h0] at h; obtain ⟨h1, h2⟩ := ih e i h; exact ⟨by omega, h2⟩
theorem lO {e f i : Nat} (he : e < m) (hf : f < m) (hs : st e f = true) (h : lev m d1 st (m - 1) f = i + 1) : lev m d1 st (m - 1) e ≠ 0 ∧ lev m d1 st (m - 1) e ≤ i + 2 := by
 rw [← jE he]; obtain ⟨h1, h2⟩ := kF _ _ _ h; have key : lev m d1 st (i + 1) e ≠ 0 ∧ lev m d1 st (i + 1) e ≤ i + 2 := by
  refine ⟨?_, iQ _ _⟩; rw [lev]; by_cases h0 : lev m d1 st i e = 0
  ·rw [if_pos h0, if_pos (List.any_eq_true.2 ⟨f, List.mem_range.2 hf, by rw [h2, hs]; simp⟩)]; omega
  ·rw [if_neg h0]; exact h0
 have := jD key.1 (m - (i + 1)); rw [show i + 1 + (m - (i + 1)) = m by omega] at this; rw [this]; exact key
theorem ku {e : Nat} (h : d1 e = true) (j : Nat) : lev m d1 st j e = 1 := by
 have h0 : lev m d1 st 0 e = 1 := by rw [lev, if_pos h]
 have := jD (m := m) (d1 := d1) (st := st) (j := 0) (e := e) (by omega) j; rw [Nat.zero_add] at this; rw [this, h0]
theorem mo {j e : Nat} (h : lev m d1 st j e = 1) : d1 e = true := by
 obtain ⟨_, h2⟩ := kF j e 0 h; rw [lev] at h2; cases hd : d1 e
 ·rw [hd] at h2; simp at h2
 ·rfl
end
section
variable {q : Nat → Bool} {lv : Nat → Nat}
def betM (lv : Nat → Nat) (e : Nat) : Option Nat → Bool
 | none => true
 | some b => decide (lv e < lv b)
theorem gh (a : Option Nat) (e : Nat) (es : List Nat) : dr q lv a (e :: es) = dr q lv (if (q e && (decide (0 < lv e) && betM lv e a)) = true then some e else a) es := by
 simp only [dr]; cases a <;> rfl
theorem jt : ∀ (es : List Nat) (a : Option Nat), (∀ b, a = some b → q b = true ∧ 0 < lv b) → ∀ b, dr q lv a es = some b → q b = true ∧ 0 < lv b ∧ (∀ e ∈ es, q e = true → 0 < lv e → lv b ≤ lv e) ∧ (∀ c, a = some c → lv b ≤ lv c) := by
 intro es
 induction es with
 | nil => intro a ha b h; simp only [dr] at h; subst h; exact ⟨(ha b rfl).1, (ha b rfl).2, fun e he => absurd he List.not_mem_nil, fun c hc => by rw [Option.some.inj hc]; exact Nat.le_refl _⟩
 | cons e es ih =>
  intro a ha b h; rw [gh] at h; by_cases hq : (q e && (decide (0 < lv e) && betM lv e a)) = true
  ·rw [if_pos hq] at h; have hq' := hq; rw [Bool.and_eq_true, Bool.and_eq_true, decide_eq_true_eq] at hq; obtain ⟨h1, h2, h3, h4⟩ := ih (some e) (fun b hb => by obtain rfl := Option.some.inj hb; exact ⟨hq.1, hq.2.1⟩) b h; refine ⟨h1, h2, fun x hx hqx hlx => ?_, fun c hc => ?_⟩
   ·rcases List.mem_cons.1 hx with rfl | hx
    ·exact h4 _ rfl
    ·exact h3 x hx hqx hlx
   ·subst hc; have := of_decide_eq_true hq.2.2; have := h4 e rfl; omega
  ·rw [if_neg hq] at h; obtain ⟨h1, h2, h3, h4⟩ := ih a ha b h; refine ⟨h1, h2, fun x hx hqx hlx => ?_, h4⟩; rcases List.mem_cons.1 hx with rfl | hx
   ·cases a with
    | none => rw [hqx, decide_eq_true hlx] at hq; exact absurd rfl hq
    | some c =>
     have h5 := h4 c rfl; have : ¬ lv x < lv c := fun hl => hq (by rw [hqx, decide_eq_true hlx, Bool.true_and, Bool.true_and]; exact decide_eq_true hl)
     omega
   ·exact h3 x hx hqx hlx
theorem ka : ∀ (es : List Nat) (a : Option Nat), dr q lv a es = none → a = none ∧ ∀ e ∈ es, q e = true → lv e = 0 := by
 intro es
 induction es with
 | nil => intro a h; exact ⟨h, fun e he => absurd he List.not_mem_nil⟩
 | cons e es ih =>
  intro a h; rw [gh] at h; by_cases hq : (q e && (decide (0 < lv e) && betM lv e a)) = true
  ·rw [if_pos hq] at h; have := (ih _ h).1; cases this
  ·rw [if_neg hq] at h; obtain ⟨rfl, h2⟩ := ih a h; refine ⟨rfl, fun x hx hqx => ?_⟩; rcases List.mem_cons.1 hx with rfl | hx
   ·refine Classical.byContradiction fun hc => hq ?_
    rw [hqx, decide_eq_true (show 0 < lv x by omega)]; rfl
   ·exact h2 x hx hqx
end
theorem mv {m : Nat} {I J : Nat → Prop} (hI : Ind m I) (hJ : Ind m J) {s : Nat} (hs : I s) (hs2 : J s) (R : Nat → Prop)
  (h1 : ∀ e, e < m → R e → s.testBit e = false → ¬ I (s ||| 2 ^ e)) (h2 : ∀ e, e < m → ¬ R e → s.testBit e = false → ¬ J (s ||| 2 ^ e))
  (h3 : ∀ e f, e < m → f < m → ¬ R e → R f → s.testBit e = true → s.testBit f = false → ¬ I (swp s e f))
  (h4 : ∀ e f, e < m → f < m → ¬ R e → R f → s.testBit e = false → s.testBit f = true → ¬ J (swp s f e)) :
  ∀ c, I c → J c → pc c ≤ pc s := by
 intro c hc hc2; have hcm := hI.sets c hc; have hm := hI.size; obtain ⟨U, hU, hUb⟩ : ∃ U, U < 2 ^ m ∧ ∀ i, i < m → (U.testBit i = true ↔ R i) := by
  have : ∀ n, n ≤ m → ∃ U, U < 2 ^ m ∧ ∀ i, (U.testBit i = true ↔ i < n ∧ R i) := by
   intro n
   induction n with
   | zero => intro _; exact ⟨0, Nat.two_pow_pos m, fun i => by simp⟩
   | succ n ih =>
    intro hn; obtain ⟨U, hU, hb⟩ := ih (by omega); by_cases hr : R n
    ·refine ⟨U ||| 2 ^ n, lB hU (ez (by omega)), fun i => ?_⟩; rw [add_bit, Bool.or_eq_true, hb, decide_eq_true_eq]
     constructor
     ·rintro (⟨a, b⟩ | rfl)
      ·exact ⟨by omega, b⟩
      ·exact ⟨by omega, hr⟩
     ·rintro ⟨a, b⟩; by_cases e : n = i
      ·exact .inr e
      ·exact .inl ⟨by omega, b⟩
    ·refine ⟨U, hU, fun i => ?_⟩; rw [hb]
     constructor
     ·rintro ⟨a, b⟩; exact ⟨by omega, b⟩
     ·rintro ⟨a, b⟩; refine ⟨?_, b⟩; have : ¬ i = n := by rintro rfl; exact hr b
      omega
  obtain ⟨U, hU, hb⟩ := this m (Nat.le_refl _); exact ⟨U, hU, fun i hi => by rw [hb]; exact ⟨fun h => h.2, fun h => ⟨hi, h⟩⟩⟩
 have eA : pc (c &&& U) ≤ pc (s &&& U) := by
  refine Classical.byContradiction fun hn => ?_
  have iA : I (s &&& U) := hI.down _ s hs (bS.2 fun i hi => by rw [Nat.testBit_and, Bool.and_eq_true] at hi; exact hi.1); have iC : I (c &&& U) := hI.down _ c hc (bS.2 fun i hi => by rw [Nat.testBit_and, Bool.and_eq_true] at hi; exact hi.1); obtain ⟨e, he, k1, k2, k3⟩ := hI.aug _ _ iA iC (by omega); rw [Nat.testBit_and, Bool.and_eq_true] at k1; have hem := fP hU k1.2; have hR := (hUb e hem).1 k1.2; rw [Nat.testBit_and, k1.2, Bool.and_true] at k2; have hd := h1 e hem hR k2; have e0 : dif s (dif s U) = s &&& U := by
   apply Nat.eq_of_testBit_eq
   intro i; rw [dif_bit, dif_bit, Nat.testBit_and]; cases s.testBit i <;> simp
  rw [← e0] at k3; obtain ⟨y, hy8, hys, hyY, hyI⟩ := hI.out_one hs he k2 hd k3; rw [dif_bit, hys, Bool.true_and, Bool.not_eq_true'] at hyY; have hym := fP (hI.sets s hs) hys; exact h3 y e hym hem (fun h => by rw [(hUb y hym).2 h] at hyY; cases hyY) hR hys k2 hyI
 have eB : pc (dif c U) ≤ pc (dif s U) := by
  refine Classical.byContradiction fun hn => ?_
  have iA : J (dif s U) := hJ.down _ s hs2 (bS.2 fun i hi => by rw [dif_bit, Bool.and_eq_true] at hi; exact hi.1); have iC : J (dif c U) := hJ.down _ c hc2 (bS.2 fun i hi => by rw [dif_bit, Bool.and_eq_true] at hi; exact hi.1); obtain ⟨e, he, k1, k2, k3⟩ := hJ.aug _ _ iA iC (by omega); rw [dif_bit, Bool.and_eq_true, Bool.not_eq_true'] at k1; have hem := fP hcm k1.1; have hR : ¬ R e := fun h => by rw [(hUb e hem).2 h] at k1; exact absurd k1.2 (by simp)
  rw [dif_bit, k1.2] at k2; have k2' : s.testBit e = false := by simpa using k2
  have hd := h2 e hem hR k2'; obtain ⟨y, hy8, hys, hyY, hyI⟩ := hJ.out_one hs2 he k2' hd k3; have hym := fP (hI.sets s hs) hys; exact h4 e y hem hym hR ((hUb y hym).1 hyY) k2' hys hyI
 have a1 := dI c U; have a2 := dI s U; omega
theorem ld {m : Nat} {I J : Nat → Prop} (hI : Ind m I) (hJ : Ind m J) {s : Nat} (hs : I s) (hs2 : J s) (x : Nat → Nat) (k : Nat) (hx : ∀ t, t ≤ 2 * k → x t < m)
  (hinj : ∀ t u, t ≤ 2 * k → u ≤ 2 * k → x t = x u → t = u) (hpar : ∀ t, t ≤ 2 * k → (s.testBit (x t) = true ↔ t % 2 = 1))
  (ha0 : I (s ||| 2 ^ x 0)) (hb0 : J (s ||| 2 ^ x (2 * k)))
  (ha1 : ∀ i, i < k → I (swp s (x (2 * i + 1)) (x (2 * i + 2)))) (hb1 : ∀ i, i < k → J (swp s (x (2 * i + 1)) (x (2 * i))))
  (ha2 : ∀ i, i < k → ¬ I (s ||| 2 ^ x (2 * i + 2))) (hb2 : ∀ i, i < k → ¬ J (s ||| 2 ^ x (2 * i)))
  (ha3 : ∀ i j, i < j → j < k → ¬ I (swp s (x (2 * i + 1)) (x (2 * j + 2)))) (hb3 : ∀ i j, i < j → j < k → ¬ J (swp s (x (2 * j + 1)) (x (2 * i)))) :
  ∀ n, (∀ i, n.testBit i = true ↔ ((s.testBit i = true ∧ ∀ t, t ≤ 2 * k → x t ≠ i) ∨ (s.testBit i = false ∧ ∃ t, t ≤ 2 * k ∧ x t = i))) → I n ∧ J n ∧ pc n = pc s + 1 := by
 intro n hn; have hm := hI.size; have odd : ∀ i, i < k → s.testBit (x (2 * i + 1)) = true := fun i hi => (hpar _ (by omega)).2 (by omega)
 have even : ∀ i, i ≤ k → s.testBit (x (2 * i)) = false := fun i hi => by
  cases h : s.testBit (x (2 * i))
  ·rfl
  ·have := (hpar _ (by omega)).1 h; omega
 have fA : ∀ i, n.testBit i = true ↔ (exS ((List.range k).map (fun i => (x (2 * i + 1), x (2 * i + 2)))) s ||| 2 ^ x 0).testBit i = true := by
  intro i; rw [hn, add_bit, Bool.or_eq_true, exS_bit, decide_eq_true_eq]
  constructor
  ·rintro (⟨h1, h2⟩ | ⟨h1, t, ht, rfl⟩)
   ·left; left
    refine ⟨h1, fun p hp => ?_⟩; obtain ⟨j, hj, rfl⟩ := List.mem_map.1 hp; exact h2 _ (by have := List.mem_range.1 hj; omega)
   ·have hodd : ¬ t % 2 = 1 := fun h => by rw [(hpar t ht).2 h] at h1; cases h1
    by_cases h0 : t = 0
    ·subst h0; exact .inr rfl
    ·left; right
     refine ⟨_, List.mem_map.2 ⟨t / 2 - 1, List.mem_range.2 (by omega), rfl⟩, ?_⟩
     show x (2 * (t / 2 - 1) + 2) = x t
     congr 1; omega
  ·rintro ((⟨h1, h2⟩ | ⟨p, hp, rfl⟩) | rfl)
   ·left
    refine ⟨h1, fun t ht he => ?_⟩; have hodd := (hpar t ht).1 (by rw [he]; exact h1); refine h2 (x (2 * (t / 2) + 1), x (2 * (t / 2) + 2)) (List.mem_map.2 ⟨t / 2, List.mem_range.2 (by omega), rfl⟩) ?_
    show x (2 * (t / 2) + 1) = i
    rw [show 2 * (t / 2) + 1 = t by omega]; exact he
   ·obtain ⟨j, hj, rfl⟩ := List.mem_map.1 hp; have := List.mem_range.1 hj; exact .inr ⟨even (j + 1) (by omega), 2 * j + 2, by omega, rfl⟩
   ·exact .inr ⟨even 0 (by omega), 0, by omega, rfl⟩
 have fB : ∀ i, n.testBit i = true ↔ (exS ((List.range k).reverse.map (fun i => (x (2 * i + 1), x (2 * i)))) s ||| 2 ^ x (2 * k)).testBit i = true := by
  intro i; rw [hn, add_bit, Bool.or_eq_true, exS_bit, decide_eq_true_eq]
  constructor
  ·rintro (⟨h1, h2⟩ | ⟨h1, t, ht, rfl⟩)
   ·left; left
    refine ⟨h1, fun p hp => ?_⟩; obtain ⟨j, hj, rfl⟩ := List.mem_map.1 hp; exact h2 _ (by have := List.mem_range.1 (List.mem_reverse.1 hj); omega)
   ·have hodd : ¬ t % 2 = 1 := fun h => by rw [(hpar t ht).2 h] at h1; cases h1
    by_cases h0 : t = 2 * k
    ·subst h0; exact .inr rfl
    ·left; right
     refine ⟨_, List.mem_map.2 ⟨t / 2, List.mem_reverse.2 (List.mem_range.2 (by omega)), rfl⟩, ?_⟩
     show x (2 * (t / 2)) = x t
     congr 1; omega
  ·rintro ((⟨h1, h2⟩ | ⟨p, hp, rfl⟩) | rfl)
   ·left
    refine ⟨h1, fun t ht he => ?_⟩; have hodd := (hpar t ht).1 (by rw [he]; exact h1); refine h2 (x (2 * (t / 2) + 1), x (2 * (t / 2))) (List.mem_map.2 ⟨t / 2, List.mem_reverse.2 (List.mem_range.2 (by omega)), rfl⟩) ?_
    show x (2 * (t / 2) + 1) = i
    rw [show 2 * (t / 2) + 1 = t by omega]; exact he
   ·obtain ⟨j, hj, rfl⟩ := List.mem_map.1 hp; have := List.mem_range.1 (List.mem_reverse.1 hj); exact .inr ⟨even j (by omega), 2 * j, by omega, rfl⟩
   ·exact .inr ⟨even k (by omega), 2 * k, by omega, rfl⟩
 have eA : n = exS ((List.range k).map (fun i => (x (2 * i + 1), x (2 * i + 2)))) s ||| 2 ^ x 0 := Nat.eq_of_testBit_eq fun i => by rw [Bool.eq_iff_iff]; exact fA i
 have eB : n = exS ((List.range k).reverse.map (fun i => (x (2 * i + 1), x (2 * i)))) s ||| 2 ^ x (2 * k) := Nat.eq_of_testBit_eq fun i => by rw [Bool.eq_iff_iff]; exact fB i
 obtain ⟨a1, a2, a3⟩ := kx hI ((List.range k).map (fun i => (x (2 * i + 1), x (2 * i + 2)))) s hs
  (fun p hp => by
   obtain ⟨j, hj, rfl⟩ := List.mem_map.1 hp; have hj := List.mem_range.1 hj; exact ⟨by have := hx (2 * j + 1) (by omega); omega, by have := hx (2 * j + 2) (by omega); omega, odd j hj, even (j + 1) (by omega), ha1 j hj, ha2 j hj⟩)
  (by
   rw [List.pairwise_map]; refine List.Pairwise.imp_of_mem ?_ List.pairwise_lt_range; intro i j hi hj hij; have hi := List.mem_range.1 hi; have hj := List.mem_range.1 hj; exact ⟨fun h => by have := hinj _ _ (by omega) (by omega) h; omega, fun h => by have := hinj _ _ (by omega) (by omega) h; omega, ha3 i j hij hj⟩)
 obtain ⟨a4, a5⟩ := a3 (x 0) (by have := hx 0 (by omega); omega) (even 0 (by omega)) ha0; obtain ⟨b1, b2, b3⟩ := kx hJ ((List.range k).reverse.map (fun i => (x (2 * i + 1), x (2 * i)))) s hs2
  (fun p hp => by
   obtain ⟨j, hj, rfl⟩ := List.mem_map.1 hp; have hj := List.mem_range.1 (List.mem_reverse.1 hj); exact ⟨by have := hx (2 * j + 1) (by omega); omega, by have := hx (2 * j) (by omega); omega, odd j hj, even j (by omega), hb1 j hj, hb2 j hj⟩)
  (by
   rw [List.pairwise_map]; rw [List.pairwise_reverse]; refine List.Pairwise.imp_of_mem ?_ List.pairwise_lt_range; intro i j hi hj hij; have hi := List.mem_range.1 hi; have hj := List.mem_range.1 hj; exact ⟨fun h => by have := hinj _ _ (by omega) (by omega) h; omega, fun h => by have := hinj _ _ (by omega) (by omega) h; omega, hb3 i j hij hj⟩)
 obtain ⟨b4, b5⟩ := b3 (x (2 * k)) (by have := hx (2 * k) (by omega); omega) (even k (by omega)) hb0; refine ⟨by rw [eA]; exact a5, by rw [eB]; exact b5, ?_⟩; rw [eA, ed (by have := hx 0 (by omega); omega) a4, a2]
end Go.Proofs.Ytimkekeaeojpkaa.Q
namespace Go.Proofs.Ytimkekeaeojpkaa.Q
open Go Go.RowKit Go.Proofs.Ytimkekeaeojpkaa.A Go.Proofs.YtimkekeaeojpkaaW.PrintWords Go.Proofs.YtimkekeaeojpkaaW.PrintLast Go.Proofs.YtimkekeaeojpkaaW.PrintMore Go.Proofs.Ytimkekeaeojpkaa.Z
set_option linter.unusedVariables false
set_option linter.unusedSimpArgs false
def togB (n : Int) (l : List Int) (n' : Int) (l' : List Int) : Bool := matB n l && (matB n' l' && decide (n = n'))
theorem mW (n : Int) (l : List Int) (n' : Int) (l' : List Int) (hl : l.length ≤ 17592186044416) (hl' : l'.length ≤ 17592186044416) : Ev (fun k => cE.f k n l n' l') (togB n l n' l') := by
 unfold cE.f togB; refine Ev.bind (g7 n l hl) ?_; by_cases h1 : matB n l = true
 ·refine Ev.ifp h1 ?_; rw [h1, Bool.true_and]; refine Ev.bind (g7 n' l' hl') ?_; by_cases h2 : matB n' l' = true
  ·refine Ev.ifp h2 ?_; rw [h2, Bool.true_and]; have : (n == n') = decide (n = n') := by rw [Bool.eq_iff_iff]; simp
   rw [this]; exact Ev.now _
  ·refine Ev.ifn h2 ?_; rw [Bool.eq_false_iff.2 h2, Bool.false_and]; exact Ev.now _
 ·refine Ev.ifn h1 ?_; rw [Bool.eq_false_iff.2 h1, Bool.false_and]; exact Ev.now _
def cY (n : Int) (l : List Int) (n' : Int) (l' : List Int) (s : Int) : Bool := togB n l n' l' && (indB (l.map Int.toNat) s && indB (l'.map Int.toNat) s)
theorem ii (n : Int) (l : List Int) (n' : Int) (l' : List Int) (s : Int) (hl : l.length ≤ 17592186044416) (hl' : l'.length ≤ 17592186044416) : Ev (fun k => cU.f k n l n' l' s) (cY n l n' l' s) := by
 unfold cU.f cY; refine Ev.bind (mW n l n' l' hl hl') ?_; by_cases h : togB n l n' l' = true
 ·refine Ev.ifp h ?_; rw [h, Bool.true_and]; simp only [togB, Bool.and_eq_true, decide_eq_true_eq] at h; obtain ⟨m, L, rfl, hm, rfl, hL, hL256, _, hne⟩ := dN h.1; obtain ⟨m', L', rfl, hm', rfl, hL', hL256', _, hne'⟩ := dN h.2.1; rw [ints_len] at hl hl'; rw [show (ints L).map Int.toNat = L from bP L, show (ints L').map Int.toNat = L' from bP L']; refine Ev.bind (dJ _ L s hl hL256) ?_; by_cases h1 : indB L s = true
  ·refine Ev.ifp h1 ?_; rw [h1, Bool.true_and]; exact Ev.bind (dJ _ L' s hl' hL256') (Ev.now _)
  ·refine Ev.ifn h1 ?_; rw [Bool.eq_false_iff.2 h1, Bool.false_and]; exact Ev.now _
 ·refine Ev.ifn h ?_; rw [Bool.eq_false_iff.2 h, Bool.false_and]; exact Ev.now _
theorem dM (n : Int) (l : List Int) (n' : Int) (l' : List Int) (s : Int) (hl : l.length ≤ 17592186044416) (hl' : l'.length ≤ 17592186044416) : Ev (fun k => bO.f k n l n' l' s) (cY n l n' l' s) := by
 unfold bO.f cY togB; refine Ev.bind (fp n l hl) ?_; by_cases h1 : matB n l = true
 ·refine Ev.ifp h1 (Ev.bind (fp n' l' hl') ?_); rw [h1, Bool.true_and]; by_cases h2 : matB n' l' = true
  ·refine Ev.ifp h2 ?_; rw [h2, Bool.true_and]; by_cases hn : n = n'
   ·refine Ev.ifp hn ?_; subst hn; rw [show decide (n = n) = true from by simp, Bool.true_and]; obtain ⟨m, L, rfl, hm, rfl, hL, hL256, _, hne⟩ := dN h1; obtain ⟨m', L', hmm, hm', rfl, hL', hL256', _, hne'⟩ := dN h2; rw [ints_len] at hl hl'; rw [show (ints L).map Int.toNat = L from bP L, show (ints L').map Int.toNat = L' from bP L']; refine Ev.cbind (specIsSet_eq _ _) ?_; by_cases hs : du (m : Int) s = true
    ·refine Ev.ifp hs ?_; obtain ⟨_, t, _, rfl, _, _, ht⟩ := eE hs; rw [dx ht, dx ht]; refine Ev.bind (di _ L t hl hL256 hne ht) ?_; by_cases hi : indN L t = true
     ·refine Ev.ifp hi ?_; rw [hi, Bool.true_and]; exact Ev.bind (di _ L' t hl' hL256' hne' ht) (Ev.now _)
     ·refine Ev.ifn hi ?_; rw [Bool.eq_false_iff.2 hi, Bool.false_and]; exact Ev.now _
    ·refine Ev.ifn hs ?_; have : indB L s = false := by
      rw [Bool.eq_false_iff]; intro hi; obtain ⟨t, rfl, ht, _⟩ := js hL hi
      apply hs
      rw [j6]; simp [hm, ht]
     rw [this, Bool.false_and]; exact Ev.now _
   ·refine Ev.ifn hn ?_; rw [show decide (n = n') = false from by simpa using hn, Bool.false_and]; exact Ev.now _
  ·refine Ev.ifn h2 ?_; rw [Bool.eq_false_iff.2 h2, Bool.false_and, Bool.false_and]; exact Ev.now _
 ·refine Ev.ifn h1 ?_; rw [Bool.eq_false_iff.2 h1, Bool.false_and, Bool.false_and]; exact Ev.now _
end Go.Proofs.Ytimkekeaeojpkaa.Q
namespace Go.Proofs.Ytimkekeaeojpkaa.Q
open Go Go.RowKit Go.Proofs.YtimkekeaeojpkaaW.PrintWords Go.Proofs.YtimkekeaeojpkaaW.PrintLast Go.Proofs.YtimkekeaeojpkaaW.PrintMore Go.Proofs.Ytimkekeaeojpkaa.Z
set_option linter.unusedVariables false
set_option linter.unusedSimpArgs false
theorem fE {n n' : Int} {l l' : List Int} (h : togB n l n' l' = true) : ∃ (m : Nat) (L L' : List Nat), n = m ∧ n' = m ∧ m ≤ 8 ∧ l = ints L ∧ l' = ints L' ∧ (∀ x ∈ L, x < 2 ^ m) ∧ (∀ x ∈ L', x < 2 ^ m) ∧ (∀ x ∈ L, x < 256) ∧ (∀ x ∈ L', x < 256) ∧ L ≠ [] ∧ L' ≠ [] := by
 simp only [togB, Bool.and_eq_true, decide_eq_true_eq] at h; obtain ⟨h1, h2, h3⟩ := h; obtain ⟨m, L, rfl, hm, rfl, hL, hL256, _, hne⟩ := dN h1; obtain ⟨m', L', rfl, hm', rfl, hL', hL256', _, hne'⟩ := dN h2; have : m = m' := by omega
 subst this; exact ⟨m, L, L', rfl, rfl, hm, rfl, rfl, hL, hL', hL256, hL256', hne, hne'⟩
theorem i6 (n : Int) (l : List Int) (n' : Int) (l' : List Int) : cY n l n' l' 0 = togB n l n' l' := by
 unfold cY; by_cases h : togB n l n' l' = true
 ·rw [h, Bool.true_and]; obtain ⟨m, L, L', rfl, rfl, hm, rfl, rfl, hL, hL', hL256, hL256', hne, hne'⟩ := fE h; rw [show (ints L).map Int.toNat = L from bP L, show (ints L').map Int.toNat = L' from bP L']; have hz : ∀ M : List Nat, M ≠ [] → indB M 0 = true := fun M hM => by
   have := @dx M 0 (by omega); rw [show ((0 : Nat) : Int) = 0 from rfl] at this; rw [this, indN_iff]; obtain ⟨b, hb⟩ := List.exists_mem_of_ne_nil M hM; exact ⟨b, hb, e8 b⟩
  rw [hz L hne, hz L' hne']
  rfl
 ·rw [Bool.eq_false_iff.2 h, Bool.false_and]
end Go.Proofs.Ytimkekeaeojpkaa.Q
namespace Go.Proofs.Ytimkekeaeojpkaa.Q
open Go Go.RowKit Go.Proofs.Ytimkekeaeojpkaa.A Go.Proofs.YtimkekeaeojpkaaW.PrintWords Go.Proofs.YtimkekeaeojpkaaW.PrintLast Go.Proofs.YtimkekeaeojpkaaW.PrintMore Go.Proofs.Ytimkekeaeojpkaa.Z
set_option linter.unusedVariables false
set_option linter.unusedSimpArgs false
def stN (L L' : List Nat) (s x y : Nat) : Bool := if s.testBit x = true then (if s.testBit y = true then false else indN L (swp s x y)) else (if s.testBit y = true then indN L' (swp s y x) else false)
def frN (L : List Nat) (s e : Nat) : Bool := !s.testBit e && indN L (s ||| 2 ^ e)
theorem i5 {a e f : Nat} (ha : a < 256) (hf : f < 8) : swp a e f < 256 := fD (eS ha) hf
theorem kA {s x y : Nat} (hx : s.testBit x = true) (hy : s.testBit y = false) : (s ^^^ 2 ^ x) ^^^ 2 ^ y = swp s x y := by
 apply Nat.eq_of_testBit_eq
 intro i; rw [Nat.testBit_xor, Nat.testBit_xor, Nat.testBit_two_pow, Nat.testBit_two_pow, swp_bit]; by_cases h1 : x = i
 ·subst h1; have : ¬ y = x := by rintro rfl; rw [hx] at hy; cases hy
  simp [hx, this]
 ·by_cases h2 : y = i
  ·subst h2; simp [hy, h1]
  ·simp [h1, h2]
theorem lJ {s x y : Nat} (hx : s.testBit x = false) (hy : s.testBit y = true) : (s ^^^ 2 ^ x) ^^^ 2 ^ y = swp s y x := by
 rw [Nat.xor_assoc, Nat.xor_comm (2 ^ x), ← Nat.xor_assoc]; exact kA hy hx
theorem jn (b : Bool) : dt.f b = some (if b = true then 1 else 0) := by unfold dt.f; cases b <;> rfl
section
variable {m : Nat} {L L' : List Nat} {s : Nat}
theorem eR (hl : L.length ≤ 17592186044416) (hl' : L'.length ≤ 17592186044416) (hL : ∀ b ∈ L, b < 256) (hL' : ∀ b ∈ L', b < 256) (hne : L ≠ []) (hne' : L' ≠ []) (hs : s < 256) {x y : Nat} (hx : x < 8) (hy : y < 8) : Ev (fun k => cA.f k (m : Int) (ints L) (m : Int) (ints L') (s : Int) (x : Int) (y : Int)) (stN L L' s x y) := by
 have hsx : s ^^^ 2 ^ x < 2 ^ 63 := Nat.xor_lt_two_pow (aZ hs) (aZ (cx hx)); unfold cA.f stN; refine Ev.cbind (cX (aZ hs) (by omega)) (Ev.cbind (cX (aZ hs) (by omega)) ?_); rw [dR (n := (x : Int)) (by omega) (by omega), dR (n := (y : Int)) (by omega) (by omega), cQ (by omega), cQ (by omega), fC (aZ hs) (aZ (cx hx)), fC hsx (aZ (cx hy))]; cases h1 : s.testBit x
 ·cases h2 : s.testBit y
  ·exact Ev.ifp rfl (Ev.now _)
  ·refine Ev.ifn (by decide) (Ev.ifp (by omega) (Ev.ifp (by omega) (Ev.cbind (cX (aZ hs) (by omega)) ?_))); rw [h1, lJ h1 h2]; exact Ev.ifn (by decide) (Ev.bind (di _ L' _ hl' hL' hne' (i5 hs hx)) (Ev.now _))
 ·cases h2 : s.testBit y
  ·refine Ev.ifn (by decide) (Ev.ifp (by omega) (Ev.ifp (by omega) (Ev.cbind (cX (aZ hs) (by omega)) ?_))); rw [h1, kA h1 h2]; exact Ev.ifp rfl (Ev.bind (di _ L _ hl hL hne (i5 hs hy)) (Ev.now _))
  ·exact Ev.ifp rfl (Ev.now _)
theorem me {d1 : Nat → Bool} {st : Nat → Nat → Bool} (j f : Nat) : lev m d1 st (j + 1) f = j + 1 ↔ lev m d1 st j f = j + 1 := by
 rw [lev]; by_cases h0 : lev m d1 st j f = 0
 ·rw [if_pos h0]; by_cases h2 : (List.range m).any (fun g => decide (lev m d1 st j g = j + 1) && st f g) = true
  ·rw [if_pos h2]; omega
  ·rw [if_neg h2]; omega
 ·rw [if_neg h0]
theorem jV (hm : m ≤ 8) (hl : L.length ≤ 17592186044416) (hl' : L'.length ≤ 17592186044416) (hL : ∀ b ∈ L, b < 256) (hL' : ∀ b ∈ L', b < 256) (hne : L ≠ []) (hne' : L' ≠ []) (hs : s < 256) : Ev (fun k => aq.f k (m : Int) (ints L) (m : Int) (ints L') (s : Int)) (labI m (fun e => (lev m (frN L' s) (stN L L' s) (m - 1) e : Int))) := by
 unfold aq.f; refine Ev.ifp (by omega) (Ev.ifp (by omega) ?_); rw [Int.toNat_natCast, it]; generalize hR : labI m (fun e => (lev m (frN L' s) (stN L L' s) (m - 1) e : Int)) = R; have h1 := down (P := fun j => Ev (fun k => aq.l1 k (s : Int) (labI m (fun e => (lev m (frN L' s) (stN L L' s) j e : Int))) ((j : Int) + 2) (m : Int) (ints L) (m : Int) (ints L')) R) (m - 1)
  (by
   apply Ev.step
   ·intro k; rw [aq.l1, if_neg (by omega)]
   ·rw [hR]; exact Ev.now _)
  (by
   intro j hj ih
   apply Ev.step
   ·intro k; rw [aq.l1, if_pos (by omega)]
   have h2 := down (P := fun e => Ev (fun k => aq.l2 k (s : Int) (labI m (fun i => if i < e then (lev m (frN L' s) (stN L L' s) (j + 1) i : Int) else (lev m (frN L' s) (stN L L' s) j i : Int))) ((j : Int) + 2) (e : Int) (m : Int) (ints L) (m : Int) (ints L')) R) m
    (by
     apply Ev.step
     ·intro k; rw [aq.l2, if_neg (by omega), bF (by omega) (by omega)]
     ·have e : labI m (fun i => if i < m then (lev m (frN L' s) (stN L L' s) (j + 1) i : Int) else (lev m (frN L' s) (stN L L' s) j i : Int)) = labI m (fun i => (lev m (frN L' s) (stN L L' s) (j + 1) i : Int)) := cq (fun v hv => by rw [if_pos hv]); rw [e, show (j : Int) + 2 + 1 = ((j + 1 : Nat) : Int) + 2 from by omega]; exact ih)
    (by
     intro e he ihe
     apply Ev.step
     ·intro k; rw [aq.l2, if_pos (by omega)]
     have hset : ∀ v : Int, v = (lev m (frN L' s) (stN L L' s) (j + 1) e : Int) → (labI m (fun i => if i < e then (lev m (frN L' s) (stN L L' s) (j + 1) i : Int) else (lev m (frN L' s) (stN L L' s) j i : Int))).set e v = labI m (fun i => if i < e + 1 then (lev m (frN L' s) (stN L L' s) (j + 1) i : Int) else (lev m (frN L' s) (stN L L' s) j i : Int)) := by
      intro v hv; rw [labI_set]
      apply cq
      intro i _; by_cases hi : i = e
      ·subst hi; rw [if_pos rfl, if_pos (by omega), hv]
      ·rw [if_neg hi]; by_cases hi2 : i < e
       ·rw [if_pos hi2, if_pos (by omega)]
       ·rw [if_neg hi2, if_neg (by omega)]
     have hsame : (lev m (frN L' s) (stN L L' s) (j + 1) e) = (lev m (frN L' s) (stN L L' s) j e) → labI m (fun i => if i < e then (lev m (frN L' s) (stN L L' s) (j + 1) i : Int) else (lev m (frN L' s) (stN L L' s) j i : Int)) = labI m (fun i => if i < e + 1 then (lev m (frN L' s) (stN L L' s) (j + 1) i : Int) else (lev m (frN L' s) (stN L L' s) j i : Int)) := by
      intro hv
      apply cq
      intro i _; by_cases hi : i = e
      ·subst hi; rw [if_neg (by omega), if_pos (by omega), hv]
      ·by_cases hi2 : i < e
       ·rw [if_pos hi2, if_pos (by omega)]
       ·rw [if_neg hi2, if_neg (by omega)]
     by_cases h0 : lev m (frN L' s) (stN L L' s) j e = 0
     rotate_left
     ·-- known already
      have hk := eF h0
      apply Ev.step
      ·intro k; rw [aq.l3, if_pos (by omega), if_pos (by omega), if_pos (by rw [labI_len]; omega), cH _ _ e he, if_neg (by omega)]
      ·apply Ev.step
       ·intro k; rw [aq.j4]
       ·refine Ev.ifn ?_ ?_
        ·rw [beq_iff_eq]; omega
        ·rw [bG he (by omega), hsame hk]; exact ihe
     ·have h3 := down (P := fun f => (List.range f).any (fun g => decide (lev m (frN L' s) (stN L L' s) j g = j + 1) && stN L L' s e g) = false → Ev (fun k => aq.l3 k (s : Int) (labI m (fun i => if i < e then (lev m (frN L' s) (stN L L' s) (j + 1) i : Int) else (lev m (frN L' s) (stN L L' s) j i : Int))) ((j : Int) + 2) (e : Int) (f : Int) (m : Int) (ints L) (m : Int) (ints L')) R) m
       (by
        intro hno
        apply Ev.step
        ·intro k; rw [aq.l3, if_neg (by omega)]
        ·apply Ev.step
         ·intro k; rw [aq.j4]
         ·refine Ev.ifn (by decide) ?_; rw [bG he (by omega), hsame (by rw [lev, if_pos h0, hno, if_neg (by decide), h0])]; exact ihe)
       (by
        intro f hf ihf hno
        apply Ev.step
        ·intro k; rw [aq.l3, if_pos (by omega), if_pos (by omega), if_pos (by rw [labI_len]; omega), cH _ _ e he, if_neg (by omega), h0]
        ·apply Ev.step
         ·intro k; rw [aq.j4]
         ·refine Ev.ifp rfl (Ev.ifp (by omega) (Ev.ifp (by rw [labI_len]; omega) ?_)); rw [cH _ _ f hf, bF (n := (j : Int) + 2 - 1) (by omega) (by omega)]; have hat : ((if f < e then (lev m (frN L' s) (stN L L' s) (j + 1) f : Int) else (lev m (frN L' s) (stN L L' s) j f : Int)) = (j : Int) + 2 - 1) ↔ lev m (frN L' s) (stN L L' s) j f = j + 1 := by
           by_cases hfe : f < e
           ·rw [if_pos hfe, ← me]; omega
           ·rw [if_neg hfe]; omega
          have hsucc : (List.range (f + 1)).any (fun g => decide (lev m (frN L' s) (stN L L' s) j g = j + 1) && stN L L' s e g) = (decide (lev m (frN L' s) (stN L L' s) j f = j + 1) && stN L L' s e f) := by
           rw [List.range_succ, List.any_append, hno]; simp
          by_cases hc : lev m (frN L' s) (stN L L' s) j f = j + 1
          ·refine Ev.ifp (hat.2 hc) (Ev.bind (eR hl hl' hL hL' hne hne' hs (by omega) (by omega)) ?_); by_cases hst : stN L L' s e f = true
           ·refine Ev.ifp hst (Ev.ifp (by omega) (Ev.ifp (by rw [labI_len]; omega) ?_)); have hv : lev m (frN L' s) (stN L L' s) (j + 1) e = j + 2 := by
             rw [lev, if_pos h0, if_pos]; rw [List.any_eq_true]; exact ⟨f, List.mem_range.2 hf, by rw [decide_eq_true hc, hst]; rfl⟩
            rw [Int.toNat_natCast, hset _ (by rw [hv]; rfl), bG hf (by omega)]
            apply Ev.step
            ·intro k; rw [aq.l3]
            by_cases hlast : f + 1 < m
            ·refine Ev.ifp (by omega) (Ev.ifp (by omega) (Ev.ifp (by rw [labI_len]; omega) ?_)); rw [cH _ _ e he, if_pos (by omega), hv]
             apply Ev.step
             ·intro k; rw [aq.j4]
             ·refine Ev.ifn (by rw [beq_iff_eq]; omega) ?_; rw [bG he (by omega)]; exact ihe
            ·refine Ev.ifn (by omega) ?_
             apply Ev.step
             ·intro k; rw [aq.j4]
             ·refine Ev.ifn (by decide) ?_; rw [bG he (by omega)]; exact ihe
           ·refine Ev.ifn hst ?_; rw [bG hf (by omega)]; exact ihf (by rw [hsucc, Bool.eq_false_iff.2 hst, Bool.and_false])
          ·refine Ev.ifn (fun h => hc (hat.1 h)) ?_; rw [bG hf (by omega)]; exact ihf (by rw [hsucc, decide_eq_false hc, Bool.false_and]))
      exact h3 (by simp))
   have e0 : labI m (fun i => if i < 0 then (lev m (frN L' s) (stN L L' s) (j + 1) i : Int) else (lev m (frN L' s) (stN L L' s) j i : Int)) = labI m (fun i => (lev m (frN L' s) (stN L L' s) j i : Int)) := cq (fun v _ => by rw [if_neg (by omega)]); rw [e0] at h2; exact h2)
 have h0 := down (P := fun e => Ev (fun k => aq.l0 k (s : Int) (labI m (fun i => if i < e then (lev m (frN L' s) (stN L L' s) 0 i : Int) else 0)) (e : Int) (m : Int) (ints L) (m : Int) (ints L')) R) m
  (by
   apply Ev.step
   ·intro k; rw [aq.l0, if_neg (by omega)]
   ·have e : labI m (fun i => if i < m then (lev m (frN L' s) (stN L L' s) 0 i : Int) else 0) = labI m (fun i => (lev m (frN L' s) (stN L L' s) 0 i : Int)) := cq (fun v hv => by rw [if_pos hv]); rw [e]; exact h1)
  (by
   intro e he ih; have h2e := cx (show e < 8 by omega); have hset : ∀ v : Int, v = (lev m (frN L' s) (stN L L' s) 0 e : Int) → (labI m (fun i => if i < e then (lev m (frN L' s) (stN L L' s) 0 i : Int) else 0)).set e v = labI m (fun i => if i < e + 1 then (lev m (frN L' s) (stN L L' s) 0 i : Int) else 0) := by
    intro v hv; rw [labI_set]
    apply cq
    intro i _; by_cases hi : i = e
    ·subst hi; rw [if_pos rfl, if_pos (by omega), hv]
    ·rw [if_neg hi]; by_cases hi2 : i < e
     ·rw [if_pos hi2, if_pos (by omega)]
     ·rw [if_neg hi2, if_neg (by omega)]
   apply Ev.step
   ·intro k; rw [aq.l0, if_pos (by omega)]
   ·refine Ev.cbind (cX (aZ hs) (by omega)) ?_; rw [dR (by omega) (by omega), cQ (by omega), ef (aZ hs) (aZ h2e), bG he (by omega)]; cases hb : s.testBit e
    ·refine Ev.ifn (by decide) (Ev.ifp (by omega) (Ev.bind (di _ L' _ hl' hL' hne' (fD hs (by omega))) (Ev.cbind (jn _) (Ev.ifp (by omega) (Ev.ifp (by rw [labI_len]; omega) ?_))))); rw [Int.toNat_natCast, hset _ (by unfold lev frN; rw [hb]; simp only [Bool.not_false, Bool.true_and]; split <;> rfl)]; exact ih
    ·refine Ev.ifp rfl (Ev.cbind (jn _) (Ev.ifp (by omega) (Ev.ifp (by rw [labI_len]; omega) ?_))); rw [Int.toNat_natCast, hset _ (by unfold lev frN; rw [hb]; rfl)]; exact ih)
 have e0 : labI m (fun i => if i < 0 then (lev m (frN L' s) (stN L L' s) 0 i : Int) else 0) = labI m (fun _ => 0) := cq (fun v _ => by rw [if_neg (by omega)]); rw [e0] at h0; exact h0
end
theorem iI (q : Nat → Bool) (lv : Nat → Nat) (a : Option Nat) : dr q lv a [] = a := by simp only [dr]
def betN (lv : Nat → Nat) (e : Nat) : Option Nat → Bool
 | none => true
 | some b => decide (lv e < lv b)
theorem gQ (q : Nat → Bool) (lv : Nat → Nat) (a : Option Nat) (e : Nat) (es : List Nat) : dr q lv a (e :: es) = dr q lv (if (q e && (decide (0 < lv e) && betN lv e a)) = true then some e else a) es := by
 simp only [dr]; cases a <;> rfl
def lvN (m : Nat) (L L' : List Nat) (s : Nat) : Nat → Nat := lev m (frN L' s) (stN L L' s) (m - 1)
theorem jW (m : Nat) (L L' : List Nat) (s e : Nat) : lvN m L L' s e ≤ m + 1 := Nat.le_trans (iQ _ _) (by omega)
theorem eW {m : Nat} {L L' : List Nat} {s a d : Nat} (h : lvN m L L' s a = d + 2) : ∃ f, f < m ∧ lvN m L L' s f + 1 = lvN m L L' s a ∧ stN L L' s a f = true := by
 obtain ⟨f, hf, h1, h2⟩ := ji (m - 1) a d h; exact ⟨f, hf, by rw [h]; unfold lvN; omega, h2⟩
def augN (m : Nat) (L L' : List Nat) (s : Nat) : List Int × Bool :=
 match dr (frN L s) (lvN m L L' s) none (List.range m) with
 | none => ([], false)
 | some a => (ints (a :: eh m (lvN m L L' s) (stN L L' s) (lvN m L L' s a - 1) a), true)
def augB (n : Int) (l : List Int) (n' : Int) (l' : List Int) (s : Int) : List Int × Bool := if cY n l n' l' s = true then augN n.toNat (l.map Int.toNat) (l'.map Int.toNat) s.toNat else ([], false)
theorem ln {m : Nat} {L L' : List Nat} {s b : Nat} (h : dr (frN L s) (lvN m L L' s) none (List.range m) = some b) : b < m ∧ 0 < lvN m L L' s b :=
 lf (P := fun b => b < m ∧ 0 < lvN m L L' s b) (List.range m) none (fun _ h => by cases h) (fun e he hp => ⟨List.mem_range.1 he, hp⟩) b h
theorem mc (n : Int) (l : List Int) (n' : Int) (l' : List Int) (s : Int) : (augB n l n' l' s).1.length ≤ 10 := by
 unfold augB; by_cases h : cY n l n' l' s = true
 ·rw [if_pos h]; have h' := h; simp only [cY, Bool.and_eq_true] at h; obtain ⟨m, L, L', rfl, rfl, hm, rfl, rfl, _⟩ := fE h.1; rw [Int.toNat_natCast]; unfold augN; cases hb : dr (frN ((ints L).map Int.toNat) s.toNat) (lvN m ((ints L).map Int.toNat) ((ints L').map Int.toNat) s.toNat) none (List.range m) with
  | none => exact Nat.zero_le _
  | some a =>
   simp only [ints_len, List.length_cons, lq]; have := jW m ((ints L).map Int.toNat) ((ints L').map Int.toNat) s.toNat a; omega
 ·rw [if_neg h]; exact Nat.zero_le _
theorem e5 {n n' : Int} {l l' : List Int} {s : Int} (h : cY n l n' l' s = true) : ∃ (m : Nat) (L L' : List Nat) (t : Nat), n = m ∧ n' = m ∧ m ≤ 8 ∧ l = ints L ∧ l' = ints L' ∧ (∀ x ∈ L, x < 256) ∧ (∀ x ∈ L', x < 256) ∧ L ≠ [] ∧ L' ≠ [] ∧ s = t ∧ t < 2 ^ m ∧ t < 256 ∧ indN L t = true ∧ indN L' t = true := by
 simp only [cY, Bool.and_eq_true] at h; obtain ⟨h1, h2, h3⟩ := h; obtain ⟨m, L, L', rfl, rfl, hm, rfl, rfl, hL, hL', hL256, hL256', hne, hne'⟩ := fE h1; rw [show (ints L).map Int.toNat = L from bP L] at h2; rw [show (ints L').map Int.toNat = L' from bP L'] at h3; obtain ⟨t, rfl, ht, ht256, hi⟩ := js hL h2; rw [dx ht256] at h3; exact ⟨m, L, L', t, rfl, rfl, hm, rfl, rfl, hL256, hL256', hne, hne', rfl, ht, ht256, hi, h3⟩
section
variable {m : Nat} {L L' : List Nat} {s : Nat}
theorem jg (hm : m ≤ 8) (hl : L.length ≤ 17592186044416) (hl' : L'.length ≤ 17592186044416) (hL : ∀ b ∈ L, b < 256) (hL' : ∀ b ∈ L', b < 256) (hne : L ≠ []) (hne' : L' ≠ []) (hs : s < 256) : ∀ (d a : Nat) (acc : List Nat), a < m → lvN m L L' s a = d + 1 → acc.length + d ≤ 100 → Ev (fun k => ab.l1 k (s : Int) (labI m (fun e => (lvN m L L' s e : Int))) (a : Int) (ints acc) (m : Int) (ints L) (m : Int) (ints L')) (ints (acc ++ eh m (lvN m L L' s) (stN L L' s) d a), true) := by
 intro d
 induction d with
 | zero =>
  intro a acc ha hv _
  apply Ev.step
  ·intro k; rw [ab.l1, if_pos (by omega), if_pos (by rw [labI_len]; omega), cH _ _ a ha, if_neg (by omega)]
  ·rw [eh, List.append_nil]; exact Ev.now _
 | succ d ih =>
  intro a acc ha hv hlen
  apply Ev.step
  ·intro k; rw [ab.l1, if_pos (by omega), if_pos (by rw [labI_len]; omega), cH _ _ a ha, if_pos (by omega)]
  obtain ⟨k1, k2, k3, k4⟩ := eC (eW hv); rw [eh]; generalize nxtN m (lvN m L L' s) (stN L L' s) a = x at k1 k2 k3 k4; have h := down (P := fun y => Ev (fun k => ab.l2 k (s : Int) (labI m (fun e => (lvN m L L' s e : Int))) (a : Int) (ints acc) (y : Int) (m : Int) (ints L) (m : Int) (ints L')) (ints (acc ++ x :: eh m (lvN m L L' s) (stN L L' s) d x), true)) x
   (by
    apply Ev.step
    ·intro k; rw [ab.l2, if_pos (by omega), if_pos (by rw [labI_len]; omega), if_pos (by omega), if_pos (by rw [labI_len]; omega), cH _ _ a ha, cH _ _ x k1, bF (by omega) (by omega), if_pos (by omega)]
    ·refine Ev.bind (eR hl hl' hL hL' hne hne' hs (by omega) (by omega)) (Ev.ifp k3 (Ev.ifp (by rw [ints_len]; omega) ?_)); have := ih x (acc ++ [x]) k1 (by omega) (by rw [List.length_append, List.length_singleton]; omega); rw [List.append_assoc, List.singleton_append] at this; rw [show ints acc ++ [(x : Int)] = ints (acc ++ [x]) from by simp [ints]]; exact this)
   (by
    intro y hy ihy; have hk := k4 y hy
    apply Ev.step
    ·intro k; rw [ab.l2, if_pos (by omega), if_pos (by rw [labI_len]; omega), if_pos (by omega), if_pos (by rw [labI_len]; omega), cH _ _ a ha, cH _ _ y (by omega), bF (n := ((lvN m L L' s a : Nat) : Int) - 1) (by omega) (by omega), bG hy (by omega)]
    ·by_cases hc : lvN m L L' s y + 1 = lvN m L L' s a
     ·rw [decide_eq_true hc, Bool.true_and] at hk; refine Ev.ifp (by omega) (Ev.bind (eR hl hl' hL hL' hne hne' hs (by omega) (by omega)) ?_); exact Ev.ifn (by rw [hk]; decide) ihy
     ·exact Ev.ifn (by omega) ihy)
  exact h
theorem jv (hm : m ≤ 8) (hl : L.length ≤ 17592186044416) (hl' : L'.length ≤ 17592186044416) (hL : ∀ b ∈ L, b < 256) (hL' : ∀ b ∈ L', b < 256) (hne : L ≠ []) (hne' : L' ≠ []) (hs : s < 256) : Ev (fun k => ab.l0 k (s : Int) (labI m (fun e => (lvN m L L' s e : Int))) (-1) 0 (m : Int) (ints L) (m : Int) (ints L')) (augN m L L' s) := by
 have h := down (P := fun e => ∀ a : Option Nat, (∀ b, a = some b → b < m ∧ 0 < lvN m L L' s b) → dr (frN L s) (lvN m L L' s) none (List.range m) = dr (frN L s) (lvN m L L' s) a (List.range' e (m - e)) → Ev (fun k => ab.l0 k (s : Int) (labI m (fun e => (lvN m L L' s e : Int))) (cdO a) (e : Int) (m : Int) (ints L) (m : Int) (ints L')) (augN m L L' s)) m
  (by
   intro a ha hb; rw [Nat.sub_self, List.range'_zero, iI] at hb
   apply Ev.step
   ·intro k; rw [ab.l0, if_neg (by omega)]
   ·unfold augN; rw [hb]; cases a with
    | none => exact Ev.ifp (show (-1 : Int) < 0 by decide) (Ev.now _)
    | some b =>
     obtain ⟨hbm, hbv⟩ := ha b rfl; refine Ev.ifn (show ¬ ((b : Nat) : Int) < 0 by omega) ?_; have := jg hm hl hl' hL hL' hne hne' hs (lvN m L L' s b - 1) b [b] hbm (by omega) (by have := jW m L L' s b; simp; omega); exact this)
  (by
   intro e he ih a ha hb; have h2e := cx (show e < 8 by omega); rw [dX he, gQ] at hb
   apply Ev.step
   ·intro k; rw [ab.l0, if_pos (by omega)]
   ·refine Ev.cbind (cX (aZ hs) (by omega)) ?_; rw [dR (by omega) (by omega), cQ (by omega), ef (aZ hs) (aZ h2e), bG he (by omega)]; cases hbit : s.testBit e
    rotate_left
    ·refine Ev.ifp rfl (ih a ha ?_); rw [hb, if_neg]; unfold frN; rw [hbit]; simp
    refine Ev.ifn (by decide) (Ev.ifp (by omega) (Ev.bind (di _ L _ hl hL hne (fD hs (by omega))) ?_)); by_cases hi : indN L (s ||| 2 ^ e) = true
    rotate_left
    ·refine Ev.ifn hi (ih a ha ?_); rw [hb, if_neg]; unfold frN; rw [Bool.eq_false_iff.2 hi]; simp
    have hf : frN L s e = true := by unfold frN; rw [hbit, hi]; rfl
    rw [hf, Bool.true_and] at hb; refine Ev.ifp hi (Ev.ifp (by omega) (Ev.ifp (by rw [labI_len]; omega) ?_)); rw [cH _ _ e he]; by_cases hv : 0 < lvN m L L' s e
    rotate_left
    ·refine Ev.ifn (by omega) (ih a ha ?_); rw [hb, if_neg]; rw [decide_eq_false hv]; simp
    rw [decide_eq_true hv, Bool.true_and] at hb; refine Ev.ifp (by omega) ?_; cases a with
    | none =>
     rw [if_pos (show betN (lvN m L L' s) e none = true from rfl)] at hb; exact Ev.ifp (show (-1 : Int) < 0 by decide) (ih (some e) (fun b h => by obtain rfl := Option.some.inj h; exact ⟨he, hv⟩) hb)
    | some b =>
     obtain ⟨hbm, hbv⟩ := ha b rfl; refine Ev.ifn (show ¬ ((b : Nat) : Int) < 0 by omega) (Ev.ifp (show (0 : Int) ≤ ((b : Nat) : Int) by omega) (Ev.ifp (by rw [labI_len]; show ((b : Nat) : Int) < (m : Int); omega) ?_)); rw [show cdO (some b) = ((b : Nat) : Int) from rfl, cH _ _ b hbm]; simp only [betN, decide_eq_true_eq] at hb; by_cases hlt : lvN m L L' s e < lvN m L L' s b
     ·rw [if_pos hlt] at hb; exact Ev.ifp (by omega) (ih (some e) (fun b h => by obtain rfl := Option.some.inj h; exact ⟨he, hv⟩) hb)
     ·rw [if_neg hlt] at hb; exact Ev.ifn (by omega) (ih (some b) ha hb))
 exact h none (fun _ h => by cases h) (by rw [Nat.sub_zero, ← List.range_eq_range'])
end
theorem jP (n : Int) (l : List Int) (n' : Int) (l' : List Int) (s : Int) (hl : l.length ≤ 17592186044416) (hl' : l'.length ≤ 17592186044416) : Ev (fun k => ab.f k n l n' l' s) (augB n l n' l' s) := by
 unfold ab.f augB; refine Ev.bind (dM n l n' l' s hl hl') ?_; by_cases h : cY n l n' l' s = true
 ·rw [if_pos h]; obtain ⟨m, L, L', t, rfl, rfl, hm, rfl, rfl, hL, hL', hne, hne', rfl, ht, ht256, _, _⟩ := e5 h; rw [ints_len] at hl hl'; rw [show (ints L).map Int.toNat = L from bP L, show (ints L').map Int.toNat = L' from bP L', Int.toNat_natCast, Int.toNat_natCast]; exact Ev.ifp h (Ev.bind (jV hm hl hl' hL hL' hne hne' ht256) (jv hm hl hl' hL hL' hne hne' ht256))
 ·rw [if_neg h]; exact Ev.ifn h (Ev.now _)
end Go.Proofs.Ytimkekeaeojpkaa.Q
namespace Go.Proofs.Ytimkekeaeojpkaa.Q
open Go Go.RowKit Go.Proofs.YtimkekeaeojpkaaW.PrintWords Go.Proofs.YtimkekeaeojpkaaW.PrintLast Go.Proofs.YtimkekeaeojpkaaW.PrintMore Go.Proofs.Ytimkekeaeojpkaa.Z
set_option linter.unusedVariables false
set_option linter.unusedSimpArgs false
section
variable {m : Nat} {L L' : List Nat} {s : Nat}
def plc (m : Nat) (L L' : List Nat) (s a : Nat) : Nat → Nat
 | 0 => a
 | t + 1 => nxtN m (lvN m L L' s) (stN L L' s) (plc m L L' s a t)
theorem mg {a d : Nat} (ha : a < m) (h : lvN m L L' s a = d + 1) : ∀ t, t ≤ d → plc m L L' s a t < m ∧ lvN m L L' s (plc m L L' s a t) + t = d + 1 ∧ (t < d → stN L L' s (plc m L L' s a t) (plc m L L' s a (t + 1)) = true) := by
 intro t
 induction t with
 | zero =>
  intro _; refine ⟨ha, h, fun hd => ?_⟩; obtain ⟨d, rfl⟩ : ∃ d', d = d' + 1 := ⟨d - 1, by omega⟩; exact (eC (eW h)).2.2.1
 | succ t ih =>
  intro ht; obtain ⟨h1, h2, _⟩ := ih (by omega); have h3 : lvN m L L' s (plc m L L' s a t) = (d - t - 1) + 2 := by omega
  obtain ⟨k1, k2, k3, _⟩ := eC (eW h3); have e : plc m L L' s a (t + 1) = nxtN m (lvN m L L' s) (stN L L' s) (plc m L L' s a t) := rfl; rw [← e] at k1 k2 k3; refine ⟨k1, by omega, fun hd => ?_⟩; have h4 : lvN m L L' s (plc m L L' s a (t + 1)) = (d - t - 2) + 2 := by omega
  exact (eC (eW h4)).2.2.1
theorem lh (a t : Nat) : plc m L L' s (nxtN m (lvN m L L' s) (stN L L' s) a) t = plc m L L' s a (t + 1) := by
 induction t with
 | zero => rfl
 | succ t ih => simp only [plc] at ih ⊢; rw [ih]
theorem lV : ∀ (d a : Nat), a :: eh m (lvN m L L' s) (stN L L' s) d a = (List.range (d + 1)).map (plc m L L' s a) := by
 intro d
 induction d with
 | zero => intro a; rfl
 | succ d ih =>
  intro a; rw [eh, ih, List.range_succ_eq_map (n := d + 1), List.map_cons, List.map_map]
  congr 1
  apply List.map_congr_left
  intro t _; exact lh a t
theorem jM {e f i : Nat} (he : e < m) (hf : f < m) (hs : stN L L' s e f = true) (h : lvN m L L' s f = i + 1) : lvN m L L' s e ≠ 0 ∧ lvN m L L' s e ≤ i + 2 := lO he hf hs h
theorem mM {x y : Nat} (h : stN L L' s x y = true) : s.testBit x = !s.testBit y := by
 unfold stN at h; cases hx : s.testBit x <;> cases hy : s.testBit y <;> rw [hx, hy] at h <;> simp at h ⊢
theorem ma (hM : Mat m L) (hM' : Mat m L') (h1 : indN L s = true) (h2 : indN L' s = true) (h : dr (frN L s) (lvN m L L' s) none (List.range m) = none) : ∀ c, indN L c = true → indN L' c = true → pc c ≤ pc s := by
 obtain ⟨_, hno⟩ := ka _ _ h; have hz : ∀ e f, e < m → f < m → lvN m L L' s e = 0 → lvN m L L' s f ≠ 0 → ¬ stN L L' s e f = true := by
  intro e f he hf h0 hne hst; obtain ⟨i, hi⟩ : ∃ i, lvN m L L' s f = i + 1 := ⟨lvN m L L' s f - 1, by omega⟩; exact (jM he hf hst hi).1 h0
 refine mv (Mat.ind hM) (Mat.ind hM') h1 h2 (fun e => lvN m L L' s e ≠ 0) ?_ ?_ ?_ ?_
 ·intro e he hR hse hI; exact hR (hno e (List.mem_range.2 he) (by unfold frN; rw [hse, hI]; rfl))
 ·intro e he hR hse hI; refine hR ?_; have : lvN m L L' s e = 1 := ku (by unfold frN; rw [hse, hI]; rfl) _; omega
 ·intro e f he hf hR hRf hse hsf hI; exact hz e f he hf (Classical.byContradiction hR) hRf (by unfold stN; rw [hse, hsf]; simpa using hI)
 ·intro e f he hf hR hRf hse hsf hI; exact hz e f he hf (Classical.byContradiction hR) hRf (by unfold stN; rw [hse, hsf]; simpa using hI)
theorem lY (hM : Mat m L) (hM' : Mat m L') (h1 : indN L s = true) (h2 : indN L' s = true) {a : Nat} (h : dr (frN L s) (lvN m L L' s) none (List.range m) = some a) :
  ∃ d, lvN m L L' s a = d + 1 ∧ (∀ t u, t ≤ d → u ≤ d → plc m L L' s a t = plc m L L' s a u → t = u) ∧ (∀ t, t ≤ d → plc m L L' s a t < m) ∧
   ∀ n, (∀ i, n.testBit i = true ↔ ((s.testBit i = true ∧ ∀ t, t ≤ d → plc m L L' s a t ≠ i) ∨ (s.testBit i = false ∧ ∃ t, t ≤ d ∧ plc m L L' s a t = i))) → indN L n = true ∧ indN L' n = true ∧ pc n = pc s + 1 := by
 obtain ⟨q1, q2, q3, _⟩ := jt (List.range m) none (fun b hb => by cases hb) a h; have ham : a < m := (ln h).1; obtain ⟨d, hd⟩ : ∃ d, lvN m L L' s a = d + 1 := ⟨lvN m L L' s a - 1, by omega⟩; have hP := mg ham hd; have hinj : ∀ t u, t ≤ d → u ≤ d → plc m L L' s a t = plc m L L' s a u → t = u := by
  intro t u ht hu he; have a1 := (hP t ht).2.1; have a2 := (hP u hu).2.1; rw [he] at a1; omega
 unfold frN at q1; rw [Bool.and_eq_true, Bool.not_eq_true'] at q1; have hpar : ∀ t, t ≤ d → (s.testBit (plc m L L' s a t) = true ↔ t % 2 = 1) := by
  intro t
  induction t with
  | zero => intro _; rw [show plc m L L' s a 0 = a from rfl, q1.1]; simp
  | succ t ih =>
   intro ht; have h3 := mM ((hP t (by omega)).2.2 (by omega)); have h4 := ih (by omega); rw [h3] at h4; cases hb : s.testBit (plc m L L' s a (t + 1))
   ·rw [hb] at h4; have := h4.1 rfl
    constructor
    ·intro hx; cases hx
    ·intro hx; omega
   ·rw [hb] at h4
    constructor
    ·intro _; refine Classical.byContradiction fun hc => ?_
     have := h4.2 (by omega); cases this
    ·intro _; rfl
 have hlast : lvN m L L' s (plc m L L' s a d) = 1 := by have := (hP d (Nat.le_refl _)).2.1; omega
 have hend : frN L' s (plc m L L' s a d) = true := mo hlast; unfold frN at hend; rw [Bool.and_eq_true, Bool.not_eq_true'] at hend; have hdeven : d % 2 = 0 := by
  refine Classical.byContradiction fun hc => ?_
  have := (hpar d (Nat.le_refl _)).2 (by omega); rw [hend.1] at this; cases this
 refine ⟨d, hd, hinj, fun t ht => (hP t ht).1, ?_⟩; obtain ⟨k, rfl⟩ : ∃ k, d = 2 * k := ⟨d / 2, by omega⟩; have odd : ∀ i, i < k → s.testBit (plc m L L' s a (2 * i + 1)) = true := fun i hi => (hpar _ (by omega)).2 (by omega)
 have even : ∀ i, i ≤ k → s.testBit (plc m L L' s a (2 * i)) = false := fun i hi => by
  cases h : s.testBit (plc m L L' s a (2 * i))
  ·rfl
  ·have := (hpar _ (by omega)).1 h; omega
 have hst : ∀ t u, t ≤ 2 * k → u ≤ 2 * k → t + 1 < u → ¬ stN L L' s (plc m L L' s a t) (plc m L L' s a u) = true := by
  intro t u ht hu htu hs; obtain ⟨i, hi⟩ : ∃ i, lvN m L L' s (plc m L L' s a u) = i + 1 := ⟨lvN m L L' s (plc m L L' s a u) - 1, by have := (hP u hu).2.1; omega⟩; have h5 := (jM (hP t ht).1 (hP u hu).1 hs hi).2; have a1 := (hP t ht).2.1; have a2 := (hP u hu).2.1; omega
 have stI : ∀ {x y : Nat}, s.testBit x = true → s.testBit y = false → (stN L L' s x y = true ↔ indN L (swp s x y) = true) := fun hx hy => by unfold stN; rw [hx, hy]; simp
 have stJ : ∀ {x y : Nat}, s.testBit x = false → s.testBit y = true → (stN L L' s x y = true ↔ indN L' (swp s y x) = true) := fun hx hy => by unfold stN; rw [hx, hy]; simp
 refine ld (Mat.ind hM) (Mat.ind hM') h1 h2 (plc m L L' s a) k (fun t ht => (hP t ht).1) hinj hpar q1.2 hend.2 ?_ ?_ ?_ ?_ ?_ ?_
 ·intro i hi; exact (stI (odd i hi) (even (i + 1) (by omega))).1 ((hP (2 * i + 1) (by omega)).2.2 (by omega))
 ·intro i hi; exact (stJ (even i (by omega)) (odd i hi)).1 ((hP (2 * i) (by omega)).2.2 (by omega))
 ·intro i hi hI; have hx := hP (2 * i + 2) (by omega); have := q3 _ (List.mem_range.2 hx.1) (by unfold frN; rw [show s.testBit (plc m L L' s a (2 * i + 2)) = false from even (i + 1) (by omega), hI]; rfl) (by omega); omega
 ·intro i hi hI; have hx := hP (2 * i) (by omega); have : lvN m L L' s (plc m L L' s a (2 * i)) = 1 := ku (by unfold frN; rw [even i (by omega), hI]; rfl) _; omega
 ·intro i j hij hj hI; exact hst (2 * i + 1) (2 * j + 2) (by omega) (by omega) (by omega) ((stI (odd i (by omega)) (even (j + 1) (by omega))).2 hI)
 ·intro i j hij hj hI; exact hst (2 * i) (2 * j + 1) (by omega) (by omega) (by omega) ((stJ (even i (by omega)) (odd j hj)).2 hI)
end
end Go.Proofs.Ytimkekeaeojpkaa.Q
namespace Go.Proofs.Ytimkekeaeojpkaa.Q
open Go Go.RowKit Go.Proofs.Ytimkekeaeojpkaa.A Go.Proofs.YtimkekeaeojpkaaW.PrintWords Go.Proofs.YtimkekeaeojpkaaW.PrintLast Go.Proofs.YtimkekeaeojpkaaW.PrintMore Go.Proofs.Ytimkekeaeojpkaa.Z
set_option linter.unusedVariables false
set_option linter.unusedSimpArgs false
def comN (L L' : List Nat) (s : Nat) : Bool := indN L s && indN L' s
def csN (m : Nat) (L L' : List Nat) : List Nat := (List.range (2 ^ m)).filter (comN L L')
theorem m7 {m : Nat} {L L' : List Nat} {t : Nat} (h : t ∈ csN m L L') : t < 2 ^ m := List.mem_range.1 (List.mem_filter.1 h).1
def bigN (best : Nat) (ts : List Nat) : Nat := ts.foldl (fun b t => if pc t > pc b then t else b) best
def lgB (n : Int) (l : List Int) (n' : Int) (l' : List Int) : Int × Bool := if togB n l n' l' = true then (((bigN 0 (csN n.toNat (l.map Int.toNat) (l'.map Int.toNat)) : Nat) : Int), true) else (0, false)
theorem iG (n : Int) (l : List Int) (n' : Int) (l' : List Int) (hl : l.length ≤ 17592186044416) (hl' : l'.length ≤ 17592186044416) : Ev (fun k => ba.f k n l n' l') (lgB n l n' l') := by
 unfold ba.f lgB; have hc := dM n l n' l' 0 hl hl'; rw [i6] at hc; refine Ev.bind hc ?_; by_cases h : togB n l n' l' = true
 ·refine Ev.ifp h ?_; rw [if_pos h]; obtain ⟨m, L, L', rfl, rfl, hm, rfl, rfl, hL, hL', hL256, hL256', hne, hne'⟩ := fE h; rw [show (ints L).map Int.toNat = L from bP L, show (ints L').map Int.toNat = L' from bP L', Int.toNat_natCast]; rw [ints_len] at hl hl'; have h2m := cn hm; have hp := Nat.two_pow_pos m; have hd := down (P := fun t => ∀ best : Nat, best < 256 → Ev (fun k => ba.l0 k (best : Int) (t : Int) (m : Int) (ints L) (m : Int) (ints L')) (((bigN best ((List.range' t (2 ^ m - t)).filter (comN L L')) : Nat) : Int), true)) (2 ^ m)
   (by
    intro best _
    apply Ev.step
    ·intro k; simp only [ba.l0, db hm, Option.bind_some]; rw [if_neg (by unfold eY; omega)]
    ·rw [Nat.sub_self]; exact Ev.now _)
   (by
    intro t ht ih best hb; have h256 : t < 256 := by omega
    apply Ev.step
    ·intro k; simp only [ba.l0, db hm, Option.bind_some]; rw [if_pos (by unfold eY; omega), bG ht (by omega)]
    ·rw [dX ht, List.filter_cons]; refine Ev.bind (cF t h256) (Ev.bind (cF best hb) ?_); have hf1 := di (m : Int) L t hl hL256 hne h256; have hf2 := di (m : Int) L' t hl' hL256' hne' h256; by_cases hq : pc t > pc best
     ·refine Ev.ifp (by omega) (Ev.bind hf1 ?_); unfold comN; by_cases h1 : indN L t = true
      ·refine Ev.ifp h1 (Ev.bind hf2 ?_); rw [h1, Bool.true_and]; by_cases h2 : indN L' t = true
       ·rw [if_pos h2]; refine Ev.ifp h2 ?_; have := ih t h256; unfold bigN at this ⊢; rw [List.foldl_cons, if_pos hq]; exact this
       ·rw [if_neg h2]; exact Ev.ifn h2 (ih best hb)
      ·rw [Bool.eq_false_iff.2 h1, Bool.false_and, if_neg (by decide)]; exact Ev.ifn (by decide) (ih best hb)
     ·refine Ev.ifn (by omega) ?_; by_cases h1 : comN L L' t = true
      ·rw [if_pos h1]; have := ih best hb; unfold bigN at this ⊢; rw [List.foldl_cons, if_neg hq]; exact this
      ·rw [if_neg h1]; exact ih best hb)
  have h0 := hd 0 (by omega); rw [Nat.sub_zero, ← List.range_eq_range'] at h0; exact h0
 ·refine Ev.ifn h ?_; rw [if_neg h]; exact Ev.now _
theorem ly (ts : List Nat) : ∀ best : Nat, pc best ≤ pc (bigN best ts) ∧ ∀ t ∈ ts, pc t ≤ pc (bigN best ts) := by
 induction ts with
 | nil => intro best; exact ⟨Nat.le_refl _, fun t ht => by simp at ht⟩
 | cons x ts ih =>
  intro best; unfold bigN at ih ⊢; rw [List.foldl_cons]; by_cases h : pc x > pc best
  ·rw [if_pos h]; obtain ⟨k1, k2⟩ := ih x; refine ⟨by omega, fun t ht => ?_⟩; rcases List.mem_cons.1 ht with rfl | ht
   ·exact k1
   ·exact k2 t ht
  ·rw [if_neg h]; obtain ⟨k1, k2⟩ := ih best; refine ⟨k1, fun t ht => ?_⟩; rcases List.mem_cons.1 ht with rfl | ht
   ·omega
   ·exact k2 t ht
theorem mh (ts : List Nat) : ∀ best : Nat, bigN best ts = best ∨ bigN best ts ∈ ts := by
 induction ts with
 | nil => intro best; exact .inl rfl
 | cons x ts ih =>
  intro best; unfold bigN at ih ⊢; rw [List.foldl_cons]; by_cases h : pc x > pc best
  ·rw [if_pos h]; rcases ih x with k | k
   ·exact .inr (by rw [k]; exact List.mem_cons_self ..)
   ·exact .inr (List.mem_cons_of_mem _ k)
  ·rw [if_neg h]; rcases ih best with k | k
   ·exact .inl k
   ·exact .inr (List.mem_cons_of_mem _ k)
theorem lw {n n' : Int} {l l' : List Int} (h : togB n l n' l' = true) : ∃ (m : Nat) (L L' : List Nat), n = m ∧ n' = m ∧ l = ints L ∧ l' = ints L' ∧ Mat m L ∧ Mat m L' := by
 simp only [togB, Bool.and_eq_true, decide_eq_true_eq] at h; obtain ⟨h1, h2, h3⟩ := h; obtain ⟨m, L, rfl, rfl, hM, _⟩ := jC h1; obtain ⟨m', L', rfl, rfl, hM', _⟩ := jC h2; have : m = m' := by omega
 subst this; exact ⟨m, L, L', rfl, rfl, rfl, rfl, hM, hM'⟩
end Go.Proofs.Ytimkekeaeojpkaa.Q
namespace Go.Proofs.Ytimkekeaeojpkaa.Q
open Go Go.RowKit Go.Proofs.YtimkekeaeojpkaaW.PrintWords Go.Proofs.YtimkekeaeojpkaaW.PrintLast Go.Proofs.YtimkekeaeojpkaaW.PrintMore Go.Proofs.Ytimkekeaeojpkaa.Z
set_option linter.unusedVariables false
set_option linter.unusedSimpArgs false
theorem kU {m : Nat} {L L' : List Nat} (hM : Mat m L) (hM' : Mat m L') : bigN 0 (csN m L L') < 2 ^ m ∧ indN L (bigN 0 (csN m L L')) = true ∧ indN L' (bigN 0 (csN m L L')) = true ∧ ∀ c, indN L c = true → indN L' c = true → pc c ≤ pc (bigN 0 (csN m L L')) := by
 obtain ⟨_, hmax⟩ := ly (csN m L L') 0; obtain ⟨b, hb⟩ := List.exists_mem_of_ne_nil L hM.some; obtain ⟨b', hb'⟩ := List.exists_mem_of_ne_nil L' hM'.some; have z : indN L 0 = true := indN_iff.2 ⟨b, hb, e8 b⟩; have z' : indN L' 0 = true := indN_iff.2 ⟨b', hb', e8 b'⟩; have hm : ∀ c, indN L c = true → indN L' c = true → c ∈ csN m L L' := fun c h1 h2 => by
  obtain ⟨x, hx, hs⟩ := indN_iff.1 h1; exact List.mem_filter.2 ⟨List.mem_range.2 (Nat.lt_of_le_of_lt (eI hs) (hM.sets x hx)), by unfold comN; rw [h1, h2]; rfl⟩
 refine ⟨?_, ?_, ?_, fun c h1 h2 => hmax c (hm c h1 h2)⟩
 all_goals
  rcases mh (csN m L L') 0 with k | k
  ·rw [k]; first | exact Nat.two_pow_pos m | exact z | exact z'
  ·have hcm := (List.mem_filter.1 k).2; unfold comN at hcm; rw [Bool.and_eq_true] at hcm; first | exact m7 k | exact hcm.1 | exact hcm.2
theorem lN {s : Nat} (P : List Nat) (hn : P.Nodup) (i : Nat) : (s ^^^ orL 0 P).testBit i = true ↔ (s.testBit i = true ∧ i ∉ P) ∨ (s.testBit i = false ∧ i ∈ P) := by
 rw [Nat.testBit_xor, orL_bit, Nat.zero_testBit, Bool.false_or]; by_cases h : i ∈ P
 ·rw [decide_eq_true h]; cases s.testBit i <;> simp [h]
 ·rw [decide_eq_false h]; cases s.testBit i <;> simp [h]
theorem lR {n n' : Int} {l l' : List Int} {s : Int} (h : cY n l n' l' s = true) :
  ∃ t : Nat, s = t ∧ t < 256 ∧ (((augB n l n' l' s).2 = false ∧ ∃ u : Nat, u < 256 ∧ lgB n l n' l' = ((u : Int), true) ∧ pc u = pc t) ∨
   ((augB n l n' l' s).2 = true ∧ ∃ P : List Nat, (augB n l n' l' s).1 = ints P ∧ P.Nodup ∧ (∀ e ∈ P, e < 8) ∧ t ^^^ orL 0 P < 256 ∧ cY n l n' l' ((t ^^^ orL 0 P : Nat) : Int) = true ∧ pc (t ^^^ orL 0 P) = pc t + 1)) := by
 have hB : augB n l n' l' s = augN n.toNat (l.map Int.toNat) (l'.map Int.toNat) s.toNat := by unfold augB; rw [if_pos h]
 have ht : togB n l n' l' = true := by unfold cY at h; rw [Bool.and_eq_true] at h; exact h.1
 obtain ⟨m, L, L', t, rfl, rfl, hm, rfl, rfl, hL, hL', hne, hne', rfl, htm, ht256, h1, h2⟩ := e5 h; obtain ⟨m', K, K', e1, _, e2, e3, hM, hM'⟩ := lw ht; have e1 : m = m' := by omega
 subst e1; have e2 : L = K := by have := congrArg (List.map Int.toNat) e2; rwa [show (ints L).map Int.toNat = L from bP L, show (ints K).map Int.toNat = K from bP K] at this
 have e3 : L' = K' := by have := congrArg (List.map Int.toNat) e3; rwa [show (ints L').map Int.toNat = L' from bP L', show (ints K').map Int.toNat = K' from bP K'] at this
 subst e2; subst e3; rw [show (ints L).map Int.toNat = L from bP L, show (ints L').map Int.toNat = L' from bP L', Int.toNat_natCast, Int.toNat_natCast] at hB; refine ⟨t, rfl, ht256, ?_⟩; rw [hB]; unfold augN; cases hx : dr (frN L t) (lvN m L L' t) none (List.range m) with
 | none =>
  left
  obtain ⟨b1, b2, b3, b4⟩ := kU hM hM'; have h256 := cn hm; refine ⟨rfl, bigN 0 (csN m L L'), by omega, ?_, ?_⟩
  ·unfold lgB; rw [if_pos ht, show (ints L).map Int.toNat = L from bP L, show (ints L').map Int.toNat = L' from bP L', Int.toNat_natCast]
  ·have k1 := ma hM hM' h1 h2 hx _ b2 b3; have k2 := b4 t h1 h2; omega
 | some a =>
  right
  obtain ⟨d, hd, hinj, hlt, hmore⟩ := lY hM hM' h1 h2 hx; have hP : a :: eh m (lvN m L L' t) (stN L L' t) (lvN m L L' t a - 1) a = (List.range (d + 1)).map (plc m L L' t a) := by
   rw [hd, Nat.add_sub_cancel]; exact lV d a
  have hnd : ((List.range (d + 1)).map (plc m L L' t a)).Nodup := by
   rw [List.Nodup, List.pairwise_map]; refine List.Pairwise.imp_of_mem ?_ List.pairwise_lt_range; intro i j hi hj hij he; have hi := List.mem_range.1 hi; have hj := List.mem_range.1 hj; have := hinj i j (by omega) (by omega) he; omega
  obtain ⟨k1, k2, k3⟩ := hmore (t ^^^ orL 0 ((List.range (d + 1)).map (plc m L L' t a))) (fun i => by
   rw [lN _ hnd]; simp only [List.mem_map, List.mem_range]
   constructor
   ·rintro (⟨x, y⟩ | ⟨x, u, hu, hy⟩)
    ·exact .inl ⟨x, fun u hu he => y ⟨u, by omega, he⟩⟩
    ·exact .inr ⟨x, u, by omega, hy⟩
   ·rintro (⟨x, y⟩ | ⟨x, u, hu, hy⟩)
    ·exact .inl ⟨x, fun ⟨u, hu, he⟩ => y u (by omega) he⟩
    ·exact .inr ⟨x, u, by omega, hy⟩)
  have hlt256 : t ^^^ orL 0 ((List.range (d + 1)).map (plc m L L' t a)) < 256 := (Mat.ind hM).lt k1; refine ⟨rfl, (List.range (d + 1)).map (plc m L L' t a), by simp only []; rw [hP], hnd, ?_, hlt256, ?_, k3⟩
  ·intro e he; obtain ⟨u, hu, rfl⟩ := List.mem_map.1 he; have := hlt u (by have := List.mem_range.1 hu; omega); omega
  ·unfold cY; rw [ht, show (ints L).map Int.toNat = L from bP L, show (ints L').map Int.toNat = L' from bP L', dx hlt256, dx hlt256, k1, k2]
   rfl
end Go.Proofs.Ytimkekeaeojpkaa.Q
namespace Go.Proofs.Ytimkekeaeojpkaa.Q
open Go Go.RowKit Go.Proofs.Ytimkekeaeojpkaa.A Go.Proofs.YtimkekeaeojpkaaW.PrintWords Go.Proofs.YtimkekeaeojpkaaW.PrintLast Go.Proofs.YtimkekeaeojpkaaW.PrintMore Go.Proofs.Ytimkekeaeojpkaa.Z
set_option linter.unusedVariables false
set_option linter.unusedSimpArgs false
def cod (v : Nat) : Int := if v = 0 then -1 else (v : Int)
theorem kv {v : Nat} : cod v < 0 ↔ v = 0 := by
 unfold cod; by_cases h : v = 0
 ·rw [if_pos h]; omega
 ·rw [if_neg h]; omega
theorem cod_at {v j : Nat} : cod v = (j : Int) + 1 ↔ v = j + 1 := by
 unfold cod; by_cases h : v = 0
 ·rw [if_pos h]; omega
 ·rw [if_neg h]; omega
theorem kG {v : Nat} : 0 < cod v ↔ 0 < v := by
 unfold cod; by_cases h : v = 0
 ·rw [if_pos h]; omega
 ·rw [if_neg h]; omega
theorem fO {v : Nat} (h : 0 < v) : cod v = (v : Int) := if_neg (by omega)
section
variable {m : Nat} {L L' : List Nat} {s : Nat}
theorem eT (hl : L.length ≤ 17592186044416) (hl' : L'.length ≤ 17592186044416) (hL : ∀ b ∈ L, b < 256) (hL' : ∀ b ∈ L', b < 256) (hs : s < 256) {x y : Nat} (hx : x < 8) (hy : y < 8) : Ev (fun k => be.f k (m : Int) (ints L) (m : Int) (ints L') (s : Int) (x : Int) (y : Int)) (stN L L' s x y) := by
 have hbx : hasB (s : Int) (x : Int) = s.testBit x := by rw [ey, decide_eq_true hs, decide_eq_true hx]; simp
 have hby : hasB (s : Int) (y : Int) = s.testBit y := by rw [ey, decide_eq_true hs, decide_eq_true hy]; simp
 have e1 : Go.bits .or .i64 (Go.bits .andNot .i64 (s : Int) (shl .i64 1 (x : Int))) (shl .i64 1 (y : Int)) = ((swp s x y : Nat) : Int) := by
  rw [cQ (by omega), cQ (by omega), dG (aZ hs) (aZ (cx hx)), ef (aZ (eS hs)) (aZ (cx hy))]; rfl
 have e2 : Go.bits .or .i64 (Go.bits .andNot .i64 (s : Int) (shl .i64 1 (y : Int))) (shl .i64 1 (x : Int)) = ((swp s y x : Nat) : Int) := by
  rw [cQ (by omega), cQ (by omega), dG (aZ hs) (aZ (cx hy)), ef (aZ (eS hs)) (aZ (cx hx))]; rfl
 unfold be.f stN; refine Ev.cbind (implHas_eq _ _) ?_; rw [hbx]; cases h1 : s.testBit x
 ·refine Ev.ifn (by decide) ?_
  apply Ev.step
  ·intro k; rw [be.j0]
  refine Ev.ifn (by decide) (Ev.cbind (implHas_eq _ _) ?_); rw [hbx, h1]; refine Ev.ifn (by decide) (Ev.cbind (implHas_eq _ _) ?_); rw [hby]; cases h2 : s.testBit y
  ·exact Ev.ifn (by decide) (Ev.now _)
  ·refine Ev.ifp rfl (Ev.ifp (by omega) (Ev.ifp (by omega) ?_)); rw [e2]; have := dJ (m : Int) L' ((swp s y x : Nat) : Int) hl' hL'; rw [dx (i5 hs hx)] at this; exact Ev.bind this (Ev.now _)
 ·refine Ev.ifp rfl (Ev.cbind (implHas_eq _ _) ?_); rw [hby]; cases h2 : s.testBit y
  ·apply Ev.step
   ·intro k; rw [be.j0]
   refine Ev.ifp rfl (Ev.ifp (by omega) (Ev.ifp (by omega) ?_)); rw [e1]; have := dJ (m : Int) L ((swp s x y : Nat) : Int) hl hL; rw [dx (i5 hs hy)] at this; exact Ev.bind this (Ev.now _)
  ·apply Ev.step
   ·intro k; rw [be.j0]
   refine Ev.ifn (by decide) (Ev.cbind (implHas_eq _ _) ?_); rw [hbx, h1]; exact Ev.ifp rfl (Ev.now _)
theorem jc (hm : m ≤ 8) (hl : L.length ≤ 17592186044416) (hl' : L'.length ≤ 17592186044416) (hL : ∀ b ∈ L, b < 256) (hL' : ∀ b ∈ L', b < 256) (hs : s < 256) : ∀ (d a : Nat) (acc : List Nat), a < m → lvN m L L' s a = d + 1 → acc.length + d ≤ 100 → Ev (fun k => aa.l5 k (s : Int) (labI m (fun e => cod (lvN m L L' s e))) (a : Int) (ints acc) (m : Int) (ints L) (m : Int) (ints L')) (ints (acc ++ eh m (lvN m L L' s) (stN L L' s) d a), true) := by
 intro d
 induction d with
 | zero =>
  intro a acc ha hv _
  apply Ev.step
  ·intro k; rw [aa.l5, if_pos (by omega), if_pos (by rw [labI_len]; omega), cH _ _ a ha, fO (by omega), if_neg (by omega)]
  ·rw [eh, List.append_nil]; exact Ev.now _
 | succ d ih =>
  intro a acc ha hv hlen
  apply Ev.step
  ·intro k; rw [aa.l5, if_pos (by omega), if_pos (by rw [labI_len]; omega), cH _ _ a ha, fO (by omega), if_pos (by omega)]
  obtain ⟨k1, k2, k3, k4⟩ := eC (eW hv); rw [eh]; generalize nxtN m (lvN m L L' s) (stN L L' s) a = x at k1 k2 k3 k4; have h := down (P := fun y => Ev (fun k => aa.l6 k (s : Int) (labI m (fun e => cod (lvN m L L' s e))) (a : Int) (ints acc) (if x < y then (x : Int) else -1) ((labI m (fun e => cod (lvN m L L' s e))).length : Int) (y : Int) (m : Int) (ints L) (m : Int) (ints L')) (ints (acc ++ x :: eh m (lvN m L L' s) (stN L L' s) d x), true)) m
   (by
    apply Ev.step
    ·intro k; rw [aa.l6, if_neg (by rw [labI_len]; omega), if_pos k1]
    ·refine Ev.ifp (by rw [ints_len]; omega) ?_; have := ih x (acc ++ [x]) k1 (by omega) (by rw [List.length_append, List.length_singleton]; omega); rw [List.append_assoc, List.singleton_append] at this; rw [show ints acc ++ [(x : Int)] = ints (acc ++ [x]) from by simp [ints]]; exact this)
   (by
    intro y hy ihy
    apply Ev.step
    ·intro k; rw [aa.l6, if_pos (by rw [labI_len]; omega), bG hy (by omega)]
    ·by_cases hxy : x < y
     ·rw [if_pos hxy] at *; rw [if_pos (show x < y + 1 by omega)] at ihy; exact Ev.ifn (by omega) ihy
     ·rw [if_neg hxy]; refine Ev.ifp (by omega) (Ev.ifp (by omega) (Ev.ifp (by rw [labI_len]; omega) (Ev.ifp (by omega) (Ev.ifp (by rw [labI_len]; omega) ?_)))); rw [cH _ _ a ha, cH _ _ y hy, fO (v := lvN m L L' s a) (by omega), hv, bF (n := ((d + 1 + 1 : Nat) : Int) - 1) (by omega) (by omega)]; have hat : (cod (lvN m L L' s y) = ((d + 1 + 1 : Nat) : Int) - 1) ↔ lvN m L L' s y + 1 = lvN m L L' s a := by
       have := @cod_at (lvN m L L' s y) d; rw [show ((d + 1 + 1 : Nat) : Int) - 1 = (d : Int) + 1 from by omega, this]; omega
      by_cases he : y = x
      ·subst he; refine Ev.ifp (hat.2 k2) (Ev.bind (eT hl hl' hL hL' hs (by omega) (by omega)) (Ev.ifp k3 ?_)); rw [if_pos (by omega)] at ihy; exact ihy
      ·have hk := k4 y (by omega); rw [if_neg (show ¬ x < y + 1 by omega)] at ihy; by_cases hc : lvN m L L' s y + 1 = lvN m L L' s a
       ·rw [decide_eq_true hc, Bool.true_and] at hk; exact Ev.ifp (hat.2 hc) (Ev.bind (eT hl hl' hL hL' hs (by omega) (by omega)) (Ev.ifn (by rw [hk]; decide) ihy))
       ·exact Ev.ifn (fun h => hc (hat.1 h)) ihy)
  rw [if_neg (by omega)] at h; exact h
theorem jL (hm : m ≤ 8) (hl : L.length ≤ 17592186044416) (hl' : L'.length ≤ 17592186044416) (hL : ∀ b ∈ L, b < 256) (hL' : ∀ b ∈ L', b < 256) (hs : s < 256) : Ev (fun k => aa.l4 k (s : Int) (labI m (fun e => cod (lvN m L L' s e))) (-1) ((labI m (fun e => cod (lvN m L L' s e))).length : Int) 0 (m : Int) (ints L) (m : Int) (ints L')) (augN m L L' s) := by
 have h := down (P := fun e => ∀ a : Option Nat, (∀ b, a = some b → b < m ∧ 0 < lvN m L L' s b) → dr (frN L s) (lvN m L L' s) none (List.range m) = dr (frN L s) (lvN m L L' s) a (List.range' e (m - e)) → Ev (fun k => aa.l4 k (s : Int) (labI m (fun e => cod (lvN m L L' s e))) (cdO a) ((labI m (fun e => cod (lvN m L L' s e))).length : Int) (e : Int) (m : Int) (ints L) (m : Int) (ints L')) (augN m L L' s)) m
  (by
   intro a ha hb; rw [Nat.sub_self, List.range'_zero, iI] at hb
   apply Ev.step
   ·intro k; rw [aa.l4, if_neg (by rw [labI_len]; omega)]
   ·unfold augN; rw [hb]; cases a with
    | none => exact Ev.ifp (show (-1 : Int) < 0 by decide) (Ev.now _)
    | some b =>
     obtain ⟨hbm, hbv⟩ := ha b rfl; refine Ev.ifn (show ¬ ((b : Nat) : Int) < 0 by omega) ?_; have := jc hm hl hl' hL hL' hs (lvN m L L' s b - 1) b [b] hbm (by omega) (by have := jW m L L' s b; simp; omega); exact this)
  (by
   intro e he ih a ha hb; have h2e := cx (show e < 8 by omega); have hbe : hasB (s : Int) (e : Int) = s.testBit e := by rw [ey, decide_eq_true hs, decide_eq_true (show e < 8 by omega)]; simp
   rw [dX he, gQ] at hb
   apply Ev.step
   ·intro k; rw [aa.l4, if_pos (by rw [labI_len]; omega)]
   ·refine Ev.cbind (implHas_eq _ _) ?_; rw [hbe, cQ (by omega), ef (aZ hs) (aZ h2e), bG he (by omega)]; cases hbit : s.testBit e
    rotate_left
    ·refine Ev.ifp rfl (ih a ha ?_); rw [hb, if_neg]; unfold frN; rw [hbit]; simp
    have hind := dJ (m : Int) L ((s ||| 2 ^ e : Nat) : Int) hl hL; rw [dx (fD hs (by omega))] at hind; refine Ev.ifn (by decide) (Ev.ifp (by omega) (Ev.bind hind ?_)); by_cases hi : indN L (s ||| 2 ^ e) = true
    rotate_left
    ·refine Ev.ifn hi (ih a ha ?_); rw [hb, if_neg]; unfold frN; rw [Bool.eq_false_iff.2 hi]; simp
    have hf : frN L s e = true := by unfold frN; rw [hbit, hi]; rfl
    rw [hf, Bool.true_and] at hb; refine Ev.ifp hi (Ev.ifp (by rw [labI_len]; omega) ?_); rw [cH _ _ e he]; by_cases hv : 0 < lvN m L L' s e
    rotate_left
    ·refine Ev.ifn (fun h => hv (kG.1 h)) (ih a ha ?_); rw [hb, if_neg]; rw [decide_eq_false hv]; simp
    rw [decide_eq_true hv, Bool.true_and] at hb; refine Ev.ifp (kG.2 hv) ?_; cases a with
    | none =>
     rw [if_pos (show betN (lvN m L L' s) e none = true from rfl)] at hb; exact Ev.ifp (show (-1 : Int) < 0 by decide) (ih (some e) (fun b h => by obtain rfl := Option.some.inj h; exact ⟨he, hv⟩) hb)
    | some b =>
     obtain ⟨hbm, hbv⟩ := ha b rfl; refine Ev.ifn (show ¬ ((b : Nat) : Int) < 0 by omega) (Ev.ifp (show (0 : Int) ≤ ((b : Nat) : Int) by omega) (Ev.ifp (by rw [labI_len]; show ((b : Nat) : Int) < (m : Int); omega) ?_)); rw [show cdO (some b) = ((b : Nat) : Int) from rfl, cH _ _ b hbm, fO hv, fO hbv]; simp only [betN, decide_eq_true_eq] at hb; by_cases hlt : lvN m L L' s e < lvN m L L' s b
     ·rw [if_pos hlt] at hb; exact Ev.ifp (by omega) (ih (some e) (fun b h => by obtain rfl := Option.some.inj h; exact ⟨he, hv⟩) hb)
     ·rw [if_neg hlt] at hb; exact Ev.ifn (by omega) (ih (some b) ha hb))
 exact h none (fun _ h => by cases h) (by rw [Nat.sub_zero, ← List.range_eq_range'])
theorem ki (hm : m ≤ 8) (hl : L.length ≤ 17592186044416) (hl' : L'.length ≤ 17592186044416) (hL : ∀ b ∈ L, b < 256) (hL' : ∀ b ∈ L', b < 256) (hs : s < 256) : Ev (fun k => aa.l0 k (s : Int) (labI m (fun _ => 0)) ((labI m (fun _ => (0 : Int))).length : Int) 0 (m : Int) (ints L) (m : Int) (ints L')) (augN m L L' s) := by
 generalize hR : augN m L L' s = R; have h1 := down (P := fun j => Ev (fun k => aa.l1 k (s : Int) (labI m (fun e => cod (lev m (frN L' s) (stN L L' s) j e))) ((j : Int) + 1) (m : Int) (ints L) (m : Int) (ints L')) R) m
  (by
   apply Ev.step
   ·intro k; rw [aa.l1, if_neg (by omega)]
   ·have e : labI m (fun e => cod (lev m (frN L' s) (stN L L' s) m e)) = labI m (fun e => cod (lvN m L L' s e)) := cq (fun v hv => by rw [jE hv]; rfl); rw [e, ← hR]; exact jL hm hl hl' hL hL' hs)
  (by
   intro j hj ih
   apply Ev.step
   ·intro k; rw [aa.l1, if_pos (by omega)]
   have h2 := down (P := fun x => Ev (fun k => aa.l2 k (s : Int) (labI m (fun i => if i < x then cod (lev m (frN L' s) (stN L L' s) (j + 1) i) else cod (lev m (frN L' s) (stN L L' s) j i))) ((j : Int) + 1) (m : Int) (x : Int) (m : Int) (ints L) (m : Int) (ints L')) R) m
    (by
     apply Ev.step
     ·intro k; rw [aa.l2, if_neg (by omega), bF (by omega) (by omega)]
     ·have e : labI m (fun i => if i < m then cod (lev m (frN L' s) (stN L L' s) (j + 1) i) else cod (lev m (frN L' s) (stN L L' s) j i)) = labI m (fun i => cod (lev m (frN L' s) (stN L L' s) (j + 1) i)) := cq (fun v hv => by rw [if_pos hv]); rw [e, show (j : Int) + 1 + 1 = ((j + 1 : Nat) : Int) + 1 from by omega]; exact ih)
    (by
     intro x hx ihx
     apply Ev.step
     ·intro k; rw [aa.l2, if_pos (by omega), labI_len]
     have h3 := down (P := fun y => Ev (fun k => aa.l3 k (s : Int) (labI m (fun i => if i < x then cod (lev m (frN L' s) (stN L L' s) (j + 1) i) else if i = x then (if (decide (lev m (frN L' s) (stN L L' s) j x = 0) && (List.range y).any (fun g => decide (lev m (frN L' s) (stN L L' s) j g = j + 1) && stN L L' s x g)) = true then (j : Int) + 2 else cod (lev m (frN L' s) (stN L L' s) j x)) else cod (lev m (frN L' s) (stN L L' s) j i))) ((j : Int) + 1) (x : Int) (m : Int) (x : Int) (m : Int) (y : Int) (m : Int) (ints L) (m : Int) (ints L')) R) m
      (by
       apply Ev.step
       ·intro k; rw [aa.l3, if_neg (by omega), bG hx (by omega)]
       ·have e : labI m (fun i => if i < x then cod (lev m (frN L' s) (stN L L' s) (j + 1) i) else if i = x then (if (decide (lev m (frN L' s) (stN L L' s) j x = 0) && (List.range m).any (fun g => decide (lev m (frN L' s) (stN L L' s) j g = j + 1) && stN L L' s x g)) = true then (j : Int) + 2 else cod (lev m (frN L' s) (stN L L' s) j x)) else cod (lev m (frN L' s) (stN L L' s) j i)) = labI m (fun i => if i < x + 1 then cod (lev m (frN L' s) (stN L L' s) (j + 1) i) else cod (lev m (frN L' s) (stN L L' s) j i)) := by
         apply cq
         intro i _; by_cases h1 : i < x
         ·rw [if_pos h1, if_pos (by omega)]
         ·rw [if_neg h1]; by_cases h2 : i = x
          ·subst h2; rw [if_pos (show i = i from rfl), if_pos (show i < i + 1 by omega), lev]; by_cases h0 : lev m (frN L' s) (stN L L' s) j i = 0
           ·rw [if_pos h0, decide_eq_true h0, Bool.true_and]; by_cases ha : (List.range m).any (fun g => decide (lev m (frN L' s) (stN L L' s) j g = j + 1) && stN L L' s i g) = true
            ·rw [if_pos ha, if_pos ha, fO (by omega)]; rfl
            ·rw [if_neg ha, if_neg ha, h0]
           ·rw [if_neg h0, decide_eq_false h0, Bool.false_and, if_neg (by decide)]
          ·rw [if_neg h2, if_neg (by omega)]
        rw [e]; exact ihx)
      (by
       intro y hy ihy; have hsucc : (decide (lev m (frN L' s) (stN L L' s) j x = 0) && (List.range (y + 1)).any (fun g => decide (lev m (frN L' s) (stN L L' s) j g = j + 1) && stN L L' s x g)) = ((decide (lev m (frN L' s) (stN L L' s) j x = 0) && (List.range y).any (fun g => decide (lev m (frN L' s) (stN L L' s) j g = j + 1) && stN L L' s x g)) || (decide (lev m (frN L' s) (stN L L' s) j x = 0) && (decide (lev m (frN L' s) (stN L L' s) j y = j + 1) && stN L L' s x y))) := by
        rw [List.range_succ, List.any_append, List.any_cons, List.any_nil, Bool.or_false, Bool.and_or_distrib_left]
       rw [hsucc] at ihy; generalize hF : (decide (lev m (frN L' s) (stN L L' s) j x = 0) && (List.range y).any (fun g => decide (lev m (frN L' s) (stN L L' s) j g = j + 1) && stN L L' s x g)) = F at ihy
       apply Ev.step
       ·intro k; rw [aa.l3, if_pos (by omega), if_pos (by omega), if_pos (by rw [labI_len]; omega), cH _ _ x hx, if_neg (show ¬ x < x by omega), if_pos rfl, labI_len, bG hy (by omega)]
       by_cases hneg : (if F = true then (j : Int) + 2 else cod (lev m (frN L' s) (stN L L' s) j x)) < 0
       rotate_left
       ·refine Ev.ifn hneg ?_; cases F with
        | true => rw [Bool.true_or] at ihy; exact ihy
        | false =>
         rw [if_neg (by decide), kv] at hneg; rw [decide_eq_false hneg, Bool.false_and, Bool.or_false] at ihy; exact ihy
       refine Ev.ifp hneg ?_; have hFf : F = false := by
        cases F with
        | true => rw [if_pos rfl] at hneg; omega
        | false => rfl
       subst hFf; rw [if_neg (by decide), kv] at hneg; rw [decide_eq_true hneg, Bool.true_and, Bool.false_or] at ihy; refine Ev.ifp (by omega) (Ev.ifp (by first | omega | (rw [labI_len]; omega)) ?_); rw [cH _ _ y hy]; have hat : ((if y < x then cod (lev m (frN L' s) (stN L L' s) (j + 1) y) else if y = x then (if (false = true) then (j : Int) + 2 else cod (lev m (frN L' s) (stN L L' s) j x)) else cod (lev m (frN L' s) (stN L L' s) j y)) = (j : Int) + 1) ↔ lev m (frN L' s) (stN L L' s) j y = j + 1 := by
        by_cases h1 : y < x
        ·rw [if_pos h1, cod_at, me]
        ·rw [if_neg h1]; by_cases h2 : y = x
         ·subst h2; rw [if_pos (show y = y from rfl), if_neg (by decide), cod_at]
         ·rw [if_neg h2, cod_at]
       have hset : (labI m (fun i => if i < x then cod (lev m (frN L' s) (stN L L' s) (j + 1) i) else if i = x then (if (false = true) then (j : Int) + 2 else cod (lev m (frN L' s) (stN L L' s) j x)) else cod (lev m (frN L' s) (stN L L' s) j i))).set x ((j : Int) + 2) = labI m (fun i => if i < x then cod (lev m (frN L' s) (stN L L' s) (j + 1) i) else if i = x then (if (true = true) then (j : Int) + 2 else cod (lev m (frN L' s) (stN L L' s) j x)) else cod (lev m (frN L' s) (stN L L' s) j i)) := by
        rw [labI_set]
        apply cq
        intro i _; by_cases hi : i = x
        ·subst hi; rw [if_pos rfl, if_neg (by omega), if_pos rfl, if_pos rfl]
        ·rw [if_neg hi, if_neg hi, if_neg hi]
       by_cases hc : lev m (frN L' s) (stN L L' s) j y = j + 1
       ·rw [decide_eq_true hc, Bool.true_and] at ihy; refine Ev.ifp (hat.2 hc) (Ev.bind (eT hl hl' hL hL' hs (by omega) (by omega)) ?_); by_cases hst : stN L L' s x y = true
        ·rw [hst] at ihy; refine Ev.ifp hst ?_; rw [bF (n := (j : Int) + 1 + 1) (by omega) (by omega), show (j : Int) + 1 + 1 = (j : Int) + 2 from by omega, Int.toNat_natCast, hset]; exact ihy
        ·rw [Bool.eq_false_iff.2 hst] at ihy; exact Ev.ifn hst ihy
       ·rw [decide_eq_false hc, Bool.false_and] at ihy; exact Ev.ifn (fun h => hc (hat.1 h)) ihy)
     have e0 : labI m (fun i => if i < x then cod (lev m (frN L' s) (stN L L' s) (j + 1) i) else if i = x then (if (decide (lev m (frN L' s) (stN L L' s) j x = 0) && (List.range 0).any (fun g => decide (lev m (frN L' s) (stN L L' s) j g = j + 1) && stN L L' s x g)) = true then (j : Int) + 2 else cod (lev m (frN L' s) (stN L L' s) j x)) else cod (lev m (frN L' s) (stN L L' s) j i)) = labI m (fun i => if i < x then cod (lev m (frN L' s) (stN L L' s) (j + 1) i) else cod (lev m (frN L' s) (stN L L' s) j i)) := by
      apply cq
      intro i _; by_cases h1 : i < x
      ·rw [if_pos h1, if_pos h1]
      ·rw [if_neg h1, if_neg h1]; by_cases h2 : i = x
       ·subst h2; rw [if_pos (show i = i from rfl), if_neg (by simp)]
       ·rw [if_neg h2]
     rw [e0] at h3; exact h3)
   have e0 : labI m (fun i => if i < 0 then cod (lev m (frN L' s) (stN L L' s) (j + 1) i) else cod (lev m (frN L' s) (stN L L' s) j i)) = labI m (fun i => cod (lev m (frN L' s) (stN L L' s) j i)) := cq (fun v _ => by rw [if_neg (by omega)]); rw [e0] at h2; rw [labI_len]; exact h2)
 have h0 := down (P := fun e => Ev (fun k => aa.l0 k (s : Int) (labI m (fun i => if i < e then cod (lev m (frN L' s) (stN L L' s) 0 i) else 0)) (m : Int) (e : Int) (m : Int) (ints L) (m : Int) (ints L')) R) m
  (by
   apply Ev.step
   ·intro k; rw [aa.l0, if_neg (by omega)]
   ·have e : labI m (fun i => if i < m then cod (lev m (frN L' s) (stN L L' s) 0 i) else 0) = labI m (fun i => cod (lev m (frN L' s) (stN L L' s) 0 i)) := cq (fun v hv => by rw [if_pos hv]); rw [e]; exact h1)
  (by
   intro e he ih; have h2e := cx (show e < 8 by omega); have hbe : hasB (s : Int) (e : Int) = s.testBit e := by rw [ey, decide_eq_true hs, decide_eq_true (show e < 8 by omega)]; simp
   have hset : ∀ (v u : Int), v = cod (lev m (frN L' s) (stN L L' s) 0 e) → ((labI m (fun i => if i < e then cod (lev m (frN L' s) (stN L L' s) 0 i) else 0)).set e u).set e v = labI m (fun i => if i < e + 1 then cod (lev m (frN L' s) (stN L L' s) 0 i) else 0) := by
    intro v u hv; rw [labI_set, labI_set]
    apply cq
    intro i _; by_cases hi : i = e
    ·subst hi; rw [if_pos rfl, if_pos (by omega), hv]
    ·rw [if_neg hi, if_neg hi]; by_cases hi2 : i < e
     ·rw [if_pos hi2, if_pos (by omega)]
     ·rw [if_neg hi2, if_neg (by omega)]
   have hset1 : ∀ (v : Int), v = cod (lev m (frN L' s) (stN L L' s) 0 e) → ((labI m (fun i => if i < e then cod (lev m (frN L' s) (stN L L' s) 0 i) else 0)).set e v) = labI m (fun i => if i < e + 1 then cod (lev m (frN L' s) (stN L L' s) 0 i) else 0) := by
    intro v hv; rw [← hset v v hv, labI_set, labI_set]
    apply cq
    intro i _; by_cases hi : i = e
    ·rw [if_pos hi, if_pos hi]
    ·rw [if_neg hi, if_neg hi]
   apply Ev.step
   ·intro k; rw [aa.l0, if_pos (by omega), if_pos (by omega), if_pos (by rw [labI_len]; omega)]
   ·refine Ev.cbind rfl (Ev.cbind (implHas_eq _ _) ?_); rw [hbe, cQ (by omega), ef (aZ hs) (aZ h2e), bG he (by omega), Int.toNat_natCast]; cases hbit : s.testBit e
    ·have hind := dJ (m : Int) L' ((s ||| 2 ^ e : Nat) : Int) hl' hL'; rw [dx (fD hs (by omega))] at hind; refine Ev.ifn (by decide) (Ev.bind hind ?_); by_cases hi : indN L' (s ||| 2 ^ e) = true
     ·refine Ev.ifp hi ?_; rw [hset 1 (-1) (by unfold lev frN; rw [hbit, hi]; rfl)]; exact ih
     ·refine Ev.ifn hi ?_; rw [hset1 (-1) (by unfold lev frN; rw [hbit, Bool.eq_false_iff.2 hi]; rfl)]; exact ih
    ·refine Ev.ifp rfl ?_; rw [hset1 (-1) (by unfold lev frN; rw [hbit]; rfl)]; exact ih)
 have e0 : labI m (fun i => if i < 0 then cod (lev m (frN L' s) (stN L L' s) 0 i) else 0) = labI m (fun _ => 0) := cq (fun v _ => by rw [if_neg (by omega)]); rw [e0] at h0; rw [labI_len]; exact h0
end
theorem jR (n : Int) (l : List Int) (n' : Int) (l' : List Int) (s : Int) (hl : l.length ≤ 17592186044416) (hl' : l'.length ≤ 17592186044416) : Ev (fun k => aa.f k n l n' l' s) (augB n l n' l' s) := by
 unfold aa.f augB; refine Ev.bind (ii n l n' l' s hl hl') ?_; by_cases h : cY n l n' l' s = true
 ·rw [if_pos h]; obtain ⟨m, L, L', t, rfl, rfl, hm, rfl, rfl, hL, hL', hne, hne', rfl, ht, ht256, _, _⟩ := e5 h; rw [ints_len] at hl hl'; rw [show (ints L).map Int.toNat = L from bP L, show (ints L').map Int.toNat = L' from bP L', Int.toNat_natCast, Int.toNat_natCast]; refine Ev.ifp h (Ev.ifp (by omega) (Ev.ifp (by omega) (Ev.cbind rfl ?_))); rw [it]; exact ki hm hl hl' hL hL' ht256
 ·rw [if_neg h]; exact Ev.ifn h (Ev.now _)
def apG : List Int → Nat → Option Nat
 | [], t => some t
 | x :: xs, t => if (decide (0 ≤ x) && decide (x ≤ 7) && !t.testBit x.toNat) = true then apG xs (t ||| 2 ^ x.toNat) else none
def dH (s : Int) (l : List Int) (t : Nat) : Int := match apG l t with
 | none => s
 | some t => if cG s = true then Go.bits .xor .i64 s (t : Int) else s
theorem alongB_nil (s : Int) (t : Nat) : dH s [] t = if cG s = true then Go.bits .xor .i64 s (t : Int) else s := rfl
theorem fq (s : Int) (x : Int) (xs : List Int) (t : Nat) (h : (decide (0 ≤ x) && decide (x ≤ 7) && !t.testBit x.toNat) = true) : dH s (x :: xs) t = dH s xs (t ||| 2 ^ x.toNat) := by
 simp only [dH, apG]; rw [if_pos h]
theorem eq (s : Int) (x : Int) (xs : List Int) (t : Nat) (h : (decide (0 ≤ x) && decide (x ≤ 7) && !t.testBit x.toNat) = false) : dH s (x :: xs) t = s := by
 simp only [dH, apG]; rw [if_neg (by rw [h]; decide)]
theorem m0 {a x : Nat} (h : a.testBit x = false) : a ||| 2 ^ x = a ^^^ 2 ^ x := by
 apply Nat.eq_of_testBit_eq
 intro i; rw [Nat.testBit_or, Nat.testBit_xor, Nat.testBit_two_pow]; by_cases hi : x = i
 ·subst hi; rw [h]; simp
 ·simp [hi]
theorem iN (s : Int) (l : List Int) (hl : l.length ≤ 17592186044416) : Ev (fun k => bT.f k s l) (dH s l 0) := by
 have h := down (P := fun i => ∀ t : Nat, t < 256 → Ev (fun k => bT.l0 k s l (t : Int) (i : Int)) (dH s (l.drop i) t)) l.length
  (by
   intro t ht
   apply Ev.step
   ·intro k; simp only [bT.l0, specIsSet_eq, Option.bind_some, iR]; rw [if_neg (by omega)]
   ·rw [cO, alongB_nil]; by_cases ha : cG s = true
    ·refine Ev.ifp ha ?_; rw [if_pos ha]; exact Ev.now _
    ·refine Ev.ifn ha ?_; rw [if_neg ha]; exact Ev.now _)
  (by
   intro i hi ih t ht
   apply Ev.step
   ·intro k; simp only [bT.l0, l1In_eq, Option.bind_some]; rw [if_pos (by omega), if_pos (by omega), b9 l i hi, bG hi hl]
   ·rw [cp l i hi]; by_cases hx : (decide (0 ≤ l[i]) && decide (l[i] ≤ 7)) = true
    ·refine Ev.ifp hx ?_; have hx' := hx; simp only [Bool.and_eq_true, decide_eq_true_eq] at hx; obtain ⟨x, hxe⟩ := Int.eq_ofNat_of_zero_le hx.1; rw [hxe] at hx hx' ⊢; refine Ev.cbind (cX (aZ ht) (by omega)) ?_; by_cases hb : t.testBit x = true
     ·refine Ev.ifp hb ?_; rw [eq _ _ _ _ (by rw [Int.toNat_natCast, hb]; simp)]; exact Ev.now _
     ·refine Ev.ifn hb (Ev.ifp (cI _) ?_); rw [fq _ _ _ _ (by rw [Int.toNat_natCast, Bool.eq_false_iff.2 hb, hx']; rfl)]; have hx8 : x < 8 := by omega
      rw [Int.toNat_natCast, dR (by omega) (by omega), cQ (by omega), ef (aZ ht) (aZ (cx hx8))]; exact ih _ (fD ht hx8)
    ·refine Ev.ifn hx ?_; rw [eq _ _ _ _ (by rw [Bool.eq_false_iff.2 hx]; rfl)]; exact Ev.now _)
 exact h 0 (by omega)
theorem fF (s : Int) (l : List Int) (hl : l.length ≤ 17592186044416) : Ev (fun k => bD.f k s l) (dH s l 0) := by
 unfold bD.f; by_cases ha : cG s = true
 ·obtain ⟨s, rfl, hs⟩ := dY ha; have h := down (P := fun i => ∀ t : Nat, t < 256 → Ev (fun k => bD.l0 k (s : Int) ((s ^^^ t : Nat) : Int) (t : Int) l (l.length : Int) (i : Int)) (dH (s : Int) (l.drop i) t)) l.length
   (by
    intro t ht
    apply Ev.step
    ·intro k; simp only [bD.l0]; rw [if_neg (by omega)]
    ·rw [cO, alongB_nil, if_pos ha, fC (aZ hs) (aZ ht)]; exact Ev.now _)
   (by
    intro i hi ih t ht
    apply Ev.step
    ·intro k; simp only [bD.l0, isAny_eq, Option.bind_some, implHas_eq]; rw [if_pos (by omega), if_pos (by omega), if_pos (by omega), b9 l i hi, bG hi hl, if_pos ha]
    ·rw [cp l i hi]; by_cases h0 : l[i] < 0
     ·refine Ev.ifp h0 ?_; rw [eq _ _ _ _ (by rw [show decide (0 ≤ l[i]) = false from by simpa using h0]; rfl)]; exact Ev.now _
     ·refine Ev.ifn h0 ?_; by_cases h8 : l[i] ≥ 8
      ·refine Ev.ifp h8 ?_; rw [eq _ _ _ _ (by rw [show decide (l[i] ≤ 7) = false from by simp; omega]; simp)]; exact Ev.now _
      ·refine Ev.ifn h8 ?_; obtain ⟨x, hxe⟩ := Int.eq_ofNat_of_zero_le (show 0 ≤ l[i] by omega); rw [hxe] at h0 h8 ⊢; have hx8 : x < 8 := by omega
       have c1 : (decide (0 ≤ (x : Int)) && decide ((x : Int) ≤ 7)) = true := by
        simp only [Bool.and_eq_true, decide_eq_true_eq]; omega
       have c2 : hasB (t : Int) (x : Int) = t.testBit x := by rw [ey]; simp [ht, hx8]
       rw [c2]; by_cases hb : t.testBit x = true
       ·refine Ev.ifp hb ?_; rw [eq _ _ _ _ (by rw [Int.toNat_natCast, hb]; simp)]; exact Ev.now _
       ·refine Ev.ifn hb (Ev.ifp (by omega) ?_); have hb' := Bool.eq_false_iff.2 hb; rw [fq _ _ _ _ (by rw [Int.toNat_natCast, hb', c1]; rfl)]; have hst : s ^^^ t < 2 ^ 63 := Nat.xor_lt_two_pow (aZ hs) (aZ ht); rw [Int.toNat_natCast, cQ (by omega), ef (aZ ht) (aZ (cx hx8)), fC hst (aZ (cx hx8))]; have e : (s ^^^ t) ^^^ 2 ^ x = s ^^^ (t ||| 2 ^ x) := by rw [m0 hb', Nat.xor_assoc]
        rw [e]; exact ih _ (fD ht hx8))
  have h0 := h 0 (by omega)
  simpa using h0
 ·have ha' := Bool.eq_false_iff.2 ha; cases l with
  | nil =>
   apply Ev.step
   ·intro k; simp only [bD.l0]; rw [if_neg (by simp)]
   ·rw [alongB_nil, if_neg ha]; exact Ev.now _
  | cons x xs =>
   have e : dH s (x :: xs) 0 = s := by
    unfold dH; cases apG (x :: xs) 0 with
    | none => rfl
    | some t => simp only []; rw [if_neg ha]
   rw [e]
   apply Ev.step
   ·intro k; simp only [bD.l0, isAny_eq, Option.bind_some]; have hp : (0 : Int) < ((x :: xs).length : Int) := by rw [List.length_cons]; omega
    rw [if_pos hp, if_pos (by omega), if_pos hp, if_neg ha]
   ·exact Ev.now _
theorem il (l : List Int) (hl : l.length ≤ 17592186044416) : Ev (fun k => laws_sameInts.f k l l) true := by
 unfold laws_sameInts.f; have hd := down (P := fun i => Ev (fun k => laws_sameInts.l0 k l l (i : Int)) true) l.length
  (by
   apply Ev.step
   ·intro k; rw [laws_sameInts.l0, if_neg (by omega)]
   ·exact Ev.now _)
  (by
   intro i hi ih
   apply Ev.step
   ·intro k; rw [laws_sameInts.l0, if_pos (by omega), if_pos (by omega), if_pos (by omega), if_pos rfl, bG hi hl]
   ·exact ih)
 exact Ev.ifp rfl hd
end Go.Proofs.Ytimkekeaeojpkaa.Q
namespace Go.Proofs.Ytimkekeaeojpkaa.Pure
open Go Go.RowKit Go.Proofs.Ytimkekeaeojpkaa.A Go.Proofs.YtimkekeaeojpkaaW.PrintWords Go.Proofs.YtimkekeaeojpkaaW.PrintLast Go.Proofs.YtimkekeaeojpkaaW.PrintMore Go.Proofs.Ytimkekeaeojpkaa.Z Go.Proofs.Ytimkekeaeojpkaa.Q
set_option linter.unusedVariables false
set_option linter.unusedSimpArgs false
theorem hZ (s e : Int) : ∃ r, cw.f s e = some r := by
 unfold cw.f; rw [specHas_eq, Option.bind_some]; by_cases h : hasB s e = true
 ·rw [if_pos h, if_pos (cI _)]; exact ⟨_, rfl⟩
 ·rw [if_neg h]; exact ⟨_, rfl⟩
theorem jT (l : List Int) (hl : l.length ≤ 17592186044416) : ExE (fun k => a6.f k l) (fun q => q.2.1.length ≤ 300 ∧ q.2.2.2.1.length ≤ 300) := by
 unfold a6.f; refine ExE.bind (jj l hl) ?_; rintro ⟨b, p, h⟩ ⟨rfl, hp⟩; simp only at hp; subst hp; refine ExE.bind (kQ hl (Int.le_refl 0)) ?_; rintro ⟨n, x, n', x', p, h⟩ ⟨q1, q2, q3, _⟩; simp only at q1 q2 q3; refine ExE.ev (iG n x n' x' (by omega) (by omega)) (ExE.ev (eP _) ?_); have h8 := jB (lgB n x n' x').1; generalize elsB (lgB n x n' x').1 = E at h8; generalize (lgB n x n' x').1 = s; have hd := down (P := fun i => ∀ (s p h : Int), 0 ≤ p → ExE (fun k => a6.l0 k s E (i : Int) b p h n x n' x') (fun q => q.2.1.length ≤ 300 ∧ q.2.2.2.1.length ≤ 300)) E.length
  (by
   intro s p h hp
   apply ExE.step
   ·intro k; rw [a6.l0, if_neg (by omega)]
   ·obtain ⟨u, eu, u1⟩ := fc hl (h := h) hp 8; refine ExE.cbind (P := fun a => a = u) ⟨u, eu, rfl⟩ ?_; intro u' e; subst e; refine ExE.ite (fun _ => ?_) (fun _ => ExE.now ⟨q1, q2⟩); obtain ⟨v, ev, _⟩ := ca hl (h := u'.2.2) u1 64; exact ExE.cbind (P := fun _ => True) ⟨v, ev, trivial⟩ (fun _ _ => ExE.now ⟨q1, q2⟩))
  (by
   intro i hi ih s p h hp
   apply ExE.step
   ·intro k; rw [a6.l0, if_pos (by omega), bG hi (by omega)]
   ·obtain ⟨u, eu, u1⟩ := fc hl (h := h) hp 2; refine ExE.cbind (P := fun a => a = u) ⟨u, eu, rfl⟩ ?_; intro u' e; subst e; refine ExE.ite (fun _ => ExE.ifp (by omega) ?_) (fun _ => ih _ _ _ u1); obtain ⟨r, er⟩ := hZ s (rd E (i : Int)); exact ExE.cbind (P := fun _ => True) ⟨r, er, trivial⟩ (fun _ _ => ih _ _ _ u1))
 exact hd s p h q3
theorem iP (l : List Int) (hl : l.length ≤ 17592186044416) : ExE (fun k => bm.f k l) (fun q => q.2.length ≤ 10) := by
 unfold bm.f; refine ExE.bind (jj l hl) ?_; rintro ⟨b, p, h⟩ ⟨rfl, hp⟩; simp only at hp; subst hp; obtain ⟨u, eu, u1⟩ := iH hl (h := h) (Int.le_refl 0); refine ExE.cbind (P := fun a => a = u) ⟨u, eu, rfl⟩ ?_; intro u' e; subst e; obtain ⟨v, ev, v1, v2, _, v3⟩ := ca hl (h := u'.2.2) u1 4; refine ExE.cbind (P := fun a => a = v) ⟨v, ev, rfl⟩ ?_; intro v' e; subst e; have v2 := v2 (by omega); obtain ⟨m, hm⟩ := Int.eq_ofNat_of_zero_le v1; rw [hm] at v2 ⊢; have hd := down (P := fun i => ∀ (x : List Int) (p h : Int), 0 ≤ p → x.length ≤ i → ExE (fun k => bm.l0 k u'.1 x (m : Int) (i : Int) b p h) (fun q => q.2.length ≤ 10)) m
  (by
   intro x p h hp hx
   apply ExE.step
   ·intro k; rw [bm.l0, if_neg (by omega)]
   ·exact ExE.now (by simp only []; omega))
  (by
   intro i hi ih x p h hp hx
   apply ExE.step
   ·intro k; rw [bm.l0, if_pos (by omega), bG hi (by omega)]
   ·obtain ⟨w, ew, _, _, _, w3⟩ := ca hl (h := h) hp 10; refine ExE.cbind (P := fun a => a = w) ⟨w, ew, rfl⟩ ?_; intro w' e; subst e; exact ExE.ifp (by omega) (ih _ _ _ w3 (by rw [List.length_append, List.length_singleton]; omega)))
 exact hd [] _ _ v3 (Nat.zero_le _)
theorem jN (s : Nat) (hs : s < 256) : ∀ (P : List Nat) (t : Nat), t < 256 → P.Nodup → (∀ e ∈ P, e < 8 ∧ t.testBit e = false) → dH (s : Int) (ints P) t = ((s ^^^ orL t P : Nat) : Int) := by
 intro P
 induction P with
 | nil =>
  intro t ht _ _; rw [show ints [] = ([] : List Int) from rfl, alongB_nil, isAnyB_nat, if_pos (decide_eq_true hs), fC (aZ hs) (aZ ht)]
  rfl
 | cons e P ih =>
  intro t ht hn he; rw [List.nodup_cons] at hn; obtain ⟨h8, hb⟩ := he e (List.mem_cons_self ..); rw [show ints (e :: P) = (e : Int) :: ints P from rfl, fq _ _ _ _ (by rw [Int.toNat_natCast, hb, decide_eq_true (by omega), decide_eq_true (by omega)]; rfl), Int.toNat_natCast]; rw [ih (t ||| 2 ^ e) (Nat.or_lt_two_pow (n := 8) ht (ez h8)) hn.2 (fun x hx => ⟨(he x (List.mem_cons_of_mem _ hx)).1, by
   rw [add_bit, (he x (List.mem_cons_of_mem _ hx)).2]; have : ¬ e = x := by rintro rfl; exact hn.1 hx
   simp [this]⟩)]
  congr 2
  apply Nat.eq_of_testBit_eq
  intro i; rw [orL_bit, orL_bit, add_bit]; by_cases h1 : e = i
  ·subst h1; simp
  ·have : ¬ i = e := fun x => h1 x.symm
   simp [h1, this]
theorem FnAugmented : laws_FnAugmented.Pure := by
 intro l0 hm hm1 hw; unfold laws_FnAugmented.f; refine Ev.rounds ?_; refine Ev.cbind rfl ?_; by_cases hb : (l0.length : Int) > 1048576
 ·exact Ev.ifp (decide_eq_true hb) (Ev.now _)
 refine Ev.ifn (by simpa using hb) ?_; have hl0 : l0.length ≤ 17592186044416 := by omega
 obtain ⟨⟨n, l, n', l', s⟩, hd, h1, h2⟩ := jT l0 hl0; obtain ⟨⟨c, x⟩, hd2, h3⟩ := iP l0 hl0; simp only at h1 h2 h3; have h1 : l.length ≤ 17592186044416 := by omega
 have h2 : l'.length ≤ 17592186044416 := by omega
 have h3 : x.length ≤ 17592186044416 := by omega
 have hal : (augB n l n' l' s).1.length ≤ 17592186044416 := Nat.le_trans (mc n l n' l' s) (by decide); refine Ev.bind hd (Ev.bind (jR n l n' l' s h1 h2) (Ev.bind (jP n l n' l' s h1 h2) (Ev.bind hd2 (Ev.ifn (by simp) (Ev.bind (il _ hal) (Ev.ifp rfl (Ev.bind (fF c x h3) (Ev.bind (iN c x h3) ?_))))))))
 apply Ev.step
 ·intro k; rw [laws_FnAugmented.j0]
 refine Ev.ifn (by simp) (Ev.bind (dM n l n' l' s h1 h2) ?_); by_cases hc : cY n l n' l' s = true
 ·refine Ev.ifp hc ?_; obtain ⟨t, rfl, ht256, hcase⟩ := lR hc; rcases hcase with ⟨hno, u, u1, u2, u3⟩ | ⟨hyes, P, hP, hnd, h8, hlt, hcm, hpc⟩
  ·rw [hno]; refine Ev.ifn (by simp) (Ev.bind (iG n l n' l' h1 h2) ?_); rw [u2]; refine Ev.bind (cF u u1) (Ev.bind (cF t ht256) ?_); rw [u3, show ((pc t : Int) == (pc t : Int)) = true by simp]; exact Ev.now _
  ·rw [hyes, hP]; have hal2 : (ints P).length ≤ 17592186044416 := by rw [← hP]; exact hal
   have ha := fF (t : Int) (ints P) hal2; rw [jN t ht256 P 0 (by decide) hnd (fun e he => ⟨h8 e he, Nat.zero_testBit e⟩)] at ha; refine Ev.ifp rfl (Ev.bind ha (Ev.bind (dM n l n' l' _ h1 h2) (Ev.ifp hcm (Ev.bind (cF _ hlt) (Ev.bind (cF t ht256) ?_))))); have := jq t; rw [hpc, bF (n := (pc t : Int) + 1) (by omega) (by omega), show (((pc t + 1 : Nat) : Int) == (pc t : Int) + 1) = true by simp]; exact Ev.now _
 ·refine Ev.ifn hc ?_; rw [show augB n l n' l' s = ([], false) by unfold augB; rw [if_neg hc]]; exact Ev.now _
end Go.Proofs.Ytimkekeaeojpkaa.Pure
