/- Machine side of the law FnExactAllCuts: Go functions as Lean functions, and proofs that calls come to what these tell. Conditions: those in each theorem. -/
import Derived.Test.YtbdloopelidneaaMFnExactAllCuts0
namespace Go.Proofs.Ytbdloopelidneaa.A
open Go.RowKit Go.Proofs.YtbdloopelidneaaW.PrintWords Go.Proofs.YtbdloopelidneaaW.PrintLast Go.Proofs.YtbdloopelidneaaW.PrintMore
attribute [local go_sem] max2_int min2_int max_two min_two max_three min_three max_four min_four
set_option linter.unusedVariables false
set_option linter.unusedSimpArgs false
/-! ### laws_szIntS: function 13 -/
def laws_szIntS.f (l0 : List Int) (a1 : Int) : Option (Int) := if (wrap64 (a1 - (l0.length : Int))) < 0 then (some (-1)) else (some (wrap64 (a1 - (l0.length : Int))))
set_option maxHeartbeats 8000000 in
set_option maxRecDepth 100000 in
theorem laws_szIntS.calls (A0 : Option Addr) (c0 : Nat) (l0 : List Int) (a1 : Int) (r : Int) (w : World) (hr0 : Kd.C (Kd.int .i64) w A0 l0.length l0) (hc0 : l0.length ≤ c0) (h : laws_szIntS.f l0 a1 = some r) :
  Calls Try.prog 13 #[.slice A0 l0.length c0, .int .i64 a1] w fun e w' => e = .returned (.int .i64 r) ∧ Drawn0 w w' := by
 have HR0 := aQ hr0
 have HC0 := aQ hc0
 clear hr0 hc0
 have H : (if (wrap64 (a1 - (l0.length : Int))) < 0 then (some (-1)) else (some (wrap64 (a1 - (l0.length : Int))))) = some r := h
 clear h
 by_cases c3 : (wrap64 (a1 - (l0.length : Int))) < 0
 ·rw [if_pos c3] at H
  have c3b0 : decide ((wrap64 (a1 - (l0.length : Int))) < 0) = true := decide_eq_true c3
  clear c3
  obtain rfl := Option.some.inj H
  go_enter Try.func13, Try.ntmps13
  go_wp2
  go_ret
  exact ⟨rs_, rd_⟩
 ·rw [if_neg c3] at H
  have c3b0 : decide ((wrap64 (a1 - (l0.length : Int))) < 0) = false := decide_eq_false c3
  clear c3
  obtain rfl := Option.some.inj H
  go_enter Try.func13, Try.ntmps13
  go_wp2
  go_ret
  exact ⟨rs_, rd_⟩
/-! ### laws_szMatroid: function 4 -/
def laws_szMatroid.f (a0_0 : Int) (l0_1 : List Int) (a1 : Int) : Option (Int) := (laws_szIntS.f l0_1 a1).bind fun t5002 => (if t5002 < 0 then (some (-1)) else (some t5002))
set_option maxHeartbeats 8000000 in
set_option maxRecDepth 100000 in
theorem laws_szMatroid.calls (a0_0 : Int) (A0_1 : Option Addr) (c0_1 : Nat) (l0_1 : List Int) (a1 : Int) (r : Int) (w : World) (hr0_1 : Kd.C (Kd.int .i64) w A0_1 l0_1.length l0_1) (hc0_1 : l0_1.length ≤ c0_1) (h : laws_szMatroid.f a0_0 l0_1 a1 = some r) :
  Calls Try.prog 4 #[.agg #[.int .i64 a0_0, .slice A0_1 l0_1.length c0_1], .int .i64 a1] w fun e w' => e = .returned (.int .i64 r) ∧ Below w.heap.size w w' := by
 have hu24 := Try.underlying24
 have HR0_1 := aQ hr0_1
 have HC0_1 := aQ hc0_1
 clear hr0_1 hc0_1
 have HB := aQ (Below.refl w.heap.size w)
 have H : ((laws_szIntS.f l0_1 a1).bind fun t5002 => (if t5002 < 0 then (some (-1)) else (some t5002))) = some r := h
 clear h
 replace H := Option.bind_eq_some_iff.mp H
 obtain ⟨t5002, A30, H⟩ := H
 replace H : (if t5002 < 0 then (some (-1)) else (some t5002)) = some r := H
 have A3 := aQ A30
 clear A30
 by_cases c4 : t5002 < 0
 ·rw [if_pos c4] at H
  have c4b0 : decide (t5002 < 0) = true := decide_eq_true c4
  clear c4
  obtain rfl := Option.some.inj H
  go_enter Try.func4, Try.ntmps4
  go_wp2_with (first | ((with_reducible refine gate_dst (N := 2) rfl ?_); refine box_event ?hg (N := 2) ?hd (cs := #[.int .i64 a0_0, .slice A0_1 l0_1.length c0_1]) (t := 24) ?hr ?_; (case hd => rfl); (case hg => rfl); (case hr => first | (go_simp; done) | (go_simp; rfl)); intro gb5001 hg w5 hbox hb; have BK5001 := aQ (hbox); have GW5001 := aQ ((by rw [hg]; exact (below_size (pB HB.out)) : w.heap.size ≤ gb5001)); have GE5001 := aQ ((by rw [hg]; exact (below_size (pB HB.out)) : w.heap.size ≤ gb5001)); replace HB := aQ (below_step (pB HB.out) hb); clear hb hbox hg; have hcz6_0 := bc (v := (.int .i64 a0_0)) BK5001.out 0; have hcz6_1 := bc (v := (.slice A0_1 l0_1.length c0_1)) BK5001.out 1; have hfz6_0 := blk_frozen BK5001.out 0; have hfz6_1 := blk_frozen BK5001.out 1) | ((with_reducible refine gate_callee (f := 13) rfl ?_); refine goesL_ (some 8) rfl rfl Try.func13 (by kernel_rfl) rfl #[.slice A0_1 l0_1.length c0_1, .int .i64 a1] rfl lm ?_; (with_reducible refine (laws_szIntS.calls _ _ l0_1 a1 t5002 _ ?side1 ?side2 A3.out).mono ?_); (case side1 => exact pC (Kd.C_below HR0_1.out HB.out)); (case side2 => exact HC0_1.out); rintro e w' ⟨rfl, ⟨nd, rfl⟩⟩; refine ⟨_, rfl, ?_⟩))
  go_ret
  exact ⟨re_, pB1 HB.out GE5001.out⟩
 ·rw [if_neg c4] at H
  have c4b0 : decide (t5002 < 0) = false := decide_eq_false c4
  clear c4
  obtain rfl := Option.some.inj H
  go_enter Try.func4, Try.ntmps4
  go_wp2_with (first | ((with_reducible refine gate_dst (N := 2) rfl ?_); refine box_event ?hg (N := 2) ?hd (cs := #[.int .i64 a0_0, .slice A0_1 l0_1.length c0_1]) (t := 24) ?hr ?_; (case hd => rfl); (case hg => rfl); (case hr => first | (go_simp; done) | (go_simp; rfl)); intro gb5001 hg w7 hbox hb; have BK5001 := aQ (hbox); have GW5001 := aQ ((by rw [hg]; exact (below_size (pB HB.out)) : w.heap.size ≤ gb5001)); have GE5001 := aQ ((by rw [hg]; exact (below_size (pB HB.out)) : w.heap.size ≤ gb5001)); replace HB := aQ (below_step (pB HB.out) hb); clear hb hbox hg; have hcz8_0 := bc (v := (.int .i64 a0_0)) BK5001.out 0; have hcz8_1 := bc (v := (.slice A0_1 l0_1.length c0_1)) BK5001.out 1; have hfz8_0 := blk_frozen BK5001.out 0; have hfz8_1 := blk_frozen BK5001.out 1) | ((with_reducible refine gate_callee (f := 13) rfl ?_); refine goesL_ (some 8) rfl rfl Try.func13 (by kernel_rfl) rfl #[.slice A0_1 l0_1.length c0_1, .int .i64 a1] rfl lm ?_; (with_reducible refine (laws_szIntS.calls _ _ l0_1 a1 t5002 _ ?side1 ?side2 A3.out).mono ?_); (case side1 => exact pC (Kd.C_below HR0_1.out HB.out)); (case side2 => exact HC0_1.out); rintro e w' ⟨rfl, ⟨nd, rfl⟩⟩; refine ⟨_, rfl, ?_⟩))
  go_ret
  exact ⟨re_, pB1 HB.out GE5001.out⟩
/-! ### spec_l2Has: function 16 -/
def spec_l2Has.f (a0 : Int) (a1 : Int) : Option (Bool) := if 0 ≤ (IntKind.u64.wrap (a1)) then (some ((Go.bits .and .i64 (shr .i64 a0 (IntKind.u64.wrap (a1))) 1) == 1)) else (none)
set_option maxHeartbeats 8000000 in
set_option maxRecDepth 100000 in
theorem spec_l2Has.calls (a0 : Int) (a1 : Int) (r : Bool) (w : World) (h : spec_l2Has.f a0 a1 = some r) :
  Calls Try.prog 16 #[.int .i64 a0, .int .i64 a1] w fun e w' => e = .returned (.bool r) ∧ Drawn0 w w' := by
 have H : (if 0 ≤ (IntKind.u64.wrap (a1)) then (some ((Go.bits .and .i64 (shr .i64 a0 (IntKind.u64.wrap (a1))) 1) == 1)) else (none)) = some r := h
 clear h
 obtain ⟨ji3, hji3⟩ : ∃ j_ : Int, (IntKind.u64.wrap (a1)) = j_ := ⟨_, rfl⟩
 replace H : (if 0 ≤ (ji3) then (some ((Go.bits .and .i64 (shr .i64 a0 (ji3)) 1) == 1)) else (none)) = some r := by first | (rw [hji3] at H; exact H) | (simp only [hji3] at H ⊢; exact H)
 by_cases c4 : 0 ≤ (ji3)
 ·rw [if_pos c4] at H
  have c4b0 := eq_true c4
  have c4b1 : decide (0 ≤ (ji3)) = true := decide_eq_true c4
  clear c4
  obtain ⟨ji5, hji5⟩ : ∃ j_ : Int, (shr .i64 a0 (ji3)) = j_ := ⟨_, rfl⟩
  replace H : (some ((Go.bits .and .i64 (ji5) 1) == 1)) = some r := by first | (rw [hji5] at H; exact H) | (simp only [hji5] at H ⊢; exact H)
  have hji5_ : (a0 / 2 ^ min (ji3).toNat 64) = ji5 := hji5
  have hji5z : (ji3) ≤ 64 → (a0 / 2 ^ (ji3).toNat) = ji5 := shr_small hji5
  obtain rfl := Option.some.inj H
  go_enter Try.func16, Try.ntmps16
  go_wp2
  go_ret
  exact ⟨by first | rfl | (simp; done) | (simp only [← hji3, ← hji5] <;> (first | rfl | simp)) | (simp [*]; done), rd_⟩
 ·rw [if_neg c4] at H
  exact absurd H (by simp)
/-! ### spec_l1In: function 46 -/
def spec_l1In.f (a0 : Int) (a1 : Int) (a2 : Int) : Option (Bool) := if a0 ≥ a1 then (some (decide (a0 ≤ a2))) else (some false)
set_option maxHeartbeats 8000000 in
set_option maxRecDepth 100000 in
theorem spec_l1In.calls (a0 : Int) (a1 : Int) (a2 : Int) (r : Bool) (w : World) (h : spec_l1In.f a0 a1 a2 = some r) :
  Calls Try.prog 46 #[.int .i64 a0, .int .i64 a1, .int .i64 a2] w fun e w' => e = .returned (.bool r) ∧ Drawn0 w w' := by
 have H : (if a0 ≥ a1 then (some (decide (a0 ≤ a2))) else (some false)) = some r := h
 clear h
 by_cases c4 : a0 ≥ a1
 ·rw [if_pos c4] at H
  have c4b0 : decide (a1 ≤ a0) = true := decide_eq_true c4
  clear c4
  obtain rfl := Option.some.inj H
  go_enter Try.func46, Try.ntmps46
  go_wp2
  go_ret
  exact ⟨rs_, rd_⟩
 ·rw [if_neg c4] at H
  have c4b0 : decide (a1 ≤ a0) = false := decide_eq_false c4
  clear c4
  obtain rfl := Option.some.inj H
  go_enter Try.func46, Try.ntmps46
  go_wp2
  go_ret
  exact ⟨rs_, rd_⟩
/-! ### spec_IsSet: function 45 -/
def spec_IsSet.f (a0 : Int) (a1 : Int) : Option (Bool) := (spec_l1In.f a0 0 8).bind fun t46001 => (if t46001 = true then (if 0 ≤ (IntKind.u64.wrap (a0)) then ((spec_l1In.f a1 0 (wrap64 ((shl .i64 1 (IntKind.u64.wrap (a0))) - 1))).bind fun t46002 => (some t46002)) else (none)) else (some false))
set_option maxHeartbeats 8000000 in
set_option maxRecDepth 100000 in
theorem spec_IsSet.calls (a0 : Int) (a1 : Int) (r : Bool) (w : World) (h : spec_IsSet.f a0 a1 = some r) :
  Calls Try.prog 45 #[.int .i64 a0, .int .i64 a1] w fun e w' => e = .returned (.bool r) ∧ Drawn0 w w' := by
 have H : ((spec_l1In.f a0 0 8).bind fun t46001 => (if t46001 = true then (if 0 ≤ (IntKind.u64.wrap (a0)) then ((spec_l1In.f a1 0 (wrap64 ((shl .i64 1 (IntKind.u64.wrap (a0))) - 1))).bind fun t46002 => (some t46002)) else (none)) else (some false))) = some r := h
 clear h
 replace H := Option.bind_eq_some_iff.mp H
 obtain ⟨t46001, A30, H⟩ := H
 replace H : (if t46001 = true then (if 0 ≤ (IntKind.u64.wrap (a0)) then ((spec_l1In.f a1 0 (wrap64 ((shl .i64 1 (IntKind.u64.wrap (a0))) - 1))).bind fun t46002 => (some t46002)) else (none)) else (some false)) = some r := H
 have A3 := aQ A30
 clear A30
 by_cases c4 : t46001 = true
 ·subst c4
  have H1 : (if 0 ≤ (IntKind.u64.wrap (a0)) then ((spec_l1In.f a1 0 (wrap64 ((shl .i64 1 (IntKind.u64.wrap (a0))) - 1))).bind fun t46002 => (some t46002)) else (none)) = some r := by rw [if_pos rfl] at H; exact H
  clear H
  have H := H1
  clear H1
  obtain ⟨ji5, hji5⟩ : ∃ j_ : Int, (IntKind.u64.wrap (a0)) = j_ := ⟨_, rfl⟩
  replace H : (if 0 ≤ (ji5) then ((spec_l1In.f a1 0 (wrap64 ((shl .i64 1 (ji5)) - 1))).bind fun t46002 => (some t46002)) else (none)) = some r := by first | (rw [hji5] at H; exact H) | (simp only [hji5] at H ⊢; exact H)
  (try rw [hji5] at A3)
  by_cases c6 : 0 ≤ (ji5)
  ·rw [if_pos c6] at H
   have c6b0 := eq_true c6
   have c6b1 : decide (0 ≤ (ji5)) = true := decide_eq_true c6
   clear c6
   obtain ⟨ji7, hji7⟩ : ∃ j_ : Int, (shl .i64 1 (ji5)) = j_ := ⟨_, rfl⟩
   replace H : ((spec_l1In.f a1 0 (wrap64 ((ji7) - 1))).bind fun t46002 => (some t46002)) = some r := by first | (rw [hji7] at H; exact H) | (simp only [hji7] at H ⊢; exact H)
   (try rw [hji7] at A3)
   have hji7_ : (IntKind.i64.wrap (1 * 2 ^ min (ji5).toNat 64)) = ji7 := hji7
   have hji7z : (ji5) ≤ 64 → (IntKind.i64.wrap (1 * 2 ^ (ji5).toNat)) = ji7 := shl_small hji7
   have hji7u : (IntKind.i64.wrap (2 ^ min (ji5).toNat 64)) = ji7 := by have h_ := hji7_; rw [Int.one_mul] at h_; exact h_
   have hji7v : (ji5) ≤ 64 → (IntKind.i64.wrap (2 ^ (ji5).toNat)) = ji7 := fun hle_ => by have h_ := hji7z hle_; rw [Int.one_mul] at h_; exact h_
   have hji7y : (wrap64 (1 * 2 ^ min (ji5).toNat 64)) = ji7 := (i64_w _).symm.trans hji7_
   have hji7x : (ji5) ≤ 64 → (wrap64 (1 * 2 ^ (ji5).toNat)) = ji7 := fun h_ => (i64_w _).symm.trans (hji7z h_)
   replace H := Option.bind_eq_some_iff.mp H
   obtain ⟨t46002, A80, H⟩ := H
   replace H : (some t46002) = some r := H
   have A8 := aQ A80
   clear A80
   obtain rfl := Option.some.inj H
   go_enter Try.func45, Try.ntmps45
   go_wp2_with (first | ((with_reducible refine gate_callee (f := 46) rfl ?_); refine goesL_ (some 6) rfl rfl Try.func46 (by kernel_rfl) rfl #[.int .i64 a0, .int .i64 0, .int .i64 8] rfl lm ?_; (with_reducible refine (spec_l1In.calls a0 0 8 true _ A3.out).mono ?_); rintro e w' ⟨rfl, ⟨nd, rfl⟩⟩; refine ⟨_, rfl, ?_⟩) | (go_at_call 46; (with_reducible refine (spec_l1In.calls a1 0 (wrap64 ((ji7) - 1)) t46002 _ A8.out).mono ?_); rintro e w' ⟨rfl, ⟨nd, rfl⟩⟩))
   go_ret
   exact ⟨by first | rfl | (simp; done) | (simp only [← hji5, ← hji7] <;> (first | rfl | simp)) | (simp [*]; done), rd_⟩
  ·rw [if_neg c6] at H
   exact absurd H (by simp)
 ·replace c4 := Bool.eq_false_iff.mpr c4
  subst c4
  have H1 : (some false) = some r := by rw [if_neg (show ¬ (false = true) by decide)] at H; exact H
  clear H
  have H := H1
  clear H1
  obtain rfl := Option.some.inj H
  go_enter Try.func45, Try.ntmps45
  go_wp2_with (first | ((with_reducible refine gate_callee (f := 46) rfl ?_); refine goesL_ (some 6) rfl rfl Try.func46 (by kernel_rfl) rfl #[.int .i64 a0, .int .i64 0, .int .i64 8] rfl lm ?_; (with_reducible refine (spec_l1In.calls a0 0 8 false _ A3.out).mono ?_); rintro e w' ⟨rfl, ⟨nd, rfl⟩⟩; refine ⟨_, rfl, ?_⟩))
  go_ret
  exact ⟨rs_, rd_⟩
/-! ### spec_IsFamily: function 30 -/
def spec_IsFamily.l0 : Nat → Int → List Int → Int → Option (Bool)
 | 0, _, _, _ => none
 | k + 1, x0, x1, x5 => if x5 < (x1.length : Int) then (if 0 ≤ x5 then ((spec_IsSet.f x0 (rd x1 x5)).bind fun t31002 => (if t31002 = true then (if x5 > 0 then (if 0 ≤ (wrap64 (x5 - 1)) then (if (wrap64 (x5 - 1)) < (x1.length : Int) then (if (rd x1 (wrap64 (x5 - 1))) ≥ (rd x1 x5) then (some false) else (spec_IsFamily.l0 k x0 x1 (wrap64 (x5 + 1)))) else (none)) else (none)) else (spec_IsFamily.l0 k x0 x1 (wrap64 (x5 + 1)))) else (some false))) else (none)) else ((spec_l1In.f x0 0 8).bind fun t31005 => (some t31005))
def spec_IsFamily.f (k : Nat) (a0 : Int) (l1 : List Int) : Option (Bool) := spec_IsFamily.l0 k a0 l1 0
theorem spec_IsFamily.mono_l : ∀ k, (∀ y0 y1 y2, LeO (spec_IsFamily.l0 k y0 y1 y2) (spec_IsFamily.l0 (k + 1) y0 y1 y2))
 | 0 => fun _ _ _ r h => by simp [spec_IsFamily.l0] at h
 | k + 1 => by
  have ih0 := spec_IsFamily.mono_l k
  ·intro y0 y1 y2
   unfold spec_IsFamily.l0
   repeat' first
   | (with_reducible exact ih0 _ _ _)
   | (with_reducible exact LeO.refl _)
   | (with_reducible exact LeO.none _)
   | (with_reducible refine LeO.ite ?_ ?_)
   | (with_reducible refine LeO.bind ?_ (fun _ => ?_))
   | exact ih0 _ _ _
   | exact LeO.none _
   | refine LeO.ite ?_ ?_
   | refine LeO.bind ?_ (fun _ => ?_)
theorem spec_IsFamily.mono : ∀ a0 a1 k, LeO (spec_IsFamily.f k a0 a1) (spec_IsFamily.f (k + 1) a0 a1) := by
 intro a0 a1 k
 have ih0 := spec_IsFamily.mono_l k
 unfold spec_IsFamily.f
 repeat' first
   | (with_reducible exact ih0 _ _ _)
   | (with_reducible exact LeO.refl _)
   | (with_reducible exact LeO.none _)
   | (with_reducible refine LeO.ite ?_ ?_)
   | (with_reducible refine LeO.bind ?_ (fun _ => ?_))
   | exact ih0 _ _ _
   | exact LeO.none _
   | refine LeO.ite ?_ ?_
   | refine LeO.bind ?_ (fun _ => ?_)
set_option maxHeartbeats 8000000 in
set_option maxRecDepth 100000 in
theorem spec_IsFamily.calls (k : Nat) (a0 : Int) (A1 : Option Addr) (c1 : Nat) (l1 : List Int) (r : Bool) (w : World) (hr1 : Kd.C (Kd.int .i64) w A1 l1.length l1) (hc1 : l1.length ≤ c1) (h : spec_IsFamily.f k a0 l1 = some r) :
  Calls Try.prog 30 #[.int .i64 a0, .slice A1 l1.length c1] w fun e w' => e = .returned (.bool r) ∧ Drawn0 w w' := by
 have HR1 := aQ hr1
 have HC1 := aQ hc1
 clear hr1 hc1
 have H : (spec_IsFamily.l0 k a0 l1 0) = some r := h
 clear h
 have H' := aQ H
 clear H
 go_enter Try.func30, Try.ntmps30
 go_wp2
 repeat (go_quiet (fail); try go_wp2)
 go_loopg [5] k (fun kq v5 w' => ∃ (x5_1 : Int), v5 = .int .i64 x5_1 ∧ Aside0 (spec_IsFamily.l0 kq a0 l1 x5_1 = some r) ∧ Aside0 (kq ≤ k) ∧ Drawn0 w w')
 case atStart => exact ⟨(0), rs_, H', ⟨Nat.le_refl _⟩, rd_⟩
 case round =>
  clear H'
  try clear c1
  try clear p2
  obtain ⟨x5_1, rfl, HA, HK1, ⟨m1, rfl⟩⟩ := hrel
  cases gk with
  | zero => exact absurd HA.out (by simp [spec_IsFamily.l0])
  | succ k1 =>
   have H := HA.out
   clear HA
   simp only [spec_IsFamily.l0] at H
   by_cases c3 : x5_1 < (l1.length : Int)
   ·rw [if_pos c3] at H
    have c3b0 : decide (x5_1 < (l1.length : Int)) = true := decide_eq_true c3
    clear c3
    by_cases c4 : 0 ≤ x5_1
    ·rw [if_pos c4] at H
     have c4b0 : decide (0 ≤ x5_1) = true := decide_eq_true c4
     clear c4
     replace H := Option.bind_eq_some_iff.mp H
     obtain ⟨t31002, A50, H⟩ := H
     replace H : (if t31002 = true then (if x5_1 > 0 then (if 0 ≤ (wrap64 (x5_1 - 1)) then (if (wrap64 (x5_1 - 1)) < (l1.length : Int) then (if (rd l1 (wrap64 (x5_1 - 1))) ≥ (rd l1 x5_1) then (some false) else (spec_IsFamily.l0 k1 a0 l1 (wrap64 (x5_1 + 1)))) else (none)) else (none)) else (spec_IsFamily.l0 k1 a0 l1 (wrap64 (x5_1 + 1)))) else (some false)) = some r := H
     have A5 := aQ A50
     clear A50
     by_cases c6 : t31002 = true
     ·subst c6
      have H1 : (if x5_1 > 0 then (if 0 ≤ (wrap64 (x5_1 - 1)) then (if (wrap64 (x5_1 - 1)) < (l1.length : Int) then (if (rd l1 (wrap64 (x5_1 - 1))) ≥ (rd l1 x5_1) then (some false) else (spec_IsFamily.l0 k1 a0 l1 (wrap64 (x5_1 + 1)))) else (none)) else (none)) else (spec_IsFamily.l0 k1 a0 l1 (wrap64 (x5_1 + 1)))) = some r := by rw [if_pos rfl] at H; exact H
      clear H
      have H := H1
      clear H1
      by_cases c7 : x5_1 > 0
      ·rw [if_pos c7] at H
       have c7b0 : decide (0 < x5_1) = true := decide_eq_true c7
       clear c7
       obtain ⟨ji8, hji8⟩ : ∃ j_ : Int, (wrap64 (x5_1 - 1)) = j_ := ⟨_, rfl⟩
       replace H : (if 0 ≤ (ji8) then (if (ji8) < (l1.length : Int) then (if (rd l1 (ji8)) ≥ (rd l1 x5_1) then (some false) else (spec_IsFamily.l0 k1 a0 l1 (wrap64 (x5_1 + 1)))) else (none)) else (none)) = some r := by first | (rw [hji8] at H; exact H) | (simp only [hji8] at H ⊢; exact H)
       (try rw [hji8] at A5)
       have hji8w : (IntKind.i64.wrap (x5_1 - 1)) = ji8 := (i64_w _).trans hji8
       by_cases c9 : 0 ≤ (ji8)
       ·rw [if_pos c9] at H
        have c9b0 : decide (0 ≤ (ji8)) = true := decide_eq_true c9
        clear c9
        by_cases c10 : (ji8) < (l1.length : Int)
        ·rw [if_pos c10] at H
         have c10b0 : decide ((ji8) < (l1.length : Int)) = true := decide_eq_true c10
         clear c10
         by_cases c11 : (rd l1 (ji8)) ≥ (rd l1 x5_1)
         ·rw [if_pos c11] at H
          have c11b0 : decide ((rd l1 x5_1) ≤ (rd l1 (ji8))) = true := decide_eq_true c11
          clear c11
          obtain rfl := Option.some.inj H
          have p31001 : 0 ≤ (x5_1 : Int) := of_decide_eq_true as_
          have q31001 : x5_1 < (l1.length : Int) := of_decide_eq_true as_
          obtain ⟨ad31001, e31001, hx31001_0⟩ := Kd.at_int HR1.out x5_1 p31001 q31001
          cases e31001
          replace p31001 := eq_true p31001
          replace q31001 := eq_true q31001
          go_wp2_with (first | (go_at_call 45; (with_reducible refine (spec_IsSet.calls a0 (rd l1 x5_1) true _ A5.out).mono ?_); rintro e w' ⟨rfl, ⟨nd, rfl⟩⟩; (try first | exact ⟨rfl, _, World.drewN_drewN _ _ _⟩ | exact ⟨rfl, _, Eq.trans (World.drewN_drewN _ _ _) (congrArg (World.drewN _) (Nat.add_assoc _ _ _))⟩); have p31003 : 0 ≤ ((ji8) : Int) := of_decide_eq_true as_; have q31003 : (ji8) < (l1.length : Int) := of_decide_eq_true as_; obtain ⟨ad31003, e31003, hx31003_0⟩ := Kd.at_int HR1.out (ji8) p31003 q31003; obtain rfl : ad31001 = ad31003 := (by injection e31003); replace p31003 := eq_true p31003; replace q31003 := eq_true q31003; have p31004 : 0 ≤ (x5_1 : Int) := of_decide_eq_true as_; have q31004 : x5_1 < (l1.length : Int) := of_decide_eq_true as_; obtain ⟨ad31004, e31004, hx31004_0⟩ := Kd.at_int HR1.out x5_1 p31004 q31004; obtain rfl : ad31001 = ad31004 := (by injection e31004); replace p31004 := eq_true p31004; replace q31004 := eq_true q31004))
          repeat (go_quiet (first | (go_at_call 45; (with_reducible refine (spec_IsSet.calls a0 (rd l1 x5_1) true _ A5.out).mono ?_); rintro e w' ⟨rfl, ⟨nd, rfl⟩⟩; (try first | exact ⟨rfl, _, World.drewN_drewN _ _ _⟩ | exact ⟨rfl, _, Eq.trans (World.drewN_drewN _ _ _) (congrArg (World.drewN _) (Nat.add_assoc _ _ _))⟩); have p31003 : 0 ≤ ((ji8) : Int) := of_decide_eq_true as_; have q31003 : (ji8) < (l1.length : Int) := of_decide_eq_true as_; obtain ⟨ad31003, e31003, hx31003_0⟩ := Kd.at_int HR1.out (ji8) p31003 q31003; obtain rfl : ad31001 = ad31003 := (by injection e31003); replace p31003 := eq_true p31003; replace q31003 := eq_true q31003; have p31004 : 0 ≤ (x5_1 : Int) := of_decide_eq_true as_; have q31004 : x5_1 < (l1.length : Int) := of_decide_eq_true as_; obtain ⟨ad31004, e31004, hx31004_0⟩ := Kd.at_int HR1.out x5_1 p31004 q31004; obtain rfl : ad31001 = ad31004 := (by injection e31004); replace p31004 := eq_true p31004; replace q31004 := eq_true q31004)); try go_wp2_with (first | (go_at_call 45; (with_reducible refine (spec_IsSet.calls a0 (rd l1 x5_1) true _ A5.out).mono ?_); rintro e w' ⟨rfl, ⟨nd, rfl⟩⟩; (try first | exact ⟨rfl, _, World.drewN_drewN _ _ _⟩ | exact ⟨rfl, _, Eq.trans (World.drewN_drewN _ _ _) (congrArg (World.drewN _) (Nat.add_assoc _ _ _))⟩); have p31003 : 0 ≤ ((ji8) : Int) := of_decide_eq_true as_; have q31003 : (ji8) < (l1.length : Int) := of_decide_eq_true as_; obtain ⟨ad31003, e31003, hx31003_0⟩ := Kd.at_int HR1.out (ji8) p31003 q31003; obtain rfl : ad31001 = ad31003 := (by injection e31003); replace p31003 := eq_true p31003; replace q31003 := eq_true q31003; have p31004 : 0 ≤ (x5_1 : Int) := of_decide_eq_true as_; have q31004 : x5_1 < (l1.length : Int) := of_decide_eq_true as_; obtain ⟨ad31004, e31004, hx31004_0⟩ := Kd.at_int HR1.out x5_1 p31004 q31004; obtain rfl : ad31001 = ad31004 := (by injection e31004); replace p31004 := eq_true p31004; replace q31004 := eq_true q31004)))
          go_ret
          exact ⟨by first | rfl | (simp; done) | (simp only [← hji8] <;> (first | rfl | simp)) | (simp [*]; done), rd_⟩
         ·rw [if_neg c11] at H
          have c11b0 : decide ((rd l1 x5_1) ≤ (rd l1 (ji8))) = false := decide_eq_false c11
          clear c11
          have H' := aQ H
          clear H
          have p31001 : 0 ≤ (x5_1 : Int) := of_decide_eq_true as_
          have q31001 : x5_1 < (l1.length : Int) := of_decide_eq_true as_
          obtain ⟨ad31001, e31001, hx31001_0⟩ := Kd.at_int HR1.out x5_1 p31001 q31001
          cases e31001
          replace p31001 := eq_true p31001
          replace q31001 := eq_true q31001
          go_wp2_with (first | (go_at_call 45; (with_reducible refine (spec_IsSet.calls a0 (rd l1 x5_1) true _ A5.out).mono ?_); rintro e w' ⟨rfl, ⟨nd, rfl⟩⟩; (try first | exact ⟨rfl, _, World.drewN_drewN _ _ _⟩ | exact ⟨rfl, _, Eq.trans (World.drewN_drewN _ _ _) (congrArg (World.drewN _) (Nat.add_assoc _ _ _))⟩); have p31003 : 0 ≤ ((ji8) : Int) := of_decide_eq_true as_; have q31003 : (ji8) < (l1.length : Int) := of_decide_eq_true as_; obtain ⟨ad31003, e31003, hx31003_0⟩ := Kd.at_int HR1.out (ji8) p31003 q31003; obtain rfl : ad31001 = ad31003 := (by injection e31003); replace p31003 := eq_true p31003; replace q31003 := eq_true q31003; have p31004 : 0 ≤ (x5_1 : Int) := of_decide_eq_true as_; have q31004 : x5_1 < (l1.length : Int) := of_decide_eq_true as_; obtain ⟨ad31004, e31004, hx31004_0⟩ := Kd.at_int HR1.out x5_1 p31004 q31004; obtain rfl : ad31001 = ad31004 := (by injection e31004); replace p31004 := eq_true p31004; replace q31004 := eq_true q31004))
          repeat (go_quiet (first | (go_at_call 45; (with_reducible refine (spec_IsSet.calls a0 (rd l1 x5_1) true _ A5.out).mono ?_); rintro e w' ⟨rfl, ⟨nd, rfl⟩⟩; (try first | exact ⟨rfl, _, World.drewN_drewN _ _ _⟩ | exact ⟨rfl, _, Eq.trans (World.drewN_drewN _ _ _) (congrArg (World.drewN _) (Nat.add_assoc _ _ _))⟩); have p31003 : 0 ≤ ((ji8) : Int) := of_decide_eq_true as_; have q31003 : (ji8) < (l1.length : Int) := of_decide_eq_true as_; obtain ⟨ad31003, e31003, hx31003_0⟩ := Kd.at_int HR1.out (ji8) p31003 q31003; obtain rfl : ad31001 = ad31003 := (by injection e31003); replace p31003 := eq_true p31003; replace q31003 := eq_true q31003; have p31004 : 0 ≤ (x5_1 : Int) := of_decide_eq_true as_; have q31004 : x5_1 < (l1.length : Int) := of_decide_eq_true as_; obtain ⟨ad31004, e31004, hx31004_0⟩ := Kd.at_int HR1.out x5_1 p31004 q31004; obtain rfl : ad31001 = ad31004 := (by injection e31004); replace p31004 := eq_true p31004; replace q31004 := eq_true q31004)); try go_wp2_with (first | (go_at_call 45; (with_reducible refine (spec_IsSet.calls a0 (rd l1 x5_1) true _ A5.out).mono ?_); rintro e w' ⟨rfl, ⟨nd, rfl⟩⟩; (try first | exact ⟨rfl, _, World.drewN_drewN _ _ _⟩ | exact ⟨rfl, _, Eq.trans (World.drewN_drewN _ _ _) (congrArg (World.drewN _) (Nat.add_assoc _ _ _))⟩); have p31003 : 0 ≤ ((ji8) : Int) := of_decide_eq_true as_; have q31003 : (ji8) < (l1.length : Int) := of_decide_eq_true as_; obtain ⟨ad31003, e31003, hx31003_0⟩ := Kd.at_int HR1.out (ji8) p31003 q31003; obtain rfl : ad31001 = ad31003 := (by injection e31003); replace p31003 := eq_true p31003; replace q31003 := eq_true q31003; have p31004 : 0 ≤ (x5_1 : Int) := of_decide_eq_true as_; have q31004 : x5_1 < (l1.length : Int) := of_decide_eq_true as_; obtain ⟨ad31004, e31004, hx31004_0⟩ := Kd.at_int HR1.out x5_1 p31004 q31004; obtain rfl : ad31001 = ad31004 := (by injection e31004); replace p31004 := eq_true p31004; replace q31004 := eq_true q31004)))
          go_roundg k1
          case measure => have := HK1.out; omega
          case rel => exact ⟨(wrap64 (x5_1 + 1)), rs_, H', ⟨by have := HK1.out; omega⟩, rd_⟩
        ·rw [if_neg c10] at H
         exact absurd H (by simp)
       ·rw [if_neg c9] at H
        exact absurd H (by simp)
      ·rw [if_neg c7] at H
       have c7b0 : decide (0 < x5_1) = false := decide_eq_false c7
       clear c7
       have H' := aQ H
       clear H
       have p31001 : 0 ≤ (x5_1 : Int) := of_decide_eq_true as_
       have q31001 : x5_1 < (l1.length : Int) := of_decide_eq_true as_
       obtain ⟨ad31001, e31001, hx31001_0⟩ := Kd.at_int HR1.out x5_1 p31001 q31001
       cases e31001
       replace p31001 := eq_true p31001
       replace q31001 := eq_true q31001
       go_wp2_with (first | (go_at_call 45; (with_reducible refine (spec_IsSet.calls a0 (rd l1 x5_1) true _ A5.out).mono ?_); rintro e w' ⟨rfl, ⟨nd, rfl⟩⟩; (try first | exact ⟨rfl, _, World.drewN_drewN _ _ _⟩ | exact ⟨rfl, _, Eq.trans (World.drewN_drewN _ _ _) (congrArg (World.drewN _) (Nat.add_assoc _ _ _))⟩)))
       repeat (go_quiet (first | (go_at_call 45; (with_reducible refine (spec_IsSet.calls a0 (rd l1 x5_1) true _ A5.out).mono ?_); rintro e w' ⟨rfl, ⟨nd, rfl⟩⟩; (try first | exact ⟨rfl, _, World.drewN_drewN _ _ _⟩ | exact ⟨rfl, _, Eq.trans (World.drewN_drewN _ _ _) (congrArg (World.drewN _) (Nat.add_assoc _ _ _))⟩))); try go_wp2_with (first | (go_at_call 45; (with_reducible refine (spec_IsSet.calls a0 (rd l1 x5_1) true _ A5.out).mono ?_); rintro e w' ⟨rfl, ⟨nd, rfl⟩⟩; (try first | exact ⟨rfl, _, World.drewN_drewN _ _ _⟩ | exact ⟨rfl, _, Eq.trans (World.drewN_drewN _ _ _) (congrArg (World.drewN _) (Nat.add_assoc _ _ _))⟩))))
       go_roundg k1
       case measure => have := HK1.out; omega
       case rel => exact ⟨(wrap64 (x5_1 + 1)), rs_, H', ⟨by have := HK1.out; omega⟩, rd_⟩
     ·replace c6 := Bool.eq_false_iff.mpr c6
      subst c6
      have H1 : (some false) = some r := by rw [if_neg (show ¬ (false = true) by decide)] at H; exact H
      clear H
      have H := H1
      clear H1
      obtain rfl := Option.some.inj H
      have p31001 : 0 ≤ (x5_1 : Int) := of_decide_eq_true as_
      have q31001 : x5_1 < (l1.length : Int) := of_decide_eq_true as_
      obtain ⟨ad31001, e31001, hx31001_0⟩ := Kd.at_int HR1.out x5_1 p31001 q31001
      cases e31001
      replace p31001 := eq_true p31001
      replace q31001 := eq_true q31001
      go_wp2_with (first | (go_at_call 45; (with_reducible refine (spec_IsSet.calls a0 (rd l1 x5_1) false _ A5.out).mono ?_); rintro e w' ⟨rfl, ⟨nd, rfl⟩⟩; (try first | exact ⟨rfl, _, World.drewN_drewN _ _ _⟩ | exact ⟨rfl, _, Eq.trans (World.drewN_drewN _ _ _) (congrArg (World.drewN _) (Nat.add_assoc _ _ _))⟩)))
      repeat (go_quiet (first | (go_at_call 45; (with_reducible refine (spec_IsSet.calls a0 (rd l1 x5_1) false _ A5.out).mono ?_); rintro e w' ⟨rfl, ⟨nd, rfl⟩⟩; (try first | exact ⟨rfl, _, World.drewN_drewN _ _ _⟩ | exact ⟨rfl, _, Eq.trans (World.drewN_drewN _ _ _) (congrArg (World.drewN _) (Nat.add_assoc _ _ _))⟩))); try go_wp2_with (first | (go_at_call 45; (with_reducible refine (spec_IsSet.calls a0 (rd l1 x5_1) false _ A5.out).mono ?_); rintro e w' ⟨rfl, ⟨nd, rfl⟩⟩; (try first | exact ⟨rfl, _, World.drewN_drewN _ _ _⟩ | exact ⟨rfl, _, Eq.trans (World.drewN_drewN _ _ _) (congrArg (World.drewN _) (Nat.add_assoc _ _ _))⟩))))
      go_ret
      exact ⟨rs_, rd_⟩
    ·rw [if_neg c4] at H
     exact absurd H (by simp)
   ·rw [if_neg c3] at H
    have c3b0 : decide (x5_1 < (l1.length : Int)) = false := decide_eq_false c3
    clear c3
    replace H := Option.bind_eq_some_iff.mp H
    obtain ⟨t31005, A120, H⟩ := H
    replace H : (some t31005) = some r := H
    have A12 := aQ A120
    clear A120
    obtain rfl := Option.some.inj H
    go_wp2_with (first | (go_at_call 46; (with_reducible refine (spec_l1In.calls a0 0 8 t31005 _ A12.out).mono ?_); rintro e w' ⟨rfl, ⟨nd, rfl⟩⟩; (try first | exact ⟨rfl, _, World.drewN_drewN _ _ _⟩ | exact ⟨rfl, _, Eq.trans (World.drewN_drewN _ _ _) (congrArg (World.drewN _) (Nat.add_assoc _ _ _))⟩)))
    repeat (go_quiet (first | (go_at_call 46; (with_reducible refine (spec_l1In.calls a0 0 8 t31005 _ A12.out).mono ?_); rintro e w' ⟨rfl, ⟨nd, rfl⟩⟩; (try first | exact ⟨rfl, _, World.drewN_drewN _ _ _⟩ | exact ⟨rfl, _, Eq.trans (World.drewN_drewN _ _ _) (congrArg (World.drewN _) (Nat.add_assoc _ _ _))⟩))); try go_wp2_with (first | (go_at_call 46; (with_reducible refine (spec_l1In.calls a0 0 8 t31005 _ A12.out).mono ?_); rintro e w' ⟨rfl, ⟨nd, rfl⟩⟩; (try first | exact ⟨rfl, _, World.drewN_drewN _ _ _⟩ | exact ⟨rfl, _, Eq.trans (World.drewN_drewN _ _ _) (congrArg (World.drewN _) (Nat.add_assoc _ _ _))⟩))))
    go_ret
    exact ⟨rs_, rd_⟩
/-! ### spec_HasSet: function 31 -/
def spec_HasSet.l0 : Nat → List Int → Int → Int → Option (Bool)
 | 0, _, _, _ => none
 | k + 1, x0, x1, x5 => if x5 < (x0.length : Int) then (if 0 ≤ x5 then (if (rd x0 x5) = x1 then (some true) else (spec_HasSet.l0 k x0 x1 (wrap64 (x5 + 1)))) else (none)) else (some false)
def spec_HasSet.f (k : Nat) (l0 : List Int) (a1 : Int) : Option (Bool) := spec_HasSet.l0 k l0 a1 0
theorem spec_HasSet.mono_l : ∀ k, (∀ y0 y1 y2, LeO (spec_HasSet.l0 k y0 y1 y2) (spec_HasSet.l0 (k + 1) y0 y1 y2))
 | 0 => fun _ _ _ r h => by simp [spec_HasSet.l0] at h
 | k + 1 => by
  have ih0 := spec_HasSet.mono_l k
  ·intro y0 y1 y2
   unfold spec_HasSet.l0
   repeat' first
   | (with_reducible exact ih0 _ _ _)
   | (with_reducible exact LeO.refl _)
   | (with_reducible exact LeO.none _)
   | (with_reducible refine LeO.ite ?_ ?_)
   | (with_reducible refine LeO.bind ?_ (fun _ => ?_))
   | exact ih0 _ _ _
   | exact LeO.none _
   | refine LeO.ite ?_ ?_
   | refine LeO.bind ?_ (fun _ => ?_)
theorem spec_HasSet.mono : ∀ a0 a1 k, LeO (spec_HasSet.f k a0 a1) (spec_HasSet.f (k + 1) a0 a1) := by
 intro a0 a1 k
 have ih0 := spec_HasSet.mono_l k
 unfold spec_HasSet.f
 repeat' first
   | (with_reducible exact ih0 _ _ _)
   | (with_reducible exact LeO.refl _)
   | (with_reducible exact LeO.none _)
   | (with_reducible refine LeO.ite ?_ ?_)
   | (with_reducible refine LeO.bind ?_ (fun _ => ?_))
   | exact ih0 _ _ _
   | exact LeO.none _
   | refine LeO.ite ?_ ?_
   | refine LeO.bind ?_ (fun _ => ?_)
set_option maxHeartbeats 8000000 in
set_option maxRecDepth 100000 in
theorem spec_HasSet.calls (k : Nat) (A0 : Option Addr) (c0 : Nat) (l0 : List Int) (a1 : Int) (r : Bool) (w : World) (hr0 : Kd.C (Kd.int .i64) w A0 l0.length l0) (hc0 : l0.length ≤ c0) (h : spec_HasSet.f k l0 a1 = some r) :
  Calls Try.prog 31 #[.slice A0 l0.length c0, .int .i64 a1] w fun e w' => e = .returned (.bool r) ∧ Drawn0 w w' := by
 have HR0 := aQ hr0
 have HC0 := aQ hc0
 clear hr0 hc0
 have H : (spec_HasSet.l0 k l0 a1 0) = some r := h
 clear h
 have H' := aQ H
 clear H
 go_enter Try.func31, Try.ntmps31
 go_wp2
 go_loopg [5] k (fun kq v5 w' => ∃ (x5_1 : Int), v5 = .int .i64 x5_1 ∧ Aside0 (spec_HasSet.l0 kq l0 a1 x5_1 = some r) ∧ Aside0 (kq ≤ k) ∧ Drawn0 w w')
 case atStart => exact ⟨(0), rs_, H', ⟨Nat.le_refl _⟩, rd_⟩
 case round =>
  clear H'
  try clear p2
  obtain ⟨x5_1, rfl, HA, HK1, ⟨m1, rfl⟩⟩ := hrel
  cases gk with
  | zero => exact absurd HA.out (by simp [spec_HasSet.l0])
  | succ k1 =>
   have H := HA.out
   clear HA
   simp only [spec_HasSet.l0] at H
   by_cases c3 : x5_1 < (l0.length : Int)
   ·rw [if_pos c3] at H
    have c3b0 : decide (x5_1 < (l0.length : Int)) = true := decide_eq_true c3
    clear c3
    by_cases c4 : 0 ≤ x5_1
    ·rw [if_pos c4] at H
     have c4b0 : decide (0 ≤ x5_1) = true := decide_eq_true c4
     clear c4
     by_cases c5 : (rd l0 x5_1) = a1
     ·rw [if_pos c5] at H
      have c5b0 : ((rd l0 x5_1) == a1) = true := beq_iff_eq.mpr c5
      have c5b1 : ((rd l0 x5_1) != a1) = false := bne_eq_false_iff_eq.mpr c5
      clear c5
      obtain rfl := Option.some.inj H
      have p32001 : 0 ≤ (x5_1 : Int) := of_decide_eq_true as_
      have q32001 : x5_1 < (l0.length : Int) := of_decide_eq_true as_
      obtain ⟨ad32001, e32001, hx32001_0⟩ := Kd.at_int HR0.out x5_1 p32001 q32001
      cases e32001
      replace p32001 := eq_true p32001
      replace q32001 := eq_true q32001
      go_wp2
      go_ret
      exact ⟨rs_, rd_⟩
     ·rw [if_neg c5] at H
      have c5b0 : ((rd l0 x5_1) == a1) = false := beq_eq_false_iff_ne.mpr c5
      have c5b1 : ((rd l0 x5_1) != a1) = true := bne_iff_ne.mpr c5
      have H' := aQ H
      clear H
      have p32001 : 0 ≤ (x5_1 : Int) := of_decide_eq_true as_
      have q32001 : x5_1 < (l0.length : Int) := of_decide_eq_true as_
      obtain ⟨ad32001, e32001, hx32001_0⟩ := Kd.at_int HR0.out x5_1 p32001 q32001
      cases e32001
      replace p32001 := eq_true p32001
      replace q32001 := eq_true q32001
      go_wp2
      go_roundg k1
      case measure => have := HK1.out; omega
      case rel => exact ⟨(wrap64 (x5_1 + 1)), rs_, H', ⟨by have := HK1.out; omega⟩, rd_⟩
    ·rw [if_neg c4] at H
     exact absurd H (by simp)
   ·rw [if_neg c3] at H
    have c3b0 : decide (x5_1 < (l0.length : Int)) = false := decide_eq_false c3
    clear c3
    obtain rfl := Option.some.inj H
    go_wp2
    go_ret
    exact ⟨rs_, rd_⟩
/-! ### spec_l4Exchange: function 44 -/
def spec_l4Exchange.l0 : Nat → Int → Int → Int → Int → Int → List Int → Option (Bool)
 | 0, _, _, _, _, _, _ => none
 | k + 1, x1, x2, x3, x9, x45002000, x45002001 => if x9 < x45002000 then ((spec_l2Has.f x2 x9).bind fun t45002 => (if t45002 = true then ((spec_l2Has.f x1 x9).bind fun t45003 => (if t45003 = true then (spec_l4Exchange.l0 k x1 x2 x3 (wrap64 (x9 + 1)) x45002000 x45002001) else (if 0 ≤ (IntKind.u64.wrap (x3)) then (if 0 ≤ (IntKind.u64.wrap (x9)) then ((spec_HasSet.f k x45002001 (wrap64 ((wrap64 (x1 - (shl .i64 1 (IntKind.u64.wrap (x3))))) + (shl .i64 1 (IntKind.u64.wrap (x9)))))).bind fun t45004 => (if t45004 = true then (some true) else (spec_l4Exchange.l0 k x1 x2 x3 (wrap64 (x9 + 1)) x45002000 x45002001))) else (none)) else (none)))) else (spec_l4Exchange.l0 k x1 x2 x3 (wrap64 (x9 + 1)) x45002000 x45002001))) else (some false)
def spec_l4Exchange.f (k : Nat) (a0_0 : Int) (l0_1 : List Int) (a1 : Int) (a2 : Int) (a3 : Int) : Option (Bool) := spec_l4Exchange.l0 k a1 a2 a3 0 a0_0 l0_1
theorem spec_l4Exchange.mono_l : ∀ k, (∀ y0 y1 y2 y3 y4 y5, LeO (spec_l4Exchange.l0 k y0 y1 y2 y3 y4 y5) (spec_l4Exchange.l0 (k + 1) y0 y1 y2 y3 y4 y5))
 | 0 => fun _ _ _ _ _ _ r h => by simp [spec_l4Exchange.l0] at h
 | k + 1 => by
  have ih0 := spec_l4Exchange.mono_l k
  ·intro y0 y1 y2 y3 y4 y5
   unfold spec_l4Exchange.l0
   repeat' first
   | (with_reducible exact ih0 _ _ _ _ _ _)
   | (with_reducible exact spec_HasSet.mono _ _ _)
   | (with_reducible exact LeO.refl _)
   | (with_reducible exact LeO.none _)
   | (with_reducible refine LeO.ite ?_ ?_)
   | (with_reducible refine LeO.bind ?_ (fun _ => ?_))
   | exact ih0 _ _ _ _ _ _
   | exact spec_HasSet.mono _ _ _
   | exact LeO.none _
   | refine LeO.ite ?_ ?_
   | refine LeO.bind ?_ (fun _ => ?_)
theorem spec_l4Exchange.mono : ∀ a0 a1 a2 a3 a4 k, LeO (spec_l4Exchange.f k a0 a1 a2 a3 a4) (spec_l4Exchange.f (k + 1) a0 a1 a2 a3 a4) := by
 intro a0 a1 a2 a3 a4 k
 have ih0 := spec_l4Exchange.mono_l k
 unfold spec_l4Exchange.f
 repeat' first
   | (with_reducible exact ih0 _ _ _ _ _ _)
   | (with_reducible exact spec_HasSet.mono _ _ _)
   | (with_reducible exact LeO.refl _)
   | (with_reducible exact LeO.none _)
   | (with_reducible refine LeO.ite ?_ ?_)
   | (with_reducible refine LeO.bind ?_ (fun _ => ?_))
   | exact ih0 _ _ _ _ _ _
   | exact spec_HasSet.mono _ _ _
   | exact LeO.none _
   | refine LeO.ite ?_ ?_
   | refine LeO.bind ?_ (fun _ => ?_)
set_option maxHeartbeats 8000000 in
set_option maxRecDepth 100000 in
theorem spec_l4Exchange.calls (k : Nat) (a0_0 : Int) (A0_1 : Option Addr) (c0_1 : Nat) (l0_1 : List Int) (a1 : Int) (a2 : Int) (a3 : Int) (r : Bool) (w : World) (hr0_1 : Kd.C (Kd.int .i64) w A0_1 l0_1.length l0_1) (hc0_1 : l0_1.length ≤ c0_1) (h : spec_l4Exchange.f k a0_0 l0_1 a1 a2 a3 = some r) :
  Calls Try.prog 44 #[.agg #[.int .i64 a0_0, .slice A0_1 l0_1.length c0_1], .int .i64 a1, .int .i64 a2, .int .i64 a3] w fun e w' => e = .returned (.bool r) ∧ Below w.heap.size w w' := by
 have hu28 := Try.underlying28
 have HR0_1 := aQ hr0_1
 have HC0_1 := aQ hc0_1
 clear hr0_1 hc0_1
 have HB := aQ (Below.refl w.heap.size w)
 have H : (spec_l4Exchange.l0 k a1 a2 a3 0 a0_0 l0_1) = some r := h
 clear h
 have H' := aQ H
 clear H
 go_enter Try.func44, Try.ntmps44
 go_wp2_with (first | ((with_reducible refine gate_dst (N := 4) rfl ?_); refine box_event ?hg (N := 4) ?hd (cs := #[.int .i64 a0_0, .slice A0_1 l0_1.length c0_1]) (t := 28) ?hr ?_; (case hd => rfl); (case hg => rfl); (case hr => first | (go_simp; done) | (go_simp; rfl)); intro gb45001 hg w5 hbox hb; have BK45001 := aQ (hbox); have GW45001 := aQ ((by rw [hg]; exact (below_size (pB HB.out)) : w.heap.size ≤ gb45001)); have GE45001 := aQ ((by rw [hg]; exact (below_size (pB HB.out)) : w.heap.size ≤ gb45001)); replace HB := aQ (below_step (pB HB.out) hb); clear hb hbox hg))
 go_loopg [9] k (fun kq v9 w' => ∃ (x9_1 : Int), v9 = .int .i64 x9_1 ∧ Aside0 (spec_l4Exchange.l0 kq a1 a2 a3 x9_1 a0_0 l0_1 = some r) ∧ Aside0 (kq ≤ k) ∧ Aside0 (w'.heap[gb45001]? = some (.cells #[.int .i64 a0_0, (.slice A0_1 l0_1.length c0_1)] 28 (0, 0))) ∧ Aside0 (Below w.heap.size w w'))
 case atStart => exact ⟨(0), rs_, H', ⟨Nat.le_refl _⟩, ⟨pk BK45001.out⟩, ⟨pB1 HB.out GE45001.out⟩⟩
 case round =>
  clear H'
  try clear p2
  try clear c4
  obtain ⟨x9_1, rfl, HA, HK1, BK45001, HB⟩ := hrel
  cases gk with
  | zero => exact absurd HA.out (by simp [spec_l4Exchange.l0])
  | succ k1 =>
   have H := HA.out
   clear HA
   simp only [spec_l4Exchange.l0] at H
   by_cases c6 : x9_1 < a0_0
   ·rw [if_pos c6] at H
    have c6b0 : decide (x9_1 < a0_0) = true := decide_eq_true c6
    clear c6
    replace H := Option.bind_eq_some_iff.mp H
    obtain ⟨t45002, A70, H⟩ := H
    replace H : (if t45002 = true then ((spec_l2Has.f a1 x9_1).bind fun t45003 => (if t45003 = true then (spec_l4Exchange.l0 k1 a1 a2 a3 (wrap64 (x9_1 + 1)) a0_0 l0_1) else (if 0 ≤ (IntKind.u64.wrap (a3)) then (if 0 ≤ (IntKind.u64.wrap (x9_1)) then ((spec_HasSet.f k1 l0_1 (wrap64 ((wrap64 (a1 - (shl .i64 1 (IntKind.u64.wrap (a3))))) + (shl .i64 1 (IntKind.u64.wrap (x9_1)))))).bind fun t45004 => (if t45004 = true then (some true) else (spec_l4Exchange.l0 k1 a1 a2 a3 (wrap64 (x9_1 + 1)) a0_0 l0_1))) else (none)) else (none)))) else (spec_l4Exchange.l0 k1 a1 a2 a3 (wrap64 (x9_1 + 1)) a0_0 l0_1)) = some r := H
    have A7 := aQ A70
    clear A70
    by_cases c8 : t45002 = true
    ·subst c8
     have H1 : ((spec_l2Has.f a1 x9_1).bind fun t45003 => (if t45003 = true then (spec_l4Exchange.l0 k1 a1 a2 a3 (wrap64 (x9_1 + 1)) a0_0 l0_1) else (if 0 ≤ (IntKind.u64.wrap (a3)) then (if 0 ≤ (IntKind.u64.wrap (x9_1)) then ((spec_HasSet.f k1 l0_1 (wrap64 ((wrap64 (a1 - (shl .i64 1 (IntKind.u64.wrap (a3))))) + (shl .i64 1 (IntKind.u64.wrap (x9_1)))))).bind fun t45004 => (if t45004 = true then (some true) else (spec_l4Exchange.l0 k1 a1 a2 a3 (wrap64 (x9_1 + 1)) a0_0 l0_1))) else (none)) else (none)))) = some r := by rw [if_pos rfl] at H; exact H
     clear H
     have H := H1
     clear H1
     replace H := Option.bind_eq_some_iff.mp H
     obtain ⟨t45003, A90, H⟩ := H
     replace H : (if t45003 = true then (spec_l4Exchange.l0 k1 a1 a2 a3 (wrap64 (x9_1 + 1)) a0_0 l0_1) else (if 0 ≤ (IntKind.u64.wrap (a3)) then (if 0 ≤ (IntKind.u64.wrap (x9_1)) then ((spec_HasSet.f k1 l0_1 (wrap64 ((wrap64 (a1 - (shl .i64 1 (IntKind.u64.wrap (a3))))) + (shl .i64 1 (IntKind.u64.wrap (x9_1)))))).bind fun t45004 => (if t45004 = true then (some true) else (spec_l4Exchange.l0 k1 a1 a2 a3 (wrap64 (x9_1 + 1)) a0_0 l0_1))) else (none)) else (none))) = some r := H
     have A9 := aQ A90
     clear A90
     by_cases c10 : t45003 = true
     ·subst c10
      have H1 : (spec_l4Exchange.l0 k1 a1 a2 a3 (wrap64 (x9_1 + 1)) a0_0 l0_1) = some r := by rw [if_pos rfl] at H; exact H
      clear H
      have H := H1
      clear H1
      have H' := aQ H
      clear H
      have hcz11_0 := bc (v := (.int .i64 a0_0)) BK45001.out 0
      have hcz11_1 := bc (v := (.slice A0_1 l0_1.length c0_1)) BK45001.out 1
      have hfz11_0 := blk_frozen BK45001.out 0
      have hfz11_1 := blk_frozen BK45001.out 1
      go_wp2_with (first | ((with_reducible refine gate_callee (f := 16) rfl ?_); refine goesL_ (some 18) rfl rfl Try.func16 (by kernel_rfl) rfl #[.int .i64 a2, .int .i64 x9_1] rfl lm ?_; (with_reducible refine (spec_l2Has.calls a2 x9_1 true _ A7.out).mono ?_); rintro e w' ⟨rfl, ⟨nd, rfl⟩⟩; refine ⟨_, rfl, ?_⟩) | (go_at_call 16; (with_reducible refine (spec_l2Has.calls a1 x9_1 true _ A9.out).mono ?_); rintro e w' ⟨rfl, ⟨nd, rfl⟩⟩))
      go_roundg k1
      case measure => have := HK1.out; omega
      case rel => exact ⟨(wrap64 (x9_1 + 1)), rs_, H', ⟨by have := HK1.out; omega⟩, ⟨pk BK45001.out⟩, ⟨pB1 HB.out GE45001.out⟩⟩
     ·replace c10 := Bool.eq_false_iff.mpr c10
      subst c10
      have H1 : (if 0 ≤ (IntKind.u64.wrap (a3)) then (if 0 ≤ (IntKind.u64.wrap (x9_1)) then ((spec_HasSet.f k1 l0_1 (wrap64 ((wrap64 (a1 - (shl .i64 1 (IntKind.u64.wrap (a3))))) + (shl .i64 1 (IntKind.u64.wrap (x9_1)))))).bind fun t45004 => (if t45004 = true then (some true) else (spec_l4Exchange.l0 k1 a1 a2 a3 (wrap64 (x9_1 + 1)) a0_0 l0_1))) else (none)) else (none)) = some r := by rw [if_neg (show ¬ (false = true) by decide)] at H; exact H
      clear H
      have H := H1
      clear H1
      obtain ⟨ji12, hji12⟩ : ∃ j_ : Int, (IntKind.u64.wrap (a3)) = j_ := ⟨_, rfl⟩
      replace H : (if 0 ≤ (ji12) then (if 0 ≤ (IntKind.u64.wrap (x9_1)) then ((spec_HasSet.f k1 l0_1 (wrap64 ((wrap64 (a1 - (shl .i64 1 (ji12)))) + (shl .i64 1 (IntKind.u64.wrap (x9_1)))))).bind fun t45004 => (if t45004 = true then (some true) else (spec_l4Exchange.l0 k1 a1 a2 a3 (wrap64 (x9_1 + 1)) a0_0 l0_1))) else (none)) else (none)) = some r := by first | (rw [hji12] at H; exact H) | (simp only [hji12] at H ⊢; exact H)
      (try rw [hji12] at A7)
      (try rw [hji12] at A9)
      by_cases c13 : 0 ≤ (ji12)
      ·rw [if_pos c13] at H
       have c13b0 := eq_true c13
       have c13b1 : decide (0 ≤ (ji12)) = true := decide_eq_true c13
       clear c13
       obtain ⟨ji14, hji14⟩ : ∃ j_ : Int, (shl .i64 1 (ji12)) = j_ := ⟨_, rfl⟩
       replace H : (if 0 ≤ (IntKind.u64.wrap (x9_1)) then ((spec_HasSet.f k1 l0_1 (wrap64 ((wrap64 (a1 - (ji14))) + (shl .i64 1 (IntKind.u64.wrap (x9_1)))))).bind fun t45004 => (if t45004 = true then (some true) else (spec_l4Exchange.l0 k1 a1 a2 a3 (wrap64 (x9_1 + 1)) a0_0 l0_1))) else (none)) = some r := by first | (rw [hji14] at H; exact H) | (simp only [hji14] at H ⊢; exact H)
       (try rw [hji14] at A7)
       (try rw [hji14] at A9)
       have hji14_ : (IntKind.i64.wrap (1 * 2 ^ min (ji12).toNat 64)) = ji14 := hji14
       have hji14z : (ji12) ≤ 64 → (IntKind.i64.wrap (1 * 2 ^ (ji12).toNat)) = ji14 := shl_small hji14
       have hji14u : (IntKind.i64.wrap (2 ^ min (ji12).toNat 64)) = ji14 := by have h_ := hji14_; rw [Int.one_mul] at h_; exact h_
       have hji14v : (ji12) ≤ 64 → (IntKind.i64.wrap (2 ^ (ji12).toNat)) = ji14 := fun hle_ => by have h_ := hji14z hle_; rw [Int.one_mul] at h_; exact h_
       have hji14y : (wrap64 (1 * 2 ^ min (ji12).toNat 64)) = ji14 := (i64_w _).symm.trans hji14_
       have hji14x : (ji12) ≤ 64 → (wrap64 (1 * 2 ^ (ji12).toNat)) = ji14 := fun h_ => (i64_w _).symm.trans (hji14z h_)
       obtain ⟨ji15, hji15⟩ : ∃ j_ : Int, (IntKind.u64.wrap (x9_1)) = j_ := ⟨_, rfl⟩
       replace H : (if 0 ≤ (ji15) then ((spec_HasSet.f k1 l0_1 (wrap64 ((wrap64 (a1 - (ji14))) + (shl .i64 1 (ji15))))).bind fun t45004 => (if t45004 = true then (some true) else (spec_l4Exchange.l0 k1 a1 a2 a3 (wrap64 (x9_1 + 1)) a0_0 l0_1))) else (none)) = some r := by first | (rw [hji15] at H; exact H) | (simp only [hji15] at H ⊢; exact H)
       (try rw [hji15] at A7)
       (try rw [hji15] at A9)
       by_cases c16 : 0 ≤ (ji15)
       ·rw [if_pos c16] at H
        have c16b0 := eq_true c16
        have c16b1 : decide (0 ≤ (ji15)) = true := decide_eq_true c16
        clear c16
        obtain ⟨ji17, hji17⟩ : ∃ j_ : Int, (shl .i64 1 (ji15)) = j_ := ⟨_, rfl⟩
        replace H : ((spec_HasSet.f k1 l0_1 (wrap64 ((wrap64 (a1 - (ji14))) + (ji17)))).bind fun t45004 => (if t45004 = true then (some true) else (spec_l4Exchange.l0 k1 a1 a2 a3 (wrap64 (x9_1 + 1)) a0_0 l0_1))) = some r := by first | (rw [hji17] at H; exact H) | (simp only [hji17] at H ⊢; exact H)
        (try rw [hji17] at A7)
        (try rw [hji17] at A9)
        have hji17_ : (IntKind.i64.wrap (1 * 2 ^ min (ji15).toNat 64)) = ji17 := hji17
        have hji17z : (ji15) ≤ 64 → (IntKind.i64.wrap (1 * 2 ^ (ji15).toNat)) = ji17 := shl_small hji17
        have hji17u : (IntKind.i64.wrap (2 ^ min (ji15).toNat 64)) = ji17 := by have h_ := hji17_; rw [Int.one_mul] at h_; exact h_
        have hji17v : (ji15) ≤ 64 → (IntKind.i64.wrap (2 ^ (ji15).toNat)) = ji17 := fun hle_ => by have h_ := hji17z hle_; rw [Int.one_mul] at h_; exact h_
        have hji17y : (wrap64 (1 * 2 ^ min (ji15).toNat 64)) = ji17 := (i64_w _).symm.trans hji17_
        have hji17x : (ji15) ≤ 64 → (wrap64 (1 * 2 ^ (ji15).toNat)) = ji17 := fun h_ => (i64_w _).symm.trans (hji17z h_)
        replace H := Option.bind_eq_some_iff.mp H
        obtain ⟨t45004, A180, H⟩ := H
        replace H : (if t45004 = true then (some true) else (spec_l4Exchange.l0 k1 a1 a2 a3 (wrap64 (x9_1 + 1)) a0_0 l0_1)) = some r := H
        have A18 := aQ A180
        clear A180
        by_cases c19 : t45004 = true
        ·subst c19
         have H1 : (some true) = some r := by rw [if_pos rfl] at H; exact H
         clear H
         have H := H1
         clear H1
         obtain rfl := Option.some.inj H
         have hcz20_0 := bc (v := (.int .i64 a0_0)) BK45001.out 0
         have hcz20_1 := bc (v := (.slice A0_1 l0_1.length c0_1)) BK45001.out 1
         have hfz20_0 := blk_frozen BK45001.out 0
         have hfz20_1 := blk_frozen BK45001.out 1
         go_wp2_with (first | ((with_reducible refine gate_callee (f := 16) rfl ?_); refine goesL_ (some 18) rfl rfl Try.func16 (by kernel_rfl) rfl #[.int .i64 a2, .int .i64 x9_1] rfl lm ?_; (with_reducible refine (spec_l2Has.calls a2 x9_1 true _ A7.out).mono ?_); rintro e w' ⟨rfl, ⟨nd, rfl⟩⟩; refine ⟨_, rfl, ?_⟩) | (go_at_call 16; (with_reducible refine (spec_l2Has.calls a1 x9_1 false _ A9.out).mono ?_); rintro e w' ⟨rfl, ⟨nd, rfl⟩⟩) | (go_at_call 31; (with_reducible refine (spec_HasSet.calls k1 _ _ l0_1 (wrap64 ((wrap64 (a1 - (ji14))) + (ji17))) true _ ?side1 ?side2 A18.out).mono ?_); (case side1 => repeat (first | exact (Kd.C_below HR0_1.out (pB1 HB.out GE45001.out)) | (with_reducible refine Kd.C_alloc ?_ _) | (with_reducible refine Kd.C_drewN ?_ _) | (with_reducible refine Kd.C_drew ?_))); (case side2 => exact HC0_1.out); rintro e w' ⟨rfl, ⟨nd, rfl⟩⟩))
         go_ret
         exact ⟨by first | rfl | (simp [errW_none, errW_some] <;> rfl) | (simp only [← hji12, ← hji14, ← hji15, ← hji17]; first | rfl | (simp [errW_none, errW_some] <;> rfl)) | (simp [*, errW_none, errW_some] <;> rfl), pB1 HB.out GE45001.out⟩
        ·replace c19 := Bool.eq_false_iff.mpr c19
         subst c19
         have H1 : (spec_l4Exchange.l0 k1 a1 a2 a3 (wrap64 (x9_1 + 1)) a0_0 l0_1) = some r := by rw [if_neg (show ¬ (false = true) by decide)] at H; exact H
         clear H
         have H := H1
         clear H1
         have H' := aQ H
         clear H
         have hcz21_0 := bc (v := (.int .i64 a0_0)) BK45001.out 0
         have hcz21_1 := bc (v := (.slice A0_1 l0_1.length c0_1)) BK45001.out 1
         have hfz21_0 := blk_frozen BK45001.out 0
         have hfz21_1 := blk_frozen BK45001.out 1
         go_wp2_with (first | ((with_reducible refine gate_callee (f := 16) rfl ?_); refine goesL_ (some 18) rfl rfl Try.func16 (by kernel_rfl) rfl #[.int .i64 a2, .int .i64 x9_1] rfl lm ?_; (with_reducible refine (spec_l2Has.calls a2 x9_1 true _ A7.out).mono ?_); rintro e w' ⟨rfl, ⟨nd, rfl⟩⟩; refine ⟨_, rfl, ?_⟩) | (go_at_call 16; (with_reducible refine (spec_l2Has.calls a1 x9_1 false _ A9.out).mono ?_); rintro e w' ⟨rfl, ⟨nd, rfl⟩⟩) | (go_at_call 31; (with_reducible refine (spec_HasSet.calls k1 _ _ l0_1 (wrap64 ((wrap64 (a1 - (ji14))) + (ji17))) false _ ?side1 ?side2 A18.out).mono ?_); (case side1 => repeat (first | exact (Kd.C_below HR0_1.out (pB1 HB.out GE45001.out)) | (with_reducible refine Kd.C_alloc ?_ _) | (with_reducible refine Kd.C_drewN ?_ _) | (with_reducible refine Kd.C_drew ?_))); (case side2 => exact HC0_1.out); rintro e w' ⟨rfl, ⟨nd, rfl⟩⟩))
         go_roundg k1
         case measure => have := HK1.out; omega
         case rel => exact ⟨(wrap64 (x9_1 + 1)), rs_, H', ⟨by have := HK1.out; omega⟩, ⟨pk BK45001.out⟩, ⟨pB1 HB.out GE45001.out⟩⟩
       ·rw [if_neg c16] at H
        exact absurd H (by simp)
      ·rw [if_neg c13] at H
       exact absurd H (by simp)
    ·replace c8 := Bool.eq_false_iff.mpr c8
     subst c8
     have H1 : (spec_l4Exchange.l0 k1 a1 a2 a3 (wrap64 (x9_1 + 1)) a0_0 l0_1) = some r := by rw [if_neg (show ¬ (false = true) by decide)] at H; exact H
     clear H
     have H := H1
     clear H1
     have H' := aQ H
     clear H
     have hcz22_0 := bc (v := (.int .i64 a0_0)) BK45001.out 0
     have hcz22_1 := bc (v := (.slice A0_1 l0_1.length c0_1)) BK45001.out 1
     have hfz22_0 := blk_frozen BK45001.out 0
     have hfz22_1 := blk_frozen BK45001.out 1
     go_wp2_with (first | ((with_reducible refine gate_callee (f := 16) rfl ?_); refine goesL_ (some 18) rfl rfl Try.func16 (by kernel_rfl) rfl #[.int .i64 a2, .int .i64 x9_1] rfl lm ?_; (with_reducible refine (spec_l2Has.calls a2 x9_1 false _ A7.out).mono ?_); rintro e w' ⟨rfl, ⟨nd, rfl⟩⟩; refine ⟨_, rfl, ?_⟩))
     go_roundg k1
     case measure => have := HK1.out; omega
     case rel => exact ⟨(wrap64 (x9_1 + 1)), rs_, H', ⟨by have := HK1.out; omega⟩, ⟨pk BK45001.out⟩, ⟨pB1 HB.out GE45001.out⟩⟩
   ·rw [if_neg c6] at H
    have c6b0 : decide (x9_1 < a0_0) = false := decide_eq_false c6
    clear c6
    obtain rfl := Option.some.inj H
    have hcz23_0 := bc (v := (.int .i64 a0_0)) BK45001.out 0
    have hcz23_1 := bc (v := (.slice A0_1 l0_1.length c0_1)) BK45001.out 1
    have hfz23_0 := blk_frozen BK45001.out 0
    have hfz23_1 := blk_frozen BK45001.out 1
    go_wp2
    go_ret
    exact ⟨re_, pB1 HB.out GE45001.out⟩
/-! ### spec_FirstFailure: function 29 -/
mutual
def spec_FirstFailure.l0 : Nat → Int → Int → List Int → Option (Int × Int × Int × Bool)
 | 0, _, _, _ => none
 | k + 1, x4, x30002000, x30002001 => if x4 < (x30002001.length : Int) then (spec_FirstFailure.l1 k x4 0 x30002000 x30002001) else (some (0, 0, 0, false))
def spec_FirstFailure.l1 : Nat → Int → Int → Int → List Int → Option (Int × Int × Int × Bool)
 | 0, _, _, _, _ => none
 | k + 1, x4, x5, x30002000, x30002001 => if x5 < (x30002001.length : Int) then (spec_FirstFailure.l2 k x4 x5 0 x30002000 x30002001) else (spec_FirstFailure.l0 k (wrap64 (x4 + 1)) x30002000 x30002001)
def spec_FirstFailure.l2 : Nat → Int → Int → Int → Int → List Int → Option (Int × Int × Int × Bool)
 | 0, _, _, _, _, _ => none
 | k + 1, x4, x5, x6, x30002000, x30002001 => if x6 < x30002000 then (if 0 ≤ x4 then (if x4 < (x30002001.length : Int) then (if 0 ≤ x5 then (if x5 < (x30002001.length : Int) then ((spec_l2Has.f (rd x30002001 x4) x6).bind fun t30006 => (if t30006 = true then ((spec_l2Has.f (rd x30002001 x5) x6).bind fun t30007 => (if t30007 = true then (spec_FirstFailure.l2 k x4 x5 (wrap64 (x6 + 1)) x30002000 x30002001) else ((spec_l4Exchange.f k x30002000 x30002001 (rd x30002001 x4) (rd x30002001 x5) x6).bind fun t30008 => (if t30008 = true then (spec_FirstFailure.l2 k x4 x5 (wrap64 (x6 + 1)) x30002000 x30002001) else (some (rd x30002001 x4, rd x30002001 x5, x6, true)))))) else (spec_FirstFailure.l2 k x4 x5 (wrap64 (x6 + 1)) x30002000 x30002001))) else (none)) else (none)) else (none)) else (none)) else (spec_FirstFailure.l1 k x4 (wrap64 (x5 + 1)) x30002000 x30002001)
end
def spec_FirstFailure.f (k : Nat) (a0_0 : Int) (l0_1 : List Int) : Option (Int × Int × Int × Bool) := (spec_IsFamily.f k a0_0 l0_1).bind fun t30003 => (if t30003 = true then (spec_FirstFailure.l0 k 0 a0_0 l0_1) else (some (0, 0, 0, false)))
theorem spec_FirstFailure.mono_l : ∀ k, (∀ y0 y1 y2, LeO (spec_FirstFailure.l0 k y0 y1 y2) (spec_FirstFailure.l0 (k + 1) y0 y1 y2)) ∧ (∀ y0 y1 y2 y3, LeO (spec_FirstFailure.l1 k y0 y1 y2 y3) (spec_FirstFailure.l1 (k + 1) y0 y1 y2 y3)) ∧ (∀ y0 y1 y2 y3 y4, LeO (spec_FirstFailure.l2 k y0 y1 y2 y3 y4) (spec_FirstFailure.l2 (k + 1) y0 y1 y2 y3 y4))
 | 0 => ⟨fun _ _ _ r h => by simp [spec_FirstFailure.l0] at h, fun _ _ _ _ r h => by simp [spec_FirstFailure.l1] at h, fun _ _ _ _ _ r h => by simp [spec_FirstFailure.l2] at h⟩
 | k + 1 => by
  obtain ⟨ih0, ih1, ih2⟩ := spec_FirstFailure.mono_l k
  refine ⟨?_, ?_, ?_⟩
  ·intro y0 y1 y2
   unfold spec_FirstFailure.l0
   repeat' first
   | (with_reducible exact ih0 _ _ _)
   | (with_reducible exact ih1 _ _ _ _)
   | (with_reducible exact ih2 _ _ _ _ _)
   | (with_reducible exact spec_IsFamily.mono _ _ _)
   | (with_reducible exact spec_l4Exchange.mono _ _ _ _ _ _)
   | (with_reducible exact LeO.refl _)
   | (with_reducible exact LeO.none _)
   | (with_reducible refine LeO.ite ?_ ?_)
   | (with_reducible refine LeO.bind ?_ (fun _ => ?_))
   | exact ih0 _ _ _
   | exact ih1 _ _ _ _
   | exact ih2 _ _ _ _ _
   | exact spec_IsFamily.mono _ _ _
   | exact spec_l4Exchange.mono _ _ _ _ _ _
   | exact LeO.none _
   | refine LeO.ite ?_ ?_
   | refine LeO.bind ?_ (fun _ => ?_)
  ·intro y0 y1 y2 y3
   unfold spec_FirstFailure.l1
   repeat' first
   | (with_reducible exact ih0 _ _ _)
   | (with_reducible exact ih1 _ _ _ _)
   | (with_reducible exact ih2 _ _ _ _ _)
   | (with_reducible exact spec_IsFamily.mono _ _ _)
   | (with_reducible exact spec_l4Exchange.mono _ _ _ _ _ _)
   | (with_reducible exact LeO.refl _)
   | (with_reducible exact LeO.none _)
   | (with_reducible refine LeO.ite ?_ ?_)
   | (with_reducible refine LeO.bind ?_ (fun _ => ?_))
   | exact ih0 _ _ _
   | exact ih1 _ _ _ _
   | exact ih2 _ _ _ _ _
   | exact spec_IsFamily.mono _ _ _
   | exact spec_l4Exchange.mono _ _ _ _ _ _
   | exact LeO.none _
   | refine LeO.ite ?_ ?_
   | refine LeO.bind ?_ (fun _ => ?_)
  ·intro y0 y1 y2 y3 y4
   unfold spec_FirstFailure.l2
   repeat' first
   | (with_reducible exact ih0 _ _ _)
   | (with_reducible exact ih1 _ _ _ _)
   | (with_reducible exact ih2 _ _ _ _ _)
   | (with_reducible exact spec_IsFamily.mono _ _ _)
   | (with_reducible exact spec_l4Exchange.mono _ _ _ _ _ _)
   | (with_reducible exact LeO.refl _)
   | (with_reducible exact LeO.none _)
   | (with_reducible refine LeO.ite ?_ ?_)
   | (with_reducible refine LeO.bind ?_ (fun _ => ?_))
   | exact ih0 _ _ _
   | exact ih1 _ _ _ _
   | exact ih2 _ _ _ _ _
   | exact spec_IsFamily.mono _ _ _
   | exact spec_l4Exchange.mono _ _ _ _ _ _
   | exact LeO.none _
   | refine LeO.ite ?_ ?_
   | refine LeO.bind ?_ (fun _ => ?_)
theorem spec_FirstFailure.mono : ∀ a0 a1 k, LeO (spec_FirstFailure.f k a0 a1) (spec_FirstFailure.f (k + 1) a0 a1) := by
 intro a0 a1 k
 obtain ⟨ih0, ih1, ih2⟩ := spec_FirstFailure.mono_l k
 unfold spec_FirstFailure.f
 repeat' first
   | (with_reducible exact ih0 _ _ _)
   | (with_reducible exact ih1 _ _ _ _)
   | (with_reducible exact ih2 _ _ _ _ _)
   | (with_reducible exact spec_IsFamily.mono _ _ _)
   | (with_reducible exact spec_l4Exchange.mono _ _ _ _ _ _)
   | (with_reducible exact LeO.refl _)
   | (with_reducible exact LeO.none _)
   | (with_reducible refine LeO.ite ?_ ?_)
   | (with_reducible refine LeO.bind ?_ (fun _ => ?_))
   | exact ih0 _ _ _
   | exact ih1 _ _ _ _
   | exact ih2 _ _ _ _ _
   | exact spec_IsFamily.mono _ _ _
   | exact spec_l4Exchange.mono _ _ _ _ _ _
   | exact LeO.none _
   | refine LeO.ite ?_ ?_
   | refine LeO.bind ?_ (fun _ => ?_)
set_option maxHeartbeats 8000000 in
set_option maxRecDepth 100000 in
theorem spec_FirstFailure.calls (k : Nat) (a0_0 : Int) (A0_1 : Option Addr) (c0_1 : Nat) (l0_1 : List Int) (r1 : Int) (r2 : Int) (r3 : Int) (r4 : Bool) (w : World) (hr0_1 : Kd.C (Kd.int .i64) w A0_1 l0_1.length l0_1) (hc0_1 : l0_1.length ≤ c0_1) (h : spec_FirstFailure.f k a0_0 l0_1 = some (r1, r2, r3, r4)) :
  Calls Try.prog 29 #[.agg #[.int .i64 a0_0, .slice A0_1 l0_1.length c0_1]] w fun e w' => e = .returned (.tuple #[.agg #[.int .i64 r1, .int .i64 r2, .int .i64 r3], .bool r4]) ∧ Below w.heap.size w w' := by
 have hu28 := Try.underlying28
 have hu47 := Try.underlying47
 have HR0_1 := aQ hr0_1
 have HC0_1 := aQ hc0_1
 clear hr0_1 hc0_1
 have HB := aQ (Below.refl w.heap.size w)
 have H : ((spec_IsFamily.f k a0_0 l0_1).bind fun t30003 => (if t30003 = true then (spec_FirstFailure.l0 k 0 a0_0 l0_1) else (some (0, 0, 0, false)))) = some (r1, r2, r3, r4) := h
 clear h
 replace H := Option.bind_eq_some_iff.mp H
 obtain ⟨t30003, A20, H⟩ := H
 replace H : (if t30003 = true then (spec_FirstFailure.l0 k 0 a0_0 l0_1) else (some (0, 0, 0, false))) = some (r1, r2, r3, r4) := H
 have A2 := aQ A20
 clear A20
 by_cases c3 : t30003 = true
 ·subst c3
  have H1 : (spec_FirstFailure.l0 k 0 a0_0 l0_1) = some (r1, r2, r3, r4) := by rw [if_pos rfl] at H; exact H
  clear H
  have H := H1
  clear H1
  have H' := aQ H
  clear H
  go_enter Try.func29, Try.ntmps29
  go_wp2_with (first | ((with_reducible refine gate_dst (N := 1) rfl ?_); refine box_event ?hg (N := 1) ?hd (cs := #[.int .i64 a0_0, .slice A0_1 l0_1.length c0_1]) (t := 28) ?hr ?_; (case hd => rfl); (case hg => rfl); (case hr => first | (go_simp; done) | (go_simp; rfl)); intro gb30001 hg w4 hbox hb; have BK30001 := aQ (hbox); have GW30001 := aQ ((by rw [hg]; exact (below_size (pB HB.out)) : w.heap.size ≤ gb30001)); have GE30001 := aQ ((by rw [hg]; exact (below_size (pB HB.out)) : w.heap.size ≤ gb30001)); replace HB := aQ (below_step (pB HB.out) hb); clear hb hbox hg) | ((with_reducible refine gate_dst (N := 2) rfl ?_); refine box_event ?hg (N := 2) ?hd (cs := #[.int .i64 0, .int .i64 0, .int .i64 0]) (t := 47) ?hr ?_; (case hd => rfl); (case hg => rfl); (case hr => first | (go_simp; done) | (go_simp; rfl)); intro gb30002 hg w5 hbox hb; have BK30002 := aQ (hbox); have GW30002 := aQ ((by rw [hg]; exact (below_size (pB1 HB.out GE30001.out)) : w.heap.size ≤ gb30002)); have GE30002 := aQ ((by rw [hg]; exact (below_size (pB1 HB.out GE30001.out)) : w.heap.size ≤ gb30002)); replace HB := aQ (below_step (pB1 HB.out GE30001.out) hb); have NB30001_30002 := aQ ((by rw [hg]; exact Nat.ne_of_lt (blk_lt (g := gb30001) (o := .cells #[.int .i64 a0_0, .slice A0_1 l0_1.length c0_1] 28 (0, 0)) (pk BK30001.out)) : gb30001 ≠ gb30002)); have NB30002_30001 := aQ ((by rw [hg]; exact Nat.ne_of_gt (blk_lt (g := gb30001) (o := .cells #[.int .i64 a0_0, .slice A0_1 l0_1.length c0_1] 28 (0, 0)) (pk BK30001.out)) : gb30002 ≠ gb30001)); replace BK30001 := aQ (blk_below (g := gb30001) (o := .cells #[.int .i64 a0_0, .slice A0_1 l0_1.length c0_1] 28 (0, 0)) (pk BK30001.out) hb); clear hb hbox hg; have hnb6 := NB30001_30002.out; have hnc6 := NB30002_30001.out; have hcz7_0 := bc (v := (.int .i64 a0_0)) BK30001.out 0; have hcz7_1 := bc (v := (.slice A0_1 l0_1.length c0_1)) BK30001.out 1; have hfz7_0 := blk_frozen BK30001.out 0; have hfz7_1 := blk_frozen BK30001.out 1) | ((with_reducible refine gate_callee (f := 30) rfl ?_); refine goesL_ (some 13) rfl rfl Try.func30 (by kernel_rfl) rfl #[.int .i64 a0_0, .slice A0_1 l0_1.length c0_1] rfl lm ?_; (with_reducible refine (spec_IsFamily.calls k a0_0 _ _ l0_1 true _ ?side1 ?side2 A2.out).mono ?_); (case side1 => exact pC (Kd.C_below HR0_1.out HB.out)); (case side2 => exact HC0_1.out); rintro e w' ⟨rfl, ⟨nd, rfl⟩⟩; refine ⟨_, rfl, ?_⟩))
  go_loopg [4] k (fun kq v4 w' => ∃ (x4_1 : Int) (x30003000_1 : Int) (x30003001_1 : Int) (x30003002_1 : Int), v4 = .int .i64 x4_1 ∧ Aside0 (spec_FirstFailure.l0 kq x4_1 a0_0 l0_1 = some (r1, r2, r3, r4)) ∧ Aside0 (kq ≤ k) ∧ Aside0 (w'.heap[gb30001]? = some (.cells #[.int .i64 a0_0, (.slice A0_1 l0_1.length c0_1)] 28 (0, 0))) ∧ Aside0 (w'.heap[gb30002]? = some (.cells #[.int .i64 x30003000_1, .int .i64 x30003001_1, .int .i64 x30003002_1] 47 (0, 0))) ∧ Aside0 (Below w.heap.size w w'))
  case atStart => exact ⟨(0), (0), (0), (0), rs_, H', ⟨Nat.le_refl _⟩, ⟨pk BK30001.out⟩, ⟨pk BK30002.out⟩, ⟨pB2 HB.out GE30001.out GE30002.out⟩⟩
  case round =>
   clear H'
   try clear c2
   try clear p2
   try clear c3
   try clear c6
   try clear hcz7_0
   try clear hcz7_1
   try clear hfz7_0
   try clear hfz7_1
   obtain ⟨x4_1, x30003000_1, x30003001_1, x30003002_1, rfl, HA, HK1, BK30001, BK30002, HB⟩ := hrel
   cases gk with
   | zero => exact absurd HA.out (by simp [spec_FirstFailure.l0])
   | succ k1 =>
    have H := HA.out
    clear HA
    simp only [spec_FirstFailure.l0] at H
    by_cases c8 : x4_1 < (l0_1.length : Int)
    ·rw [if_pos c8] at H
     have c8b0 : decide (x4_1 < (l0_1.length : Int)) = true := decide_eq_true c8
     clear c8
     have H' := aQ H
     clear H
     have hnb9 := NB30001_30002.out
     have hnc9 := NB30002_30001.out
     have hcz10_0 := bc (v := (.int .i64 a0_0)) BK30001.out 0
     have hcz10_1 := bc (v := (.slice A0_1 l0_1.length c0_1)) BK30001.out 1
     have hfz10_0 := blk_frozen BK30001.out 0
     have hfz10_1 := blk_frozen BK30001.out 1
     go_wp2
     go_loopg [5] k1 (fun kq v5 w' => ∃ (x5_2 : Int) (x30003000_2 : Int) (x30003001_2 : Int) (x30003002_2 : Int), v5 = .int .i64 x5_2 ∧ Aside0 (spec_FirstFailure.l1 kq x4_1 x5_2 a0_0 l0_1 = some (r1, r2, r3, r4)) ∧ Aside0 (kq ≤ k1) ∧ Aside0 (w'.heap[gb30001]? = some (.cells #[.int .i64 a0_0, (.slice A0_1 l0_1.length c0_1)] 28 (0, 0))) ∧ Aside0 (w'.heap[gb30002]? = some (.cells #[.int .i64 x30003000_2, .int .i64 x30003001_2, .int .i64 x30003002_2] 47 (0, 0))) ∧ Aside0 (Below w.heap.size w w'))
     case atStart => exact ⟨(0), (x30003000_1), (x30003001_1), (x30003002_1), rs_, H', ⟨Nat.le_refl _⟩, ⟨pk BK30001.out⟩, ⟨pk BK30002.out⟩, ⟨pB2 HB.out GE30001.out GE30002.out⟩⟩
     case round =>
      clear H'
      try clear c2
      try clear p2
      try clear c3
      try clear c6
      try clear c8
      try clear c8b0
      try clear c9
      try clear hcz10_0
      try clear hcz10_1
      try clear hcz7_0
      try clear hcz7_1
      try clear hfz10_0
      try clear hfz10_1
      try clear hfz7_0
      try clear hfz7_1
      try clear p2
      obtain ⟨x5_2, x30003000_2, x30003001_2, x30003002_2, rfl, HA, HK2, BK30001, BK30002, HB⟩ := hrel
      cases gk with
      | zero => exact absurd HA.out (by simp [spec_FirstFailure.l1])
      | succ k2 =>
       have H := HA.out
       clear HA
       simp only [spec_FirstFailure.l1] at H
       by_cases c11 : x5_2 < (l0_1.length : Int)
       ·rw [if_pos c11] at H
        have c11b0 : decide (x5_2 < (l0_1.length : Int)) = true := decide_eq_true c11
        clear c11
        have H' := aQ H
        clear H
        have hnb12 := NB30001_30002.out
        have hnc12 := NB30002_30001.out
        have hcz13_0 := bc (v := (.int .i64 a0_0)) BK30001.out 0
        have hcz13_1 := bc (v := (.slice A0_1 l0_1.length c0_1)) BK30001.out 1
        have hfz13_0 := blk_frozen BK30001.out 0
        have hfz13_1 := blk_frozen BK30001.out 1
        go_wp2
        go_loopg [6] k2 (fun kq v6 w' => ∃ (x6_3 : Int) (x30003000_3 : Int) (x30003001_3 : Int) (x30003002_3 : Int), v6 = .int .i64 x6_3 ∧ Aside0 (spec_FirstFailure.l2 kq x4_1 x5_2 x6_3 a0_0 l0_1 = some (r1, r2, r3, r4)) ∧ Aside0 (kq ≤ k2) ∧ Aside0 (w'.heap[gb30001]? = some (.cells #[.int .i64 a0_0, (.slice A0_1 l0_1.length c0_1)] 28 (0, 0))) ∧ Aside0 (w'.heap[gb30002]? = some (.cells #[.int .i64 x30003000_3, .int .i64 x30003001_3, .int .i64 x30003002_3] 47 (0, 0))) ∧ Aside0 (Below w.heap.size w w'))
        case atStart => exact ⟨(0), (x30003000_2), (x30003001_2), (x30003002_2), rs_, H', ⟨Nat.le_refl _⟩, ⟨pk BK30001.out⟩, ⟨pk BK30002.out⟩, ⟨pB2 HB.out GE30001.out GE30002.out⟩⟩
        case round =>
         clear H'
         try clear c1
         try clear c2
         try clear p2
         try clear c3
         try clear c6
         try clear c8
         try clear c8b0
         try clear c9
         try clear c11
         try clear c11b0
         try clear c12
         try clear hcz10_0
         try clear hcz10_1
         try clear hcz13_0
         try clear hcz13_1
         try clear hcz7_0
         try clear hcz7_1
         try clear hfz10_0
         try clear hfz10_1
         try clear hfz13_0
         try clear hfz13_1
         try clear hfz7_0
         try clear hfz7_1
         try clear p2
         obtain ⟨x6_3, x30003000_3, x30003001_3, x30003002_3, rfl, HA, HK3, BK30001, BK30002, HB⟩ := hrel
         cases gk with
         | zero => exact absurd HA.out (by simp [spec_FirstFailure.l2])
         | succ k3 =>
          have H := HA.out
          clear HA
          simp only [spec_FirstFailure.l2] at H
          by_cases c14 : x6_3 < a0_0
          ·rw [if_pos c14] at H
           have c14b0 : decide (x6_3 < a0_0) = true := decide_eq_true c14
           clear c14
           by_cases c15 : 0 ≤ x4_1
           ·rw [if_pos c15] at H
            have c15b0 : decide (0 ≤ x4_1) = true := decide_eq_true c15
            clear c15
            by_cases c16 : x4_1 < (l0_1.length : Int)
            ·rw [if_pos c16] at H
             have c16b0 : decide (x4_1 < (l0_1.length : Int)) = true := decide_eq_true c16
             clear c16
             by_cases c17 : 0 ≤ x5_2
             ·rw [if_pos c17] at H
              have c17b0 : decide (0 ≤ x5_2) = true := decide_eq_true c17
              clear c17
              by_cases c18 : x5_2 < (l0_1.length : Int)
              ·rw [if_pos c18] at H
               have c18b0 : decide (x5_2 < (l0_1.length : Int)) = true := decide_eq_true c18
               clear c18
               replace H := Option.bind_eq_some_iff.mp H
               obtain ⟨t30006, A190, H⟩ := H
               replace H : (if t30006 = true then ((spec_l2Has.f (rd l0_1 x5_2) x6_3).bind fun t30007 => (if t30007 = true then (spec_FirstFailure.l2 k3 x4_1 x5_2 (wrap64 (x6_3 + 1)) a0_0 l0_1) else ((spec_l4Exchange.f k3 a0_0 l0_1 (rd l0_1 x4_1) (rd l0_1 x5_2) x6_3).bind fun t30008 => (if t30008 = true then (spec_FirstFailure.l2 k3 x4_1 x5_2 (wrap64 (x6_3 + 1)) a0_0 l0_1) else (some (rd l0_1 x4_1, rd l0_1 x5_2, x6_3, true)))))) else (spec_FirstFailure.l2 k3 x4_1 x5_2 (wrap64 (x6_3 + 1)) a0_0 l0_1)) = some (r1, r2, r3, r4) := H
               have A19 := aQ A190
               clear A190
               by_cases c20 : t30006 = true
               ·subst c20
                have H1 : ((spec_l2Has.f (rd l0_1 x5_2) x6_3).bind fun t30007 => (if t30007 = true then (spec_FirstFailure.l2 k3 x4_1 x5_2 (wrap64 (x6_3 + 1)) a0_0 l0_1) else ((spec_l4Exchange.f k3 a0_0 l0_1 (rd l0_1 x4_1) (rd l0_1 x5_2) x6_3).bind fun t30008 => (if t30008 = true then (spec_FirstFailure.l2 k3 x4_1 x5_2 (wrap64 (x6_3 + 1)) a0_0 l0_1) else (some (rd l0_1 x4_1, rd l0_1 x5_2, x6_3, true)))))) = some (r1, r2, r3, r4) := by rw [if_pos rfl] at H; exact H
                clear H
                have H := H1
                clear H1
                replace H := Option.bind_eq_some_iff.mp H
                obtain ⟨t30007, A210, H⟩ := H
                replace H : (if t30007 = true then (spec_FirstFailure.l2 k3 x4_1 x5_2 (wrap64 (x6_3 + 1)) a0_0 l0_1) else ((spec_l4Exchange.f k3 a0_0 l0_1 (rd l0_1 x4_1) (rd l0_1 x5_2) x6_3).bind fun t30008 => (if t30008 = true then (spec_FirstFailure.l2 k3 x4_1 x5_2 (wrap64 (x6_3 + 1)) a0_0 l0_1) else (some (rd l0_1 x4_1, rd l0_1 x5_2, x6_3, true))))) = some (r1, r2, r3, r4) := H
                have A21 := aQ A210
                clear A210
                by_cases c22 : t30007 = true
                ·subst c22
                 have H1 : (spec_FirstFailure.l2 k3 x4_1 x5_2 (wrap64 (x6_3 + 1)) a0_0 l0_1) = some (r1, r2, r3, r4) := by rw [if_pos rfl] at H; exact H
                 clear H
                 have H := H1
                 clear H1
                 have H' := aQ H
                 clear H
                 have hnb23 := NB30001_30002.out
                 have hnc23 := NB30002_30001.out
                 have hcz24_0 := bc (v := (.int .i64 a0_0)) BK30001.out 0
                 have hcz24_1 := bc (v := (.slice A0_1 l0_1.length c0_1)) BK30001.out 1
                 have hfz24_0 := blk_frozen BK30001.out 0
                 have hfz24_1 := blk_frozen BK30001.out 1
                 have p30004 : 0 ≤ (x4_1 : Int) := of_decide_eq_true as_
                 have q30004 : x4_1 < (l0_1.length : Int) := of_decide_eq_true as_
                 obtain ⟨ad30004, e30004, hx30004_0⟩ := Kd.at_int HR0_1.out x4_1 p30004 q30004
                 cases e30004
                 replace hx30004_0 := (HB.out.cell (World.block_lt_of_cell? w _ hx30004_0)).trans hx30004_0
                 replace p30004 := eq_true p30004
                 replace q30004 := eq_true q30004
                 have p30005 : 0 ≤ (x5_2 : Int) := of_decide_eq_true as_
                 have q30005 : x5_2 < (l0_1.length : Int) := of_decide_eq_true as_
                 obtain ⟨ad30005, e30005, hx30005_0⟩ := Kd.at_int HR0_1.out x5_2 p30005 q30005
                 obtain rfl : ad30004 = ad30005 := (by injection e30005)
                 replace hx30005_0 := (HB.out.cell (World.block_lt_of_cell? w _ hx30005_0)).trans hx30005_0
                 replace p30005 := eq_true p30005
                 replace q30005 := eq_true q30005
                 go_wp2_with (first | ((with_reducible refine gate_callee (f := 16) rfl ?_); refine goesL_ (some 48) rfl rfl Try.func16 (by kernel_rfl) rfl #[.int .i64 (rd l0_1 x4_1), .int .i64 x6_3] rfl lm ?_; (with_reducible refine (spec_l2Has.calls (rd l0_1 x4_1) x6_3 true _ A19.out).mono ?_); rintro e w' ⟨rfl, ⟨nd, rfl⟩⟩; refine ⟨_, rfl, ?_⟩) | (go_at_call 16; (with_reducible refine (spec_l2Has.calls (rd l0_1 x5_2) x6_3 true _ A21.out).mono ?_); rintro e w' ⟨rfl, ⟨nd, rfl⟩⟩))
                 go_roundg k3
                 case measure => have := HK1.out; have := HK2.out; have := HK3.out; omega
                 case rel => exact ⟨(wrap64 (x6_3 + 1)), (x30003000_3), (x30003001_3), (x30003002_3), rs_, H', ⟨by have := HK1.out; have := HK2.out; have := HK3.out; omega⟩, ⟨pk BK30001.out⟩, ⟨pk BK30002.out⟩, ⟨pB2 HB.out GE30001.out GE30002.out⟩⟩
                ·replace c22 := Bool.eq_false_iff.mpr c22
                 subst c22
                 have H1 : ((spec_l4Exchange.f k3 a0_0 l0_1 (rd l0_1 x4_1) (rd l0_1 x5_2) x6_3).bind fun t30008 => (if t30008 = true then (spec_FirstFailure.l2 k3 x4_1 x5_2 (wrap64 (x6_3 + 1)) a0_0 l0_1) else (some (rd l0_1 x4_1, rd l0_1 x5_2, x6_3, true)))) = some (r1, r2, r3, r4) := by rw [if_neg (show ¬ (false = true) by decide)] at H; exact H
                 clear H
                 have H := H1
                 clear H1
                 replace H := Option.bind_eq_some_iff.mp H
                 obtain ⟨t30008, A250, H⟩ := H
                 replace H : (if t30008 = true then (spec_FirstFailure.l2 k3 x4_1 x5_2 (wrap64 (x6_3 + 1)) a0_0 l0_1) else (some (rd l0_1 x4_1, rd l0_1 x5_2, x6_3, true))) = some (r1, r2, r3, r4) := H
                 have A25 := aQ A250
                 clear A250
                 by_cases c26 : t30008 = true
                 ·subst c26
                  have H1 : (spec_FirstFailure.l2 k3 x4_1 x5_2 (wrap64 (x6_3 + 1)) a0_0 l0_1) = some (r1, r2, r3, r4) := by rw [if_pos rfl] at H; exact H
                  clear H
                  have H := H1
                  clear H1
                  have H' := aQ H
                  clear H
                  have hnb27 := NB30001_30002.out
                  have hnc27 := NB30002_30001.out
                  have hcz28_0 := bc (v := (.int .i64 a0_0)) BK30001.out 0
                  have hcz28_1 := bc (v := (.slice A0_1 l0_1.length c0_1)) BK30001.out 1
                  have hfz28_0 := blk_frozen BK30001.out 0
                  have hfz28_1 := blk_frozen BK30001.out 1
                  have p30004 : 0 ≤ (x4_1 : Int) := of_decide_eq_true as_
                  have q30004 : x4_1 < (l0_1.length : Int) := of_decide_eq_true as_
                  obtain ⟨ad30004, e30004, hx30004_0⟩ := Kd.at_int HR0_1.out x4_1 p30004 q30004
                  cases e30004
                  replace hx30004_0 := (HB.out.cell (World.block_lt_of_cell? w _ hx30004_0)).trans hx30004_0
                  replace p30004 := eq_true p30004
                  replace q30004 := eq_true q30004
                  have p30005 : 0 ≤ (x5_2 : Int) := of_decide_eq_true as_
                  have q30005 : x5_2 < (l0_1.length : Int) := of_decide_eq_true as_
                  obtain ⟨ad30005, e30005, hx30005_0⟩ := Kd.at_int HR0_1.out x5_2 p30005 q30005
                  obtain rfl : ad30004 = ad30005 := (by injection e30005)
                  replace hx30005_0 := (HB.out.cell (World.block_lt_of_cell? w _ hx30005_0)).trans hx30005_0
                  replace p30005 := eq_true p30005
                  replace q30005 := eq_true q30005
                  go_wp2_with (first | ((with_reducible refine gate_callee (f := 16) rfl ?_); refine goesL_ (some 48) rfl rfl Try.func16 (by kernel_rfl) rfl #[.int .i64 (rd l0_1 x4_1), .int .i64 x6_3] rfl lm ?_; (with_reducible refine (spec_l2Has.calls (rd l0_1 x4_1) x6_3 true _ A19.out).mono ?_); rintro e w' ⟨rfl, ⟨nd, rfl⟩⟩; refine ⟨_, rfl, ?_⟩) | (go_at_call 16; (with_reducible refine (spec_l2Has.calls (rd l0_1 x5_2) x6_3 false _ A21.out).mono ?_); rintro e w' ⟨rfl, ⟨nd, rfl⟩⟩) | (go_at_call 44; (with_reducible refine (spec_l4Exchange.calls k3 a0_0 _ _ l0_1 (rd l0_1 x4_1) (rd l0_1 x5_2) x6_3 true _ ?side1 ?side2 A25.out).mono ?_); (case side1 => repeat (first | exact (Kd.C_below HR0_1.out (pB2 HB.out GE30001.out GE30002.out)) | (with_reducible refine Kd.C_alloc ?_ _) | (with_reducible refine Kd.C_drewN ?_ _) | (with_reducible refine Kd.C_drew ?_))); (case side2 => exact HC0_1.out); rintro e w29 ⟨rfl, hb⟩; replace BK30001 := aQ (blk_below (g := gb30001) (o := .cells #[.int .i64 a0_0, .slice (some ad30004) l0_1.length c0_1] 28 (0, 0)) (pk BK30001.out) hb); replace BK30002 := aQ (blk_below (g := gb30002) (o := .cells #[.int .i64 x30003000_3, .int .i64 x30003001_3, .int .i64 x30003002_3] 47 (0, 0)) (pk BK30002.out) hb); replace HB := aQ (below_step (pB2 HB.out GE30001.out GE30002.out) hb); (try clear hb)))
                  go_roundg k3
                  case measure => have := HK1.out; have := HK2.out; have := HK3.out; omega
                  case rel => exact ⟨(wrap64 (x6_3 + 1)), (x30003000_3), (x30003001_3), (x30003002_3), rs_, H', ⟨by have := HK1.out; have := HK2.out; have := HK3.out; omega⟩, ⟨pk BK30001.out⟩, ⟨pk BK30002.out⟩, ⟨pB2 HB.out GE30001.out GE30002.out⟩⟩
                 ·replace c26 := Bool.eq_false_iff.mpr c26
                  subst c26
                  have H1 : (some (rd l0_1 x4_1, rd l0_1 x5_2, x6_3, true)) = some (r1, r2, r3, r4) := by rw [if_neg (show ¬ (false = true) by decide)] at H; exact H
                  clear H
                  have H := H1
                  clear H1
                  simp only [Option.some.injEq, Prod.mk.injEq] at H
                  obtain ⟨rfl, rfl, rfl, rfl⟩ := H
                  have hnb30 := NB30001_30002.out
                  have hnc30 := NB30002_30001.out
                  have hcz31_0 := bc (v := (.int .i64 a0_0)) BK30001.out 0
                  have hcz31_1 := bc (v := (.slice A0_1 l0_1.length c0_1)) BK30001.out 1
                  have hfz31_0 := blk_frozen BK30001.out 0
                  have hfz31_1 := blk_frozen BK30001.out 1
                  have p30004 : 0 ≤ (x4_1 : Int) := of_decide_eq_true as_
                  have q30004 : x4_1 < (l0_1.length : Int) := of_decide_eq_true as_
                  obtain ⟨ad30004, e30004, hx30004_0⟩ := Kd.at_int HR0_1.out x4_1 p30004 q30004
                  cases e30004
                  replace hx30004_0 := (HB.out.cell (World.block_lt_of_cell? w _ hx30004_0)).trans hx30004_0
                  replace p30004 := eq_true p30004
                  replace q30004 := eq_true q30004
                  have p30005 : 0 ≤ (x5_2 : Int) := of_decide_eq_true as_
                  have q30005 : x5_2 < (l0_1.length : Int) := of_decide_eq_true as_
                  obtain ⟨ad30005, e30005, hx30005_0⟩ := Kd.at_int HR0_1.out x5_2 p30005 q30005
                  obtain rfl : ad30004 = ad30005 := (by injection e30005)
                  replace hx30005_0 := (HB.out.cell (World.block_lt_of_cell? w _ hx30005_0)).trans hx30005_0
                  replace p30005 := eq_true p30005
                  replace q30005 := eq_true q30005
                  go_wp2_with (first | ((with_reducible refine gate_callee (f := 16) rfl ?_); refine goesL_ (some 48) rfl rfl Try.func16 (by kernel_rfl) rfl #[.int .i64 (rd l0_1 x4_1), .int .i64 x6_3] rfl lm ?_; (with_reducible refine (spec_l2Has.calls (rd l0_1 x4_1) x6_3 true _ A19.out).mono ?_); rintro e w' ⟨rfl, ⟨nd, rfl⟩⟩; refine ⟨_, rfl, ?_⟩; (try (rw [drewN_self wr]; generalize hq_ : World.drewN wr _ = wr; have n0_ : Aside0 (wr.heap[gb30001]? = some (.cells #[.int .i64 a0_0, .slice (some ad30004) l0_1.length c0_1] 28 (0, 0))) := ⟨by rw [← hq_]; exact (pk BK30001.out)⟩; have n1_ : Aside0 (wr.heap[gb30002]? = some (.cells #[.int .i64 x30003000_3, .int .i64 x30003001_3, .int .i64 x30003002_3] 47 (0, 0))) := ⟨by rw [← hq_]; exact (pk BK30002.out)⟩; have n2_ : Aside0 (Below w.heap.size w wr) := ⟨by rw [← hq_]; exact (pB2 HB.out GE30001.out GE30002.out)⟩; clear BK30001 BK30002 HB hq_; have BK30001 := n0_; have BK30002 := n1_; have HB := n2_; clear n0_ n1_ n2_; have hcz31_0 := bc (v := (.int .i64 a0_0)) BK30001.out 0; have hcz31_1 := bc (v := (.slice A0_1 l0_1.length c0_1)) BK30001.out 1; have hfz31_0 := blk_frozen BK30001.out 0; have hfz31_1 := blk_frozen BK30001.out 1))) | (go_at_call 16; (with_reducible refine (spec_l2Has.calls (rd l0_1 x5_2) x6_3 false _ A21.out).mono ?_); rintro e w' ⟨rfl, ⟨nd, rfl⟩⟩; (try (rw [drewN_self wr]; generalize hq_ : World.drewN wr _ = wr; have n0_ : Aside0 (wr.heap[gb30001]? = some (.cells #[.int .i64 a0_0, .slice (some ad30004) l0_1.length c0_1] 28 (0, 0))) := ⟨by rw [← hq_]; exact (pk BK30001.out)⟩; have n1_ : Aside0 (wr.heap[gb30002]? = some (.cells #[.int .i64 x30003000_3, .int .i64 x30003001_3, .int .i64 x30003002_3] 47 (0, 0))) := ⟨by rw [← hq_]; exact (pk BK30002.out)⟩; have n2_ : Aside0 (Below w.heap.size w wr) := ⟨by rw [← hq_]; exact (pB2 HB.out GE30001.out GE30002.out)⟩; clear BK30001 BK30002 HB hq_; have BK30001 := n0_; have BK30002 := n1_; have HB := n2_; clear n0_ n1_ n2_; have hcz31_0 := bc (v := (.int .i64 a0_0)) BK30001.out 0; have hcz31_1 := bc (v := (.slice A0_1 l0_1.length c0_1)) BK30001.out 1; have hfz31_0 := blk_frozen BK30001.out 0; have hfz31_1 := blk_frozen BK30001.out 1))) | (go_at_call 44; (with_reducible refine (spec_l4Exchange.calls k3 a0_0 _ _ l0_1 (rd l0_1 x4_1) (rd l0_1 x5_2) x6_3 false _ ?side1 ?side2 A25.out).mono ?_); (case side1 => exact pC (Kd.C_below HR0_1.out HB.out)); (case side2 => exact HC0_1.out); rintro e w32 ⟨rfl, hb⟩; replace BK30001 := aQ (blk_below (g := gb30001) (o := .cells #[.int .i64 a0_0, .slice (some ad30004) l0_1.length c0_1] 28 (0, 0)) (pk BK30001.out) hb); replace BK30002 := aQ (blk_below (g := gb30002) (o := .cells #[.int .i64 x30003000_3, .int .i64 x30003001_3, .int .i64 x30003002_3] 47 (0, 0)) (pk BK30002.out) hb); replace HB := aQ (below_step (pB2 HB.out GE30001.out GE30002.out) hb); (try clear hb); have hcz33_0 := bc (v := (.int .i64 x30003000_3)) BK30002.out 0; have hcz33_1 := bc (v := (.int .i64 x30003001_3)) BK30002.out 1; have hcz33_2 := bc (v := (.int .i64 x30003002_3)) BK30002.out 2; have hfz33_0 := blk_frozen BK30002.out 0; have hfz33_1 := blk_frozen BK30002.out 1; have hfz33_2 := blk_frozen BK30002.out 2))
                  refine bodyPost_ret (results_ct rfl _ _ gb30002 47 #[.int .i64 (rd l0_1 x4_1), .int .i64 (rd l0_1 x5_2), .int .i64 x6_3] (0, 0) _ rfl (by (with_reducible repeat (first | refine blk_drewN ?_ _ | refine blk_drew ?_ | refine blk_alloc ?_ _)); refine blk_put (cs := #[.int .i64 (rd l0_1 x4_1), .int .i64 (rd l0_1 x5_2), .int .i64 x30003002_3]) ?_ 2 _ rfl; (with_reducible repeat (first | refine blk_drewN ?_ _ | refine blk_drew ?_ | refine blk_alloc ?_ _)); refine blk_put (cs := #[.int .i64 (rd l0_1 x4_1), .int .i64 x30003001_3, .int .i64 x30003002_3]) ?_ 1 _ rfl; (with_reducible repeat (first | refine blk_drewN ?_ _ | refine blk_drew ?_ | refine blk_alloc ?_ _)); refine blk_put (cs := #[.int .i64 x30003000_3, .int .i64 x30003001_3, .int .i64 x30003002_3]) ?_ 0 _ rfl; (with_reducible repeat (first | refine blk_drewN ?_ _ | refine blk_drew ?_ | refine blk_alloc ?_ _)); exact BK30002.out) Try.underlying47 rfl (by kernel_rfl)) rfl ?_
                  exact ⟨re_, pB2 HB.out GE30001.out GE30002.out⟩
               ·replace c20 := Bool.eq_false_iff.mpr c20
                subst c20
                have H1 : (spec_FirstFailure.l2 k3 x4_1 x5_2 (wrap64 (x6_3 + 1)) a0_0 l0_1) = some (r1, r2, r3, r4) := by rw [if_neg (show ¬ (false = true) by decide)] at H; exact H
                clear H
                have H := H1
                clear H1
                have H' := aQ H
                clear H
                have hnb34 := NB30001_30002.out
                have hnc34 := NB30002_30001.out
                have hcz35_0 := bc (v := (.int .i64 a0_0)) BK30001.out 0
                have hcz35_1 := bc (v := (.slice A0_1 l0_1.length c0_1)) BK30001.out 1
                have hfz35_0 := blk_frozen BK30001.out 0
                have hfz35_1 := blk_frozen BK30001.out 1
                have p30004 : 0 ≤ (x4_1 : Int) := of_decide_eq_true as_
                have q30004 : x4_1 < (l0_1.length : Int) := of_decide_eq_true as_
                obtain ⟨ad30004, e30004, hx30004_0⟩ := Kd.at_int HR0_1.out x4_1 p30004 q30004
                cases e30004
                replace hx30004_0 := (HB.out.cell (World.block_lt_of_cell? w _ hx30004_0)).trans hx30004_0
                replace p30004 := eq_true p30004
                replace q30004 := eq_true q30004
                have p30005 : 0 ≤ (x5_2 : Int) := of_decide_eq_true as_
                have q30005 : x5_2 < (l0_1.length : Int) := of_decide_eq_true as_
                obtain ⟨ad30005, e30005, hx30005_0⟩ := Kd.at_int HR0_1.out x5_2 p30005 q30005
                obtain rfl : ad30004 = ad30005 := (by injection e30005)
                replace hx30005_0 := (HB.out.cell (World.block_lt_of_cell? w _ hx30005_0)).trans hx30005_0
                replace p30005 := eq_true p30005
                replace q30005 := eq_true q30005
                go_wp2_with (first | ((with_reducible refine gate_callee (f := 16) rfl ?_); refine goesL_ (some 48) rfl rfl Try.func16 (by kernel_rfl) rfl #[.int .i64 (rd l0_1 x4_1), .int .i64 x6_3] rfl lm ?_; (with_reducible refine (spec_l2Has.calls (rd l0_1 x4_1) x6_3 false _ A19.out).mono ?_); rintro e w' ⟨rfl, ⟨nd, rfl⟩⟩; refine ⟨_, rfl, ?_⟩))
                go_roundg k3
                case measure => have := HK1.out; have := HK2.out; have := HK3.out; omega
                case rel => exact ⟨(wrap64 (x6_3 + 1)), (x30003000_3), (x30003001_3), (x30003002_3), rs_, H', ⟨by have := HK1.out; have := HK2.out; have := HK3.out; omega⟩, ⟨pk BK30001.out⟩, ⟨pk BK30002.out⟩, ⟨pB2 HB.out GE30001.out GE30002.out⟩⟩
              ·rw [if_neg c18] at H
               exact absurd H (by simp)
             ·rw [if_neg c17] at H
              exact absurd H (by simp)
            ·rw [if_neg c16] at H
             exact absurd H (by simp)
           ·rw [if_neg c15] at H
            exact absurd H (by simp)
          ·rw [if_neg c14] at H
           have c14b0 : decide (x6_3 < a0_0) = false := decide_eq_false c14
           clear c14
           have H' := aQ H
           clear H
           have hnb36 := NB30001_30002.out
           have hnc36 := NB30002_30001.out
           have hcz37_0 := bc (v := (.int .i64 a0_0)) BK30001.out 0
           have hcz37_1 := bc (v := (.slice A0_1 l0_1.length c0_1)) BK30001.out 1
           have hfz37_0 := blk_frozen BK30001.out 0
           have hfz37_1 := blk_frozen BK30001.out 1
           go_wp2
           go_roundg k3
           case measure => have := HK1.out; have := HK2.out; have := HK3.out; omega
           case rel => exact ⟨(wrap64 (x5_2 + 1)), (x30003000_3), (x30003001_3), (x30003002_3), rs_, H', ⟨by have := HK1.out; have := HK2.out; have := HK3.out; omega⟩, ⟨pk BK30001.out⟩, ⟨pk BK30002.out⟩, ⟨pB2 HB.out GE30001.out GE30002.out⟩⟩
       ·rw [if_neg c11] at H
        have c11b0 : decide (x5_2 < (l0_1.length : Int)) = false := decide_eq_false c11
        clear c11
        have H' := aQ H
        clear H
        have hnb38 := NB30001_30002.out
        have hnc38 := NB30002_30001.out
        have hcz39_0 := bc (v := (.int .i64 a0_0)) BK30001.out 0
        have hcz39_1 := bc (v := (.slice A0_1 l0_1.length c0_1)) BK30001.out 1
        have hfz39_0 := blk_frozen BK30001.out 0
        have hfz39_1 := blk_frozen BK30001.out 1
        go_wp2
        go_roundg k2
        case measure => have := HK1.out; have := HK2.out; omega
        case rel => exact ⟨(wrap64 (x4_1 + 1)), (x30003000_2), (x30003001_2), (x30003002_2), rs_, H', ⟨by have := HK1.out; have := HK2.out; omega⟩, ⟨pk BK30001.out⟩, ⟨pk BK30002.out⟩, ⟨pB2 HB.out GE30001.out GE30002.out⟩⟩
    ·rw [if_neg c8] at H
     have c8b0 : decide (x4_1 < (l0_1.length : Int)) = false := decide_eq_false c8
     clear c8
     simp only [Option.some.injEq, Prod.mk.injEq] at H
     obtain ⟨rfl, rfl, rfl, rfl⟩ := H
     have hnb40 := NB30001_30002.out
     have hnc40 := NB30002_30001.out
     have hcz41_0 := bc (v := (.int .i64 a0_0)) BK30001.out 0
     have hcz41_1 := bc (v := (.slice A0_1 l0_1.length c0_1)) BK30001.out 1
     have hfz41_0 := blk_frozen BK30001.out 0
     have hfz41_1 := blk_frozen BK30001.out 1
     have hcz42_0 := bc (v := (.int .i64 x30003000_1)) BK30002.out 0
     have hcz42_1 := bc (v := (.int .i64 x30003001_1)) BK30002.out 1
     have hcz42_2 := bc (v := (.int .i64 x30003002_1)) BK30002.out 2
     have hfz42_0 := blk_frozen BK30002.out 0
     have hfz42_1 := blk_frozen BK30002.out 1
     have hfz42_2 := blk_frozen BK30002.out 2
     go_wp2
     refine bodyPost_ret (results_ct rfl _ _ gb30002 47 #[.int .i64 0, .int .i64 0, .int .i64 0] (0, 0) _ rfl (by (with_reducible repeat (first | refine blk_drewN ?_ _ | refine blk_drew ?_ | refine blk_alloc ?_ _)); refine blk_put (cs := #[.int .i64 0, .int .i64 0, .int .i64 x30003002_1]) ?_ 2 _ rfl; (with_reducible repeat (first | refine blk_drewN ?_ _ | refine blk_drew ?_ | refine blk_alloc ?_ _)); refine blk_put (cs := #[.int .i64 0, .int .i64 x30003001_1, .int .i64 x30003002_1]) ?_ 1 _ rfl; (with_reducible repeat (first | refine blk_drewN ?_ _ | refine blk_drew ?_ | refine blk_alloc ?_ _)); refine blk_put (cs := #[.int .i64 x30003000_1, .int .i64 x30003001_1, .int .i64 x30003002_1]) ?_ 0 _ rfl; (with_reducible repeat (first | refine blk_drewN ?_ _ | refine blk_drew ?_ | refine blk_alloc ?_ _)); exact BK30002.out) Try.underlying47 rfl (by kernel_rfl)) rfl ?_
     exact ⟨re_, pB2 HB.out GE30001.out GE30002.out⟩
 ·replace c3 := Bool.eq_false_iff.mpr c3
  subst c3
  have H1 : (some (0, 0, 0, false)) = some (r1, r2, r3, r4) := by rw [if_neg (show ¬ (false = true) by decide)] at H; exact H
  clear H
  have H := H1
  clear H1
  simp only [Option.some.injEq, Prod.mk.injEq] at H
  obtain ⟨rfl, rfl, rfl, rfl⟩ := H
  go_enter Try.func29, Try.ntmps29
  go_wp2_with (first | ((with_reducible refine gate_dst (N := 1) rfl ?_); refine box_event ?hg (N := 1) ?hd (cs := #[.int .i64 a0_0, .slice A0_1 l0_1.length c0_1]) (t := 28) ?hr ?_; (case hd => rfl); (case hg => rfl); (case hr => first | (go_simp; done) | (go_simp; rfl)); intro gb30001 hg w43 hbox hb; have BK30001 := aQ (hbox); have GW30001 := aQ ((by rw [hg]; exact (below_size (pB HB.out)) : w.heap.size ≤ gb30001)); have GE30001 := aQ ((by rw [hg]; exact (below_size (pB HB.out)) : w.heap.size ≤ gb30001)); replace HB := aQ (below_step (pB HB.out) hb); clear hb hbox hg) | ((with_reducible refine gate_dst (N := 2) rfl ?_); refine box_event ?hg (N := 2) ?hd (cs := #[.int .i64 0, .int .i64 0, .int .i64 0]) (t := 47) ?hr ?_; (case hd => rfl); (case hg => rfl); (case hr => first | (go_simp; done) | (go_simp; rfl)); intro gb30002 hg w44 hbox hb; have BK30002 := aQ (hbox); have GW30002 := aQ ((by rw [hg]; exact (below_size (pB1 HB.out GE30001.out)) : w.heap.size ≤ gb30002)); have GE30002 := aQ ((by rw [hg]; exact (below_size (pB1 HB.out GE30001.out)) : w.heap.size ≤ gb30002)); replace HB := aQ (below_step (pB1 HB.out GE30001.out) hb); have NB30001_30002 := aQ ((by rw [hg]; exact Nat.ne_of_lt (blk_lt (g := gb30001) (o := .cells #[.int .i64 a0_0, .slice A0_1 l0_1.length c0_1] 28 (0, 0)) (pk BK30001.out)) : gb30001 ≠ gb30002)); have NB30002_30001 := aQ ((by rw [hg]; exact Nat.ne_of_gt (blk_lt (g := gb30001) (o := .cells #[.int .i64 a0_0, .slice A0_1 l0_1.length c0_1] 28 (0, 0)) (pk BK30001.out)) : gb30002 ≠ gb30001)); replace BK30001 := aQ (blk_below (g := gb30001) (o := .cells #[.int .i64 a0_0, .slice A0_1 l0_1.length c0_1] 28 (0, 0)) (pk BK30001.out) hb); clear hb hbox hg; have hnb45 := NB30001_30002.out; have hnc45 := NB30002_30001.out; have hcz46_0 := bc (v := (.int .i64 a0_0)) BK30001.out 0; have hcz46_1 := bc (v := (.slice A0_1 l0_1.length c0_1)) BK30001.out 1; have hfz46_0 := blk_frozen BK30001.out 0; have hfz46_1 := blk_frozen BK30001.out 1) | ((with_reducible refine gate_callee (f := 30) rfl ?_); refine goesL_ (some 13) rfl rfl Try.func30 (by kernel_rfl) rfl #[.int .i64 a0_0, .slice A0_1 l0_1.length c0_1] rfl lm ?_; (with_reducible refine (spec_IsFamily.calls k a0_0 _ _ l0_1 false _ ?side1 ?side2 A2.out).mono ?_); (case side1 => exact pC (Kd.C_below HR0_1.out HB.out)); (case side2 => exact HC0_1.out); rintro e w' ⟨rfl, ⟨nd, rfl⟩⟩; refine ⟨_, rfl, ?_⟩; (try (rw [drewN_self w44]; generalize hq_ : World.drewN w44 _ = w44; have n0_ : Aside0 (w44.heap[gb30001]? = some (.cells #[.int .i64 a0_0, .slice A0_1 l0_1.length c0_1] 28 (0, 0))) := ⟨by rw [← hq_]; exact (pk BK30001.out)⟩; have n1_ : Aside0 (w44.heap[gb30002]? = some (.cells #[.int .i64 0, .int .i64 0, .int .i64 0] 47 (0, 0))) := ⟨by rw [← hq_]; exact (pk BK30002.out)⟩; have n2_ : Aside0 (Below w.heap.size w w44) := ⟨by rw [← hq_]; exact (pB2 HB.out GE30001.out GE30002.out)⟩; clear BK30001 BK30002 HB hq_; have BK30001 := n0_; have BK30002 := n1_; have HB := n2_; clear n0_ n1_ n2_)); have hcz47_0 := bc (v := (.int .i64 0)) BK30002.out 0; have hcz47_1 := bc (v := (.int .i64 0)) BK30002.out 1; have hcz47_2 := bc (v := (.int .i64 0)) BK30002.out 2; have hfz47_0 := blk_frozen BK30002.out 0; have hfz47_1 := blk_frozen BK30002.out 1; have hfz47_2 := blk_frozen BK30002.out 2))
  refine bodyPost_ret (results_ct rfl _ _ gb30002 47 #[.int .i64 0, .int .i64 0, .int .i64 0] (0, 0) _ rfl (by (with_reducible repeat (first | refine blk_drewN ?_ _ | refine blk_drew ?_ | refine blk_alloc ?_ _)); refine blk_put (cs := #[.int .i64 0, .int .i64 0, .int .i64 0]) ?_ 2 _ rfl; (with_reducible repeat (first | refine blk_drewN ?_ _ | refine blk_drew ?_ | refine blk_alloc ?_ _)); refine blk_put (cs := #[.int .i64 0, .int .i64 0, .int .i64 0]) ?_ 1 _ rfl; (with_reducible repeat (first | refine blk_drewN ?_ _ | refine blk_drew ?_ | refine blk_alloc ?_ _)); refine blk_put (cs := #[.int .i64 0, .int .i64 0, .int .i64 0]) ?_ 0 _ rfl; (with_reducible repeat (first | refine blk_drewN ?_ _ | refine blk_drew ?_ | refine blk_alloc ?_ _)); exact BK30002.out) Try.underlying47 rfl (by kernel_rfl)) rfl ?_
  exact ⟨re_, pB2 HB.out GE30001.out GE30002.out⟩
/-! ### spec_IsMatroid: function 15 -/
def spec_IsMatroid.f (k : Nat) (a0_0 : Int) (l0_1 : List Int) : Option (Bool) := (spec_FirstFailure.f k a0_0 l0_1).bind fun bt16002 => ((spec_IsFamily.f k a0_0 l0_1).bind fun t16007 => (if t16007 = true then (if (l0_1.length : Int) > 0 then (some (!bt16002.2.2.2)) else (some false)) else (some false)))
theorem spec_IsMatroid.mono : ∀ a0 a1 k, LeO (spec_IsMatroid.f k a0 a1) (spec_IsMatroid.f (k + 1) a0 a1) := by
 intro a0 a1 k
 unfold spec_IsMatroid.f
 repeat' first
   | (with_reducible exact spec_FirstFailure.mono _ _ _)
   | (with_reducible exact spec_IsFamily.mono _ _ _)
   | (with_reducible exact LeO.refl _)
   | (with_reducible exact LeO.none _)
   | (with_reducible refine LeO.ite ?_ ?_)
   | (with_reducible refine LeO.bind ?_ (fun _ => ?_))
   | exact spec_FirstFailure.mono _ _ _
   | exact spec_IsFamily.mono _ _ _
   | exact LeO.none _
   | refine LeO.ite ?_ ?_
   | refine LeO.bind ?_ (fun _ => ?_)
set_option maxHeartbeats 8000000 in
set_option maxRecDepth 100000 in
theorem spec_IsMatroid.calls (k : Nat) (a0_0 : Int) (A0_1 : Option Addr) (c0_1 : Nat) (l0_1 : List Int) (r : Bool) (w : World) (hr0_1 : Kd.C (Kd.int .i64) w A0_1 l0_1.length l0_1) (hc0_1 : l0_1.length ≤ c0_1) (h : spec_IsMatroid.f k a0_0 l0_1 = some r) :
  Calls Try.prog 15 #[.agg #[.int .i64 a0_0, .slice A0_1 l0_1.length c0_1]] w fun e w' => e = .returned (.bool r) ∧ Below w.heap.size w w' := by
 have hu28 := Try.underlying28
 have hu47 := Try.underlying47
 have HR0_1 := aQ hr0_1
 have HC0_1 := aQ hc0_1
 clear hr0_1 hc0_1
 have HB := aQ (Below.refl w.heap.size w)
 have H : ((spec_FirstFailure.f k a0_0 l0_1).bind fun bt16002 => ((spec_IsFamily.f k a0_0 l0_1).bind fun t16007 => (if t16007 = true then (if (l0_1.length : Int) > 0 then (some (!bt16002.2.2.2)) else (some false)) else (some false)))) = some r := h
 clear h
 replace H := Option.bind_eq_some_iff.mp H
 obtain ⟨⟨t16002, t16003, t16004, t16005⟩, A20, H⟩ := H
 replace H : ((spec_IsFamily.f k a0_0 l0_1).bind fun t16007 => (if t16007 = true then (if (l0_1.length : Int) > 0 then (some (!t16005)) else (some false)) else (some false))) = some r := H
 have A2 := aQ A20
 clear A20
 replace H := Option.bind_eq_some_iff.mp H
 obtain ⟨t16007, A30, H⟩ := H
 replace H : (if t16007 = true then (if (l0_1.length : Int) > 0 then (some (!t16005)) else (some false)) else (some false)) = some r := H
 have A3 := aQ A30
 clear A30
 by_cases c4 : t16007 = true
 ·subst c4
  have H1 : (if (l0_1.length : Int) > 0 then (some (!t16005)) else (some false)) = some r := by rw [if_pos rfl] at H; exact H
  clear H
  have H := H1
  clear H1
  by_cases c5 : (l0_1.length : Int) > 0
  ·rw [if_pos c5] at H
   have c5b0 : decide (0 < (l0_1.length : Int)) = true := decide_eq_true c5
   have c5b1 : decide (0 < l0_1.length) = true := decide_eq_true (by omega)
   clear c5
   obtain rfl := Option.some.inj H
   go_enter Try.func15, Try.ntmps15
   go_wp2_with (first | ((with_reducible refine gate_dst (N := 1) rfl ?_); (try (refine gate_guard (by rfl) ?_; dsimp only)); refine box_event ?hg (N := 1) ?hd (cs := #[.int .i64 a0_0, .slice A0_1 l0_1.length c0_1]) (t := 28) ?hr ?_; (case hd => rfl); (case hg => rfl); (case hr => first | (go_simp; done) | (go_simp; rfl)); intro gb16001 hg w6 hbox hb; have BK16001 := aQ (hbox); have GW16001 := aQ ((by rw [hg]; exact (below_size (pB HB.out)) : w.heap.size ≤ gb16001)); have GE16001 := aQ ((by rw [hg]; exact (below_size (pB HB.out)) : w.heap.size ≤ gb16001)); replace HB := aQ (below_step (pB HB.out) hb); clear hb hbox hg; have hcz7_0 := bc (v := (.int .i64 a0_0)) BK16001.out 0; have hcz7_1 := bc (v := (.slice A0_1 l0_1.length c0_1)) BK16001.out 1; have hfz7_0 := blk_frozen BK16001.out 0; have hfz7_1 := blk_frozen BK16001.out 1) | ((with_reducible refine gate_callee (f := 29) rfl ?_); refine goesL_ (some 7) rfl rfl Try.func29 (by kernel_rfl) rfl #[.agg #[.int .i64 a0_0, .slice A0_1 l0_1.length c0_1]] rfl lm ?_; (with_reducible refine (spec_FirstFailure.calls k a0_0 _ _ l0_1 t16002 t16003 t16004 t16005 _ ?side1 ?side2 A2.out).mono ?_); (case side1 => exact pC (Kd.C_below HR0_1.out HB.out)); (case side2 => exact HC0_1.out); rintro e w8 ⟨rfl, hb⟩; refine ⟨_, rfl, ?_⟩; replace BK16001 := aQ (blk_below (g := gb16001) (o := .cells #[.int .i64 a0_0, .slice A0_1 l0_1.length c0_1] 28 (0, 0)) (pk BK16001.out) hb); replace HB := aQ (below_step (pB1 HB.out GE16001.out) hb); (try clear hb)) | ((with_reducible refine gate_dst (N := 3) rfl ?_); (try (refine gate_guard (by rfl) ?_; dsimp only)); refine box_event ?hg (N := 3) ?hd (cs := #[.int .i64 0, .int .i64 0, .int .i64 0]) (t := 47) ?hr ?_; (case hd => rfl); (case hg => rfl); (case hr => first | (go_simp; done) | (go_simp; rfl)); intro gb16006 hg w9 hbox hb; have BK16006 := aQ (hbox); have GW16006 := aQ ((by rw [hg]; exact (below_size (pB1 HB.out GE16001.out)) : w.heap.size ≤ gb16006)); have GE16006 := aQ ((by rw [hg]; exact (below_size (pB1 HB.out GE16001.out)) : w.heap.size ≤ gb16006)); replace HB := aQ (below_step (pB1 HB.out GE16001.out) hb); have NB16001_16006 := aQ ((by rw [hg]; exact Nat.ne_of_lt (blk_lt (g := gb16001) (o := .cells #[.int .i64 a0_0, .slice A0_1 l0_1.length c0_1] 28 (0, 0)) (pk BK16001.out)) : gb16001 ≠ gb16006)); have NB16006_16001 := aQ ((by rw [hg]; exact Nat.ne_of_gt (blk_lt (g := gb16001) (o := .cells #[.int .i64 a0_0, .slice A0_1 l0_1.length c0_1] 28 (0, 0)) (pk BK16001.out)) : gb16006 ≠ gb16001)); replace BK16001 := aQ (blk_below (g := gb16001) (o := .cells #[.int .i64 a0_0, .slice A0_1 l0_1.length c0_1] 28 (0, 0)) (pk BK16001.out) hb); clear hb hbox hg; have hnb10 := NB16006_16001.out; have hnc10 := NB16001_16006.out; have hcz11_0 := bc (v := (.int .i64 0)) BK16006.out 0; have hcz11_1 := bc (v := (.int .i64 0)) BK16006.out 1; have hcz11_2 := bc (v := (.int .i64 0)) BK16006.out 2; have hfz11_0 := blk_frozen BK16006.out 0; have hfz11_1 := blk_frozen BK16006.out 1; have hfz11_2 := blk_frozen BK16006.out 2; have hcz12_0 := bc (v := (.int .i64 a0_0)) BK16001.out 0; have hcz12_1 := bc (v := (.slice A0_1 l0_1.length c0_1)) BK16001.out 1; have hfz12_0 := blk_frozen BK16001.out 0; have hfz12_1 := blk_frozen BK16001.out 1) | ((with_reducible refine gate_callee (f := 30) rfl ?_); refine goesL_ (some 14) rfl rfl Try.func30 (by kernel_rfl) rfl #[.int .i64 a0_0, .slice A0_1 l0_1.length c0_1] rfl lm ?_; (with_reducible refine (spec_IsFamily.calls k a0_0 _ _ l0_1 true _ ?side1 ?side2 A3.out).mono ?_); (case side1 => exact Kd.C_below HR0_1.out (pB2 HB.out GE16001.out GE16006.out)); (case side2 => exact HC0_1.out); rintro e w' ⟨rfl, ⟨nd, rfl⟩⟩; refine ⟨_, rfl, ?_⟩))
   go_ret
   exact ⟨re_, pB2 HB.out GE16001.out GE16006.out⟩
  ·rw [if_neg c5] at H
   have c5b0 : decide (0 < (l0_1.length : Int)) = false := decide_eq_false c5
   have c5b1 : decide (0 < l0_1.length) = false := decide_eq_false (by omega)
   clear c5
   obtain rfl := Option.some.inj H
   go_enter Try.func15, Try.ntmps15
   go_wp2_with (first | ((with_reducible refine gate_dst (N := 1) rfl ?_); (try (refine gate_guard (by rfl) ?_; dsimp only)); refine box_event ?hg (N := 1) ?hd (cs := #[.int .i64 a0_0, .slice A0_1 l0_1.length c0_1]) (t := 28) ?hr ?_; (case hd => rfl); (case hg => rfl); (case hr => first | (go_simp; done) | (go_simp; rfl)); intro gb16001 hg w13 hbox hb; have BK16001 := aQ (hbox); have GW16001 := aQ ((by rw [hg]; exact (below_size (pB HB.out)) : w.heap.size ≤ gb16001)); have GE16001 := aQ ((by rw [hg]; exact (below_size (pB HB.out)) : w.heap.size ≤ gb16001)); replace HB := aQ (below_step (pB HB.out) hb); clear hb hbox hg; have hcz14_0 := bc (v := (.int .i64 a0_0)) BK16001.out 0; have hcz14_1 := bc (v := (.slice A0_1 l0_1.length c0_1)) BK16001.out 1; have hfz14_0 := blk_frozen BK16001.out 0; have hfz14_1 := blk_frozen BK16001.out 1) | ((with_reducible refine gate_callee (f := 29) rfl ?_); refine goesL_ (some 7) rfl rfl Try.func29 (by kernel_rfl) rfl #[.agg #[.int .i64 a0_0, .slice A0_1 l0_1.length c0_1]] rfl lm ?_; (with_reducible refine (spec_FirstFailure.calls k a0_0 _ _ l0_1 t16002 t16003 t16004 t16005 _ ?side1 ?side2 A2.out).mono ?_); (case side1 => exact pC (Kd.C_below HR0_1.out HB.out)); (case side2 => exact HC0_1.out); rintro e w15 ⟨rfl, hb⟩; refine ⟨_, rfl, ?_⟩; replace BK16001 := aQ (blk_below (g := gb16001) (o := .cells #[.int .i64 a0_0, .slice A0_1 l0_1.length c0_1] 28 (0, 0)) (pk BK16001.out) hb); replace HB := aQ (below_step (pB1 HB.out GE16001.out) hb); (try clear hb)) | ((with_reducible refine gate_dst (N := 3) rfl ?_); (try (refine gate_guard (by rfl) ?_; dsimp only)); refine box_event ?hg (N := 3) ?hd (cs := #[.int .i64 0, .int .i64 0, .int .i64 0]) (t := 47) ?hr ?_; (case hd => rfl); (case hg => rfl); (case hr => first | (go_simp; done) | (go_simp; rfl)); intro gb16006 hg w16 hbox hb; have BK16006 := aQ (hbox); have GW16006 := aQ ((by rw [hg]; exact (below_size (pB1 HB.out GE16001.out)) : w.heap.size ≤ gb16006)); have GE16006 := aQ ((by rw [hg]; exact (below_size (pB1 HB.out GE16001.out)) : w.heap.size ≤ gb16006)); replace HB := aQ (below_step (pB1 HB.out GE16001.out) hb); have NB16001_16006 := aQ ((by rw [hg]; exact Nat.ne_of_lt (blk_lt (g := gb16001) (o := .cells #[.int .i64 a0_0, .slice A0_1 l0_1.length c0_1] 28 (0, 0)) (pk BK16001.out)) : gb16001 ≠ gb16006)); have NB16006_16001 := aQ ((by rw [hg]; exact Nat.ne_of_gt (blk_lt (g := gb16001) (o := .cells #[.int .i64 a0_0, .slice A0_1 l0_1.length c0_1] 28 (0, 0)) (pk BK16001.out)) : gb16006 ≠ gb16001)); replace BK16001 := aQ (blk_below (g := gb16001) (o := .cells #[.int .i64 a0_0, .slice A0_1 l0_1.length c0_1] 28 (0, 0)) (pk BK16001.out) hb); clear hb hbox hg; have hnb17 := NB16006_16001.out; have hnc17 := NB16001_16006.out; have hcz18_0 := bc (v := (.int .i64 0)) BK16006.out 0; have hcz18_1 := bc (v := (.int .i64 0)) BK16006.out 1; have hcz18_2 := bc (v := (.int .i64 0)) BK16006.out 2; have hfz18_0 := blk_frozen BK16006.out 0; have hfz18_1 := blk_frozen BK16006.out 1; have hfz18_2 := blk_frozen BK16006.out 2; have hcz19_0 := bc (v := (.int .i64 a0_0)) BK16001.out 0; have hcz19_1 := bc (v := (.slice A0_1 l0_1.length c0_1)) BK16001.out 1; have hfz19_0 := blk_frozen BK16001.out 0; have hfz19_1 := blk_frozen BK16001.out 1) | ((with_reducible refine gate_callee (f := 30) rfl ?_); refine goesL_ (some 14) rfl rfl Try.func30 (by kernel_rfl) rfl #[.int .i64 a0_0, .slice A0_1 l0_1.length c0_1] rfl lm ?_; (with_reducible refine (spec_IsFamily.calls k a0_0 _ _ l0_1 true _ ?side1 ?side2 A3.out).mono ?_); (case side1 => exact Kd.C_below HR0_1.out (pB2 HB.out GE16001.out GE16006.out)); (case side2 => exact HC0_1.out); rintro e w' ⟨rfl, ⟨nd, rfl⟩⟩; refine ⟨_, rfl, ?_⟩))
   go_ret
   exact ⟨re_, pB2 HB.out GE16001.out GE16006.out⟩
 ·replace c4 := Bool.eq_false_iff.mpr c4
  subst c4
  have H1 : (some false) = some r := by rw [if_neg (show ¬ (false = true) by decide)] at H; exact H
  clear H
  have H := H1
  clear H1
  obtain rfl := Option.some.inj H
  go_enter Try.func15, Try.ntmps15
  go_wp2_with (first | ((with_reducible refine gate_dst (N := 1) rfl ?_); (try (refine gate_guard (by rfl) ?_; dsimp only)); refine box_event ?hg (N := 1) ?hd (cs := #[.int .i64 a0_0, .slice A0_1 l0_1.length c0_1]) (t := 28) ?hr ?_; (case hd => rfl); (case hg => rfl); (case hr => first | (go_simp; done) | (go_simp; rfl)); intro gb16001 hg w20 hbox hb; have BK16001 := aQ (hbox); have GW16001 := aQ ((by rw [hg]; exact (below_size (pB HB.out)) : w.heap.size ≤ gb16001)); have GE16001 := aQ ((by rw [hg]; exact (below_size (pB HB.out)) : w.heap.size ≤ gb16001)); replace HB := aQ (below_step (pB HB.out) hb); clear hb hbox hg; have hcz21_0 := bc (v := (.int .i64 a0_0)) BK16001.out 0; have hcz21_1 := bc (v := (.slice A0_1 l0_1.length c0_1)) BK16001.out 1; have hfz21_0 := blk_frozen BK16001.out 0; have hfz21_1 := blk_frozen BK16001.out 1) | ((with_reducible refine gate_callee (f := 29) rfl ?_); refine goesL_ (some 7) rfl rfl Try.func29 (by kernel_rfl) rfl #[.agg #[.int .i64 a0_0, .slice A0_1 l0_1.length c0_1]] rfl lm ?_; (with_reducible refine (spec_FirstFailure.calls k a0_0 _ _ l0_1 t16002 t16003 t16004 t16005 _ ?side1 ?side2 A2.out).mono ?_); (case side1 => exact pC (Kd.C_below HR0_1.out HB.out)); (case side2 => exact HC0_1.out); rintro e w22 ⟨rfl, hb⟩; refine ⟨_, rfl, ?_⟩; replace BK16001 := aQ (blk_below (g := gb16001) (o := .cells #[.int .i64 a0_0, .slice A0_1 l0_1.length c0_1] 28 (0, 0)) (pk BK16001.out) hb); replace HB := aQ (below_step (pB1 HB.out GE16001.out) hb); (try clear hb)) | ((with_reducible refine gate_dst (N := 3) rfl ?_); (try (refine gate_guard (by rfl) ?_; dsimp only)); refine box_event ?hg (N := 3) ?hd (cs := #[.int .i64 0, .int .i64 0, .int .i64 0]) (t := 47) ?hr ?_; (case hd => rfl); (case hg => rfl); (case hr => first | (go_simp; done) | (go_simp; rfl)); intro gb16006 hg w23 hbox hb; have BK16006 := aQ (hbox); have GW16006 := aQ ((by rw [hg]; exact (below_size (pB1 HB.out GE16001.out)) : w.heap.size ≤ gb16006)); have GE16006 := aQ ((by rw [hg]; exact (below_size (pB1 HB.out GE16001.out)) : w.heap.size ≤ gb16006)); replace HB := aQ (below_step (pB1 HB.out GE16001.out) hb); have NB16001_16006 := aQ ((by rw [hg]; exact Nat.ne_of_lt (blk_lt (g := gb16001) (o := .cells #[.int .i64 a0_0, .slice A0_1 l0_1.length c0_1] 28 (0, 0)) (pk BK16001.out)) : gb16001 ≠ gb16006)); have NB16006_16001 := aQ ((by rw [hg]; exact Nat.ne_of_gt (blk_lt (g := gb16001) (o := .cells #[.int .i64 a0_0, .slice A0_1 l0_1.length c0_1] 28 (0, 0)) (pk BK16001.out)) : gb16006 ≠ gb16001)); replace BK16001 := aQ (blk_below (g := gb16001) (o := .cells #[.int .i64 a0_0, .slice A0_1 l0_1.length c0_1] 28 (0, 0)) (pk BK16001.out) hb); clear hb hbox hg; have hnb24 := NB16006_16001.out; have hnc24 := NB16001_16006.out; have hcz25_0 := bc (v := (.int .i64 0)) BK16006.out 0; have hcz25_1 := bc (v := (.int .i64 0)) BK16006.out 1; have hcz25_2 := bc (v := (.int .i64 0)) BK16006.out 2; have hfz25_0 := blk_frozen BK16006.out 0; have hfz25_1 := blk_frozen BK16006.out 1; have hfz25_2 := blk_frozen BK16006.out 2; have hcz26_0 := bc (v := (.int .i64 a0_0)) BK16001.out 0; have hcz26_1 := bc (v := (.slice A0_1 l0_1.length c0_1)) BK16001.out 1; have hfz26_0 := blk_frozen BK16001.out 0; have hfz26_1 := blk_frozen BK16001.out 1) | ((with_reducible refine gate_callee (f := 30) rfl ?_); refine goesL_ (some 14) rfl rfl Try.func30 (by kernel_rfl) rfl #[.int .i64 a0_0, .slice A0_1 l0_1.length c0_1] rfl lm ?_; (with_reducible refine (spec_IsFamily.calls k a0_0 _ _ l0_1 false _ ?side1 ?side2 A3.out).mono ?_); (case side1 => exact Kd.C_below HR0_1.out (pB2 HB.out GE16001.out GE16006.out)); (case side2 => exact HC0_1.out); rintro e w' ⟨rfl, ⟨nd, rfl⟩⟩; refine ⟨_, rfl, ?_⟩))
  go_ret
  exact ⟨re_, pB2 HB.out GE16001.out GE16006.out⟩
/-! ### spec_FullSet: function 42 -/
def spec_FullSet.f (a0 : Int) : Option (Int) := (spec_l1In.f a0 0 8).bind fun t43001 => (if t43001 = true then (if 0 ≤ (IntKind.u64.wrap (a0)) then (some (wrap64 ((shl .i64 1 (IntKind.u64.wrap (a0))) - 1))) else (none)) else (some 0))
set_option maxHeartbeats 8000000 in
set_option maxRecDepth 100000 in
theorem spec_FullSet.calls (a0 : Int) (r : Int) (w : World) (h : spec_FullSet.f a0 = some r) :
  Calls Try.prog 42 #[.int .i64 a0] w fun e w' => e = .returned (.int .i64 r) ∧ Drawn0 w w' := by
 have H : ((spec_l1In.f a0 0 8).bind fun t43001 => (if t43001 = true then (if 0 ≤ (IntKind.u64.wrap (a0)) then (some (wrap64 ((shl .i64 1 (IntKind.u64.wrap (a0))) - 1))) else (none)) else (some 0))) = some r := h
 clear h
 replace H := Option.bind_eq_some_iff.mp H
 obtain ⟨t43001, A20, H⟩ := H
 replace H : (if t43001 = true then (if 0 ≤ (IntKind.u64.wrap (a0)) then (some (wrap64 ((shl .i64 1 (IntKind.u64.wrap (a0))) - 1))) else (none)) else (some 0)) = some r := H
 have A2 := aQ A20
 clear A20
 by_cases c3 : t43001 = true
 ·subst c3
  have H1 : (if 0 ≤ (IntKind.u64.wrap (a0)) then (some (wrap64 ((shl .i64 1 (IntKind.u64.wrap (a0))) - 1))) else (none)) = some r := by rw [if_pos rfl] at H; exact H
  clear H
  have H := H1
  clear H1
  obtain ⟨ji4, hji4⟩ : ∃ j_ : Int, (IntKind.u64.wrap (a0)) = j_ := ⟨_, rfl⟩
  replace H : (if 0 ≤ (ji4) then (some (wrap64 ((shl .i64 1 (ji4)) - 1))) else (none)) = some r := by first | (rw [hji4] at H; exact H) | (simp only [hji4] at H ⊢; exact H)
  (try rw [hji4] at A2)
  by_cases c5 : 0 ≤ (ji4)
  ·rw [if_pos c5] at H
   have c5b0 := eq_true c5
   have c5b1 : decide (0 ≤ (ji4)) = true := decide_eq_true c5
   clear c5
   obtain ⟨ji6, hji6⟩ : ∃ j_ : Int, (shl .i64 1 (ji4)) = j_ := ⟨_, rfl⟩
   replace H : (some (wrap64 ((ji6) - 1))) = some r := by first | (rw [hji6] at H; exact H) | (simp only [hji6] at H ⊢; exact H)
   (try rw [hji6] at A2)
   have hji6_ : (IntKind.i64.wrap (1 * 2 ^ min (ji4).toNat 64)) = ji6 := hji6
   have hji6z : (ji4) ≤ 64 → (IntKind.i64.wrap (1 * 2 ^ (ji4).toNat)) = ji6 := shl_small hji6
   have hji6u : (IntKind.i64.wrap (2 ^ min (ji4).toNat 64)) = ji6 := by have h_ := hji6_; rw [Int.one_mul] at h_; exact h_
   have hji6v : (ji4) ≤ 64 → (IntKind.i64.wrap (2 ^ (ji4).toNat)) = ji6 := fun hle_ => by have h_ := hji6z hle_; rw [Int.one_mul] at h_; exact h_
   have hji6y : (wrap64 (1 * 2 ^ min (ji4).toNat 64)) = ji6 := (i64_w _).symm.trans hji6_
   have hji6x : (ji4) ≤ 64 → (wrap64 (1 * 2 ^ (ji4).toNat)) = ji6 := fun h_ => (i64_w _).symm.trans (hji6z h_)
   obtain rfl := Option.some.inj H
   go_enter Try.func42, Try.ntmps42
   go_wp2_with (first | ((with_reducible refine gate_callee (f := 46) rfl ?_); refine goesL_ (some 4) rfl rfl Try.func46 (by kernel_rfl) rfl #[.int .i64 a0, .int .i64 0, .int .i64 8] rfl lm ?_; (with_reducible refine (spec_l1In.calls a0 0 8 true _ A2.out).mono ?_); rintro e w' ⟨rfl, ⟨nd, rfl⟩⟩; refine ⟨_, rfl, ?_⟩))
   go_ret
   exact ⟨by first | rfl | (simp; done) | (simp only [← hji4, ← hji6] <;> (first | rfl | simp)) | (simp [*]; done), rd_⟩
  ·rw [if_neg c5] at H
   exact absurd H (by simp)
 ·replace c3 := Bool.eq_false_iff.mpr c3
  subst c3
  have H1 : (some 0) = some r := by rw [if_neg (show ¬ (false = true) by decide)] at H; exact H
  clear H
  have H := H1
  clear H1
  obtain rfl := Option.some.inj H
  go_enter Try.func42, Try.ntmps42
  go_wp2_with (first | ((with_reducible refine gate_callee (f := 46) rfl ?_); refine goesL_ (some 4) rfl rfl Try.func46 (by kernel_rfl) rfl #[.int .i64 a0, .int .i64 0, .int .i64 8] rfl lm ?_; (with_reducible refine (spec_l1In.calls a0 0 8 false _ A2.out).mono ?_); rintro e w' ⟨rfl, ⟨nd, rfl⟩⟩; refine ⟨_, rfl, ?_⟩))
  go_ret
  exact ⟨rs_, rd_⟩
/-! ### spec_l1Max: function 70 -/
def spec_l1Max.f (a0 : Int) (a1 : Int) : Option (Int) := if a0 > a1 then (some a0) else (some a1)
set_option maxHeartbeats 8000000 in
set_option maxRecDepth 100000 in
theorem spec_l1Max.calls (a0 : Int) (a1 : Int) (r : Int) (w : World) (h : spec_l1Max.f a0 a1 = some r) :
  Calls Try.prog 70 #[.int .i64 a0, .int .i64 a1] w fun e w' => e = .returned (.int .i64 r) ∧ Drawn0 w w' := by
 have H : (if a0 > a1 then (some a0) else (some a1)) = some r := h
 clear h
 by_cases c3 : a0 > a1
 ·rw [if_pos c3] at H
  have c3b0 : decide (a1 < a0) = true := decide_eq_true c3
  clear c3
  obtain rfl := Option.some.inj H
  go_enter Try.func70, Try.ntmps70
  go_wp2
  go_ret
  exact ⟨rs_, rd_⟩
 ·rw [if_neg c3] at H
  have c3b0 : decide (a1 < a0) = false := decide_eq_false c3
  clear c3
  obtain rfl := Option.some.inj H
  go_enter Try.func70, Try.ntmps70
  go_wp2
  go_ret
  exact ⟨rs_, rd_⟩
/-! ### spec_CountOf: function 71 -/
def spec_CountOf.l0 : Nat → Int → Int → Option (Int)
 | 0, _, _ => none
 | k + 1, x0, x3 => if x0 > 0 then (spec_CountOf.l0 k (x0 / 2) (wrap64 (x3 + (Go.bits .and .i64 x0 1)))) else (some x3)
def spec_CountOf.f (k : Nat) (a0 : Int) : Option (Int) := (spec_IsSet.f 8 a0).bind fun t72001 => (if t72001 = true then (spec_CountOf.l0 k a0 0) else (some 0))
theorem spec_CountOf.mono_l : ∀ k, (∀ y0 y1, LeO (spec_CountOf.l0 k y0 y1) (spec_CountOf.l0 (k + 1) y0 y1))
 | 0 => fun _ _ r h => by simp [spec_CountOf.l0] at h
 | k + 1 => by
  have ih0 := spec_CountOf.mono_l k
  ·intro y0 y1
   unfold spec_CountOf.l0
   repeat' first
   | (with_reducible exact ih0 _ _)
   | (with_reducible exact LeO.refl _)
   | (with_reducible exact LeO.none _)
   | (with_reducible refine LeO.ite ?_ ?_)
   | (with_reducible refine LeO.bind ?_ (fun _ => ?_))
   | exact ih0 _ _
   | exact LeO.none _
   | refine LeO.ite ?_ ?_
   | refine LeO.bind ?_ (fun _ => ?_)
theorem spec_CountOf.mono : ∀ a0 k, LeO (spec_CountOf.f k a0) (spec_CountOf.f (k + 1) a0) := by
 intro a0 k
 have ih0 := spec_CountOf.mono_l k
 unfold spec_CountOf.f
 repeat' first
   | (with_reducible exact ih0 _ _)
   | (with_reducible exact LeO.refl _)
   | (with_reducible exact LeO.none _)
   | (with_reducible refine LeO.ite ?_ ?_)
   | (with_reducible refine LeO.bind ?_ (fun _ => ?_))
   | exact ih0 _ _
   | exact LeO.none _
   | refine LeO.ite ?_ ?_
   | refine LeO.bind ?_ (fun _ => ?_)
set_option maxHeartbeats 8000000 in
set_option maxRecDepth 100000 in
theorem spec_CountOf.calls (k : Nat) (a0 : Int) (r : Int) (w : World) (h : spec_CountOf.f k a0 = some r) :
  Calls Try.prog 71 #[.int .i64 a0] w fun e w' => e = .returned (.int .i64 r) ∧ Drawn0 w w' := by
 have H : ((spec_IsSet.f 8 a0).bind fun t72001 => (if t72001 = true then (spec_CountOf.l0 k a0 0) else (some 0))) = some r := h
 clear h
 replace H := Option.bind_eq_some_iff.mp H
 obtain ⟨t72001, A20, H⟩ := H
 replace H : (if t72001 = true then (spec_CountOf.l0 k a0 0) else (some 0)) = some r := H
 have A2 := aQ A20
 clear A20
 by_cases c3 : t72001 = true
 ·subst c3
  have H1 : (spec_CountOf.l0 k a0 0) = some r := by rw [if_pos rfl] at H; exact H
  clear H
  have H := H1
  clear H1
  have H' := aQ H
  clear H
  go_enter Try.func71, Try.ntmps71
  go_wp2_with (first | ((with_reducible refine gate_callee (f := 45) rfl ?_); refine goesL_ (some 5) rfl rfl Try.func45 (by kernel_rfl) rfl #[.int .i64 8, .int .i64 a0] rfl lm ?_; (with_reducible refine (spec_IsSet.calls 8 a0 true _ A2.out).mono ?_); rintro e w' ⟨rfl, ⟨nd, rfl⟩⟩; refine ⟨_, rfl, ?_⟩))
  go_loopg [0, 3] k (fun kq v0 v3 w' => ∃ (x0_1 : Int) (x3_1 : Int), v0 = .int .i64 x0_1 ∧ v3 = .int .i64 x3_1 ∧ Aside0 (spec_CountOf.l0 kq x0_1 x3_1 = some r) ∧ Aside0 (kq ≤ k) ∧ Drawn0 w w')
  case atStart => exact ⟨(a0), (0), rs_, rs_, H', ⟨Nat.le_refl _⟩, rd_⟩
  case round =>
   clear H'
   try clear p2
   try clear c3
   obtain ⟨x0_1, x3_1, rfl, rfl, HA, HK1, ⟨m1, rfl⟩⟩ := hrel
   cases gk with
   | zero => exact absurd HA.out (by simp [spec_CountOf.l0])
   | succ k1 =>
    have H := HA.out
    clear HA
    simp only [spec_CountOf.l0] at H
    by_cases c4 : x0_1 > 0
    ·rw [if_pos c4] at H
     have c4b0 : decide (0 < x0_1) = true := decide_eq_true c4
     clear c4
     have H' := aQ H
     clear H
     go_wp2
     go_roundg k1
     case measure => have := HK1.out; omega
     case rel => exact ⟨(x0_1 / 2), (wrap64 (x3_1 + (Go.bits .and .i64 x0_1 1))), rs_, rs_, H', ⟨by have := HK1.out; omega⟩, rd_⟩
    ·rw [if_neg c4] at H
     have c4b0 : decide (0 < x0_1) = false := decide_eq_false c4
     clear c4
     obtain rfl := Option.some.inj H
     go_wp2
     go_ret
     exact ⟨rs_, rd_⟩
 ·replace c3 := Bool.eq_false_iff.mpr c3
  subst c3
  have H1 : (some 0) = some r := by rw [if_neg (show ¬ (false = true) by decide)] at H; exact H
  clear H
  have H := H1
  clear H1
  obtain rfl := Option.some.inj H
  go_enter Try.func71, Try.ntmps71
  go_wp2_with (first | ((with_reducible refine gate_callee (f := 45) rfl ?_); refine goesL_ (some 5) rfl rfl Try.func45 (by kernel_rfl) rfl #[.int .i64 8, .int .i64 a0] rfl lm ?_; (with_reducible refine (spec_IsSet.calls 8 a0 false _ A2.out).mono ?_); rintro e w' ⟨rfl, ⟨nd, rfl⟩⟩; refine ⟨_, rfl, ?_⟩))
  go_ret
  exact ⟨rs_, rd_⟩
/-! ### spec_l5Rank: function 47 -/
def spec_l5Rank.l0 : Nat → Int → Int → Int → Int → List Int → Option (Int)
 | 0, _, _, _, _, _ => none
 | k + 1, x1, x5, x6, x48002000, x48002001 => if x6 < (x48002001.length : Int) then (if 0 ≤ x6 then ((spec_CountOf.f k (Go.bits .and .i64 (rd x48002001 x6) x1)).bind fun t48003 => ((spec_l1Max.f x5 t48003).bind fun t48004 => (spec_l5Rank.l0 k x1 t48004 (wrap64 (x6 + 1)) x48002000 x48002001))) else (none)) else (some x5)
def spec_l5Rank.f (k : Nat) (a0_0 : Int) (l0_1 : List Int) (a1 : Int) : Option (Int) := spec_l5Rank.l0 k a1 0 0 a0_0 l0_1
theorem spec_l5Rank.mono_l : ∀ k, (∀ y0 y1 y2 y3 y4, LeO (spec_l5Rank.l0 k y0 y1 y2 y3 y4) (spec_l5Rank.l0 (k + 1) y0 y1 y2 y3 y4))
 | 0 => fun _ _ _ _ _ r h => by simp [spec_l5Rank.l0] at h
 | k + 1 => by
  have ih0 := spec_l5Rank.mono_l k
  ·intro y0 y1 y2 y3 y4
   unfold spec_l5Rank.l0
   repeat' first
   | (with_reducible exact ih0 _ _ _ _ _)
   | (with_reducible exact spec_CountOf.mono _ _)
   | (with_reducible exact LeO.refl _)
   | (with_reducible exact LeO.none _)
   | (with_reducible refine LeO.ite ?_ ?_)
   | (with_reducible refine LeO.bind ?_ (fun _ => ?_))
   | exact ih0 _ _ _ _ _
   | exact spec_CountOf.mono _ _
   | exact LeO.none _
   | refine LeO.ite ?_ ?_
   | refine LeO.bind ?_ (fun _ => ?_)
theorem spec_l5Rank.mono : ∀ a0 a1 a2 k, LeO (spec_l5Rank.f k a0 a1 a2) (spec_l5Rank.f (k + 1) a0 a1 a2) := by
 intro a0 a1 a2 k
 have ih0 := spec_l5Rank.mono_l k
 unfold spec_l5Rank.f
 repeat' first
   | (with_reducible exact ih0 _ _ _ _ _)
   | (with_reducible exact spec_CountOf.mono _ _)
   | (with_reducible exact LeO.refl _)
   | (with_reducible exact LeO.none _)
   | (with_reducible refine LeO.ite ?_ ?_)
   | (with_reducible refine LeO.bind ?_ (fun _ => ?_))
   | exact ih0 _ _ _ _ _
   | exact spec_CountOf.mono _ _
   | exact LeO.none _
   | refine LeO.ite ?_ ?_
   | refine LeO.bind ?_ (fun _ => ?_)
set_option maxHeartbeats 8000000 in
set_option maxRecDepth 100000 in
theorem spec_l5Rank.calls (k : Nat) (a0_0 : Int) (A0_1 : Option Addr) (c0_1 : Nat) (l0_1 : List Int) (a1 : Int) (r : Int) (w : World) (hr0_1 : Kd.C (Kd.int .i64) w A0_1 l0_1.length l0_1) (hc0_1 : l0_1.length ≤ c0_1) (h : spec_l5Rank.f k a0_0 l0_1 a1 = some r) :
  Calls Try.prog 47 #[.agg #[.int .i64 a0_0, .slice A0_1 l0_1.length c0_1], .int .i64 a1] w fun e w' => e = .returned (.int .i64 r) ∧ Below w.heap.size w w' := by
 have hu28 := Try.underlying28
 have HR0_1 := aQ hr0_1
 have HC0_1 := aQ hc0_1
 clear hr0_1 hc0_1
 have HB := aQ (Below.refl w.heap.size w)
 have H : (spec_l5Rank.l0 k a1 0 0 a0_0 l0_1) = some r := h
 clear h
 have H' := aQ H
 clear H
 go_enter Try.func47, Try.ntmps47
 go_wp2_with (first | ((with_reducible refine gate_dst (N := 2) rfl ?_); refine box_event ?hg (N := 2) ?hd (cs := #[.int .i64 a0_0, .slice A0_1 l0_1.length c0_1]) (t := 28) ?hr ?_; (case hd => rfl); (case hg => rfl); (case hr => first | (go_simp; done) | (go_simp; rfl)); intro gb48001 hg w3 hbox hb; have BK48001 := aQ (hbox); have GW48001 := aQ ((by rw [hg]; exact (below_size (pB HB.out)) : w.heap.size ≤ gb48001)); have GE48001 := aQ ((by rw [hg]; exact (below_size (pB HB.out)) : w.heap.size ≤ gb48001)); replace HB := aQ (below_step (pB HB.out) hb); clear hb hbox hg))
 go_loopg [5, 6] k (fun kq v5 v6 w' => ∃ (x5_1 : Int) (x6_1 : Int), v5 = .int .i64 x5_1 ∧ v6 = .int .i64 x6_1 ∧ Aside0 (spec_l5Rank.l0 kq a1 x5_1 x6_1 a0_0 l0_1 = some r) ∧ Aside0 (kq ≤ k) ∧ Aside0 (w'.heap[gb48001]? = some (.cells #[.int .i64 a0_0, (.slice A0_1 l0_1.length c0_1)] 28 (0, 0))) ∧ Aside0 (Below w.heap.size w w'))
 case atStart => exact ⟨(0), (0), rs_, rs_, H', ⟨Nat.le_refl _⟩, ⟨pk BK48001.out⟩, ⟨pB1 HB.out GE48001.out⟩⟩
 case round =>
  clear H'
  try clear p2
  obtain ⟨x5_1, x6_1, rfl, rfl, HA, HK1, BK48001, HB⟩ := hrel
  cases gk with
  | zero => exact absurd HA.out (by simp [spec_l5Rank.l0])
  | succ k1 =>
   have H := HA.out
   clear HA
   simp only [spec_l5Rank.l0] at H
   by_cases c4 : x6_1 < (l0_1.length : Int)
   ·rw [if_pos c4] at H
    have c4b0 : decide (x6_1 < (l0_1.length : Int)) = true := decide_eq_true c4
    clear c4
    by_cases c5 : 0 ≤ x6_1
    ·rw [if_pos c5] at H
     have c5b0 : decide (0 ≤ x6_1) = true := decide_eq_true c5
     clear c5
     replace H := Option.bind_eq_some_iff.mp H
     obtain ⟨t48003, A60, H⟩ := H
     replace H : ((spec_l1Max.f x5_1 t48003).bind fun t48004 => (spec_l5Rank.l0 k1 a1 t48004 (wrap64 (x6_1 + 1)) a0_0 l0_1)) = some r := H
     have A6 := aQ A60
     clear A60
     replace H := Option.bind_eq_some_iff.mp H
     obtain ⟨t48004, A70, H⟩ := H
     replace H : (spec_l5Rank.l0 k1 a1 t48004 (wrap64 (x6_1 + 1)) a0_0 l0_1) = some r := H
     have A7 := aQ A70
     clear A70
     have H' := aQ H
     clear H
     have hcz8_0 := bc (v := (.int .i64 a0_0)) BK48001.out 0
     have hcz8_1 := bc (v := (.slice A0_1 l0_1.length c0_1)) BK48001.out 1
     have hfz8_0 := blk_frozen BK48001.out 0
     have hfz8_1 := blk_frozen BK48001.out 1
     have p48002 : 0 ≤ (x6_1 : Int) := of_decide_eq_true as_
     have q48002 : x6_1 < (l0_1.length : Int) := of_decide_eq_true as_
     obtain ⟨ad48002, e48002, hx48002_0⟩ := Kd.at_int HR0_1.out x6_1 p48002 q48002
     cases e48002
     replace hx48002_0 := (HB.out.cell (World.block_lt_of_cell? w _ hx48002_0)).trans hx48002_0
     replace p48002 := eq_true p48002
     replace q48002 := eq_true q48002
     go_wp2_with (first | ((with_reducible refine gate_callee (f := 71) rfl ?_); refine goesL_ (some 22) rfl rfl Try.func71 (by kernel_rfl) rfl #[.int .i64 (Go.bits .and .i64 (rd l0_1 x6_1) a1)] rfl lm ?_; (with_reducible refine (spec_CountOf.calls k1 (Go.bits .and .i64 (rd l0_1 x6_1) a1) t48003 _ A6.out).mono ?_); rintro e w' ⟨rfl, ⟨nd, rfl⟩⟩; refine ⟨_, rfl, ?_⟩) | ((with_reducible refine gate_callee (f := 70) rfl ?_); refine goesL_ (some 23) rfl rfl Try.func70 (by kernel_rfl) rfl #[.int .i64 x5_1, .int .i64 t48003] rfl lm ?_; (with_reducible refine (spec_l1Max.calls x5_1 t48003 t48004 _ A7.out).mono ?_); rintro e w' ⟨rfl, ⟨nd, rfl⟩⟩; refine ⟨_, rfl, ?_⟩))
     go_roundg k1
     case measure => have := HK1.out; omega
     case rel => exact ⟨(t48004), (wrap64 (x6_1 + 1)), rs_, rs_, H', ⟨by have := HK1.out; omega⟩, ⟨pk BK48001.out⟩, ⟨pB1 HB.out GE48001.out⟩⟩
    ·rw [if_neg c5] at H
     exact absurd H (by simp)
   ·rw [if_neg c4] at H
    have c4b0 : decide (x6_1 < (l0_1.length : Int)) = false := decide_eq_false c4
    clear c4
    obtain rfl := Option.some.inj H
    have hcz9_0 := bc (v := (.int .i64 a0_0)) BK48001.out 0
    have hcz9_1 := bc (v := (.slice A0_1 l0_1.length c0_1)) BK48001.out 1
    have hfz9_0 := blk_frozen BK48001.out 0
    have hfz9_1 := blk_frozen BK48001.out 1
    go_wp2
    go_ret
    exact ⟨re_, pB1 HB.out GE48001.out⟩
/-! ### spec_l5Closure: function 43 -/
def spec_l5Closure.l0 : Nat → Int → Int → Int → Int → Int → List Int → Option (Int)
 | 0, _, _, _, _, _, _ => none
 | k + 1, x1, x5, x6, x7, x44002000, x44002001 => if x7 < x44002000 then (if 0 ≤ (IntKind.u64.wrap (x7)) then ((spec_l5Rank.f k x44002000 x44002001 (Go.bits .or .i64 x1 (shl .i64 1 (IntKind.u64.wrap (x7))))).bind fun t44003 => (if t44003 = x6 then (spec_l5Closure.l0 k x1 (Go.bits .or .i64 x5 (shl .i64 1 (IntKind.u64.wrap (x7)))) x6 (wrap64 (x7 + 1)) x44002000 x44002001) else (spec_l5Closure.l0 k x1 x5 x6 (wrap64 (x7 + 1)) x44002000 x44002001))) else (none)) else (some x5)
def spec_l5Closure.f (k : Nat) (a0_0 : Int) (l0_1 : List Int) (a1 : Int) : Option (Int) := (spec_l5Rank.f k a0_0 l0_1 a1).bind fun t44002 => (spec_l5Closure.l0 k a1 a1 t44002 0 a0_0 l0_1)
theorem spec_l5Closure.mono_l : ∀ k, (∀ y0 y1 y2 y3 y4 y5, LeO (spec_l5Closure.l0 k y0 y1 y2 y3 y4 y5) (spec_l5Closure.l0 (k + 1) y0 y1 y2 y3 y4 y5))
 | 0 => fun _ _ _ _ _ _ r h => by simp [spec_l5Closure.l0] at h
 | k + 1 => by
  have ih0 := spec_l5Closure.mono_l k
  ·intro y0 y1 y2 y3 y4 y5
   unfold spec_l5Closure.l0
   repeat' first
   | (with_reducible exact ih0 _ _ _ _ _ _)
   | (with_reducible exact spec_l5Rank.mono _ _ _ _)
   | (with_reducible exact LeO.refl _)
   | (with_reducible exact LeO.none _)
   | (with_reducible refine LeO.ite ?_ ?_)
   | (with_reducible refine LeO.bind ?_ (fun _ => ?_))
   | exact ih0 _ _ _ _ _ _
   | exact spec_l5Rank.mono _ _ _ _
   | exact LeO.none _
   | refine LeO.ite ?_ ?_
   | refine LeO.bind ?_ (fun _ => ?_)
theorem spec_l5Closure.mono : ∀ a0 a1 a2 k, LeO (spec_l5Closure.f k a0 a1 a2) (spec_l5Closure.f (k + 1) a0 a1 a2) := by
 intro a0 a1 a2 k
 have ih0 := spec_l5Closure.mono_l k
 unfold spec_l5Closure.f
 repeat' first
   | (with_reducible exact ih0 _ _ _ _ _ _)
   | (with_reducible exact spec_l5Rank.mono _ _ _ _)
   | (with_reducible exact LeO.refl _)
   | (with_reducible exact LeO.none _)
   | (with_reducible refine LeO.ite ?_ ?_)
   | (with_reducible refine LeO.bind ?_ (fun _ => ?_))
   | exact ih0 _ _ _ _ _ _
   | exact spec_l5Rank.mono _ _ _ _
   | exact LeO.none _
   | refine LeO.ite ?_ ?_
   | refine LeO.bind ?_ (fun _ => ?_)
set_option maxHeartbeats 8000000 in
set_option maxRecDepth 100000 in
theorem spec_l5Closure.calls (k : Nat) (a0_0 : Int) (A0_1 : Option Addr) (c0_1 : Nat) (l0_1 : List Int) (a1 : Int) (r : Int) (w : World) (hr0_1 : Kd.C (Kd.int .i64) w A0_1 l0_1.length l0_1) (hc0_1 : l0_1.length ≤ c0_1) (h : spec_l5Closure.f k a0_0 l0_1 a1 = some r) :
  Calls Try.prog 43 #[.agg #[.int .i64 a0_0, .slice A0_1 l0_1.length c0_1], .int .i64 a1] w fun e w' => e = .returned (.int .i64 r) ∧ Below w.heap.size w w' := by
 have hu28 := Try.underlying28
 have HR0_1 := aQ hr0_1
 have HC0_1 := aQ hc0_1
 clear hr0_1 hc0_1
 have HB := aQ (Below.refl w.heap.size w)
 have H : ((spec_l5Rank.f k a0_0 l0_1 a1).bind fun t44002 => (spec_l5Closure.l0 k a1 a1 t44002 0 a0_0 l0_1)) = some r := h
 clear h
 replace H := Option.bind_eq_some_iff.mp H
 obtain ⟨t44002, A30, H⟩ := H
 replace H : (spec_l5Closure.l0 k a1 a1 t44002 0 a0_0 l0_1) = some r := H
 have A3 := aQ A30
 clear A30
 have H' := aQ H
 clear H
 go_enter Try.func43, Try.ntmps43
 go_wp2_with (first | ((with_reducible refine gate_dst (N := 2) rfl ?_); refine box_event ?hg (N := 2) ?hd (cs := #[.int .i64 a0_0, .slice A0_1 l0_1.length c0_1]) (t := 28) ?hr ?_; (case hd => rfl); (case hg => rfl); (case hr => first | (go_simp; done) | (go_simp; rfl)); intro gb44001 hg w4 hbox hb; have BK44001 := aQ (hbox); have GW44001 := aQ ((by rw [hg]; exact (below_size (pB HB.out)) : w.heap.size ≤ gb44001)); have GE44001 := aQ ((by rw [hg]; exact (below_size (pB HB.out)) : w.heap.size ≤ gb44001)); replace HB := aQ (below_step (pB HB.out) hb); clear hb hbox hg; have hcz5_0 := bc (v := (.int .i64 a0_0)) BK44001.out 0; have hcz5_1 := bc (v := (.slice A0_1 l0_1.length c0_1)) BK44001.out 1; have hfz5_0 := blk_frozen BK44001.out 0; have hfz5_1 := blk_frozen BK44001.out 1) | ((with_reducible refine gate_callee (f := 47) rfl ?_); refine goesL_ (some 11) rfl rfl Try.func47 (by kernel_rfl) rfl #[.agg #[.int .i64 a0_0, .slice A0_1 l0_1.length c0_1], .int .i64 a1] rfl lm ?_; (with_reducible refine (spec_l5Rank.calls k a0_0 _ _ l0_1 a1 t44002 _ ?side1 ?side2 A3.out).mono ?_); (case side1 => exact pC (Kd.C_below HR0_1.out HB.out)); (case side2 => exact HC0_1.out); rintro e w6 ⟨rfl, hb⟩; refine ⟨_, rfl, ?_⟩; replace BK44001 := aQ (blk_below (g := gb44001) (o := .cells #[.int .i64 a0_0, .slice A0_1 l0_1.length c0_1] 28 (0, 0)) (pk BK44001.out) hb); replace HB := aQ (below_step (pB1 HB.out GE44001.out) hb); (try clear hb)))
 go_loopg [5, 7] k (fun kq v5 v7 w' => ∃ (x5_1 : Int) (x7_1 : Int), v5 = .int .i64 x5_1 ∧ v7 = .int .i64 x7_1 ∧ Aside0 (spec_l5Closure.l0 kq a1 x5_1 t44002 x7_1 a0_0 l0_1 = some r) ∧ Aside0 (kq ≤ k) ∧ Aside0 (w'.heap[gb44001]? = some (.cells #[.int .i64 a0_0, (.slice A0_1 l0_1.length c0_1)] 28 (0, 0))) ∧ Aside0 (Below w.heap.size w w'))
 case atStart => exact ⟨(a1), (0), rs_, rs_, H', ⟨Nat.le_refl _⟩, ⟨pk BK44001.out⟩, ⟨pB1 HB.out GE44001.out⟩⟩
 case round =>
  clear H'
  try clear p2
  try clear c4
  try clear hcz5_0
  try clear hcz5_1
  try clear hfz5_0
  try clear hfz5_1
  obtain ⟨x5_1, x7_1, rfl, rfl, HA, HK1, BK44001, HB⟩ := hrel
  cases gk with
  | zero => exact absurd HA.out (by simp [spec_l5Closure.l0])
  | succ k1 =>
   have H := HA.out
   clear HA
   simp only [spec_l5Closure.l0] at H
   by_cases c7 : x7_1 < a0_0
   ·rw [if_pos c7] at H
    have c7b0 : decide (x7_1 < a0_0) = true := decide_eq_true c7
    clear c7
    obtain ⟨ji8, hji8⟩ : ∃ j_ : Int, (IntKind.u64.wrap (x7_1)) = j_ := ⟨_, rfl⟩
    replace H : (if 0 ≤ (ji8) then ((spec_l5Rank.f k1 a0_0 l0_1 (Go.bits .or .i64 a1 (shl .i64 1 (ji8)))).bind fun t44003 => (if t44003 = t44002 then (spec_l5Closure.l0 k1 a1 (Go.bits .or .i64 x5_1 (shl .i64 1 (ji8))) t44002 (wrap64 (x7_1 + 1)) a0_0 l0_1) else (spec_l5Closure.l0 k1 a1 x5_1 t44002 (wrap64 (x7_1 + 1)) a0_0 l0_1))) else (none)) = some r := by first | (rw [hji8] at H; exact H) | (simp only [hji8] at H ⊢; exact H)
    by_cases c9 : 0 ≤ (ji8)
    ·rw [if_pos c9] at H
     have c9b0 := eq_true c9
     have c9b1 : decide (0 ≤ (ji8)) = true := decide_eq_true c9
     clear c9
     obtain ⟨ji10, hji10⟩ : ∃ j_ : Int, (shl .i64 1 (ji8)) = j_ := ⟨_, rfl⟩
     replace H : ((spec_l5Rank.f k1 a0_0 l0_1 (Go.bits .or .i64 a1 (ji10))).bind fun t44003 => (if t44003 = t44002 then (spec_l5Closure.l0 k1 a1 (Go.bits .or .i64 x5_1 (ji10)) t44002 (wrap64 (x7_1 + 1)) a0_0 l0_1) else (spec_l5Closure.l0 k1 a1 x5_1 t44002 (wrap64 (x7_1 + 1)) a0_0 l0_1))) = some r := by first | (rw [hji10] at H; exact H) | (simp only [hji10] at H ⊢; exact H)
     have hji10_ : (IntKind.i64.wrap (1 * 2 ^ min (ji8).toNat 64)) = ji10 := hji10
     have hji10z : (ji8) ≤ 64 → (IntKind.i64.wrap (1 * 2 ^ (ji8).toNat)) = ji10 := shl_small hji10
     have hji10u : (IntKind.i64.wrap (2 ^ min (ji8).toNat 64)) = ji10 := by have h_ := hji10_; rw [Int.one_mul] at h_; exact h_
     have hji10v : (ji8) ≤ 64 → (IntKind.i64.wrap (2 ^ (ji8).toNat)) = ji10 := fun hle_ => by have h_ := hji10z hle_; rw [Int.one_mul] at h_; exact h_
     have hji10y : (wrap64 (1 * 2 ^ min (ji8).toNat 64)) = ji10 := (i64_w _).symm.trans hji10_
     have hji10x : (ji8) ≤ 64 → (wrap64 (1 * 2 ^ (ji8).toNat)) = ji10 := fun h_ => (i64_w _).symm.trans (hji10z h_)
     replace H := Option.bind_eq_some_iff.mp H
     obtain ⟨t44003, A110, H⟩ := H
     replace H : (if t44003 = t44002 then (spec_l5Closure.l0 k1 a1 (Go.bits .or .i64 x5_1 (ji10)) t44002 (wrap64 (x7_1 + 1)) a0_0 l0_1) else (spec_l5Closure.l0 k1 a1 x5_1 t44002 (wrap64 (x7_1 + 1)) a0_0 l0_1)) = some r := H
     have A11 := aQ A110
     clear A110
     by_cases c12 : t44003 = t44002
     ·rw [if_pos c12] at H
      have c12b0 : (t44003 == t44002) = true := beq_iff_eq.mpr c12
      have c12b1 : (t44003 != t44002) = false := bne_eq_false_iff_eq.mpr c12
      clear c12
      have c13b0 := eq_true (of_decide_eq_true as_ : 0 ≤ (ji8))
      have H' := aQ H
      clear H
      have hcz15_0 := bc (v := (.int .i64 a0_0)) BK44001.out 0
      have hcz15_1 := bc (v := (.slice A0_1 l0_1.length c0_1)) BK44001.out 1
      have hfz15_0 := blk_frozen BK44001.out 0
      have hfz15_1 := blk_frozen BK44001.out 1
      go_wp2_with (first | ((with_reducible refine gate_callee (f := 47) rfl ?_); refine goesL_ (some 24) rfl rfl Try.func47 (by kernel_rfl) rfl #[.agg #[.int .i64 a0_0, .slice A0_1 l0_1.length c0_1], .int .i64 (Go.bits .or .i64 a1 (ji10))] rfl (by (try simp only [List.map_toArray, List.map_cons, List.map_nil]); first | done | (simp only [hji10]; rfl) | rfl | (simp only [List.length_drop, List.length_take]; rfl)) ?_; (with_reducible refine (spec_l5Rank.calls k1 a0_0 _ _ l0_1 (Go.bits .or .i64 a1 (ji10)) t44003 _ ?side1 ?side2 A11.out).mono ?_); (case side1 => exact pC (Kd.C_below HR0_1.out HB.out)); (case side2 => exact HC0_1.out); rintro e w16 ⟨rfl, hb⟩; refine ⟨_, rfl, ?_⟩; replace BK44001 := aQ (blk_below (g := gb44001) (o := .cells #[.int .i64 a0_0, .slice A0_1 l0_1.length c0_1] 28 (0, 0)) (pk BK44001.out) hb); replace HB := aQ (below_step (pB1 HB.out GE44001.out) hb); (try clear hb)))
      go_roundg k1
      case measure => have := HK1.out; omega
      case rel => exact ⟨(Go.bits .or .i64 x5_1 (ji10)), (wrap64 (x7_1 + 1)), (by first | rfl | (simp; done) | (simp only [← hji10] <;> (first | rfl | simp)) | (simp [*]; done)), rs_, H', ⟨by have := HK1.out; omega⟩, ⟨pk BK44001.out⟩, ⟨pB1 HB.out GE44001.out⟩⟩
     ·rw [if_neg c12] at H
      have c12b0 : (t44003 == t44002) = false := beq_eq_false_iff_ne.mpr c12
      have c12b1 : (t44003 != t44002) = true := bne_iff_ne.mpr c12
      have H' := aQ H
      clear H
      have hcz17_0 := bc (v := (.int .i64 a0_0)) BK44001.out 0
      have hcz17_1 := bc (v := (.slice A0_1 l0_1.length c0_1)) BK44001.out 1
      have hfz17_0 := blk_frozen BK44001.out 0
      have hfz17_1 := blk_frozen BK44001.out 1
      go_wp2_with (first | ((with_reducible refine gate_callee (f := 47) rfl ?_); refine goesL_ (some 24) rfl rfl Try.func47 (by kernel_rfl) rfl #[.agg #[.int .i64 a0_0, .slice A0_1 l0_1.length c0_1], .int .i64 (Go.bits .or .i64 a1 (ji10))] rfl (by (try simp only [List.map_toArray, List.map_cons, List.map_nil]); first | done | (simp only [hji10]; rfl) | rfl | (simp only [List.length_drop, List.length_take]; rfl)) ?_; (with_reducible refine (spec_l5Rank.calls k1 a0_0 _ _ l0_1 (Go.bits .or .i64 a1 (ji10)) t44003 _ ?side1 ?side2 A11.out).mono ?_); (case side1 => exact pC (Kd.C_below HR0_1.out HB.out)); (case side2 => exact HC0_1.out); rintro e w18 ⟨rfl, hb⟩; refine ⟨_, rfl, ?_⟩; replace BK44001 := aQ (blk_below (g := gb44001) (o := .cells #[.int .i64 a0_0, .slice A0_1 l0_1.length c0_1] 28 (0, 0)) (pk BK44001.out) hb); replace HB := aQ (below_step (pB1 HB.out GE44001.out) hb); (try clear hb)))
      go_roundg k1
      case measure => have := HK1.out; omega
      case rel => exact ⟨(x5_1), (wrap64 (x7_1 + 1)), rs_, rs_, H', ⟨by have := HK1.out; omega⟩, ⟨pk BK44001.out⟩, ⟨pB1 HB.out GE44001.out⟩⟩
    ·rw [if_neg c9] at H
     exact absurd H (by simp)
   ·rw [if_neg c7] at H
    have c7b0 : decide (x7_1 < a0_0) = false := decide_eq_false c7
    clear c7
    obtain rfl := Option.some.inj H
    have hcz19_0 := bc (v := (.int .i64 a0_0)) BK44001.out 0
    have hcz19_1 := bc (v := (.slice A0_1 l0_1.length c0_1)) BK44001.out 1
    have hfz19_0 := blk_frozen BK44001.out 0
    have hfz19_1 := blk_frozen BK44001.out 1
    go_wp2
    go_ret
    exact ⟨re_, pB1 HB.out GE44001.out⟩
end Go.Proofs.Ytbdloopelidneaa.A
