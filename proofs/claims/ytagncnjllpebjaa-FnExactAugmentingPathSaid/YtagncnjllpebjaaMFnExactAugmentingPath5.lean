/- Machine side of the law FnExactAugmentingPath: Go functions as Lean functions, and proofs that calls come to what these tell. Conditions: those in each theorem. -/
import Derived.Test.YtagncnjllpebjaaMFnExactAugmentingPath0
import Derived.Test.YtagncnjllpebjaaMFnExactAugmentingPath2
namespace Go.Proofs.Ytagncnjllpebjaa.A
open Go.RowKit Go.Proofs.YtagncnjllpebjaaW.PrintWords Go.Proofs.YtagncnjllpebjaaW.PrintLast Go.Proofs.YtagncnjllpebjaaW.PrintMore
attribute [local go_sem] max2_int min2_int max_two min_two max_three min_three max_four min_four
set_option linter.unusedVariables false
set_option linter.unusedSimpArgs false
/-! ### impl_IsSubset: function 135 -/
def impl_IsSubset.f (a0 : Int) (a1 : Int) : Option (Bool) := (impl_isAny.f a0).bind fun t136001 => (if t136001 = true then ((impl_isAny.f a1).bind fun t136002 => (if t136002 = true then (some ((Go.bits .andNot .i64 a0 a1) == 0)) else (some false))) else (some false))
set_option maxHeartbeats 8000000 in
set_option maxRecDepth 100000 in
theorem impl_IsSubset.calls (a0 : Int) (a1 : Int) (r : Bool) (w : World) (h : impl_IsSubset.f a0 a1 = some r) :
  Calls Try.prog 135 #[.int .i64 a0, .int .i64 a1] w fun e w' => e = .returned (.bool r) ∧ Drawn0 w w' := by
 have H : ((impl_isAny.f a0).bind fun t136001 => (if t136001 = true then ((impl_isAny.f a1).bind fun t136002 => (if t136002 = true then (some ((Go.bits .andNot .i64 a0 a1) == 0)) else (some false))) else (some false))) = some r := h
 clear h
 replace H := Option.bind_eq_some_iff.mp H
 obtain ⟨t136001, A30, H⟩ := H
 replace H : (if t136001 = true then ((impl_isAny.f a1).bind fun t136002 => (if t136002 = true then (some ((Go.bits .andNot .i64 a0 a1) == 0)) else (some false))) else (some false)) = some r := H
 have A3 := aQ A30
 clear A30
 by_cases c4 : t136001 = true
 ·subst c4
  have H1 : ((impl_isAny.f a1).bind fun t136002 => (if t136002 = true then (some ((Go.bits .andNot .i64 a0 a1) == 0)) else (some false))) = some r := by rw [if_pos rfl] at H; exact H
  clear H
  have H := H1
  clear H1
  replace H := Option.bind_eq_some_iff.mp H
  obtain ⟨t136002, A50, H⟩ := H
  replace H : (if t136002 = true then (some ((Go.bits .andNot .i64 a0 a1) == 0)) else (some false)) = some r := H
  have A5 := aQ A50
  clear A50
  by_cases c6 : t136002 = true
  ·subst c6
   have H1 : (some ((Go.bits .andNot .i64 a0 a1) == 0)) = some r := by rw [if_pos rfl] at H; exact H
   clear H
   have H := H1
   clear H1
   obtain rfl := Option.some.inj H
   go_enter Try.func135, Try.ntmps135
   go_wp2_with (first | ((with_reducible refine gate_callee (f := 133) rfl ?_); refine goesL_ (some 6) rfl rfl Try.func133 (by kernel_rfl) rfl #[.int .i64 a0] rfl lm ?_; (with_reducible refine (impl_isAny.calls a0 true _ A3.out).mono ?_); rintro e w' ⟨rfl, ⟨nd, rfl⟩⟩; refine ⟨_, rfl, ?_⟩) | (go_at_call 133; (with_reducible refine (impl_isAny.calls a1 true _ A5.out).mono ?_); rintro e w' ⟨rfl, ⟨nd, rfl⟩⟩))
   go_ret
   exact ⟨rs_, rd_⟩
  ·replace c6 := Bool.eq_false_iff.mpr c6
   subst c6
   have H1 : (some false) = some r := by rw [if_neg (show ¬ (false = true) by decide)] at H; exact H
   clear H
   have H := H1
   clear H1
   obtain rfl := Option.some.inj H
   go_enter Try.func135, Try.ntmps135
   go_wp2_with (first | ((with_reducible refine gate_callee (f := 133) rfl ?_); refine goesL_ (some 6) rfl rfl Try.func133 (by kernel_rfl) rfl #[.int .i64 a0] rfl lm ?_; (with_reducible refine (impl_isAny.calls a0 true _ A3.out).mono ?_); rintro e w' ⟨rfl, ⟨nd, rfl⟩⟩; refine ⟨_, rfl, ?_⟩) | (go_at_call 133; (with_reducible refine (impl_isAny.calls a1 false _ A5.out).mono ?_); rintro e w' ⟨rfl, ⟨nd, rfl⟩⟩))
   go_ret
   exact ⟨rs_, rd_⟩
 ·replace c4 := Bool.eq_false_iff.mpr c4
  subst c4
  have H1 : (some false) = some r := by rw [if_neg (show ¬ (false = true) by decide)] at H; exact H
  clear H
  have H := H1
  clear H1
  obtain rfl := Option.some.inj H
  go_enter Try.func135, Try.ntmps135
  go_wp2_with (first | ((with_reducible refine gate_callee (f := 133) rfl ?_); refine goesL_ (some 6) rfl rfl Try.func133 (by kernel_rfl) rfl #[.int .i64 a0] rfl lm ?_; (with_reducible refine (impl_isAny.calls a0 false _ A3.out).mono ?_); rintro e w' ⟨rfl, ⟨nd, rfl⟩⟩; refine ⟨_, rfl, ?_⟩))
  go_ret
  exact ⟨rs_, rd_⟩
/-! ### impl_independent: function 65 -/
def impl_independent.l0 : Nat → Int → List Int → Int → Int → Option (Bool)
 | 0, _, _, _, _ => none
 | k + 1, x1, x8, x9, x10 => if x10 < x9 then (if 0 ≤ x10 then (if x10 < (x8.length : Int) then ((impl_IsSubset.f x1 (rd x8 x10)).bind fun t66003 => (if t66003 = true then (some true) else (impl_independent.l0 k x1 x8 x9 (wrap64 (x10 + 1))))) else (none)) else (none)) else (some false)
def impl_independent.f (k : Nat) (a0_0 : Int) (l0_1 : List Int) (a1 : Int) : Option (Bool) := impl_independent.l0 k a1 l0_1 (l0_1.length : Int) 0
theorem impl_independent.mono_l : ∀ k, (∀ y0 y1 y2 y3, LeO (impl_independent.l0 k y0 y1 y2 y3) (impl_independent.l0 (k + 1) y0 y1 y2 y3))
 | 0 => fun _ _ _ _ r h => by simp [impl_independent.l0] at h
 | k + 1 => by
  have ih0 := impl_independent.mono_l k
  ·intro y0 y1 y2 y3
   unfold impl_independent.l0
   repeat' first
   | (with_reducible exact ih0 _ _ _ _)
   | (with_reducible exact LeO.refl _)
   | (with_reducible exact LeO.none _)
   | (with_reducible refine LeO.ite ?_ ?_)
   | (with_reducible refine LeO.bind ?_ (fun _ => ?_))
   | exact ih0 _ _ _ _
   | exact LeO.none _
   | refine LeO.ite ?_ ?_
   | refine LeO.bind ?_ (fun _ => ?_)
theorem impl_independent.mono : ∀ a0 a1 a2 k, LeO (impl_independent.f k a0 a1 a2) (impl_independent.f (k + 1) a0 a1 a2) := by
 intro a0 a1 a2 k
 have ih0 := impl_independent.mono_l k
 unfold impl_independent.f
 repeat' first
   | (with_reducible exact ih0 _ _ _ _)
   | (with_reducible exact LeO.refl _)
   | (with_reducible exact LeO.none _)
   | (with_reducible refine LeO.ite ?_ ?_)
   | (with_reducible refine LeO.bind ?_ (fun _ => ?_))
   | exact ih0 _ _ _ _
   | exact LeO.none _
   | refine LeO.ite ?_ ?_
   | refine LeO.bind ?_ (fun _ => ?_)
set_option maxHeartbeats 8000000 in
set_option maxRecDepth 100000 in
theorem impl_independent.calls (k : Nat) (a0_0 : Int) (A0_1 : Option Addr) (c0_1 : Nat) (l0_1 : List Int) (a1 : Int) (r : Bool) (w : World) (hr0_1 : Kd.C (Kd.int .i64) w A0_1 l0_1.length l0_1) (hc0_1 : l0_1.length ≤ c0_1) (h : impl_independent.f k a0_0 l0_1 a1 = some r) :
  Calls Try.prog 65 #[.agg #[.int .i64 a0_0, .slice A0_1 l0_1.length c0_1], .int .i64 a1] w fun e w' => e = .returned (.bool r) ∧ Below w.heap.size w w' := by
 have hu26 := Try.underlying26
 have HR0_1 := aQ hr0_1
 have HC0_1 := aQ hc0_1
 clear hr0_1 hc0_1
 have HB := aQ (Below.refl w.heap.size w)
 have H : (impl_independent.l0 k a1 l0_1 (l0_1.length : Int) 0) = some r := h
 clear h
 have H' := aQ H
 clear H
 go_enter Try.func65, Try.ntmps65
 go_wp2_with (first | ((with_reducible refine gate_dst (N := 2) rfl ?_); refine box_event ?hg (N := 2) ?hd (cs := #[.int .i64 a0_0, .slice A0_1 l0_1.length c0_1]) (t := 26) ?hr ?_; (case hd => rfl); (case hg => rfl); (case hr => first | (go_simp; done) | (go_simp; rfl)); intro gb66001 hg w3 hbox hb; have BK66001 := aQ (hbox); have GW66001 := aQ ((by rw [hg]; exact (below_size (pB HB.out)) : w.heap.size ≤ gb66001)); have GE66001 := aQ ((by rw [hg]; exact (below_size (pB HB.out)) : w.heap.size ≤ gb66001)); replace HB := aQ (below_step (pB HB.out) hb); clear hb hbox hg; have hcz4_0 := bc (v := (.int .i64 a0_0)) BK66001.out 0; have hcz4_1 := bc (v := (.slice A0_1 l0_1.length c0_1)) BK66001.out 1; have hfz4_0 := blk_frozen BK66001.out 0; have hfz4_1 := blk_frozen BK66001.out 1))
 go_loopg [10] k (fun kq v10 w' => ∃ (x10_1 : Int), v10 = .int .i64 x10_1 ∧ Aside0 (impl_independent.l0 kq a1 l0_1 (l0_1.length : Int) x10_1 = some r) ∧ Aside0 (kq ≤ k) ∧ Aside0 (w'.heap[gb66001]? = some (.cells #[.int .i64 a0_0, (.slice A0_1 l0_1.length c0_1)] 26 (0, 0))) ∧ Aside0 (Below w.heap.size w w'))
 case atStart => exact ⟨(0), rs_, H', ⟨Nat.le_refl _⟩, ⟨pk BK66001.out⟩, ⟨pB1 HB.out GE66001.out⟩⟩
 case round =>
  clear H'
  try clear p2
  try clear hcz4_0
  try clear hcz4_1
  try clear hfz4_0
  try clear hfz4_1
  obtain ⟨x10_1, rfl, HA, HK1, BK66001, HB⟩ := hrel
  cases gk with
  | zero => exact absurd HA.out (by simp [impl_independent.l0])
  | succ k1 =>
   have H := HA.out
   clear HA
   simp only [impl_independent.l0] at H
   by_cases c5 : x10_1 < (l0_1.length : Int)
   ·rw [if_pos c5] at H
    have c5b0 : decide (x10_1 < (l0_1.length : Int)) = true := decide_eq_true c5
    clear c5
    by_cases c6 : 0 ≤ x10_1
    ·rw [if_pos c6] at H
     have c6b0 : decide (0 ≤ x10_1) = true := decide_eq_true c6
     clear c6
     by_cases c7 : x10_1 < (l0_1.length : Int)
     ·rw [if_pos c7] at H
      have c7b0 : decide (x10_1 < (l0_1.length : Int)) = true := decide_eq_true c7
      clear c7
      replace H := Option.bind_eq_some_iff.mp H
      obtain ⟨t66003, A80, H⟩ := H
      replace H : (if t66003 = true then (some true) else (impl_independent.l0 k1 a1 l0_1 (l0_1.length : Int) (wrap64 (x10_1 + 1)))) = some r := H
      have A8 := aQ A80
      clear A80
      by_cases c9 : t66003 = true
      ·subst c9
       have H1 : (some true) = some r := by rw [if_pos rfl] at H; exact H
       clear H
       have H := H1
       clear H1
       obtain rfl := Option.some.inj H
       have p66002 : 0 ≤ (x10_1 : Int) := of_decide_eq_true as_
       have q66002 : x10_1 < (l0_1.length : Int) := of_decide_eq_true as_
       obtain ⟨ad66002, e66002, hx66002_0⟩ := Kd.at_int HR0_1.out x10_1 p66002 q66002
       cases e66002
       replace hx66002_0 := (HB.out.cell (World.block_lt_of_cell? w _ hx66002_0)).trans hx66002_0
       replace p66002 := eq_true p66002
       replace q66002 := eq_true q66002
       go_wp2_with (first | ((with_reducible refine gate_callee (f := 135) rfl ?_); refine goesL_ (some 16) rfl rfl Try.func135 (by kernel_rfl) rfl #[.int .i64 a1, .int .i64 (rd l0_1 x10_1)] rfl lm ?_; (with_reducible refine (impl_IsSubset.calls a1 (rd l0_1 x10_1) true _ A8.out).mono ?_); rintro e w' ⟨rfl, ⟨nd, rfl⟩⟩; refine ⟨_, rfl, ?_⟩))
       go_ret
       exact ⟨re_, pB1 HB.out GE66001.out⟩
      ·replace c9 := Bool.eq_false_iff.mpr c9
       subst c9
       have H1 : (impl_independent.l0 k1 a1 l0_1 (l0_1.length : Int) (wrap64 (x10_1 + 1))) = some r := by rw [if_neg (show ¬ (false = true) by decide)] at H; exact H
       clear H
       have H := H1
       clear H1
       have H' := aQ H
       clear H
       have p66002 : 0 ≤ (x10_1 : Int) := of_decide_eq_true as_
       have q66002 : x10_1 < (l0_1.length : Int) := of_decide_eq_true as_
       obtain ⟨ad66002, e66002, hx66002_0⟩ := Kd.at_int HR0_1.out x10_1 p66002 q66002
       cases e66002
       replace hx66002_0 := (HB.out.cell (World.block_lt_of_cell? w _ hx66002_0)).trans hx66002_0
       replace p66002 := eq_true p66002
       replace q66002 := eq_true q66002
       go_wp2_with (first | ((with_reducible refine gate_callee (f := 135) rfl ?_); refine goesL_ (some 16) rfl rfl Try.func135 (by kernel_rfl) rfl #[.int .i64 a1, .int .i64 (rd l0_1 x10_1)] rfl lm ?_; (with_reducible refine (impl_IsSubset.calls a1 (rd l0_1 x10_1) false _ A8.out).mono ?_); rintro e w' ⟨rfl, ⟨nd, rfl⟩⟩; refine ⟨_, rfl, ?_⟩))
       go_roundg k1
       case measure => have := HK1.out; omega
       case rel => exact ⟨(wrap64 (x10_1 + 1)), rs_, H', ⟨by have := HK1.out; omega⟩, ⟨pk BK66001.out⟩, ⟨pB1 HB.out GE66001.out⟩⟩
     ·rw [if_neg c7] at H
      exact absurd H (by simp)
    ·rw [if_neg c6] at H
     exact absurd H (by simp)
   ·rw [if_neg c5] at H
    have c5b0 : decide (x10_1 < (l0_1.length : Int)) = false := decide_eq_false c5
    clear c5
    obtain rfl := Option.some.inj H
    go_wp2
    go_ret
    exact ⟨re_, pB1 HB.out GE66001.out⟩
/-! ### impl_together: function 136 -/
def impl_together.f (k : Nat) (a0_0 : Int) (l0_1 : List Int) (a1_0 : Int) (l1_1 : List Int) : Option (Bool) := (impl_IsMatroid.f k a0_0 l0_1).bind fun t137003 => (if t137003 = true then ((impl_IsMatroid.f k a1_0 l1_1).bind fun t137004 => (if t137004 = true then (some (a0_0 == a1_0)) else (some false))) else (some false))
theorem impl_together.mono : ∀ a0 a1 a2 a3 k, LeO (impl_together.f k a0 a1 a2 a3) (impl_together.f (k + 1) a0 a1 a2 a3) := by
 intro a0 a1 a2 a3 k
 unfold impl_together.f
 repeat' first
   | (with_reducible exact impl_IsMatroid.mono _ _ _)
   | (with_reducible exact LeO.refl _)
   | (with_reducible exact LeO.none _)
   | (with_reducible refine LeO.ite ?_ ?_)
   | (with_reducible refine LeO.bind ?_ (fun _ => ?_))
   | exact impl_IsMatroid.mono _ _ _
   | exact LeO.none _
   | refine LeO.ite ?_ ?_
   | refine LeO.bind ?_ (fun _ => ?_)
set_option maxHeartbeats 8000000 in
set_option maxRecDepth 100000 in
theorem impl_together.calls (k : Nat) (a0_0 : Int) (A0_1 : Option Addr) (c0_1 : Nat) (l0_1 : List Int) (a1_0 : Int) (A1_1 : Option Addr) (c1_1 : Nat) (l1_1 : List Int) (r : Bool) (w : World) (hr0_1 : Kd.C (Kd.int .i64) w A0_1 l0_1.length l0_1) (hc0_1 : l0_1.length ≤ c0_1) (hr1_1 : Kd.C (Kd.int .i64) w A1_1 l1_1.length l1_1) (hc1_1 : l1_1.length ≤ c1_1) (h : impl_together.f k a0_0 l0_1 a1_0 l1_1 = some r) :
  Calls Try.prog 136 #[.agg #[.int .i64 a0_0, .slice A0_1 l0_1.length c0_1], .agg #[.int .i64 a1_0, .slice A1_1 l1_1.length c1_1]] w fun e w' => e = .returned (.bool r) ∧ Below w.heap.size w w' := by
 have hu26 := Try.underlying26
 have HR0_1 := aQ hr0_1
 have HC0_1 := aQ hc0_1
 clear hr0_1 hc0_1
 have HR1_1 := aQ hr1_1
 have HC1_1 := aQ hc1_1
 clear hr1_1 hc1_1
 have HB := aQ (Below.refl w.heap.size w)
 have H : ((impl_IsMatroid.f k a0_0 l0_1).bind fun t137003 => (if t137003 = true then ((impl_IsMatroid.f k a1_0 l1_1).bind fun t137004 => (if t137004 = true then (some (a0_0 == a1_0)) else (some false))) else (some false))) = some r := h
 clear h
 replace H := Option.bind_eq_some_iff.mp H
 obtain ⟨t137003, A30, H⟩ := H
 replace H : (if t137003 = true then ((impl_IsMatroid.f k a1_0 l1_1).bind fun t137004 => (if t137004 = true then (some (a0_0 == a1_0)) else (some false))) else (some false)) = some r := H
 have A3 := aQ A30
 clear A30
 by_cases c4 : t137003 = true
 ·subst c4
  have H1 : ((impl_IsMatroid.f k a1_0 l1_1).bind fun t137004 => (if t137004 = true then (some (a0_0 == a1_0)) else (some false))) = some r := by rw [if_pos rfl] at H; exact H
  clear H
  have H := H1
  clear H1
  replace H := Option.bind_eq_some_iff.mp H
  obtain ⟨t137004, A50, H⟩ := H
  replace H : (if t137004 = true then (some (a0_0 == a1_0)) else (some false)) = some r := H
  have A5 := aQ A50
  clear A50
  by_cases c6 : t137004 = true
  ·subst c6
   have H1 : (some (a0_0 == a1_0)) = some r := by rw [if_pos rfl] at H; exact H
   clear H
   have H := H1
   clear H1
   obtain rfl := Option.some.inj H
   go_enter Try.func136, Try.ntmps136
   go_wp2_with (first | ((with_reducible refine gate_dst (N := 2) rfl ?_); refine box_event ?hg (N := 2) ?hd (cs := #[.int .i64 a0_0, .slice A0_1 l0_1.length c0_1]) (t := 26) ?hr ?_; (case hd => rfl); (case hg => rfl); (case hr => first | (go_simp; done) | (go_simp; rfl)); intro gb137001 hg w7 hbox hb; have BK137001 := aQ (hbox); have GW137001 := aQ ((by rw [hg]; exact (below_size (pB HB.out)) : w.heap.size ≤ gb137001)); have GE137001 := aQ ((by rw [hg]; exact (below_size (pB HB.out)) : w.heap.size ≤ gb137001)); replace HB := aQ (below_step (pB HB.out) hb); clear hb hbox hg) | ((with_reducible refine gate_dst (N := 3) rfl ?_); refine box_event ?hg (N := 3) ?hd (cs := #[.int .i64 a1_0, .slice A1_1 l1_1.length c1_1]) (t := 26) ?hr ?_; (case hd => rfl); (case hg => rfl); (case hr => first | (go_simp; done) | (go_simp; rfl)); intro gb137002 hg w8 hbox hb; have BK137002 := aQ (hbox); have GW137002 := aQ ((by rw [hg]; exact (below_size (pB1 HB.out GE137001.out)) : w.heap.size ≤ gb137002)); have GE137002 := aQ ((by rw [hg]; exact (below_size (pB1 HB.out GE137001.out)) : w.heap.size ≤ gb137002)); replace HB := aQ (below_step (pB1 HB.out GE137001.out) hb); have NB137001_137002 := aQ ((by rw [hg]; exact Nat.ne_of_lt (blk_lt (g := gb137001) (o := .cells #[.int .i64 a0_0, .slice A0_1 l0_1.length c0_1] 26 (0, 0)) (pk BK137001.out)) : gb137001 ≠ gb137002)); have NB137002_137001 := aQ ((by rw [hg]; exact Nat.ne_of_gt (blk_lt (g := gb137001) (o := .cells #[.int .i64 a0_0, .slice A0_1 l0_1.length c0_1] 26 (0, 0)) (pk BK137001.out)) : gb137002 ≠ gb137001)); replace BK137001 := aQ (blk_below (g := gb137001) (o := .cells #[.int .i64 a0_0, .slice A0_1 l0_1.length c0_1] 26 (0, 0)) (pk BK137001.out) hb); clear hb hbox hg; have hnb9 := NB137001_137002.out; have hnc9 := NB137002_137001.out; have hcz10_0 := bc (v := (.int .i64 a0_0)) BK137001.out 0; have hcz10_1 := bc (v := (.slice A0_1 l0_1.length c0_1)) BK137001.out 1; have hfz10_0 := blk_frozen BK137001.out 0; have hfz10_1 := blk_frozen BK137001.out 1) | ((with_reducible refine gate_callee (f := 60) rfl ?_); refine goesL_ (some 6) rfl rfl Try.func60 (by kernel_rfl) rfl #[.agg #[.int .i64 a0_0, .slice A0_1 l0_1.length c0_1]] rfl lm ?_; (with_reducible refine (impl_IsMatroid.calls k a0_0 _ _ l0_1 true _ ?side1 ?side2 A3.out).mono ?_); (case side1 => exact pC (Kd.C_below HR0_1.out HB.out)); (case side2 => exact HC0_1.out); rintro e w11 ⟨rfl, hb⟩; refine ⟨_, rfl, ?_⟩; replace BK137001 := aQ (blk_below (g := gb137001) (o := .cells #[.int .i64 a0_0, .slice A0_1 l0_1.length c0_1] 26 (0, 0)) (pk BK137001.out) hb); replace BK137002 := aQ (blk_below (g := gb137002) (o := .cells #[.int .i64 a1_0, .slice A1_1 l1_1.length c1_1] 26 (0, 0)) (pk BK137002.out) hb); replace HB := aQ (below_step (pB2 HB.out GE137001.out GE137002.out) hb); (try clear hb); have hcz12_0 := bc (v := (.int .i64 a1_0)) BK137002.out 0; have hcz12_1 := bc (v := (.slice A1_1 l1_1.length c1_1)) BK137002.out 1; have hfz12_0 := blk_frozen BK137002.out 0; have hfz12_1 := blk_frozen BK137002.out 1) | (go_at_call 60; (with_reducible refine (impl_IsMatroid.calls k a1_0 _ _ l1_1 true _ ?side1 ?side2 A5.out).mono ?_); (case side1 => exact pC (Kd.C_below HR1_1.out HB.out)); (case side2 => exact HC1_1.out); rintro e w13 ⟨rfl, hb⟩; replace BK137001 := aQ (blk_below (g := gb137001) (o := .cells #[.int .i64 a0_0, .slice A0_1 l0_1.length c0_1] 26 (0, 0)) (pk BK137001.out) hb); replace BK137002 := aQ (blk_below (g := gb137002) (o := .cells #[.int .i64 a1_0, .slice A1_1 l1_1.length c1_1] 26 (0, 0)) (pk BK137002.out) hb); replace HB := aQ (below_step (pB2 HB.out GE137001.out GE137002.out) hb); (try clear hb); have hcz14_0 := bc (v := (.int .i64 a0_0)) BK137001.out 0; have hcz14_1 := bc (v := (.slice A0_1 l0_1.length c0_1)) BK137001.out 1; have hfz14_0 := blk_frozen BK137001.out 0; have hfz14_1 := blk_frozen BK137001.out 1; have hcz15_0 := bc (v := (.int .i64 a1_0)) BK137002.out 0; have hcz15_1 := bc (v := (.slice A1_1 l1_1.length c1_1)) BK137002.out 1; have hfz15_0 := blk_frozen BK137002.out 0; have hfz15_1 := blk_frozen BK137002.out 1))
   go_ret
   exact ⟨re_, pB2 HB.out GE137001.out GE137002.out⟩
  ·replace c6 := Bool.eq_false_iff.mpr c6
   subst c6
   have H1 : (some false) = some r := by rw [if_neg (show ¬ (false = true) by decide)] at H; exact H
   clear H
   have H := H1
   clear H1
   obtain rfl := Option.some.inj H
   go_enter Try.func136, Try.ntmps136
   go_wp2_with (first | ((with_reducible refine gate_dst (N := 2) rfl ?_); refine box_event ?hg (N := 2) ?hd (cs := #[.int .i64 a0_0, .slice A0_1 l0_1.length c0_1]) (t := 26) ?hr ?_; (case hd => rfl); (case hg => rfl); (case hr => first | (go_simp; done) | (go_simp; rfl)); intro gb137001 hg w16 hbox hb; have BK137001 := aQ (hbox); have GW137001 := aQ ((by rw [hg]; exact (below_size (pB HB.out)) : w.heap.size ≤ gb137001)); have GE137001 := aQ ((by rw [hg]; exact (below_size (pB HB.out)) : w.heap.size ≤ gb137001)); replace HB := aQ (below_step (pB HB.out) hb); clear hb hbox hg) | ((with_reducible refine gate_dst (N := 3) rfl ?_); refine box_event ?hg (N := 3) ?hd (cs := #[.int .i64 a1_0, .slice A1_1 l1_1.length c1_1]) (t := 26) ?hr ?_; (case hd => rfl); (case hg => rfl); (case hr => first | (go_simp; done) | (go_simp; rfl)); intro gb137002 hg w17 hbox hb; have BK137002 := aQ (hbox); have GW137002 := aQ ((by rw [hg]; exact (below_size (pB1 HB.out GE137001.out)) : w.heap.size ≤ gb137002)); have GE137002 := aQ ((by rw [hg]; exact (below_size (pB1 HB.out GE137001.out)) : w.heap.size ≤ gb137002)); replace HB := aQ (below_step (pB1 HB.out GE137001.out) hb); have NB137001_137002 := aQ ((by rw [hg]; exact Nat.ne_of_lt (blk_lt (g := gb137001) (o := .cells #[.int .i64 a0_0, .slice A0_1 l0_1.length c0_1] 26 (0, 0)) (pk BK137001.out)) : gb137001 ≠ gb137002)); have NB137002_137001 := aQ ((by rw [hg]; exact Nat.ne_of_gt (blk_lt (g := gb137001) (o := .cells #[.int .i64 a0_0, .slice A0_1 l0_1.length c0_1] 26 (0, 0)) (pk BK137001.out)) : gb137002 ≠ gb137001)); replace BK137001 := aQ (blk_below (g := gb137001) (o := .cells #[.int .i64 a0_0, .slice A0_1 l0_1.length c0_1] 26 (0, 0)) (pk BK137001.out) hb); clear hb hbox hg; have hnb18 := NB137001_137002.out; have hnc18 := NB137002_137001.out; have hcz19_0 := bc (v := (.int .i64 a0_0)) BK137001.out 0; have hcz19_1 := bc (v := (.slice A0_1 l0_1.length c0_1)) BK137001.out 1; have hfz19_0 := blk_frozen BK137001.out 0; have hfz19_1 := blk_frozen BK137001.out 1) | ((with_reducible refine gate_callee (f := 60) rfl ?_); refine goesL_ (some 6) rfl rfl Try.func60 (by kernel_rfl) rfl #[.agg #[.int .i64 a0_0, .slice A0_1 l0_1.length c0_1]] rfl lm ?_; (with_reducible refine (impl_IsMatroid.calls k a0_0 _ _ l0_1 true _ ?side1 ?side2 A3.out).mono ?_); (case side1 => exact pC (Kd.C_below HR0_1.out HB.out)); (case side2 => exact HC0_1.out); rintro e w20 ⟨rfl, hb⟩; refine ⟨_, rfl, ?_⟩; replace BK137001 := aQ (blk_below (g := gb137001) (o := .cells #[.int .i64 a0_0, .slice A0_1 l0_1.length c0_1] 26 (0, 0)) (pk BK137001.out) hb); replace BK137002 := aQ (blk_below (g := gb137002) (o := .cells #[.int .i64 a1_0, .slice A1_1 l1_1.length c1_1] 26 (0, 0)) (pk BK137002.out) hb); replace HB := aQ (below_step (pB2 HB.out GE137001.out GE137002.out) hb); (try clear hb); have hcz21_0 := bc (v := (.int .i64 a1_0)) BK137002.out 0; have hcz21_1 := bc (v := (.slice A1_1 l1_1.length c1_1)) BK137002.out 1; have hfz21_0 := blk_frozen BK137002.out 0; have hfz21_1 := blk_frozen BK137002.out 1) | (go_at_call 60; (with_reducible refine (impl_IsMatroid.calls k a1_0 _ _ l1_1 false _ ?side1 ?side2 A5.out).mono ?_); (case side1 => exact pC (Kd.C_below HR1_1.out HB.out)); (case side2 => exact HC1_1.out); rintro e w22 ⟨rfl, hb⟩; replace BK137001 := aQ (blk_below (g := gb137001) (o := .cells #[.int .i64 a0_0, .slice A0_1 l0_1.length c0_1] 26 (0, 0)) (pk BK137001.out) hb); replace BK137002 := aQ (blk_below (g := gb137002) (o := .cells #[.int .i64 a1_0, .slice A1_1 l1_1.length c1_1] 26 (0, 0)) (pk BK137002.out) hb); replace HB := aQ (below_step (pB2 HB.out GE137001.out GE137002.out) hb); (try clear hb)))
   go_ret
   exact ⟨re_, pB2 HB.out GE137001.out GE137002.out⟩
 ·replace c4 := Bool.eq_false_iff.mpr c4
  subst c4
  have H1 : (some false) = some r := by rw [if_neg (show ¬ (false = true) by decide)] at H; exact H
  clear H
  have H := H1
  clear H1
  obtain rfl := Option.some.inj H
  go_enter Try.func136, Try.ntmps136
  go_wp2_with (first | ((with_reducible refine gate_dst (N := 2) rfl ?_); refine box_event ?hg (N := 2) ?hd (cs := #[.int .i64 a0_0, .slice A0_1 l0_1.length c0_1]) (t := 26) ?hr ?_; (case hd => rfl); (case hg => rfl); (case hr => first | (go_simp; done) | (go_simp; rfl)); intro gb137001 hg w23 hbox hb; have BK137001 := aQ (hbox); have GW137001 := aQ ((by rw [hg]; exact (below_size (pB HB.out)) : w.heap.size ≤ gb137001)); have GE137001 := aQ ((by rw [hg]; exact (below_size (pB HB.out)) : w.heap.size ≤ gb137001)); replace HB := aQ (below_step (pB HB.out) hb); clear hb hbox hg) | ((with_reducible refine gate_dst (N := 3) rfl ?_); refine box_event ?hg (N := 3) ?hd (cs := #[.int .i64 a1_0, .slice A1_1 l1_1.length c1_1]) (t := 26) ?hr ?_; (case hd => rfl); (case hg => rfl); (case hr => first | (go_simp; done) | (go_simp; rfl)); intro gb137002 hg w24 hbox hb; have BK137002 := aQ (hbox); have GW137002 := aQ ((by rw [hg]; exact (below_size (pB1 HB.out GE137001.out)) : w.heap.size ≤ gb137002)); have GE137002 := aQ ((by rw [hg]; exact (below_size (pB1 HB.out GE137001.out)) : w.heap.size ≤ gb137002)); replace HB := aQ (below_step (pB1 HB.out GE137001.out) hb); have NB137001_137002 := aQ ((by rw [hg]; exact Nat.ne_of_lt (blk_lt (g := gb137001) (o := .cells #[.int .i64 a0_0, .slice A0_1 l0_1.length c0_1] 26 (0, 0)) (pk BK137001.out)) : gb137001 ≠ gb137002)); have NB137002_137001 := aQ ((by rw [hg]; exact Nat.ne_of_gt (blk_lt (g := gb137001) (o := .cells #[.int .i64 a0_0, .slice A0_1 l0_1.length c0_1] 26 (0, 0)) (pk BK137001.out)) : gb137002 ≠ gb137001)); replace BK137001 := aQ (blk_below (g := gb137001) (o := .cells #[.int .i64 a0_0, .slice A0_1 l0_1.length c0_1] 26 (0, 0)) (pk BK137001.out) hb); clear hb hbox hg; have hnb25 := NB137001_137002.out; have hnc25 := NB137002_137001.out; have hcz26_0 := bc (v := (.int .i64 a0_0)) BK137001.out 0; have hcz26_1 := bc (v := (.slice A0_1 l0_1.length c0_1)) BK137001.out 1; have hfz26_0 := blk_frozen BK137001.out 0; have hfz26_1 := blk_frozen BK137001.out 1) | ((with_reducible refine gate_callee (f := 60) rfl ?_); refine goesL_ (some 6) rfl rfl Try.func60 (by kernel_rfl) rfl #[.agg #[.int .i64 a0_0, .slice A0_1 l0_1.length c0_1]] rfl lm ?_; (with_reducible refine (impl_IsMatroid.calls k a0_0 _ _ l0_1 false _ ?side1 ?side2 A3.out).mono ?_); (case side1 => exact pC (Kd.C_below HR0_1.out HB.out)); (case side2 => exact HC0_1.out); rintro e w27 ⟨rfl, hb⟩; refine ⟨_, rfl, ?_⟩; replace BK137001 := aQ (blk_below (g := gb137001) (o := .cells #[.int .i64 a0_0, .slice A0_1 l0_1.length c0_1] 26 (0, 0)) (pk BK137001.out) hb); replace BK137002 := aQ (blk_below (g := gb137002) (o := .cells #[.int .i64 a1_0, .slice A1_1 l1_1.length c1_1] 26 (0, 0)) (pk BK137002.out) hb); replace HB := aQ (below_step (pB2 HB.out GE137001.out GE137002.out) hb); (try clear hb)))
  go_ret
  exact ⟨re_, pB2 HB.out GE137001.out GE137002.out⟩
/-! ### impl_IsCommon: function 71 -/
def impl_IsCommon.f (k : Nat) (a0_0 : Int) (l0_1 : List Int) (a1_0 : Int) (l1_1 : List Int) (a2 : Int) : Option (Bool) := (impl_together.f k a0_0 l0_1 a1_0 l1_1).bind fun t72003 => (if t72003 = true then ((impl_independent.f k a0_0 l0_1 a2).bind fun t72004 => (if t72004 = true then ((impl_independent.f k a1_0 l1_1 a2).bind fun t72005 => (some t72005)) else (some false))) else (some false))
theorem impl_IsCommon.mono : ∀ a0 a1 a2 a3 a4 k, LeO (impl_IsCommon.f k a0 a1 a2 a3 a4) (impl_IsCommon.f (k + 1) a0 a1 a2 a3 a4) := by
 intro a0 a1 a2 a3 a4 k
 unfold impl_IsCommon.f
 repeat' first
   | (with_reducible exact impl_independent.mono _ _ _ _)
   | (with_reducible exact impl_together.mono _ _ _ _ _)
   | (with_reducible exact LeO.refl _)
   | (with_reducible exact LeO.none _)
   | (with_reducible refine LeO.ite ?_ ?_)
   | (with_reducible refine LeO.bind ?_ (fun _ => ?_))
   | exact impl_independent.mono _ _ _ _
   | exact impl_together.mono _ _ _ _ _
   | exact LeO.none _
   | refine LeO.ite ?_ ?_
   | refine LeO.bind ?_ (fun _ => ?_)
set_option maxHeartbeats 8000000 in
set_option maxRecDepth 100000 in
theorem impl_IsCommon.calls (k : Nat) (a0_0 : Int) (A0_1 : Option Addr) (c0_1 : Nat) (l0_1 : List Int) (a1_0 : Int) (A1_1 : Option Addr) (c1_1 : Nat) (l1_1 : List Int) (a2 : Int) (r : Bool) (w : World) (hr0_1 : Kd.C (Kd.int .i64) w A0_1 l0_1.length l0_1) (hc0_1 : l0_1.length ≤ c0_1) (hr1_1 : Kd.C (Kd.int .i64) w A1_1 l1_1.length l1_1) (hc1_1 : l1_1.length ≤ c1_1) (h : impl_IsCommon.f k a0_0 l0_1 a1_0 l1_1 a2 = some r) :
  Calls Try.prog 71 #[.agg #[.int .i64 a0_0, .slice A0_1 l0_1.length c0_1], .agg #[.int .i64 a1_0, .slice A1_1 l1_1.length c1_1], .int .i64 a2] w fun e w' => e = .returned (.bool r) ∧ Below w.heap.size w w' := by
 have hu26 := Try.underlying26
 have HR0_1 := aQ hr0_1
 have HC0_1 := aQ hc0_1
 clear hr0_1 hc0_1
 have HR1_1 := aQ hr1_1
 have HC1_1 := aQ hc1_1
 clear hr1_1 hc1_1
 have HB := aQ (Below.refl w.heap.size w)
 have H : ((impl_together.f k a0_0 l0_1 a1_0 l1_1).bind fun t72003 => (if t72003 = true then ((impl_independent.f k a0_0 l0_1 a2).bind fun t72004 => (if t72004 = true then ((impl_independent.f k a1_0 l1_1 a2).bind fun t72005 => (some t72005)) else (some false))) else (some false))) = some r := h
 clear h
 replace H := Option.bind_eq_some_iff.mp H
 obtain ⟨t72003, A40, H⟩ := H
 replace H : (if t72003 = true then ((impl_independent.f k a0_0 l0_1 a2).bind fun t72004 => (if t72004 = true then ((impl_independent.f k a1_0 l1_1 a2).bind fun t72005 => (some t72005)) else (some false))) else (some false)) = some r := H
 have A4 := aQ A40
 clear A40
 by_cases c5 : t72003 = true
 ·subst c5
  have H1 : ((impl_independent.f k a0_0 l0_1 a2).bind fun t72004 => (if t72004 = true then ((impl_independent.f k a1_0 l1_1 a2).bind fun t72005 => (some t72005)) else (some false))) = some r := by rw [if_pos rfl] at H; exact H
  clear H
  have H := H1
  clear H1
  replace H := Option.bind_eq_some_iff.mp H
  obtain ⟨t72004, A60, H⟩ := H
  replace H : (if t72004 = true then ((impl_independent.f k a1_0 l1_1 a2).bind fun t72005 => (some t72005)) else (some false)) = some r := H
  have A6 := aQ A60
  clear A60
  by_cases c7 : t72004 = true
  ·subst c7
   have H1 : ((impl_independent.f k a1_0 l1_1 a2).bind fun t72005 => (some t72005)) = some r := by rw [if_pos rfl] at H; exact H
   clear H
   have H := H1
   clear H1
   replace H := Option.bind_eq_some_iff.mp H
   obtain ⟨t72005, A80, H⟩ := H
   replace H : (some t72005) = some r := H
   have A8 := aQ A80
   clear A80
   obtain rfl := Option.some.inj H
   go_enter Try.func71, Try.ntmps71
   go_wp2_with (first | ((with_reducible refine gate_dst (N := 3) rfl ?_); refine box_event ?hg (N := 3) ?hd (cs := #[.int .i64 a0_0, .slice A0_1 l0_1.length c0_1]) (t := 26) ?hr ?_; (case hd => rfl); (case hg => rfl); (case hr => first | (go_simp; done) | (go_simp; rfl)); intro gb72001 hg w9 hbox hb; have BK72001 := aQ (hbox); have GW72001 := aQ ((by rw [hg]; exact (below_size (pB HB.out)) : w.heap.size ≤ gb72001)); have GE72001 := aQ ((by rw [hg]; exact (below_size (pB HB.out)) : w.heap.size ≤ gb72001)); replace HB := aQ (below_step (pB HB.out) hb); clear hb hbox hg) | ((with_reducible refine gate_dst (N := 4) rfl ?_); refine box_event ?hg (N := 4) ?hd (cs := #[.int .i64 a1_0, .slice A1_1 l1_1.length c1_1]) (t := 26) ?hr ?_; (case hd => rfl); (case hg => rfl); (case hr => first | (go_simp; done) | (go_simp; rfl)); intro gb72002 hg w10 hbox hb; have BK72002 := aQ (hbox); have GW72002 := aQ ((by rw [hg]; exact (below_size (pB1 HB.out GE72001.out)) : w.heap.size ≤ gb72002)); have GE72002 := aQ ((by rw [hg]; exact (below_size (pB1 HB.out GE72001.out)) : w.heap.size ≤ gb72002)); replace HB := aQ (below_step (pB1 HB.out GE72001.out) hb); have NB72001_72002 := aQ ((by rw [hg]; exact Nat.ne_of_lt (blk_lt (g := gb72001) (o := .cells #[.int .i64 a0_0, .slice A0_1 l0_1.length c0_1] 26 (0, 0)) (pk BK72001.out)) : gb72001 ≠ gb72002)); have NB72002_72001 := aQ ((by rw [hg]; exact Nat.ne_of_gt (blk_lt (g := gb72001) (o := .cells #[.int .i64 a0_0, .slice A0_1 l0_1.length c0_1] 26 (0, 0)) (pk BK72001.out)) : gb72002 ≠ gb72001)); replace BK72001 := aQ (blk_below (g := gb72001) (o := .cells #[.int .i64 a0_0, .slice A0_1 l0_1.length c0_1] 26 (0, 0)) (pk BK72001.out) hb); clear hb hbox hg; have hnb11 := NB72001_72002.out; have hnc11 := NB72002_72001.out; have hcz12_0 := bc (v := (.int .i64 a0_0)) BK72001.out 0; have hcz12_1 := bc (v := (.slice A0_1 l0_1.length c0_1)) BK72001.out 1; have hfz12_0 := blk_frozen BK72001.out 0; have hfz12_1 := blk_frozen BK72001.out 1; have hcz13_0 := bc (v := (.int .i64 a1_0)) BK72002.out 0; have hcz13_1 := bc (v := (.slice A1_1 l1_1.length c1_1)) BK72002.out 1; have hfz13_0 := blk_frozen BK72002.out 0; have hfz13_1 := blk_frozen BK72002.out 1) | ((with_reducible refine gate_callee (f := 136) rfl ?_); refine goesL_ (some 9) rfl rfl Try.func136 (by kernel_rfl) rfl #[.agg #[.int .i64 a0_0, .slice A0_1 l0_1.length c0_1], .agg #[.int .i64 a1_0, .slice A1_1 l1_1.length c1_1]] rfl lm ?_; (with_reducible refine (impl_together.calls k a0_0 _ _ l0_1 a1_0 _ _ l1_1 true _ ?side1 ?side2 ?side3 ?side4 A4.out).mono ?_); (case side1 => exact pC (Kd.C_below HR0_1.out HB.out)); (case side2 => exact HC0_1.out); (case side3 => exact pC (Kd.C_below HR1_1.out HB.out)); (case side4 => exact HC1_1.out); rintro e w14 ⟨rfl, hb⟩; refine ⟨_, rfl, ?_⟩; replace BK72001 := aQ (blk_below (g := gb72001) (o := .cells #[.int .i64 a0_0, .slice A0_1 l0_1.length c0_1] 26 (0, 0)) (pk BK72001.out) hb); replace BK72002 := aQ (blk_below (g := gb72002) (o := .cells #[.int .i64 a1_0, .slice A1_1 l1_1.length c1_1] 26 (0, 0)) (pk BK72002.out) hb); replace HB := aQ (below_step (pB2 HB.out GE72001.out GE72002.out) hb); (try clear hb); have hcz15_0 := bc (v := (.int .i64 a0_0)) BK72001.out 0; have hcz15_1 := bc (v := (.slice A0_1 l0_1.length c0_1)) BK72001.out 1; have hfz15_0 := blk_frozen BK72001.out 0; have hfz15_1 := blk_frozen BK72001.out 1) | (go_at_call 65; (with_reducible refine (impl_independent.calls k a0_0 _ _ l0_1 a2 true _ ?side1 ?side2 A6.out).mono ?_); (case side1 => exact pC (Kd.C_below HR0_1.out HB.out)); (case side2 => exact HC0_1.out); rintro e w16 ⟨rfl, hb⟩; replace BK72001 := aQ (blk_below (g := gb72001) (o := .cells #[.int .i64 a0_0, .slice A0_1 l0_1.length c0_1] 26 (0, 0)) (pk BK72001.out) hb); replace BK72002 := aQ (blk_below (g := gb72002) (o := .cells #[.int .i64 a1_0, .slice A1_1 l1_1.length c1_1] 26 (0, 0)) (pk BK72002.out) hb); replace HB := aQ (below_step (pB2 HB.out GE72001.out GE72002.out) hb); (try clear hb); have hcz17_0 := bc (v := (.int .i64 a1_0)) BK72002.out 0; have hcz17_1 := bc (v := (.slice A1_1 l1_1.length c1_1)) BK72002.out 1; have hfz17_0 := blk_frozen BK72002.out 0; have hfz17_1 := blk_frozen BK72002.out 1) | (go_at_call 65; (with_reducible refine (impl_independent.calls k a1_0 _ _ l1_1 a2 t72005 _ ?side1 ?side2 A8.out).mono ?_); (case side1 => exact pC (Kd.C_below HR1_1.out HB.out)); (case side2 => exact HC1_1.out); rintro e w18 ⟨rfl, hb⟩; replace BK72001 := aQ (blk_below (g := gb72001) (o := .cells #[.int .i64 a0_0, .slice A0_1 l0_1.length c0_1] 26 (0, 0)) (pk BK72001.out) hb); replace BK72002 := aQ (blk_below (g := gb72002) (o := .cells #[.int .i64 a1_0, .slice A1_1 l1_1.length c1_1] 26 (0, 0)) (pk BK72002.out) hb); replace HB := aQ (below_step (pB2 HB.out GE72001.out GE72002.out) hb); (try clear hb)))
   go_ret
   exact ⟨re_, pB2 HB.out GE72001.out GE72002.out⟩
  ·replace c7 := Bool.eq_false_iff.mpr c7
   subst c7
   have H1 : (some false) = some r := by rw [if_neg (show ¬ (false = true) by decide)] at H; exact H
   clear H
   have H := H1
   clear H1
   obtain rfl := Option.some.inj H
   go_enter Try.func71, Try.ntmps71
   go_wp2_with (first | ((with_reducible refine gate_dst (N := 3) rfl ?_); refine box_event ?hg (N := 3) ?hd (cs := #[.int .i64 a0_0, .slice A0_1 l0_1.length c0_1]) (t := 26) ?hr ?_; (case hd => rfl); (case hg => rfl); (case hr => first | (go_simp; done) | (go_simp; rfl)); intro gb72001 hg w19 hbox hb; have BK72001 := aQ (hbox); have GW72001 := aQ ((by rw [hg]; exact (below_size (pB HB.out)) : w.heap.size ≤ gb72001)); have GE72001 := aQ ((by rw [hg]; exact (below_size (pB HB.out)) : w.heap.size ≤ gb72001)); replace HB := aQ (below_step (pB HB.out) hb); clear hb hbox hg) | ((with_reducible refine gate_dst (N := 4) rfl ?_); refine box_event ?hg (N := 4) ?hd (cs := #[.int .i64 a1_0, .slice A1_1 l1_1.length c1_1]) (t := 26) ?hr ?_; (case hd => rfl); (case hg => rfl); (case hr => first | (go_simp; done) | (go_simp; rfl)); intro gb72002 hg w20 hbox hb; have BK72002 := aQ (hbox); have GW72002 := aQ ((by rw [hg]; exact (below_size (pB1 HB.out GE72001.out)) : w.heap.size ≤ gb72002)); have GE72002 := aQ ((by rw [hg]; exact (below_size (pB1 HB.out GE72001.out)) : w.heap.size ≤ gb72002)); replace HB := aQ (below_step (pB1 HB.out GE72001.out) hb); have NB72001_72002 := aQ ((by rw [hg]; exact Nat.ne_of_lt (blk_lt (g := gb72001) (o := .cells #[.int .i64 a0_0, .slice A0_1 l0_1.length c0_1] 26 (0, 0)) (pk BK72001.out)) : gb72001 ≠ gb72002)); have NB72002_72001 := aQ ((by rw [hg]; exact Nat.ne_of_gt (blk_lt (g := gb72001) (o := .cells #[.int .i64 a0_0, .slice A0_1 l0_1.length c0_1] 26 (0, 0)) (pk BK72001.out)) : gb72002 ≠ gb72001)); replace BK72001 := aQ (blk_below (g := gb72001) (o := .cells #[.int .i64 a0_0, .slice A0_1 l0_1.length c0_1] 26 (0, 0)) (pk BK72001.out) hb); clear hb hbox hg; have hnb21 := NB72001_72002.out; have hnc21 := NB72002_72001.out; have hcz22_0 := bc (v := (.int .i64 a0_0)) BK72001.out 0; have hcz22_1 := bc (v := (.slice A0_1 l0_1.length c0_1)) BK72001.out 1; have hfz22_0 := blk_frozen BK72001.out 0; have hfz22_1 := blk_frozen BK72001.out 1; have hcz23_0 := bc (v := (.int .i64 a1_0)) BK72002.out 0; have hcz23_1 := bc (v := (.slice A1_1 l1_1.length c1_1)) BK72002.out 1; have hfz23_0 := blk_frozen BK72002.out 0; have hfz23_1 := blk_frozen BK72002.out 1) | ((with_reducible refine gate_callee (f := 136) rfl ?_); refine goesL_ (some 9) rfl rfl Try.func136 (by kernel_rfl) rfl #[.agg #[.int .i64 a0_0, .slice A0_1 l0_1.length c0_1], .agg #[.int .i64 a1_0, .slice A1_1 l1_1.length c1_1]] rfl lm ?_; (with_reducible refine (impl_together.calls k a0_0 _ _ l0_1 a1_0 _ _ l1_1 true _ ?side1 ?side2 ?side3 ?side4 A4.out).mono ?_); (case side1 => exact pC (Kd.C_below HR0_1.out HB.out)); (case side2 => exact HC0_1.out); (case side3 => exact pC (Kd.C_below HR1_1.out HB.out)); (case side4 => exact HC1_1.out); rintro e w24 ⟨rfl, hb⟩; refine ⟨_, rfl, ?_⟩; replace BK72001 := aQ (blk_below (g := gb72001) (o := .cells #[.int .i64 a0_0, .slice A0_1 l0_1.length c0_1] 26 (0, 0)) (pk BK72001.out) hb); replace BK72002 := aQ (blk_below (g := gb72002) (o := .cells #[.int .i64 a1_0, .slice A1_1 l1_1.length c1_1] 26 (0, 0)) (pk BK72002.out) hb); replace HB := aQ (below_step (pB2 HB.out GE72001.out GE72002.out) hb); (try clear hb); have hcz25_0 := bc (v := (.int .i64 a0_0)) BK72001.out 0; have hcz25_1 := bc (v := (.slice A0_1 l0_1.length c0_1)) BK72001.out 1; have hfz25_0 := blk_frozen BK72001.out 0; have hfz25_1 := blk_frozen BK72001.out 1) | (go_at_call 65; (with_reducible refine (impl_independent.calls k a0_0 _ _ l0_1 a2 false _ ?side1 ?side2 A6.out).mono ?_); (case side1 => exact pC (Kd.C_below HR0_1.out HB.out)); (case side2 => exact HC0_1.out); rintro e w26 ⟨rfl, hb⟩; replace BK72001 := aQ (blk_below (g := gb72001) (o := .cells #[.int .i64 a0_0, .slice A0_1 l0_1.length c0_1] 26 (0, 0)) (pk BK72001.out) hb); replace BK72002 := aQ (blk_below (g := gb72002) (o := .cells #[.int .i64 a1_0, .slice A1_1 l1_1.length c1_1] 26 (0, 0)) (pk BK72002.out) hb); replace HB := aQ (below_step (pB2 HB.out GE72001.out GE72002.out) hb); (try clear hb)))
   go_ret
   exact ⟨re_, pB2 HB.out GE72001.out GE72002.out⟩
 ·replace c5 := Bool.eq_false_iff.mpr c5
  subst c5
  have H1 : (some false) = some r := by rw [if_neg (show ¬ (false = true) by decide)] at H; exact H
  clear H
  have H := H1
  clear H1
  obtain rfl := Option.some.inj H
  go_enter Try.func71, Try.ntmps71
  go_wp2_with (first | ((with_reducible refine gate_dst (N := 3) rfl ?_); refine box_event ?hg (N := 3) ?hd (cs := #[.int .i64 a0_0, .slice A0_1 l0_1.length c0_1]) (t := 26) ?hr ?_; (case hd => rfl); (case hg => rfl); (case hr => first | (go_simp; done) | (go_simp; rfl)); intro gb72001 hg w27 hbox hb; have BK72001 := aQ (hbox); have GW72001 := aQ ((by rw [hg]; exact (below_size (pB HB.out)) : w.heap.size ≤ gb72001)); have GE72001 := aQ ((by rw [hg]; exact (below_size (pB HB.out)) : w.heap.size ≤ gb72001)); replace HB := aQ (below_step (pB HB.out) hb); clear hb hbox hg) | ((with_reducible refine gate_dst (N := 4) rfl ?_); refine box_event ?hg (N := 4) ?hd (cs := #[.int .i64 a1_0, .slice A1_1 l1_1.length c1_1]) (t := 26) ?hr ?_; (case hd => rfl); (case hg => rfl); (case hr => first | (go_simp; done) | (go_simp; rfl)); intro gb72002 hg w28 hbox hb; have BK72002 := aQ (hbox); have GW72002 := aQ ((by rw [hg]; exact (below_size (pB1 HB.out GE72001.out)) : w.heap.size ≤ gb72002)); have GE72002 := aQ ((by rw [hg]; exact (below_size (pB1 HB.out GE72001.out)) : w.heap.size ≤ gb72002)); replace HB := aQ (below_step (pB1 HB.out GE72001.out) hb); have NB72001_72002 := aQ ((by rw [hg]; exact Nat.ne_of_lt (blk_lt (g := gb72001) (o := .cells #[.int .i64 a0_0, .slice A0_1 l0_1.length c0_1] 26 (0, 0)) (pk BK72001.out)) : gb72001 ≠ gb72002)); have NB72002_72001 := aQ ((by rw [hg]; exact Nat.ne_of_gt (blk_lt (g := gb72001) (o := .cells #[.int .i64 a0_0, .slice A0_1 l0_1.length c0_1] 26 (0, 0)) (pk BK72001.out)) : gb72002 ≠ gb72001)); replace BK72001 := aQ (blk_below (g := gb72001) (o := .cells #[.int .i64 a0_0, .slice A0_1 l0_1.length c0_1] 26 (0, 0)) (pk BK72001.out) hb); clear hb hbox hg; have hnb29 := NB72001_72002.out; have hnc29 := NB72002_72001.out; have hcz30_0 := bc (v := (.int .i64 a0_0)) BK72001.out 0; have hcz30_1 := bc (v := (.slice A0_1 l0_1.length c0_1)) BK72001.out 1; have hfz30_0 := blk_frozen BK72001.out 0; have hfz30_1 := blk_frozen BK72001.out 1; have hcz31_0 := bc (v := (.int .i64 a1_0)) BK72002.out 0; have hcz31_1 := bc (v := (.slice A1_1 l1_1.length c1_1)) BK72002.out 1; have hfz31_0 := blk_frozen BK72002.out 0; have hfz31_1 := blk_frozen BK72002.out 1) | ((with_reducible refine gate_callee (f := 136) rfl ?_); refine goesL_ (some 9) rfl rfl Try.func136 (by kernel_rfl) rfl #[.agg #[.int .i64 a0_0, .slice A0_1 l0_1.length c0_1], .agg #[.int .i64 a1_0, .slice A1_1 l1_1.length c1_1]] rfl lm ?_; (with_reducible refine (impl_together.calls k a0_0 _ _ l0_1 a1_0 _ _ l1_1 false _ ?side1 ?side2 ?side3 ?side4 A4.out).mono ?_); (case side1 => exact pC (Kd.C_below HR0_1.out HB.out)); (case side2 => exact HC0_1.out); (case side3 => exact pC (Kd.C_below HR1_1.out HB.out)); (case side4 => exact HC1_1.out); rintro e w32 ⟨rfl, hb⟩; refine ⟨_, rfl, ?_⟩; replace BK72001 := aQ (blk_below (g := gb72001) (o := .cells #[.int .i64 a0_0, .slice A0_1 l0_1.length c0_1] 26 (0, 0)) (pk BK72001.out) hb); replace BK72002 := aQ (blk_below (g := gb72002) (o := .cells #[.int .i64 a1_0, .slice A1_1 l1_1.length c1_1] 26 (0, 0)) (pk BK72002.out) hb); replace HB := aQ (below_step (pB2 HB.out GE72001.out GE72002.out) hb); (try clear hb)))
  go_ret
  exact ⟨re_, pB2 HB.out GE72001.out GE72002.out⟩
/-! ### impl_goesOn: function 73 -/
def impl_goesOn.j0 : Nat → Int → Int → Int → Bool → Int → List Int → Int → List Int → Option (Bool)
 | 0, _, _, _, _, _, _, _, _ => none
 | k + 1, x2, x3, x4, x11, x74002000, x74002001, x74003000, x74003001 => if x11 = true then (if 0 ≤ x3 then (if 0 ≤ x4 then ((impl_independent.f k x74002000 x74002001 (Go.bits .or .i64 (Go.bits .andNot .i64 x2 (shl .i64 1 x3)) (shl .i64 1 x4))).bind fun t74005 => (some t74005)) else (none)) else (none)) else ((impl_HasElement.f x2 x3).bind fun t74006 => (if t74006 = true then (some false) else ((impl_HasElement.f x2 x4).bind fun t74007 => (if t74007 = true then (if 0 ≤ x4 then (if 0 ≤ x3 then ((impl_independent.f k x74003000 x74003001 (Go.bits .or .i64 (Go.bits .andNot .i64 x2 (shl .i64 1 x4)) (shl .i64 1 x3))).bind fun t74008 => (some t74008)) else (none)) else (none)) else (some false)))))
def impl_goesOn.f (k : Nat) (a0_0 : Int) (l0_1 : List Int) (a1_0 : Int) (l1_1 : List Int) (a2 : Int) (a3 : Int) (a4 : Int) : Option (Bool) := (impl_HasElement.f a2 a3).bind fun t74003 => (if t74003 = true then ((impl_HasElement.f a2 a4).bind fun t74004 => (impl_goesOn.j0 k a2 a3 a4 (!t74004) a0_0 l0_1 a1_0 l1_1)) else (impl_goesOn.j0 k a2 a3 a4 false a0_0 l0_1 a1_0 l1_1))
theorem impl_goesOn.mono_l : ∀ k, (∀ y0 y1 y2 y3 y4 y5 y6 y7, LeO (impl_goesOn.j0 k y0 y1 y2 y3 y4 y5 y6 y7) (impl_goesOn.j0 (k + 1) y0 y1 y2 y3 y4 y5 y6 y7))
 | 0 => fun _ _ _ _ _ _ _ _ r h => by simp [impl_goesOn.j0] at h
 | k + 1 => by
  have ih0 := impl_goesOn.mono_l k
  ·intro y0 y1 y2 y3 y4 y5 y6 y7
   unfold impl_goesOn.j0
   repeat' first
   | (with_reducible exact ih0 _ _ _ _ _ _ _ _)
   | (with_reducible exact impl_independent.mono _ _ _ _)
   | (with_reducible exact LeO.refl _)
   | (with_reducible exact LeO.none _)
   | (with_reducible refine LeO.ite ?_ ?_)
   | (with_reducible refine LeO.bind ?_ (fun _ => ?_))
   | exact ih0 _ _ _ _ _ _ _ _
   | exact impl_independent.mono _ _ _ _
   | exact LeO.none _
   | refine LeO.ite ?_ ?_
   | refine LeO.bind ?_ (fun _ => ?_)
theorem impl_goesOn.mono : ∀ a0 a1 a2 a3 a4 a5 a6 k, LeO (impl_goesOn.f k a0 a1 a2 a3 a4 a5 a6) (impl_goesOn.f (k + 1) a0 a1 a2 a3 a4 a5 a6) := by
 intro a0 a1 a2 a3 a4 a5 a6 k
 have ih0 := impl_goesOn.mono_l k
 unfold impl_goesOn.f
 repeat' first
   | (with_reducible exact ih0 _ _ _ _ _ _ _ _)
   | (with_reducible exact impl_independent.mono _ _ _ _)
   | (with_reducible exact LeO.refl _)
   | (with_reducible exact LeO.none _)
   | (with_reducible refine LeO.ite ?_ ?_)
   | (with_reducible refine LeO.bind ?_ (fun _ => ?_))
   | exact ih0 _ _ _ _ _ _ _ _
   | exact impl_independent.mono _ _ _ _
   | exact LeO.none _
   | refine LeO.ite ?_ ?_
   | refine LeO.bind ?_ (fun _ => ?_)
def impl_goesOn.T2 : Bool × List (List Nat × List Nat) := (true, [([], []), ([], []), ([], []), ([2], [2]), ([1, 3], [1, 3]), ([], []), ([5], [5]), ([4, 6], [4, 6]), ([0, 7], [0, 7]), ([8, 8, 0, 1, 2, 3, 4, 5, 6, 7, 8], [8])])
def impl_goesOn.B2 : List Nat := [0, 0, 0, 4, 14, 0, 32, 126, 255, 511]
theorem impl_goesOn.tab2 : rtab .any (opsOf Try.f73 2) = impl_goesOn.T2 := by kernel_rfl
theorem impl_goesOn.bits2 : waitsOk impl_goesOn.T2.2 impl_goesOn.B2 = true := by kernel_rfl
def impl_goesOn.T4 : Bool × List (List Nat × List Nat) := (true, [([], []), ([], []), ([], []), ([2], [2]), ([1, 3], [1, 3]), ([], []), ([5], [5]), ([4, 6], [4, 6]), ([0, 7], [0, 7]), ([8, 8, 0, 1, 2, 3, 4, 5, 6, 7, 8], [8])])
def impl_goesOn.B4 : List Nat := [0, 0, 0, 4, 14, 0, 32, 126, 255, 511]
theorem impl_goesOn.tab4 : rtab .any (opsOf Try.f73 4) = impl_goesOn.T4 := by kernel_rfl
theorem impl_goesOn.bits4 : waitsOk impl_goesOn.T4.2 impl_goesOn.B4 = true := by kernel_rfl
set_option maxHeartbeats 8000000 in
set_option maxRecDepth 100000 in
theorem impl_goesOn.calls (k : Nat) (a0_0 : Int) (A0_1 : Option Addr) (c0_1 : Nat) (l0_1 : List Int) (a1_0 : Int) (A1_1 : Option Addr) (c1_1 : Nat) (l1_1 : List Int) (a2 : Int) (a3 : Int) (a4 : Int) (r : Bool) (w : World) (hr0_1 : Kd.C (Kd.int .i64) w A0_1 l0_1.length l0_1) (hc0_1 : l0_1.length ≤ c0_1) (hr1_1 : Kd.C (Kd.int .i64) w A1_1 l1_1.length l1_1) (hc1_1 : l1_1.length ≤ c1_1) (h : impl_goesOn.f k a0_0 l0_1 a1_0 l1_1 a2 a3 a4 = some r) :
  Calls Try.prog 73 #[.agg #[.int .i64 a0_0, .slice A0_1 l0_1.length c0_1], .agg #[.int .i64 a1_0, .slice A1_1 l1_1.length c1_1], .int .i64 a2, .int .i64 a3, .int .i64 a4] w fun e w' => e = .returned (.bool r) ∧ Below w.heap.size w w' := by
 have hu26 := Try.underlying26
 have HR0_1 := aQ hr0_1
 have HC0_1 := aQ hc0_1
 clear hr0_1 hc0_1
 have HR1_1 := aQ hr1_1
 have HC1_1 := aQ hc1_1
 clear hr1_1 hc1_1
 have HB := aQ (Below.refl w.heap.size w)
 have H : ((impl_HasElement.f a2 a3).bind fun t74003 => (if t74003 = true then ((impl_HasElement.f a2 a4).bind fun t74004 => (impl_goesOn.j0 k a2 a3 a4 (!t74004) a0_0 l0_1 a1_0 l1_1)) else (impl_goesOn.j0 k a2 a3 a4 false a0_0 l0_1 a1_0 l1_1))) = some r := h
 clear h
 have HC6 := aQ H
 clear H
 go_enter Try.func73, Try.ntmps73
 go_upto_region 1 with (first | ((with_reducible refine gate_dst (N := 5) rfl ?_); refine box_event ?hg (N := 5) ?hd (cs := #[.int .i64 a0_0, .slice A0_1 l0_1.length c0_1]) (t := 26) ?hr ?_; (case hd => rfl); (case hg => rfl); (case hr => first | (go_simp; done) | (go_simp; rfl)); intro gb74001 hg w7 hbox hb; have BK74001 := aQ (hbox); have GW74001 := aQ ((by rw [hg]; exact (below_size (pB HB.out)) : w.heap.size ≤ gb74001)); have GE74001 := aQ ((by rw [hg]; exact (below_size (pB HB.out)) : w.heap.size ≤ gb74001)); replace HB := aQ (below_step (pB HB.out) hb); clear hb hbox hg) | ((with_reducible refine gate_dst (N := 6) rfl ?_); refine box_event ?hg (N := 6) ?hd (cs := #[.int .i64 a1_0, .slice A1_1 l1_1.length c1_1]) (t := 26) ?hr ?_; (case hd => rfl); (case hg => rfl); (case hr => first | (go_simp; done) | (go_simp; rfl)); intro gb74002 hg w8 hbox hb; have BK74002 := aQ (hbox); have GW74002 := aQ ((by rw [hg]; exact (below_size (pB1 HB.out GE74001.out)) : w.heap.size ≤ gb74002)); have GE74002 := aQ ((by rw [hg]; exact (below_size (pB1 HB.out GE74001.out)) : w.heap.size ≤ gb74002)); replace HB := aQ (below_step (pB1 HB.out GE74001.out) hb); have NB74001_74002 := aQ ((by rw [hg]; exact Nat.ne_of_lt (blk_lt (g := gb74001) (o := .cells #[.int .i64 a0_0, .slice A0_1 l0_1.length c0_1] 26 (0, 0)) (pk BK74001.out)) : gb74001 ≠ gb74002)); have NB74002_74001 := aQ ((by rw [hg]; exact Nat.ne_of_gt (blk_lt (g := gb74001) (o := .cells #[.int .i64 a0_0, .slice A0_1 l0_1.length c0_1] 26 (0, 0)) (pk BK74001.out)) : gb74002 ≠ gb74001)); replace BK74001 := aQ (blk_below (g := gb74001) (o := .cells #[.int .i64 a0_0, .slice A0_1 l0_1.length c0_1] 26 (0, 0)) (pk BK74001.out) hb); clear hb hbox hg))
 (try simp only [Act.put, List.setIfInBounds_toArray, List.set_cons_zero, List.set_cons_succ])
 go_cut [11] (fun v11 wc => ∃ (kq : Nat) (x11_5 : Bool), v11 = .bool x11_5 ∧ Aside0 (impl_goesOn.j0 kq a2 a3 a4 x11_5 a0_0 l0_1 a1_0 l1_1 = some r) ∧ Aside0 (kq ≤ k) ∧ Aside0 (wc.heap[gb74001]? = some (.cells #[.int .i64 a0_0, (.slice A0_1 l0_1.length c0_1)] 26 (0, 0))) ∧ Aside0 (wc.heap[gb74002]? = some (.cells #[.int .i64 a1_0, (.slice A1_1 l1_1.length c1_1)] 26 (0, 0))) ∧ Aside0 (Below w.heap.size w wc))
 case first =>
  have H := HC6.out
  clear HC6
  replace H := Option.bind_eq_some_iff.mp H
  obtain ⟨t74003, A90, H⟩ := H
  replace H : (if t74003 = true then ((impl_HasElement.f a2 a4).bind fun t74004 => (impl_goesOn.j0 k a2 a3 a4 (!t74004) a0_0 l0_1 a1_0 l1_1)) else (impl_goesOn.j0 k a2 a3 a4 false a0_0 l0_1 a1_0 l1_1)) = some r := H
  have A9 := aQ A90
  clear A90
  by_cases c10 : t74003 = true
  ·subst c10
   have H1 : ((impl_HasElement.f a2 a4).bind fun t74004 => (impl_goesOn.j0 k a2 a3 a4 (!t74004) a0_0 l0_1 a1_0 l1_1)) = some r := by rw [if_pos rfl] at H; exact H
   clear H
   have H := H1
   clear H1
   replace H := Option.bind_eq_some_iff.mp H
   obtain ⟨t74004, A110, H⟩ := H
   replace H : (impl_goesOn.j0 k a2 a3 a4 (!t74004) a0_0 l0_1 a1_0 l1_1) = some r := H
   have A11 := aQ A110
   clear A110
   have H' := aQ H
   clear H
   go_wp2_with (first | ((with_reducible refine gate_callee (f := 72) rfl ?_); refine goesL_ (some 14) rfl rfl Try.func72 (by kernel_rfl) rfl #[.int .i64 a2, .int .i64 a3] rfl lm ?_; (with_reducible refine (impl_HasElement.calls a2 a3 true _ A9.out).mono ?_); rintro e w' ⟨rfl, ⟨nd, rfl⟩⟩; refine ⟨_, rfl, ?_⟩) | (go_at_call 72; (with_reducible refine (impl_HasElement.calls a2 a4 t74004 _ A11.out).mono ?_); rintro e w' ⟨rfl, ⟨nd, rfl⟩⟩))
   go_meet
   case rel => exact ⟨_, (!t74004), rs_, H', ⟨by first | omega | exact Nat.le_refl _⟩, ⟨pk BK74001.out⟩, ⟨pk BK74002.out⟩, ⟨pB2 HB.out GE74001.out GE74002.out⟩⟩
  ·replace c10 := Bool.eq_false_iff.mpr c10
   subst c10
   have H1 : (impl_goesOn.j0 k a2 a3 a4 false a0_0 l0_1 a1_0 l1_1) = some r := by rw [if_neg (show ¬ (false = true) by decide)] at H; exact H
   clear H
   have H := H1
   clear H1
   have H' := aQ H
   clear H
   go_wp2_with (first | ((with_reducible refine gate_callee (f := 72) rfl ?_); refine goesL_ (some 14) rfl rfl Try.func72 (by kernel_rfl) rfl #[.int .i64 a2, .int .i64 a3] rfl lm ?_; (with_reducible refine (impl_HasElement.calls a2 a3 false _ A9.out).mono ?_); rintro e w' ⟨rfl, ⟨nd, rfl⟩⟩; refine ⟨_, rfl, ?_⟩))
   go_meet
   case rel => exact ⟨_, (false), rs_, H', ⟨by first | omega | exact Nat.le_refl _⟩, ⟨pk BK74001.out⟩, ⟨pk BK74002.out⟩, ⟨pB2 HB.out GE74001.out GE74002.out⟩⟩
 case rest =>
  clear HC6
  try clear c1
  try clear p2
  try clear c7
  try clear c10
  obtain ⟨kq, x11_5, rfl, HA, HJ5, BK74001, BK74002, HB⟩ := hcut
  cases kq with
  | zero => exact absurd HA.out (by simp [impl_goesOn.j0])
  | succ kj5 =>
   have H := HA.out
   clear HA
   simp only [impl_goesOn.j0] at H
   by_cases c12 : x11_5 = true
   ·subst c12
    have H1 : (if 0 ≤ a3 then (if 0 ≤ a4 then ((impl_independent.f kj5 a0_0 l0_1 (Go.bits .or .i64 (Go.bits .andNot .i64 a2 (shl .i64 1 a3)) (shl .i64 1 a4))).bind fun t74005 => (some t74005)) else (none)) else (none)) = some r := by rw [if_pos rfl] at H; exact H
    clear H
    have H := H1
    clear H1
    by_cases c13 : 0 ≤ a3
    ·rw [if_pos c13] at H
     have c13b0 := eq_true c13
     have c13b1 : decide (0 ≤ a3) = true := decide_eq_true c13
     clear c13
     obtain ⟨ji14, hji14⟩ : ∃ j_ : Int, (shl .i64 1 a3) = j_ := ⟨_, rfl⟩
     replace H : (if 0 ≤ a4 then ((impl_independent.f kj5 a0_0 l0_1 (Go.bits .or .i64 (Go.bits .andNot .i64 a2 (ji14)) (shl .i64 1 a4))).bind fun t74005 => (some t74005)) else (none)) = some r := by first | (rw [hji14] at H; exact H) | (simp only [hji14] at H ⊢; exact H)
     have hji14_ : (IntKind.i64.wrap (1 * 2 ^ min a3.toNat 64)) = ji14 := hji14
     have hji14z : a3 ≤ 64 → (IntKind.i64.wrap (1 * 2 ^ a3.toNat)) = ji14 := shl_small hji14
     have hji14u : (IntKind.i64.wrap (2 ^ min a3.toNat 64)) = ji14 := by have h_ := hji14_; rw [Int.one_mul] at h_; exact h_
     have hji14v : a3 ≤ 64 → (IntKind.i64.wrap (2 ^ a3.toNat)) = ji14 := fun hle_ => by have h_ := hji14z hle_; rw [Int.one_mul] at h_; exact h_
     have hji14y : (wrap64 (1 * 2 ^ min a3.toNat 64)) = ji14 := (i64_w _).symm.trans hji14_
     have hji14x : a3 ≤ 64 → (wrap64 (1 * 2 ^ a3.toNat)) = ji14 := fun h_ => (i64_w _).symm.trans (hji14z h_)
     by_cases c15 : 0 ≤ a4
     ·rw [if_pos c15] at H
      have c15b0 := eq_true c15
      have c15b1 : decide (0 ≤ a4) = true := decide_eq_true c15
      clear c15
      obtain ⟨ji16, hji16⟩ : ∃ j_ : Int, (shl .i64 1 a4) = j_ := ⟨_, rfl⟩
      replace H : ((impl_independent.f kj5 a0_0 l0_1 (Go.bits .or .i64 (Go.bits .andNot .i64 a2 (ji14)) (ji16))).bind fun t74005 => (some t74005)) = some r := by first | (rw [hji16] at H; exact H) | (simp only [hji16] at H ⊢; exact H)
      have hji16_ : (IntKind.i64.wrap (1 * 2 ^ min a4.toNat 64)) = ji16 := hji16
      have hji16z : a4 ≤ 64 → (IntKind.i64.wrap (1 * 2 ^ a4.toNat)) = ji16 := shl_small hji16
      have hji16u : (IntKind.i64.wrap (2 ^ min a4.toNat 64)) = ji16 := by have h_ := hji16_; rw [Int.one_mul] at h_; exact h_
      have hji16v : a4 ≤ 64 → (IntKind.i64.wrap (2 ^ a4.toNat)) = ji16 := fun hle_ => by have h_ := hji16z hle_; rw [Int.one_mul] at h_; exact h_
      have hji16y : (wrap64 (1 * 2 ^ min a4.toNat 64)) = ji16 := (i64_w _).symm.trans hji16_
      have hji16x : a4 ≤ 64 → (wrap64 (1 * 2 ^ a4.toNat)) = ji16 := fun h_ => (i64_w _).symm.trans (hji16z h_)
      replace H := Option.bind_eq_some_iff.mp H
      obtain ⟨t74005, A170, H⟩ := H
      replace H : (some t74005) = some r := H
      have A17 := aQ A170
      clear A170
      obtain rfl := Option.some.inj H
      try go_wp2
      have n0_ := aQ (blk_drew BK74001.out)
      have n1_ := aQ (blk_drew BK74002.out)
      have n2_ := aQ (below_drew1 HB.out)
      clear BK74001
      clear BK74002
      clear HB
      have BK74001 := n0_
      have BK74002 := n1_
      have HB := n2_
      clear n0_ n1_ n2_
      refine start_ (n := 10) (S := fun w' => w'.cell? ⟨gb74001, 0, none⟩ = some (.int .i64 a0_0) ∧ w'.cell? ⟨gb74001, 1, none⟩ = some (.slice A0_1 l0_1.length c0_1)) (ds := []) #[false, false, false, false, false, false, false, false, false, false] (by kernel_rfl) rfl rfl ⟨(blk_cell BK74001.out 0).trans rfl, (blk_cell BK74001.out 1).trans rfl⟩ (fun hHeld => ?_); refine with_tabW impl_goesOn.tab2 impl_goesOn.bits2 (fun HT_ HW_ => ?_)
      generalize wc.drew = w18 at BK74001 BK74002 HB hHeld ⊢
      refine puA (i := 1) (N := some 22) HT_ (h := ?_)
      refine puA (i := 2) (N := some 23) HT_ (h := ?_)
      refine puA (i := 3) (N := some 24) HT_ (h := ?_)
      refine puA (i := 4) (N := some 25) HT_ (h := ?_)
      refine puA (i := 5) (N := some 26) HT_ (h := ?_)
      refine puA (i := 6) (N := some 27) HT_ (h := ?_)
      refine puA (i := 7) (N := some 28) HT_ (h := ?_)
      refine taA2 (i := 0) (N := some 21) HT_ HW_ hHeld (h := ?_)
      refine onA (i := 8) (N := some 29) HT_ (h := fun K hK => ?_)
      refine goes_ Try.func65 (by kernel_rfl) rfl #[.agg #[.int .i64 a0_0, .slice A0_1 l0_1.length c0_1], .int .i64 (Go.bits .or .i64 (Go.bits .andNot .i64 a2 (ji14)) (ji16))] (by rfl) rfl rfl (by (try simp only [List.map_toArray, List.map_cons, List.map_nil]); first | done | (simp only [hji14, hji16]; rfl) | rfl | (simp only [List.length_drop, List.length_take]; rfl)) ?_
      with_reducible refine (impl_independent.calls kj5 a0_0 _ _ l0_1 (Go.bits .or .i64 (Go.bits .andNot .i64 a2 (ji14)) (ji16)) t74005 _ ?side1 ?side2 A17.out).mono ?_
      (case side1 => exact pC (Kd.C_below HR0_1.out HB.out))
      (case side2 => exact HC0_1.out)
      rintro e w19 ⟨rfl, hb⟩
      refine ⟨_, rfl, ?_⟩
      have n0_ := aQ (blk_below (g := gb74001) (o := .cells #[.int .i64 a0_0, .slice A0_1 l0_1.length c0_1] 26 (0, 0)) (pk BK74001.out) hb)
      have n1_ := aQ (blk_below (g := gb74002) (o := .cells #[.int .i64 a1_0, .slice A1_1 l1_1.length c1_1] 26 (0, 0)) (pk BK74002.out) hb)
      have n2_ := aQ (below_step (pB2 HB.out GE74001.out GE74002.out) hb)
      clear BK74001
      clear BK74002
      clear HB
      have BK74001 := n0_
      have BK74002 := n1_
      have HB := n2_
      clear n0_ n1_ n2_
      (try clear hb)
      (try clear hb2)
      (try clear hk)
      (try clear hi)
      refine hK.out _ _ ⟨(blk_cell BK74001.out 0).trans rfl, (blk_cell BK74001.out 1).trans rfl⟩ (fun hHeld => ?_)
      clear hK K
      refine noA (h := ?_)
      refine puA (i := 9) (N := some 10) HT_ (h := ?_)
      refine done_ (done_of HT_.out (by kernel_rfl)) ?_
      try go_wp2
      go_ret
      exact ⟨by first | rfl | (simp [errW_none, errW_some] <;> rfl) | (simp only [← hji14, ← hji16]; first | rfl | (simp [errW_none, errW_some] <;> rfl)) | (simp [*, errW_none, errW_some] <;> rfl), pB2 HB.out GE74001.out GE74002.out⟩
     ·rw [if_neg c15] at H
      exact absurd H (by simp)
    ·rw [if_neg c13] at H
     exact absurd H (by simp)
   ·replace c12 := Bool.eq_false_iff.mpr c12
    subst c12
    have H1 : ((impl_HasElement.f a2 a3).bind fun t74006 => (if t74006 = true then (some false) else ((impl_HasElement.f a2 a4).bind fun t74007 => (if t74007 = true then (if 0 ≤ a4 then (if 0 ≤ a3 then ((impl_independent.f kj5 a1_0 l1_1 (Go.bits .or .i64 (Go.bits .andNot .i64 a2 (shl .i64 1 a4)) (shl .i64 1 a3))).bind fun t74008 => (some t74008)) else (none)) else (none)) else (some false))))) = some r := by rw [if_neg (show ¬ (false = true) by decide)] at H; exact H
    clear H
    have H := H1
    clear H1
    replace H := Option.bind_eq_some_iff.mp H
    obtain ⟨t74006, A200, H⟩ := H
    replace H : (if t74006 = true then (some false) else ((impl_HasElement.f a2 a4).bind fun t74007 => (if t74007 = true then (if 0 ≤ a4 then (if 0 ≤ a3 then ((impl_independent.f kj5 a1_0 l1_1 (Go.bits .or .i64 (Go.bits .andNot .i64 a2 (shl .i64 1 a4)) (shl .i64 1 a3))).bind fun t74008 => (some t74008)) else (none)) else (none)) else (some false)))) = some r := H
    have A20 := aQ A200
    clear A200
    by_cases c21 : t74006 = true
    ·subst c21
     have H1 : (some false) = some r := by rw [if_pos rfl] at H; exact H
     clear H
     have H := H1
     clear H1
     obtain rfl := Option.some.inj H
     go_wp2_with (first | ((with_reducible refine gate_callee (f := 72) rfl ?_); refine goesL_ (some 33) rfl rfl Try.func72 (by kernel_rfl) rfl #[.int .i64 a2, .int .i64 a3] rfl lm ?_; (with_reducible refine (impl_HasElement.calls a2 a3 true _ A20.out).mono ?_); rintro e w' ⟨rfl, ⟨nd, rfl⟩⟩; refine ⟨_, rfl, ?_⟩))
     go_ret
     exact ⟨re_, pB2 HB.out GE74001.out GE74002.out⟩
    ·replace c21 := Bool.eq_false_iff.mpr c21
     subst c21
     have H1 : ((impl_HasElement.f a2 a4).bind fun t74007 => (if t74007 = true then (if 0 ≤ a4 then (if 0 ≤ a3 then ((impl_independent.f kj5 a1_0 l1_1 (Go.bits .or .i64 (Go.bits .andNot .i64 a2 (shl .i64 1 a4)) (shl .i64 1 a3))).bind fun t74008 => (some t74008)) else (none)) else (none)) else (some false))) = some r := by rw [if_neg (show ¬ (false = true) by decide)] at H; exact H
     clear H
     have H := H1
     clear H1
     replace H := Option.bind_eq_some_iff.mp H
     obtain ⟨t74007, A220, H⟩ := H
     replace H : (if t74007 = true then (if 0 ≤ a4 then (if 0 ≤ a3 then ((impl_independent.f kj5 a1_0 l1_1 (Go.bits .or .i64 (Go.bits .andNot .i64 a2 (shl .i64 1 a4)) (shl .i64 1 a3))).bind fun t74008 => (some t74008)) else (none)) else (none)) else (some false)) = some r := H
     have A22 := aQ A220
     clear A220
     by_cases c23 : t74007 = true
     ·subst c23
      have H1 : (if 0 ≤ a4 then (if 0 ≤ a3 then ((impl_independent.f kj5 a1_0 l1_1 (Go.bits .or .i64 (Go.bits .andNot .i64 a2 (shl .i64 1 a4)) (shl .i64 1 a3))).bind fun t74008 => (some t74008)) else (none)) else (none)) = some r := by rw [if_pos rfl] at H; exact H
      clear H
      have H := H1
      clear H1
      by_cases c24 : 0 ≤ a4
      ·rw [if_pos c24] at H
       have c24b0 := eq_true c24
       have c24b1 : decide (0 ≤ a4) = true := decide_eq_true c24
       clear c24
       obtain ⟨ji25, hji25⟩ : ∃ j_ : Int, (shl .i64 1 a4) = j_ := ⟨_, rfl⟩
       replace H : (if 0 ≤ a3 then ((impl_independent.f kj5 a1_0 l1_1 (Go.bits .or .i64 (Go.bits .andNot .i64 a2 (ji25)) (shl .i64 1 a3))).bind fun t74008 => (some t74008)) else (none)) = some r := by first | (rw [hji25] at H; exact H) | (simp only [hji25] at H ⊢; exact H)
       (try rw [hji25] at A20)
       (try rw [hji25] at A22)
       have hji25_ : (IntKind.i64.wrap (1 * 2 ^ min a4.toNat 64)) = ji25 := hji25
       have hji25z : a4 ≤ 64 → (IntKind.i64.wrap (1 * 2 ^ a4.toNat)) = ji25 := shl_small hji25
       have hji25u : (IntKind.i64.wrap (2 ^ min a4.toNat 64)) = ji25 := by have h_ := hji25_; rw [Int.one_mul] at h_; exact h_
       have hji25v : a4 ≤ 64 → (IntKind.i64.wrap (2 ^ a4.toNat)) = ji25 := fun hle_ => by have h_ := hji25z hle_; rw [Int.one_mul] at h_; exact h_
       have hji25y : (wrap64 (1 * 2 ^ min a4.toNat 64)) = ji25 := (i64_w _).symm.trans hji25_
       have hji25x : a4 ≤ 64 → (wrap64 (1 * 2 ^ a4.toNat)) = ji25 := fun h_ => (i64_w _).symm.trans (hji25z h_)
       by_cases c26 : 0 ≤ a3
       ·rw [if_pos c26] at H
        have c26b0 := eq_true c26
        have c26b1 : decide (0 ≤ a3) = true := decide_eq_true c26
        clear c26
        obtain ⟨ji27, hji27⟩ : ∃ j_ : Int, (shl .i64 1 a3) = j_ := ⟨_, rfl⟩
        replace H : ((impl_independent.f kj5 a1_0 l1_1 (Go.bits .or .i64 (Go.bits .andNot .i64 a2 (ji25)) (ji27))).bind fun t74008 => (some t74008)) = some r := by first | (rw [hji27] at H; exact H) | (simp only [hji27] at H ⊢; exact H)
        (try rw [hji27] at A20)
        (try rw [hji27] at A22)
        have hji27_ : (IntKind.i64.wrap (1 * 2 ^ min a3.toNat 64)) = ji27 := hji27
        have hji27z : a3 ≤ 64 → (IntKind.i64.wrap (1 * 2 ^ a3.toNat)) = ji27 := shl_small hji27
        have hji27u : (IntKind.i64.wrap (2 ^ min a3.toNat 64)) = ji27 := by have h_ := hji27_; rw [Int.one_mul] at h_; exact h_
        have hji27v : a3 ≤ 64 → (IntKind.i64.wrap (2 ^ a3.toNat)) = ji27 := fun hle_ => by have h_ := hji27z hle_; rw [Int.one_mul] at h_; exact h_
        have hji27y : (wrap64 (1 * 2 ^ min a3.toNat 64)) = ji27 := (i64_w _).symm.trans hji27_
        have hji27x : a3 ≤ 64 → (wrap64 (1 * 2 ^ a3.toNat)) = ji27 := fun h_ => (i64_w _).symm.trans (hji27z h_)
        replace H := Option.bind_eq_some_iff.mp H
        obtain ⟨t74008, A280, H⟩ := H
        replace H : (some t74008) = some r := H
        have A28 := aQ A280
        clear A280
        obtain rfl := Option.some.inj H
        try go_wp2_with (first | ((with_reducible refine gate_callee (f := 72) rfl ?_); refine goesL_ (some 33) rfl rfl Try.func72 (by kernel_rfl) rfl #[.int .i64 a2, .int .i64 a3] rfl lm ?_; (with_reducible refine (impl_HasElement.calls a2 a3 false _ A20.out).mono ?_); rintro e w' ⟨rfl, ⟨nd, rfl⟩⟩; refine ⟨_, rfl, ?_⟩) | (go_at_call 72; (with_reducible refine (impl_HasElement.calls a2 a4 true _ A22.out).mono ?_); rintro e w' ⟨rfl, ⟨nd, rfl⟩⟩))
        (try (rw [drewN_self wc]; generalize hq_ : World.drewN wc _ = wc; have n0_ : Aside0 (wc.heap[gb74001]? = some (.cells #[.int .i64 a0_0, .slice A0_1 l0_1.length c0_1] 26 (0, 0))) := ⟨by rw [← hq_]; exact (pk BK74001.out)⟩; have n1_ : Aside0 (wc.heap[gb74002]? = some (.cells #[.int .i64 a1_0, .slice A1_1 l1_1.length c1_1] 26 (0, 0))) := ⟨by rw [← hq_]; exact (pk BK74002.out)⟩; have n2_ : Aside0 (Below w.heap.size w wc) := ⟨by rw [← hq_]; exact (pB2 HB.out GE74001.out GE74002.out)⟩; clear BK74001 BK74002 HB hq_; have BK74001 := n0_; have BK74002 := n1_; have HB := n2_; clear n0_ n1_ n2_))
        have n0_ := aQ (blk_drew BK74001.out)
        have n1_ := aQ (blk_drew BK74002.out)
        have n2_ := aQ (below_drew1 HB.out)
        clear BK74001
        clear BK74002
        clear HB
        have BK74001 := n0_
        have BK74002 := n1_
        have HB := n2_
        clear n0_ n1_ n2_
        refine start_ (n := 10) (S := fun w' => w'.cell? ⟨gb74002, 0, none⟩ = some (.int .i64 a1_0) ∧ w'.cell? ⟨gb74002, 1, none⟩ = some (.slice A1_1 l1_1.length c1_1)) (ds := []) #[false, false, false, false, false, false, false, false, false, false] (by kernel_rfl) rfl rfl ⟨(blk_cell BK74002.out 0).trans rfl, (blk_cell BK74002.out 1).trans rfl⟩ (fun hHeld => ?_); refine with_tabW impl_goesOn.tab4 impl_goesOn.bits4 (fun HT_ HW_ => ?_)
        generalize wc.drew = w29 at BK74001 BK74002 HB hHeld ⊢
        refine puA (i := 1) (N := some 41) HT_ (h := ?_)
        refine puA (i := 2) (N := some 42) HT_ (h := ?_)
        refine puA (i := 3) (N := some 43) HT_ (h := ?_)
        refine puA (i := 4) (N := some 44) HT_ (h := ?_)
        refine puA (i := 5) (N := some 45) HT_ (h := ?_)
        refine puA (i := 6) (N := some 46) HT_ (h := ?_)
        refine puA (i := 7) (N := some 47) HT_ (h := ?_)
        refine taA2 (i := 0) (N := some 40) HT_ HW_ hHeld (h := ?_)
        refine onA (i := 8) (N := some 48) HT_ (h := fun K hK => ?_)
        refine goes_ Try.func65 (by kernel_rfl) rfl #[.agg #[.int .i64 a1_0, .slice A1_1 l1_1.length c1_1], .int .i64 (Go.bits .or .i64 (Go.bits .andNot .i64 a2 (ji25)) (ji27))] (by rfl) rfl rfl (by (try simp only [List.map_toArray, List.map_cons, List.map_nil]); first | done | (simp only [hji25, hji27]; rfl) | rfl | (simp only [List.length_drop, List.length_take]; rfl)) ?_
        with_reducible refine (impl_independent.calls kj5 a1_0 _ _ l1_1 (Go.bits .or .i64 (Go.bits .andNot .i64 a2 (ji25)) (ji27)) t74008 _ ?side1 ?side2 A28.out).mono ?_
        (case side1 => exact pC (Kd.C_below HR1_1.out HB.out))
        (case side2 => exact HC1_1.out)
        rintro e w30 ⟨rfl, hb⟩
        refine ⟨_, rfl, ?_⟩
        have n0_ := aQ (blk_below (g := gb74001) (o := .cells #[.int .i64 a0_0, .slice A0_1 l0_1.length c0_1] 26 (0, 0)) (pk BK74001.out) hb)
        have n1_ := aQ (blk_below (g := gb74002) (o := .cells #[.int .i64 a1_0, .slice A1_1 l1_1.length c1_1] 26 (0, 0)) (pk BK74002.out) hb)
        have n2_ := aQ (below_step (pB2 HB.out GE74001.out GE74002.out) hb)
        clear BK74001
        clear BK74002
        clear HB
        have BK74001 := n0_
        have BK74002 := n1_
        have HB := n2_
        clear n0_ n1_ n2_
        (try clear hb)
        (try clear hb2)
        (try clear hk)
        (try clear hi)
        refine hK.out _ _ ⟨(blk_cell BK74002.out 0).trans rfl, (blk_cell BK74002.out 1).trans rfl⟩ (fun hHeld => ?_)
        clear hK K
        refine noA (h := ?_)
        refine puA (i := 9) (N := some 10) HT_ (h := ?_)
        refine done_ (done_of HT_.out (by kernel_rfl)) ?_
        try go_wp2
        go_ret
        exact ⟨by first | rfl | (simp [errW_none, errW_some] <;> rfl) | (simp only [← hji25, ← hji27]; first | rfl | (simp [errW_none, errW_some] <;> rfl)) | (simp [*, errW_none, errW_some] <;> rfl), pB2 HB.out GE74001.out GE74002.out⟩
       ·rw [if_neg c26] at H
        exact absurd H (by simp)
      ·rw [if_neg c24] at H
       exact absurd H (by simp)
     ·replace c23 := Bool.eq_false_iff.mpr c23
      subst c23
      have H1 : (some false) = some r := by rw [if_neg (show ¬ (false = true) by decide)] at H; exact H
      clear H
      have H := H1
      clear H1
      obtain rfl := Option.some.inj H
      go_wp2_with (first | ((with_reducible refine gate_callee (f := 72) rfl ?_); refine goesL_ (some 33) rfl rfl Try.func72 (by kernel_rfl) rfl #[.int .i64 a2, .int .i64 a3] rfl lm ?_; (with_reducible refine (impl_HasElement.calls a2 a3 false _ A20.out).mono ?_); rintro e w' ⟨rfl, ⟨nd, rfl⟩⟩; refine ⟨_, rfl, ?_⟩) | (go_at_call 72; (with_reducible refine (impl_HasElement.calls a2 a4 false _ A22.out).mono ?_); rintro e w' ⟨rfl, ⟨nd, rfl⟩⟩))
      go_ret
      exact ⟨re_, pB2 HB.out GE74001.out GE74002.out⟩
end Go.Proofs.Ytagncnjllpebjaa.A
