/- Machine side of the law FnExactAugmentingPath: Go functions as Lean functions, and proofs that calls come to what these tell. Conditions: those in each theorem. -/
import Derived.Test.YtagncnjllpebjaaMFnExactAugmentingPath0
import Derived.Test.YtagncnjllpebjaaMFnExactAugmentingPath1
import Derived.Test.YtagncnjllpebjaaMFnExactAugmentingPath2
namespace Go.Proofs.Ytagncnjllpebjaa.A
open Go.RowKit Go.Proofs.YtagncnjllpebjaaW.PrintWords Go.Proofs.YtagncnjllpebjaaW.PrintLast Go.Proofs.YtagncnjllpebjaaW.PrintMore
attribute [local go_sem] max2_int min2_int max_two min_two max_three min_three max_four min_four
set_option linter.unusedVariables false
set_option linter.unusedSimpArgs false
/-! ### spec_IsCommon: function 66 -/
def spec_IsCommon.f (k : Nat) (a0_0 : Int) (l0_1 : List Int) (a1_0 : Int) (l1_1 : List Int) (a2 : Int) : Option (Bool) := (spec_IsMatroid.f k a0_0 l0_1).bind fun t67003 => (if t67003 = true then ((spec_IsMatroid.f k a1_0 l1_1).bind fun t67004 => (if t67004 = true then (if a0_0 = a1_0 then ((spec_IsSet.f a0_0 a2).bind fun t67005 => (if t67005 = true then ((spec_l20Free.f k a0_0 l0_1 a2).bind fun t67006 => (if t67006 = true then ((spec_l20Free.f k a1_0 l1_1 a2).bind fun t67007 => (some t67007)) else (some false))) else (some false))) else (some false)) else (some false))) else (some false))
theorem spec_IsCommon.mono : ∀ a0 a1 a2 a3 a4 k, LeO (spec_IsCommon.f k a0 a1 a2 a3 a4) (spec_IsCommon.f (k + 1) a0 a1 a2 a3 a4) := by
 intro a0 a1 a2 a3 a4 k
 unfold spec_IsCommon.f
 repeat' first
   | (with_reducible exact spec_IsMatroid.mono _ _ _)
   | (with_reducible exact spec_l20Free.mono _ _ _ _)
   | (with_reducible exact LeO.refl _)
   | (with_reducible exact LeO.none _)
   | (with_reducible refine LeO.ite ?_ ?_)
   | (with_reducible refine LeO.bind ?_ (fun _ => ?_))
   | exact spec_IsMatroid.mono _ _ _
   | exact spec_l20Free.mono _ _ _ _
   | exact LeO.none _
   | refine LeO.ite ?_ ?_
   | refine LeO.bind ?_ (fun _ => ?_)
set_option maxHeartbeats 8000000 in
set_option maxRecDepth 100000 in
theorem spec_IsCommon.calls (k : Nat) (a0_0 : Int) (A0_1 : Option Addr) (c0_1 : Nat) (l0_1 : List Int) (a1_0 : Int) (A1_1 : Option Addr) (c1_1 : Nat) (l1_1 : List Int) (a2 : Int) (r : Bool) (w : World) (hr0_1 : Kd.C (Kd.int .i64) w A0_1 l0_1.length l0_1) (hc0_1 : l0_1.length ≤ c0_1) (hr1_1 : Kd.C (Kd.int .i64) w A1_1 l1_1.length l1_1) (hc1_1 : l1_1.length ≤ c1_1) (h : spec_IsCommon.f k a0_0 l0_1 a1_0 l1_1 a2 = some r) :
  Calls Try.prog 66 #[.agg #[.int .i64 a0_0, .slice A0_1 l0_1.length c0_1], .agg #[.int .i64 a1_0, .slice A1_1 l1_1.length c1_1], .int .i64 a2] w fun e w' => e = .returned (.bool r) ∧ Below w.heap.size w w' := by
 have hu26 := Try.underlying26
 have HR0_1 := aQ hr0_1
 have HC0_1 := aQ hc0_1
 clear hr0_1 hc0_1
 have HR1_1 := aQ hr1_1
 have HC1_1 := aQ hc1_1
 clear hr1_1 hc1_1
 have HB := aQ (Below.refl w.heap.size w)
 have H : ((spec_IsMatroid.f k a0_0 l0_1).bind fun t67003 => (if t67003 = true then ((spec_IsMatroid.f k a1_0 l1_1).bind fun t67004 => (if t67004 = true then (if a0_0 = a1_0 then ((spec_IsSet.f a0_0 a2).bind fun t67005 => (if t67005 = true then ((spec_l20Free.f k a0_0 l0_1 a2).bind fun t67006 => (if t67006 = true then ((spec_l20Free.f k a1_0 l1_1 a2).bind fun t67007 => (some t67007)) else (some false))) else (some false))) else (some false)) else (some false))) else (some false))) = some r := h
 clear h
 replace H := Option.bind_eq_some_iff.mp H
 obtain ⟨t67003, A40, H⟩ := H
 replace H : (if t67003 = true then ((spec_IsMatroid.f k a1_0 l1_1).bind fun t67004 => (if t67004 = true then (if a0_0 = a1_0 then ((spec_IsSet.f a0_0 a2).bind fun t67005 => (if t67005 = true then ((spec_l20Free.f k a0_0 l0_1 a2).bind fun t67006 => (if t67006 = true then ((spec_l20Free.f k a1_0 l1_1 a2).bind fun t67007 => (some t67007)) else (some false))) else (some false))) else (some false)) else (some false))) else (some false)) = some r := H
 have A4 := aQ A40
 clear A40
 by_cases c5 : t67003 = true
 ·subst c5
  have H1 : ((spec_IsMatroid.f k a1_0 l1_1).bind fun t67004 => (if t67004 = true then (if a0_0 = a1_0 then ((spec_IsSet.f a0_0 a2).bind fun t67005 => (if t67005 = true then ((spec_l20Free.f k a0_0 l0_1 a2).bind fun t67006 => (if t67006 = true then ((spec_l20Free.f k a1_0 l1_1 a2).bind fun t67007 => (some t67007)) else (some false))) else (some false))) else (some false)) else (some false))) = some r := by rw [if_pos rfl] at H; exact H
  clear H
  have H := H1
  clear H1
  replace H := Option.bind_eq_some_iff.mp H
  obtain ⟨t67004, A60, H⟩ := H
  replace H : (if t67004 = true then (if a0_0 = a1_0 then ((spec_IsSet.f a0_0 a2).bind fun t67005 => (if t67005 = true then ((spec_l20Free.f k a0_0 l0_1 a2).bind fun t67006 => (if t67006 = true then ((spec_l20Free.f k a1_0 l1_1 a2).bind fun t67007 => (some t67007)) else (some false))) else (some false))) else (some false)) else (some false)) = some r := H
  have A6 := aQ A60
  clear A60
  by_cases c7 : t67004 = true
  ·subst c7
   have H1 : (if a0_0 = a1_0 then ((spec_IsSet.f a0_0 a2).bind fun t67005 => (if t67005 = true then ((spec_l20Free.f k a0_0 l0_1 a2).bind fun t67006 => (if t67006 = true then ((spec_l20Free.f k a1_0 l1_1 a2).bind fun t67007 => (some t67007)) else (some false))) else (some false))) else (some false)) = some r := by rw [if_pos rfl] at H; exact H
   clear H
   have H := H1
   clear H1
   by_cases c8 : a0_0 = a1_0
   ·rw [if_pos c8] at H
    have c8b0 : (a0_0 == a1_0) = true := beq_iff_eq.mpr c8
    have c8b1 : (a0_0 != a1_0) = false := bne_eq_false_iff_eq.mpr c8
    clear c8
    replace H := Option.bind_eq_some_iff.mp H
    obtain ⟨t67005, A90, H⟩ := H
    replace H : (if t67005 = true then ((spec_l20Free.f k a0_0 l0_1 a2).bind fun t67006 => (if t67006 = true then ((spec_l20Free.f k a1_0 l1_1 a2).bind fun t67007 => (some t67007)) else (some false))) else (some false)) = some r := H
    have A9 := aQ A90
    clear A90
    by_cases c10 : t67005 = true
    ·subst c10
     have H1 : ((spec_l20Free.f k a0_0 l0_1 a2).bind fun t67006 => (if t67006 = true then ((spec_l20Free.f k a1_0 l1_1 a2).bind fun t67007 => (some t67007)) else (some false))) = some r := by rw [if_pos rfl] at H; exact H
     clear H
     have H := H1
     clear H1
     replace H := Option.bind_eq_some_iff.mp H
     obtain ⟨t67006, A110, H⟩ := H
     replace H : (if t67006 = true then ((spec_l20Free.f k a1_0 l1_1 a2).bind fun t67007 => (some t67007)) else (some false)) = some r := H
     have A11 := aQ A110
     clear A110
     by_cases c12 : t67006 = true
     ·subst c12
      have H1 : ((spec_l20Free.f k a1_0 l1_1 a2).bind fun t67007 => (some t67007)) = some r := by rw [if_pos rfl] at H; exact H
      clear H
      have H := H1
      clear H1
      replace H := Option.bind_eq_some_iff.mp H
      obtain ⟨t67007, A130, H⟩ := H
      replace H : (some t67007) = some r := H
      have A13 := aQ A130
      clear A130
      obtain rfl := Option.some.inj H
      go_enter Try.func66, Try.ntmps66
      go_wp2_with (first | ((with_reducible refine gate_dst (N := 3) rfl ?_); refine box_event ?hg (N := 3) ?hd (cs := #[.int .i64 a0_0, .slice A0_1 l0_1.length c0_1]) (t := 26) ?hr ?_; (case hd => rfl); (case hg => rfl); (case hr => first | (go_simp; done) | (go_simp; rfl)); intro gb67001 hg w14 hbox hb; have BK67001 := aQ (hbox); have GW67001 := aQ ((by rw [hg]; exact (below_size (pB HB.out)) : w.heap.size ≤ gb67001)); have GE67001 := aQ ((by rw [hg]; exact (below_size (pB HB.out)) : w.heap.size ≤ gb67001)); replace HB := aQ (below_step (pB HB.out) hb); clear hb hbox hg) | ((with_reducible refine gate_dst (N := 4) rfl ?_); refine box_event ?hg (N := 4) ?hd (cs := #[.int .i64 a1_0, .slice A1_1 l1_1.length c1_1]) (t := 26) ?hr ?_; (case hd => rfl); (case hg => rfl); (case hr => first | (go_simp; done) | (go_simp; rfl)); intro gb67002 hg w15 hbox hb; have BK67002 := aQ (hbox); have GW67002 := aQ ((by rw [hg]; exact (below_size (pB1 HB.out GE67001.out)) : w.heap.size ≤ gb67002)); have GE67002 := aQ ((by rw [hg]; exact (below_size (pB1 HB.out GE67001.out)) : w.heap.size ≤ gb67002)); replace HB := aQ (below_step (pB1 HB.out GE67001.out) hb); have NB67001_67002 := aQ ((by rw [hg]; exact Nat.ne_of_lt (blk_lt (g := gb67001) (o := .cells #[.int .i64 a0_0, .slice A0_1 l0_1.length c0_1] 26 (0, 0)) (pk BK67001.out)) : gb67001 ≠ gb67002)); have NB67002_67001 := aQ ((by rw [hg]; exact Nat.ne_of_gt (blk_lt (g := gb67001) (o := .cells #[.int .i64 a0_0, .slice A0_1 l0_1.length c0_1] 26 (0, 0)) (pk BK67001.out)) : gb67002 ≠ gb67001)); replace BK67001 := aQ (blk_below (g := gb67001) (o := .cells #[.int .i64 a0_0, .slice A0_1 l0_1.length c0_1] 26 (0, 0)) (pk BK67001.out) hb); clear hb hbox hg; have hnb16 := NB67001_67002.out; have hnc16 := NB67002_67001.out; have hcz17_0 := bc (v := (.int .i64 a0_0)) BK67001.out 0; have hcz17_1 := bc (v := (.slice A0_1 l0_1.length c0_1)) BK67001.out 1; have hfz17_0 := blk_frozen BK67001.out 0; have hfz17_1 := blk_frozen BK67001.out 1) | ((with_reducible refine gate_callee (f := 74) rfl ?_); refine goesL_ (some 8) rfl rfl Try.func74 (by kernel_rfl) rfl #[.agg #[.int .i64 a0_0, .slice A0_1 l0_1.length c0_1]] rfl lm ?_; (with_reducible refine (spec_IsMatroid.calls k a0_0 _ _ l0_1 true _ ?side1 ?side2 A4.out).mono ?_); (case side1 => exact pC (Kd.C_below HR0_1.out HB.out)); (case side2 => exact HC0_1.out); rintro e w18 ⟨rfl, hb⟩; refine ⟨_, rfl, ?_⟩; replace BK67001 := aQ (blk_below (g := gb67001) (o := .cells #[.int .i64 a0_0, .slice A0_1 l0_1.length c0_1] 26 (0, 0)) (pk BK67001.out) hb); replace BK67002 := aQ (blk_below (g := gb67002) (o := .cells #[.int .i64 a1_0, .slice A1_1 l1_1.length c1_1] 26 (0, 0)) (pk BK67002.out) hb); replace HB := aQ (below_step (pB2 HB.out GE67001.out GE67002.out) hb); (try clear hb); have hcz19_0 := bc (v := (.int .i64 a1_0)) BK67002.out 0; have hcz19_1 := bc (v := (.slice A1_1 l1_1.length c1_1)) BK67002.out 1; have hfz19_0 := blk_frozen BK67002.out 0; have hfz19_1 := blk_frozen BK67002.out 1) | (go_at_call 74; (with_reducible refine (spec_IsMatroid.calls k a1_0 _ _ l1_1 true _ ?side1 ?side2 A6.out).mono ?_); (case side1 => exact pC (Kd.C_below HR1_1.out HB.out)); (case side2 => exact HC1_1.out); rintro e w20 ⟨rfl, hb⟩; replace BK67001 := aQ (blk_below (g := gb67001) (o := .cells #[.int .i64 a0_0, .slice A0_1 l0_1.length c0_1] 26 (0, 0)) (pk BK67001.out) hb); replace BK67002 := aQ (blk_below (g := gb67002) (o := .cells #[.int .i64 a1_0, .slice A1_1 l1_1.length c1_1] 26 (0, 0)) (pk BK67002.out) hb); replace HB := aQ (below_step (pB2 HB.out GE67001.out GE67002.out) hb); (try clear hb); have hcz21_0 := bc (v := (.int .i64 a0_0)) BK67001.out 0; have hcz21_1 := bc (v := (.slice A0_1 l0_1.length c0_1)) BK67001.out 1; have hfz21_0 := blk_frozen BK67001.out 0; have hfz21_1 := blk_frozen BK67001.out 1; have hcz22_0 := bc (v := (.int .i64 a1_0)) BK67002.out 0; have hcz22_1 := bc (v := (.slice A1_1 l1_1.length c1_1)) BK67002.out 1; have hfz22_0 := blk_frozen BK67002.out 0; have hfz22_1 := blk_frozen BK67002.out 1) | (go_at_call 129; (with_reducible refine (spec_IsSet.calls a0_0 a2 true _ A9.out).mono ?_); rintro e w' ⟨rfl, ⟨nd, rfl⟩⟩) | (go_at_call 69; (with_reducible refine (spec_l20Free.calls k a0_0 _ _ l0_1 a2 true _ ?side1 ?side2 A11.out).mono ?_); (case side1 => repeat (first | exact (Kd.C_below HR0_1.out (pB2 HB.out GE67001.out GE67002.out)) | (with_reducible refine Kd.C_alloc ?_ _) | (with_reducible refine Kd.C_drewN ?_ _) | (with_reducible refine Kd.C_drew ?_))); (case side2 => exact HC0_1.out); rintro e w23 ⟨rfl, hb⟩; replace BK67001 := aQ (blk_below (g := gb67001) (o := .cells #[.int .i64 a0_0, .slice A0_1 l0_1.length c0_1] 26 (0, 0)) (pk BK67001.out) hb); replace BK67002 := aQ (blk_below (g := gb67002) (o := .cells #[.int .i64 a1_0, .slice A1_1 l1_1.length c1_1] 26 (0, 0)) (pk BK67002.out) hb); replace HB := aQ (below_step (pB2 HB.out GE67001.out GE67002.out) hb); (try clear hb); have hcz24_0 := bc (v := (.int .i64 a1_0)) BK67002.out 0; have hcz24_1 := bc (v := (.slice A1_1 l1_1.length c1_1)) BK67002.out 1; have hfz24_0 := blk_frozen BK67002.out 0; have hfz24_1 := blk_frozen BK67002.out 1) | (go_at_call 69; (with_reducible refine (spec_l20Free.calls k a1_0 _ _ l1_1 a2 t67007 _ ?side1 ?side2 A13.out).mono ?_); (case side1 => exact pC (Kd.C_below HR1_1.out HB.out)); (case side2 => exact HC1_1.out); rintro e w25 ⟨rfl, hb⟩; replace BK67001 := aQ (blk_below (g := gb67001) (o := .cells #[.int .i64 a0_0, .slice A0_1 l0_1.length c0_1] 26 (0, 0)) (pk BK67001.out) hb); replace BK67002 := aQ (blk_below (g := gb67002) (o := .cells #[.int .i64 a1_0, .slice A1_1 l1_1.length c1_1] 26 (0, 0)) (pk BK67002.out) hb); replace HB := aQ (below_step (pB2 HB.out GE67001.out GE67002.out) hb); (try clear hb)))
      go_ret
      exact ⟨re_, pB2 HB.out GE67001.out GE67002.out⟩
     ·replace c12 := Bool.eq_false_iff.mpr c12
      subst c12
      have H1 : (some false) = some r := by rw [if_neg (show ¬ (false = true) by decide)] at H; exact H
      clear H
      have H := H1
      clear H1
      obtain rfl := Option.some.inj H
      go_enter Try.func66, Try.ntmps66
      go_wp2_with (first | ((with_reducible refine gate_dst (N := 3) rfl ?_); refine box_event ?hg (N := 3) ?hd (cs := #[.int .i64 a0_0, .slice A0_1 l0_1.length c0_1]) (t := 26) ?hr ?_; (case hd => rfl); (case hg => rfl); (case hr => first | (go_simp; done) | (go_simp; rfl)); intro gb67001 hg w26 hbox hb; have BK67001 := aQ (hbox); have GW67001 := aQ ((by rw [hg]; exact (below_size (pB HB.out)) : w.heap.size ≤ gb67001)); have GE67001 := aQ ((by rw [hg]; exact (below_size (pB HB.out)) : w.heap.size ≤ gb67001)); replace HB := aQ (below_step (pB HB.out) hb); clear hb hbox hg) | ((with_reducible refine gate_dst (N := 4) rfl ?_); refine box_event ?hg (N := 4) ?hd (cs := #[.int .i64 a1_0, .slice A1_1 l1_1.length c1_1]) (t := 26) ?hr ?_; (case hd => rfl); (case hg => rfl); (case hr => first | (go_simp; done) | (go_simp; rfl)); intro gb67002 hg w27 hbox hb; have BK67002 := aQ (hbox); have GW67002 := aQ ((by rw [hg]; exact (below_size (pB1 HB.out GE67001.out)) : w.heap.size ≤ gb67002)); have GE67002 := aQ ((by rw [hg]; exact (below_size (pB1 HB.out GE67001.out)) : w.heap.size ≤ gb67002)); replace HB := aQ (below_step (pB1 HB.out GE67001.out) hb); have NB67001_67002 := aQ ((by rw [hg]; exact Nat.ne_of_lt (blk_lt (g := gb67001) (o := .cells #[.int .i64 a0_0, .slice A0_1 l0_1.length c0_1] 26 (0, 0)) (pk BK67001.out)) : gb67001 ≠ gb67002)); have NB67002_67001 := aQ ((by rw [hg]; exact Nat.ne_of_gt (blk_lt (g := gb67001) (o := .cells #[.int .i64 a0_0, .slice A0_1 l0_1.length c0_1] 26 (0, 0)) (pk BK67001.out)) : gb67002 ≠ gb67001)); replace BK67001 := aQ (blk_below (g := gb67001) (o := .cells #[.int .i64 a0_0, .slice A0_1 l0_1.length c0_1] 26 (0, 0)) (pk BK67001.out) hb); clear hb hbox hg; have hnb28 := NB67001_67002.out; have hnc28 := NB67002_67001.out; have hcz29_0 := bc (v := (.int .i64 a0_0)) BK67001.out 0; have hcz29_1 := bc (v := (.slice A0_1 l0_1.length c0_1)) BK67001.out 1; have hfz29_0 := blk_frozen BK67001.out 0; have hfz29_1 := blk_frozen BK67001.out 1) | ((with_reducible refine gate_callee (f := 74) rfl ?_); refine goesL_ (some 8) rfl rfl Try.func74 (by kernel_rfl) rfl #[.agg #[.int .i64 a0_0, .slice A0_1 l0_1.length c0_1]] rfl lm ?_; (with_reducible refine (spec_IsMatroid.calls k a0_0 _ _ l0_1 true _ ?side1 ?side2 A4.out).mono ?_); (case side1 => exact pC (Kd.C_below HR0_1.out HB.out)); (case side2 => exact HC0_1.out); rintro e w30 ⟨rfl, hb⟩; refine ⟨_, rfl, ?_⟩; replace BK67001 := aQ (blk_below (g := gb67001) (o := .cells #[.int .i64 a0_0, .slice A0_1 l0_1.length c0_1] 26 (0, 0)) (pk BK67001.out) hb); replace BK67002 := aQ (blk_below (g := gb67002) (o := .cells #[.int .i64 a1_0, .slice A1_1 l1_1.length c1_1] 26 (0, 0)) (pk BK67002.out) hb); replace HB := aQ (below_step (pB2 HB.out GE67001.out GE67002.out) hb); (try clear hb); have hcz31_0 := bc (v := (.int .i64 a1_0)) BK67002.out 0; have hcz31_1 := bc (v := (.slice A1_1 l1_1.length c1_1)) BK67002.out 1; have hfz31_0 := blk_frozen BK67002.out 0; have hfz31_1 := blk_frozen BK67002.out 1) | (go_at_call 74; (with_reducible refine (spec_IsMatroid.calls k a1_0 _ _ l1_1 true _ ?side1 ?side2 A6.out).mono ?_); (case side1 => exact pC (Kd.C_below HR1_1.out HB.out)); (case side2 => exact HC1_1.out); rintro e w32 ⟨rfl, hb⟩; replace BK67001 := aQ (blk_below (g := gb67001) (o := .cells #[.int .i64 a0_0, .slice A0_1 l0_1.length c0_1] 26 (0, 0)) (pk BK67001.out) hb); replace BK67002 := aQ (blk_below (g := gb67002) (o := .cells #[.int .i64 a1_0, .slice A1_1 l1_1.length c1_1] 26 (0, 0)) (pk BK67002.out) hb); replace HB := aQ (below_step (pB2 HB.out GE67001.out GE67002.out) hb); (try clear hb); have hcz33_0 := bc (v := (.int .i64 a0_0)) BK67001.out 0; have hcz33_1 := bc (v := (.slice A0_1 l0_1.length c0_1)) BK67001.out 1; have hfz33_0 := blk_frozen BK67001.out 0; have hfz33_1 := blk_frozen BK67001.out 1; have hcz34_0 := bc (v := (.int .i64 a1_0)) BK67002.out 0; have hcz34_1 := bc (v := (.slice A1_1 l1_1.length c1_1)) BK67002.out 1; have hfz34_0 := blk_frozen BK67002.out 0; have hfz34_1 := blk_frozen BK67002.out 1) | (go_at_call 129; (with_reducible refine (spec_IsSet.calls a0_0 a2 true _ A9.out).mono ?_); rintro e w' ⟨rfl, ⟨nd, rfl⟩⟩) | (go_at_call 69; (with_reducible refine (spec_l20Free.calls k a0_0 _ _ l0_1 a2 false _ ?side1 ?side2 A11.out).mono ?_); (case side1 => repeat (first | exact (Kd.C_below HR0_1.out (pB2 HB.out GE67001.out GE67002.out)) | (with_reducible refine Kd.C_alloc ?_ _) | (with_reducible refine Kd.C_drewN ?_ _) | (with_reducible refine Kd.C_drew ?_))); (case side2 => exact HC0_1.out); rintro e w35 ⟨rfl, hb⟩; replace BK67001 := aQ (blk_below (g := gb67001) (o := .cells #[.int .i64 a0_0, .slice A0_1 l0_1.length c0_1] 26 (0, 0)) (pk BK67001.out) hb); replace BK67002 := aQ (blk_below (g := gb67002) (o := .cells #[.int .i64 a1_0, .slice A1_1 l1_1.length c1_1] 26 (0, 0)) (pk BK67002.out) hb); replace HB := aQ (below_step (pB2 HB.out GE67001.out GE67002.out) hb); (try clear hb)))
      go_ret
      exact ⟨re_, pB2 HB.out GE67001.out GE67002.out⟩
    ·replace c10 := Bool.eq_false_iff.mpr c10
     subst c10
     have H1 : (some false) = some r := by rw [if_neg (show ¬ (false = true) by decide)] at H; exact H
     clear H
     have H := H1
     clear H1
     obtain rfl := Option.some.inj H
     go_enter Try.func66, Try.ntmps66
     go_wp2_with (first | ((with_reducible refine gate_dst (N := 3) rfl ?_); refine box_event ?hg (N := 3) ?hd (cs := #[.int .i64 a0_0, .slice A0_1 l0_1.length c0_1]) (t := 26) ?hr ?_; (case hd => rfl); (case hg => rfl); (case hr => first | (go_simp; done) | (go_simp; rfl)); intro gb67001 hg w36 hbox hb; have BK67001 := aQ (hbox); have GW67001 := aQ ((by rw [hg]; exact (below_size (pB HB.out)) : w.heap.size ≤ gb67001)); have GE67001 := aQ ((by rw [hg]; exact (below_size (pB HB.out)) : w.heap.size ≤ gb67001)); replace HB := aQ (below_step (pB HB.out) hb); clear hb hbox hg) | ((with_reducible refine gate_dst (N := 4) rfl ?_); refine box_event ?hg (N := 4) ?hd (cs := #[.int .i64 a1_0, .slice A1_1 l1_1.length c1_1]) (t := 26) ?hr ?_; (case hd => rfl); (case hg => rfl); (case hr => first | (go_simp; done) | (go_simp; rfl)); intro gb67002 hg w37 hbox hb; have BK67002 := aQ (hbox); have GW67002 := aQ ((by rw [hg]; exact (below_size (pB1 HB.out GE67001.out)) : w.heap.size ≤ gb67002)); have GE67002 := aQ ((by rw [hg]; exact (below_size (pB1 HB.out GE67001.out)) : w.heap.size ≤ gb67002)); replace HB := aQ (below_step (pB1 HB.out GE67001.out) hb); have NB67001_67002 := aQ ((by rw [hg]; exact Nat.ne_of_lt (blk_lt (g := gb67001) (o := .cells #[.int .i64 a0_0, .slice A0_1 l0_1.length c0_1] 26 (0, 0)) (pk BK67001.out)) : gb67001 ≠ gb67002)); have NB67002_67001 := aQ ((by rw [hg]; exact Nat.ne_of_gt (blk_lt (g := gb67001) (o := .cells #[.int .i64 a0_0, .slice A0_1 l0_1.length c0_1] 26 (0, 0)) (pk BK67001.out)) : gb67002 ≠ gb67001)); replace BK67001 := aQ (blk_below (g := gb67001) (o := .cells #[.int .i64 a0_0, .slice A0_1 l0_1.length c0_1] 26 (0, 0)) (pk BK67001.out) hb); clear hb hbox hg; have hnb38 := NB67001_67002.out; have hnc38 := NB67002_67001.out; have hcz39_0 := bc (v := (.int .i64 a0_0)) BK67001.out 0; have hcz39_1 := bc (v := (.slice A0_1 l0_1.length c0_1)) BK67001.out 1; have hfz39_0 := blk_frozen BK67001.out 0; have hfz39_1 := blk_frozen BK67001.out 1) | ((with_reducible refine gate_callee (f := 74) rfl ?_); refine goesL_ (some 8) rfl rfl Try.func74 (by kernel_rfl) rfl #[.agg #[.int .i64 a0_0, .slice A0_1 l0_1.length c0_1]] rfl lm ?_; (with_reducible refine (spec_IsMatroid.calls k a0_0 _ _ l0_1 true _ ?side1 ?side2 A4.out).mono ?_); (case side1 => exact pC (Kd.C_below HR0_1.out HB.out)); (case side2 => exact HC0_1.out); rintro e w40 ⟨rfl, hb⟩; refine ⟨_, rfl, ?_⟩; replace BK67001 := aQ (blk_below (g := gb67001) (o := .cells #[.int .i64 a0_0, .slice A0_1 l0_1.length c0_1] 26 (0, 0)) (pk BK67001.out) hb); replace BK67002 := aQ (blk_below (g := gb67002) (o := .cells #[.int .i64 a1_0, .slice A1_1 l1_1.length c1_1] 26 (0, 0)) (pk BK67002.out) hb); replace HB := aQ (below_step (pB2 HB.out GE67001.out GE67002.out) hb); (try clear hb); have hcz41_0 := bc (v := (.int .i64 a1_0)) BK67002.out 0; have hcz41_1 := bc (v := (.slice A1_1 l1_1.length c1_1)) BK67002.out 1; have hfz41_0 := blk_frozen BK67002.out 0; have hfz41_1 := blk_frozen BK67002.out 1) | (go_at_call 74; (with_reducible refine (spec_IsMatroid.calls k a1_0 _ _ l1_1 true _ ?side1 ?side2 A6.out).mono ?_); (case side1 => exact pC (Kd.C_below HR1_1.out HB.out)); (case side2 => exact HC1_1.out); rintro e w42 ⟨rfl, hb⟩; replace BK67001 := aQ (blk_below (g := gb67001) (o := .cells #[.int .i64 a0_0, .slice A0_1 l0_1.length c0_1] 26 (0, 0)) (pk BK67001.out) hb); replace BK67002 := aQ (blk_below (g := gb67002) (o := .cells #[.int .i64 a1_0, .slice A1_1 l1_1.length c1_1] 26 (0, 0)) (pk BK67002.out) hb); replace HB := aQ (below_step (pB2 HB.out GE67001.out GE67002.out) hb); (try clear hb); have hcz43_0 := bc (v := (.int .i64 a0_0)) BK67001.out 0; have hcz43_1 := bc (v := (.slice A0_1 l0_1.length c0_1)) BK67001.out 1; have hfz43_0 := blk_frozen BK67001.out 0; have hfz43_1 := blk_frozen BK67001.out 1; have hcz44_0 := bc (v := (.int .i64 a1_0)) BK67002.out 0; have hcz44_1 := bc (v := (.slice A1_1 l1_1.length c1_1)) BK67002.out 1; have hfz44_0 := blk_frozen BK67002.out 0; have hfz44_1 := blk_frozen BK67002.out 1) | (go_at_call 129; (with_reducible refine (spec_IsSet.calls a0_0 a2 false _ A9.out).mono ?_); rintro e w' ⟨rfl, ⟨nd, rfl⟩⟩))
     go_ret
     exact ⟨re_, pB2 HB.out GE67001.out GE67002.out⟩
   ·rw [if_neg c8] at H
    have c8b0 : (a0_0 == a1_0) = false := beq_eq_false_iff_ne.mpr c8
    have c8b1 : (a0_0 != a1_0) = true := bne_iff_ne.mpr c8
    obtain rfl := Option.some.inj H
    go_enter Try.func66, Try.ntmps66
    go_wp2_with (first | ((with_reducible refine gate_dst (N := 3) rfl ?_); refine box_event ?hg (N := 3) ?hd (cs := #[.int .i64 a0_0, .slice A0_1 l0_1.length c0_1]) (t := 26) ?hr ?_; (case hd => rfl); (case hg => rfl); (case hr => first | (go_simp; done) | (go_simp; rfl)); intro gb67001 hg w45 hbox hb; have BK67001 := aQ (hbox); have GW67001 := aQ ((by rw [hg]; exact (below_size (pB HB.out)) : w.heap.size ≤ gb67001)); have GE67001 := aQ ((by rw [hg]; exact (below_size (pB HB.out)) : w.heap.size ≤ gb67001)); replace HB := aQ (below_step (pB HB.out) hb); clear hb hbox hg) | ((with_reducible refine gate_dst (N := 4) rfl ?_); refine box_event ?hg (N := 4) ?hd (cs := #[.int .i64 a1_0, .slice A1_1 l1_1.length c1_1]) (t := 26) ?hr ?_; (case hd => rfl); (case hg => rfl); (case hr => first | (go_simp; done) | (go_simp; rfl)); intro gb67002 hg w46 hbox hb; have BK67002 := aQ (hbox); have GW67002 := aQ ((by rw [hg]; exact (below_size (pB1 HB.out GE67001.out)) : w.heap.size ≤ gb67002)); have GE67002 := aQ ((by rw [hg]; exact (below_size (pB1 HB.out GE67001.out)) : w.heap.size ≤ gb67002)); replace HB := aQ (below_step (pB1 HB.out GE67001.out) hb); have NB67001_67002 := aQ ((by rw [hg]; exact Nat.ne_of_lt (blk_lt (g := gb67001) (o := .cells #[.int .i64 a0_0, .slice A0_1 l0_1.length c0_1] 26 (0, 0)) (pk BK67001.out)) : gb67001 ≠ gb67002)); have NB67002_67001 := aQ ((by rw [hg]; exact Nat.ne_of_gt (blk_lt (g := gb67001) (o := .cells #[.int .i64 a0_0, .slice A0_1 l0_1.length c0_1] 26 (0, 0)) (pk BK67001.out)) : gb67002 ≠ gb67001)); replace BK67001 := aQ (blk_below (g := gb67001) (o := .cells #[.int .i64 a0_0, .slice A0_1 l0_1.length c0_1] 26 (0, 0)) (pk BK67001.out) hb); clear hb hbox hg; have hnb47 := NB67001_67002.out; have hnc47 := NB67002_67001.out; have hcz48_0 := bc (v := (.int .i64 a0_0)) BK67001.out 0; have hcz48_1 := bc (v := (.slice A0_1 l0_1.length c0_1)) BK67001.out 1; have hfz48_0 := blk_frozen BK67001.out 0; have hfz48_1 := blk_frozen BK67001.out 1) | ((with_reducible refine gate_callee (f := 74) rfl ?_); refine goesL_ (some 8) rfl rfl Try.func74 (by kernel_rfl) rfl #[.agg #[.int .i64 a0_0, .slice A0_1 l0_1.length c0_1]] rfl lm ?_; (with_reducible refine (spec_IsMatroid.calls k a0_0 _ _ l0_1 true _ ?side1 ?side2 A4.out).mono ?_); (case side1 => exact pC (Kd.C_below HR0_1.out HB.out)); (case side2 => exact HC0_1.out); rintro e w49 ⟨rfl, hb⟩; refine ⟨_, rfl, ?_⟩; replace BK67001 := aQ (blk_below (g := gb67001) (o := .cells #[.int .i64 a0_0, .slice A0_1 l0_1.length c0_1] 26 (0, 0)) (pk BK67001.out) hb); replace BK67002 := aQ (blk_below (g := gb67002) (o := .cells #[.int .i64 a1_0, .slice A1_1 l1_1.length c1_1] 26 (0, 0)) (pk BK67002.out) hb); replace HB := aQ (below_step (pB2 HB.out GE67001.out GE67002.out) hb); (try clear hb); have hcz50_0 := bc (v := (.int .i64 a1_0)) BK67002.out 0; have hcz50_1 := bc (v := (.slice A1_1 l1_1.length c1_1)) BK67002.out 1; have hfz50_0 := blk_frozen BK67002.out 0; have hfz50_1 := blk_frozen BK67002.out 1) | (go_at_call 74; (with_reducible refine (spec_IsMatroid.calls k a1_0 _ _ l1_1 true _ ?side1 ?side2 A6.out).mono ?_); (case side1 => exact pC (Kd.C_below HR1_1.out HB.out)); (case side2 => exact HC1_1.out); rintro e w51 ⟨rfl, hb⟩; replace BK67001 := aQ (blk_below (g := gb67001) (o := .cells #[.int .i64 a0_0, .slice A0_1 l0_1.length c0_1] 26 (0, 0)) (pk BK67001.out) hb); replace BK67002 := aQ (blk_below (g := gb67002) (o := .cells #[.int .i64 a1_0, .slice A1_1 l1_1.length c1_1] 26 (0, 0)) (pk BK67002.out) hb); replace HB := aQ (below_step (pB2 HB.out GE67001.out GE67002.out) hb); (try clear hb); have hcz52_0 := bc (v := (.int .i64 a0_0)) BK67001.out 0; have hcz52_1 := bc (v := (.slice A0_1 l0_1.length c0_1)) BK67001.out 1; have hfz52_0 := blk_frozen BK67001.out 0; have hfz52_1 := blk_frozen BK67001.out 1; have hcz53_0 := bc (v := (.int .i64 a1_0)) BK67002.out 0; have hcz53_1 := bc (v := (.slice A1_1 l1_1.length c1_1)) BK67002.out 1; have hfz53_0 := blk_frozen BK67002.out 0; have hfz53_1 := blk_frozen BK67002.out 1))
    go_ret
    exact ⟨re_, pB2 HB.out GE67001.out GE67002.out⟩
  ·replace c7 := Bool.eq_false_iff.mpr c7
   subst c7
   have H1 : (some false) = some r := by rw [if_neg (show ¬ (false = true) by decide)] at H; exact H
   clear H
   have H := H1
   clear H1
   obtain rfl := Option.some.inj H
   go_enter Try.func66, Try.ntmps66
   go_wp2_with (first | ((with_reducible refine gate_dst (N := 3) rfl ?_); refine box_event ?hg (N := 3) ?hd (cs := #[.int .i64 a0_0, .slice A0_1 l0_1.length c0_1]) (t := 26) ?hr ?_; (case hd => rfl); (case hg => rfl); (case hr => first | (go_simp; done) | (go_simp; rfl)); intro gb67001 hg w54 hbox hb; have BK67001 := aQ (hbox); have GW67001 := aQ ((by rw [hg]; exact (below_size (pB HB.out)) : w.heap.size ≤ gb67001)); have GE67001 := aQ ((by rw [hg]; exact (below_size (pB HB.out)) : w.heap.size ≤ gb67001)); replace HB := aQ (below_step (pB HB.out) hb); clear hb hbox hg) | ((with_reducible refine gate_dst (N := 4) rfl ?_); refine box_event ?hg (N := 4) ?hd (cs := #[.int .i64 a1_0, .slice A1_1 l1_1.length c1_1]) (t := 26) ?hr ?_; (case hd => rfl); (case hg => rfl); (case hr => first | (go_simp; done) | (go_simp; rfl)); intro gb67002 hg w55 hbox hb; have BK67002 := aQ (hbox); have GW67002 := aQ ((by rw [hg]; exact (below_size (pB1 HB.out GE67001.out)) : w.heap.size ≤ gb67002)); have GE67002 := aQ ((by rw [hg]; exact (below_size (pB1 HB.out GE67001.out)) : w.heap.size ≤ gb67002)); replace HB := aQ (below_step (pB1 HB.out GE67001.out) hb); have NB67001_67002 := aQ ((by rw [hg]; exact Nat.ne_of_lt (blk_lt (g := gb67001) (o := .cells #[.int .i64 a0_0, .slice A0_1 l0_1.length c0_1] 26 (0, 0)) (pk BK67001.out)) : gb67001 ≠ gb67002)); have NB67002_67001 := aQ ((by rw [hg]; exact Nat.ne_of_gt (blk_lt (g := gb67001) (o := .cells #[.int .i64 a0_0, .slice A0_1 l0_1.length c0_1] 26 (0, 0)) (pk BK67001.out)) : gb67002 ≠ gb67001)); replace BK67001 := aQ (blk_below (g := gb67001) (o := .cells #[.int .i64 a0_0, .slice A0_1 l0_1.length c0_1] 26 (0, 0)) (pk BK67001.out) hb); clear hb hbox hg; have hnb56 := NB67001_67002.out; have hnc56 := NB67002_67001.out; have hcz57_0 := bc (v := (.int .i64 a0_0)) BK67001.out 0; have hcz57_1 := bc (v := (.slice A0_1 l0_1.length c0_1)) BK67001.out 1; have hfz57_0 := blk_frozen BK67001.out 0; have hfz57_1 := blk_frozen BK67001.out 1) | ((with_reducible refine gate_callee (f := 74) rfl ?_); refine goesL_ (some 8) rfl rfl Try.func74 (by kernel_rfl) rfl #[.agg #[.int .i64 a0_0, .slice A0_1 l0_1.length c0_1]] rfl lm ?_; (with_reducible refine (spec_IsMatroid.calls k a0_0 _ _ l0_1 true _ ?side1 ?side2 A4.out).mono ?_); (case side1 => exact pC (Kd.C_below HR0_1.out HB.out)); (case side2 => exact HC0_1.out); rintro e w58 ⟨rfl, hb⟩; refine ⟨_, rfl, ?_⟩; replace BK67001 := aQ (blk_below (g := gb67001) (o := .cells #[.int .i64 a0_0, .slice A0_1 l0_1.length c0_1] 26 (0, 0)) (pk BK67001.out) hb); replace BK67002 := aQ (blk_below (g := gb67002) (o := .cells #[.int .i64 a1_0, .slice A1_1 l1_1.length c1_1] 26 (0, 0)) (pk BK67002.out) hb); replace HB := aQ (below_step (pB2 HB.out GE67001.out GE67002.out) hb); (try clear hb); have hcz59_0 := bc (v := (.int .i64 a1_0)) BK67002.out 0; have hcz59_1 := bc (v := (.slice A1_1 l1_1.length c1_1)) BK67002.out 1; have hfz59_0 := blk_frozen BK67002.out 0; have hfz59_1 := blk_frozen BK67002.out 1) | (go_at_call 74; (with_reducible refine (spec_IsMatroid.calls k a1_0 _ _ l1_1 false _ ?side1 ?side2 A6.out).mono ?_); (case side1 => exact pC (Kd.C_below HR1_1.out HB.out)); (case side2 => exact HC1_1.out); rintro e w60 ⟨rfl, hb⟩; replace BK67001 := aQ (blk_below (g := gb67001) (o := .cells #[.int .i64 a0_0, .slice A0_1 l0_1.length c0_1] 26 (0, 0)) (pk BK67001.out) hb); replace BK67002 := aQ (blk_below (g := gb67002) (o := .cells #[.int .i64 a1_0, .slice A1_1 l1_1.length c1_1] 26 (0, 0)) (pk BK67002.out) hb); replace HB := aQ (below_step (pB2 HB.out GE67001.out GE67002.out) hb); (try clear hb)))
   go_ret
   exact ⟨re_, pB2 HB.out GE67001.out GE67002.out⟩
 ·replace c5 := Bool.eq_false_iff.mpr c5
  subst c5
  have H1 : (some false) = some r := by rw [if_neg (show ¬ (false = true) by decide)] at H; exact H
  clear H
  have H := H1
  clear H1
  obtain rfl := Option.some.inj H
  go_enter Try.func66, Try.ntmps66
  go_wp2_with (first | ((with_reducible refine gate_dst (N := 3) rfl ?_); refine box_event ?hg (N := 3) ?hd (cs := #[.int .i64 a0_0, .slice A0_1 l0_1.length c0_1]) (t := 26) ?hr ?_; (case hd => rfl); (case hg => rfl); (case hr => first | (go_simp; done) | (go_simp; rfl)); intro gb67001 hg w61 hbox hb; have BK67001 := aQ (hbox); have GW67001 := aQ ((by rw [hg]; exact (below_size (pB HB.out)) : w.heap.size ≤ gb67001)); have GE67001 := aQ ((by rw [hg]; exact (below_size (pB HB.out)) : w.heap.size ≤ gb67001)); replace HB := aQ (below_step (pB HB.out) hb); clear hb hbox hg) | ((with_reducible refine gate_dst (N := 4) rfl ?_); refine box_event ?hg (N := 4) ?hd (cs := #[.int .i64 a1_0, .slice A1_1 l1_1.length c1_1]) (t := 26) ?hr ?_; (case hd => rfl); (case hg => rfl); (case hr => first | (go_simp; done) | (go_simp; rfl)); intro gb67002 hg w62 hbox hb; have BK67002 := aQ (hbox); have GW67002 := aQ ((by rw [hg]; exact (below_size (pB1 HB.out GE67001.out)) : w.heap.size ≤ gb67002)); have GE67002 := aQ ((by rw [hg]; exact (below_size (pB1 HB.out GE67001.out)) : w.heap.size ≤ gb67002)); replace HB := aQ (below_step (pB1 HB.out GE67001.out) hb); have NB67001_67002 := aQ ((by rw [hg]; exact Nat.ne_of_lt (blk_lt (g := gb67001) (o := .cells #[.int .i64 a0_0, .slice A0_1 l0_1.length c0_1] 26 (0, 0)) (pk BK67001.out)) : gb67001 ≠ gb67002)); have NB67002_67001 := aQ ((by rw [hg]; exact Nat.ne_of_gt (blk_lt (g := gb67001) (o := .cells #[.int .i64 a0_0, .slice A0_1 l0_1.length c0_1] 26 (0, 0)) (pk BK67001.out)) : gb67002 ≠ gb67001)); replace BK67001 := aQ (blk_below (g := gb67001) (o := .cells #[.int .i64 a0_0, .slice A0_1 l0_1.length c0_1] 26 (0, 0)) (pk BK67001.out) hb); clear hb hbox hg; have hnb63 := NB67001_67002.out; have hnc63 := NB67002_67001.out; have hcz64_0 := bc (v := (.int .i64 a0_0)) BK67001.out 0; have hcz64_1 := bc (v := (.slice A0_1 l0_1.length c0_1)) BK67001.out 1; have hfz64_0 := blk_frozen BK67001.out 0; have hfz64_1 := blk_frozen BK67001.out 1) | ((with_reducible refine gate_callee (f := 74) rfl ?_); refine goesL_ (some 8) rfl rfl Try.func74 (by kernel_rfl) rfl #[.agg #[.int .i64 a0_0, .slice A0_1 l0_1.length c0_1]] rfl lm ?_; (with_reducible refine (spec_IsMatroid.calls k a0_0 _ _ l0_1 false _ ?side1 ?side2 A4.out).mono ?_); (case side1 => exact pC (Kd.C_below HR0_1.out HB.out)); (case side2 => exact HC0_1.out); rintro e w65 ⟨rfl, hb⟩; refine ⟨_, rfl, ?_⟩; replace BK67001 := aQ (blk_below (g := gb67001) (o := .cells #[.int .i64 a0_0, .slice A0_1 l0_1.length c0_1] 26 (0, 0)) (pk BK67001.out) hb); replace BK67002 := aQ (blk_below (g := gb67002) (o := .cells #[.int .i64 a1_0, .slice A1_1 l1_1.length c1_1] 26 (0, 0)) (pk BK67002.out) hb); replace HB := aQ (below_step (pB2 HB.out GE67001.out GE67002.out) hb); (try clear hb)))
  go_ret
  exact ⟨re_, pB2 HB.out GE67001.out GE67002.out⟩
/-! ### spec_l20Step: function 70 -/
def spec_l20Step.f (k : Nat) (a0_0 : Int) (l0_1 : List Int) (a1_0 : Int) (l1_1 : List Int) (a2 : Int) (a3 : Int) (a4 : Int) : Option (Bool) := (spec_l2Has.f a2 a3).bind fun t71003 => ((spec_l2Has.f a2 a4).bind fun t71004 => (if (t71003 == t71004) = true then (some false) else (if 0 ≤ (IntKind.u64.wrap (a3)) then (if 0 ≤ (IntKind.u64.wrap (a4)) then ((spec_l2Has.f a2 a3).bind fun t71005 => (if t71005 = true then ((spec_l20Free.f k a0_0 l0_1 (Go.bits .xor .i64 (Go.bits .xor .i64 a2 (shl .i64 1 (IntKind.u64.wrap (a3)))) (shl .i64 1 (IntKind.u64.wrap (a4))))).bind fun t71006 => (some t71006)) else ((spec_l20Free.f k a1_0 l1_1 (Go.bits .xor .i64 (Go.bits .xor .i64 a2 (shl .i64 1 (IntKind.u64.wrap (a3)))) (shl .i64 1 (IntKind.u64.wrap (a4))))).bind fun t71007 => (some t71007)))) else (none)) else (none))))
theorem spec_l20Step.mono : ∀ a0 a1 a2 a3 a4 a5 a6 k, LeO (spec_l20Step.f k a0 a1 a2 a3 a4 a5 a6) (spec_l20Step.f (k + 1) a0 a1 a2 a3 a4 a5 a6) := by
 intro a0 a1 a2 a3 a4 a5 a6 k
 unfold spec_l20Step.f
 repeat' first
   | (with_reducible exact spec_l20Free.mono _ _ _ _)
   | (with_reducible exact LeO.refl _)
   | (with_reducible exact LeO.none _)
   | (with_reducible refine LeO.ite ?_ ?_)
   | (with_reducible refine LeO.bind ?_ (fun _ => ?_))
   | exact spec_l20Free.mono _ _ _ _
   | exact LeO.none _
   | refine LeO.ite ?_ ?_
   | refine LeO.bind ?_ (fun _ => ?_)
set_option maxHeartbeats 8000000 in
set_option maxRecDepth 100000 in
theorem spec_l20Step.calls (k : Nat) (a0_0 : Int) (A0_1 : Option Addr) (c0_1 : Nat) (l0_1 : List Int) (a1_0 : Int) (A1_1 : Option Addr) (c1_1 : Nat) (l1_1 : List Int) (a2 : Int) (a3 : Int) (a4 : Int) (r : Bool) (w : World) (hr0_1 : Kd.C (Kd.int .i64) w A0_1 l0_1.length l0_1) (hc0_1 : l0_1.length ≤ c0_1) (hr1_1 : Kd.C (Kd.int .i64) w A1_1 l1_1.length l1_1) (hc1_1 : l1_1.length ≤ c1_1) (h : spec_l20Step.f k a0_0 l0_1 a1_0 l1_1 a2 a3 a4 = some r) :
  Calls Try.prog 70 #[.agg #[.int .i64 a0_0, .slice A0_1 l0_1.length c0_1], .agg #[.int .i64 a1_0, .slice A1_1 l1_1.length c1_1], .int .i64 a2, .int .i64 a3, .int .i64 a4] w fun e w' => e = .returned (.bool r) ∧ Below w.heap.size w w' := by
 have hu26 := Try.underlying26
 have HR0_1 := aQ hr0_1
 have HC0_1 := aQ hc0_1
 clear hr0_1 hc0_1
 have HR1_1 := aQ hr1_1
 have HC1_1 := aQ hc1_1
 clear hr1_1 hc1_1
 have HB := aQ (Below.refl w.heap.size w)
 have H : ((spec_l2Has.f a2 a3).bind fun t71003 => ((spec_l2Has.f a2 a4).bind fun t71004 => (if (t71003 == t71004) = true then (some false) else (if 0 ≤ (IntKind.u64.wrap (a3)) then (if 0 ≤ (IntKind.u64.wrap (a4)) then ((spec_l2Has.f a2 a3).bind fun t71005 => (if t71005 = true then ((spec_l20Free.f k a0_0 l0_1 (Go.bits .xor .i64 (Go.bits .xor .i64 a2 (shl .i64 1 (IntKind.u64.wrap (a3)))) (shl .i64 1 (IntKind.u64.wrap (a4))))).bind fun t71006 => (some t71006)) else ((spec_l20Free.f k a1_0 l1_1 (Go.bits .xor .i64 (Go.bits .xor .i64 a2 (shl .i64 1 (IntKind.u64.wrap (a3)))) (shl .i64 1 (IntKind.u64.wrap (a4))))).bind fun t71007 => (some t71007)))) else (none)) else (none))))) = some r := h
 clear h
 replace H := Option.bind_eq_some_iff.mp H
 obtain ⟨t71003, A60, H⟩ := H
 replace H : ((spec_l2Has.f a2 a4).bind fun t71004 => (if (t71003 == t71004) = true then (some false) else (if 0 ≤ (IntKind.u64.wrap (a3)) then (if 0 ≤ (IntKind.u64.wrap (a4)) then ((spec_l2Has.f a2 a3).bind fun t71005 => (if t71005 = true then ((spec_l20Free.f k a0_0 l0_1 (Go.bits .xor .i64 (Go.bits .xor .i64 a2 (shl .i64 1 (IntKind.u64.wrap (a3)))) (shl .i64 1 (IntKind.u64.wrap (a4))))).bind fun t71006 => (some t71006)) else ((spec_l20Free.f k a1_0 l1_1 (Go.bits .xor .i64 (Go.bits .xor .i64 a2 (shl .i64 1 (IntKind.u64.wrap (a3)))) (shl .i64 1 (IntKind.u64.wrap (a4))))).bind fun t71007 => (some t71007)))) else (none)) else (none)))) = some r := H
 have A6 := aQ A60
 clear A60
 replace H := Option.bind_eq_some_iff.mp H
 obtain ⟨t71004, A70, H⟩ := H
 replace H : (if (t71003 == t71004) = true then (some false) else (if 0 ≤ (IntKind.u64.wrap (a3)) then (if 0 ≤ (IntKind.u64.wrap (a4)) then ((spec_l2Has.f a2 a3).bind fun t71005 => (if t71005 = true then ((spec_l20Free.f k a0_0 l0_1 (Go.bits .xor .i64 (Go.bits .xor .i64 a2 (shl .i64 1 (IntKind.u64.wrap (a3)))) (shl .i64 1 (IntKind.u64.wrap (a4))))).bind fun t71006 => (some t71006)) else ((spec_l20Free.f k a1_0 l1_1 (Go.bits .xor .i64 (Go.bits .xor .i64 a2 (shl .i64 1 (IntKind.u64.wrap (a3)))) (shl .i64 1 (IntKind.u64.wrap (a4))))).bind fun t71007 => (some t71007)))) else (none)) else (none))) = some r := H
 have A7 := aQ A70
 clear A70
 by_cases c8 : (t71003 == t71004) = true
 ·rw [if_pos c8] at H
  have c8b0 : (t71003 == t71004) = true := c8
  (try (have c8b1 : decide (t71003 = t71004) = true := by simpa using c8))
  (try (have c8b2 : (t71003 == t71004) = true := by simpa using c8))
  clear c8
  obtain rfl := Option.some.inj H
  go_enter Try.func70, Try.ntmps70
  go_wp2_with (first | ((with_reducible refine gate_dst (N := 5) rfl ?_); refine box_event ?hg (N := 5) ?hd (cs := #[.int .i64 a0_0, .slice A0_1 l0_1.length c0_1]) (t := 26) ?hr ?_; (case hd => rfl); (case hg => rfl); (case hr => first | (go_simp; done) | (go_simp; rfl)); intro gb71001 hg w9 hbox hb; have BK71001 := aQ (hbox); have GW71001 := aQ ((by rw [hg]; exact (below_size (pB HB.out)) : w.heap.size ≤ gb71001)); have GE71001 := aQ ((by rw [hg]; exact (below_size (pB HB.out)) : w.heap.size ≤ gb71001)); replace HB := aQ (below_step (pB HB.out) hb); clear hb hbox hg) | ((with_reducible refine gate_dst (N := 6) rfl ?_); refine box_event ?hg (N := 6) ?hd (cs := #[.int .i64 a1_0, .slice A1_1 l1_1.length c1_1]) (t := 26) ?hr ?_; (case hd => rfl); (case hg => rfl); (case hr => first | (go_simp; done) | (go_simp; rfl)); intro gb71002 hg w10 hbox hb; have BK71002 := aQ (hbox); have GW71002 := aQ ((by rw [hg]; exact (below_size (pB1 HB.out GE71001.out)) : w.heap.size ≤ gb71002)); have GE71002 := aQ ((by rw [hg]; exact (below_size (pB1 HB.out GE71001.out)) : w.heap.size ≤ gb71002)); replace HB := aQ (below_step (pB1 HB.out GE71001.out) hb); have NB71001_71002 := aQ ((by rw [hg]; exact Nat.ne_of_lt (blk_lt (g := gb71001) (o := .cells #[.int .i64 a0_0, .slice A0_1 l0_1.length c0_1] 26 (0, 0)) (pk BK71001.out)) : gb71001 ≠ gb71002)); have NB71002_71001 := aQ ((by rw [hg]; exact Nat.ne_of_gt (blk_lt (g := gb71001) (o := .cells #[.int .i64 a0_0, .slice A0_1 l0_1.length c0_1] 26 (0, 0)) (pk BK71001.out)) : gb71002 ≠ gb71001)); replace BK71001 := aQ (blk_below (g := gb71001) (o := .cells #[.int .i64 a0_0, .slice A0_1 l0_1.length c0_1] 26 (0, 0)) (pk BK71001.out) hb); clear hb hbox hg) | ((with_reducible refine gate_callee (f := 68) rfl ?_); refine goesL_ (some 14) rfl rfl Try.func68 (by kernel_rfl) rfl #[.int .i64 a2, .int .i64 a3] rfl lm ?_; (with_reducible refine (spec_l2Has.calls a2 a3 t71003 _ A6.out).mono ?_); rintro e w' ⟨rfl, ⟨nd, rfl⟩⟩; refine ⟨_, rfl, ?_⟩) | ((with_reducible refine gate_callee (f := 68) rfl ?_); refine goesL_ (some 17) rfl rfl Try.func68 (by kernel_rfl) rfl #[.int .i64 a2, .int .i64 a4] rfl lm ?_; (with_reducible refine (spec_l2Has.calls a2 a4 t71004 _ A7.out).mono ?_); rintro e w' ⟨rfl, ⟨nd, rfl⟩⟩; refine ⟨_, rfl, ?_⟩))
  go_ret
  exact ⟨re_, pB2 HB.out GE71001.out GE71002.out⟩
 ·rw [if_neg c8] at H
  have c8b0 : (t71003 == t71004) = false := by simpa using c8
  (try (have c8b1 : decide (t71003 = t71004) = false := by simpa using c8))
  (try (have c8b2 : (t71003 == t71004) = false := by simpa using c8))
  (try (have c8b3 : ¬ (t71003 = t71004) := by simpa using c8))
  clear c8
  obtain ⟨ji11, hji11⟩ : ∃ j_ : Int, (IntKind.u64.wrap (a3)) = j_ := ⟨_, rfl⟩
  replace H : (if 0 ≤ (ji11) then (if 0 ≤ (IntKind.u64.wrap (a4)) then ((spec_l2Has.f a2 a3).bind fun t71005 => (if t71005 = true then ((spec_l20Free.f k a0_0 l0_1 (Go.bits .xor .i64 (Go.bits .xor .i64 a2 (shl .i64 1 (ji11))) (shl .i64 1 (IntKind.u64.wrap (a4))))).bind fun t71006 => (some t71006)) else ((spec_l20Free.f k a1_0 l1_1 (Go.bits .xor .i64 (Go.bits .xor .i64 a2 (shl .i64 1 (ji11))) (shl .i64 1 (IntKind.u64.wrap (a4))))).bind fun t71007 => (some t71007)))) else (none)) else (none)) = some r := by first | (rw [hji11] at H; exact H) | (simp only [hji11] at H ⊢; exact H)
  (try rw [hji11] at A6)
  (try rw [hji11] at A7)
  by_cases c12 : 0 ≤ (ji11)
  ·rw [if_pos c12] at H
   have c12b0 := eq_true c12
   have c12b1 : decide (0 ≤ (ji11)) = true := decide_eq_true c12
   clear c12
   obtain ⟨ji13, hji13⟩ : ∃ j_ : Int, (shl .i64 1 (ji11)) = j_ := ⟨_, rfl⟩
   replace H : (if 0 ≤ (IntKind.u64.wrap (a4)) then ((spec_l2Has.f a2 a3).bind fun t71005 => (if t71005 = true then ((spec_l20Free.f k a0_0 l0_1 (Go.bits .xor .i64 (Go.bits .xor .i64 a2 (ji13)) (shl .i64 1 (IntKind.u64.wrap (a4))))).bind fun t71006 => (some t71006)) else ((spec_l20Free.f k a1_0 l1_1 (Go.bits .xor .i64 (Go.bits .xor .i64 a2 (ji13)) (shl .i64 1 (IntKind.u64.wrap (a4))))).bind fun t71007 => (some t71007)))) else (none)) = some r := by first | (rw [hji13] at H; exact H) | (simp only [hji13] at H ⊢; exact H)
   (try rw [hji13] at A6)
   (try rw [hji13] at A7)
   have hji13_ : (IntKind.i64.wrap (1 * 2 ^ min (ji11).toNat 64)) = ji13 := hji13
   have hji13z : (ji11) ≤ 64 → (IntKind.i64.wrap (1 * 2 ^ (ji11).toNat)) = ji13 := shl_small hji13
   have hji13u : (IntKind.i64.wrap (2 ^ min (ji11).toNat 64)) = ji13 := by have h_ := hji13_; rw [Int.one_mul] at h_; exact h_
   have hji13v : (ji11) ≤ 64 → (IntKind.i64.wrap (2 ^ (ji11).toNat)) = ji13 := fun hle_ => by have h_ := hji13z hle_; rw [Int.one_mul] at h_; exact h_
   have hji13y : (wrap64 (1 * 2 ^ min (ji11).toNat 64)) = ji13 := (i64_w _).symm.trans hji13_
   have hji13x : (ji11) ≤ 64 → (wrap64 (1 * 2 ^ (ji11).toNat)) = ji13 := fun h_ => (i64_w _).symm.trans (hji13z h_)
   obtain ⟨ji14, hji14⟩ : ∃ j_ : Int, (IntKind.u64.wrap (a4)) = j_ := ⟨_, rfl⟩
   replace H : (if 0 ≤ (ji14) then ((spec_l2Has.f a2 a3).bind fun t71005 => (if t71005 = true then ((spec_l20Free.f k a0_0 l0_1 (Go.bits .xor .i64 (Go.bits .xor .i64 a2 (ji13)) (shl .i64 1 (ji14)))).bind fun t71006 => (some t71006)) else ((spec_l20Free.f k a1_0 l1_1 (Go.bits .xor .i64 (Go.bits .xor .i64 a2 (ji13)) (shl .i64 1 (ji14)))).bind fun t71007 => (some t71007)))) else (none)) = some r := by first | (rw [hji14] at H; exact H) | (simp only [hji14] at H ⊢; exact H)
   (try rw [hji14] at A6)
   (try rw [hji14] at A7)
   by_cases c15 : 0 ≤ (ji14)
   ·rw [if_pos c15] at H
    have c15b0 := eq_true c15
    have c15b1 : decide (0 ≤ (ji14)) = true := decide_eq_true c15
    clear c15
    obtain ⟨ji16, hji16⟩ : ∃ j_ : Int, (shl .i64 1 (ji14)) = j_ := ⟨_, rfl⟩
    replace H : ((spec_l2Has.f a2 a3).bind fun t71005 => (if t71005 = true then ((spec_l20Free.f k a0_0 l0_1 (Go.bits .xor .i64 (Go.bits .xor .i64 a2 (ji13)) (ji16))).bind fun t71006 => (some t71006)) else ((spec_l20Free.f k a1_0 l1_1 (Go.bits .xor .i64 (Go.bits .xor .i64 a2 (ji13)) (ji16))).bind fun t71007 => (some t71007)))) = some r := by first | (rw [hji16] at H; exact H) | (simp only [hji16] at H ⊢; exact H)
    (try rw [hji16] at A6)
    (try rw [hji16] at A7)
    have hji16_ : (IntKind.i64.wrap (1 * 2 ^ min (ji14).toNat 64)) = ji16 := hji16
    have hji16z : (ji14) ≤ 64 → (IntKind.i64.wrap (1 * 2 ^ (ji14).toNat)) = ji16 := shl_small hji16
    have hji16u : (IntKind.i64.wrap (2 ^ min (ji14).toNat 64)) = ji16 := by have h_ := hji16_; rw [Int.one_mul] at h_; exact h_
    have hji16v : (ji14) ≤ 64 → (IntKind.i64.wrap (2 ^ (ji14).toNat)) = ji16 := fun hle_ => by have h_ := hji16z hle_; rw [Int.one_mul] at h_; exact h_
    have hji16y : (wrap64 (1 * 2 ^ min (ji14).toNat 64)) = ji16 := (i64_w _).symm.trans hji16_
    have hji16x : (ji14) ≤ 64 → (wrap64 (1 * 2 ^ (ji14).toNat)) = ji16 := fun h_ => (i64_w _).symm.trans (hji16z h_)
    replace H := Option.bind_eq_some_iff.mp H
    obtain ⟨t71005, A170, H⟩ := H
    replace H : (if t71005 = true then ((spec_l20Free.f k a0_0 l0_1 (Go.bits .xor .i64 (Go.bits .xor .i64 a2 (ji13)) (ji16))).bind fun t71006 => (some t71006)) else ((spec_l20Free.f k a1_0 l1_1 (Go.bits .xor .i64 (Go.bits .xor .i64 a2 (ji13)) (ji16))).bind fun t71007 => (some t71007))) = some r := H
    have A17 := aQ A170
    clear A170
    by_cases c18 : t71005 = true
    ·subst c18
     have H1 : ((spec_l20Free.f k a0_0 l0_1 (Go.bits .xor .i64 (Go.bits .xor .i64 a2 (ji13)) (ji16))).bind fun t71006 => (some t71006)) = some r := by rw [if_pos rfl] at H; exact H
     clear H
     have H := H1
     clear H1
     replace H := Option.bind_eq_some_iff.mp H
     obtain ⟨t71006, A190, H⟩ := H
     replace H : (some t71006) = some r := H
     have A19 := aQ A190
     clear A190
     obtain rfl := Option.some.inj H
     go_enter Try.func70, Try.ntmps70
     go_wp2_with (first | ((with_reducible refine gate_dst (N := 5) rfl ?_); refine box_event ?hg (N := 5) ?hd (cs := #[.int .i64 a0_0, .slice A0_1 l0_1.length c0_1]) (t := 26) ?hr ?_; (case hd => rfl); (case hg => rfl); (case hr => first | (go_simp; done) | (go_simp; rfl)); intro gb71001 hg w20 hbox hb; have BK71001 := aQ (hbox); have GW71001 := aQ ((by rw [hg]; exact (below_size (pB HB.out)) : w.heap.size ≤ gb71001)); have GE71001 := aQ ((by rw [hg]; exact (below_size (pB HB.out)) : w.heap.size ≤ gb71001)); replace HB := aQ (below_step (pB HB.out) hb); clear hb hbox hg) | ((with_reducible refine gate_dst (N := 6) rfl ?_); refine box_event ?hg (N := 6) ?hd (cs := #[.int .i64 a1_0, .slice A1_1 l1_1.length c1_1]) (t := 26) ?hr ?_; (case hd => rfl); (case hg => rfl); (case hr => first | (go_simp; done) | (go_simp; rfl)); intro gb71002 hg w21 hbox hb; have BK71002 := aQ (hbox); have GW71002 := aQ ((by rw [hg]; exact (below_size (pB1 HB.out GE71001.out)) : w.heap.size ≤ gb71002)); have GE71002 := aQ ((by rw [hg]; exact (below_size (pB1 HB.out GE71001.out)) : w.heap.size ≤ gb71002)); replace HB := aQ (below_step (pB1 HB.out GE71001.out) hb); have NB71001_71002 := aQ ((by rw [hg]; exact Nat.ne_of_lt (blk_lt (g := gb71001) (o := .cells #[.int .i64 a0_0, .slice A0_1 l0_1.length c0_1] 26 (0, 0)) (pk BK71001.out)) : gb71001 ≠ gb71002)); have NB71002_71001 := aQ ((by rw [hg]; exact Nat.ne_of_gt (blk_lt (g := gb71001) (o := .cells #[.int .i64 a0_0, .slice A0_1 l0_1.length c0_1] 26 (0, 0)) (pk BK71001.out)) : gb71002 ≠ gb71001)); replace BK71001 := aQ (blk_below (g := gb71001) (o := .cells #[.int .i64 a0_0, .slice A0_1 l0_1.length c0_1] 26 (0, 0)) (pk BK71001.out) hb); clear hb hbox hg) | ((with_reducible refine gate_callee (f := 68) rfl ?_); refine goesL_ (some 14) rfl rfl Try.func68 (by kernel_rfl) rfl #[.int .i64 a2, .int .i64 a3] rfl lm ?_; (with_reducible refine (spec_l2Has.calls a2 a3 t71003 _ A6.out).mono ?_); rintro e w' ⟨rfl, ⟨nd, rfl⟩⟩; refine ⟨_, rfl, ?_⟩) | ((with_reducible refine gate_callee (f := 68) rfl ?_); refine goesL_ (some 17) rfl rfl Try.func68 (by kernel_rfl) rfl #[.int .i64 a2, .int .i64 a4] rfl lm ?_; (with_reducible refine (spec_l2Has.calls a2 a4 t71004 _ A7.out).mono ?_); rintro e w' ⟨rfl, ⟨nd, rfl⟩⟩; refine ⟨_, rfl, ?_⟩) | ((with_reducible refine gate_callee (f := 68) rfl ?_); refine goesL_ (some 30) rfl rfl Try.func68 (by kernel_rfl) rfl #[.int .i64 a2, .int .i64 a3] rfl lm ?_; (with_reducible refine (spec_l2Has.calls a2 a3 true _ A17.out).mono ?_); rintro e w' ⟨rfl, ⟨nd, rfl⟩⟩; refine ⟨_, rfl, ?_⟩; have hnb22 := NB71001_71002.out; have hnc22 := NB71002_71001.out; have hcz23_0 := bc (v := (.int .i64 a0_0)) BK71001.out 0; have hcz23_1 := bc (v := (.slice A0_1 l0_1.length c0_1)) BK71001.out 1; have hfz23_0 := blk_frozen BK71001.out 0; have hfz23_1 := blk_frozen BK71001.out 1) | ((with_reducible refine gate_callee (f := 69) rfl ?_); refine goesL_ (some 33) rfl rfl Try.func69 (by kernel_rfl) rfl #[.agg #[.int .i64 a0_0, .slice A0_1 l0_1.length c0_1], .int .i64 (Go.bits .xor .i64 (Go.bits .xor .i64 a2 (ji13)) (ji16))] rfl (by (try simp only [List.map_toArray, List.map_cons, List.map_nil]); first | done | (simp only [hji13, hji16]; rfl) | rfl | (simp only [List.length_drop, List.length_take]; rfl)) ?_; (with_reducible refine (spec_l20Free.calls k a0_0 _ _ l0_1 (Go.bits .xor .i64 (Go.bits .xor .i64 a2 (ji13)) (ji16)) t71006 _ ?side1 ?side2 A19.out).mono ?_); (case side1 => repeat (first | exact (Kd.C_below HR0_1.out (pB2 HB.out GE71001.out GE71002.out)) | (with_reducible refine Kd.C_alloc ?_ _) | (with_reducible refine Kd.C_drewN ?_ _) | (with_reducible refine Kd.C_drew ?_))); (case side2 => exact HC0_1.out); rintro e w24 ⟨rfl, hb⟩; refine ⟨_, rfl, ?_⟩; replace BK71001 := aQ (blk_below (g := gb71001) (o := .cells #[.int .i64 a0_0, .slice A0_1 l0_1.length c0_1] 26 (0, 0)) (pk BK71001.out) hb); replace BK71002 := aQ (blk_below (g := gb71002) (o := .cells #[.int .i64 a1_0, .slice A1_1 l1_1.length c1_1] 26 (0, 0)) (pk BK71002.out) hb); replace HB := aQ (below_step (pB2 HB.out GE71001.out GE71002.out) hb); (try clear hb)))
     go_ret
     exact ⟨by first | rfl | (simp [errW_none, errW_some] <;> rfl) | (simp only [← hji11, ← hji13, ← hji14, ← hji16]; first | rfl | (simp [errW_none, errW_some] <;> rfl)) | (simp [*, errW_none, errW_some] <;> rfl), pB2 HB.out GE71001.out GE71002.out⟩
    ·replace c18 := Bool.eq_false_iff.mpr c18
     subst c18
     have H1 : ((spec_l20Free.f k a1_0 l1_1 (Go.bits .xor .i64 (Go.bits .xor .i64 a2 (ji13)) (ji16))).bind fun t71007 => (some t71007)) = some r := by rw [if_neg (show ¬ (false = true) by decide)] at H; exact H
     clear H
     have H := H1
     clear H1
     replace H := Option.bind_eq_some_iff.mp H
     obtain ⟨t71007, A250, H⟩ := H
     replace H : (some t71007) = some r := H
     have A25 := aQ A250
     clear A250
     obtain rfl := Option.some.inj H
     go_enter Try.func70, Try.ntmps70
     go_wp2_with (first | ((with_reducible refine gate_dst (N := 5) rfl ?_); refine box_event ?hg (N := 5) ?hd (cs := #[.int .i64 a0_0, .slice A0_1 l0_1.length c0_1]) (t := 26) ?hr ?_; (case hd => rfl); (case hg => rfl); (case hr => first | (go_simp; done) | (go_simp; rfl)); intro gb71001 hg w26 hbox hb; have BK71001 := aQ (hbox); have GW71001 := aQ ((by rw [hg]; exact (below_size (pB HB.out)) : w.heap.size ≤ gb71001)); have GE71001 := aQ ((by rw [hg]; exact (below_size (pB HB.out)) : w.heap.size ≤ gb71001)); replace HB := aQ (below_step (pB HB.out) hb); clear hb hbox hg) | ((with_reducible refine gate_dst (N := 6) rfl ?_); refine box_event ?hg (N := 6) ?hd (cs := #[.int .i64 a1_0, .slice A1_1 l1_1.length c1_1]) (t := 26) ?hr ?_; (case hd => rfl); (case hg => rfl); (case hr => first | (go_simp; done) | (go_simp; rfl)); intro gb71002 hg w27 hbox hb; have BK71002 := aQ (hbox); have GW71002 := aQ ((by rw [hg]; exact (below_size (pB1 HB.out GE71001.out)) : w.heap.size ≤ gb71002)); have GE71002 := aQ ((by rw [hg]; exact (below_size (pB1 HB.out GE71001.out)) : w.heap.size ≤ gb71002)); replace HB := aQ (below_step (pB1 HB.out GE71001.out) hb); have NB71001_71002 := aQ ((by rw [hg]; exact Nat.ne_of_lt (blk_lt (g := gb71001) (o := .cells #[.int .i64 a0_0, .slice A0_1 l0_1.length c0_1] 26 (0, 0)) (pk BK71001.out)) : gb71001 ≠ gb71002)); have NB71002_71001 := aQ ((by rw [hg]; exact Nat.ne_of_gt (blk_lt (g := gb71001) (o := .cells #[.int .i64 a0_0, .slice A0_1 l0_1.length c0_1] 26 (0, 0)) (pk BK71001.out)) : gb71002 ≠ gb71001)); replace BK71001 := aQ (blk_below (g := gb71001) (o := .cells #[.int .i64 a0_0, .slice A0_1 l0_1.length c0_1] 26 (0, 0)) (pk BK71001.out) hb); clear hb hbox hg) | ((with_reducible refine gate_callee (f := 68) rfl ?_); refine goesL_ (some 14) rfl rfl Try.func68 (by kernel_rfl) rfl #[.int .i64 a2, .int .i64 a3] rfl lm ?_; (with_reducible refine (spec_l2Has.calls a2 a3 t71003 _ A6.out).mono ?_); rintro e w' ⟨rfl, ⟨nd, rfl⟩⟩; refine ⟨_, rfl, ?_⟩) | ((with_reducible refine gate_callee (f := 68) rfl ?_); refine goesL_ (some 17) rfl rfl Try.func68 (by kernel_rfl) rfl #[.int .i64 a2, .int .i64 a4] rfl lm ?_; (with_reducible refine (spec_l2Has.calls a2 a4 t71004 _ A7.out).mono ?_); rintro e w' ⟨rfl, ⟨nd, rfl⟩⟩; refine ⟨_, rfl, ?_⟩) | ((with_reducible refine gate_callee (f := 68) rfl ?_); refine goesL_ (some 30) rfl rfl Try.func68 (by kernel_rfl) rfl #[.int .i64 a2, .int .i64 a3] rfl lm ?_; (with_reducible refine (spec_l2Has.calls a2 a3 false _ A17.out).mono ?_); rintro e w' ⟨rfl, ⟨nd, rfl⟩⟩; refine ⟨_, rfl, ?_⟩; have hnb28 := NB71002_71001.out; have hnc28 := NB71001_71002.out; have hcz29_0 := bc (v := (.int .i64 a1_0)) BK71002.out 0; have hcz29_1 := bc (v := (.slice A1_1 l1_1.length c1_1)) BK71002.out 1; have hfz29_0 := blk_frozen BK71002.out 0; have hfz29_1 := blk_frozen BK71002.out 1) | ((with_reducible refine gate_callee (f := 69) rfl ?_); refine goesL_ (some 36) rfl rfl Try.func69 (by kernel_rfl) rfl #[.agg #[.int .i64 a1_0, .slice A1_1 l1_1.length c1_1], .int .i64 (Go.bits .xor .i64 (Go.bits .xor .i64 a2 (ji13)) (ji16))] rfl (by (try simp only [List.map_toArray, List.map_cons, List.map_nil]); first | done | (simp only [hji13, hji16]; rfl) | rfl | (simp only [List.length_drop, List.length_take]; rfl)) ?_; (with_reducible refine (spec_l20Free.calls k a1_0 _ _ l1_1 (Go.bits .xor .i64 (Go.bits .xor .i64 a2 (ji13)) (ji16)) t71007 _ ?side1 ?side2 A25.out).mono ?_); (case side1 => repeat (first | exact (Kd.C_below HR1_1.out (pB2 HB.out GE71001.out GE71002.out)) | (with_reducible refine Kd.C_alloc ?_ _) | (with_reducible refine Kd.C_drewN ?_ _) | (with_reducible refine Kd.C_drew ?_))); (case side2 => exact HC1_1.out); rintro e w30 ⟨rfl, hb⟩; refine ⟨_, rfl, ?_⟩; replace BK71001 := aQ (blk_below (g := gb71001) (o := .cells #[.int .i64 a0_0, .slice A0_1 l0_1.length c0_1] 26 (0, 0)) (pk BK71001.out) hb); replace BK71002 := aQ (blk_below (g := gb71002) (o := .cells #[.int .i64 a1_0, .slice A1_1 l1_1.length c1_1] 26 (0, 0)) (pk BK71002.out) hb); replace HB := aQ (below_step (pB2 HB.out GE71001.out GE71002.out) hb); (try clear hb)))
     go_ret
     exact ⟨by first | rfl | (simp [errW_none, errW_some] <;> rfl) | (simp only [← hji11, ← hji13, ← hji14, ← hji16]; first | rfl | (simp [errW_none, errW_some] <;> rfl)) | (simp [*, errW_none, errW_some] <;> rfl), pB2 HB.out GE71001.out GE71002.out⟩
   ·rw [if_neg c15] at H
    exact absurd H (by simp)
  ·rw [if_neg c12] at H
   exact absurd H (by simp)
/-! ### spec_l1Bit: function 89 -/
def spec_l1Bit.f (a0 : Bool) : Option (Int) := if a0 = true then (some 1) else (some 0)
set_option maxHeartbeats 8000000 in
set_option maxRecDepth 100000 in
theorem spec_l1Bit.calls (a0 : Bool) (r : Int) (w : World) (h : spec_l1Bit.f a0 = some r) :
  Calls Try.prog 89 #[.bool a0] w fun e w' => e = .returned (.int .i64 r) ∧ Drawn0 w w' := by
 have H : (if a0 = true then (some 1) else (some 0)) = some r := h
 clear h
 by_cases c2 : a0 = true
 ·subst c2
  have H1 : (some 1) = some r := by rw [if_pos rfl] at H; exact H
  clear H
  have H := H1
  clear H1
  obtain rfl := Option.some.inj H
  go_enter Try.func89, Try.ntmps89
  go_wp2
  go_ret
  exact ⟨rs_, rd_⟩
 ·replace c2 := Bool.eq_false_iff.mpr c2
  subst c2
  have H1 : (some 0) = some r := by rw [if_neg (show ¬ (false = true) by decide)] at H; exact H
  clear H
  have H := H1
  clear H1
  obtain rfl := Option.some.inj H
  go_enter Try.func89, Try.ntmps89
  go_wp2
  go_ret
  exact ⟨rs_, rd_⟩
/-! ### spec_l20Far: function 67 -/
mutual
def spec_l20Far.l0 : Nat → Int → List Int → Int → Int → List Int → Int → List Int → Option (List Int)
 | 0, _, _, _, _, _, _, _ => none
 | k + 1, x2, x7, x8, x68002000, x68002001, x68003000, x68003001 => if x8 < x68002000 then ((spec_l2Has.f x2 x8).bind fun t68006 => (if t68006 = true then ((spec_l1Bit.f false).bind fun t68007 => (if 0 ≤ x8 then (if x8 < (x7.length : Int) then (spec_l20Far.l0 k x2 (x7.set (x8 : Int).toNat t68007) (wrap64 (x8 + 1)) x68002000 x68002001 x68003000 x68003001) else (none)) else (none))) else (if 0 ≤ (IntKind.u64.wrap (x8)) then ((spec_l20Free.f k x68003000 x68003001 (Go.bits .or .i64 x2 (shl .i64 1 (IntKind.u64.wrap (x8))))).bind fun t68009 => ((spec_l1Bit.f t68009).bind fun t68010 => (if 0 ≤ x8 then (if x8 < (x7.length : Int) then (spec_l20Far.l0 k x2 (x7.set (x8 : Int).toNat t68010) (wrap64 (x8 + 1)) x68002000 x68002001 x68003000 x68003001) else (none)) else (none)))) else (none)))) else (spec_l20Far.l1 k x2 x7 2 x68002000 x68002001 x68003000 x68003001)
def spec_l20Far.l1 : Nat → Int → List Int → Int → Int → List Int → Int → List Int → Option (List Int)
 | 0, _, _, _, _, _, _, _ => none
 | k + 1, x2, x7, x9, x68002000, x68002001, x68003000, x68003001 => if x9 ≤ x68002000 then (spec_l20Far.l2 k x2 x7 x9 0 x68002000 x68002001 x68003000 x68003001) else (some x7)
def spec_l20Far.l2 : Nat → Int → List Int → Int → Int → Int → List Int → Int → List Int → Option (List Int)
 | 0, _, _, _, _, _, _, _, _ => none
 | k + 1, x2, x7, x9, x10, x68002000, x68002001, x68003000, x68003001 => if x10 < x68002000 then (spec_l20Far.l3 k x2 x7 x9 x10 0 x68002000 x68002001 x68003000 x68003001) else (spec_l20Far.l1 k x2 x7 (wrap64 (x9 + 1)) x68002000 x68002001 x68003000 x68003001)
def spec_l20Far.l3 : Nat → Int → List Int → Int → Int → Int → Int → List Int → Int → List Int → Option (List Int)
 | 0, _, _, _, _, _, _, _, _, _ => none
 | k + 1, x2, x7, x9, x10, x11, x68002000, x68002001, x68003000, x68003001 => if x11 < x68002000 then (if 0 ≤ x10 then (if x10 < (x7.length : Int) then (spec_l20Far.j4 k x2 x7 x9 x10 x11 ((rd x7 x10) == 0) x68002000 x68002001 x68003000 x68003001) else (none)) else (none)) else (spec_l20Far.j4 k x2 x7 x9 x10 x11 false x68002000 x68002001 x68003000 x68003001)
def spec_l20Far.j4 : Nat → Int → List Int → Int → Int → Int → Bool → Int → List Int → Int → List Int → Option (List Int)
 | 0, _, _, _, _, _, _, _, _, _, _ => none
 | k + 1, x2, x7, x9, x10, x11, x60, x68002000, x68002001, x68003000, x68003001 => if x60 = true then (if 0 ≤ x11 then (if x11 < (x7.length : Int) then (if (rd x7 x11) = (wrap64 (x9 - 1)) then ((spec_l20Step.f k x68002000 x68002001 x68003000 x68003001 x2 x10 x11).bind fun t68014 => (if t68014 = true then (if 0 ≤ x10 then (if x10 < (x7.length : Int) then (spec_l20Far.l3 k x2 (x7.set (x10 : Int).toNat x9) x9 x10 (wrap64 (x11 + 1)) x68002000 x68002001 x68003000 x68003001) else (none)) else (none)) else (spec_l20Far.l3 k x2 x7 x9 x10 (wrap64 (x11 + 1)) x68002000 x68002001 x68003000 x68003001))) else (spec_l20Far.l3 k x2 x7 x9 x10 (wrap64 (x11 + 1)) x68002000 x68002001 x68003000 x68003001)) else (none)) else (none)) else (spec_l20Far.l2 k x2 x7 x9 (wrap64 (x10 + 1)) x68002000 x68002001 x68003000 x68003001)
end
def spec_l20Far.f (k : Nat) (a0_0 : Int) (l0_1 : List Int) (a1_0 : Int) (l1_1 : List Int) (a2 : Int) : Option (List Int) := if 0 ≤ a0_0 then (if (a0_0 : Int).toNat ≤ 35184372088832 then (spec_l20Far.l0 k a2 (List.replicate (a0_0 : Int).toNat 0) 0 a0_0 l0_1 a1_0 l1_1) else (none)) else (none)
theorem spec_l20Far.mono_l : ∀ k, (∀ y0 y1 y2 y3 y4 y5 y6, LeO (spec_l20Far.l0 k y0 y1 y2 y3 y4 y5 y6) (spec_l20Far.l0 (k + 1) y0 y1 y2 y3 y4 y5 y6)) ∧ (∀ y0 y1 y2 y3 y4 y5 y6, LeO (spec_l20Far.l1 k y0 y1 y2 y3 y4 y5 y6) (spec_l20Far.l1 (k + 1) y0 y1 y2 y3 y4 y5 y6)) ∧ (∀ y0 y1 y2 y3 y4 y5 y6 y7, LeO (spec_l20Far.l2 k y0 y1 y2 y3 y4 y5 y6 y7) (spec_l20Far.l2 (k + 1) y0 y1 y2 y3 y4 y5 y6 y7)) ∧ (∀ y0 y1 y2 y3 y4 y5 y6 y7 y8, LeO (spec_l20Far.l3 k y0 y1 y2 y3 y4 y5 y6 y7 y8) (spec_l20Far.l3 (k + 1) y0 y1 y2 y3 y4 y5 y6 y7 y8)) ∧ (∀ y0 y1 y2 y3 y4 y5 y6 y7 y8 y9, LeO (spec_l20Far.j4 k y0 y1 y2 y3 y4 y5 y6 y7 y8 y9) (spec_l20Far.j4 (k + 1) y0 y1 y2 y3 y4 y5 y6 y7 y8 y9))
 | 0 => ⟨fun _ _ _ _ _ _ _ r h => by simp [spec_l20Far.l0] at h, fun _ _ _ _ _ _ _ r h => by simp [spec_l20Far.l1] at h, fun _ _ _ _ _ _ _ _ r h => by simp [spec_l20Far.l2] at h, fun _ _ _ _ _ _ _ _ _ r h => by simp [spec_l20Far.l3] at h, fun _ _ _ _ _ _ _ _ _ _ r h => by simp [spec_l20Far.j4] at h⟩
 | k + 1 => by
  obtain ⟨ih0, ih1, ih2, ih3, ih4⟩ := spec_l20Far.mono_l k
  refine ⟨?_, ?_, ?_, ?_, ?_⟩
  ·intro y0 y1 y2 y3 y4 y5 y6
   unfold spec_l20Far.l0
   repeat' first
   | (with_reducible exact ih0 _ _ _ _ _ _ _)
   | (with_reducible exact ih1 _ _ _ _ _ _ _)
   | (with_reducible exact ih2 _ _ _ _ _ _ _ _)
   | (with_reducible exact ih3 _ _ _ _ _ _ _ _ _)
   | (with_reducible exact ih4 _ _ _ _ _ _ _ _ _ _)
   | (with_reducible exact spec_l20Free.mono _ _ _ _)
   | (with_reducible exact spec_l20Step.mono _ _ _ _ _ _ _ _)
   | (with_reducible exact LeO.refl _)
   | (with_reducible exact LeO.none _)
   | (with_reducible refine LeO.ite ?_ ?_)
   | (with_reducible refine LeO.bind ?_ (fun _ => ?_))
   | exact ih0 _ _ _ _ _ _ _
   | exact ih1 _ _ _ _ _ _ _
   | exact ih2 _ _ _ _ _ _ _ _
   | exact ih3 _ _ _ _ _ _ _ _ _
   | exact ih4 _ _ _ _ _ _ _ _ _ _
   | exact spec_l20Free.mono _ _ _ _
   | exact spec_l20Step.mono _ _ _ _ _ _ _ _
   | exact LeO.none _
   | refine LeO.ite ?_ ?_
   | refine LeO.bind ?_ (fun _ => ?_)
  ·intro y0 y1 y2 y3 y4 y5 y6
   unfold spec_l20Far.l1
   repeat' first
   | (with_reducible exact ih0 _ _ _ _ _ _ _)
   | (with_reducible exact ih1 _ _ _ _ _ _ _)
   | (with_reducible exact ih2 _ _ _ _ _ _ _ _)
   | (with_reducible exact ih3 _ _ _ _ _ _ _ _ _)
   | (with_reducible exact ih4 _ _ _ _ _ _ _ _ _ _)
   | (with_reducible exact spec_l20Free.mono _ _ _ _)
   | (with_reducible exact spec_l20Step.mono _ _ _ _ _ _ _ _)
   | (with_reducible exact LeO.refl _)
   | (with_reducible exact LeO.none _)
   | (with_reducible refine LeO.ite ?_ ?_)
   | (with_reducible refine LeO.bind ?_ (fun _ => ?_))
   | exact ih0 _ _ _ _ _ _ _
   | exact ih1 _ _ _ _ _ _ _
   | exact ih2 _ _ _ _ _ _ _ _
   | exact ih3 _ _ _ _ _ _ _ _ _
   | exact ih4 _ _ _ _ _ _ _ _ _ _
   | exact spec_l20Free.mono _ _ _ _
   | exact spec_l20Step.mono _ _ _ _ _ _ _ _
   | exact LeO.none _
   | refine LeO.ite ?_ ?_
   | refine LeO.bind ?_ (fun _ => ?_)
  ·intro y0 y1 y2 y3 y4 y5 y6 y7
   unfold spec_l20Far.l2
   repeat' first
   | (with_reducible exact ih0 _ _ _ _ _ _ _)
   | (with_reducible exact ih1 _ _ _ _ _ _ _)
   | (with_reducible exact ih2 _ _ _ _ _ _ _ _)
   | (with_reducible exact ih3 _ _ _ _ _ _ _ _ _)
   | (with_reducible exact ih4 _ _ _ _ _ _ _ _ _ _)
   | (with_reducible exact spec_l20Free.mono _ _ _ _)
   | (with_reducible exact spec_l20Step.mono _ _ _ _ _ _ _ _)
   | (with_reducible exact LeO.refl _)
   | (with_reducible exact LeO.none _)
   | (with_reducible refine LeO.ite ?_ ?_)
   | (with_reducible refine LeO.bind ?_ (fun _ => ?_))
   | exact ih0 _ _ _ _ _ _ _
   | exact ih1 _ _ _ _ _ _ _
   | exact ih2 _ _ _ _ _ _ _ _
   | exact ih3 _ _ _ _ _ _ _ _ _
   | exact ih4 _ _ _ _ _ _ _ _ _ _
   | exact spec_l20Free.mono _ _ _ _
   | exact spec_l20Step.mono _ _ _ _ _ _ _ _
   | exact LeO.none _
   | refine LeO.ite ?_ ?_
   | refine LeO.bind ?_ (fun _ => ?_)
  ·intro y0 y1 y2 y3 y4 y5 y6 y7 y8
   unfold spec_l20Far.l3
   repeat' first
   | (with_reducible exact ih0 _ _ _ _ _ _ _)
   | (with_reducible exact ih1 _ _ _ _ _ _ _)
   | (with_reducible exact ih2 _ _ _ _ _ _ _ _)
   | (with_reducible exact ih3 _ _ _ _ _ _ _ _ _)
   | (with_reducible exact ih4 _ _ _ _ _ _ _ _ _ _)
   | (with_reducible exact spec_l20Free.mono _ _ _ _)
   | (with_reducible exact spec_l20Step.mono _ _ _ _ _ _ _ _)
   | (with_reducible exact LeO.refl _)
   | (with_reducible exact LeO.none _)
   | (with_reducible refine LeO.ite ?_ ?_)
   | (with_reducible refine LeO.bind ?_ (fun _ => ?_))
   | exact ih0 _ _ _ _ _ _ _
   | exact ih1 _ _ _ _ _ _ _
   | exact ih2 _ _ _ _ _ _ _ _
   | exact ih3 _ _ _ _ _ _ _ _ _
   | exact ih4 _ _ _ _ _ _ _ _ _ _
   | exact spec_l20Free.mono _ _ _ _
   | exact spec_l20Step.mono _ _ _ _ _ _ _ _
   | exact LeO.none _
   | refine LeO.ite ?_ ?_
   | refine LeO.bind ?_ (fun _ => ?_)
  ·intro y0 y1 y2 y3 y4 y5 y6 y7 y8 y9
   unfold spec_l20Far.j4
   repeat' first
   | (with_reducible exact ih0 _ _ _ _ _ _ _)
   | (with_reducible exact ih1 _ _ _ _ _ _ _)
   | (with_reducible exact ih2 _ _ _ _ _ _ _ _)
   | (with_reducible exact ih3 _ _ _ _ _ _ _ _ _)
   | (with_reducible exact ih4 _ _ _ _ _ _ _ _ _ _)
   | (with_reducible exact spec_l20Free.mono _ _ _ _)
   | (with_reducible exact spec_l20Step.mono _ _ _ _ _ _ _ _)
   | (with_reducible exact LeO.refl _)
   | (with_reducible exact LeO.none _)
   | (with_reducible refine LeO.ite ?_ ?_)
   | (with_reducible refine LeO.bind ?_ (fun _ => ?_))
   | exact ih0 _ _ _ _ _ _ _
   | exact ih1 _ _ _ _ _ _ _
   | exact ih2 _ _ _ _ _ _ _ _
   | exact ih3 _ _ _ _ _ _ _ _ _
   | exact ih4 _ _ _ _ _ _ _ _ _ _
   | exact spec_l20Free.mono _ _ _ _
   | exact spec_l20Step.mono _ _ _ _ _ _ _ _
   | exact LeO.none _
   | refine LeO.ite ?_ ?_
   | refine LeO.bind ?_ (fun _ => ?_)
theorem spec_l20Far.mono : ∀ a0 a1 a2 a3 a4 k, LeO (spec_l20Far.f k a0 a1 a2 a3 a4) (spec_l20Far.f (k + 1) a0 a1 a2 a3 a4) := by
 intro a0 a1 a2 a3 a4 k
 obtain ⟨ih0, ih1, ih2, ih3, ih4⟩ := spec_l20Far.mono_l k
 unfold spec_l20Far.f
 repeat' first
   | (with_reducible exact ih0 _ _ _ _ _ _ _)
   | (with_reducible exact ih1 _ _ _ _ _ _ _)
   | (with_reducible exact ih2 _ _ _ _ _ _ _ _)
   | (with_reducible exact ih3 _ _ _ _ _ _ _ _ _)
   | (with_reducible exact ih4 _ _ _ _ _ _ _ _ _ _)
   | (with_reducible exact spec_l20Free.mono _ _ _ _)
   | (with_reducible exact spec_l20Step.mono _ _ _ _ _ _ _ _)
   | (with_reducible exact LeO.refl _)
   | (with_reducible exact LeO.none _)
   | (with_reducible refine LeO.ite ?_ ?_)
   | (with_reducible refine LeO.bind ?_ (fun _ => ?_))
   | exact ih0 _ _ _ _ _ _ _
   | exact ih1 _ _ _ _ _ _ _
   | exact ih2 _ _ _ _ _ _ _ _
   | exact ih3 _ _ _ _ _ _ _ _ _
   | exact ih4 _ _ _ _ _ _ _ _ _ _
   | exact spec_l20Free.mono _ _ _ _
   | exact spec_l20Step.mono _ _ _ _ _ _ _ _
   | exact LeO.none _
   | refine LeO.ite ?_ ?_
   | refine LeO.bind ?_ (fun _ => ?_)
set_option maxHeartbeats 8000000 in
set_option maxRecDepth 100000 in
theorem spec_l20Far.calls (k : Nat) (a0_0 : Int) (A0_1 : Option Addr) (c0_1 : Nat) (l0_1 : List Int) (a1_0 : Int) (A1_1 : Option Addr) (c1_1 : Nat) (l1_1 : List Int) (a2 : Int) (r : List Int) (w : World) (hr0_1 : Kd.C (Kd.int .i64) w A0_1 l0_1.length l0_1) (hc0_1 : l0_1.length ≤ c0_1) (hr1_1 : Kd.C (Kd.int .i64) w A1_1 l1_1.length l1_1) (hc1_1 : l1_1.length ≤ c1_1) (h : spec_l20Far.f k a0_0 l0_1 a1_0 l1_1 a2 = some r) :
  Calls Try.prog 67 #[.agg #[.int .i64 a0_0, .slice A0_1 l0_1.length c0_1], .agg #[.int .i64 a1_0, .slice A1_1 l1_1.length c1_1], .int .i64 a2] w fun e w' => ∃ v0_ : Value, e = .returned (v0_) ∧ Kd.R (Kd.int .i64) 3 w' w.heap.size (fun _ => True) v0_ r ∧ Below w.heap.size w w' := by
 have hu26 := Try.underlying26
 have HR0_1 := aQ hr0_1
 have HC0_1 := aQ hc0_1
 clear hr0_1 hc0_1
 have HR1_1 := aQ hr1_1
 have HC1_1 := aQ hc1_1
 clear hr1_1 hc1_1
 have HB := aQ (Below.refl w.heap.size w)
 have H : (if 0 ≤ a0_0 then (if (a0_0 : Int).toNat ≤ 35184372088832 then (spec_l20Far.l0 k a2 (List.replicate (a0_0 : Int).toNat 0) 0 a0_0 l0_1 a1_0 l1_1) else (none)) else (none)) = some r := h
 clear h
 by_cases c4 : 0 ≤ a0_0
 ·rw [if_pos c4] at H
  have c4b0 := eq_true c4
  have c4b1 : decide (0 ≤ a0_0) = true := decide_eq_true c4
  clear c4
  by_cases c5 : (a0_0 : Int).toNat ≤ 35184372088832
  ·rw [if_pos c5] at H
   have c5b0 := eq_true c5
   have c5b1 : decide ((a0_0 : Int).toNat ≤ 35184372088832) = true := decide_eq_true c5
   clear c5
   obtain ⟨y68003, hy68003⟩ : ∃ y_ : List Int, y_ = (List.replicate (a0_0 : Int).toNat 0) := ⟨_, rfl⟩
   replace H : (spec_l20Far.l0 k a2 y68003 0 a0_0 l0_1 a1_0 l1_1) = some r := by first | (rw [hy68003]; with_reducible exact H) | (have H2_ := (Option.bind_some _ _).symm.trans H; rw [hy68003]; with_reducible exact H2_) | (have H2_ := (Option.bind_some _ _).symm.trans H; with_reducible exact H2_) | with_reducible exact H | (rw [hy68003]; exact H) | exact H
   have Ny68003 := aQ hy68003
   clear hy68003
   have H' := aQ H
   clear H
   go_enter Try.func67, Try.ntmps67
   go_wp2_with (first | ((with_reducible refine gate_dst (N := 3) rfl ?_); refine box_event ?hg (N := 3) ?hd (cs := #[.int .i64 a0_0, .slice A0_1 l0_1.length c0_1]) (t := 26) ?hr ?_; (case hd => rfl); (case hg => rfl); (case hr => first | (go_simp; done) | (go_simp; rfl)); intro gb68001 hg w6 hbox hb; have BK68001 := aQ (hbox); have GW68001 := aQ ((by rw [hg]; exact (below_size (pB HB.out)) : w.heap.size ≤ gb68001)); have GE68001 := aQ ((by rw [hg]; exact (below_size (pB HB.out)) : w.heap.size ≤ gb68001)); replace HB := aQ (below_step (pB HB.out) hb); clear hb hbox hg) | ((with_reducible refine gate_dst (N := 4) rfl ?_); refine box_event ?hg (N := 4) ?hd (cs := #[.int .i64 a1_0, .slice A1_1 l1_1.length c1_1]) (t := 26) ?hr ?_; (case hd => rfl); (case hg => rfl); (case hr => first | (go_simp; done) | (go_simp; rfl)); intro gb68002 hg w7 hbox hb; have BK68002 := aQ (hbox); have GW68002 := aQ ((by rw [hg]; exact (below_size (pB1 HB.out GE68001.out)) : w.heap.size ≤ gb68002)); have GE68002 := aQ ((by rw [hg]; exact (below_size (pB1 HB.out GE68001.out)) : w.heap.size ≤ gb68002)); replace HB := aQ (below_step (pB1 HB.out GE68001.out) hb); have NB68001_68002 := aQ ((by rw [hg]; exact Nat.ne_of_lt (blk_lt (g := gb68001) (o := .cells #[.int .i64 a0_0, .slice A0_1 l0_1.length c0_1] 26 (0, 0)) (pk BK68001.out)) : gb68001 ≠ gb68002)); have NB68002_68001 := aQ ((by rw [hg]; exact Nat.ne_of_gt (blk_lt (g := gb68001) (o := .cells #[.int .i64 a0_0, .slice A0_1 l0_1.length c0_1] 26 (0, 0)) (pk BK68001.out)) : gb68002 ≠ gb68001)); replace BK68001 := aQ (blk_below (g := gb68001) (o := .cells #[.int .i64 a0_0, .slice A0_1 l0_1.length c0_1] 26 (0, 0)) (pk BK68001.out) hb); clear hb hbox hg; have hnb8 := NB68001_68002.out; have hnc8 := NB68002_68001.out; have hcz9_0 := bc (v := (.int .i64 a0_0)) BK68001.out 0; have hcz9_1 := bc (v := (.slice A0_1 l0_1.length c0_1)) BK68001.out 1; have hfz9_0 := blk_frozen BK68001.out 0; have hfz9_1 := blk_frozen BK68001.out 1) | ((with_reducible refine gate_dst (N := 14) rfl ?_); refine Kd.R_make (Kd.int .i64) _ 3 rfl (N := 14) rfl 22 _ _ rfl a0_0 rfl rfl Try.underlying22 (.int .i64 0) 8 info3 rfl (by decide) (by omega) 0 (ok := fun _ => True) (okp := fun _ => True) rfl (fun _ hk => hk) trivial (of_decide_eq_true as_) (Nat.le_trans (Nat.mul_le_mul_right _ (of_decide_eq_true as_ : a0_0.toNat ≤ 35184372088832)) (by omega)) (Below.refl _ _) (Nat.le_refl _) ?_; intro v68004 w10 ho11 hb hg_ hnew_; clear hg_ hnew_; (first | rw [← Ny68003.out] at ho11 | (simp only [Int.reduceToNat] at ho11; rw [← Ny68003.out] at ho11)); have HO68005 := aQ (Kd.R_lower ho11 (below_size (pB2 HB.out GE68001.out GE68002.out))); replace BK68001 := aQ (blk_below (g := gb68001) (o := .cells #[.int .i64 a0_0, .slice A0_1 l0_1.length c0_1] 26 (0, 0)) (pk BK68001.out) hb); replace BK68002 := aQ (blk_below (g := gb68002) (o := .cells #[.int .i64 a1_0, .slice A1_1 l1_1.length c1_1] 26 (0, 0)) (pk BK68002.out) hb); replace HB := aQ (below_step (pB2 HB.out GE68001.out GE68002.out) hb); clear hb ho11))
   go_loopg [8] k (fun kq v8 w' => ∃ (x7_1 : List Int) (x8_1 : Int), v8 = .int .i64 x8_1 ∧ Aside0 (spec_l20Far.l0 kq a2 x7_1 x8_1 a0_0 l0_1 a1_0 l1_1 = some r) ∧ Aside0 (kq ≤ k) ∧ Aside0 (Kd.R (Kd.int .i64) 3 w' w.heap.size (fun _ => True) v68004 x7_1) ∧ Aside0 (w'.heap[gb68001]? = some (.cells #[.int .i64 a0_0, (.slice A0_1 l0_1.length c0_1)] 26 (0, 0))) ∧ Aside0 (w'.heap[gb68002]? = some (.cells #[.int .i64 a1_0, (.slice A1_1 l1_1.length c1_1)] 26 (0, 0))) ∧ Aside0 (Below w.heap.size w w'))
   case atStart => exact ⟨(y68003), (0), rs_, H', ⟨Nat.le_refl _⟩, ⟨pR HO68005.out⟩, ⟨pk BK68001.out⟩, ⟨pk BK68002.out⟩, ⟨pB2 HB.out GE68001.out GE68002.out⟩⟩
   case round =>
    clear H'
    try clear c1
    try clear p2
    try clear c4
    try clear c4b0
    try clear c4b1
    try clear c5
    try clear c5b0
    try clear c5b1
    try clear c6
    try clear c8
    try clear hcz9_0
    try clear hcz9_1
    try clear hfz9_0
    try clear hfz9_1
    obtain ⟨x7_1, x8_1, rfl, HA, HK1, HO_7, BK68001, BK68002, HB⟩ := hrel
    cases gk with
    | zero => exact absurd HA.out (by simp [spec_l20Far.l0])
    | succ k1 =>
     have H := HA.out
     clear HA
     simp only [spec_l20Far.l0] at H
     by_cases c12 : x8_1 < a0_0
     ·rw [if_pos c12] at H
      have c12b0 : decide (x8_1 < a0_0) = true := decide_eq_true c12
      clear c12
      replace H := Option.bind_eq_some_iff.mp H
      obtain ⟨t68006, A130, H⟩ := H
      replace H : (if t68006 = true then ((spec_l1Bit.f false).bind fun t68007 => (if 0 ≤ x8_1 then (if x8_1 < (x7_1.length : Int) then (spec_l20Far.l0 k1 a2 (x7_1.set (x8_1 : Int).toNat t68007) (wrap64 (x8_1 + 1)) a0_0 l0_1 a1_0 l1_1) else (none)) else (none))) else (if 0 ≤ (IntKind.u64.wrap (x8_1)) then ((spec_l20Free.f k1 a1_0 l1_1 (Go.bits .or .i64 a2 (shl .i64 1 (IntKind.u64.wrap (x8_1))))).bind fun t68009 => ((spec_l1Bit.f t68009).bind fun t68010 => (if 0 ≤ x8_1 then (if x8_1 < (x7_1.length : Int) then (spec_l20Far.l0 k1 a2 (x7_1.set (x8_1 : Int).toNat t68010) (wrap64 (x8_1 + 1)) a0_0 l0_1 a1_0 l1_1) else (none)) else (none)))) else (none))) = some r := H
      have A13 := aQ A130
      clear A130
      by_cases c14 : t68006 = true
      ·subst c14
       have H1 : ((spec_l1Bit.f false).bind fun t68007 => (if 0 ≤ x8_1 then (if x8_1 < (x7_1.length : Int) then (spec_l20Far.l0 k1 a2 (x7_1.set (x8_1 : Int).toNat t68007) (wrap64 (x8_1 + 1)) a0_0 l0_1 a1_0 l1_1) else (none)) else (none))) = some r := by rw [if_pos rfl] at H; exact H
       clear H
       have H := H1
       clear H1
       replace H := Option.bind_eq_some_iff.mp H
       obtain ⟨t68007, A150, H⟩ := H
       replace H : (if 0 ≤ x8_1 then (if x8_1 < (x7_1.length : Int) then (spec_l20Far.l0 k1 a2 (x7_1.set (x8_1 : Int).toNat t68007) (wrap64 (x8_1 + 1)) a0_0 l0_1 a1_0 l1_1) else (none)) else (none)) = some r := H
       have A15 := aQ A150
       clear A150
       by_cases c16 : 0 ≤ x8_1
       ·rw [if_pos c16] at H
        have c16b0 : decide (0 ≤ x8_1) = true := decide_eq_true c16
        clear c16
        by_cases c17 : x8_1 < (x7_1.length : Int)
        ·rw [if_pos c17] at H
         have c17b0 : decide (x8_1 < (x7_1.length : Int)) = true := decide_eq_true c17
         clear c17
         obtain ⟨y68008, hy68008⟩ : ∃ y_ : List Int, y_ = (x7_1.set (x8_1 : Int).toNat t68007) := ⟨_, rfl⟩
         replace H : (spec_l20Far.l0 k1 a2 y68008 (wrap64 (x8_1 + 1)) a0_0 l0_1 a1_0 l1_1) = some r := by first | (rw [hy68008]; with_reducible exact H) | (have H2_ := (Option.bind_some _ _).symm.trans H; rw [hy68008]; with_reducible exact H2_) | (have H2_ := (Option.bind_some _ _).symm.trans H; with_reducible exact H2_) | with_reducible exact H | (rw [hy68008]; exact H) | exact H
         have Ny68008 := aQ hy68008
         clear hy68008
         have H' := aQ H
         clear H
         have hnb19 := NB68001_68002.out
         have hnc19 := NB68002_68001.out
         have hcz20_0 := bc (v := (.int .i64 a0_0)) BK68001.out 0
         have hcz20_1 := bc (v := (.slice A0_1 l0_1.length c0_1)) BK68001.out 1
         have hfz20_0 := blk_frozen BK68001.out 0
         have hfz20_1 := blk_frozen BK68001.out 1
         go_wp2_with (first | ((with_reducible refine gate_callee (f := 68) rfl ?_); refine goesL_ (some 25) rfl rfl Try.func68 (by kernel_rfl) rfl #[.int .i64 a2, .int .i64 x8_1] rfl lm ?_; (with_reducible refine (spec_l2Has.calls a2 x8_1 true _ A13.out).mono ?_); rintro e w' ⟨rfl, ⟨nd, rfl⟩⟩; refine ⟨_, rfl, ?_⟩; (try (rw [drewN_self wr]; generalize hq_ : World.drewN wr _ = wr; have n0_ : Aside0 (Kd.R (Kd.int .i64) 3 wr w.heap.size (fun _ => True) v68004 x7_1) := ⟨by rw [← hq_]; exact (pR HO_7.out)⟩; have n1_ : Aside0 (wr.heap[gb68001]? = some (.cells #[.int .i64 a0_0, .slice A0_1 l0_1.length c0_1] 26 (0, 0))) := ⟨by rw [← hq_]; exact (pk BK68001.out)⟩; have n2_ : Aside0 (wr.heap[gb68002]? = some (.cells #[.int .i64 a1_0, .slice A1_1 l1_1.length c1_1] 26 (0, 0))) := ⟨by rw [← hq_]; exact (pk BK68002.out)⟩; have n3_ : Aside0 (Below w.heap.size w wr) := ⟨by rw [← hq_]; exact (pB2 HB.out GE68001.out GE68002.out)⟩; clear HO_7 BK68001 BK68002 HB hq_; have HO_7 := n0_; have BK68001 := n1_; have BK68002 := n2_; have HB := n3_; clear n0_ n1_ n2_ n3_))) | ((with_reducible refine gate_callee (f := 89) rfl ?_); refine goesL_ (some 36) rfl rfl Try.func89 (by kernel_rfl) rfl #[.bool false] rfl lm ?_; (with_reducible refine (spec_l1Bit.calls false t68007 _ A15.out).mono ?_); rintro e w' ⟨rfl, ⟨nd, rfl⟩⟩; refine ⟨_, rfl, ?_⟩; (try (rw [drewN_self wr]; generalize hq_ : World.drewN wr _ = wr; have n0_ : Aside0 (Kd.R (Kd.int .i64) 3 wr w.heap.size (fun _ => True) v68004 x7_1) := ⟨by rw [← hq_]; exact (pR HO_7.out)⟩; have n1_ : Aside0 (wr.heap[gb68001]? = some (.cells #[.int .i64 a0_0, .slice A0_1 l0_1.length c0_1] 26 (0, 0))) := ⟨by rw [← hq_]; exact (pk BK68001.out)⟩; have n2_ : Aside0 (wr.heap[gb68002]? = some (.cells #[.int .i64 a1_0, .slice A1_1 l1_1.length c1_1] 26 (0, 0))) := ⟨by rw [← hq_]; exact (pk BK68002.out)⟩; have n3_ : Aside0 (Below w.heap.size w wr) := ⟨by rw [← hq_]; exact (pB2 HB.out GE68001.out GE68002.out)⟩; clear HO_7 BK68001 BK68002 HB hq_; have HO_7 := n0_; have BK68001 := n1_; have BK68002 := n2_; have HB := n3_; clear n0_ n1_ n2_ n3_)); have p18 : 0 ≤ (x8_1 : Int) := of_decide_eq_true as_; have q18 : (x8_1 : Int) < ((x7_1.length : Int) : Int) := of_decide_eq_true as_; obtain ⟨go18, co18, eo18, gb18, gl18, cl18, HG18⟩ := Kd.R_form HO_7.out (by omega); (first | cases eo18 | (injection eo18 with ea_ en_ ec_; (first | subst ea_ | (injection ea_ with ea_; subst ea_)); subst ec_; clear en_)); have GB18 := aQ gb18; have GG18 := aQ HG18; clear gb18 gl18 HG18; obtain ⟨hx18_0, hf18_0⟩ := Kd.R_celln 0 HO_7.out (x8_1 : Int) p18 q18; replace p18 := eq_true p18; replace q18 := eq_true q18; obtain ⟨hy21_, hz21_⟩ := Kd.R_celln 0 HO_7.out (x8_1 : Int) (of_decide_eq_true as_) (of_decide_eq_true as_); have HP21 := Kd.R_putg HO_7.out (x8_1 : Int) t68007) | ((with_reducible refine gate_store (t := 3) (p := 37) rfl ?_); refine store_event (t := 3) (p := 37) (v := ?vo_w22) (w1 := (wr.setCell ⟨go18, (x8_1 : Int).toNat, none⟩ (.int .i64 t68007))) ?hg ?ho ?hn ?hr ?_; (case ho => rfl); (case hg => rfl); (case hn => rfl); (case hr => first | (go_simp; done) | (go_simp; rfl)); intro w22 hw; have hg : wr.grownBy w22 (some go18) := (by rw [hw]; exact HP21.2); have hp_ : Kd.R (Kd.int .i64) 3 w22 w.heap.size (fun _ => True) (.slice (some ⟨go18, 0, none⟩) x7_1.length co18) y68008 := (by rw [hw, Ny68008.out]; exact HP21.1); clear HP21; replace BK68001 := aQ (blk_grown (g := gb68001) (o := .cells #[.int .i64 a0_0, .slice A0_1 l0_1.length c0_1] 26 (0, 0)) (pk BK68001.out) hg (Kd.R_ne HO_7.out BK68001.out (by decide))); replace BK68002 := aQ (blk_grown (g := gb68002) (o := .cells #[.int .i64 a1_0, .slice A1_1 l1_1.length c1_1] 26 (0, 0)) (pk BK68002.out) hg (Kd.R_ne HO_7.out BK68002.out (by decide))); replace HO_7 := aQ (hp_); replace HB := aQ ((by rw [hw]; exact below_set (HB.out) GB18.out : Below w.heap.size w w22)); clear hg hw hp_))
         go_roundg k1
         case measure => have := HK1.out; omega
         case rel => exact ⟨(y68008), (wrap64 (x8_1 + 1)), rs_, H', ⟨by have := HK1.out; omega⟩, ⟨pR HO_7.out⟩, ⟨pk BK68001.out⟩, ⟨pk BK68002.out⟩, ⟨pB2 HB.out GE68001.out GE68002.out⟩⟩
        ·rw [if_neg c17] at H
         exact absurd H (by simp)
       ·rw [if_neg c16] at H
        exact absurd H (by simp)
      ·replace c14 := Bool.eq_false_iff.mpr c14
       subst c14
       have H1 : (if 0 ≤ (IntKind.u64.wrap (x8_1)) then ((spec_l20Free.f k1 a1_0 l1_1 (Go.bits .or .i64 a2 (shl .i64 1 (IntKind.u64.wrap (x8_1))))).bind fun t68009 => ((spec_l1Bit.f t68009).bind fun t68010 => (if 0 ≤ x8_1 then (if x8_1 < (x7_1.length : Int) then (spec_l20Far.l0 k1 a2 (x7_1.set (x8_1 : Int).toNat t68010) (wrap64 (x8_1 + 1)) a0_0 l0_1 a1_0 l1_1) else (none)) else (none)))) else (none)) = some r := by rw [if_neg (show ¬ (false = true) by decide)] at H; exact H
       clear H
       have H := H1
       clear H1
       obtain ⟨ji23, hji23⟩ : ∃ j_ : Int, (IntKind.u64.wrap (x8_1)) = j_ := ⟨_, rfl⟩
       replace H : (if 0 ≤ (ji23) then ((spec_l20Free.f k1 a1_0 l1_1 (Go.bits .or .i64 a2 (shl .i64 1 (ji23)))).bind fun t68009 => ((spec_l1Bit.f t68009).bind fun t68010 => (if 0 ≤ x8_1 then (if x8_1 < (x7_1.length : Int) then (spec_l20Far.l0 k1 a2 (x7_1.set (x8_1 : Int).toNat t68010) (wrap64 (x8_1 + 1)) a0_0 l0_1 a1_0 l1_1) else (none)) else (none)))) else (none)) = some r := by first | (rw [hji23] at H; exact H) | (simp only [hji23] at H ⊢; exact H)
       (try rw [hji23] at A13)
       by_cases c24 : 0 ≤ (ji23)
       ·rw [if_pos c24] at H
        have c24b0 := eq_true c24
        have c24b1 : decide (0 ≤ (ji23)) = true := decide_eq_true c24
        clear c24
        obtain ⟨ji25, hji25⟩ : ∃ j_ : Int, (shl .i64 1 (ji23)) = j_ := ⟨_, rfl⟩
        replace H : ((spec_l20Free.f k1 a1_0 l1_1 (Go.bits .or .i64 a2 (ji25))).bind fun t68009 => ((spec_l1Bit.f t68009).bind fun t68010 => (if 0 ≤ x8_1 then (if x8_1 < (x7_1.length : Int) then (spec_l20Far.l0 k1 a2 (x7_1.set (x8_1 : Int).toNat t68010) (wrap64 (x8_1 + 1)) a0_0 l0_1 a1_0 l1_1) else (none)) else (none)))) = some r := by first | (rw [hji25] at H; exact H) | (simp only [hji25] at H ⊢; exact H)
        (try rw [hji25] at A13)
        have hji25_ : (IntKind.i64.wrap (1 * 2 ^ min (ji23).toNat 64)) = ji25 := hji25
        have hji25z : (ji23) ≤ 64 → (IntKind.i64.wrap (1 * 2 ^ (ji23).toNat)) = ji25 := shl_small hji25
        have hji25u : (IntKind.i64.wrap (2 ^ min (ji23).toNat 64)) = ji25 := by have h_ := hji25_; rw [Int.one_mul] at h_; exact h_
        have hji25v : (ji23) ≤ 64 → (IntKind.i64.wrap (2 ^ (ji23).toNat)) = ji25 := fun hle_ => by have h_ := hji25z hle_; rw [Int.one_mul] at h_; exact h_
        have hji25y : (wrap64 (1 * 2 ^ min (ji23).toNat 64)) = ji25 := (i64_w _).symm.trans hji25_
        have hji25x : (ji23) ≤ 64 → (wrap64 (1 * 2 ^ (ji23).toNat)) = ji25 := fun h_ => (i64_w _).symm.trans (hji25z h_)
        replace H := Option.bind_eq_some_iff.mp H
        obtain ⟨t68009, A260, H⟩ := H
        replace H : ((spec_l1Bit.f t68009).bind fun t68010 => (if 0 ≤ x8_1 then (if x8_1 < (x7_1.length : Int) then (spec_l20Far.l0 k1 a2 (x7_1.set (x8_1 : Int).toNat t68010) (wrap64 (x8_1 + 1)) a0_0 l0_1 a1_0 l1_1) else (none)) else (none))) = some r := H
        have A26 := aQ A260
        clear A260
        replace H := Option.bind_eq_some_iff.mp H
        obtain ⟨t68010, A270, H⟩ := H
        replace H : (if 0 ≤ x8_1 then (if x8_1 < (x7_1.length : Int) then (spec_l20Far.l0 k1 a2 (x7_1.set (x8_1 : Int).toNat t68010) (wrap64 (x8_1 + 1)) a0_0 l0_1 a1_0 l1_1) else (none)) else (none)) = some r := H
        have A27 := aQ A270
        clear A270
        by_cases c28 : 0 ≤ x8_1
        ·rw [if_pos c28] at H
         have c28b0 : decide (0 ≤ x8_1) = true := decide_eq_true c28
         clear c28
         by_cases c29 : x8_1 < (x7_1.length : Int)
         ·rw [if_pos c29] at H
          have c29b0 : decide (x8_1 < (x7_1.length : Int)) = true := decide_eq_true c29
          clear c29
          obtain ⟨y68011, hy68011⟩ : ∃ y_ : List Int, y_ = (x7_1.set (x8_1 : Int).toNat t68010) := ⟨_, rfl⟩
          replace H : (spec_l20Far.l0 k1 a2 y68011 (wrap64 (x8_1 + 1)) a0_0 l0_1 a1_0 l1_1) = some r := by first | (rw [hy68011]; with_reducible exact H) | (have H2_ := (Option.bind_some _ _).symm.trans H; rw [hy68011]; with_reducible exact H2_) | (have H2_ := (Option.bind_some _ _).symm.trans H; with_reducible exact H2_) | with_reducible exact H | (rw [hy68011]; exact H) | exact H
          have Ny68011 := aQ hy68011
          clear hy68011
          have H' := aQ H
          clear H
          have hnb31 := NB68001_68002.out
          have hnc31 := NB68002_68001.out
          have hcz32_0 := bc (v := (.int .i64 a0_0)) BK68001.out 0
          have hcz32_1 := bc (v := (.slice A0_1 l0_1.length c0_1)) BK68001.out 1
          have hfz32_0 := blk_frozen BK68001.out 0
          have hfz32_1 := blk_frozen BK68001.out 1
          go_wp2_with (first | ((with_reducible refine gate_callee (f := 68) rfl ?_); refine goesL_ (some 25) rfl rfl Try.func68 (by kernel_rfl) rfl #[.int .i64 a2, .int .i64 x8_1] rfl lm ?_; (with_reducible refine (spec_l2Has.calls a2 x8_1 false _ A13.out).mono ?_); rintro e w' ⟨rfl, ⟨nd, rfl⟩⟩; refine ⟨_, rfl, ?_⟩; (try (rw [drewN_self wr]; generalize hq_ : World.drewN wr _ = wr; have n0_ : Aside0 (Kd.R (Kd.int .i64) 3 wr w.heap.size (fun _ => True) v68004 x7_1) := ⟨by rw [← hq_]; exact (pR HO_7.out)⟩; have n1_ : Aside0 (wr.heap[gb68001]? = some (.cells #[.int .i64 a0_0, .slice A0_1 l0_1.length c0_1] 26 (0, 0))) := ⟨by rw [← hq_]; exact (pk BK68001.out)⟩; have n2_ : Aside0 (wr.heap[gb68002]? = some (.cells #[.int .i64 a1_0, .slice A1_1 l1_1.length c1_1] 26 (0, 0))) := ⟨by rw [← hq_]; exact (pk BK68002.out)⟩; have n3_ : Aside0 (Below w.heap.size w wr) := ⟨by rw [← hq_]; exact (pB2 HB.out GE68001.out GE68002.out)⟩; clear HO_7 BK68001 BK68002 HB hq_; have HO_7 := n0_; have BK68001 := n1_; have BK68002 := n2_; have HB := n3_; clear n0_ n1_ n2_ n3_)); have hcz33_0 := bc (v := (.int .i64 a1_0)) BK68002.out 0; have hcz33_1 := bc (v := (.slice A1_1 l1_1.length c1_1)) BK68002.out 1; have hfz33_0 := blk_frozen BK68002.out 0; have hfz33_1 := blk_frozen BK68002.out 1) | (go_at_call 69; (with_reducible refine (spec_l20Free.calls k1 a1_0 _ _ l1_1 (Go.bits .or .i64 a2 (ji25)) t68009 _ ?side1 ?side2 A26.out).mono ?_); (case side1 => exact pC (Kd.C_below HR1_1.out HB.out)); (case side2 => exact HC1_1.out); rintro e w34 ⟨rfl, hb⟩; replace HO_7 := aQ (Kd.R_below (pR HO_7.out) hb); replace BK68001 := aQ (blk_below (g := gb68001) (o := .cells #[.int .i64 a0_0, .slice A0_1 l0_1.length c0_1] 26 (0, 0)) (pk BK68001.out) hb); replace BK68002 := aQ (blk_below (g := gb68002) (o := .cells #[.int .i64 a1_0, .slice A1_1 l1_1.length c1_1] 26 (0, 0)) (pk BK68002.out) hb); replace HB := aQ (below_step (pB2 HB.out GE68001.out GE68002.out) hb); (try clear hb)) | ((with_reducible refine gate_callee (f := 89) rfl ?_); refine goesL_ (some 36) rfl rfl Try.func89 (by kernel_rfl) rfl #[.bool t68009] rfl lm ?_; (with_reducible refine (spec_l1Bit.calls t68009 t68010 _ A27.out).mono ?_); rintro e w' ⟨rfl, ⟨nd, rfl⟩⟩; refine ⟨_, rfl, ?_⟩; (try (rw [drewN_self w34]; generalize hq_ : World.drewN w34 _ = w34; have n0_ : Aside0 (Kd.R (Kd.int .i64) 3 w34 w.heap.size (fun _ => True) v68004 x7_1) := ⟨by rw [← hq_]; exact (pR HO_7.out)⟩; have n1_ : Aside0 (w34.heap[gb68001]? = some (.cells #[.int .i64 a0_0, .slice A0_1 l0_1.length c0_1] 26 (0, 0))) := ⟨by rw [← hq_]; exact (pk BK68001.out)⟩; have n2_ : Aside0 (w34.heap[gb68002]? = some (.cells #[.int .i64 a1_0, .slice A1_1 l1_1.length c1_1] 26 (0, 0))) := ⟨by rw [← hq_]; exact (pk BK68002.out)⟩; have n3_ : Aside0 (Below w.heap.size w w34) := ⟨by rw [← hq_]; exact (pB2 HB.out GE68001.out GE68002.out)⟩; clear HO_7 BK68001 BK68002 HB hq_; have HO_7 := n0_; have BK68001 := n1_; have BK68002 := n2_; have HB := n3_; clear n0_ n1_ n2_ n3_)); have p30 : 0 ≤ (x8_1 : Int) := of_decide_eq_true as_; have q30 : (x8_1 : Int) < ((x7_1.length : Int) : Int) := of_decide_eq_true as_; obtain ⟨go30, co30, eo30, gb30, gl30, cl30, HG30⟩ := Kd.R_form HO_7.out (by omega); (first | cases eo30 | (injection eo30 with ea_ en_ ec_; (first | subst ea_ | (injection ea_ with ea_; subst ea_)); subst ec_; clear en_)); have GB30 := aQ gb30; have GG30 := aQ HG30; clear gb30 gl30 HG30; obtain ⟨hx30_0, hf30_0⟩ := Kd.R_celln 0 HO_7.out (x8_1 : Int) p30 q30; replace p30 := eq_true p30; replace q30 := eq_true q30; obtain ⟨hy35_, hz35_⟩ := Kd.R_celln 0 HO_7.out (x8_1 : Int) (of_decide_eq_true as_) (of_decide_eq_true as_); have HP35 := Kd.R_putg HO_7.out (x8_1 : Int) t68010) | ((with_reducible refine gate_store (t := 3) (p := 37) rfl ?_); refine store_event (t := 3) (p := 37) (v := ?vo_w36) (w1 := (w34.setCell ⟨go30, (x8_1 : Int).toNat, none⟩ (.int .i64 t68010))) ?hg ?ho ?hn ?hr ?_; (case ho => rfl); (case hg => rfl); (case hn => rfl); (case hr => first | (go_simp; done) | (go_simp; rfl)); intro w36 hw; have hg : w34.grownBy w36 (some go30) := (by rw [hw]; exact HP35.2); have hp_ : Kd.R (Kd.int .i64) 3 w36 w.heap.size (fun _ => True) (.slice (some ⟨go30, 0, none⟩) x7_1.length co30) y68011 := (by rw [hw, Ny68011.out]; exact HP35.1); clear HP35; replace BK68001 := aQ (blk_grown (g := gb68001) (o := .cells #[.int .i64 a0_0, .slice A0_1 l0_1.length c0_1] 26 (0, 0)) (pk BK68001.out) hg (Kd.R_ne HO_7.out BK68001.out (by decide))); replace BK68002 := aQ (blk_grown (g := gb68002) (o := .cells #[.int .i64 a1_0, .slice A1_1 l1_1.length c1_1] 26 (0, 0)) (pk BK68002.out) hg (Kd.R_ne HO_7.out BK68002.out (by decide))); replace HO_7 := aQ (hp_); replace HB := aQ ((by rw [hw]; exact below_set (HB.out) GB30.out : Below w.heap.size w w36)); clear hg hw hp_))
          go_roundg k1
          case measure => have := HK1.out; omega
          case rel => exact ⟨(y68011), (wrap64 (x8_1 + 1)), rs_, H', ⟨by have := HK1.out; omega⟩, ⟨pR HO_7.out⟩, ⟨pk BK68001.out⟩, ⟨pk BK68002.out⟩, ⟨pB2 HB.out GE68001.out GE68002.out⟩⟩
         ·rw [if_neg c29] at H
          exact absurd H (by simp)
        ·rw [if_neg c28] at H
         exact absurd H (by simp)
       ·rw [if_neg c24] at H
        exact absurd H (by simp)
     ·rw [if_neg c12] at H
      have c12b0 : decide (x8_1 < a0_0) = false := decide_eq_false c12
      clear c12
      have H' := aQ H
      clear H
      have hnb37 := NB68001_68002.out
      have hnc37 := NB68002_68001.out
      have hcz38_0 := bc (v := (.int .i64 a0_0)) BK68001.out 0
      have hcz38_1 := bc (v := (.slice A0_1 l0_1.length c0_1)) BK68001.out 1
      have hfz38_0 := blk_frozen BK68001.out 0
      have hfz38_1 := blk_frozen BK68001.out 1
      go_wp2
      go_loopg [9] k1 (fun kq v9 w' => ∃ (x7_2 : List Int) (x9_2 : Int), v9 = .int .i64 x9_2 ∧ Aside0 (spec_l20Far.l1 kq a2 x7_2 x9_2 a0_0 l0_1 a1_0 l1_1 = some r) ∧ Aside0 (kq ≤ k1) ∧ Aside0 (Kd.R (Kd.int .i64) 3 w' w.heap.size (fun _ => True) v68004 x7_2) ∧ Aside0 (w'.heap[gb68001]? = some (.cells #[.int .i64 a0_0, (.slice A0_1 l0_1.length c0_1)] 26 (0, 0))) ∧ Aside0 (w'.heap[gb68002]? = some (.cells #[.int .i64 a1_0, (.slice A1_1 l1_1.length c1_1)] 26 (0, 0))) ∧ Aside0 (Below w.heap.size w w'))
      case atStart => exact ⟨(x7_1), (2), rs_, H', ⟨Nat.le_refl _⟩, ⟨pR HO_7.out⟩, ⟨pk BK68001.out⟩, ⟨pk BK68002.out⟩, ⟨pB2 HB.out GE68001.out GE68002.out⟩⟩
      case round =>
       clear H'
       try clear c1
       try clear p1
       try clear q1
       try clear hx1
       try clear c2
       try clear p2
       try clear c3
       try clear p3
       try clear q3
       try clear hx3
       try clear hf3
       try clear c4
       try clear c4b0
       try clear c4b1
       try clear c5
       try clear c5b0
       try clear c5b1
       try clear c6
       try clear p6
       try clear c8
       try clear c12
       try clear c12b0
       try clear c14
       try clear c16
       try clear c16b0
       try clear c17
       try clear c17b0
       try clear p18
       try clear q18
       try clear hx18
       try clear hf18
       try clear c19
       try clear c24
       try clear c24b0
       try clear c24b1
       try clear c28
       try clear c28b0
       try clear c29
       try clear c29b0
       try clear p30
       try clear q30
       try clear hx30
       try clear hf30
       try clear c31
       try clear c37
       try clear hcz20_0
       try clear hcz20_1
       try clear hcz32_0
       try clear hcz32_1
       try clear hcz33_0
       try clear hcz33_1
       try clear hcz38_0
       try clear hcz38_1
       try clear hcz9_0
       try clear hcz9_1
       try clear hfz20_0
       try clear hfz20_1
       try clear hfz32_0
       try clear hfz32_1
       try clear hfz33_0
       try clear hfz33_1
       try clear hfz38_0
       try clear hfz38_1
       try clear hfz9_0
       try clear hfz9_1
       try clear hx18_0
       try clear hx30_0
       try clear p18
       try clear p2
       try clear p30
       try clear q18
       try clear q30
       obtain ⟨x7_2, x9_2, rfl, HA, HK2, HO_7, BK68001, BK68002, HB⟩ := hrel
       cases gk with
       | zero => exact absurd HA.out (by simp [spec_l20Far.l1])
       | succ k2 =>
        have H := HA.out
        clear HA
        simp only [spec_l20Far.l1] at H
        by_cases c39 : x9_2 ≤ a0_0
        ·rw [if_pos c39] at H
         have c39b0 : decide (x9_2 ≤ a0_0) = true := decide_eq_true c39
         clear c39
         have H' := aQ H
         clear H
         have hnb40 := NB68001_68002.out
         have hnc40 := NB68002_68001.out
         have hcz41_0 := bc (v := (.int .i64 a0_0)) BK68001.out 0
         have hcz41_1 := bc (v := (.slice A0_1 l0_1.length c0_1)) BK68001.out 1
         have hfz41_0 := blk_frozen BK68001.out 0
         have hfz41_1 := blk_frozen BK68001.out 1
         go_wp2
         go_loopg [10] k2 (fun kq v10 w' => ∃ (x7_3 : List Int) (x10_3 : Int), v10 = .int .i64 x10_3 ∧ Aside0 (spec_l20Far.l2 kq a2 x7_3 x9_2 x10_3 a0_0 l0_1 a1_0 l1_1 = some r) ∧ Aside0 (kq ≤ k2) ∧ Aside0 (Kd.R (Kd.int .i64) 3 w' w.heap.size (fun _ => True) v68004 x7_3) ∧ Aside0 (w'.heap[gb68001]? = some (.cells #[.int .i64 a0_0, (.slice A0_1 l0_1.length c0_1)] 26 (0, 0))) ∧ Aside0 (w'.heap[gb68002]? = some (.cells #[.int .i64 a1_0, (.slice A1_1 l1_1.length c1_1)] 26 (0, 0))) ∧ Aside0 (Below w.heap.size w w'))
         case atStart => exact ⟨(x7_2), (0), rs_, H', ⟨Nat.le_refl _⟩, ⟨pR HO_7.out⟩, ⟨pk BK68001.out⟩, ⟨pk BK68002.out⟩, ⟨pB2 HB.out GE68001.out GE68002.out⟩⟩
         case round =>
          clear H'
          try clear c1
          try clear p1
          try clear q1
          try clear hx1
          try clear c2
          try clear p2
          try clear c3
          try clear p3
          try clear q3
          try clear hx3
          try clear hf3
          try clear c4
          try clear c4b0
          try clear c4b1
          try clear c5
          try clear c5b0
          try clear c5b1
          try clear c6
          try clear p6
          try clear c8
          try clear c12
          try clear c12b0
          try clear c14
          try clear c16
          try clear c16b0
          try clear c17
          try clear c17b0
          try clear p18
          try clear q18
          try clear hx18
          try clear hf18
          try clear c19
          try clear c24
          try clear c24b0
          try clear c24b1
          try clear c28
          try clear c28b0
          try clear c29
          try clear c29b0
          try clear p30
          try clear q30
          try clear hx30
          try clear hf30
          try clear c31
          try clear c37
          try clear c39
          try clear c39b0
          try clear c40
          try clear hcz20_0
          try clear hcz20_1
          try clear hcz32_0
          try clear hcz32_1
          try clear hcz33_0
          try clear hcz33_1
          try clear hcz38_0
          try clear hcz38_1
          try clear hcz41_0
          try clear hcz41_1
          try clear hcz9_0
          try clear hcz9_1
          try clear hfz20_0
          try clear hfz20_1
          try clear hfz32_0
          try clear hfz32_1
          try clear hfz33_0
          try clear hfz33_1
          try clear hfz38_0
          try clear hfz38_1
          try clear hfz41_0
          try clear hfz41_1
          try clear hfz9_0
          try clear hfz9_1
          try clear hx18_0
          try clear hx30_0
          try clear p1
          try clear p18
          try clear p2
          try clear p3
          try clear p30
          try clear p6
          try clear q1
          try clear q18
          try clear q3
          try clear q30
          obtain ⟨x7_3, x10_3, rfl, HA, HK3, HO_7, BK68001, BK68002, HB⟩ := hrel
          cases gk with
          | zero => exact absurd HA.out (by simp [spec_l20Far.l2])
          | succ k3 =>
           have H := HA.out
           clear HA
           simp only [spec_l20Far.l2] at H
           by_cases c42 : x10_3 < a0_0
           ·rw [if_pos c42] at H
            have c42b0 : decide (x10_3 < a0_0) = true := decide_eq_true c42
            clear c42
            have H' := aQ H
            clear H
            have hnb43 := NB68001_68002.out
            have hnc43 := NB68002_68001.out
            have hcz44_0 := bc (v := (.int .i64 a0_0)) BK68001.out 0
            have hcz44_1 := bc (v := (.slice A0_1 l0_1.length c0_1)) BK68001.out 1
            have hfz44_0 := blk_frozen BK68001.out 0
            have hfz44_1 := blk_frozen BK68001.out 1
            go_wp2
            go_loopg [11] k3 (fun kq v11 w' => ∃ (x7_4 : List Int) (x11_4 : Int), v11 = .int .i64 x11_4 ∧ Aside0 (spec_l20Far.l3 kq a2 x7_4 x9_2 x10_3 x11_4 a0_0 l0_1 a1_0 l1_1 = some r) ∧ Aside0 (kq ≤ k3) ∧ Aside0 (Kd.R (Kd.int .i64) 3 w' w.heap.size (fun _ => True) v68004 x7_4) ∧ Aside0 (w'.heap[gb68001]? = some (.cells #[.int .i64 a0_0, (.slice A0_1 l0_1.length c0_1)] 26 (0, 0))) ∧ Aside0 (w'.heap[gb68002]? = some (.cells #[.int .i64 a1_0, (.slice A1_1 l1_1.length c1_1)] 26 (0, 0))) ∧ Aside0 (Below w.heap.size w w'))
            case atStart => exact ⟨(x7_3), (0), rs_, H', ⟨Nat.le_refl _⟩, ⟨pR HO_7.out⟩, ⟨pk BK68001.out⟩, ⟨pk BK68002.out⟩, ⟨pB2 HB.out GE68001.out GE68002.out⟩⟩
            case round =>
             clear H'
             try clear c1
             try clear p1
             try clear q1
             try clear hx1
             try clear c2
             try clear p2
             try clear c3
             try clear p3
             try clear q3
             try clear hx3
             try clear hf3
             try clear c4
             try clear c4b0
             try clear c4b1
             try clear c5
             try clear c5b0
             try clear c5b1
             try clear c6
             try clear p6
             try clear c8
             try clear c12
             try clear c12b0
             try clear c14
             try clear c16
             try clear c16b0
             try clear c17
             try clear c17b0
             try clear p18
             try clear q18
             try clear hx18
             try clear hf18
             try clear c19
             try clear c24
             try clear c24b0
             try clear c24b1
             try clear c28
             try clear c28b0
             try clear c29
             try clear c29b0
             try clear p30
             try clear q30
             try clear hx30
             try clear hf30
             try clear c31
             try clear c37
             try clear c39
             try clear c39b0
             try clear c40
             try clear c42
             try clear c42b0
             try clear c43
             try clear hcz20_0
             try clear hcz20_1
             try clear hcz32_0
             try clear hcz32_1
             try clear hcz33_0
             try clear hcz33_1
             try clear hcz38_0
             try clear hcz38_1
             try clear hcz41_0
             try clear hcz41_1
             try clear hcz44_0
             try clear hcz44_1
             try clear hcz9_0
             try clear hcz9_1
             try clear hfz20_0
             try clear hfz20_1
             try clear hfz32_0
             try clear hfz32_1
             try clear hfz33_0
             try clear hfz33_1
             try clear hfz38_0
             try clear hfz38_1
             try clear hfz41_0
             try clear hfz41_1
             try clear hfz44_0
             try clear hfz44_1
             try clear hfz9_0
             try clear hfz9_1
             try clear hx18_0
             try clear hx30_0
             try clear p1
             try clear p18
             try clear p2
             try clear p3
             try clear p30
             try clear p6
             try clear q1
             try clear q18
             try clear q3
             try clear q30
             obtain ⟨x7_4, x11_4, rfl, HA, HK4, HO_7, BK68001, BK68002, HB⟩ := hrel
             cases gk with
             | zero => exact absurd HA.out (by simp [spec_l20Far.l3])
             | succ k4 =>
              have H := HA.out
              clear HA
              simp only [spec_l20Far.l3] at H
              have HC45 := aQ H
              clear H
              go_upto_region 13 with (fail)
              go_cut [60] (fun v60 wc => ∃ (kq : Nat) (x60_44 : Bool), v60 = .bool x60_44 ∧ Aside0 (spec_l20Far.j4 kq a2 x7_4 x9_2 x10_3 x11_4 x60_44 a0_0 l0_1 a1_0 l1_1 = some r) ∧ Aside0 (kq ≤ k4) ∧ Aside0 (Kd.R (Kd.int .i64) 3 wc w.heap.size (fun _ => True) v68004 x7_4) ∧ Aside0 (wc.heap[gb68001]? = some (.cells #[.int .i64 a0_0, (.slice A0_1 l0_1.length c0_1)] 26 (0, 0))) ∧ Aside0 (wc.heap[gb68002]? = some (.cells #[.int .i64 a1_0, (.slice A1_1 l1_1.length c1_1)] 26 (0, 0))) ∧ Aside0 (Below w.heap.size w wc))
              case first =>
               have H := HC45.out
               clear HC45
               by_cases c46 : x11_4 < a0_0
               ·rw [if_pos c46] at H
                have c46b0 : decide (x11_4 < a0_0) = true := decide_eq_true c46
                clear c46
                (first | rw [c46b0] | (simp only [i64_w, i32_w]; rw [c46b0]) | skip)
                by_cases c47 : 0 ≤ x10_3
                ·rw [if_pos c47] at H
                 have c47b0 : decide (0 ≤ x10_3) = true := decide_eq_true c47
                 clear c47
                 by_cases c48 : x10_3 < (x7_4.length : Int)
                 ·rw [if_pos c48] at H
                  have c48b0 : decide (x10_3 < (x7_4.length : Int)) = true := decide_eq_true c48
                  clear c48
                  have H' := aQ H
                  clear H
                  have hnb49 := NB68001_68002.out
                  have hnc49 := NB68002_68001.out
                  have hcz50_0 := bc (v := (.int .i64 a0_0)) BK68001.out 0
                  have hcz50_1 := bc (v := (.slice A0_1 l0_1.length c0_1)) BK68001.out 1
                  have hfz50_0 := blk_frozen BK68001.out 0
                  have hfz50_1 := blk_frozen BK68001.out 1
                  obtain ⟨Ao51, co51, eo51⟩ := Kd.R_slice HO_7.out
                  subst eo51
                  have p68012 : 0 ≤ (x10_3 : Int) := of_decide_eq_true as_
                  have q68012 : x10_3 < (x7_4.length : Int) := of_decide_eq_true as_
                  obtain ⟨ad68012, e68012, hx68012_0⟩ := Kd.at_int (Kd.R_reads' HO_7.out).2.2 x10_3 p68012 q68012
                  cases e68012
                  replace p68012 := eq_true p68012
                  replace q68012 := eq_true q68012
                  go_wp2
                  go_meet
                  case rel => exact ⟨_, (((rd x7_4 x10_3) == 0)), rs_, H', ⟨by have := HK1.out; have := HK2.out; have := HK3.out; have := HK4.out; first | omega | exact Nat.le_refl _⟩, ⟨pR HO_7.out⟩, ⟨pk BK68001.out⟩, ⟨pk BK68002.out⟩, ⟨pB2 HB.out GE68001.out GE68002.out⟩⟩
                 ·rw [if_neg c48] at H
                  exact absurd H (by simp)
                ·rw [if_neg c47] at H
                 exact absurd H (by simp)
               ·rw [if_neg c46] at H
                have c46b0 : decide (x11_4 < a0_0) = false := decide_eq_false c46
                clear c46
                (first | rw [c46b0] | (simp only [i64_w, i32_w]; rw [c46b0]) | skip)
                have H' := aQ H
                clear H
                have hnb52 := NB68001_68002.out
                have hnc52 := NB68002_68001.out
                have hcz53_0 := bc (v := (.int .i64 a0_0)) BK68001.out 0
                have hcz53_1 := bc (v := (.slice A0_1 l0_1.length c0_1)) BK68001.out 1
                have hfz53_0 := blk_frozen BK68001.out 0
                have hfz53_1 := blk_frozen BK68001.out 1
                go_wp2
                go_meet
                case rel => exact ⟨_, (false), rs_, H', ⟨by have := HK1.out; have := HK2.out; have := HK3.out; have := HK4.out; first | omega | exact Nat.le_refl _⟩, ⟨pR HO_7.out⟩, ⟨pk BK68001.out⟩, ⟨pk BK68002.out⟩, ⟨pB2 HB.out GE68001.out GE68002.out⟩⟩
              case rest =>
               clear HC45
               try clear c1
               try clear p1
               try clear q1
               try clear hx1
               try clear c2
               try clear p2
               try clear c3
               try clear p3
               try clear q3
               try clear hx3
               try clear hf3
               try clear c4
               try clear c4b0
               try clear c4b1
               try clear c5
               try clear c5b0
               try clear c5b1
               try clear c6
               try clear p6
               try clear q6
               try clear hx6
               try clear c8
               try clear c12
               try clear c12b0
               try clear c14
               try clear c16
               try clear c16b0
               try clear c17
               try clear c17b0
               try clear p18
               try clear q18
               try clear hx18
               try clear hf18
               try clear c19
               try clear c24
               try clear c24b0
               try clear c24b1
               try clear c28
               try clear c28b0
               try clear c29
               try clear c29b0
               try clear p30
               try clear q30
               try clear hx30
               try clear hf30
               try clear c31
               try clear c37
               try clear c39
               try clear c39b0
               try clear c40
               try clear c42
               try clear c42b0
               try clear c43
               try clear c46
               try clear c46b0
               try clear c47
               try clear c47b0
               try clear c48
               try clear c48b0
               try clear c49
               try clear c52
               try clear hcz20_0
               try clear hcz20_1
               try clear hcz32_0
               try clear hcz32_1
               try clear hcz33_0
               try clear hcz33_1
               try clear hcz38_0
               try clear hcz38_1
               try clear hcz41_0
               try clear hcz41_1
               try clear hcz44_0
               try clear hcz44_1
               try clear hcz50_0
               try clear hcz50_1
               try clear hcz53_0
               try clear hcz53_1
               try clear hcz9_0
               try clear hcz9_1
               try clear hfz20_0
               try clear hfz20_1
               try clear hfz32_0
               try clear hfz32_1
               try clear hfz33_0
               try clear hfz33_1
               try clear hfz38_0
               try clear hfz38_1
               try clear hfz41_0
               try clear hfz41_1
               try clear hfz44_0
               try clear hfz44_1
               try clear hfz50_0
               try clear hfz50_1
               try clear hfz53_0
               try clear hfz53_1
               try clear hfz9_0
               try clear hfz9_1
               try clear hx18_0
               try clear hx30_0
               try clear hx68012_0
               try clear p1
               try clear p18
               try clear p2
               try clear p3
               try clear p30
               try clear p6
               try clear p68012
               try clear q1
               try clear q18
               try clear q3
               try clear q30
               try clear q68012
               obtain ⟨kq, x60_44, rfl, HA, HJ44, HO_7, BK68001, BK68002, HB⟩ := hcut
               cases kq with
               | zero => exact absurd HA.out (by simp [spec_l20Far.j4])
               | succ kj44 =>
                have H := HA.out
                clear HA
                simp only [spec_l20Far.j4] at H
                by_cases c54 : x60_44 = true
                ·subst c54
                 have H1 : (if 0 ≤ x11_4 then (if x11_4 < (x7_4.length : Int) then (if (rd x7_4 x11_4) = (wrap64 (x9_2 - 1)) then ((spec_l20Step.f kj44 a0_0 l0_1 a1_0 l1_1 a2 x10_3 x11_4).bind fun t68014 => (if t68014 = true then (if 0 ≤ x10_3 then (if x10_3 < (x7_4.length : Int) then (spec_l20Far.l3 kj44 a2 (x7_4.set (x10_3 : Int).toNat x9_2) x9_2 x10_3 (wrap64 (x11_4 + 1)) a0_0 l0_1 a1_0 l1_1) else (none)) else (none)) else (spec_l20Far.l3 kj44 a2 x7_4 x9_2 x10_3 (wrap64 (x11_4 + 1)) a0_0 l0_1 a1_0 l1_1))) else (spec_l20Far.l3 kj44 a2 x7_4 x9_2 x10_3 (wrap64 (x11_4 + 1)) a0_0 l0_1 a1_0 l1_1)) else (none)) else (none)) = some r := by rw [if_pos rfl] at H; exact H
                 clear H
                 have H := H1
                 clear H1
                 by_cases c55 : 0 ≤ x11_4
                 ·rw [if_pos c55] at H
                  have c55b0 : decide (0 ≤ x11_4) = true := decide_eq_true c55
                  clear c55
                  by_cases c56 : x11_4 < (x7_4.length : Int)
                  ·rw [if_pos c56] at H
                   have c56b0 : decide (x11_4 < (x7_4.length : Int)) = true := decide_eq_true c56
                   clear c56
                   by_cases c57 : (rd x7_4 x11_4) = (wrap64 (x9_2 - 1))
                   ·rw [if_pos c57] at H
                    have c57b0 : ((rd x7_4 x11_4) == (wrap64 (x9_2 - 1))) = true := beq_iff_eq.mpr c57
                    have c57b1 : ((rd x7_4 x11_4) != (wrap64 (x9_2 - 1))) = false := bne_eq_false_iff_eq.mpr c57
                    clear c57
                    replace H := Option.bind_eq_some_iff.mp H
                    obtain ⟨t68014, A580, H⟩ := H
                    replace H : (if t68014 = true then (if 0 ≤ x10_3 then (if x10_3 < (x7_4.length : Int) then (spec_l20Far.l3 kj44 a2 (x7_4.set (x10_3 : Int).toNat x9_2) x9_2 x10_3 (wrap64 (x11_4 + 1)) a0_0 l0_1 a1_0 l1_1) else (none)) else (none)) else (spec_l20Far.l3 kj44 a2 x7_4 x9_2 x10_3 (wrap64 (x11_4 + 1)) a0_0 l0_1 a1_0 l1_1)) = some r := H
                    have A58 := aQ A580
                    clear A580
                    by_cases c59 : t68014 = true
                    ·subst c59
                     have H1 : (if 0 ≤ x10_3 then (if x10_3 < (x7_4.length : Int) then (spec_l20Far.l3 kj44 a2 (x7_4.set (x10_3 : Int).toNat x9_2) x9_2 x10_3 (wrap64 (x11_4 + 1)) a0_0 l0_1 a1_0 l1_1) else (none)) else (none)) = some r := by rw [if_pos rfl] at H; exact H
                     clear H
                     have H := H1
                     clear H1
                     by_cases c60 : 0 ≤ x10_3
                     ·rw [if_pos c60] at H
                      have c60b0 : decide (0 ≤ x10_3) = true := decide_eq_true c60
                      clear c60
                      by_cases c61 : x10_3 < (x7_4.length : Int)
                      ·rw [if_pos c61] at H
                       have c61b0 : decide (x10_3 < (x7_4.length : Int)) = true := decide_eq_true c61
                       clear c61
                       obtain ⟨y68015, hy68015⟩ : ∃ y_ : List Int, y_ = (x7_4.set (x10_3 : Int).toNat x9_2) := ⟨_, rfl⟩
                       replace H : (spec_l20Far.l3 kj44 a2 y68015 x9_2 x10_3 (wrap64 (x11_4 + 1)) a0_0 l0_1 a1_0 l1_1) = some r := by first | (rw [hy68015]; with_reducible exact H) | (have H2_ := (Option.bind_some _ _).symm.trans H; rw [hy68015]; with_reducible exact H2_) | (have H2_ := (Option.bind_some _ _).symm.trans H; with_reducible exact H2_) | with_reducible exact H | (rw [hy68015]; exact H) | exact H
                       have Ny68015 := aQ hy68015
                       clear hy68015
                       have H' := aQ H
                       clear H
                       obtain ⟨Ao63, co63, eo63⟩ := Kd.R_slice HO_7.out
                       subst eo63
                       have p68013 : 0 ≤ (x11_4 : Int) := of_decide_eq_true as_
                       have q68013 : x11_4 < (x7_4.length : Int) := of_decide_eq_true as_
                       obtain ⟨ad68013, e68013, hx68013_0⟩ := Kd.at_int (Kd.R_reads' HO_7.out).2.2 x11_4 p68013 q68013
                       cases e68013
                       replace p68013 := eq_true p68013
                       replace q68013 := eq_true q68013
                       have hnb64 := NB68001_68002.out
                       have hnc64 := NB68002_68001.out
                       have hcz65_0 := bc (v := (.int .i64 a0_0)) BK68001.out 0
                       have hcz65_1 := bc (v := (.slice A0_1 l0_1.length c0_1)) BK68001.out 1
                       have hfz65_0 := blk_frozen BK68001.out 0
                       have hfz65_1 := blk_frozen BK68001.out 1
                       have hcz66_0 := bc (v := (.int .i64 a1_0)) BK68002.out 0
                       have hcz66_1 := bc (v := (.slice A1_1 l1_1.length c1_1)) BK68002.out 1
                       have hfz66_0 := blk_frozen BK68002.out 0
                       have hfz66_1 := blk_frozen BK68002.out 1
                       go_wp2_with (first | (go_at_call 70; (with_reducible refine (spec_l20Step.calls kj44 a0_0 _ _ l0_1 a1_0 _ _ l1_1 a2 x10_3 x11_4 true _ ?side1 ?side2 ?side3 ?side4 A58.out).mono ?_); (case side1 => exact pC (Kd.C_below HR0_1.out HB.out)); (case side2 => exact HC0_1.out); (case side3 => exact pC (Kd.C_below HR1_1.out HB.out)); (case side4 => exact HC1_1.out); rintro e w67 ⟨rfl, hb⟩; replace HO_7 := aQ (Kd.R_below (pR HO_7.out) hb); replace BK68001 := aQ (blk_below (g := gb68001) (o := .cells #[.int .i64 a0_0, .slice A0_1 l0_1.length c0_1] 26 (0, 0)) (pk BK68001.out) hb); replace BK68002 := aQ (blk_below (g := gb68002) (o := .cells #[.int .i64 a1_0, .slice A1_1 l1_1.length c1_1] 26 (0, 0)) (pk BK68002.out) hb); replace HB := aQ (below_step (pB2 HB.out GE68001.out GE68002.out) hb); (try clear hb); have p62 : 0 ≤ (x10_3 : Int) := of_decide_eq_true as_; have q62 : (x10_3 : Int) < ((x7_4.length : Int) : Int) := of_decide_eq_true as_; obtain ⟨go62, co62, eo62, gb62, gl62, cl62, HG62⟩ := Kd.R_form HO_7.out (by omega); (first | cases eo62 | (injection eo62 with ea_ en_ ec_; (first | subst ea_ | (injection ea_ with ea_; subst ea_)); subst ec_; clear en_)); have GB62 := aQ gb62; have GG62 := aQ HG62; clear gb62 gl62 HG62; (first | simp only [add_plain] at hx68013_0 | skip); obtain ⟨hx62_0, hf62_0⟩ := Kd.R_celln 0 HO_7.out (x10_3 : Int) p62 q62; replace p62 := eq_true p62; replace q62 := eq_true q62; obtain ⟨hy68_, hz68_⟩ := Kd.R_celln 0 HO_7.out (x10_3 : Int) (of_decide_eq_true as_) (of_decide_eq_true as_); have HP68 := Kd.R_putg HO_7.out (x10_3 : Int) x9_2) | ((with_reducible refine gate_store (t := 3) (p := 81) rfl ?_); refine store_event (t := 3) (p := 81) (v := ?vo_w69) (w1 := (w67.setCell ⟨go62, (x10_3 : Int).toNat, none⟩ (.int .i64 x9_2))) ?hg ?ho ?hn ?hr ?_; (case ho => rfl); (case hg => rfl); (case hn => rfl); (case hr => first | (go_simp; done) | (go_simp; rfl)); intro w69 hw; have hg : w67.grownBy w69 (some go62) := (by rw [hw]; exact HP68.2); have hp_ : Kd.R (Kd.int .i64) 3 w69 w.heap.size (fun _ => True) (.slice (some ⟨go62, 0, none⟩) x7_4.length co63) y68015 := (by rw [hw, Ny68015.out]; exact HP68.1); clear HP68; replace BK68001 := aQ (blk_grown (g := gb68001) (o := .cells #[.int .i64 a0_0, .slice A0_1 l0_1.length c0_1] 26 (0, 0)) (pk BK68001.out) hg (Kd.R_ne HO_7.out BK68001.out (by decide))); replace BK68002 := aQ (blk_grown (g := gb68002) (o := .cells #[.int .i64 a1_0, .slice A1_1 l1_1.length c1_1] 26 (0, 0)) (pk BK68002.out) hg (Kd.R_ne HO_7.out BK68002.out (by decide))); replace HO_7 := aQ (hp_); replace HB := aQ ((by rw [hw]; exact below_set (HB.out) GB62.out : Below w.heap.size w w69)); clear hg hw hp_))
                       go_roundg kj44
                       case measure => have := HK1.out; have := HK2.out; have := HK3.out; have := HK4.out; have := HJ44.out; omega
                       case rel => exact ⟨(y68015), (wrap64 (x11_4 + 1)), rs_, H', ⟨by have := HK1.out; have := HK2.out; have := HK3.out; have := HK4.out; have := HJ44.out; omega⟩, ⟨pR HO_7.out⟩, ⟨pk BK68001.out⟩, ⟨pk BK68002.out⟩, ⟨pB2 HB.out GE68001.out GE68002.out⟩⟩
                      ·rw [if_neg c61] at H
                       exact absurd H (by simp)
                     ·rw [if_neg c60] at H
                      exact absurd H (by simp)
                    ·replace c59 := Bool.eq_false_iff.mpr c59
                     subst c59
                     have H1 : (spec_l20Far.l3 kj44 a2 x7_4 x9_2 x10_3 (wrap64 (x11_4 + 1)) a0_0 l0_1 a1_0 l1_1) = some r := by rw [if_neg (show ¬ (false = true) by decide)] at H; exact H
                     clear H
                     have H := H1
                     clear H1
                     have H' := aQ H
                     clear H
                     obtain ⟨Ao70, co70, eo70⟩ := Kd.R_slice HO_7.out
                     subst eo70
                     have p68013 : 0 ≤ (x11_4 : Int) := of_decide_eq_true as_
                     have q68013 : x11_4 < (x7_4.length : Int) := of_decide_eq_true as_
                     obtain ⟨ad68013, e68013, hx68013_0⟩ := Kd.at_int (Kd.R_reads' HO_7.out).2.2 x11_4 p68013 q68013
                     cases e68013
                     replace p68013 := eq_true p68013
                     replace q68013 := eq_true q68013
                     have hnb71 := NB68001_68002.out
                     have hnc71 := NB68002_68001.out
                     have hcz72_0 := bc (v := (.int .i64 a0_0)) BK68001.out 0
                     have hcz72_1 := bc (v := (.slice A0_1 l0_1.length c0_1)) BK68001.out 1
                     have hfz72_0 := blk_frozen BK68001.out 0
                     have hfz72_1 := blk_frozen BK68001.out 1
                     have hcz73_0 := bc (v := (.int .i64 a1_0)) BK68002.out 0
                     have hcz73_1 := bc (v := (.slice A1_1 l1_1.length c1_1)) BK68002.out 1
                     have hfz73_0 := blk_frozen BK68002.out 0
                     have hfz73_1 := blk_frozen BK68002.out 1
                     go_wp2_with (first | (go_at_call 70; (with_reducible refine (spec_l20Step.calls kj44 a0_0 _ _ l0_1 a1_0 _ _ l1_1 a2 x10_3 x11_4 false _ ?side1 ?side2 ?side3 ?side4 A58.out).mono ?_); (case side1 => exact pC (Kd.C_below HR0_1.out HB.out)); (case side2 => exact HC0_1.out); (case side3 => exact pC (Kd.C_below HR1_1.out HB.out)); (case side4 => exact HC1_1.out); rintro e w74 ⟨rfl, hb⟩; replace HO_7 := aQ (Kd.R_below (pR HO_7.out) hb); replace BK68001 := aQ (blk_below (g := gb68001) (o := .cells #[.int .i64 a0_0, .slice A0_1 l0_1.length c0_1] 26 (0, 0)) (pk BK68001.out) hb); replace BK68002 := aQ (blk_below (g := gb68002) (o := .cells #[.int .i64 a1_0, .slice A1_1 l1_1.length c1_1] 26 (0, 0)) (pk BK68002.out) hb); replace HB := aQ (below_step (pB2 HB.out GE68001.out GE68002.out) hb); (try clear hb)))
                     go_roundg kj44
                     case measure => have := HK1.out; have := HK2.out; have := HK3.out; have := HK4.out; have := HJ44.out; omega
                     case rel => exact ⟨(x7_4), (wrap64 (x11_4 + 1)), rs_, H', ⟨by have := HK1.out; have := HK2.out; have := HK3.out; have := HK4.out; have := HJ44.out; omega⟩, ⟨pR HO_7.out⟩, ⟨pk BK68001.out⟩, ⟨pk BK68002.out⟩, ⟨pB2 HB.out GE68001.out GE68002.out⟩⟩
                   ·rw [if_neg c57] at H
                    have c57b0 : ((rd x7_4 x11_4) == (wrap64 (x9_2 - 1))) = false := beq_eq_false_iff_ne.mpr c57
                    have c57b1 : ((rd x7_4 x11_4) != (wrap64 (x9_2 - 1))) = true := bne_iff_ne.mpr c57
                    have H' := aQ H
                    clear H
                    obtain ⟨Ao75, co75, eo75⟩ := Kd.R_slice HO_7.out
                    subst eo75
                    have p68013 : 0 ≤ (x11_4 : Int) := of_decide_eq_true as_
                    have q68013 : x11_4 < (x7_4.length : Int) := of_decide_eq_true as_
                    obtain ⟨ad68013, e68013, hx68013_0⟩ := Kd.at_int (Kd.R_reads' HO_7.out).2.2 x11_4 p68013 q68013
                    cases e68013
                    replace p68013 := eq_true p68013
                    replace q68013 := eq_true q68013
                    go_wp2
                    go_roundg kj44
                    case measure => have := HK1.out; have := HK2.out; have := HK3.out; have := HK4.out; have := HJ44.out; omega
                    case rel => exact ⟨(x7_4), (wrap64 (x11_4 + 1)), rs_, H', ⟨by have := HK1.out; have := HK2.out; have := HK3.out; have := HK4.out; have := HJ44.out; omega⟩, ⟨pR HO_7.out⟩, ⟨pk BK68001.out⟩, ⟨pk BK68002.out⟩, ⟨pB2 HB.out GE68001.out GE68002.out⟩⟩
                  ·rw [if_neg c56] at H
                   exact absurd H (by simp)
                 ·rw [if_neg c55] at H
                  exact absurd H (by simp)
                ·replace c54 := Bool.eq_false_iff.mpr c54
                 subst c54
                 have H1 : (spec_l20Far.l2 kj44 a2 x7_4 x9_2 (wrap64 (x10_3 + 1)) a0_0 l0_1 a1_0 l1_1) = some r := by rw [if_neg (show ¬ (false = true) by decide)] at H; exact H
                 clear H
                 have H := H1
                 clear H1
                 have H' := aQ H
                 clear H
                 go_wp2
                 go_roundg kj44
                 case measure => have := HK1.out; have := HK2.out; have := HK3.out; have := HK4.out; have := HJ44.out; omega
                 case rel => exact ⟨(x7_4), (wrap64 (x10_3 + 1)), rs_, H', ⟨by have := HK1.out; have := HK2.out; have := HK3.out; have := HK4.out; have := HJ44.out; omega⟩, ⟨pR HO_7.out⟩, ⟨pk BK68001.out⟩, ⟨pk BK68002.out⟩, ⟨pB2 HB.out GE68001.out GE68002.out⟩⟩
           ·rw [if_neg c42] at H
            have c42b0 : decide (x10_3 < a0_0) = false := decide_eq_false c42
            clear c42
            have H' := aQ H
            clear H
            have hnb76 := NB68001_68002.out
            have hnc76 := NB68002_68001.out
            have hcz77_0 := bc (v := (.int .i64 a0_0)) BK68001.out 0
            have hcz77_1 := bc (v := (.slice A0_1 l0_1.length c0_1)) BK68001.out 1
            have hfz77_0 := blk_frozen BK68001.out 0
            have hfz77_1 := blk_frozen BK68001.out 1
            go_wp2
            go_roundg k3
            case measure => have := HK1.out; have := HK2.out; have := HK3.out; omega
            case rel => exact ⟨(x7_3), (wrap64 (x9_2 + 1)), rs_, H', ⟨by have := HK1.out; have := HK2.out; have := HK3.out; omega⟩, ⟨pR HO_7.out⟩, ⟨pk BK68001.out⟩, ⟨pk BK68002.out⟩, ⟨pB2 HB.out GE68001.out GE68002.out⟩⟩
        ·rw [if_neg c39] at H
         have c39b0 : decide (x9_2 ≤ a0_0) = false := decide_eq_false c39
         clear c39
         obtain rfl := Option.some.inj H
         have hnb78 := NB68001_68002.out
         have hnc78 := NB68002_68001.out
         have hcz79_0 := bc (v := (.int .i64 a0_0)) BK68001.out 0
         have hcz79_1 := bc (v := (.slice A0_1 l0_1.length c0_1)) BK68001.out 1
         have hfz79_0 := blk_frozen BK68001.out 0
         have hfz79_1 := blk_frozen BK68001.out 1
         go_wp2
         go_ret
         exact ⟨_, by first | rfl | (simp [errW_none, errW_some] <;> rfl) | (simp [*, errW_none, errW_some] <;> rfl), by (with_reducible repeat (first | apply Kd.R_alloc | apply Kd.R_drewN | apply Kd.R_drew)); exact HO_7.out, pB2 HB.out GE68001.out GE68002.out⟩
  ·rw [if_neg c5] at H
   exact absurd H (by simp)
 ·rw [if_neg c4] at H
  exact absurd H (by simp)
end Go.Proofs.Ytagncnjllpebjaa.A
