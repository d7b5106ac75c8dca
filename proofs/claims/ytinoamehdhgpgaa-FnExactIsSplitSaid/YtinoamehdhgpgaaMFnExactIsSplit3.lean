/- The machine side of the law FnExactIsSplit, laid by a program of this work over the kit's print and contracts by hand: Go functions as Lean functions, and proofs that calls come to what these tell. Conditions: those in each theorem. -/
import Derived.Test.YtinoamehdhgpgaaMFnExactIsSplit0
import Derived.Test.YtinoamehdhgpgaaMFnExactIsSplitq0
import Derived.Test.YtinoamehdhgpgaaMFnExactIsSplit1
import Derived.Test.YtinoamehdhgpgaaMFnExactIsSplit2
namespace Go.Proofs.Ytinoamehdhgpgaa.A
open Go.RowKit Go.Proofs.YtinoamehdhgpgaaW.PrintWords Go.Proofs.YtinoamehdhgpgaaW.PrintLast Go.Proofs.YtinoamehdhgpgaaW.PrintMore
attribute [local go_sem] max2_int min2_int max_two min_two max_three min_three max_four min_four   -- for this text's walks alone
set_option linter.unusedVariables false
set_option linter.unusedSimpArgs false

/-! ### spec_IsCommon: function 114 -/
def spec_IsCommon.f (k : Nat) (a0_0 : Int) (l0_1 : List Int) (a1_0 : Int) (l1_1 : List Int) (a2 : Int) : Option (Bool) := (spec_IsMatroid.f k a0_0 l0_1).bind fun t115003 => (if t115003 = true then ((spec_IsMatroid.f k a1_0 l1_1).bind fun t115004 => (if t115004 = true then (if a0_0 = a1_0 then ((spec_IsSet.f a0_0 a2).bind fun t115005 => (if t115005 = true then ((spec_l20Free.f k a0_0 l0_1 a2).bind fun t115006 => (if t115006 = true then ((spec_l20Free.f k a1_0 l1_1 a2).bind fun t115007 => (some t115007)) else (some false))) else (some false))) else (some false)) else (some false))) else (some false))
theorem spec_IsCommon.mono : ∀ a0 a1 a2 a3 a4 k, LeO (spec_IsCommon.f k a0 a1 a2 a3 a4) (spec_IsCommon.f (k + 1) a0 a1 a2 a3 a4) := by
 intro a0 a1 a2 a3 a4 k
 unfold spec_IsCommon.f
 repeat' first
   | (with_reducible exact spec_IsMatroid.mono _ _ _)
   | (with_reducible exact spec_l20Free.mono _ _ _ _)
   | (with_reducible exact LeO.refl _)
   | (with_reducible exact LeO.none _)
   | (with_reducible refine LeO.ite ?_ ?_)
   | (with_reducible refine LeO.bind ?_ (fun _ => ?_))
   | exact spec_IsMatroid.mono _ _ _
   | exact spec_l20Free.mono _ _ _ _
   | exact LeO.none _
   | refine LeO.ite ?_ ?_
   | refine LeO.bind ?_ (fun _ => ?_)
set_option maxHeartbeats 8000000 in
set_option maxRecDepth 100000 in
theorem spec_IsCommon.calls (k : Nat) (a0_0 : Int) (A0_1 : Option Addr) (c0_1 : Nat) (l0_1 : List Int) (a1_0 : Int) (A1_1 : Option Addr) (c1_1 : Nat) (l1_1 : List Int) (a2 : Int) (r : Bool) (w : World) (hr0_1 : Kd.C (Kd.int .i64) w A0_1 l0_1.length l0_1) (hc0_1 : l0_1.length ≤ c0_1) (hr1_1 : Kd.C (Kd.int .i64) w A1_1 l1_1.length l1_1) (hc1_1 : l1_1.length ≤ c1_1) (h : spec_IsCommon.f k a0_0 l0_1 a1_0 l1_1 a2 = some r) :
  Calls Try.prog 114 #[.agg #[.int .i64 a0_0, .slice A0_1 l0_1.length c0_1], .agg #[.int .i64 a1_0, .slice A1_1 l1_1.length c1_1], .int .i64 a2] w fun e w' => e = .returned (.bool r) ∧ Below w.heap.size w w' := by
 have hu28 := Try.underlying28
 have HR0_1 := aQ hr0_1
 have HC0_1 := aQ hc0_1
 clear hr0_1 hc0_1
 have HR1_1 := aQ hr1_1
 have HC1_1 := aQ hc1_1
 clear hr1_1 hc1_1
 have HB := aQ (Below.refl w.heap.size w)
 have H : ((spec_IsMatroid.f k a0_0 l0_1).bind fun t115003 => (if t115003 = true then ((spec_IsMatroid.f k a1_0 l1_1).bind fun t115004 => (if t115004 = true then (if a0_0 = a1_0 then ((spec_IsSet.f a0_0 a2).bind fun t115005 => (if t115005 = true then ((spec_l20Free.f k a0_0 l0_1 a2).bind fun t115006 => (if t115006 = true then ((spec_l20Free.f k a1_0 l1_1 a2).bind fun t115007 => (some t115007)) else (some false))) else (some false))) else (some false)) else (some false))) else (some false))) = some r := h
 clear h
 replace H := Option.bind_eq_some_iff.mp H
 obtain ⟨t115003, A40, H⟩ := H
 replace H : (if t115003 = true then ((spec_IsMatroid.f k a1_0 l1_1).bind fun t115004 => (if t115004 = true then (if a0_0 = a1_0 then ((spec_IsSet.f a0_0 a2).bind fun t115005 => (if t115005 = true then ((spec_l20Free.f k a0_0 l0_1 a2).bind fun t115006 => (if t115006 = true then ((spec_l20Free.f k a1_0 l1_1 a2).bind fun t115007 => (some t115007)) else (some false))) else (some false))) else (some false)) else (some false))) else (some false)) = some r := H
 have A4 := aQ A40
 clear A40
 by_cases c5 : t115003 = true
 ·subst c5
  have H1 : ((spec_IsMatroid.f k a1_0 l1_1).bind fun t115004 => (if t115004 = true then (if a0_0 = a1_0 then ((spec_IsSet.f a0_0 a2).bind fun t115005 => (if t115005 = true then ((spec_l20Free.f k a0_0 l0_1 a2).bind fun t115006 => (if t115006 = true then ((spec_l20Free.f k a1_0 l1_1 a2).bind fun t115007 => (some t115007)) else (some false))) else (some false))) else (some false)) else (some false))) = some r := by rw [if_pos rfl] at H; exact H
  clear H
  have H := H1
  clear H1
  replace H := Option.bind_eq_some_iff.mp H
  obtain ⟨t115004, A60, H⟩ := H
  replace H : (if t115004 = true then (if a0_0 = a1_0 then ((spec_IsSet.f a0_0 a2).bind fun t115005 => (if t115005 = true then ((spec_l20Free.f k a0_0 l0_1 a2).bind fun t115006 => (if t115006 = true then ((spec_l20Free.f k a1_0 l1_1 a2).bind fun t115007 => (some t115007)) else (some false))) else (some false))) else (some false)) else (some false)) = some r := H
  have A6 := aQ A60
  clear A60
  by_cases c7 : t115004 = true
  ·subst c7
   have H1 : (if a0_0 = a1_0 then ((spec_IsSet.f a0_0 a2).bind fun t115005 => (if t115005 = true then ((spec_l20Free.f k a0_0 l0_1 a2).bind fun t115006 => (if t115006 = true then ((spec_l20Free.f k a1_0 l1_1 a2).bind fun t115007 => (some t115007)) else (some false))) else (some false))) else (some false)) = some r := by rw [if_pos rfl] at H; exact H
   clear H
   have H := H1
   clear H1
   by_cases c8 : a0_0 = a1_0
   ·rw [if_pos c8] at H
    have c8b0 : (a0_0 == a1_0) = true := beq_iff_eq.mpr c8
    have c8b1 : (a0_0 != a1_0) = false := bne_eq_false_iff_eq.mpr c8
    clear c8
    replace H := Option.bind_eq_some_iff.mp H
    obtain ⟨t115005, A90, H⟩ := H
    replace H : (if t115005 = true then ((spec_l20Free.f k a0_0 l0_1 a2).bind fun t115006 => (if t115006 = true then ((spec_l20Free.f k a1_0 l1_1 a2).bind fun t115007 => (some t115007)) else (some false))) else (some false)) = some r := H
    have A9 := aQ A90
    clear A90
    by_cases c10 : t115005 = true
    ·subst c10
     have H1 : ((spec_l20Free.f k a0_0 l0_1 a2).bind fun t115006 => (if t115006 = true then ((spec_l20Free.f k a1_0 l1_1 a2).bind fun t115007 => (some t115007)) else (some false))) = some r := by rw [if_pos rfl] at H; exact H
     clear H
     have H := H1
     clear H1
     replace H := Option.bind_eq_some_iff.mp H
     obtain ⟨t115006, A110, H⟩ := H
     replace H : (if t115006 = true then ((spec_l20Free.f k a1_0 l1_1 a2).bind fun t115007 => (some t115007)) else (some false)) = some r := H
     have A11 := aQ A110
     clear A110
     by_cases c12 : t115006 = true
     ·subst c12
      have H1 : ((spec_l20Free.f k a1_0 l1_1 a2).bind fun t115007 => (some t115007)) = some r := by rw [if_pos rfl] at H; exact H
      clear H
      have H := H1
      clear H1
      replace H := Option.bind_eq_some_iff.mp H
      obtain ⟨t115007, A130, H⟩ := H
      replace H : (some t115007) = some r := H
      have A13 := aQ A130
      clear A130
      obtain rfl := Option.some.inj H
      go_enter Try.func114, Try.ntmps114
      go_wp2_with (first | ((with_reducible refine gate_dst (N := 3) rfl ?_); refine box_event ?hg (N := 3) ?hd (cs := #[.int .i64 a0_0, .slice A0_1 l0_1.length c0_1]) (t := 28) ?hr ?_; (case hd => rfl); (case hg => rfl); (case hr => first | (go_simp; done) | (go_simp; rfl)); intro gb115001 hg w14 hbox hb; have BK115001 := aQ (hbox); have GW115001 := aQ ((by rw [hg]; exact (below_size (pB HB.out)) : w.heap.size ≤ gb115001)); have GE115001 := aQ ((by rw [hg]; exact (below_size (pB HB.out)) : w.heap.size ≤ gb115001)); replace HB := aQ (below_step (pB HB.out) hb); clear hb hbox hg) | ((with_reducible refine gate_dst (N := 4) rfl ?_); refine box_event ?hg (N := 4) ?hd (cs := #[.int .i64 a1_0, .slice A1_1 l1_1.length c1_1]) (t := 28) ?hr ?_; (case hd => rfl); (case hg => rfl); (case hr => first | (go_simp; done) | (go_simp; rfl)); intro gb115002 hg w15 hbox hb; have BK115002 := aQ (hbox); have GW115002 := aQ ((by rw [hg]; exact (below_size (pB1 HB.out GE115001.out)) : w.heap.size ≤ gb115002)); have GE115002 := aQ ((by rw [hg]; exact (below_size (pB1 HB.out GE115001.out)) : w.heap.size ≤ gb115002)); replace HB := aQ (below_step (pB1 HB.out GE115001.out) hb); have NB115001_115002 := aQ ((by rw [hg]; exact Nat.ne_of_lt (blk_lt (g := gb115001) (o := .cells #[.int .i64 a0_0, .slice A0_1 l0_1.length c0_1] 28 (0, 0)) (pk BK115001.out)) : gb115001 ≠ gb115002)); have NB115002_115001 := aQ ((by rw [hg]; exact Nat.ne_of_gt (blk_lt (g := gb115001) (o := .cells #[.int .i64 a0_0, .slice A0_1 l0_1.length c0_1] 28 (0, 0)) (pk BK115001.out)) : gb115002 ≠ gb115001)); replace BK115001 := aQ (blk_below (g := gb115001) (o := .cells #[.int .i64 a0_0, .slice A0_1 l0_1.length c0_1] 28 (0, 0)) (pk BK115001.out) hb); clear hb hbox hg; have hnb16 := NB115001_115002.out; have hnc16 := NB115002_115001.out; have hcz17_0 := bc (v := (.int .i64 a0_0)) BK115001.out 0; have hcz17_1 := bc (v := (.slice A0_1 l0_1.length c0_1)) BK115001.out 1; have hfz17_0 := blk_frozen BK115001.out 0; have hfz17_1 := blk_frozen BK115001.out 1) | ((with_reducible refine gate_callee (f := 124) rfl ?_); refine goesL_ (some 8) rfl rfl Try.func124 (by kernel_rfl) rfl #[.agg #[.int .i64 a0_0, .slice A0_1 l0_1.length c0_1]] rfl lm ?_; (with_reducible refine (spec_IsMatroid.calls k a0_0 _ _ l0_1 true _ ?side1 ?side2 A4.out).mono ?_); (case side1 => exact pC (Kd.C_below HR0_1.out HB.out)); (case side2 => exact HC0_1.out); rintro e w18 ⟨rfl, hb⟩; refine ⟨_, rfl, ?_⟩; replace BK115001 := aQ (blk_below (g := gb115001) (o := .cells #[.int .i64 a0_0, .slice A0_1 l0_1.length c0_1] 28 (0, 0)) (pk BK115001.out) hb); replace BK115002 := aQ (blk_below (g := gb115002) (o := .cells #[.int .i64 a1_0, .slice A1_1 l1_1.length c1_1] 28 (0, 0)) (pk BK115002.out) hb); replace HB := aQ (below_step (pB2 HB.out GE115001.out GE115002.out) hb); (try clear hb); have hcz19_0 := bc (v := (.int .i64 a1_0)) BK115002.out 0; have hcz19_1 := bc (v := (.slice A1_1 l1_1.length c1_1)) BK115002.out 1; have hfz19_0 := blk_frozen BK115002.out 0; have hfz19_1 := blk_frozen BK115002.out 1) | (go_at_call 124; (with_reducible refine (spec_IsMatroid.calls k a1_0 _ _ l1_1 true _ ?side1 ?side2 A6.out).mono ?_); (case side1 => exact pC (Kd.C_below HR1_1.out HB.out)); (case side2 => exact HC1_1.out); rintro e w20 ⟨rfl, hb⟩; replace BK115001 := aQ (blk_below (g := gb115001) (o := .cells #[.int .i64 a0_0, .slice A0_1 l0_1.length c0_1] 28 (0, 0)) (pk BK115001.out) hb); replace BK115002 := aQ (blk_below (g := gb115002) (o := .cells #[.int .i64 a1_0, .slice A1_1 l1_1.length c1_1] 28 (0, 0)) (pk BK115002.out) hb); replace HB := aQ (below_step (pB2 HB.out GE115001.out GE115002.out) hb); (try clear hb); have hcz21_0 := bc (v := (.int .i64 a0_0)) BK115001.out 0; have hcz21_1 := bc (v := (.slice A0_1 l0_1.length c0_1)) BK115001.out 1; have hfz21_0 := blk_frozen BK115001.out 0; have hfz21_1 := blk_frozen BK115001.out 1; have hcz22_0 := bc (v := (.int .i64 a1_0)) BK115002.out 0; have hcz22_1 := bc (v := (.slice A1_1 l1_1.length c1_1)) BK115002.out 1; have hfz22_0 := blk_frozen BK115002.out 0; have hfz22_1 := blk_frozen BK115002.out 1) | (go_at_call 218; (with_reducible refine (spec_IsSet.calls a0_0 a2 true _ A9.out).mono ?_); rintro e w' ⟨rfl, ⟨nd, rfl⟩⟩) | (go_at_call 117; (with_reducible refine (spec_l20Free.calls k a0_0 _ _ l0_1 a2 true _ ?side1 ?side2 A11.out).mono ?_); (case side1 => repeat (first | exact (Kd.C_below HR0_1.out (pB2 HB.out GE115001.out GE115002.out)) | (with_reducible refine Kd.C_alloc ?_ _) | (with_reducible refine Kd.C_drewN ?_ _) | (with_reducible refine Kd.C_drew ?_))); (case side2 => exact HC0_1.out); rintro e w23 ⟨rfl, hb⟩; replace BK115001 := aQ (blk_below (g := gb115001) (o := .cells #[.int .i64 a0_0, .slice A0_1 l0_1.length c0_1] 28 (0, 0)) (pk BK115001.out) hb); replace BK115002 := aQ (blk_below (g := gb115002) (o := .cells #[.int .i64 a1_0, .slice A1_1 l1_1.length c1_1] 28 (0, 0)) (pk BK115002.out) hb); replace HB := aQ (below_step (pB2 HB.out GE115001.out GE115002.out) hb); (try clear hb); have hcz24_0 := bc (v := (.int .i64 a1_0)) BK115002.out 0; have hcz24_1 := bc (v := (.slice A1_1 l1_1.length c1_1)) BK115002.out 1; have hfz24_0 := blk_frozen BK115002.out 0; have hfz24_1 := blk_frozen BK115002.out 1) | (go_at_call 117; (with_reducible refine (spec_l20Free.calls k a1_0 _ _ l1_1 a2 t115007 _ ?side1 ?side2 A13.out).mono ?_); (case side1 => exact pC (Kd.C_below HR1_1.out HB.out)); (case side2 => exact HC1_1.out); rintro e w25 ⟨rfl, hb⟩; replace BK115001 := aQ (blk_below (g := gb115001) (o := .cells #[.int .i64 a0_0, .slice A0_1 l0_1.length c0_1] 28 (0, 0)) (pk BK115001.out) hb); replace BK115002 := aQ (blk_below (g := gb115002) (o := .cells #[.int .i64 a1_0, .slice A1_1 l1_1.length c1_1] 28 (0, 0)) (pk BK115002.out) hb); replace HB := aQ (below_step (pB2 HB.out GE115001.out GE115002.out) hb); (try clear hb)))
      go_ret
      exact ⟨re_, pB2 HB.out GE115001.out GE115002.out⟩
     ·replace c12 := Bool.eq_false_iff.mpr c12
      subst c12
      have H1 : (some false) = some r := by rw [if_neg (show ¬ (false = true) by decide)] at H; exact H
      clear H
      have H := H1
      clear H1
      obtain rfl := Option.some.inj H
      go_enter Try.func114, Try.ntmps114
      go_wp2_with (first | ((with_reducible refine gate_dst (N := 3) rfl ?_); refine box_event ?hg (N := 3) ?hd (cs := #[.int .i64 a0_0, .slice A0_1 l0_1.length c0_1]) (t := 28) ?hr ?_; (case hd => rfl); (case hg => rfl); (case hr => first | (go_simp; done) | (go_simp; rfl)); intro gb115001 hg w26 hbox hb; have BK115001 := aQ (hbox); have GW115001 := aQ ((by rw [hg]; exact (below_size (pB HB.out)) : w.heap.size ≤ gb115001)); have GE115001 := aQ ((by rw [hg]; exact (below_size (pB HB.out)) : w.heap.size ≤ gb115001)); replace HB := aQ (below_step (pB HB.out) hb); clear hb hbox hg) | ((with_reducible refine gate_dst (N := 4) rfl ?_); refine box_event ?hg (N := 4) ?hd (cs := #[.int .i64 a1_0, .slice A1_1 l1_1.length c1_1]) (t := 28) ?hr ?_; (case hd => rfl); (case hg => rfl); (case hr => first | (go_simp; done) | (go_simp; rfl)); intro gb115002 hg w27 hbox hb; have BK115002 := aQ (hbox); have GW115002 := aQ ((by rw [hg]; exact (below_size (pB1 HB.out GE115001.out)) : w.heap.size ≤ gb115002)); have GE115002 := aQ ((by rw [hg]; exact (below_size (pB1 HB.out GE115001.out)) : w.heap.size ≤ gb115002)); replace HB := aQ (below_step (pB1 HB.out GE115001.out) hb); have NB115001_115002 := aQ ((by rw [hg]; exact Nat.ne_of_lt (blk_lt (g := gb115001) (o := .cells #[.int .i64 a0_0, .slice A0_1 l0_1.length c0_1] 28 (0, 0)) (pk BK115001.out)) : gb115001 ≠ gb115002)); have NB115002_115001 := aQ ((by rw [hg]; exact Nat.ne_of_gt (blk_lt (g := gb115001) (o := .cells #[.int .i64 a0_0, .slice A0_1 l0_1.length c0_1] 28 (0, 0)) (pk BK115001.out)) : gb115002 ≠ gb115001)); replace BK115001 := aQ (blk_below (g := gb115001) (o := .cells #[.int .i64 a0_0, .slice A0_1 l0_1.length c0_1] 28 (0, 0)) (pk BK115001.out) hb); clear hb hbox hg; have hnb28 := NB115001_115002.out; have hnc28 := NB115002_115001.out; have hcz29_0 := bc (v := (.int .i64 a0_0)) BK115001.out 0; have hcz29_1 := bc (v := (.slice A0_1 l0_1.length c0_1)) BK115001.out 1; have hfz29_0 := blk_frozen BK115001.out 0; have hfz29_1 := blk_frozen BK115001.out 1) | ((with_reducible refine gate_callee (f := 124) rfl ?_); refine goesL_ (some 8) rfl rfl Try.func124 (by kernel_rfl) rfl #[.agg #[.int .i64 a0_0, .slice A0_1 l0_1.length c0_1]] rfl lm ?_; (with_reducible refine (spec_IsMatroid.calls k a0_0 _ _ l0_1 true _ ?side1 ?side2 A4.out).mono ?_); (case side1 => exact pC (Kd.C_below HR0_1.out HB.out)); (case side2 => exact HC0_1.out); rintro e w30 ⟨rfl, hb⟩; refine ⟨_, rfl, ?_⟩; replace BK115001 := aQ (blk_below (g := gb115001) (o := .cells #[.int .i64 a0_0, .slice A0_1 l0_1.length c0_1] 28 (0, 0)) (pk BK115001.out) hb); replace BK115002 := aQ (blk_below (g := gb115002) (o := .cells #[.int .i64 a1_0, .slice A1_1 l1_1.length c1_1] 28 (0, 0)) (pk BK115002.out) hb); replace HB := aQ (below_step (pB2 HB.out GE115001.out GE115002.out) hb); (try clear hb); have hcz31_0 := bc (v := (.int .i64 a1_0)) BK115002.out 0; have hcz31_1 := bc (v := (.slice A1_1 l1_1.length c1_1)) BK115002.out 1; have hfz31_0 := blk_frozen BK115002.out 0; have hfz31_1 := blk_frozen BK115002.out 1) | (go_at_call 124; (with_reducible refine (spec_IsMatroid.calls k a1_0 _ _ l1_1 true _ ?side1 ?side2 A6.out).mono ?_); (case side1 => exact pC (Kd.C_below HR1_1.out HB.out)); (case side2 => exact HC1_1.out); rintro e w32 ⟨rfl, hb⟩; replace BK115001 := aQ (blk_below (g := gb115001) (o := .cells #[.int .i64 a0_0, .slice A0_1 l0_1.length c0_1] 28 (0, 0)) (pk BK115001.out) hb); replace BK115002 := aQ (blk_below (g := gb115002) (o := .cells #[.int .i64 a1_0, .slice A1_1 l1_1.length c1_1] 28 (0, 0)) (pk BK115002.out) hb); replace HB := aQ (below_step (pB2 HB.out GE115001.out GE115002.out) hb); (try clear hb); have hcz33_0 := bc (v := (.int .i64 a0_0)) BK115001.out 0; have hcz33_1 := bc (v := (.slice A0_1 l0_1.length c0_1)) BK115001.out 1; have hfz33_0 := blk_frozen BK115001.out 0; have hfz33_1 := blk_frozen BK115001.out 1; have hcz34_0 := bc (v := (.int .i64 a1_0)) BK115002.out 0; have hcz34_1 := bc (v := (.slice A1_1 l1_1.length c1_1)) BK115002.out 1; have hfz34_0 := blk_frozen BK115002.out 0; have hfz34_1 := blk_frozen BK115002.out 1) | (go_at_call 218; (with_reducible refine (spec_IsSet.calls a0_0 a2 true _ A9.out).mono ?_); rintro e w' ⟨rfl, ⟨nd, rfl⟩⟩) | (go_at_call 117; (with_reducible refine (spec_l20Free.calls k a0_0 _ _ l0_1 a2 false _ ?side1 ?side2 A11.out).mono ?_); (case side1 => repeat (first | exact (Kd.C_below HR0_1.out (pB2 HB.out GE115001.out GE115002.out)) | (with_reducible refine Kd.C_alloc ?_ _) | (with_reducible refine Kd.C_drewN ?_ _) | (with_reducible refine Kd.C_drew ?_))); (case side2 => exact HC0_1.out); rintro e w35 ⟨rfl, hb⟩; replace BK115001 := aQ (blk_below (g := gb115001) (o := .cells #[.int .i64 a0_0, .slice A0_1 l0_1.length c0_1] 28 (0, 0)) (pk BK115001.out) hb); replace BK115002 := aQ (blk_below (g := gb115002) (o := .cells #[.int .i64 a1_0, .slice A1_1 l1_1.length c1_1] 28 (0, 0)) (pk BK115002.out) hb); replace HB := aQ (below_step (pB2 HB.out GE115001.out GE115002.out) hb); (try clear hb)))
      go_ret
      exact ⟨re_, pB2 HB.out GE115001.out GE115002.out⟩
    ·replace c10 := Bool.eq_false_iff.mpr c10
     subst c10
     have H1 : (some false) = some r := by rw [if_neg (show ¬ (false = true) by decide)] at H; exact H
     clear H
     have H := H1
     clear H1
     obtain rfl := Option.some.inj H
     go_enter Try.func114, Try.ntmps114
     go_wp2_with (first | ((with_reducible refine gate_dst (N := 3) rfl ?_); refine box_event ?hg (N := 3) ?hd (cs := #[.int .i64 a0_0, .slice A0_1 l0_1.length c0_1]) (t := 28) ?hr ?_; (case hd => rfl); (case hg => rfl); (case hr => first | (go_simp; done) | (go_simp; rfl)); intro gb115001 hg w36 hbox hb; have BK115001 := aQ (hbox); have GW115001 := aQ ((by rw [hg]; exact (below_size (pB HB.out)) : w.heap.size ≤ gb115001)); have GE115001 := aQ ((by rw [hg]; exact (below_size (pB HB.out)) : w.heap.size ≤ gb115001)); replace HB := aQ (below_step (pB HB.out) hb); clear hb hbox hg) | ((with_reducible refine gate_dst (N := 4) rfl ?_); refine box_event ?hg (N := 4) ?hd (cs := #[.int .i64 a1_0, .slice A1_1 l1_1.length c1_1]) (t := 28) ?hr ?_; (case hd => rfl); (case hg => rfl); (case hr => first | (go_simp; done) | (go_simp; rfl)); intro gb115002 hg w37 hbox hb; have BK115002 := aQ (hbox); have GW115002 := aQ ((by rw [hg]; exact (below_size (pB1 HB.out GE115001.out)) : w.heap.size ≤ gb115002)); have GE115002 := aQ ((by rw [hg]; exact (below_size (pB1 HB.out GE115001.out)) : w.heap.size ≤ gb115002)); replace HB := aQ (below_step (pB1 HB.out GE115001.out) hb); have NB115001_115002 := aQ ((by rw [hg]; exact Nat.ne_of_lt (blk_lt (g := gb115001) (o := .cells #[.int .i64 a0_0, .slice A0_1 l0_1.length c0_1] 28 (0, 0)) (pk BK115001.out)) : gb115001 ≠ gb115002)); have NB115002_115001 := aQ ((by rw [hg]; exact Nat.ne_of_gt (blk_lt (g := gb115001) (o := .cells #[.int .i64 a0_0, .slice A0_1 l0_1.length c0_1] 28 (0, 0)) (pk BK115001.out)) : gb115002 ≠ gb115001)); replace BK115001 := aQ (blk_below (g := gb115001) (o := .cells #[.int .i64 a0_0, .slice A0_1 l0_1.length c0_1] 28 (0, 0)) (pk BK115001.out) hb); clear hb hbox hg; have hnb38 := NB115001_115002.out; have hnc38 := NB115002_115001.out; have hcz39_0 := bc (v := (.int .i64 a0_0)) BK115001.out 0; have hcz39_1 := bc (v := (.slice A0_1 l0_1.length c0_1)) BK115001.out 1; have hfz39_0 := blk_frozen BK115001.out 0; have hfz39_1 := blk_frozen BK115001.out 1) | ((with_reducible refine gate_callee (f := 124) rfl ?_); refine goesL_ (some 8) rfl rfl Try.func124 (by kernel_rfl) rfl #[.agg #[.int .i64 a0_0, .slice A0_1 l0_1.length c0_1]] rfl lm ?_; (with_reducible refine (spec_IsMatroid.calls k a0_0 _ _ l0_1 true _ ?side1 ?side2 A4.out).mono ?_); (case side1 => exact pC (Kd.C_below HR0_1.out HB.out)); (case side2 => exact HC0_1.out); rintro e w40 ⟨rfl, hb⟩; refine ⟨_, rfl, ?_⟩; replace BK115001 := aQ (blk_below (g := gb115001) (o := .cells #[.int .i64 a0_0, .slice A0_1 l0_1.length c0_1] 28 (0, 0)) (pk BK115001.out) hb); replace BK115002 := aQ (blk_below (g := gb115002) (o := .cells #[.int .i64 a1_0, .slice A1_1 l1_1.length c1_1] 28 (0, 0)) (pk BK115002.out) hb); replace HB := aQ (below_step (pB2 HB.out GE115001.out GE115002.out) hb); (try clear hb); have hcz41_0 := bc (v := (.int .i64 a1_0)) BK115002.out 0; have hcz41_1 := bc (v := (.slice A1_1 l1_1.length c1_1)) BK115002.out 1; have hfz41_0 := blk_frozen BK115002.out 0; have hfz41_1 := blk_frozen BK115002.out 1) | (go_at_call 124; (with_reducible refine (spec_IsMatroid.calls k a1_0 _ _ l1_1 true _ ?side1 ?side2 A6.out).mono ?_); (case side1 => exact pC (Kd.C_below HR1_1.out HB.out)); (case side2 => exact HC1_1.out); rintro e w42 ⟨rfl, hb⟩; replace BK115001 := aQ (blk_below (g := gb115001) (o := .cells #[.int .i64 a0_0, .slice A0_1 l0_1.length c0_1] 28 (0, 0)) (pk BK115001.out) hb); replace BK115002 := aQ (blk_below (g := gb115002) (o := .cells #[.int .i64 a1_0, .slice A1_1 l1_1.length c1_1] 28 (0, 0)) (pk BK115002.out) hb); replace HB := aQ (below_step (pB2 HB.out GE115001.out GE115002.out) hb); (try clear hb); have hcz43_0 := bc (v := (.int .i64 a0_0)) BK115001.out 0; have hcz43_1 := bc (v := (.slice A0_1 l0_1.length c0_1)) BK115001.out 1; have hfz43_0 := blk_frozen BK115001.out 0; have hfz43_1 := blk_frozen BK115001.out 1; have hcz44_0 := bc (v := (.int .i64 a1_0)) BK115002.out 0; have hcz44_1 := bc (v := (.slice A1_1 l1_1.length c1_1)) BK115002.out 1; have hfz44_0 := blk_frozen BK115002.out 0; have hfz44_1 := blk_frozen BK115002.out 1) | (go_at_call 218; (with_reducible refine (spec_IsSet.calls a0_0 a2 false _ A9.out).mono ?_); rintro e w' ⟨rfl, ⟨nd, rfl⟩⟩))
     go_ret
     exact ⟨re_, pB2 HB.out GE115001.out GE115002.out⟩
   ·rw [if_neg c8] at H
    have c8b0 : (a0_0 == a1_0) = false := beq_eq_false_iff_ne.mpr c8
    have c8b1 : (a0_0 != a1_0) = true := bne_iff_ne.mpr c8
    obtain rfl := Option.some.inj H
    go_enter Try.func114, Try.ntmps114
    go_wp2_with (first | ((with_reducible refine gate_dst (N := 3) rfl ?_); refine box_event ?hg (N := 3) ?hd (cs := #[.int .i64 a0_0, .slice A0_1 l0_1.length c0_1]) (t := 28) ?hr ?_; (case hd => rfl); (case hg => rfl); (case hr => first | (go_simp; done) | (go_simp; rfl)); intro gb115001 hg w45 hbox hb; have BK115001 := aQ (hbox); have GW115001 := aQ ((by rw [hg]; exact (below_size (pB HB.out)) : w.heap.size ≤ gb115001)); have GE115001 := aQ ((by rw [hg]; exact (below_size (pB HB.out)) : w.heap.size ≤ gb115001)); replace HB := aQ (below_step (pB HB.out) hb); clear hb hbox hg) | ((with_reducible refine gate_dst (N := 4) rfl ?_); refine box_event ?hg (N := 4) ?hd (cs := #[.int .i64 a1_0, .slice A1_1 l1_1.length c1_1]) (t := 28) ?hr ?_; (case hd => rfl); (case hg => rfl); (case hr => first | (go_simp; done) | (go_simp; rfl)); intro gb115002 hg w46 hbox hb; have BK115002 := aQ (hbox); have GW115002 := aQ ((by rw [hg]; exact (below_size (pB1 HB.out GE115001.out)) : w.heap.size ≤ gb115002)); have GE115002 := aQ ((by rw [hg]; exact (below_size (pB1 HB.out GE115001.out)) : w.heap.size ≤ gb115002)); replace HB := aQ (below_step (pB1 HB.out GE115001.out) hb); have NB115001_115002 := aQ ((by rw [hg]; exact Nat.ne_of_lt (blk_lt (g := gb115001) (o := .cells #[.int .i64 a0_0, .slice A0_1 l0_1.length c0_1] 28 (0, 0)) (pk BK115001.out)) : gb115001 ≠ gb115002)); have NB115002_115001 := aQ ((by rw [hg]; exact Nat.ne_of_gt (blk_lt (g := gb115001) (o := .cells #[.int .i64 a0_0, .slice A0_1 l0_1.length c0_1] 28 (0, 0)) (pk BK115001.out)) : gb115002 ≠ gb115001)); replace BK115001 := aQ (blk_below (g := gb115001) (o := .cells #[.int .i64 a0_0, .slice A0_1 l0_1.length c0_1] 28 (0, 0)) (pk BK115001.out) hb); clear hb hbox hg; have hnb47 := NB115001_115002.out; have hnc47 := NB115002_115001.out; have hcz48_0 := bc (v := (.int .i64 a0_0)) BK115001.out 0; have hcz48_1 := bc (v := (.slice A0_1 l0_1.length c0_1)) BK115001.out 1; have hfz48_0 := blk_frozen BK115001.out 0; have hfz48_1 := blk_frozen BK115001.out 1) | ((with_reducible refine gate_callee (f := 124) rfl ?_); refine goesL_ (some 8) rfl rfl Try.func124 (by kernel_rfl) rfl #[.agg #[.int .i64 a0_0, .slice A0_1 l0_1.length c0_1]] rfl lm ?_; (with_reducible refine (spec_IsMatroid.calls k a0_0 _ _ l0_1 true _ ?side1 ?side2 A4.out).mono ?_); (case side1 => exact pC (Kd.C_below HR0_1.out HB.out)); (case side2 => exact HC0_1.out); rintro e w49 ⟨rfl, hb⟩; refine ⟨_, rfl, ?_⟩; replace BK115001 := aQ (blk_below (g := gb115001) (o := .cells #[.int .i64 a0_0, .slice A0_1 l0_1.length c0_1] 28 (0, 0)) (pk BK115001.out) hb); replace BK115002 := aQ (blk_below (g := gb115002) (o := .cells #[.int .i64 a1_0, .slice A1_1 l1_1.length c1_1] 28 (0, 0)) (pk BK115002.out) hb); replace HB := aQ (below_step (pB2 HB.out GE115001.out GE115002.out) hb); (try clear hb); have hcz50_0 := bc (v := (.int .i64 a1_0)) BK115002.out 0; have hcz50_1 := bc (v := (.slice A1_1 l1_1.length c1_1)) BK115002.out 1; have hfz50_0 := blk_frozen BK115002.out 0; have hfz50_1 := blk_frozen BK115002.out 1) | (go_at_call 124; (with_reducible refine (spec_IsMatroid.calls k a1_0 _ _ l1_1 true _ ?side1 ?side2 A6.out).mono ?_); (case side1 => exact pC (Kd.C_below HR1_1.out HB.out)); (case side2 => exact HC1_1.out); rintro e w51 ⟨rfl, hb⟩; replace BK115001 := aQ (blk_below (g := gb115001) (o := .cells #[.int .i64 a0_0, .slice A0_1 l0_1.length c0_1] 28 (0, 0)) (pk BK115001.out) hb); replace BK115002 := aQ (blk_below (g := gb115002) (o := .cells #[.int .i64 a1_0, .slice A1_1 l1_1.length c1_1] 28 (0, 0)) (pk BK115002.out) hb); replace HB := aQ (below_step (pB2 HB.out GE115001.out GE115002.out) hb); (try clear hb); have hcz52_0 := bc (v := (.int .i64 a0_0)) BK115001.out 0; have hcz52_1 := bc (v := (.slice A0_1 l0_1.length c0_1)) BK115001.out 1; have hfz52_0 := blk_frozen BK115001.out 0; have hfz52_1 := blk_frozen BK115001.out 1; have hcz53_0 := bc (v := (.int .i64 a1_0)) BK115002.out 0; have hcz53_1 := bc (v := (.slice A1_1 l1_1.length c1_1)) BK115002.out 1; have hfz53_0 := blk_frozen BK115002.out 0; have hfz53_1 := blk_frozen BK115002.out 1))
    go_ret
    exact ⟨re_, pB2 HB.out GE115001.out GE115002.out⟩
  ·replace c7 := Bool.eq_false_iff.mpr c7
   subst c7
   have H1 : (some false) = some r := by rw [if_neg (show ¬ (false = true) by decide)] at H; exact H
   clear H
   have H := H1
   clear H1
   obtain rfl := Option.some.inj H
   go_enter Try.func114, Try.ntmps114
   go_wp2_with (first | ((with_reducible refine gate_dst (N := 3) rfl ?_); refine box_event ?hg (N := 3) ?hd (cs := #[.int .i64 a0_0, .slice A0_1 l0_1.length c0_1]) (t := 28) ?hr ?_; (case hd => rfl); (case hg => rfl); (case hr => first | (go_simp; done) | (go_simp; rfl)); intro gb115001 hg w54 hbox hb; have BK115001 := aQ (hbox); have GW115001 := aQ ((by rw [hg]; exact (below_size (pB HB.out)) : w.heap.size ≤ gb115001)); have GE115001 := aQ ((by rw [hg]; exact (below_size (pB HB.out)) : w.heap.size ≤ gb115001)); replace HB := aQ (below_step (pB HB.out) hb); clear hb hbox hg) | ((with_reducible refine gate_dst (N := 4) rfl ?_); refine box_event ?hg (N := 4) ?hd (cs := #[.int .i64 a1_0, .slice A1_1 l1_1.length c1_1]) (t := 28) ?hr ?_; (case hd => rfl); (case hg => rfl); (case hr => first | (go_simp; done) | (go_simp; rfl)); intro gb115002 hg w55 hbox hb; have BK115002 := aQ (hbox); have GW115002 := aQ ((by rw [hg]; exact (below_size (pB1 HB.out GE115001.out)) : w.heap.size ≤ gb115002)); have GE115002 := aQ ((by rw [hg]; exact (below_size (pB1 HB.out GE115001.out)) : w.heap.size ≤ gb115002)); replace HB := aQ (below_step (pB1 HB.out GE115001.out) hb); have NB115001_115002 := aQ ((by rw [hg]; exact Nat.ne_of_lt (blk_lt (g := gb115001) (o := .cells #[.int .i64 a0_0, .slice A0_1 l0_1.length c0_1] 28 (0, 0)) (pk BK115001.out)) : gb115001 ≠ gb115002)); have NB115002_115001 := aQ ((by rw [hg]; exact Nat.ne_of_gt (blk_lt (g := gb115001) (o := .cells #[.int .i64 a0_0, .slice A0_1 l0_1.length c0_1] 28 (0, 0)) (pk BK115001.out)) : gb115002 ≠ gb115001)); replace BK115001 := aQ (blk_below (g := gb115001) (o := .cells #[.int .i64 a0_0, .slice A0_1 l0_1.length c0_1] 28 (0, 0)) (pk BK115001.out) hb); clear hb hbox hg; have hnb56 := NB115001_115002.out; have hnc56 := NB115002_115001.out; have hcz57_0 := bc (v := (.int .i64 a0_0)) BK115001.out 0; have hcz57_1 := bc (v := (.slice A0_1 l0_1.length c0_1)) BK115001.out 1; have hfz57_0 := blk_frozen BK115001.out 0; have hfz57_1 := blk_frozen BK115001.out 1) | ((with_reducible refine gate_callee (f := 124) rfl ?_); refine goesL_ (some 8) rfl rfl Try.func124 (by kernel_rfl) rfl #[.agg #[.int .i64 a0_0, .slice A0_1 l0_1.length c0_1]] rfl lm ?_; (with_reducible refine (spec_IsMatroid.calls k a0_0 _ _ l0_1 true _ ?side1 ?side2 A4.out).mono ?_); (case side1 => exact pC (Kd.C_below HR0_1.out HB.out)); (case side2 => exact HC0_1.out); rintro e w58 ⟨rfl, hb⟩; refine ⟨_, rfl, ?_⟩; replace BK115001 := aQ (blk_below (g := gb115001) (o := .cells #[.int .i64 a0_0, .slice A0_1 l0_1.length c0_1] 28 (0, 0)) (pk BK115001.out) hb); replace BK115002 := aQ (blk_below (g := gb115002) (o := .cells #[.int .i64 a1_0, .slice A1_1 l1_1.length c1_1] 28 (0, 0)) (pk BK115002.out) hb); replace HB := aQ (below_step (pB2 HB.out GE115001.out GE115002.out) hb); (try clear hb); have hcz59_0 := bc (v := (.int .i64 a1_0)) BK115002.out 0; have hcz59_1 := bc (v := (.slice A1_1 l1_1.length c1_1)) BK115002.out 1; have hfz59_0 := blk_frozen BK115002.out 0; have hfz59_1 := blk_frozen BK115002.out 1) | (go_at_call 124; (with_reducible refine (spec_IsMatroid.calls k a1_0 _ _ l1_1 false _ ?side1 ?side2 A6.out).mono ?_); (case side1 => exact pC (Kd.C_below HR1_1.out HB.out)); (case side2 => exact HC1_1.out); rintro e w60 ⟨rfl, hb⟩; replace BK115001 := aQ (blk_below (g := gb115001) (o := .cells #[.int .i64 a0_0, .slice A0_1 l0_1.length c0_1] 28 (0, 0)) (pk BK115001.out) hb); replace BK115002 := aQ (blk_below (g := gb115002) (o := .cells #[.int .i64 a1_0, .slice A1_1 l1_1.length c1_1] 28 (0, 0)) (pk BK115002.out) hb); replace HB := aQ (below_step (pB2 HB.out GE115001.out GE115002.out) hb); (try clear hb)))
   go_ret
   exact ⟨re_, pB2 HB.out GE115001.out GE115002.out⟩
 ·replace c5 := Bool.eq_false_iff.mpr c5
  subst c5
  have H1 : (some false) = some r := by rw [if_neg (show ¬ (false = true) by decide)] at H; exact H
  clear H
  have H := H1
  clear H1
  obtain rfl := Option.some.inj H
  go_enter Try.func114, Try.ntmps114
  go_wp2_with (first | ((with_reducible refine gate_dst (N := 3) rfl ?_); refine box_event ?hg (N := 3) ?hd (cs := #[.int .i64 a0_0, .slice A0_1 l0_1.length c0_1]) (t := 28) ?hr ?_; (case hd => rfl); (case hg => rfl); (case hr => first | (go_simp; done) | (go_simp; rfl)); intro gb115001 hg w61 hbox hb; have BK115001 := aQ (hbox); have GW115001 := aQ ((by rw [hg]; exact (below_size (pB HB.out)) : w.heap.size ≤ gb115001)); have GE115001 := aQ ((by rw [hg]; exact (below_size (pB HB.out)) : w.heap.size ≤ gb115001)); replace HB := aQ (below_step (pB HB.out) hb); clear hb hbox hg) | ((with_reducible refine gate_dst (N := 4) rfl ?_); refine box_event ?hg (N := 4) ?hd (cs := #[.int .i64 a1_0, .slice A1_1 l1_1.length c1_1]) (t := 28) ?hr ?_; (case hd => rfl); (case hg => rfl); (case hr => first | (go_simp; done) | (go_simp; rfl)); intro gb115002 hg w62 hbox hb; have BK115002 := aQ (hbox); have GW115002 := aQ ((by rw [hg]; exact (below_size (pB1 HB.out GE115001.out)) : w.heap.size ≤ gb115002)); have GE115002 := aQ ((by rw [hg]; exact (below_size (pB1 HB.out GE115001.out)) : w.heap.size ≤ gb115002)); replace HB := aQ (below_step (pB1 HB.out GE115001.out) hb); have NB115001_115002 := aQ ((by rw [hg]; exact Nat.ne_of_lt (blk_lt (g := gb115001) (o := .cells #[.int .i64 a0_0, .slice A0_1 l0_1.length c0_1] 28 (0, 0)) (pk BK115001.out)) : gb115001 ≠ gb115002)); have NB115002_115001 := aQ ((by rw [hg]; exact Nat.ne_of_gt (blk_lt (g := gb115001) (o := .cells #[.int .i64 a0_0, .slice A0_1 l0_1.length c0_1] 28 (0, 0)) (pk BK115001.out)) : gb115002 ≠ gb115001)); replace BK115001 := aQ (blk_below (g := gb115001) (o := .cells #[.int .i64 a0_0, .slice A0_1 l0_1.length c0_1] 28 (0, 0)) (pk BK115001.out) hb); clear hb hbox hg; have hnb63 := NB115001_115002.out; have hnc63 := NB115002_115001.out; have hcz64_0 := bc (v := (.int .i64 a0_0)) BK115001.out 0; have hcz64_1 := bc (v := (.slice A0_1 l0_1.length c0_1)) BK115001.out 1; have hfz64_0 := blk_frozen BK115001.out 0; have hfz64_1 := blk_frozen BK115001.out 1) | ((with_reducible refine gate_callee (f := 124) rfl ?_); refine goesL_ (some 8) rfl rfl Try.func124 (by kernel_rfl) rfl #[.agg #[.int .i64 a0_0, .slice A0_1 l0_1.length c0_1]] rfl lm ?_; (with_reducible refine (spec_IsMatroid.calls k a0_0 _ _ l0_1 false _ ?side1 ?side2 A4.out).mono ?_); (case side1 => exact pC (Kd.C_below HR0_1.out HB.out)); (case side2 => exact HC0_1.out); rintro e w65 ⟨rfl, hb⟩; refine ⟨_, rfl, ?_⟩; replace BK115001 := aQ (blk_below (g := gb115001) (o := .cells #[.int .i64 a0_0, .slice A0_1 l0_1.length c0_1] 28 (0, 0)) (pk BK115001.out) hb); replace BK115002 := aQ (blk_below (g := gb115002) (o := .cells #[.int .i64 a1_0, .slice A1_1 l1_1.length c1_1] 28 (0, 0)) (pk BK115002.out) hb); replace HB := aQ (below_step (pB2 HB.out GE115001.out GE115002.out) hb); (try clear hb)))
  go_ret
  exact ⟨re_, pB2 HB.out GE115001.out GE115002.out⟩
/-! ### impl_together: function 118 -/
def impl_together.f (k : Nat) (a0_0 : Int) (l0_1 : List Int) (a1_0 : Int) (l1_1 : List Int) : Option (Bool) := (impl_IsMatroid.f k a0_0 l0_1).bind fun t119003 => (if t119003 = true then ((impl_IsMatroid.f k a1_0 l1_1).bind fun t119004 => (if t119004 = true then (some (a0_0 == a1_0)) else (some false))) else (some false))
theorem impl_together.mono : ∀ a0 a1 a2 a3 k, LeO (impl_together.f k a0 a1 a2 a3) (impl_together.f (k + 1) a0 a1 a2 a3) := by
 intro a0 a1 a2 a3 k
 unfold impl_together.f
 repeat' first
   | (with_reducible exact impl_IsMatroid.mono _ _ _)
   | (with_reducible exact LeO.refl _)
   | (with_reducible exact LeO.none _)
   | (with_reducible refine LeO.ite ?_ ?_)
   | (with_reducible refine LeO.bind ?_ (fun _ => ?_))
   | exact impl_IsMatroid.mono _ _ _
   | exact LeO.none _
   | refine LeO.ite ?_ ?_
   | refine LeO.bind ?_ (fun _ => ?_)
set_option maxHeartbeats 8000000 in
set_option maxRecDepth 100000 in
theorem impl_together.calls (k : Nat) (a0_0 : Int) (A0_1 : Option Addr) (c0_1 : Nat) (l0_1 : List Int) (a1_0 : Int) (A1_1 : Option Addr) (c1_1 : Nat) (l1_1 : List Int) (r : Bool) (w : World) (hr0_1 : Kd.C (Kd.int .i64) w A0_1 l0_1.length l0_1) (hc0_1 : l0_1.length ≤ c0_1) (hr1_1 : Kd.C (Kd.int .i64) w A1_1 l1_1.length l1_1) (hc1_1 : l1_1.length ≤ c1_1) (h : impl_together.f k a0_0 l0_1 a1_0 l1_1 = some r) :
  Calls Try.prog 118 #[.agg #[.int .i64 a0_0, .slice A0_1 l0_1.length c0_1], .agg #[.int .i64 a1_0, .slice A1_1 l1_1.length c1_1]] w fun e w' => e = .returned (.bool r) ∧ Below w.heap.size w w' := by
 have hu28 := Try.underlying28
 have HR0_1 := aQ hr0_1
 have HC0_1 := aQ hc0_1
 clear hr0_1 hc0_1
 have HR1_1 := aQ hr1_1
 have HC1_1 := aQ hc1_1
 clear hr1_1 hc1_1
 have HB := aQ (Below.refl w.heap.size w)
 have H : ((impl_IsMatroid.f k a0_0 l0_1).bind fun t119003 => (if t119003 = true then ((impl_IsMatroid.f k a1_0 l1_1).bind fun t119004 => (if t119004 = true then (some (a0_0 == a1_0)) else (some false))) else (some false))) = some r := h
 clear h
 replace H := Option.bind_eq_some_iff.mp H
 obtain ⟨t119003, A30, H⟩ := H
 replace H : (if t119003 = true then ((impl_IsMatroid.f k a1_0 l1_1).bind fun t119004 => (if t119004 = true then (some (a0_0 == a1_0)) else (some false))) else (some false)) = some r := H
 have A3 := aQ A30
 clear A30
 by_cases c4 : t119003 = true
 ·subst c4
  have H1 : ((impl_IsMatroid.f k a1_0 l1_1).bind fun t119004 => (if t119004 = true then (some (a0_0 == a1_0)) else (some false))) = some r := by rw [if_pos rfl] at H; exact H
  clear H
  have H := H1
  clear H1
  replace H := Option.bind_eq_some_iff.mp H
  obtain ⟨t119004, A50, H⟩ := H
  replace H : (if t119004 = true then (some (a0_0 == a1_0)) else (some false)) = some r := H
  have A5 := aQ A50
  clear A50
  by_cases c6 : t119004 = true
  ·subst c6
   have H1 : (some (a0_0 == a1_0)) = some r := by rw [if_pos rfl] at H; exact H
   clear H
   have H := H1
   clear H1
   obtain rfl := Option.some.inj H
   go_enter Try.func118, Try.ntmps118
   go_wp2_with (first | ((with_reducible refine gate_dst (N := 2) rfl ?_); refine box_event ?hg (N := 2) ?hd (cs := #[.int .i64 a0_0, .slice A0_1 l0_1.length c0_1]) (t := 28) ?hr ?_; (case hd => rfl); (case hg => rfl); (case hr => first | (go_simp; done) | (go_simp; rfl)); intro gb119001 hg w7 hbox hb; have BK119001 := aQ (hbox); have GW119001 := aQ ((by rw [hg]; exact (below_size (pB HB.out)) : w.heap.size ≤ gb119001)); have GE119001 := aQ ((by rw [hg]; exact (below_size (pB HB.out)) : w.heap.size ≤ gb119001)); replace HB := aQ (below_step (pB HB.out) hb); clear hb hbox hg) | ((with_reducible refine gate_dst (N := 3) rfl ?_); refine box_event ?hg (N := 3) ?hd (cs := #[.int .i64 a1_0, .slice A1_1 l1_1.length c1_1]) (t := 28) ?hr ?_; (case hd => rfl); (case hg => rfl); (case hr => first | (go_simp; done) | (go_simp; rfl)); intro gb119002 hg w8 hbox hb; have BK119002 := aQ (hbox); have GW119002 := aQ ((by rw [hg]; exact (below_size (pB1 HB.out GE119001.out)) : w.heap.size ≤ gb119002)); have GE119002 := aQ ((by rw [hg]; exact (below_size (pB1 HB.out GE119001.out)) : w.heap.size ≤ gb119002)); replace HB := aQ (below_step (pB1 HB.out GE119001.out) hb); have NB119001_119002 := aQ ((by rw [hg]; exact Nat.ne_of_lt (blk_lt (g := gb119001) (o := .cells #[.int .i64 a0_0, .slice A0_1 l0_1.length c0_1] 28 (0, 0)) (pk BK119001.out)) : gb119001 ≠ gb119002)); have NB119002_119001 := aQ ((by rw [hg]; exact Nat.ne_of_gt (blk_lt (g := gb119001) (o := .cells #[.int .i64 a0_0, .slice A0_1 l0_1.length c0_1] 28 (0, 0)) (pk BK119001.out)) : gb119002 ≠ gb119001)); replace BK119001 := aQ (blk_below (g := gb119001) (o := .cells #[.int .i64 a0_0, .slice A0_1 l0_1.length c0_1] 28 (0, 0)) (pk BK119001.out) hb); clear hb hbox hg; have hnb9 := NB119001_119002.out; have hnc9 := NB119002_119001.out; have hcz10_0 := bc (v := (.int .i64 a0_0)) BK119001.out 0; have hcz10_1 := bc (v := (.slice A0_1 l0_1.length c0_1)) BK119001.out 1; have hfz10_0 := blk_frozen BK119001.out 0; have hfz10_1 := blk_frozen BK119001.out 1) | ((with_reducible refine gate_callee (f := 132) rfl ?_); refine goesL_ (some 6) rfl rfl Try.func132 (by kernel_rfl) rfl #[.agg #[.int .i64 a0_0, .slice A0_1 l0_1.length c0_1]] rfl lm ?_; (with_reducible refine (impl_IsMatroid.calls k a0_0 _ _ l0_1 true _ ?side1 ?side2 A3.out).mono ?_); (case side1 => exact pC (Kd.C_below HR0_1.out HB.out)); (case side2 => exact HC0_1.out); rintro e w11 ⟨rfl, hb⟩; refine ⟨_, rfl, ?_⟩; replace BK119001 := aQ (blk_below (g := gb119001) (o := .cells #[.int .i64 a0_0, .slice A0_1 l0_1.length c0_1] 28 (0, 0)) (pk BK119001.out) hb); replace BK119002 := aQ (blk_below (g := gb119002) (o := .cells #[.int .i64 a1_0, .slice A1_1 l1_1.length c1_1] 28 (0, 0)) (pk BK119002.out) hb); replace HB := aQ (below_step (pB2 HB.out GE119001.out GE119002.out) hb); (try clear hb); have hcz12_0 := bc (v := (.int .i64 a1_0)) BK119002.out 0; have hcz12_1 := bc (v := (.slice A1_1 l1_1.length c1_1)) BK119002.out 1; have hfz12_0 := blk_frozen BK119002.out 0; have hfz12_1 := blk_frozen BK119002.out 1) | (go_at_call 132; (with_reducible refine (impl_IsMatroid.calls k a1_0 _ _ l1_1 true _ ?side1 ?side2 A5.out).mono ?_); (case side1 => exact pC (Kd.C_below HR1_1.out HB.out)); (case side2 => exact HC1_1.out); rintro e w13 ⟨rfl, hb⟩; replace BK119001 := aQ (blk_below (g := gb119001) (o := .cells #[.int .i64 a0_0, .slice A0_1 l0_1.length c0_1] 28 (0, 0)) (pk BK119001.out) hb); replace BK119002 := aQ (blk_below (g := gb119002) (o := .cells #[.int .i64 a1_0, .slice A1_1 l1_1.length c1_1] 28 (0, 0)) (pk BK119002.out) hb); replace HB := aQ (below_step (pB2 HB.out GE119001.out GE119002.out) hb); (try clear hb); have hcz14_0 := bc (v := (.int .i64 a0_0)) BK119001.out 0; have hcz14_1 := bc (v := (.slice A0_1 l0_1.length c0_1)) BK119001.out 1; have hfz14_0 := blk_frozen BK119001.out 0; have hfz14_1 := blk_frozen BK119001.out 1; have hcz15_0 := bc (v := (.int .i64 a1_0)) BK119002.out 0; have hcz15_1 := bc (v := (.slice A1_1 l1_1.length c1_1)) BK119002.out 1; have hfz15_0 := blk_frozen BK119002.out 0; have hfz15_1 := blk_frozen BK119002.out 1))
   go_ret
   exact ⟨re_, pB2 HB.out GE119001.out GE119002.out⟩
  ·replace c6 := Bool.eq_false_iff.mpr c6
   subst c6
   have H1 : (some false) = some r := by rw [if_neg (show ¬ (false = true) by decide)] at H; exact H
   clear H
   have H := H1
   clear H1
   obtain rfl := Option.some.inj H
   go_enter Try.func118, Try.ntmps118
   go_wp2_with (first | ((with_reducible refine gate_dst (N := 2) rfl ?_); refine box_event ?hg (N := 2) ?hd (cs := #[.int .i64 a0_0, .slice A0_1 l0_1.length c0_1]) (t := 28) ?hr ?_; (case hd => rfl); (case hg => rfl); (case hr => first | (go_simp; done) | (go_simp; rfl)); intro gb119001 hg w16 hbox hb; have BK119001 := aQ (hbox); have GW119001 := aQ ((by rw [hg]; exact (below_size (pB HB.out)) : w.heap.size ≤ gb119001)); have GE119001 := aQ ((by rw [hg]; exact (below_size (pB HB.out)) : w.heap.size ≤ gb119001)); replace HB := aQ (below_step (pB HB.out) hb); clear hb hbox hg) | ((with_reducible refine gate_dst (N := 3) rfl ?_); refine box_event ?hg (N := 3) ?hd (cs := #[.int .i64 a1_0, .slice A1_1 l1_1.length c1_1]) (t := 28) ?hr ?_; (case hd => rfl); (case hg => rfl); (case hr => first | (go_simp; done) | (go_simp; rfl)); intro gb119002 hg w17 hbox hb; have BK119002 := aQ (hbox); have GW119002 := aQ ((by rw [hg]; exact (below_size (pB1 HB.out GE119001.out)) : w.heap.size ≤ gb119002)); have GE119002 := aQ ((by rw [hg]; exact (below_size (pB1 HB.out GE119001.out)) : w.heap.size ≤ gb119002)); replace HB := aQ (below_step (pB1 HB.out GE119001.out) hb); have NB119001_119002 := aQ ((by rw [hg]; exact Nat.ne_of_lt (blk_lt (g := gb119001) (o := .cells #[.int .i64 a0_0, .slice A0_1 l0_1.length c0_1] 28 (0, 0)) (pk BK119001.out)) : gb119001 ≠ gb119002)); have NB119002_119001 := aQ ((by rw [hg]; exact Nat.ne_of_gt (blk_lt (g := gb119001) (o := .cells #[.int .i64 a0_0, .slice A0_1 l0_1.length c0_1] 28 (0, 0)) (pk BK119001.out)) : gb119002 ≠ gb119001)); replace BK119001 := aQ (blk_below (g := gb119001) (o := .cells #[.int .i64 a0_0, .slice A0_1 l0_1.length c0_1] 28 (0, 0)) (pk BK119001.out) hb); clear hb hbox hg; have hnb18 := NB119001_119002.out; have hnc18 := NB119002_119001.out; have hcz19_0 := bc (v := (.int .i64 a0_0)) BK119001.out 0; have hcz19_1 := bc (v := (.slice A0_1 l0_1.length c0_1)) BK119001.out 1; have hfz19_0 := blk_frozen BK119001.out 0; have hfz19_1 := blk_frozen BK119001.out 1) | ((with_reducible refine gate_callee (f := 132) rfl ?_); refine goesL_ (some 6) rfl rfl Try.func132 (by kernel_rfl) rfl #[.agg #[.int .i64 a0_0, .slice A0_1 l0_1.length c0_1]] rfl lm ?_; (with_reducible refine (impl_IsMatroid.calls k a0_0 _ _ l0_1 true _ ?side1 ?side2 A3.out).mono ?_); (case side1 => exact pC (Kd.C_below HR0_1.out HB.out)); (case side2 => exact HC0_1.out); rintro e w20 ⟨rfl, hb⟩; refine ⟨_, rfl, ?_⟩; replace BK119001 := aQ (blk_below (g := gb119001) (o := .cells #[.int .i64 a0_0, .slice A0_1 l0_1.length c0_1] 28 (0, 0)) (pk BK119001.out) hb); replace BK119002 := aQ (blk_below (g := gb119002) (o := .cells #[.int .i64 a1_0, .slice A1_1 l1_1.length c1_1] 28 (0, 0)) (pk BK119002.out) hb); replace HB := aQ (below_step (pB2 HB.out GE119001.out GE119002.out) hb); (try clear hb); have hcz21_0 := bc (v := (.int .i64 a1_0)) BK119002.out 0; have hcz21_1 := bc (v := (.slice A1_1 l1_1.length c1_1)) BK119002.out 1; have hfz21_0 := blk_frozen BK119002.out 0; have hfz21_1 := blk_frozen BK119002.out 1) | (go_at_call 132; (with_reducible refine (impl_IsMatroid.calls k a1_0 _ _ l1_1 false _ ?side1 ?side2 A5.out).mono ?_); (case side1 => exact pC (Kd.C_below HR1_1.out HB.out)); (case side2 => exact HC1_1.out); rintro e w22 ⟨rfl, hb⟩; replace BK119001 := aQ (blk_below (g := gb119001) (o := .cells #[.int .i64 a0_0, .slice A0_1 l0_1.length c0_1] 28 (0, 0)) (pk BK119001.out) hb); replace BK119002 := aQ (blk_below (g := gb119002) (o := .cells #[.int .i64 a1_0, .slice A1_1 l1_1.length c1_1] 28 (0, 0)) (pk BK119002.out) hb); replace HB := aQ (below_step (pB2 HB.out GE119001.out GE119002.out) hb); (try clear hb)))
   go_ret
   exact ⟨re_, pB2 HB.out GE119001.out GE119002.out⟩
 ·replace c4 := Bool.eq_false_iff.mpr c4
  subst c4
  have H1 : (some false) = some r := by rw [if_neg (show ¬ (false = true) by decide)] at H; exact H
  clear H
  have H := H1
  clear H1
  obtain rfl := Option.some.inj H
  go_enter Try.func118, Try.ntmps118
  go_wp2_with (first | ((with_reducible refine gate_dst (N := 2) rfl ?_); refine box_event ?hg (N := 2) ?hd (cs := #[.int .i64 a0_0, .slice A0_1 l0_1.length c0_1]) (t := 28) ?hr ?_; (case hd => rfl); (case hg => rfl); (case hr => first | (go_simp; done) | (go_simp; rfl)); intro gb119001 hg w23 hbox hb; have BK119001 := aQ (hbox); have GW119001 := aQ ((by rw [hg]; exact (below_size (pB HB.out)) : w.heap.size ≤ gb119001)); have GE119001 := aQ ((by rw [hg]; exact (below_size (pB HB.out)) : w.heap.size ≤ gb119001)); replace HB := aQ (below_step (pB HB.out) hb); clear hb hbox hg) | ((with_reducible refine gate_dst (N := 3) rfl ?_); refine box_event ?hg (N := 3) ?hd (cs := #[.int .i64 a1_0, .slice A1_1 l1_1.length c1_1]) (t := 28) ?hr ?_; (case hd => rfl); (case hg => rfl); (case hr => first | (go_simp; done) | (go_simp; rfl)); intro gb119002 hg w24 hbox hb; have BK119002 := aQ (hbox); have GW119002 := aQ ((by rw [hg]; exact (below_size (pB1 HB.out GE119001.out)) : w.heap.size ≤ gb119002)); have GE119002 := aQ ((by rw [hg]; exact (below_size (pB1 HB.out GE119001.out)) : w.heap.size ≤ gb119002)); replace HB := aQ (below_step (pB1 HB.out GE119001.out) hb); have NB119001_119002 := aQ ((by rw [hg]; exact Nat.ne_of_lt (blk_lt (g := gb119001) (o := .cells #[.int .i64 a0_0, .slice A0_1 l0_1.length c0_1] 28 (0, 0)) (pk BK119001.out)) : gb119001 ≠ gb119002)); have NB119002_119001 := aQ ((by rw [hg]; exact Nat.ne_of_gt (blk_lt (g := gb119001) (o := .cells #[.int .i64 a0_0, .slice A0_1 l0_1.length c0_1] 28 (0, 0)) (pk BK119001.out)) : gb119002 ≠ gb119001)); replace BK119001 := aQ (blk_below (g := gb119001) (o := .cells #[.int .i64 a0_0, .slice A0_1 l0_1.length c0_1] 28 (0, 0)) (pk BK119001.out) hb); clear hb hbox hg; have hnb25 := NB119001_119002.out; have hnc25 := NB119002_119001.out; have hcz26_0 := bc (v := (.int .i64 a0_0)) BK119001.out 0; have hcz26_1 := bc (v := (.slice A0_1 l0_1.length c0_1)) BK119001.out 1; have hfz26_0 := blk_frozen BK119001.out 0; have hfz26_1 := blk_frozen BK119001.out 1) | ((with_reducible refine gate_callee (f := 132) rfl ?_); refine goesL_ (some 6) rfl rfl Try.func132 (by kernel_rfl) rfl #[.agg #[.int .i64 a0_0, .slice A0_1 l0_1.length c0_1]] rfl lm ?_; (with_reducible refine (impl_IsMatroid.calls k a0_0 _ _ l0_1 false _ ?side1 ?side2 A3.out).mono ?_); (case side1 => exact pC (Kd.C_below HR0_1.out HB.out)); (case side2 => exact HC0_1.out); rintro e w27 ⟨rfl, hb⟩; refine ⟨_, rfl, ?_⟩; replace BK119001 := aQ (blk_below (g := gb119001) (o := .cells #[.int .i64 a0_0, .slice A0_1 l0_1.length c0_1] 28 (0, 0)) (pk BK119001.out) hb); replace BK119002 := aQ (blk_below (g := gb119002) (o := .cells #[.int .i64 a1_0, .slice A1_1 l1_1.length c1_1] 28 (0, 0)) (pk BK119002.out) hb); replace HB := aQ (below_step (pB2 HB.out GE119001.out GE119002.out) hb); (try clear hb)))
  go_ret
  exact ⟨re_, pB2 HB.out GE119001.out GE119002.out⟩
/-! ### impl_FullSet: function 122 -/
def impl_FullSet.f (a0 : Int) : Option (Int) := (impl_isSize.f a0).bind fun t123001 => (if t123001 = true then (if 0 ≤ a0 then (some (wrap64 ((shl .i64 1 a0) - 1))) else (none)) else (some 0))
set_option maxHeartbeats 8000000 in
set_option maxRecDepth 100000 in
theorem impl_FullSet.calls (a0 : Int) (r : Int) (w : World) (h : impl_FullSet.f a0 = some r) :
  Calls Try.prog 122 #[.int .i64 a0] w fun e w' => e = .returned (.int .i64 r) ∧ Drawn0 w w' := by
 have H : ((impl_isSize.f a0).bind fun t123001 => (if t123001 = true then (if 0 ≤ a0 then (some (wrap64 ((shl .i64 1 a0) - 1))) else (none)) else (some 0))) = some r := h
 clear h
 replace H := Option.bind_eq_some_iff.mp H
 obtain ⟨t123001, A20, H⟩ := H
 replace H : (if t123001 = true then (if 0 ≤ a0 then (some (wrap64 ((shl .i64 1 a0) - 1))) else (none)) else (some 0)) = some r := H
 have A2 := aQ A20
 clear A20
 by_cases c3 : t123001 = true
 ·subst c3
  have H1 : (if 0 ≤ a0 then (some (wrap64 ((shl .i64 1 a0) - 1))) else (none)) = some r := by rw [if_pos rfl] at H; exact H
  clear H
  have H := H1
  clear H1
  by_cases c4 : 0 ≤ a0
  ·rw [if_pos c4] at H
   have c4b0 := eq_true c4
   have c4b1 : decide (0 ≤ a0) = true := decide_eq_true c4
   clear c4
   obtain ⟨ji5, hji5⟩ : ∃ j_ : Int, (shl .i64 1 a0) = j_ := ⟨_, rfl⟩
   replace H : (some (wrap64 ((ji5) - 1))) = some r := by first | (rw [hji5] at H; exact H) | (simp only [hji5] at H ⊢; exact H)
   (try rw [hji5] at A2)
   have hji5_ : (IntKind.i64.wrap (1 * 2 ^ min a0.toNat 64)) = ji5 := hji5
   have hji5z : a0 ≤ 64 → (IntKind.i64.wrap (1 * 2 ^ a0.toNat)) = ji5 := shl_small hji5
   have hji5u : (IntKind.i64.wrap (2 ^ min a0.toNat 64)) = ji5 := by have h_ := hji5_; rw [Int.one_mul] at h_; exact h_
   have hji5v : a0 ≤ 64 → (IntKind.i64.wrap (2 ^ a0.toNat)) = ji5 := fun hle_ => by have h_ := hji5z hle_; rw [Int.one_mul] at h_; exact h_
   have hji5y : (wrap64 (1 * 2 ^ min a0.toNat 64)) = ji5 := (i64_w _).symm.trans hji5_
   have hji5x : a0 ≤ 64 → (wrap64 (1 * 2 ^ a0.toNat)) = ji5 := fun h_ => (i64_w _).symm.trans (hji5z h_)
   obtain rfl := Option.some.inj H
   go_enter Try.func122, Try.ntmps122
   go_wp2_with (first | ((with_reducible refine gate_callee (f := 222) rfl ?_); refine goesL_ (some 4) rfl rfl Try.func222 (by kernel_rfl) rfl #[.int .i64 a0] rfl lm ?_; (with_reducible refine (impl_isSize.calls a0 true _ A2.out).mono ?_); rintro e w' ⟨rfl, ⟨nd, rfl⟩⟩; refine ⟨_, rfl, ?_⟩))
   go_ret
   exact ⟨by first | rfl | (simp; done) | (simp only [← hji5] <;> (first | rfl | simp)) | (simp [*]; done), rd_⟩
  ·rw [if_neg c4] at H
   exact absurd H (by simp)
 ·replace c3 := Bool.eq_false_iff.mpr c3
  subst c3
  have H1 : (some 0) = some r := by rw [if_neg (show ¬ (false = true) by decide)] at H; exact H
  clear H
  have H := H1
  clear H1
  obtain rfl := Option.some.inj H
  go_enter Try.func122, Try.ntmps122
  go_wp2_with (first | ((with_reducible refine gate_callee (f := 222) rfl ?_); refine goesL_ (some 4) rfl rfl Try.func222 (by kernel_rfl) rfl #[.int .i64 a0] rfl lm ?_; (with_reducible refine (impl_isSize.calls a0 false _ A2.out).mono ?_); rintro e w' ⟨rfl, ⟨nd, rfl⟩⟩; refine ⟨_, rfl, ?_⟩))
  go_ret
  exact ⟨rs_, rd_⟩
end Go.Proofs.Ytinoamehdhgpgaa.A
namespace Go.Proofs.Ytinoamehdhgpgaa.A
open Go.RowKit Go.Proofs.YtinoamehdhgpgaaW.PrintWords Go.Proofs.YtinoamehdhgpgaaW.PrintLast Go.Proofs.YtinoamehdhgpgaaW.PrintMore Go.Proofs.Ytinoamehdhgpgaa.Z
attribute [local go_sem] max2_int min2_int max_two min_two max_three min_three max_four min_four   -- for this text's walks alone
set_option linter.unusedVariables false
set_option linter.unusedSimpArgs false

/-! ### impl_setsOf: function 139 (by hand) -/
set_option maxHeartbeats 4000000 in
set_option maxRecDepth 100000 in
theorem setsOf_walk (g : Int → Option Bool) (K : Nat) (lb : Array Value) (eg : ∀ args w, (callFunc K args).run Try.prog w = .ok (.enter K args) w) (n m : Int) (r : List Int) (w : World)
  (hf : impl_FullSet.f n = some m) (h0 : 0 ≤ m) (h1 : m ≤ 1000) (h : setsO g m = some r)
  (hp : ∀ (W : World) (x : Int) (b : Bool), Below w.heap.size w W → g x = some b → Calls Try.prog K (#[.int .i64 x] ++ lb) W fun e w' => e = .returned (.bool b) ∧ Below W.heap.size W w') :
  Calls Try.prog 139 #[.int .i64 n, .func (.func K) #[] lb] w fun e w' => ∃ v0_ : Value, e = .returned (v0_) ∧ Kd.R (Kd.int .i64) 3 w' w.heap.size (fun _ => True) v0_ r ∧ Below w.heap.size w w' := by
 have HB := aQ (Below.refl w.heap.size w)
 have HP := Lib.hid hp
 have HF := aQ hf
 have HI := Lib.hid h
 clear hf h hp
 go_enter Try.func139, Try.ntmps139
 go_wp2_with (first | ((with_reducible refine gate_dst (N := 7) rfl ?_); refine Kd.R_lit (Kd.int .i64) _ 3 ?hg (N := 7) ?hd (xs := ([] : List Int)) (inner := []) (ok := fun _ => True) (okp := fun _ => True) ?hr ?hp (fun _ hk => hk) trivial (Below.refl _ _) (Nat.le_refl _) (by simp) ?_; (case hd => rfl); (case hg => rfl); (case hr => first | (go_simp; done) | (go_simp; rfl)); (case hp => exact (Reps.none _ _)); intro v9_ w2 ho3 hb hg_ hnew_; clear hg_ hnew_; have HO := aQ (Kd.R_lower ho3 (below_size (pB HB.out))); replace HB := aQ (below_step (pB HB.out) hb); clear hb ho3))
 go_loopg [5, 6] (m + 1).toNat (fun gg v5 v6 wr => ∃ (x : Int) (acc rest : List Int), v6 = .int .i64 x ∧ Aside0 (0 ≤ x ∧ x ≤ m + 1) ∧ Aside0 ((m + 1).toNat - x.toNat ≤ gg) ∧ Aside0 (acc.length ≤ x.toNat) ∧ Aside0 (filterO g (fromTo x m) = some rest) ∧ Aside0 (acc ++ rest = r) ∧ Aside0 (Kd.R (Kd.int .i64) 3 wr w.heap.size (fun _ => True) v5 acc) ∧ Aside0 (Below w.heap.size w wr))
 case atStart => exact ⟨0, [], r, rfl, ⟨by omega⟩, ⟨by omega⟩, ⟨by simp⟩, ⟨HI.out⟩, ⟨rfl⟩, ⟨pR HO.out⟩, ⟨pB HB.out⟩⟩
 case round =>
  clear HI HO HB
  obtain ⟨x, acc, rest, rfl, HX, HG, HA, HI, HE, HO, HB⟩ := hrel
  by_cases hlt : x ≤ m
  ·have l1 : decide (x ≤ m) = true := decide_eq_true hlt
   have hI := HI.out
   rw [fromTo_cons HX.out.1 hlt] at hI
   simp only [filterO] at hI
   obtain ⟨b, hgb, hI⟩ := Option.bind_eq_some_iff.1 hI
   obtain ⟨ys, hys, hI⟩ := Option.bind_eq_some_iff.1 hI
   have HG2 := Lib.hid hgb
   have HY := Lib.hid hys
   have HC := Lib.hid hI
   have E1 := Lib.hid (wrap64_of (n := x + 1) (by have := HX.out; omega) (by omega))
   have Q1 := aQ hlt
   clear HI hgb hys hI
   replace hlt := eq_true hlt
   go_wp2_with (first | (go_at_call 122; (with_reducible refine (impl_FullSet.calls n m _ HF.out).mono ?_); rintro e w' ⟨rfl, ⟨nd, rfl⟩⟩))
   refine (HP.out _ x b (pB HB.out) HG2.out).mono ?_
   rintro e w3_ ⟨rfl, hb⟩
   have n0_ := aQ (Kd.R_below (pR HO.out) hb)
   have n1_ := aQ (below_step (pB HB.out) hb)
   clear HO HB hb
   have HO := n0_
   have HB := n1_
   clear n0_ n1_ HG2
   have hc := HC.out
   clear HC
   cases b with
   | true =>
    rw [if_pos rfl] at hc
    simp only [Option.some.injEq] at hc
    have HR2 := Lib.hid hc
    have HLM := aQ (show acc.length < 17592186044416 by have := HA.out; have := HX.out; have := Q1.out; omega)
    clear hc
    go_wp2_with (first | ((with_reducible refine gate_builtin (b := .append) (xs := #[.tmp 17, .tmp 19]) rfl ?_); at_builtin; refine Kd.R_append (Kd.int .i64) (w0 := w) w.heap.size rfl (.tmp 17) (.tmp 19) 22 3 (.int .i64 0) 8 rfl Try.underlying22 info3 rfl (by decide) (by omega) u5 acc x [.int .i64 x] (fun _ => True) (fun _ => False) rfl rfl ?aP (fun _ hk => hk.elim) ?aF ?aO ?aB ?aS ?aL ?_; (case aP => exact rfl); (case aB => exact (pB HB.out)); (case aF => exact (fun _ _ => trivial)); (case aO => exact (pR HO.out)); (case aS => exact (below_size (pB HB.out))); (case aL => have := HLM.out; omega); intro v8_ w8 ho hb hg hat; replace HB := aQ (hb); replace HO := aQ (ho); clear ho hb hg hat))
    go_roundg ((m + 1).toNat - (x + 1).toNat)
    case measure => have := HG.out; have := HX.out; have := Q1.out; omega
    case rel =>
     refine ⟨x + 1, acc ++ [x], ys, by rw [E1.out], ⟨by have := HX.out; have := Q1.out; omega⟩, ⟨Nat.le_refl _⟩, ⟨by rw [List.length_append, List.length_singleton]; have := HA.out; have := HX.out; omega⟩, ⟨HY.out⟩, ⟨by rw [List.append_assoc]; have h1 := HR2.out; have h2 := HE.out; rw [← h1] at h2; exact h2⟩, ⟨pR HO.out⟩, ⟨pB HB.out⟩⟩
   | false =>
    rw [if_neg (by decide)] at hc
    simp only [Option.some.injEq] at hc
    have HR2 := Lib.hid hc
    clear hc
    go_wp2
    go_roundg ((m + 1).toNat - (x + 1).toNat)
    case measure => have := HG.out; have := HX.out; have := Q1.out; omega
    case rel =>
     refine ⟨x + 1, acc, ys, by rw [E1.out], ⟨by have := HX.out; have := Q1.out; omega⟩, ⟨Nat.le_refl _⟩, ⟨by have := HA.out; have := HX.out; omega⟩, ⟨HY.out⟩, ⟨by have h1 := HR2.out; have h2 := HE.out; rw [← h1] at h2; exact h2⟩, ⟨pR HO.out⟩, ⟨pB HB.out⟩⟩
  ·have l1 : decide (x ≤ m) = false := decide_eq_false hlt
   have hI := HI.out
   rw [fromTo_end HX.out.1 hlt] at hI
   simp only [filterO, Option.some.injEq] at hI
   have hE := HE.out
   rw [← hI, List.append_nil] at hE
   subst hE
   clear HI hI hlt HE
   go_wp2_with (first | (go_at_call 122; (with_reducible refine (impl_FullSet.calls n m _ HF.out).mono ?_); rintro e w' ⟨rfl, ⟨nd, rfl⟩⟩))
   go_ret
   exact ⟨_, rs_, by (with_reducible repeat (first | apply Kd.R_alloc | apply Kd.R_drewN | apply Kd.R_drew)); exact HO.out, pB HB.out⟩
end Go.Proofs.Ytinoamehdhgpgaa.A
namespace Go.Proofs.Ytinoamehdhgpgaa.A
open Go.RowKit Go.Proofs.YtinoamehdhgpgaaW.PrintWords Go.Proofs.YtinoamehdhgpgaaW.PrintLast Go.Proofs.YtinoamehdhgpgaaW.PrintMore
attribute [local go_sem] max2_int min2_int max_two min_two max_three min_three max_four min_four   -- for this text's walks alone
set_option linter.unusedVariables false
set_option linter.unusedSimpArgs false

/-! ### spec_AreWeights: function 125 -/
def spec_AreWeights.l0 : Nat → Int → List Int → Int → Option (Bool)
 | 0, _, _, _ => none
 | k + 1, x0, x1, x5 => if x5 < (x1.length : Int) then (if 0 ≤ x5 then ((spec_l1In.f (rd x1 x5) (-1000) 1000).bind fun t126002 => (if t126002 = true then (spec_AreWeights.l0 k x0 x1 (wrap64 (x5 + 1))) else (some false))) else (none)) else ((spec_l1In.f x0 0 8).bind fun t126003 => (if t126003 = true then (some ((x1.length : Int) == x0)) else (some false)))
def spec_AreWeights.f (k : Nat) (a0 : Int) (l1 : List Int) : Option (Bool) := spec_AreWeights.l0 k a0 l1 0
theorem spec_AreWeights.mono_l : ∀ k, (∀ y0 y1 y2, LeO (spec_AreWeights.l0 k y0 y1 y2) (spec_AreWeights.l0 (k + 1) y0 y1 y2))
 | 0 => fun _ _ _ r h => by simp [spec_AreWeights.l0] at h
 | k + 1 => by
  have ih0 := spec_AreWeights.mono_l k
  ·intro y0 y1 y2
   unfold spec_AreWeights.l0
   repeat' first
   | (with_reducible exact ih0 _ _ _)
   | (with_reducible exact LeO.refl _)
   | (with_reducible exact LeO.none _)
   | (with_reducible refine LeO.ite ?_ ?_)
   | (with_reducible refine LeO.bind ?_ (fun _ => ?_))
   | exact ih0 _ _ _
   | exact LeO.none _
   | refine LeO.ite ?_ ?_
   | refine LeO.bind ?_ (fun _ => ?_)
theorem spec_AreWeights.mono : ∀ a0 a1 k, LeO (spec_AreWeights.f k a0 a1) (spec_AreWeights.f (k + 1) a0 a1) := by
 intro a0 a1 k
 have ih0 := spec_AreWeights.mono_l k
 unfold spec_AreWeights.f
 repeat' first
   | (with_reducible exact ih0 _ _ _)
   | (with_reducible exact LeO.refl _)
   | (with_reducible exact LeO.none _)
   | (with_reducible refine LeO.ite ?_ ?_)
   | (with_reducible refine LeO.bind ?_ (fun _ => ?_))
   | exact ih0 _ _ _
   | exact LeO.none _
   | refine LeO.ite ?_ ?_
   | refine LeO.bind ?_ (fun _ => ?_)
set_option maxHeartbeats 8000000 in
set_option maxRecDepth 100000 in
theorem spec_AreWeights.calls (k : Nat) (a0 : Int) (A1 : Option Addr) (c1 : Nat) (l1 : List Int) (r : Bool) (w : World) (hr1 : Kd.C (Kd.int .i64) w A1 l1.length l1) (hc1 : l1.length ≤ c1) (h : spec_AreWeights.f k a0 l1 = some r) :
  Calls Try.prog 125 #[.int .i64 a0, .slice A1 l1.length c1] w fun e w' => e = .returned (.bool r) ∧ Drawn0 w w' := by
 have HR1 := aQ hr1
 have HC1 := aQ hc1
 clear hr1 hc1
 have H : (spec_AreWeights.l0 k a0 l1 0) = some r := h
 clear h
 have H' := aQ H
 clear H
 go_enter Try.func125, Try.ntmps125
 go_wp2
 go_loopg [5] k (fun kq v5 w' => ∃ (x5_1 : Int), v5 = .int .i64 x5_1 ∧ Aside0 (spec_AreWeights.l0 kq a0 l1 x5_1 = some r) ∧ Aside0 (kq ≤ k) ∧ Drawn0 w w')
 case atStart => exact ⟨(0), rs_, H', ⟨Nat.le_refl _⟩, rd_⟩
 case round =>
  clear H'
  try clear c1
  try clear p2
  obtain ⟨x5_1, rfl, HA, HK1, ⟨m1, rfl⟩⟩ := hrel
  cases gk with
  | zero => exact absurd HA.out (by simp [spec_AreWeights.l0])
  | succ k1 =>
   have H := HA.out
   clear HA
   simp only [spec_AreWeights.l0] at H
   by_cases c3 : x5_1 < (l1.length : Int)
   ·rw [if_pos c3] at H
    have c3b0 : decide (x5_1 < (l1.length : Int)) = true := decide_eq_true c3
    clear c3
    by_cases c4 : 0 ≤ x5_1
    ·rw [if_pos c4] at H
     have c4b0 : decide (0 ≤ x5_1) = true := decide_eq_true c4
     clear c4
     replace H := Option.bind_eq_some_iff.mp H
     obtain ⟨t126002, A50, H⟩ := H
     replace H : (if t126002 = true then (spec_AreWeights.l0 k1 a0 l1 (wrap64 (x5_1 + 1))) else (some false)) = some r := H
     have A5 := aQ A50
     clear A50
     by_cases c6 : t126002 = true
     ·subst c6
      have H1 : (spec_AreWeights.l0 k1 a0 l1 (wrap64 (x5_1 + 1))) = some r := by rw [if_pos rfl] at H; exact H
      clear H
      have H := H1
      clear H1
      have H' := aQ H
      clear H
      have p126001 : 0 ≤ (x5_1 : Int) := of_decide_eq_true as_
      have q126001 : x5_1 < (l1.length : Int) := of_decide_eq_true as_
      obtain ⟨ad126001, e126001, hx126001_0⟩ := Kd.at_int HR1.out x5_1 p126001 q126001
      cases e126001
      replace p126001 := eq_true p126001
      replace q126001 := eq_true q126001
      go_wp2_with (first | ((with_reducible refine gate_callee (f := 126) rfl ?_); refine goesL_ (some 16) rfl rfl Try.func126 (by kernel_rfl) rfl #[.int .i64 (rd l1 x5_1), .int .i64 (-1000), .int .i64 1000] rfl lm ?_; (with_reducible refine (spec_l1In.calls (rd l1 x5_1) (-1000) 1000 true _ A5.out).mono ?_); rintro e w' ⟨rfl, ⟨nd, rfl⟩⟩; refine ⟨_, rfl, ?_⟩))
      go_roundg k1
      case measure => have := HK1.out; omega
      case rel => exact ⟨(wrap64 (x5_1 + 1)), rs_, H', ⟨by have := HK1.out; omega⟩, rd_⟩
     ·replace c6 := Bool.eq_false_iff.mpr c6
      subst c6
      have H1 : (some false) = some r := by rw [if_neg (show ¬ (false = true) by decide)] at H; exact H
      clear H
      have H := H1
      clear H1
      obtain rfl := Option.some.inj H
      have p126001 : 0 ≤ (x5_1 : Int) := of_decide_eq_true as_
      have q126001 : x5_1 < (l1.length : Int) := of_decide_eq_true as_
      obtain ⟨ad126001, e126001, hx126001_0⟩ := Kd.at_int HR1.out x5_1 p126001 q126001
      cases e126001
      replace p126001 := eq_true p126001
      replace q126001 := eq_true q126001
      go_wp2_with (first | ((with_reducible refine gate_callee (f := 126) rfl ?_); refine goesL_ (some 16) rfl rfl Try.func126 (by kernel_rfl) rfl #[.int .i64 (rd l1 x5_1), .int .i64 (-1000), .int .i64 1000] rfl lm ?_; (with_reducible refine (spec_l1In.calls (rd l1 x5_1) (-1000) 1000 false _ A5.out).mono ?_); rintro e w' ⟨rfl, ⟨nd, rfl⟩⟩; refine ⟨_, rfl, ?_⟩))
      go_ret
      exact ⟨rs_, rd_⟩
    ·rw [if_neg c4] at H
     exact absurd H (by simp)
   ·rw [if_neg c3] at H
    have c3b0 : decide (x5_1 < (l1.length : Int)) = false := decide_eq_false c3
    clear c3
    replace H := Option.bind_eq_some_iff.mp H
    obtain ⟨t126003, A70, H⟩ := H
    replace H : (if t126003 = true then (some ((l1.length : Int) == a0)) else (some false)) = some r := H
    have A7 := aQ A70
    clear A70
    by_cases c8 : t126003 = true
    ·subst c8
     have H1 : (some ((l1.length : Int) == a0)) = some r := by rw [if_pos rfl] at H; exact H
     clear H
     have H := H1
     clear H1
     obtain rfl := Option.some.inj H
     go_wp2_with (first | ((with_reducible refine gate_callee (f := 126) rfl ?_); refine goesL_ (some 19) rfl rfl Try.func126 (by kernel_rfl) rfl #[.int .i64 a0, .int .i64 0, .int .i64 8] rfl lm ?_; (with_reducible refine (spec_l1In.calls a0 0 8 true _ A7.out).mono ?_); rintro e w' ⟨rfl, ⟨nd, rfl⟩⟩; refine ⟨_, rfl, ?_⟩))
     go_ret
     exact ⟨rs_, rd_⟩
    ·replace c8 := Bool.eq_false_iff.mpr c8
     subst c8
     have H1 : (some false) = some r := by rw [if_neg (show ¬ (false = true) by decide)] at H; exact H
     clear H
     have H := H1
     clear H1
     obtain rfl := Option.some.inj H
     go_wp2_with (first | ((with_reducible refine gate_callee (f := 126) rfl ?_); refine goesL_ (some 19) rfl rfl Try.func126 (by kernel_rfl) rfl #[.int .i64 a0, .int .i64 0, .int .i64 8] rfl lm ?_; (with_reducible refine (spec_l1In.calls a0 0 8 false _ A7.out).mono ?_); rintro e w' ⟨rfl, ⟨nd, rfl⟩⟩; refine ⟨_, rfl, ?_⟩))
     go_ret
     exact ⟨rs_, rd_⟩
/-! ### spec_HasElement: function 224 -/
def spec_HasElement.f (a0 : Int) (a1 : Int) : Option (Bool) := (spec_IsSet.f 8 a0).bind fun t225001 => (if t225001 = true then ((spec_l1In.f a1 0 7).bind fun t225002 => (if t225002 = true then ((spec_l2Has.f a0 a1).bind fun t225003 => (some t225003)) else (some false))) else (some false))
set_option maxHeartbeats 8000000 in
set_option maxRecDepth 100000 in
theorem spec_HasElement.calls (a0 : Int) (a1 : Int) (r : Bool) (w : World) (h : spec_HasElement.f a0 a1 = some r) :
  Calls Try.prog 224 #[.int .i64 a0, .int .i64 a1] w fun e w' => e = .returned (.bool r) ∧ Drawn0 w w' := by
 have H : ((spec_IsSet.f 8 a0).bind fun t225001 => (if t225001 = true then ((spec_l1In.f a1 0 7).bind fun t225002 => (if t225002 = true then ((spec_l2Has.f a0 a1).bind fun t225003 => (some t225003)) else (some false))) else (some false))) = some r := h
 clear h
 replace H := Option.bind_eq_some_iff.mp H
 obtain ⟨t225001, A30, H⟩ := H
 replace H : (if t225001 = true then ((spec_l1In.f a1 0 7).bind fun t225002 => (if t225002 = true then ((spec_l2Has.f a0 a1).bind fun t225003 => (some t225003)) else (some false))) else (some false)) = some r := H
 have A3 := aQ A30
 clear A30
 by_cases c4 : t225001 = true
 ·subst c4
  have H1 : ((spec_l1In.f a1 0 7).bind fun t225002 => (if t225002 = true then ((spec_l2Has.f a0 a1).bind fun t225003 => (some t225003)) else (some false))) = some r := by rw [if_pos rfl] at H; exact H
  clear H
  have H := H1
  clear H1
  replace H := Option.bind_eq_some_iff.mp H
  obtain ⟨t225002, A50, H⟩ := H
  replace H : (if t225002 = true then ((spec_l2Has.f a0 a1).bind fun t225003 => (some t225003)) else (some false)) = some r := H
  have A5 := aQ A50
  clear A50
  by_cases c6 : t225002 = true
  ·subst c6
   have H1 : ((spec_l2Has.f a0 a1).bind fun t225003 => (some t225003)) = some r := by rw [if_pos rfl] at H; exact H
   clear H
   have H := H1
   clear H1
   replace H := Option.bind_eq_some_iff.mp H
   obtain ⟨t225003, A70, H⟩ := H
   replace H : (some t225003) = some r := H
   have A7 := aQ A70
   clear A70
   obtain rfl := Option.some.inj H
   go_enter Try.func224, Try.ntmps224
   go_wp2_with (first | ((with_reducible refine gate_callee (f := 218) rfl ?_); refine goesL_ (some 6) rfl rfl Try.func218 (by kernel_rfl) rfl #[.int .i64 8, .int .i64 a0] rfl lm ?_; (with_reducible refine (spec_IsSet.calls 8 a0 true _ A3.out).mono ?_); rintro e w' ⟨rfl, ⟨nd, rfl⟩⟩; refine ⟨_, rfl, ?_⟩) | (go_at_call 126; (with_reducible refine (spec_l1In.calls a1 0 7 true _ A5.out).mono ?_); rintro e w' ⟨rfl, ⟨nd, rfl⟩⟩) | (go_at_call 127; (with_reducible refine (spec_l2Has.calls a0 a1 t225003 _ A7.out).mono ?_); rintro e w' ⟨rfl, ⟨nd, rfl⟩⟩))
   go_ret
   exact ⟨rs_, rd_⟩
  ·replace c6 := Bool.eq_false_iff.mpr c6
   subst c6
   have H1 : (some false) = some r := by rw [if_neg (show ¬ (false = true) by decide)] at H; exact H
   clear H
   have H := H1
   clear H1
   obtain rfl := Option.some.inj H
   go_enter Try.func224, Try.ntmps224
   go_wp2_with (first | ((with_reducible refine gate_callee (f := 218) rfl ?_); refine goesL_ (some 6) rfl rfl Try.func218 (by kernel_rfl) rfl #[.int .i64 8, .int .i64 a0] rfl lm ?_; (with_reducible refine (spec_IsSet.calls 8 a0 true _ A3.out).mono ?_); rintro e w' ⟨rfl, ⟨nd, rfl⟩⟩; refine ⟨_, rfl, ?_⟩) | (go_at_call 126; (with_reducible refine (spec_l1In.calls a1 0 7 false _ A5.out).mono ?_); rintro e w' ⟨rfl, ⟨nd, rfl⟩⟩))
   go_ret
   exact ⟨rs_, rd_⟩
 ·replace c4 := Bool.eq_false_iff.mpr c4
  subst c4
  have H1 : (some false) = some r := by rw [if_neg (show ¬ (false = true) by decide)] at H; exact H
  clear H
  have H := H1
  clear H1
  obtain rfl := Option.some.inj H
  go_enter Try.func224, Try.ntmps224
  go_wp2_with (first | ((with_reducible refine gate_callee (f := 218) rfl ?_); refine goesL_ (some 6) rfl rfl Try.func218 (by kernel_rfl) rfl #[.int .i64 8, .int .i64 a0] rfl lm ?_; (with_reducible refine (spec_IsSet.calls 8 a0 false _ A3.out).mono ?_); rintro e w' ⟨rfl, ⟨nd, rfl⟩⟩; refine ⟨_, rfl, ?_⟩))
  go_ret
  exact ⟨rs_, rd_⟩
/-! ### spec_WeightOf: function 131 -/
def spec_WeightOf.l0 : Nat → List Int → Int → Int → Int → Option (Int)
 | 0, _, _, _, _ => none
 | k + 1, x0, x1, x5, x6 => if x6 < (x0.length : Int) then ((spec_HasElement.f x1 x6).bind fun t132001 => (if t132001 = true then (if 0 ≤ x6 then (spec_WeightOf.l0 k x0 x1 (wrap64 (x5 + (rd x0 x6))) (wrap64 (x6 + 1))) else (none)) else (spec_WeightOf.l0 k x0 x1 x5 (wrap64 (x6 + 1))))) else (some x5)
def spec_WeightOf.f (k : Nat) (l0 : List Int) (a1 : Int) : Option (Int) := spec_WeightOf.l0 k l0 a1 0 0
theorem spec_WeightOf.mono_l : ∀ k, (∀ y0 y1 y2 y3, LeO (spec_WeightOf.l0 k y0 y1 y2 y3) (spec_WeightOf.l0 (k + 1) y0 y1 y2 y3))
 | 0 => fun _ _ _ _ r h => by simp [spec_WeightOf.l0] at h
 | k + 1 => by
  have ih0 := spec_WeightOf.mono_l k
  ·intro y0 y1 y2 y3
   unfold spec_WeightOf.l0
   repeat' first
   | (with_reducible exact ih0 _ _ _ _)
   | (with_reducible exact LeO.refl _)
   | (with_reducible exact LeO.none _)
   | (with_reducible refine LeO.ite ?_ ?_)
   | (with_reducible refine LeO.bind ?_ (fun _ => ?_))
   | exact ih0 _ _ _ _
   | exact LeO.none _
   | refine LeO.ite ?_ ?_
   | refine LeO.bind ?_ (fun _ => ?_)
theorem spec_WeightOf.mono : ∀ a0 a1 k, LeO (spec_WeightOf.f k a0 a1) (spec_WeightOf.f (k + 1) a0 a1) := by
 intro a0 a1 k
 have ih0 := spec_WeightOf.mono_l k
 unfold spec_WeightOf.f
 repeat' first
   | (with_reducible exact ih0 _ _ _ _)
   | (with_reducible exact LeO.refl _)
   | (with_reducible exact LeO.none _)
   | (with_reducible refine LeO.ite ?_ ?_)
   | (with_reducible refine LeO.bind ?_ (fun _ => ?_))
   | exact ih0 _ _ _ _
   | exact LeO.none _
   | refine LeO.ite ?_ ?_
   | refine LeO.bind ?_ (fun _ => ?_)
set_option maxHeartbeats 8000000 in
set_option maxRecDepth 100000 in
theorem spec_WeightOf.calls (k : Nat) (A0 : Option Addr) (c0 : Nat) (l0 : List Int) (a1 : Int) (r : Int) (w : World) (hr0 : Kd.C (Kd.int .i64) w A0 l0.length l0) (hc0 : l0.length ≤ c0) (h : spec_WeightOf.f k l0 a1 = some r) :
  Calls Try.prog 131 #[.slice A0 l0.length c0, .int .i64 a1] w fun e w' => e = .returned (.int .i64 r) ∧ Drawn0 w w' := by
 have HR0 := aQ hr0
 have HC0 := aQ hc0
 clear hr0 hc0
 have H : (spec_WeightOf.l0 k l0 a1 0 0) = some r := h
 clear h
 have H' := aQ H
 clear H
 go_enter Try.func131, Try.ntmps131
 go_wp2
 go_loopg [5, 6] k (fun kq v5 v6 w' => ∃ (x5_1 : Int) (x6_1 : Int), v5 = .int .i64 x5_1 ∧ v6 = .int .i64 x6_1 ∧ Aside0 (spec_WeightOf.l0 kq l0 a1 x5_1 x6_1 = some r) ∧ Aside0 (kq ≤ k) ∧ Drawn0 w w')
 case atStart => exact ⟨(0), (0), rs_, rs_, H', ⟨Nat.le_refl _⟩, rd_⟩
 case round =>
  clear H'
  try clear c1
  try clear p2
  obtain ⟨x5_1, x6_1, rfl, rfl, HA, HK1, ⟨m1, rfl⟩⟩ := hrel
  cases gk with
  | zero => exact absurd HA.out (by simp [spec_WeightOf.l0])
  | succ k1 =>
   have H := HA.out
   clear HA
   simp only [spec_WeightOf.l0] at H
   by_cases c3 : x6_1 < (l0.length : Int)
   ·rw [if_pos c3] at H
    have c3b0 : decide (x6_1 < (l0.length : Int)) = true := decide_eq_true c3
    clear c3
    replace H := Option.bind_eq_some_iff.mp H
    obtain ⟨t132001, A40, H⟩ := H
    replace H : (if t132001 = true then (if 0 ≤ x6_1 then (spec_WeightOf.l0 k1 l0 a1 (wrap64 (x5_1 + (rd l0 x6_1))) (wrap64 (x6_1 + 1))) else (none)) else (spec_WeightOf.l0 k1 l0 a1 x5_1 (wrap64 (x6_1 + 1)))) = some r := H
    have A4 := aQ A40
    clear A40
    by_cases c5 : t132001 = true
    ·subst c5
     have H1 : (if 0 ≤ x6_1 then (spec_WeightOf.l0 k1 l0 a1 (wrap64 (x5_1 + (rd l0 x6_1))) (wrap64 (x6_1 + 1))) else (none)) = some r := by rw [if_pos rfl] at H; exact H
     clear H
     have H := H1
     clear H1
     by_cases c6 : 0 ≤ x6_1
     ·rw [if_pos c6] at H
      have c6b0 : decide (0 ≤ x6_1) = true := decide_eq_true c6
      clear c6
      have H' := aQ H
      clear H
      go_wp2_with (first | ((with_reducible refine gate_callee (f := 224) rfl ?_); refine goesL_ (some 15) rfl rfl Try.func224 (by kernel_rfl) rfl #[.int .i64 a1, .int .i64 x6_1] rfl lm ?_; (with_reducible refine (spec_HasElement.calls a1 x6_1 true _ A4.out).mono ?_); rintro e w' ⟨rfl, ⟨nd, rfl⟩⟩; refine ⟨_, rfl, ?_⟩; have p132002 : 0 ≤ (x6_1 : Int) := of_decide_eq_true as_; have q132002 : x6_1 < (l0.length : Int) := of_decide_eq_true as_; obtain ⟨ad132002, e132002, hx132002_0⟩ := Kd.at_int HR0.out x6_1 p132002 q132002; cases e132002; replace p132002 := eq_true p132002; replace q132002 := eq_true q132002))
      go_roundg k1
      case measure => have := HK1.out; omega
      case rel => exact ⟨(wrap64 (x5_1 + (rd l0 x6_1))), (wrap64 (x6_1 + 1)), rs_, rs_, H', ⟨by have := HK1.out; omega⟩, rd_⟩
     ·rw [if_neg c6] at H
      exact absurd H (by simp)
    ·replace c5 := Bool.eq_false_iff.mpr c5
     subst c5
     have H1 : (spec_WeightOf.l0 k1 l0 a1 x5_1 (wrap64 (x6_1 + 1))) = some r := by rw [if_neg (show ¬ (false = true) by decide)] at H; exact H
     clear H
     have H := H1
     clear H1
     have H' := aQ H
     clear H
     go_wp2_with (first | ((with_reducible refine gate_callee (f := 224) rfl ?_); refine goesL_ (some 15) rfl rfl Try.func224 (by kernel_rfl) rfl #[.int .i64 a1, .int .i64 x6_1] rfl lm ?_; (with_reducible refine (spec_HasElement.calls a1 x6_1 false _ A4.out).mono ?_); rintro e w' ⟨rfl, ⟨nd, rfl⟩⟩; refine ⟨_, rfl, ?_⟩))
     go_roundg k1
     case measure => have := HK1.out; omega
     case rel => exact ⟨(x5_1), (wrap64 (x6_1 + 1)), rs_, rs_, H', ⟨by have := HK1.out; omega⟩, rd_⟩
   ·rw [if_neg c3] at H
    have c3b0 : decide (x6_1 < (l0.length : Int)) = false := decide_eq_false c3
    clear c3
    obtain rfl := Option.some.inj H
    go_wp2
    go_ret
    exact ⟨rs_, rd_⟩
/-! ### impl_AreWeights: function 133 -/
def impl_AreWeights.l0 : Nat → Int → List Int → List Int → Int → Int → Option (Bool)
 | 0, _, _, _, _, _ => none
 | k + 1, x0, x1, x7, x8, x9 => if x9 < x8 then (if 0 ≤ x9 then (if x9 < (x7.length : Int) then (if (rd x7 x9) < (-1000) then (some false) else (if (rd x7 x9) > 1000 then (some false) else (impl_AreWeights.l0 k x0 x1 x7 x8 (wrap64 (x9 + 1))))) else (none)) else (none)) else ((impl_isSize.f x0).bind fun t134002 => (if t134002 = true then (some ((x1.length : Int) == x0)) else (some false)))
def impl_AreWeights.f (k : Nat) (a0 : Int) (l1 : List Int) : Option (Bool) := impl_AreWeights.l0 k a0 l1 l1 (l1.length : Int) 0
theorem impl_AreWeights.mono_l : ∀ k, (∀ y0 y1 y2 y3 y4, LeO (impl_AreWeights.l0 k y0 y1 y2 y3 y4) (impl_AreWeights.l0 (k + 1) y0 y1 y2 y3 y4))
 | 0 => fun _ _ _ _ _ r h => by simp [impl_AreWeights.l0] at h
 | k + 1 => by
  have ih0 := impl_AreWeights.mono_l k
  ·intro y0 y1 y2 y3 y4
   unfold impl_AreWeights.l0
   repeat' first
   | (with_reducible exact ih0 _ _ _ _ _)
   | (with_reducible exact LeO.refl _)
   | (with_reducible exact LeO.none _)
   | (with_reducible refine LeO.ite ?_ ?_)
   | (with_reducible refine LeO.bind ?_ (fun _ => ?_))
   | exact ih0 _ _ _ _ _
   | exact LeO.none _
   | refine LeO.ite ?_ ?_
   | refine LeO.bind ?_ (fun _ => ?_)
theorem impl_AreWeights.mono : ∀ a0 a1 k, LeO (impl_AreWeights.f k a0 a1) (impl_AreWeights.f (k + 1) a0 a1) := by
 intro a0 a1 k
 have ih0 := impl_AreWeights.mono_l k
 unfold impl_AreWeights.f
 repeat' first
   | (with_reducible exact ih0 _ _ _ _ _)
   | (with_reducible exact LeO.refl _)
   | (with_reducible exact LeO.none _)
   | (with_reducible refine LeO.ite ?_ ?_)
   | (with_reducible refine LeO.bind ?_ (fun _ => ?_))
   | exact ih0 _ _ _ _ _
   | exact LeO.none _
   | refine LeO.ite ?_ ?_
   | refine LeO.bind ?_ (fun _ => ?_)
set_option maxHeartbeats 8000000 in
set_option maxRecDepth 100000 in
theorem impl_AreWeights.calls (k : Nat) (a0 : Int) (A1 : Option Addr) (c1 : Nat) (l1 : List Int) (r : Bool) (w : World) (hr1 : Kd.C (Kd.int .i64) w A1 l1.length l1) (hc1 : l1.length ≤ c1) (h : impl_AreWeights.f k a0 l1 = some r) :
  Calls Try.prog 133 #[.int .i64 a0, .slice A1 l1.length c1] w fun e w' => e = .returned (.bool r) ∧ Drawn0 w w' := by
 have HR1 := aQ hr1
 have HC1 := aQ hc1
 clear hr1 hc1
 have H : (impl_AreWeights.l0 k a0 l1 l1 (l1.length : Int) 0) = some r := h
 clear h
 have H' := aQ H
 clear H
 go_enter Try.func133, Try.ntmps133
 go_wp2
 go_loopg [9] k (fun kq v9 w' => ∃ (x9_1 : Int), v9 = .int .i64 x9_1 ∧ Aside0 (impl_AreWeights.l0 kq a0 l1 l1 (l1.length : Int) x9_1 = some r) ∧ Aside0 (kq ≤ k) ∧ Drawn0 w w')
 case atStart => exact ⟨(0), rs_, H', ⟨Nat.le_refl _⟩, rd_⟩
 case round =>
  clear H'
  try clear c1
  try clear p2
  obtain ⟨x9_1, rfl, HA, HK1, ⟨m1, rfl⟩⟩ := hrel
  cases gk with
  | zero => exact absurd HA.out (by simp [impl_AreWeights.l0])
  | succ k1 =>
   have H := HA.out
   clear HA
   simp only [impl_AreWeights.l0] at H
   by_cases c3 : x9_1 < (l1.length : Int)
   ·rw [if_pos c3] at H
    have c3b0 : decide (x9_1 < (l1.length : Int)) = true := decide_eq_true c3
    clear c3
    by_cases c4 : 0 ≤ x9_1
    ·rw [if_pos c4] at H
     have c4b0 : decide (0 ≤ x9_1) = true := decide_eq_true c4
     clear c4
     by_cases c5 : x9_1 < (l1.length : Int)
     ·rw [if_pos c5] at H
      have c5b0 : decide (x9_1 < (l1.length : Int)) = true := decide_eq_true c5
      clear c5
      by_cases c6 : (rd l1 x9_1) < (-1000)
      ·rw [if_pos c6] at H
       have c6b0 : decide ((rd l1 x9_1) < (-1000)) = true := decide_eq_true c6
       clear c6
       obtain rfl := Option.some.inj H
       have p134001 : 0 ≤ (x9_1 : Int) := of_decide_eq_true as_
       have q134001 : x9_1 < (l1.length : Int) := of_decide_eq_true as_
       obtain ⟨ad134001, e134001, hx134001_0⟩ := Kd.at_int HR1.out x9_1 p134001 q134001
       cases e134001
       replace p134001 := eq_true p134001
       replace q134001 := eq_true q134001
       go_wp2
       go_ret
       exact ⟨rs_, rd_⟩
      ·rw [if_neg c6] at H
       have c6b0 : decide ((rd l1 x9_1) < (-1000)) = false := decide_eq_false c6
       clear c6
       by_cases c7 : (rd l1 x9_1) > 1000
       ·rw [if_pos c7] at H
        have c7b0 : decide (1000 < (rd l1 x9_1)) = true := decide_eq_true c7
        clear c7
        obtain rfl := Option.some.inj H
        have p134001 : 0 ≤ (x9_1 : Int) := of_decide_eq_true as_
        have q134001 : x9_1 < (l1.length : Int) := of_decide_eq_true as_
        obtain ⟨ad134001, e134001, hx134001_0⟩ := Kd.at_int HR1.out x9_1 p134001 q134001
        cases e134001
        replace p134001 := eq_true p134001
        replace q134001 := eq_true q134001
        go_wp2
        go_ret
        exact ⟨rs_, rd_⟩
       ·rw [if_neg c7] at H
        have c7b0 : decide (1000 < (rd l1 x9_1)) = false := decide_eq_false c7
        clear c7
        have H' := aQ H
        clear H
        have p134001 : 0 ≤ (x9_1 : Int) := of_decide_eq_true as_
        have q134001 : x9_1 < (l1.length : Int) := of_decide_eq_true as_
        obtain ⟨ad134001, e134001, hx134001_0⟩ := Kd.at_int HR1.out x9_1 p134001 q134001
        cases e134001
        replace p134001 := eq_true p134001
        replace q134001 := eq_true q134001
        go_wp2
        go_roundg k1
        case measure => have := HK1.out; omega
        case rel => exact ⟨(wrap64 (x9_1 + 1)), rs_, H', ⟨by have := HK1.out; omega⟩, rd_⟩
     ·rw [if_neg c5] at H
      exact absurd H (by simp)
    ·rw [if_neg c4] at H
     exact absurd H (by simp)
   ·rw [if_neg c3] at H
    have c3b0 : decide (x9_1 < (l1.length : Int)) = false := decide_eq_false c3
    clear c3
    replace H := Option.bind_eq_some_iff.mp H
    obtain ⟨t134002, A80, H⟩ := H
    replace H : (if t134002 = true then (some ((l1.length : Int) == a0)) else (some false)) = some r := H
    have A8 := aQ A80
    clear A80
    by_cases c9 : t134002 = true
    ·subst c9
     have H1 : (some ((l1.length : Int) == a0)) = some r := by rw [if_pos rfl] at H; exact H
     clear H
     have H := H1
     clear H1
     obtain rfl := Option.some.inj H
     go_wp2_with (first | ((with_reducible refine gate_callee (f := 222) rfl ?_); refine goesL_ (some 21) rfl rfl Try.func222 (by kernel_rfl) rfl #[.int .i64 a0] rfl lm ?_; (with_reducible refine (impl_isSize.calls a0 true _ A8.out).mono ?_); rintro e w' ⟨rfl, ⟨nd, rfl⟩⟩; refine ⟨_, rfl, ?_⟩))
     go_ret
     exact ⟨rs_, rd_⟩
    ·replace c9 := Bool.eq_false_iff.mpr c9
     subst c9
     have H1 : (some false) = some r := by rw [if_neg (show ¬ (false = true) by decide)] at H; exact H
     clear H
     have H := H1
     clear H1
     obtain rfl := Option.some.inj H
     go_wp2_with (first | ((with_reducible refine gate_callee (f := 222) rfl ?_); refine goesL_ (some 21) rfl rfl Try.func222 (by kernel_rfl) rfl #[.int .i64 a0] rfl lm ?_; (with_reducible refine (impl_isSize.calls a0 false _ A8.out).mono ?_); rintro e w' ⟨rfl, ⟨nd, rfl⟩⟩; refine ⟨_, rfl, ?_⟩))
     go_ret
     exact ⟨rs_, rd_⟩
/-! ### impl_WeightOf: function 137 -/
def impl_WeightOf.l0 : Nat → List Int → Int → List Int → Int → Int → Option (Int)
 | 0, _, _, _, _, _ => none
 | k + 1, x0, x5, x9, x10, x11 => if x11 < x10 then (if 0 ≤ x11 then (if x11 < (x9.length : Int) then (if (rd x9 x11) < (x0.length : Int) then (if 0 ≤ (rd x9 x11) then (impl_WeightOf.l0 k x0 (wrap64 (x5 + (rd x0 (rd x9 x11)))) x9 x10 (wrap64 (x11 + 1))) else (none)) else (impl_WeightOf.l0 k x0 x5 x9 x10 (wrap64 (x11 + 1)))) else (none)) else (none)) else (some x5)
def impl_WeightOf.f (k : Nat) (l0 : List Int) (a1 : Int) : Option (Int) := (impl_ElementsOf.f k a1).bind fun t138001 => (impl_WeightOf.l0 k l0 0 t138001 (t138001.length : Int) 0)
theorem impl_WeightOf.mono_l : ∀ k, (∀ y0 y1 y2 y3 y4, LeO (impl_WeightOf.l0 k y0 y1 y2 y3 y4) (impl_WeightOf.l0 (k + 1) y0 y1 y2 y3 y4))
 | 0 => fun _ _ _ _ _ r h => by simp [impl_WeightOf.l0] at h
 | k + 1 => by
  have ih0 := impl_WeightOf.mono_l k
  ·intro y0 y1 y2 y3 y4
   unfold impl_WeightOf.l0
   repeat' first
   | (with_reducible exact ih0 _ _ _ _ _)
   | (with_reducible exact impl_ElementsOf.mono _ _)
   | (with_reducible exact LeO.refl _)
   | (with_reducible exact LeO.none _)
   | (with_reducible refine LeO.ite ?_ ?_)
   | (with_reducible refine LeO.bind ?_ (fun _ => ?_))
   | exact ih0 _ _ _ _ _
   | exact impl_ElementsOf.mono _ _
   | exact LeO.none _
   | refine LeO.ite ?_ ?_
   | refine LeO.bind ?_ (fun _ => ?_)
theorem impl_WeightOf.mono : ∀ a0 a1 k, LeO (impl_WeightOf.f k a0 a1) (impl_WeightOf.f (k + 1) a0 a1) := by
 intro a0 a1 k
 have ih0 := impl_WeightOf.mono_l k
 unfold impl_WeightOf.f
 repeat' first
   | (with_reducible exact ih0 _ _ _ _ _)
   | (with_reducible exact impl_ElementsOf.mono _ _)
   | (with_reducible exact LeO.refl _)
   | (with_reducible exact LeO.none _)
   | (with_reducible refine LeO.ite ?_ ?_)
   | (with_reducible refine LeO.bind ?_ (fun _ => ?_))
   | exact ih0 _ _ _ _ _
   | exact impl_ElementsOf.mono _ _
   | exact LeO.none _
   | refine LeO.ite ?_ ?_
   | refine LeO.bind ?_ (fun _ => ?_)
set_option maxHeartbeats 8000000 in
set_option maxRecDepth 100000 in
theorem impl_WeightOf.calls (k : Nat) (A0 : Option Addr) (c0 : Nat) (l0 : List Int) (a1 : Int) (r : Int) (w : World) (hr0 : Kd.C (Kd.int .i64) w A0 l0.length l0) (hc0 : l0.length ≤ c0) (h : impl_WeightOf.f k l0 a1 = some r) :
  Calls Try.prog 137 #[.slice A0 l0.length c0, .int .i64 a1] w fun e w' => e = .returned (.int .i64 r) ∧ Below w.heap.size w w' := by
 have HR0 := aQ hr0
 have HC0 := aQ hc0
 clear hr0 hc0
 have HB := aQ (Below.refl w.heap.size w)
 have H : ((impl_ElementsOf.f k a1).bind fun t138001 => (impl_WeightOf.l0 k l0 0 t138001 (t138001.length : Int) 0)) = some r := h
 clear h
 replace H := Option.bind_eq_some_iff.mp H
 obtain ⟨t138001, A30, H⟩ := H
 replace H : (impl_WeightOf.l0 k l0 0 t138001 (t138001.length : Int) 0) = some r := H
 have A3 := aQ A30
 clear A30
 have H' := aQ H
 clear H
 go_enter Try.func137, Try.ntmps137
 go_wp2_with (first | ((with_reducible refine gate_callee (f := 226) rfl ?_); refine goesL_ (some 9) rfl rfl Try.func226 (by kernel_rfl) rfl #[.int .i64 a1] rfl lm ?_; (with_reducible refine (impl_ElementsOf.calls k a1 t138001 _ A3.out).mono ?_); rintro e w4 ⟨v138002, rfl, ho0, hb⟩; refine ⟨_, rfl, ?_⟩; have HO138003 := aQ (Kd.R_lower ho0 (below_size (pB HB.out))); replace HB := aQ (below_step (pB HB.out) hb); (try clear hb); (try clear ho0); obtain ⟨Ao5, co5, eo5⟩ := Kd.R_slice HO138003.out; subst eo5))
 go_loopg [5, 11] k (fun kq v5 v11 w' => ∃ (x5_1 : Int) (x11_1 : Int), v5 = .int .i64 x5_1 ∧ v11 = .int .i64 x11_1 ∧ Aside0 (impl_WeightOf.l0 kq l0 x5_1 t138001 (t138001.length : Int) x11_1 = some r) ∧ Aside0 (kq ≤ k) ∧ Aside0 (Kd.R (Kd.int .i64) 3 w' w.heap.size (fun _ => True) (.slice Ao5 t138001.length co5) t138001) ∧ Aside0 (Below w.heap.size w w'))
 case atStart => exact ⟨(0), (0), rs_, rs_, H', ⟨Nat.le_refl _⟩, ⟨pR HO138003.out⟩, ⟨pB HB.out⟩⟩
 case round =>
  clear H'
  try clear c1
  try clear c2
  try clear p2
  obtain ⟨x5_1, x11_1, rfl, rfl, HA, HK1, HO_9, HB⟩ := hrel
  cases gk with
  | zero => exact absurd HA.out (by simp [impl_WeightOf.l0])
  | succ k1 =>
   have H := HA.out
   clear HA
   simp only [impl_WeightOf.l0] at H
   by_cases c6 : x11_1 < (t138001.length : Int)
   ·rw [if_pos c6] at H
    have c6b0 : decide (x11_1 < (t138001.length : Int)) = true := decide_eq_true c6
    clear c6
    by_cases c7 : 0 ≤ x11_1
    ·rw [if_pos c7] at H
     have c7b0 : decide (0 ≤ x11_1) = true := decide_eq_true c7
     clear c7
     by_cases c8 : x11_1 < (t138001.length : Int)
     ·rw [if_pos c8] at H
      have c8b0 : decide (x11_1 < (t138001.length : Int)) = true := decide_eq_true c8
      clear c8
      by_cases c9 : (rd t138001 x11_1) < (l0.length : Int)
      ·rw [if_pos c9] at H
       have c9b0 : decide ((rd t138001 x11_1) < (l0.length : Int)) = true := decide_eq_true c9
       clear c9
       by_cases c10 : 0 ≤ (rd t138001 x11_1)
       ·rw [if_pos c10] at H
        have c10b0 : decide (0 ≤ (rd t138001 x11_1)) = true := decide_eq_true c10
        clear c10
        have H' := aQ H
        clear H
        have p138004 : 0 ≤ (x11_1 : Int) := of_decide_eq_true as_
        have q138004 : x11_1 < (t138001.length : Int) := of_decide_eq_true as_
        obtain ⟨ad138004, e138004, hx138004_0⟩ := Kd.at_int (Kd.R_reads' HO_9.out).2.2 x11_1 p138004 q138004
        cases e138004
        replace p138004 := eq_true p138004
        replace q138004 := eq_true q138004
        have p138005 : 0 ≤ ((rd t138001 x11_1) : Int) := of_decide_eq_true as_
        have q138005 : (rd t138001 x11_1) < (l0.length : Int) := of_decide_eq_true as_
        obtain ⟨ad138005, e138005, hx138005_0⟩ := Kd.at_int HR0.out (rd t138001 x11_1) p138005 q138005
        cases e138005
        replace hx138005_0 := (HB.out.cell (World.block_lt_of_cell? w _ hx138005_0)).trans hx138005_0
        replace p138005 := eq_true p138005
        replace q138005 := eq_true q138005
        go_wp2
        go_roundg k1
        case measure => have := HK1.out; omega
        case rel => exact ⟨(wrap64 (x5_1 + (rd l0 (rd t138001 x11_1)))), (wrap64 (x11_1 + 1)), rs_, rs_, H', ⟨by have := HK1.out; omega⟩, ⟨pR HO_9.out⟩, ⟨pB HB.out⟩⟩
       ·rw [if_neg c10] at H
        exact absurd H (by simp)
      ·rw [if_neg c9] at H
       have c9b0 : decide ((rd t138001 x11_1) < (l0.length : Int)) = false := decide_eq_false c9
       clear c9
       have H' := aQ H
       clear H
       have p138004 : 0 ≤ (x11_1 : Int) := of_decide_eq_true as_
       have q138004 : x11_1 < (t138001.length : Int) := of_decide_eq_true as_
       obtain ⟨ad138004, e138004, hx138004_0⟩ := Kd.at_int (Kd.R_reads' HO_9.out).2.2 x11_1 p138004 q138004
       cases e138004
       replace p138004 := eq_true p138004
       replace q138004 := eq_true q138004
       go_wp2
       go_roundg k1
       case measure => have := HK1.out; omega
       case rel => exact ⟨(x5_1), (wrap64 (x11_1 + 1)), rs_, rs_, H', ⟨by have := HK1.out; omega⟩, ⟨pR HO_9.out⟩, ⟨pB HB.out⟩⟩
     ·rw [if_neg c8] at H
      exact absurd H (by simp)
    ·rw [if_neg c7] at H
     exact absurd H (by simp)
   ·rw [if_neg c6] at H
    have c6b0 : decide (x11_1 < (t138001.length : Int)) = false := decide_eq_false c6
    clear c6
    obtain rfl := Option.some.inj H
    go_wp2
    go_ret
    exact ⟨re_, pB HB.out⟩
/-! ### impl_IsSubset: function 151 -/
def impl_IsSubset.f (a0 : Int) (a1 : Int) : Option (Bool) := (impl_isAny.f a0).bind fun t152001 => (if t152001 = true then ((impl_isAny.f a1).bind fun t152002 => (if t152002 = true then (some ((Go.bits .andNot .i64 a0 a1) == 0)) else (some false))) else (some false))
set_option maxHeartbeats 8000000 in
set_option maxRecDepth 100000 in
theorem impl_IsSubset.calls (a0 : Int) (a1 : Int) (r : Bool) (w : World) (h : impl_IsSubset.f a0 a1 = some r) :
  Calls Try.prog 151 #[.int .i64 a0, .int .i64 a1] w fun e w' => e = .returned (.bool r) ∧ Drawn0 w w' := by
 have H : ((impl_isAny.f a0).bind fun t152001 => (if t152001 = true then ((impl_isAny.f a1).bind fun t152002 => (if t152002 = true then (some ((Go.bits .andNot .i64 a0 a1) == 0)) else (some false))) else (some false))) = some r := h
 clear h
 replace H := Option.bind_eq_some_iff.mp H
 obtain ⟨t152001, A30, H⟩ := H
 replace H : (if t152001 = true then ((impl_isAny.f a1).bind fun t152002 => (if t152002 = true then (some ((Go.bits .andNot .i64 a0 a1) == 0)) else (some false))) else (some false)) = some r := H
 have A3 := aQ A30
 clear A30
 by_cases c4 : t152001 = true
 ·subst c4
  have H1 : ((impl_isAny.f a1).bind fun t152002 => (if t152002 = true then (some ((Go.bits .andNot .i64 a0 a1) == 0)) else (some false))) = some r := by rw [if_pos rfl] at H; exact H
  clear H
  have H := H1
  clear H1
  replace H := Option.bind_eq_some_iff.mp H
  obtain ⟨t152002, A50, H⟩ := H
  replace H : (if t152002 = true then (some ((Go.bits .andNot .i64 a0 a1) == 0)) else (some false)) = some r := H
  have A5 := aQ A50
  clear A50
  by_cases c6 : t152002 = true
  ·subst c6
   have H1 : (some ((Go.bits .andNot .i64 a0 a1) == 0)) = some r := by rw [if_pos rfl] at H; exact H
   clear H
   have H := H1
   clear H1
   obtain rfl := Option.some.inj H
   go_enter Try.func151, Try.ntmps151
   go_wp2_with (first | ((with_reducible refine gate_callee (f := 220) rfl ?_); refine goesL_ (some 6) rfl rfl Try.func220 (by kernel_rfl) rfl #[.int .i64 a0] rfl lm ?_; (with_reducible refine (impl_isAny.calls a0 true _ A3.out).mono ?_); rintro e w' ⟨rfl, ⟨nd, rfl⟩⟩; refine ⟨_, rfl, ?_⟩) | (go_at_call 220; (with_reducible refine (impl_isAny.calls a1 true _ A5.out).mono ?_); rintro e w' ⟨rfl, ⟨nd, rfl⟩⟩))
   go_ret
   exact ⟨rs_, rd_⟩
  ·replace c6 := Bool.eq_false_iff.mpr c6
   subst c6
   have H1 : (some false) = some r := by rw [if_neg (show ¬ (false = true) by decide)] at H; exact H
   clear H
   have H := H1
   clear H1
   obtain rfl := Option.some.inj H
   go_enter Try.func151, Try.ntmps151
   go_wp2_with (first | ((with_reducible refine gate_callee (f := 220) rfl ?_); refine goesL_ (some 6) rfl rfl Try.func220 (by kernel_rfl) rfl #[.int .i64 a0] rfl lm ?_; (with_reducible refine (impl_isAny.calls a0 true _ A3.out).mono ?_); rintro e w' ⟨rfl, ⟨nd, rfl⟩⟩; refine ⟨_, rfl, ?_⟩) | (go_at_call 220; (with_reducible refine (impl_isAny.calls a1 false _ A5.out).mono ?_); rintro e w' ⟨rfl, ⟨nd, rfl⟩⟩))
   go_ret
   exact ⟨rs_, rd_⟩
 ·replace c4 := Bool.eq_false_iff.mpr c4
  subst c4
  have H1 : (some false) = some r := by rw [if_neg (show ¬ (false = true) by decide)] at H; exact H
  clear H
  have H := H1
  clear H1
  obtain rfl := Option.some.inj H
  go_enter Try.func151, Try.ntmps151
  go_wp2_with (first | ((with_reducible refine gate_callee (f := 220) rfl ?_); refine goesL_ (some 6) rfl rfl Try.func220 (by kernel_rfl) rfl #[.int .i64 a0] rfl lm ?_; (with_reducible refine (impl_isAny.calls a0 false _ A3.out).mono ?_); rintro e w' ⟨rfl, ⟨nd, rfl⟩⟩; refine ⟨_, rfl, ?_⟩))
  go_ret
  exact ⟨rs_, rd_⟩
/-! ### impl_independent: function 141 -/
def impl_independent.l0 : Nat → Int → List Int → Int → Int → Option (Bool)
 | 0, _, _, _, _ => none
 | k + 1, x1, x8, x9, x10 => if x10 < x9 then (if 0 ≤ x10 then (if x10 < (x8.length : Int) then ((impl_IsSubset.f x1 (rd x8 x10)).bind fun t142003 => (if t142003 = true then (some true) else (impl_independent.l0 k x1 x8 x9 (wrap64 (x10 + 1))))) else (none)) else (none)) else (some false)
def impl_independent.f (k : Nat) (a0_0 : Int) (l0_1 : List Int) (a1 : Int) : Option (Bool) := impl_independent.l0 k a1 l0_1 (l0_1.length : Int) 0
theorem impl_independent.mono_l : ∀ k, (∀ y0 y1 y2 y3, LeO (impl_independent.l0 k y0 y1 y2 y3) (impl_independent.l0 (k + 1) y0 y1 y2 y3))
 | 0 => fun _ _ _ _ r h => by simp [impl_independent.l0] at h
 | k + 1 => by
  have ih0 := impl_independent.mono_l k
  ·intro y0 y1 y2 y3
   unfold impl_independent.l0
   repeat' first
   | (with_reducible exact ih0 _ _ _ _)
   | (with_reducible exact LeO.refl _)
   | (with_reducible exact LeO.none _)
   | (with_reducible refine LeO.ite ?_ ?_)
   | (with_reducible refine LeO.bind ?_ (fun _ => ?_))
   | exact ih0 _ _ _ _
   | exact LeO.none _
   | refine LeO.ite ?_ ?_
   | refine LeO.bind ?_ (fun _ => ?_)
theorem impl_independent.mono : ∀ a0 a1 a2 k, LeO (impl_independent.f k a0 a1 a2) (impl_independent.f (k + 1) a0 a1 a2) := by
 intro a0 a1 a2 k
 have ih0 := impl_independent.mono_l k
 unfold impl_independent.f
 repeat' first
   | (with_reducible exact ih0 _ _ _ _)
   | (with_reducible exact LeO.refl _)
   | (with_reducible exact LeO.none _)
   | (with_reducible refine LeO.ite ?_ ?_)
   | (with_reducible refine LeO.bind ?_ (fun _ => ?_))
   | exact ih0 _ _ _ _
   | exact LeO.none _
   | refine LeO.ite ?_ ?_
   | refine LeO.bind ?_ (fun _ => ?_)
set_option maxHeartbeats 8000000 in
set_option maxRecDepth 100000 in
theorem impl_independent.calls (k : Nat) (a0_0 : Int) (A0_1 : Option Addr) (c0_1 : Nat) (l0_1 : List Int) (a1 : Int) (r : Bool) (w : World) (hr0_1 : Kd.C (Kd.int .i64) w A0_1 l0_1.length l0_1) (hc0_1 : l0_1.length ≤ c0_1) (h : impl_independent.f k a0_0 l0_1 a1 = some r) :
  Calls Try.prog 141 #[.agg #[.int .i64 a0_0, .slice A0_1 l0_1.length c0_1], .int .i64 a1] w fun e w' => e = .returned (.bool r) ∧ Below w.heap.size w w' := by
 have hu28 := Try.underlying28
 have HR0_1 := aQ hr0_1
 have HC0_1 := aQ hc0_1
 clear hr0_1 hc0_1
 have HB := aQ (Below.refl w.heap.size w)
 have H : (impl_independent.l0 k a1 l0_1 (l0_1.length : Int) 0) = some r := h
 clear h
 have H' := aQ H
 clear H
 go_enter Try.func141, Try.ntmps141
 go_wp2_with (first | ((with_reducible refine gate_dst (N := 2) rfl ?_); refine box_event ?hg (N := 2) ?hd (cs := #[.int .i64 a0_0, .slice A0_1 l0_1.length c0_1]) (t := 28) ?hr ?_; (case hd => rfl); (case hg => rfl); (case hr => first | (go_simp; done) | (go_simp; rfl)); intro gb142001 hg w3 hbox hb; have BK142001 := aQ (hbox); have GW142001 := aQ ((by rw [hg]; exact (below_size (pB HB.out)) : w.heap.size ≤ gb142001)); have GE142001 := aQ ((by rw [hg]; exact (below_size (pB HB.out)) : w.heap.size ≤ gb142001)); replace HB := aQ (below_step (pB HB.out) hb); clear hb hbox hg; have hcz4_0 := bc (v := (.int .i64 a0_0)) BK142001.out 0; have hcz4_1 := bc (v := (.slice A0_1 l0_1.length c0_1)) BK142001.out 1; have hfz4_0 := blk_frozen BK142001.out 0; have hfz4_1 := blk_frozen BK142001.out 1))
 go_loopg [10] k (fun kq v10 w' => ∃ (x10_1 : Int), v10 = .int .i64 x10_1 ∧ Aside0 (impl_independent.l0 kq a1 l0_1 (l0_1.length : Int) x10_1 = some r) ∧ Aside0 (kq ≤ k) ∧ Aside0 (w'.heap[gb142001]? = some (.cells #[.int .i64 a0_0, (.slice A0_1 l0_1.length c0_1)] 28 (0, 0))) ∧ Aside0 (Below w.heap.size w w'))
 case atStart => exact ⟨(0), rs_, H', ⟨Nat.le_refl _⟩, ⟨pk BK142001.out⟩, ⟨pB1 HB.out GE142001.out⟩⟩
 case round =>
  clear H'
  try clear c1
  try clear p2
  try clear hcz4_0
  try clear hcz4_1
  try clear hfz4_0
  try clear hfz4_1
  obtain ⟨x10_1, rfl, HA, HK1, BK142001, HB⟩ := hrel
  cases gk with
  | zero => exact absurd HA.out (by simp [impl_independent.l0])
  | succ k1 =>
   have H := HA.out
   clear HA
   simp only [impl_independent.l0] at H
   by_cases c5 : x10_1 < (l0_1.length : Int)
   ·rw [if_pos c5] at H
    have c5b0 : decide (x10_1 < (l0_1.length : Int)) = true := decide_eq_true c5
    clear c5
    by_cases c6 : 0 ≤ x10_1
    ·rw [if_pos c6] at H
     have c6b0 : decide (0 ≤ x10_1) = true := decide_eq_true c6
     clear c6
     by_cases c7 : x10_1 < (l0_1.length : Int)
     ·rw [if_pos c7] at H
      have c7b0 : decide (x10_1 < (l0_1.length : Int)) = true := decide_eq_true c7
      clear c7
      replace H := Option.bind_eq_some_iff.mp H
      obtain ⟨t142003, A80, H⟩ := H
      replace H : (if t142003 = true then (some true) else (impl_independent.l0 k1 a1 l0_1 (l0_1.length : Int) (wrap64 (x10_1 + 1)))) = some r := H
      have A8 := aQ A80
      clear A80
      by_cases c9 : t142003 = true
      ·subst c9
       have H1 : (some true) = some r := by rw [if_pos rfl] at H; exact H
       clear H
       have H := H1
       clear H1
       obtain rfl := Option.some.inj H
       have p142002 : 0 ≤ (x10_1 : Int) := of_decide_eq_true as_
       have q142002 : x10_1 < (l0_1.length : Int) := of_decide_eq_true as_
       obtain ⟨ad142002, e142002, hx142002_0⟩ := Kd.at_int HR0_1.out x10_1 p142002 q142002
       cases e142002
       replace hx142002_0 := (HB.out.cell (World.block_lt_of_cell? w _ hx142002_0)).trans hx142002_0
       replace p142002 := eq_true p142002
       replace q142002 := eq_true q142002
       go_wp2_with (first | ((with_reducible refine gate_callee (f := 151) rfl ?_); refine goesL_ (some 16) rfl rfl Try.func151 (by kernel_rfl) rfl #[.int .i64 a1, .int .i64 (rd l0_1 x10_1)] rfl lm ?_; (with_reducible refine (impl_IsSubset.calls a1 (rd l0_1 x10_1) true _ A8.out).mono ?_); rintro e w' ⟨rfl, ⟨nd, rfl⟩⟩; refine ⟨_, rfl, ?_⟩))
       go_ret
       exact ⟨re_, pB1 HB.out GE142001.out⟩
      ·replace c9 := Bool.eq_false_iff.mpr c9
       subst c9
       have H1 : (impl_independent.l0 k1 a1 l0_1 (l0_1.length : Int) (wrap64 (x10_1 + 1))) = some r := by rw [if_neg (show ¬ (false = true) by decide)] at H; exact H
       clear H
       have H := H1
       clear H1
       have H' := aQ H
       clear H
       have p142002 : 0 ≤ (x10_1 : Int) := of_decide_eq_true as_
       have q142002 : x10_1 < (l0_1.length : Int) := of_decide_eq_true as_
       obtain ⟨ad142002, e142002, hx142002_0⟩ := Kd.at_int HR0_1.out x10_1 p142002 q142002
       cases e142002
       replace hx142002_0 := (HB.out.cell (World.block_lt_of_cell? w _ hx142002_0)).trans hx142002_0
       replace p142002 := eq_true p142002
       replace q142002 := eq_true q142002
       go_wp2_with (first | ((with_reducible refine gate_callee (f := 151) rfl ?_); refine goesL_ (some 16) rfl rfl Try.func151 (by kernel_rfl) rfl #[.int .i64 a1, .int .i64 (rd l0_1 x10_1)] rfl lm ?_; (with_reducible refine (impl_IsSubset.calls a1 (rd l0_1 x10_1) false _ A8.out).mono ?_); rintro e w' ⟨rfl, ⟨nd, rfl⟩⟩; refine ⟨_, rfl, ?_⟩))
       go_roundg k1
       case measure => have := HK1.out; omega
       case rel => exact ⟨(wrap64 (x10_1 + 1)), rs_, H', ⟨by have := HK1.out; omega⟩, ⟨pk BK142001.out⟩, ⟨pB1 HB.out GE142001.out⟩⟩
     ·rw [if_neg c7] at H
      exact absurd H (by simp)
    ·rw [if_neg c6] at H
     exact absurd H (by simp)
   ·rw [if_neg c5] at H
    have c5b0 : decide (x10_1 < (l0_1.length : Int)) = false := decide_eq_false c5
    clear c5
    obtain rfl := Option.some.inj H
    go_wp2
    go_ret
    exact ⟨re_, pB1 HB.out GE142001.out⟩
/-! ### impl_IsCommon: function 145 -/
def impl_IsCommon.f (k : Nat) (a0_0 : Int) (l0_1 : List Int) (a1_0 : Int) (l1_1 : List Int) (a2 : Int) : Option (Bool) := (impl_together.f k a0_0 l0_1 a1_0 l1_1).bind fun t146003 => (if t146003 = true then ((impl_independent.f k a0_0 l0_1 a2).bind fun t146004 => (if t146004 = true then ((impl_independent.f k a1_0 l1_1 a2).bind fun t146005 => (some t146005)) else (some false))) else (some false))
theorem impl_IsCommon.mono : ∀ a0 a1 a2 a3 a4 k, LeO (impl_IsCommon.f k a0 a1 a2 a3 a4) (impl_IsCommon.f (k + 1) a0 a1 a2 a3 a4) := by
 intro a0 a1 a2 a3 a4 k
 unfold impl_IsCommon.f
 repeat' first
   | (with_reducible exact impl_independent.mono _ _ _ _)
   | (with_reducible exact impl_together.mono _ _ _ _ _)
   | (with_reducible exact LeO.refl _)
   | (with_reducible exact LeO.none _)
   | (with_reducible refine LeO.ite ?_ ?_)
   | (with_reducible refine LeO.bind ?_ (fun _ => ?_))
   | exact impl_independent.mono _ _ _ _
   | exact impl_together.mono _ _ _ _ _
   | exact LeO.none _
   | refine LeO.ite ?_ ?_
   | refine LeO.bind ?_ (fun _ => ?_)
set_option maxHeartbeats 8000000 in
set_option maxRecDepth 100000 in
theorem impl_IsCommon.calls (k : Nat) (a0_0 : Int) (A0_1 : Option Addr) (c0_1 : Nat) (l0_1 : List Int) (a1_0 : Int) (A1_1 : Option Addr) (c1_1 : Nat) (l1_1 : List Int) (a2 : Int) (r : Bool) (w : World) (hr0_1 : Kd.C (Kd.int .i64) w A0_1 l0_1.length l0_1) (hc0_1 : l0_1.length ≤ c0_1) (hr1_1 : Kd.C (Kd.int .i64) w A1_1 l1_1.length l1_1) (hc1_1 : l1_1.length ≤ c1_1) (h : impl_IsCommon.f k a0_0 l0_1 a1_0 l1_1 a2 = some r) :
  Calls Try.prog 145 #[.agg #[.int .i64 a0_0, .slice A0_1 l0_1.length c0_1], .agg #[.int .i64 a1_0, .slice A1_1 l1_1.length c1_1], .int .i64 a2] w fun e w' => e = .returned (.bool r) ∧ Below w.heap.size w w' := by
 have hu28 := Try.underlying28
 have HR0_1 := aQ hr0_1
 have HC0_1 := aQ hc0_1
 clear hr0_1 hc0_1
 have HR1_1 := aQ hr1_1
 have HC1_1 := aQ hc1_1
 clear hr1_1 hc1_1
 have HB := aQ (Below.refl w.heap.size w)
 have H : ((impl_together.f k a0_0 l0_1 a1_0 l1_1).bind fun t146003 => (if t146003 = true then ((impl_independent.f k a0_0 l0_1 a2).bind fun t146004 => (if t146004 = true then ((impl_independent.f k a1_0 l1_1 a2).bind fun t146005 => (some t146005)) else (some false))) else (some false))) = some r := h
 clear h
 replace H := Option.bind_eq_some_iff.mp H
 obtain ⟨t146003, A40, H⟩ := H
 replace H : (if t146003 = true then ((impl_independent.f k a0_0 l0_1 a2).bind fun t146004 => (if t146004 = true then ((impl_independent.f k a1_0 l1_1 a2).bind fun t146005 => (some t146005)) else (some false))) else (some false)) = some r := H
 have A4 := aQ A40
 clear A40
 by_cases c5 : t146003 = true
 ·subst c5
  have H1 : ((impl_independent.f k a0_0 l0_1 a2).bind fun t146004 => (if t146004 = true then ((impl_independent.f k a1_0 l1_1 a2).bind fun t146005 => (some t146005)) else (some false))) = some r := by rw [if_pos rfl] at H; exact H
  clear H
  have H := H1
  clear H1
  replace H := Option.bind_eq_some_iff.mp H
  obtain ⟨t146004, A60, H⟩ := H
  replace H : (if t146004 = true then ((impl_independent.f k a1_0 l1_1 a2).bind fun t146005 => (some t146005)) else (some false)) = some r := H
  have A6 := aQ A60
  clear A60
  by_cases c7 : t146004 = true
  ·subst c7
   have H1 : ((impl_independent.f k a1_0 l1_1 a2).bind fun t146005 => (some t146005)) = some r := by rw [if_pos rfl] at H; exact H
   clear H
   have H := H1
   clear H1
   replace H := Option.bind_eq_some_iff.mp H
   obtain ⟨t146005, A80, H⟩ := H
   replace H : (some t146005) = some r := H
   have A8 := aQ A80
   clear A80
   obtain rfl := Option.some.inj H
   go_enter Try.func145, Try.ntmps145
   go_wp2_with (first | ((with_reducible refine gate_dst (N := 3) rfl ?_); refine box_event ?hg (N := 3) ?hd (cs := #[.int .i64 a0_0, .slice A0_1 l0_1.length c0_1]) (t := 28) ?hr ?_; (case hd => rfl); (case hg => rfl); (case hr => first | (go_simp; done) | (go_simp; rfl)); intro gb146001 hg w9 hbox hb; have BK146001 := aQ (hbox); have GW146001 := aQ ((by rw [hg]; exact (below_size (pB HB.out)) : w.heap.size ≤ gb146001)); have GE146001 := aQ ((by rw [hg]; exact (below_size (pB HB.out)) : w.heap.size ≤ gb146001)); replace HB := aQ (below_step (pB HB.out) hb); clear hb hbox hg) | ((with_reducible refine gate_dst (N := 4) rfl ?_); refine box_event ?hg (N := 4) ?hd (cs := #[.int .i64 a1_0, .slice A1_1 l1_1.length c1_1]) (t := 28) ?hr ?_; (case hd => rfl); (case hg => rfl); (case hr => first | (go_simp; done) | (go_simp; rfl)); intro gb146002 hg w10 hbox hb; have BK146002 := aQ (hbox); have GW146002 := aQ ((by rw [hg]; exact (below_size (pB1 HB.out GE146001.out)) : w.heap.size ≤ gb146002)); have GE146002 := aQ ((by rw [hg]; exact (below_size (pB1 HB.out GE146001.out)) : w.heap.size ≤ gb146002)); replace HB := aQ (below_step (pB1 HB.out GE146001.out) hb); have NB146001_146002 := aQ ((by rw [hg]; exact Nat.ne_of_lt (blk_lt (g := gb146001) (o := .cells #[.int .i64 a0_0, .slice A0_1 l0_1.length c0_1] 28 (0, 0)) (pk BK146001.out)) : gb146001 ≠ gb146002)); have NB146002_146001 := aQ ((by rw [hg]; exact Nat.ne_of_gt (blk_lt (g := gb146001) (o := .cells #[.int .i64 a0_0, .slice A0_1 l0_1.length c0_1] 28 (0, 0)) (pk BK146001.out)) : gb146002 ≠ gb146001)); replace BK146001 := aQ (blk_below (g := gb146001) (o := .cells #[.int .i64 a0_0, .slice A0_1 l0_1.length c0_1] 28 (0, 0)) (pk BK146001.out) hb); clear hb hbox hg; have hnb11 := NB146001_146002.out; have hnc11 := NB146002_146001.out; have hcz12_0 := bc (v := (.int .i64 a0_0)) BK146001.out 0; have hcz12_1 := bc (v := (.slice A0_1 l0_1.length c0_1)) BK146001.out 1; have hfz12_0 := blk_frozen BK146001.out 0; have hfz12_1 := blk_frozen BK146001.out 1; have hcz13_0 := bc (v := (.int .i64 a1_0)) BK146002.out 0; have hcz13_1 := bc (v := (.slice A1_1 l1_1.length c1_1)) BK146002.out 1; have hfz13_0 := blk_frozen BK146002.out 0; have hfz13_1 := blk_frozen BK146002.out 1) | ((with_reducible refine gate_callee (f := 118) rfl ?_); refine goesL_ (some 9) rfl rfl Try.func118 (by kernel_rfl) rfl #[.agg #[.int .i64 a0_0, .slice A0_1 l0_1.length c0_1], .agg #[.int .i64 a1_0, .slice A1_1 l1_1.length c1_1]] rfl lm ?_; (with_reducible refine (impl_together.calls k a0_0 _ _ l0_1 a1_0 _ _ l1_1 true _ ?side1 ?side2 ?side3 ?side4 A4.out).mono ?_); (case side1 => exact pC (Kd.C_below HR0_1.out HB.out)); (case side2 => exact HC0_1.out); (case side3 => exact pC (Kd.C_below HR1_1.out HB.out)); (case side4 => exact HC1_1.out); rintro e w14 ⟨rfl, hb⟩; refine ⟨_, rfl, ?_⟩; replace BK146001 := aQ (blk_below (g := gb146001) (o := .cells #[.int .i64 a0_0, .slice A0_1 l0_1.length c0_1] 28 (0, 0)) (pk BK146001.out) hb); replace BK146002 := aQ (blk_below (g := gb146002) (o := .cells #[.int .i64 a1_0, .slice A1_1 l1_1.length c1_1] 28 (0, 0)) (pk BK146002.out) hb); replace HB := aQ (below_step (pB2 HB.out GE146001.out GE146002.out) hb); (try clear hb); have hcz15_0 := bc (v := (.int .i64 a0_0)) BK146001.out 0; have hcz15_1 := bc (v := (.slice A0_1 l0_1.length c0_1)) BK146001.out 1; have hfz15_0 := blk_frozen BK146001.out 0; have hfz15_1 := blk_frozen BK146001.out 1) | (go_at_call 141; (with_reducible refine (impl_independent.calls k a0_0 _ _ l0_1 a2 true _ ?side1 ?side2 A6.out).mono ?_); (case side1 => exact pC (Kd.C_below HR0_1.out HB.out)); (case side2 => exact HC0_1.out); rintro e w16 ⟨rfl, hb⟩; replace BK146001 := aQ (blk_below (g := gb146001) (o := .cells #[.int .i64 a0_0, .slice A0_1 l0_1.length c0_1] 28 (0, 0)) (pk BK146001.out) hb); replace BK146002 := aQ (blk_below (g := gb146002) (o := .cells #[.int .i64 a1_0, .slice A1_1 l1_1.length c1_1] 28 (0, 0)) (pk BK146002.out) hb); replace HB := aQ (below_step (pB2 HB.out GE146001.out GE146002.out) hb); (try clear hb); have hcz17_0 := bc (v := (.int .i64 a1_0)) BK146002.out 0; have hcz17_1 := bc (v := (.slice A1_1 l1_1.length c1_1)) BK146002.out 1; have hfz17_0 := blk_frozen BK146002.out 0; have hfz17_1 := blk_frozen BK146002.out 1) | (go_at_call 141; (with_reducible refine (impl_independent.calls k a1_0 _ _ l1_1 a2 t146005 _ ?side1 ?side2 A8.out).mono ?_); (case side1 => exact pC (Kd.C_below HR1_1.out HB.out)); (case side2 => exact HC1_1.out); rintro e w18 ⟨rfl, hb⟩; replace BK146001 := aQ (blk_below (g := gb146001) (o := .cells #[.int .i64 a0_0, .slice A0_1 l0_1.length c0_1] 28 (0, 0)) (pk BK146001.out) hb); replace BK146002 := aQ (blk_below (g := gb146002) (o := .cells #[.int .i64 a1_0, .slice A1_1 l1_1.length c1_1] 28 (0, 0)) (pk BK146002.out) hb); replace HB := aQ (below_step (pB2 HB.out GE146001.out GE146002.out) hb); (try clear hb)))
   go_ret
   exact ⟨re_, pB2 HB.out GE146001.out GE146002.out⟩
  ·replace c7 := Bool.eq_false_iff.mpr c7
   subst c7
   have H1 : (some false) = some r := by rw [if_neg (show ¬ (false = true) by decide)] at H; exact H
   clear H
   have H := H1
   clear H1
   obtain rfl := Option.some.inj H
   go_enter Try.func145, Try.ntmps145
   go_wp2_with (first | ((with_reducible refine gate_dst (N := 3) rfl ?_); refine box_event ?hg (N := 3) ?hd (cs := #[.int .i64 a0_0, .slice A0_1 l0_1.length c0_1]) (t := 28) ?hr ?_; (case hd => rfl); (case hg => rfl); (case hr => first | (go_simp; done) | (go_simp; rfl)); intro gb146001 hg w19 hbox hb; have BK146001 := aQ (hbox); have GW146001 := aQ ((by rw [hg]; exact (below_size (pB HB.out)) : w.heap.size ≤ gb146001)); have GE146001 := aQ ((by rw [hg]; exact (below_size (pB HB.out)) : w.heap.size ≤ gb146001)); replace HB := aQ (below_step (pB HB.out) hb); clear hb hbox hg) | ((with_reducible refine gate_dst (N := 4) rfl ?_); refine box_event ?hg (N := 4) ?hd (cs := #[.int .i64 a1_0, .slice A1_1 l1_1.length c1_1]) (t := 28) ?hr ?_; (case hd => rfl); (case hg => rfl); (case hr => first | (go_simp; done) | (go_simp; rfl)); intro gb146002 hg w20 hbox hb; have BK146002 := aQ (hbox); have GW146002 := aQ ((by rw [hg]; exact (below_size (pB1 HB.out GE146001.out)) : w.heap.size ≤ gb146002)); have GE146002 := aQ ((by rw [hg]; exact (below_size (pB1 HB.out GE146001.out)) : w.heap.size ≤ gb146002)); replace HB := aQ (below_step (pB1 HB.out GE146001.out) hb); have NB146001_146002 := aQ ((by rw [hg]; exact Nat.ne_of_lt (blk_lt (g := gb146001) (o := .cells #[.int .i64 a0_0, .slice A0_1 l0_1.length c0_1] 28 (0, 0)) (pk BK146001.out)) : gb146001 ≠ gb146002)); have NB146002_146001 := aQ ((by rw [hg]; exact Nat.ne_of_gt (blk_lt (g := gb146001) (o := .cells #[.int .i64 a0_0, .slice A0_1 l0_1.length c0_1] 28 (0, 0)) (pk BK146001.out)) : gb146002 ≠ gb146001)); replace BK146001 := aQ (blk_below (g := gb146001) (o := .cells #[.int .i64 a0_0, .slice A0_1 l0_1.length c0_1] 28 (0, 0)) (pk BK146001.out) hb); clear hb hbox hg; have hnb21 := NB146001_146002.out; have hnc21 := NB146002_146001.out; have hcz22_0 := bc (v := (.int .i64 a0_0)) BK146001.out 0; have hcz22_1 := bc (v := (.slice A0_1 l0_1.length c0_1)) BK146001.out 1; have hfz22_0 := blk_frozen BK146001.out 0; have hfz22_1 := blk_frozen BK146001.out 1; have hcz23_0 := bc (v := (.int .i64 a1_0)) BK146002.out 0; have hcz23_1 := bc (v := (.slice A1_1 l1_1.length c1_1)) BK146002.out 1; have hfz23_0 := blk_frozen BK146002.out 0; have hfz23_1 := blk_frozen BK146002.out 1) | ((with_reducible refine gate_callee (f := 118) rfl ?_); refine goesL_ (some 9) rfl rfl Try.func118 (by kernel_rfl) rfl #[.agg #[.int .i64 a0_0, .slice A0_1 l0_1.length c0_1], .agg #[.int .i64 a1_0, .slice A1_1 l1_1.length c1_1]] rfl lm ?_; (with_reducible refine (impl_together.calls k a0_0 _ _ l0_1 a1_0 _ _ l1_1 true _ ?side1 ?side2 ?side3 ?side4 A4.out).mono ?_); (case side1 => exact pC (Kd.C_below HR0_1.out HB.out)); (case side2 => exact HC0_1.out); (case side3 => exact pC (Kd.C_below HR1_1.out HB.out)); (case side4 => exact HC1_1.out); rintro e w24 ⟨rfl, hb⟩; refine ⟨_, rfl, ?_⟩; replace BK146001 := aQ (blk_below (g := gb146001) (o := .cells #[.int .i64 a0_0, .slice A0_1 l0_1.length c0_1] 28 (0, 0)) (pk BK146001.out) hb); replace BK146002 := aQ (blk_below (g := gb146002) (o := .cells #[.int .i64 a1_0, .slice A1_1 l1_1.length c1_1] 28 (0, 0)) (pk BK146002.out) hb); replace HB := aQ (below_step (pB2 HB.out GE146001.out GE146002.out) hb); (try clear hb); have hcz25_0 := bc (v := (.int .i64 a0_0)) BK146001.out 0; have hcz25_1 := bc (v := (.slice A0_1 l0_1.length c0_1)) BK146001.out 1; have hfz25_0 := blk_frozen BK146001.out 0; have hfz25_1 := blk_frozen BK146001.out 1) | (go_at_call 141; (with_reducible refine (impl_independent.calls k a0_0 _ _ l0_1 a2 false _ ?side1 ?side2 A6.out).mono ?_); (case side1 => exact pC (Kd.C_below HR0_1.out HB.out)); (case side2 => exact HC0_1.out); rintro e w26 ⟨rfl, hb⟩; replace BK146001 := aQ (blk_below (g := gb146001) (o := .cells #[.int .i64 a0_0, .slice A0_1 l0_1.length c0_1] 28 (0, 0)) (pk BK146001.out) hb); replace BK146002 := aQ (blk_below (g := gb146002) (o := .cells #[.int .i64 a1_0, .slice A1_1 l1_1.length c1_1] 28 (0, 0)) (pk BK146002.out) hb); replace HB := aQ (below_step (pB2 HB.out GE146001.out GE146002.out) hb); (try clear hb)))
   go_ret
   exact ⟨re_, pB2 HB.out GE146001.out GE146002.out⟩
 ·replace c5 := Bool.eq_false_iff.mpr c5
  subst c5
  have H1 : (some false) = some r := by rw [if_neg (show ¬ (false = true) by decide)] at H; exact H
  clear H
  have H := H1
  clear H1
  obtain rfl := Option.some.inj H
  go_enter Try.func145, Try.ntmps145
  go_wp2_with (first | ((with_reducible refine gate_dst (N := 3) rfl ?_); refine box_event ?hg (N := 3) ?hd (cs := #[.int .i64 a0_0, .slice A0_1 l0_1.length c0_1]) (t := 28) ?hr ?_; (case hd => rfl); (case hg => rfl); (case hr => first | (go_simp; done) | (go_simp; rfl)); intro gb146001 hg w27 hbox hb; have BK146001 := aQ (hbox); have GW146001 := aQ ((by rw [hg]; exact (below_size (pB HB.out)) : w.heap.size ≤ gb146001)); have GE146001 := aQ ((by rw [hg]; exact (below_size (pB HB.out)) : w.heap.size ≤ gb146001)); replace HB := aQ (below_step (pB HB.out) hb); clear hb hbox hg) | ((with_reducible refine gate_dst (N := 4) rfl ?_); refine box_event ?hg (N := 4) ?hd (cs := #[.int .i64 a1_0, .slice A1_1 l1_1.length c1_1]) (t := 28) ?hr ?_; (case hd => rfl); (case hg => rfl); (case hr => first | (go_simp; done) | (go_simp; rfl)); intro gb146002 hg w28 hbox hb; have BK146002 := aQ (hbox); have GW146002 := aQ ((by rw [hg]; exact (below_size (pB1 HB.out GE146001.out)) : w.heap.size ≤ gb146002)); have GE146002 := aQ ((by rw [hg]; exact (below_size (pB1 HB.out GE146001.out)) : w.heap.size ≤ gb146002)); replace HB := aQ (below_step (pB1 HB.out GE146001.out) hb); have NB146001_146002 := aQ ((by rw [hg]; exact Nat.ne_of_lt (blk_lt (g := gb146001) (o := .cells #[.int .i64 a0_0, .slice A0_1 l0_1.length c0_1] 28 (0, 0)) (pk BK146001.out)) : gb146001 ≠ gb146002)); have NB146002_146001 := aQ ((by rw [hg]; exact Nat.ne_of_gt (blk_lt (g := gb146001) (o := .cells #[.int .i64 a0_0, .slice A0_1 l0_1.length c0_1] 28 (0, 0)) (pk BK146001.out)) : gb146002 ≠ gb146001)); replace BK146001 := aQ (blk_below (g := gb146001) (o := .cells #[.int .i64 a0_0, .slice A0_1 l0_1.length c0_1] 28 (0, 0)) (pk BK146001.out) hb); clear hb hbox hg; have hnb29 := NB146001_146002.out; have hnc29 := NB146002_146001.out; have hcz30_0 := bc (v := (.int .i64 a0_0)) BK146001.out 0; have hcz30_1 := bc (v := (.slice A0_1 l0_1.length c0_1)) BK146001.out 1; have hfz30_0 := blk_frozen BK146001.out 0; have hfz30_1 := blk_frozen BK146001.out 1; have hcz31_0 := bc (v := (.int .i64 a1_0)) BK146002.out 0; have hcz31_1 := bc (v := (.slice A1_1 l1_1.length c1_1)) BK146002.out 1; have hfz31_0 := blk_frozen BK146002.out 0; have hfz31_1 := blk_frozen BK146002.out 1) | ((with_reducible refine gate_callee (f := 118) rfl ?_); refine goesL_ (some 9) rfl rfl Try.func118 (by kernel_rfl) rfl #[.agg #[.int .i64 a0_0, .slice A0_1 l0_1.length c0_1], .agg #[.int .i64 a1_0, .slice A1_1 l1_1.length c1_1]] rfl lm ?_; (with_reducible refine (impl_together.calls k a0_0 _ _ l0_1 a1_0 _ _ l1_1 false _ ?side1 ?side2 ?side3 ?side4 A4.out).mono ?_); (case side1 => exact pC (Kd.C_below HR0_1.out HB.out)); (case side2 => exact HC0_1.out); (case side3 => exact pC (Kd.C_below HR1_1.out HB.out)); (case side4 => exact HC1_1.out); rintro e w32 ⟨rfl, hb⟩; refine ⟨_, rfl, ?_⟩; replace BK146001 := aQ (blk_below (g := gb146001) (o := .cells #[.int .i64 a0_0, .slice A0_1 l0_1.length c0_1] 28 (0, 0)) (pk BK146001.out) hb); replace BK146002 := aQ (blk_below (g := gb146002) (o := .cells #[.int .i64 a1_0, .slice A1_1 l1_1.length c1_1] 28 (0, 0)) (pk BK146002.out) hb); replace HB := aQ (below_step (pB2 HB.out GE146001.out GE146002.out) hb); (try clear hb)))
  go_ret
  exact ⟨re_, pB2 HB.out GE146001.out GE146002.out⟩
end Go.Proofs.Ytinoamehdhgpgaa.A
namespace Go.Proofs.Ytinoamehdhgpgaa.A
open Go.RowKit Go.Proofs.YtinoamehdhgpgaaW.PrintWords Go.Proofs.YtinoamehdhgpgaaW.PrintLast Go.Proofs.YtinoamehdhgpgaaW.PrintMore Go.Proofs.Ytinoamehdhgpgaa.Z
attribute [local go_sem] max2_int min2_int max_two min_two max_three min_three max_four min_four   -- for this text's walks alone
set_option linter.unusedVariables false
set_option linter.unusedSimpArgs false

/-! ### impl_IndependentSets: function 160 (by hand) -/
def impl_IndependentSets.c (k : Nat) (n : Int) (l : List Int) (s : Int) : Option Bool := (impl_independent.f k n l s).bind fun t => some (t)
theorem impl_IndependentSets.c_mono (n : Int) (l : List Int) (s : Int) (k : Nat) : LeO (impl_IndependentSets.c k n l s) (impl_IndependentSets.c (k + 1) n l s) := by
 unfold impl_IndependentSets.c
 exact LeO.bind (impl_independent.mono _ _ _ _) (fun _ => LeO.refl _)
set_option maxHeartbeats 4000000 in
set_option maxRecDepth 100000 in
theorem IndependentSets1_walk (k : Nat) (n : Int) (A : Option Addr) (c : Nat) (l : List Int) (s : Int) (b : Bool) (gm : Nat) (w : World)
  (hr : Kd.C (Kd.int .i64) w A l.length l) (hc : l.length ≤ c)
  (hm : w.heap[gm]? = some (.cells #[.int .i64 n, .slice A l.length c] 28 (0, 0))) (h : impl_IndependentSets.c k n l s = some b) :
  Calls Try.prog 234 #[.int .i64 s, .pointer (some ⟨gm, 0, none⟩)] w fun e w' => e = .returned (.bool b) ∧ Below w.heap.size w w' := by
 unfold impl_IndependentSets.c at h
 obtain ⟨t, hT, h⟩ := Option.bind_eq_some_iff.1 h
 simp only [Option.some.injEq] at h
 subst h
 have hu := Try.underlying28
 have hcm0 : w.cell? ⟨gm, 0, none⟩ = some (.int .i64 n) := (blk_cell hm 0).trans rfl
 have hcm1 : w.cell? ⟨gm, 1, none⟩ = some (.slice A l.length c) := (blk_cell hm 1).trans rfl
 have HT := Lib.hid hT
 have HR := Lib.hid hr
 have HC := Lib.hid hc
 clear hm hr hc hT
 go_enter Try.func234, Try.ntmps234
 go_wp2_with (first | (go_at_call 141; (with_reducible refine (impl_independent.calls k n _ _ l s t _ ?side1 ?side2 HT.out).mono ?_); (case side1 => exact HR.out); (case side2 => exact HC.out); rintro e w1_ ⟨rfl, hb⟩; have HB := aQ hb; clear hb))
 go_ret
 exact ⟨rs_, HB.out⟩
def impl_IndependentSets.f (k : Nat) (a0_0 : Int) (l0_1 : List Int) : Option (List Int) := (impl_IsMatroid.f k a0_0 l0_1).bind fun t => if t = true then ((impl_FullSet.f a0_0).bind fun m => if 0 ≤ m ∧ m ≤ 1000 then setsO (fun s => impl_IndependentSets.c k a0_0 l0_1 s) m else none) else some []
theorem impl_IndependentSets.mono : ∀ a0 a1 k, LeO (impl_IndependentSets.f k a0 a1) (impl_IndependentSets.f (k + 1) a0 a1) := by
 intro a0 a1 k
 unfold impl_IndependentSets.f
 exact LeO.bind (impl_IsMatroid.mono _ _ _) (fun t => LeO.ite (LeO.bind (LeO.refl _) (fun m => LeO.ite (LeO_setsO (fun s => impl_IndependentSets.c_mono a0 a1 s k) m) (LeO.none _))) (LeO.refl _))
set_option maxHeartbeats 4000000 in
set_option maxRecDepth 100000 in
theorem impl_IndependentSets.calls (k : Nat) (a0_0 : Int) (A0_1 : Option Addr) (c0_1 : Nat) (l0_1 : List Int) (r : List Int) (w : World) (hr0_1 : Kd.C (Kd.int .i64) w A0_1 l0_1.length l0_1) (hc0_1 : l0_1.length ≤ c0_1) (h : impl_IndependentSets.f k a0_0 l0_1 = some r) :
  Calls Try.prog 160 #[.agg #[.int .i64 a0_0, .slice A0_1 l0_1.length c0_1]] w fun e w' => ∃ v0_ : Value, e = .returned (v0_) ∧ Kd.R (Kd.int .i64) 3 w' w.heap.size (fun _ => True) v0_ r ∧ Below w.heap.size w w' := by
 have hu := Try.underlying28
 have HR := aQ hr0_1
 have HC := aQ hc0_1
 have HB := aQ (Below.refl w.heap.size w)
 clear hr0_1 hc0_1
 have EG := aQ (show ∀ args w, (callFunc 234 args).run Try.prog w = .ok (.enter 234 args) w from runs_of Try.func234 (by kernel_rfl) rfl)
 unfold impl_IndependentSets.f at h
 obtain ⟨t, hT, h⟩ := Option.bind_eq_some_iff.1 h
 have HT := aQ hT
 clear hT
 by_cases c3 : t = true
 ·subst c3
  rw [if_pos rfl] at h
  obtain ⟨m, hF, h⟩ := Option.bind_eq_some_iff.1 h
  by_cases hm : 0 ≤ m ∧ m ≤ 1000
  ·rw [if_pos hm] at h
   have HF := aQ hF
   have HM := aQ hm
   have HS := Lib.hid h
   clear hF hm h
   go_enter Try.func160, Try.ntmps160
   go_wp2_with (first | ((with_reducible refine gate_dst (N := 1) rfl ?_); refine box_event ?hg (N := 1) ?hd (cs := #[.int .i64 a0_0, .slice A0_1 l0_1.length c0_1]) (t := 28) ?hr ?_; (case hd => rfl); (case hg => rfl); (case hr => first | (go_simp; done) | (go_simp; rfl)); intro gm hg w1_ hbox hb; have n_HB := aQ (below_step (pB HB.out) hb); have n_GBM := aQ ((by rw [hg]; exact below_size (pB HB.out)) : w.heap.size ≤ gm); clear HB; have HB := n_HB; have GBM := n_GBM; have BM := aQ hbox; clear n_HB n_GBM; clear hb hbox hg; have zBM0 : w1_.cell? ⟨gm, 0, none⟩ = some (.int .i64 a0_0) := (blk_cell BM.out 0).trans rfl; have zBM1 : w1_.cell? ⟨gm, 1, none⟩ = some (.slice A0_1 l0_1.length c0_1) := (blk_cell BM.out 1).trans rfl) | (go_at_call 132; (with_reducible refine (impl_IsMatroid.calls k a0_0 _ _ l0_1 true _ ?side1 ?side2 HT.out).mono ?_); (case side1 => repeat (first | exact HR.out | exact (Kd.C_below HR.out HB.out) | (with_reducible refine Kd.C_alloc ?_ _) | (with_reducible refine Kd.C_drewN ?_ _) | (with_reducible refine Kd.C_drew ?_))); (case side2 => exact HC.out); rintro e w9_ ⟨rfl, hb⟩; have n_BM := aQ (blk_below (g := gm) (o := .cells #[.int .i64 a0_0, .slice A0_1 l0_1.length c0_1] 28 (0, 0)) (pk BM.out) hb); have n_HB := aQ (below_step (pB HB.out) hb); clear HB; clear BM; have BM := n_BM; clear n_BM; have HB := n_HB; clear n_HB hb; have zBM0 : w9_.cell? ⟨gm, 0, none⟩ = some (.int .i64 a0_0) := (blk_cell BM.out 0).trans rfl; have zBM1 : w9_.cell? ⟨gm, 1, none⟩ = some (.slice A0_1 l0_1.length c0_1) := (blk_cell BM.out 1).trans rfl))
   refine (setsOf_walk (fun s => impl_IndependentSets.c k a0_0 l0_1 s) 234 _ EG.out a0_0 m r _ HF.out HM.out.1 HM.out.2 HS.out (fun W x b hb hg => calls_of_args (by simp) (IndependentSets1_walk k a0_0 A0_1 c0_1 l0_1 x b gm W (Kd.C_below (Kd.C_below HR.out HB.out) hb) HC.out (blk_below BM.out hb) hg))).mono ?_
   rintro e w9_ ⟨v_, rfl, ho_, hb⟩
   have HO := aQ (Kd.R_lower ho_ (below_size (pB HB.out)))
   have n_HB := aQ (below_step (pB HB.out) hb)
   clear HB ho_ hb
   have HB := n_HB
   clear n_HB
   obtain ⟨AO, cO, eO⟩ := Kd.R_slice HO.out
   subst eO
   go_wp2
   go_ret
   exact ⟨_, rs_, by (with_reducible repeat (first | apply Kd.R_alloc | apply Kd.R_drewN | apply Kd.R_drew)); exact HO.out, (pB HB.out)⟩
  ·rw [if_neg hm] at h; cases h
 ·have c4 := Bool.eq_false_iff.mpr c3
  subst c4
  clear c3
  rw [if_neg (by decide)] at h
  simp only [Option.some.injEq] at h
  subst h
  go_enter Try.func160, Try.ntmps160
  go_wp2_with (first | ((with_reducible refine gate_dst (N := 1) rfl ?_); refine box_event ?hg (N := 1) ?hd (cs := #[.int .i64 a0_0, .slice A0_1 l0_1.length c0_1]) (t := 28) ?hr ?_; (case hd => rfl); (case hg => rfl); (case hr => first | (go_simp; done) | (go_simp; rfl)); intro gm hg w1_ hbox hb; have n_HB := aQ (below_step (pB HB.out) hb); have n_GBM := aQ ((by rw [hg]; exact below_size (pB HB.out)) : w.heap.size ≤ gm); clear HB; have HB := n_HB; have GBM := n_GBM; have BM := aQ hbox; clear n_HB n_GBM; clear hb hbox hg; have zBM0 : w1_.cell? ⟨gm, 0, none⟩ = some (.int .i64 a0_0) := (blk_cell BM.out 0).trans rfl; have zBM1 : w1_.cell? ⟨gm, 1, none⟩ = some (.slice A0_1 l0_1.length c0_1) := (blk_cell BM.out 1).trans rfl) | (go_at_call 132; (with_reducible refine (impl_IsMatroid.calls k a0_0 _ _ l0_1 false _ ?side1 ?side2 HT.out).mono ?_); (case side1 => repeat (first | exact HR.out | exact (Kd.C_below HR.out HB.out) | (with_reducible refine Kd.C_alloc ?_ _) | (with_reducible refine Kd.C_drewN ?_ _) | (with_reducible refine Kd.C_drew ?_))); (case side2 => exact HC.out); rintro e w9_ ⟨rfl, hb⟩; have n_BM := aQ (blk_below (g := gm) (o := .cells #[.int .i64 a0_0, .slice A0_1 l0_1.length c0_1] 28 (0, 0)) (pk BM.out) hb); have n_HB := aQ (below_step (pB HB.out) hb); clear HB; clear BM; have BM := n_BM; clear n_BM; have HB := n_HB; clear n_HB hb; have zBM0 : w9_.cell? ⟨gm, 0, none⟩ = some (.int .i64 a0_0) := (blk_cell BM.out 0).trans rfl; have zBM1 : w9_.cell? ⟨gm, 1, none⟩ = some (.slice A0_1 l0_1.length c0_1) := (blk_cell BM.out 1).trans rfl))
  go_ret
  exact ⟨_, rs_, Kd.R_nil _ _ _ _ _, (pB HB.out)⟩
end Go.Proofs.Ytinoamehdhgpgaa.A
