/- Machine side of the law FnExactBestWeights: Go functions as Lean functions, and proofs that calls come to what these tell. Conditions: those in each theorem. -/
import Derived.Test.YtagncnjllpebjaaMFnExactBestWeights0
import Derived.Test.YtagncnjllpebjaaMFnExactBestWeights1
import Derived.Test.YtagncnjllpebjaaMFnExactBestWeights2
namespace Go.Proofs.Ytagncnjllpebjaa.A
open Go.RowKit Go.Proofs.YtagncnjllpebjaaW.PrintWords Go.Proofs.YtagncnjllpebjaaW.PrintLast Go.Proofs.YtagncnjllpebjaaW.PrintMore
attribute [local go_sem] max2_int min2_int max_two min_two max_three min_three max_four min_four
set_option linter.unusedVariables false
set_option linter.unusedSimpArgs false
/-! ### spec_l20Free: function 69 -/
def spec_l20Free.f (k : Nat) (a0_0 : Int) (l0_1 : List Int) (a1 : Int) : Option (Bool) := (spec_l5Rank.f k a0_0 l0_1 a1).bind fun t70002 => ((spec_CountOf.f k a1).bind fun t70003 => (some (t70002 == t70003)))
theorem spec_l20Free.mono : ∀ a0 a1 a2 k, LeO (spec_l20Free.f k a0 a1 a2) (spec_l20Free.f (k + 1) a0 a1 a2) := by
 intro a0 a1 a2 k
 unfold spec_l20Free.f
 repeat' first
   | (with_reducible exact spec_CountOf.mono _ _)
   | (with_reducible exact spec_l5Rank.mono _ _ _ _)
   | (with_reducible exact LeO.refl _)
   | (with_reducible exact LeO.none _)
   | (with_reducible refine LeO.ite ?_ ?_)
   | (with_reducible refine LeO.bind ?_ (fun _ => ?_))
   | exact spec_CountOf.mono _ _
   | exact spec_l5Rank.mono _ _ _ _
   | exact LeO.none _
   | refine LeO.ite ?_ ?_
   | refine LeO.bind ?_ (fun _ => ?_)
set_option maxHeartbeats 8000000 in
set_option maxRecDepth 100000 in
theorem spec_l20Free.calls (k : Nat) (a0_0 : Int) (A0_1 : Option Addr) (c0_1 : Nat) (l0_1 : List Int) (a1 : Int) (r : Bool) (w : World) (hr0_1 : Kd.C (Kd.int .i64) w A0_1 l0_1.length l0_1) (hc0_1 : l0_1.length ≤ c0_1) (h : spec_l20Free.f k a0_0 l0_1 a1 = some r) :
  Calls Try.prog 69 #[.agg #[.int .i64 a0_0, .slice A0_1 l0_1.length c0_1], .int .i64 a1] w fun e w' => e = .returned (.bool r) ∧ Below w.heap.size w w' := by
 have hu26 := Try.underlying26
 have HR0_1 := aQ hr0_1
 have HC0_1 := aQ hc0_1
 clear hr0_1 hc0_1
 have HB := aQ (Below.refl w.heap.size w)
 have H : ((spec_l5Rank.f k a0_0 l0_1 a1).bind fun t70002 => ((spec_CountOf.f k a1).bind fun t70003 => (some (t70002 == t70003)))) = some r := h
 clear h
 replace H := Option.bind_eq_some_iff.mp H
 obtain ⟨t70002, A30, H⟩ := H
 replace H : ((spec_CountOf.f k a1).bind fun t70003 => (some (t70002 == t70003))) = some r := H
 have A3 := aQ A30
 clear A30
 replace H := Option.bind_eq_some_iff.mp H
 obtain ⟨t70003, A40, H⟩ := H
 replace H : (some (t70002 == t70003)) = some r := H
 have A4 := aQ A40
 clear A40
 obtain rfl := Option.some.inj H
 go_enter Try.func69, Try.ntmps69
 go_wp2_with (first | ((with_reducible refine gate_dst (N := 2) rfl ?_); refine box_event ?hg (N := 2) ?hd (cs := #[.int .i64 a0_0, .slice A0_1 l0_1.length c0_1]) (t := 26) ?hr ?_; (case hd => rfl); (case hg => rfl); (case hr => first | (go_simp; done) | (go_simp; rfl)); intro gb70001 hg w5 hbox hb; have BK70001 := aQ (hbox); have GW70001 := aQ ((by rw [hg]; exact (below_size (pB HB.out)) : w.heap.size ≤ gb70001)); have GE70001 := aQ ((by rw [hg]; exact (below_size (pB HB.out)) : w.heap.size ≤ gb70001)); replace HB := aQ (below_step (pB HB.out) hb); clear hb hbox hg; have hcz6_0 := bc (v := (.int .i64 a0_0)) BK70001.out 0; have hcz6_1 := bc (v := (.slice A0_1 l0_1.length c0_1)) BK70001.out 1; have hfz6_0 := blk_frozen BK70001.out 0; have hfz6_1 := blk_frozen BK70001.out 1) | ((with_reducible refine gate_callee (f := 59) rfl ?_); refine goesL_ (some 7) rfl rfl Try.func59 (by kernel_rfl) rfl #[.agg #[.int .i64 a0_0, .slice A0_1 l0_1.length c0_1], .int .i64 a1] rfl lm ?_; (with_reducible refine (spec_l5Rank.calls k a0_0 _ _ l0_1 a1 t70002 _ ?side1 ?side2 A3.out).mono ?_); (case side1 => exact pC (Kd.C_below HR0_1.out HB.out)); (case side2 => exact HC0_1.out); rintro e w7 ⟨rfl, hb⟩; refine ⟨_, rfl, ?_⟩; replace BK70001 := aQ (blk_below (g := gb70001) (o := .cells #[.int .i64 a0_0, .slice A0_1 l0_1.length c0_1] 26 (0, 0)) (pk BK70001.out) hb); replace HB := aQ (below_step (pB1 HB.out GE70001.out) hb); (try clear hb)) | ((with_reducible refine gate_callee (f := 58) rfl ?_); refine goesL_ (some 9) rfl rfl Try.func58 (by kernel_rfl) rfl #[.int .i64 a1] rfl lm ?_; (with_reducible refine (spec_CountOf.calls k a1 t70003 _ A4.out).mono ?_); rintro e w' ⟨rfl, ⟨nd, rfl⟩⟩; refine ⟨_, rfl, ?_⟩))
 go_ret
 exact ⟨re_, pB1 HB.out GE70001.out⟩
/-! ### spec_IsCommon: function 66 -/
def spec_IsCommon.f (k : Nat) (a0_0 : Int) (l0_1 : List Int) (a1_0 : Int) (l1_1 : List Int) (a2 : Int) : Option (Bool) := (spec_IsMatroid.f k a0_0 l0_1).bind fun t67003 => (if t67003 = true then ((spec_IsMatroid.f k a1_0 l1_1).bind fun t67004 => (if t67004 = true then (if a0_0 = a1_0 then ((spec_IsSet.f a0_0 a2).bind fun t67005 => (if t67005 = true then ((spec_l20Free.f k a0_0 l0_1 a2).bind fun t67006 => (if t67006 = true then ((spec_l20Free.f k a1_0 l1_1 a2).bind fun t67007 => (some t67007)) else (some false))) else (some false))) else (some false)) else (some false))) else (some false))
theorem spec_IsCommon.mono : ∀ a0 a1 a2 a3 a4 k, LeO (spec_IsCommon.f k a0 a1 a2 a3 a4) (spec_IsCommon.f (k + 1) a0 a1 a2 a3 a4) := by
 intro a0 a1 a2 a3 a4 k
 unfold spec_IsCommon.f
 repeat' first
   | (with_reducible exact spec_IsMatroid.mono _ _ _)
   | (with_reducible exact spec_l20Free.mono _ _ _ _)
   | (with_reducible exact LeO.refl _)
   | (with_reducible exact LeO.none _)
   | (with_reducible refine LeO.ite ?_ ?_)
   | (with_reducible refine LeO.bind ?_ (fun _ => ?_))
   | exact spec_IsMatroid.mono _ _ _
   | exact spec_l20Free.mono _ _ _ _
   | exact LeO.none _
   | refine LeO.ite ?_ ?_
   | refine LeO.bind ?_ (fun _ => ?_)
set_option maxHeartbeats 8000000 in
set_option maxRecDepth 100000 in
theorem spec_IsCommon.calls (k : Nat) (a0_0 : Int) (A0_1 : Option Addr) (c0_1 : Nat) (l0_1 : List Int) (a1_0 : Int) (A1_1 : Option Addr) (c1_1 : Nat) (l1_1 : List Int) (a2 : Int) (r : Bool) (w : World) (hr0_1 : Kd.C (Kd.int .i64) w A0_1 l0_1.length l0_1) (hc0_1 : l0_1.length ≤ c0_1) (hr1_1 : Kd.C (Kd.int .i64) w A1_1 l1_1.length l1_1) (hc1_1 : l1_1.length ≤ c1_1) (h : spec_IsCommon.f k a0_0 l0_1 a1_0 l1_1 a2 = some r) :
  Calls Try.prog 66 #[.agg #[.int .i64 a0_0, .slice A0_1 l0_1.length c0_1], .agg #[.int .i64 a1_0, .slice A1_1 l1_1.length c1_1], .int .i64 a2] w fun e w' => e = .returned (.bool r) ∧ Below w.heap.size w w' := by
 have hu26 := Try.underlying26
 have HR0_1 := aQ hr0_1
 have HC0_1 := aQ hc0_1
 clear hr0_1 hc0_1
 have HR1_1 := aQ hr1_1
 have HC1_1 := aQ hc1_1
 clear hr1_1 hc1_1
 have HB := aQ (Below.refl w.heap.size w)
 have H : ((spec_IsMatroid.f k a0_0 l0_1).bind fun t67003 => (if t67003 = true then ((spec_IsMatroid.f k a1_0 l1_1).bind fun t67004 => (if t67004 = true then (if a0_0 = a1_0 then ((spec_IsSet.f a0_0 a2).bind fun t67005 => (if t67005 = true then ((spec_l20Free.f k a0_0 l0_1 a2).bind fun t67006 => (if t67006 = true then ((spec_l20Free.f k a1_0 l1_1 a2).bind fun t67007 => (some t67007)) else (some false))) else (some false))) else (some false)) else (some false))) else (some false))) = some r := h
 clear h
 replace H := Option.bind_eq_some_iff.mp H
 obtain ⟨t67003, A40, H⟩ := H
 replace H : (if t67003 = true then ((spec_IsMatroid.f k a1_0 l1_1).bind fun t67004 => (if t67004 = true then (if a0_0 = a1_0 then ((spec_IsSet.f a0_0 a2).bind fun t67005 => (if t67005 = true then ((spec_l20Free.f k a0_0 l0_1 a2).bind fun t67006 => (if t67006 = true then ((spec_l20Free.f k a1_0 l1_1 a2).bind fun t67007 => (some t67007)) else (some false))) else (some false))) else (some false)) else (some false))) else (some false)) = some r := H
 have A4 := aQ A40
 clear A40
 by_cases c5 : t67003 = true
 ·subst c5
  have H1 : ((spec_IsMatroid.f k a1_0 l1_1).bind fun t67004 => (if t67004 = true then (if a0_0 = a1_0 then ((spec_IsSet.f a0_0 a2).bind fun t67005 => (if t67005 = true then ((spec_l20Free.f k a0_0 l0_1 a2).bind fun t67006 => (if t67006 = true then ((spec_l20Free.f k a1_0 l1_1 a2).bind fun t67007 => (some t67007)) else (some false))) else (some false))) else (some false)) else (some false))) = some r := by rw [if_pos rfl] at H; exact H
  clear H
  have H := H1
  clear H1
  replace H := Option.bind_eq_some_iff.mp H
  obtain ⟨t67004, A60, H⟩ := H
  replace H : (if t67004 = true then (if a0_0 = a1_0 then ((spec_IsSet.f a0_0 a2).bind fun t67005 => (if t67005 = true then ((spec_l20Free.f k a0_0 l0_1 a2).bind fun t67006 => (if t67006 = true then ((spec_l20Free.f k a1_0 l1_1 a2).bind fun t67007 => (some t67007)) else (some false))) else (some false))) else (some false)) else (some false)) = some r := H
  have A6 := aQ A60
  clear A60
  by_cases c7 : t67004 = true
  ·subst c7
   have H1 : (if a0_0 = a1_0 then ((spec_IsSet.f a0_0 a2).bind fun t67005 => (if t67005 = true then ((spec_l20Free.f k a0_0 l0_1 a2).bind fun t67006 => (if t67006 = true then ((spec_l20Free.f k a1_0 l1_1 a2).bind fun t67007 => (some t67007)) else (some false))) else (some false))) else (some false)) = some r := by rw [if_pos rfl] at H; exact H
   clear H
   have H := H1
   clear H1
   by_cases c8 : a0_0 = a1_0
   ·rw [if_pos c8] at H
    have c8b0 : (a0_0 == a1_0) = true := beq_iff_eq.mpr c8
    have c8b1 : (a0_0 != a1_0) = false := bne_eq_false_iff_eq.mpr c8
    clear c8
    replace H := Option.bind_eq_some_iff.mp H
    obtain ⟨t67005, A90, H⟩ := H
    replace H : (if t67005 = true then ((spec_l20Free.f k a0_0 l0_1 a2).bind fun t67006 => (if t67006 = true then ((spec_l20Free.f k a1_0 l1_1 a2).bind fun t67007 => (some t67007)) else (some false))) else (some false)) = some r := H
    have A9 := aQ A90
    clear A90
    by_cases c10 : t67005 = true
    ·subst c10
     have H1 : ((spec_l20Free.f k a0_0 l0_1 a2).bind fun t67006 => (if t67006 = true then ((spec_l20Free.f k a1_0 l1_1 a2).bind fun t67007 => (some t67007)) else (some false))) = some r := by rw [if_pos rfl] at H; exact H
     clear H
     have H := H1
     clear H1
     replace H := Option.bind_eq_some_iff.mp H
     obtain ⟨t67006, A110, H⟩ := H
     replace H : (if t67006 = true then ((spec_l20Free.f k a1_0 l1_1 a2).bind fun t67007 => (some t67007)) else (some false)) = some r := H
     have A11 := aQ A110
     clear A110
     by_cases c12 : t67006 = true
     ·subst c12
      have H1 : ((spec_l20Free.f k a1_0 l1_1 a2).bind fun t67007 => (some t67007)) = some r := by rw [if_pos rfl] at H; exact H
      clear H
      have H := H1
      clear H1
      replace H := Option.bind_eq_some_iff.mp H
      obtain ⟨t67007, A130, H⟩ := H
      replace H : (some t67007) = some r := H
      have A13 := aQ A130
      clear A130
      obtain rfl := Option.some.inj H
      go_enter Try.func66, Try.ntmps66
      go_wp2_with (first | ((with_reducible refine gate_dst (N := 3) rfl ?_); refine box_event ?hg (N := 3) ?hd (cs := #[.int .i64 a0_0, .slice A0_1 l0_1.length c0_1]) (t := 26) ?hr ?_; (case hd => rfl); (case hg => rfl); (case hr => first | (go_simp; done) | (go_simp; rfl)); intro gb67001 hg w14 hbox hb; have BK67001 := aQ (hbox); have GW67001 := aQ ((by rw [hg]; exact (below_size (pB HB.out)) : w.heap.size ≤ gb67001)); have GE67001 := aQ ((by rw [hg]; exact (below_size (pB HB.out)) : w.heap.size ≤ gb67001)); replace HB := aQ (below_step (pB HB.out) hb); clear hb hbox hg) | ((with_reducible refine gate_dst (N := 4) rfl ?_); refine box_event ?hg (N := 4) ?hd (cs := #[.int .i64 a1_0, .slice A1_1 l1_1.length c1_1]) (t := 26) ?hr ?_; (case hd => rfl); (case hg => rfl); (case hr => first | (go_simp; done) | (go_simp; rfl)); intro gb67002 hg w15 hbox hb; have BK67002 := aQ (hbox); have GW67002 := aQ ((by rw [hg]; exact (below_size (pB1 HB.out GE67001.out)) : w.heap.size ≤ gb67002)); have GE67002 := aQ ((by rw [hg]; exact (below_size (pB1 HB.out GE67001.out)) : w.heap.size ≤ gb67002)); replace HB := aQ (below_step (pB1 HB.out GE67001.out) hb); have NB67001_67002 := aQ ((by rw [hg]; exact Nat.ne_of_lt (blk_lt (g := gb67001) (o := .cells #[.int .i64 a0_0, .slice A0_1 l0_1.length c0_1] 26 (0, 0)) (pk BK67001.out)) : gb67001 ≠ gb67002)); have NB67002_67001 := aQ ((by rw [hg]; exact Nat.ne_of_gt (blk_lt (g := gb67001) (o := .cells #[.int .i64 a0_0, .slice A0_1 l0_1.length c0_1] 26 (0, 0)) (pk BK67001.out)) : gb67002 ≠ gb67001)); replace BK67001 := aQ (blk_below (g := gb67001) (o := .cells #[.int .i64 a0_0, .slice A0_1 l0_1.length c0_1] 26 (0, 0)) (pk BK67001.out) hb); clear hb hbox hg; have hnb16 := NB67001_67002.out; have hnc16 := NB67002_67001.out; have hcz17_0 := bc (v := (.int .i64 a0_0)) BK67001.out 0; have hcz17_1 := bc (v := (.slice A0_1 l0_1.length c0_1)) BK67001.out 1; have hfz17_0 := blk_frozen BK67001.out 0; have hfz17_1 := blk_frozen BK67001.out 1) | ((with_reducible refine gate_callee (f := 74) rfl ?_); refine goesL_ (some 8) rfl rfl Try.func74 (by kernel_rfl) rfl #[.agg #[.int .i64 a0_0, .slice A0_1 l0_1.length c0_1]] rfl lm ?_; (with_reducible refine (spec_IsMatroid.calls k a0_0 _ _ l0_1 true _ ?side1 ?side2 A4.out).mono ?_); (case side1 => exact pC (Kd.C_below HR0_1.out HB.out)); (case side2 => exact HC0_1.out); rintro e w18 ⟨rfl, hb⟩; refine ⟨_, rfl, ?_⟩; replace BK67001 := aQ (blk_below (g := gb67001) (o := .cells #[.int .i64 a0_0, .slice A0_1 l0_1.length c0_1] 26 (0, 0)) (pk BK67001.out) hb); replace BK67002 := aQ (blk_below (g := gb67002) (o := .cells #[.int .i64 a1_0, .slice A1_1 l1_1.length c1_1] 26 (0, 0)) (pk BK67002.out) hb); replace HB := aQ (below_step (pB2 HB.out GE67001.out GE67002.out) hb); (try clear hb); have hcz19_0 := bc (v := (.int .i64 a1_0)) BK67002.out 0; have hcz19_1 := bc (v := (.slice A1_1 l1_1.length c1_1)) BK67002.out 1; have hfz19_0 := blk_frozen BK67002.out 0; have hfz19_1 := blk_frozen BK67002.out 1) | (go_at_call 74; (with_reducible refine (spec_IsMatroid.calls k a1_0 _ _ l1_1 true _ ?side1 ?side2 A6.out).mono ?_); (case side1 => exact pC (Kd.C_below HR1_1.out HB.out)); (case side2 => exact HC1_1.out); rintro e w20 ⟨rfl, hb⟩; replace BK67001 := aQ (blk_below (g := gb67001) (o := .cells #[.int .i64 a0_0, .slice A0_1 l0_1.length c0_1] 26 (0, 0)) (pk BK67001.out) hb); replace BK67002 := aQ (blk_below (g := gb67002) (o := .cells #[.int .i64 a1_0, .slice A1_1 l1_1.length c1_1] 26 (0, 0)) (pk BK67002.out) hb); replace HB := aQ (below_step (pB2 HB.out GE67001.out GE67002.out) hb); (try clear hb); have hcz21_0 := bc (v := (.int .i64 a0_0)) BK67001.out 0; have hcz21_1 := bc (v := (.slice A0_1 l0_1.length c0_1)) BK67001.out 1; have hfz21_0 := blk_frozen BK67001.out 0; have hfz21_1 := blk_frozen BK67001.out 1; have hcz22_0 := bc (v := (.int .i64 a1_0)) BK67002.out 0; have hcz22_1 := bc (v := (.slice A1_1 l1_1.length c1_1)) BK67002.out 1; have hfz22_0 := blk_frozen BK67002.out 0; have hfz22_1 := blk_frozen BK67002.out 1) | (go_at_call 129; (with_reducible refine (spec_IsSet.calls a0_0 a2 true _ A9.out).mono ?_); rintro e w' ⟨rfl, ⟨nd, rfl⟩⟩) | (go_at_call 69; (with_reducible refine (spec_l20Free.calls k a0_0 _ _ l0_1 a2 true _ ?side1 ?side2 A11.out).mono ?_); (case side1 => repeat (first | exact (Kd.C_below HR0_1.out (pB2 HB.out GE67001.out GE67002.out)) | (with_reducible refine Kd.C_alloc ?_ _) | (with_reducible refine Kd.C_drewN ?_ _) | (with_reducible refine Kd.C_drew ?_))); (case side2 => exact HC0_1.out); rintro e w23 ⟨rfl, hb⟩; replace BK67001 := aQ (blk_below (g := gb67001) (o := .cells #[.int .i64 a0_0, .slice A0_1 l0_1.length c0_1] 26 (0, 0)) (pk BK67001.out) hb); replace BK67002 := aQ (blk_below (g := gb67002) (o := .cells #[.int .i64 a1_0, .slice A1_1 l1_1.length c1_1] 26 (0, 0)) (pk BK67002.out) hb); replace HB := aQ (below_step (pB2 HB.out GE67001.out GE67002.out) hb); (try clear hb); have hcz24_0 := bc (v := (.int .i64 a1_0)) BK67002.out 0; have hcz24_1 := bc (v := (.slice A1_1 l1_1.length c1_1)) BK67002.out 1; have hfz24_0 := blk_frozen BK67002.out 0; have hfz24_1 := blk_frozen BK67002.out 1) | (go_at_call 69; (with_reducible refine (spec_l20Free.calls k a1_0 _ _ l1_1 a2 t67007 _ ?side1 ?side2 A13.out).mono ?_); (case side1 => exact pC (Kd.C_below HR1_1.out HB.out)); (case side2 => exact HC1_1.out); rintro e w25 ⟨rfl, hb⟩; replace BK67001 := aQ (blk_below (g := gb67001) (o := .cells #[.int .i64 a0_0, .slice A0_1 l0_1.length c0_1] 26 (0, 0)) (pk BK67001.out) hb); replace BK67002 := aQ (blk_below (g := gb67002) (o := .cells #[.int .i64 a1_0, .slice A1_1 l1_1.length c1_1] 26 (0, 0)) (pk BK67002.out) hb); replace HB := aQ (below_step (pB2 HB.out GE67001.out GE67002.out) hb); (try clear hb)))
      go_ret
      exact ⟨re_, pB2 HB.out GE67001.out GE67002.out⟩
     ·replace c12 := Bool.eq_false_iff.mpr c12
      subst c12
      have H1 : (some false) = some r := by rw [if_neg (show ¬ (false = true) by decide)] at H; exact H
      clear H
      have H := H1
      clear H1
      obtain rfl := Option.some.inj H
      go_enter Try.func66, Try.ntmps66
      go_wp2_with (first | ((with_reducible refine gate_dst (N := 3) rfl ?_); refine box_event ?hg (N := 3) ?hd (cs := #[.int .i64 a0_0, .slice A0_1 l0_1.length c0_1]) (t := 26) ?hr ?_; (case hd => rfl); (case hg => rfl); (case hr => first | (go_simp; done) | (go_simp; rfl)); intro gb67001 hg w26 hbox hb; have BK67001 := aQ (hbox); have GW67001 := aQ ((by rw [hg]; exact (below_size (pB HB.out)) : w.heap.size ≤ gb67001)); have GE67001 := aQ ((by rw [hg]; exact (below_size (pB HB.out)) : w.heap.size ≤ gb67001)); replace HB := aQ (below_step (pB HB.out) hb); clear hb hbox hg) | ((with_reducible refine gate_dst (N := 4) rfl ?_); refine box_event ?hg (N := 4) ?hd (cs := #[.int .i64 a1_0, .slice A1_1 l1_1.length c1_1]) (t := 26) ?hr ?_; (case hd => rfl); (case hg => rfl); (case hr => first | (go_simp; done) | (go_simp; rfl)); intro gb67002 hg w27 hbox hb; have BK67002 := aQ (hbox); have GW67002 := aQ ((by rw [hg]; exact (below_size (pB1 HB.out GE67001.out)) : w.heap.size ≤ gb67002)); have GE67002 := aQ ((by rw [hg]; exact (below_size (pB1 HB.out GE67001.out)) : w.heap.size ≤ gb67002)); replace HB := aQ (below_step (pB1 HB.out GE67001.out) hb); have NB67001_67002 := aQ ((by rw [hg]; exact Nat.ne_of_lt (blk_lt (g := gb67001) (o := .cells #[.int .i64 a0_0, .slice A0_1 l0_1.length c0_1] 26 (0, 0)) (pk BK67001.out)) : gb67001 ≠ gb67002)); have NB67002_67001 := aQ ((by rw [hg]; exact Nat.ne_of_gt (blk_lt (g := gb67001) (o := .cells #[.int .i64 a0_0, .slice A0_1 l0_1.length c0_1] 26 (0, 0)) (pk BK67001.out)) : gb67002 ≠ gb67001)); replace BK67001 := aQ (blk_below (g := gb67001) (o := .cells #[.int .i64 a0_0, .slice A0_1 l0_1.length c0_1] 26 (0, 0)) (pk BK67001.out) hb); clear hb hbox hg; have hnb28 := NB67001_67002.out; have hnc28 := NB67002_67001.out; have hcz29_0 := bc (v := (.int .i64 a0_0)) BK67001.out 0; have hcz29_1 := bc (v := (.slice A0_1 l0_1.length c0_1)) BK67001.out 1; have hfz29_0 := blk_frozen BK67001.out 0; have hfz29_1 := blk_frozen BK67001.out 1) | ((with_reducible refine gate_callee (f := 74) rfl ?_); refine goesL_ (some 8) rfl rfl Try.func74 (by kernel_rfl) rfl #[.agg #[.int .i64 a0_0, .slice A0_1 l0_1.length c0_1]] rfl lm ?_; (with_reducible refine (spec_IsMatroid.calls k a0_0 _ _ l0_1 true _ ?side1 ?side2 A4.out).mono ?_); (case side1 => exact pC (Kd.C_below HR0_1.out HB.out)); (case side2 => exact HC0_1.out); rintro e w30 ⟨rfl, hb⟩; refine ⟨_, rfl, ?_⟩; replace BK67001 := aQ (blk_below (g := gb67001) (o := .cells #[.int .i64 a0_0, .slice A0_1 l0_1.length c0_1] 26 (0, 0)) (pk BK67001.out) hb); replace BK67002 := aQ (blk_below (g := gb67002) (o := .cells #[.int .i64 a1_0, .slice A1_1 l1_1.length c1_1] 26 (0, 0)) (pk BK67002.out) hb); replace HB := aQ (below_step (pB2 HB.out GE67001.out GE67002.out) hb); (try clear hb); have hcz31_0 := bc (v := (.int .i64 a1_0)) BK67002.out 0; have hcz31_1 := bc (v := (.slice A1_1 l1_1.length c1_1)) BK67002.out 1; have hfz31_0 := blk_frozen BK67002.out 0; have hfz31_1 := blk_frozen BK67002.out 1) | (go_at_call 74; (with_reducible refine (spec_IsMatroid.calls k a1_0 _ _ l1_1 true _ ?side1 ?side2 A6.out).mono ?_); (case side1 => exact pC (Kd.C_below HR1_1.out HB.out)); (case side2 => exact HC1_1.out); rintro e w32 ⟨rfl, hb⟩; replace BK67001 := aQ (blk_below (g := gb67001) (o := .cells #[.int .i64 a0_0, .slice A0_1 l0_1.length c0_1] 26 (0, 0)) (pk BK67001.out) hb); replace BK67002 := aQ (blk_below (g := gb67002) (o := .cells #[.int .i64 a1_0, .slice A1_1 l1_1.length c1_1] 26 (0, 0)) (pk BK67002.out) hb); replace HB := aQ (below_step (pB2 HB.out GE67001.out GE67002.out) hb); (try clear hb); have hcz33_0 := bc (v := (.int .i64 a0_0)) BK67001.out 0; have hcz33_1 := bc (v := (.slice A0_1 l0_1.length c0_1)) BK67001.out 1; have hfz33_0 := blk_frozen BK67001.out 0; have hfz33_1 := blk_frozen BK67001.out 1; have hcz34_0 := bc (v := (.int .i64 a1_0)) BK67002.out 0; have hcz34_1 := bc (v := (.slice A1_1 l1_1.length c1_1)) BK67002.out 1; have hfz34_0 := blk_frozen BK67002.out 0; have hfz34_1 := blk_frozen BK67002.out 1) | (go_at_call 129; (with_reducible refine (spec_IsSet.calls a0_0 a2 true _ A9.out).mono ?_); rintro e w' ⟨rfl, ⟨nd, rfl⟩⟩) | (go_at_call 69; (with_reducible refine (spec_l20Free.calls k a0_0 _ _ l0_1 a2 false _ ?side1 ?side2 A11.out).mono ?_); (case side1 => repeat (first | exact (Kd.C_below HR0_1.out (pB2 HB.out GE67001.out GE67002.out)) | (with_reducible refine Kd.C_alloc ?_ _) | (with_reducible refine Kd.C_drewN ?_ _) | (with_reducible refine Kd.C_drew ?_))); (case side2 => exact HC0_1.out); rintro e w35 ⟨rfl, hb⟩; replace BK67001 := aQ (blk_below (g := gb67001) (o := .cells #[.int .i64 a0_0, .slice A0_1 l0_1.length c0_1] 26 (0, 0)) (pk BK67001.out) hb); replace BK67002 := aQ (blk_below (g := gb67002) (o := .cells #[.int .i64 a1_0, .slice A1_1 l1_1.length c1_1] 26 (0, 0)) (pk BK67002.out) hb); replace HB := aQ (below_step (pB2 HB.out GE67001.out GE67002.out) hb); (try clear hb)))
      go_ret
      exact ⟨re_, pB2 HB.out GE67001.out GE67002.out⟩
    ·replace c10 := Bool.eq_false_iff.mpr c10
     subst c10
     have H1 : (some false) = some r := by rw [if_neg (show ¬ (false = true) by decide)] at H; exact H
     clear H
     have H := H1
     clear H1
     obtain rfl := Option.some.inj H
     go_enter Try.func66, Try.ntmps66
     go_wp2_with (first | ((with_reducible refine gate_dst (N := 3) rfl ?_); refine box_event ?hg (N := 3) ?hd (cs := #[.int .i64 a0_0, .slice A0_1 l0_1.length c0_1]) (t := 26) ?hr ?_; (case hd => rfl); (case hg => rfl); (case hr => first | (go_simp; done) | (go_simp; rfl)); intro gb67001 hg w36 hbox hb; have BK67001 := aQ (hbox); have GW67001 := aQ ((by rw [hg]; exact (below_size (pB HB.out)) : w.heap.size ≤ gb67001)); have GE67001 := aQ ((by rw [hg]; exact (below_size (pB HB.out)) : w.heap.size ≤ gb67001)); replace HB := aQ (below_step (pB HB.out) hb); clear hb hbox hg) | ((with_reducible refine gate_dst (N := 4) rfl ?_); refine box_event ?hg (N := 4) ?hd (cs := #[.int .i64 a1_0, .slice A1_1 l1_1.length c1_1]) (t := 26) ?hr ?_; (case hd => rfl); (case hg => rfl); (case hr => first | (go_simp; done) | (go_simp; rfl)); intro gb67002 hg w37 hbox hb; have BK67002 := aQ (hbox); have GW67002 := aQ ((by rw [hg]; exact (below_size (pB1 HB.out GE67001.out)) : w.heap.size ≤ gb67002)); have GE67002 := aQ ((by rw [hg]; exact (below_size (pB1 HB.out GE67001.out)) : w.heap.size ≤ gb67002)); replace HB := aQ (below_step (pB1 HB.out GE67001.out) hb); have NB67001_67002 := aQ ((by rw [hg]; exact Nat.ne_of_lt (blk_lt (g := gb67001) (o := .cells #[.int .i64 a0_0, .slice A0_1 l0_1.length c0_1] 26 (0, 0)) (pk BK67001.out)) : gb67001 ≠ gb67002)); have NB67002_67001 := aQ ((by rw [hg]; exact Nat.ne_of_gt (blk_lt (g := gb67001) (o := .cells #[.int .i64 a0_0, .slice A0_1 l0_1.length c0_1] 26 (0, 0)) (pk BK67001.out)) : gb67002 ≠ gb67001)); replace BK67001 := aQ (blk_below (g := gb67001) (o := .cells #[.int .i64 a0_0, .slice A0_1 l0_1.length c0_1] 26 (0, 0)) (pk BK67001.out) hb); clear hb hbox hg; have hnb38 := NB67001_67002.out; have hnc38 := NB67002_67001.out; have hcz39_0 := bc (v := (.int .i64 a0_0)) BK67001.out 0; have hcz39_1 := bc (v := (.slice A0_1 l0_1.length c0_1)) BK67001.out 1; have hfz39_0 := blk_frozen BK67001.out 0; have hfz39_1 := blk_frozen BK67001.out 1) | ((with_reducible refine gate_callee (f := 74) rfl ?_); refine goesL_ (some 8) rfl rfl Try.func74 (by kernel_rfl) rfl #[.agg #[.int .i64 a0_0, .slice A0_1 l0_1.length c0_1]] rfl lm ?_; (with_reducible refine (spec_IsMatroid.calls k a0_0 _ _ l0_1 true _ ?side1 ?side2 A4.out).mono ?_); (case side1 => exact pC (Kd.C_below HR0_1.out HB.out)); (case side2 => exact HC0_1.out); rintro e w40 ⟨rfl, hb⟩; refine ⟨_, rfl, ?_⟩; replace BK67001 := aQ (blk_below (g := gb67001) (o := .cells #[.int .i64 a0_0, .slice A0_1 l0_1.length c0_1] 26 (0, 0)) (pk BK67001.out) hb); replace BK67002 := aQ (blk_below (g := gb67002) (o := .cells #[.int .i64 a1_0, .slice A1_1 l1_1.length c1_1] 26 (0, 0)) (pk BK67002.out) hb); replace HB := aQ (below_step (pB2 HB.out GE67001.out GE67002.out) hb); (try clear hb); have hcz41_0 := bc (v := (.int .i64 a1_0)) BK67002.out 0; have hcz41_1 := bc (v := (.slice A1_1 l1_1.length c1_1)) BK67002.out 1; have hfz41_0 := blk_frozen BK67002.out 0; have hfz41_1 := blk_frozen BK67002.out 1) | (go_at_call 74; (with_reducible refine (spec_IsMatroid.calls k a1_0 _ _ l1_1 true _ ?side1 ?side2 A6.out).mono ?_); (case side1 => exact pC (Kd.C_below HR1_1.out HB.out)); (case side2 => exact HC1_1.out); rintro e w42 ⟨rfl, hb⟩; replace BK67001 := aQ (blk_below (g := gb67001) (o := .cells #[.int .i64 a0_0, .slice A0_1 l0_1.length c0_1] 26 (0, 0)) (pk BK67001.out) hb); replace BK67002 := aQ (blk_below (g := gb67002) (o := .cells #[.int .i64 a1_0, .slice A1_1 l1_1.length c1_1] 26 (0, 0)) (pk BK67002.out) hb); replace HB := aQ (below_step (pB2 HB.out GE67001.out GE67002.out) hb); (try clear hb); have hcz43_0 := bc (v := (.int .i64 a0_0)) BK67001.out 0; have hcz43_1 := bc (v := (.slice A0_1 l0_1.length c0_1)) BK67001.out 1; have hfz43_0 := blk_frozen BK67001.out 0; have hfz43_1 := blk_frozen BK67001.out 1; have hcz44_0 := bc (v := (.int .i64 a1_0)) BK67002.out 0; have hcz44_1 := bc (v := (.slice A1_1 l1_1.length c1_1)) BK67002.out 1; have hfz44_0 := blk_frozen BK67002.out 0; have hfz44_1 := blk_frozen BK67002.out 1) | (go_at_call 129; (with_reducible refine (spec_IsSet.calls a0_0 a2 false _ A9.out).mono ?_); rintro e w' ⟨rfl, ⟨nd, rfl⟩⟩))
     go_ret
     exact ⟨re_, pB2 HB.out GE67001.out GE67002.out⟩
   ·rw [if_neg c8] at H
    have c8b0 : (a0_0 == a1_0) = false := beq_eq_false_iff_ne.mpr c8
    have c8b1 : (a0_0 != a1_0) = true := bne_iff_ne.mpr c8
    obtain rfl := Option.some.inj H
    go_enter Try.func66, Try.ntmps66
    go_wp2_with (first | ((with_reducible refine gate_dst (N := 3) rfl ?_); refine box_event ?hg (N := 3) ?hd (cs := #[.int .i64 a0_0, .slice A0_1 l0_1.length c0_1]) (t := 26) ?hr ?_; (case hd => rfl); (case hg => rfl); (case hr => first | (go_simp; done) | (go_simp; rfl)); intro gb67001 hg w45 hbox hb; have BK67001 := aQ (hbox); have GW67001 := aQ ((by rw [hg]; exact (below_size (pB HB.out)) : w.heap.size ≤ gb67001)); have GE67001 := aQ ((by rw [hg]; exact (below_size (pB HB.out)) : w.heap.size ≤ gb67001)); replace HB := aQ (below_step (pB HB.out) hb); clear hb hbox hg) | ((with_reducible refine gate_dst (N := 4) rfl ?_); refine box_event ?hg (N := 4) ?hd (cs := #[.int .i64 a1_0, .slice A1_1 l1_1.length c1_1]) (t := 26) ?hr ?_; (case hd => rfl); (case hg => rfl); (case hr => first | (go_simp; done) | (go_simp; rfl)); intro gb67002 hg w46 hbox hb; have BK67002 := aQ (hbox); have GW67002 := aQ ((by rw [hg]; exact (below_size (pB1 HB.out GE67001.out)) : w.heap.size ≤ gb67002)); have GE67002 := aQ ((by rw [hg]; exact (below_size (pB1 HB.out GE67001.out)) : w.heap.size ≤ gb67002)); replace HB := aQ (below_step (pB1 HB.out GE67001.out) hb); have NB67001_67002 := aQ ((by rw [hg]; exact Nat.ne_of_lt (blk_lt (g := gb67001) (o := .cells #[.int .i64 a0_0, .slice A0_1 l0_1.length c0_1] 26 (0, 0)) (pk BK67001.out)) : gb67001 ≠ gb67002)); have NB67002_67001 := aQ ((by rw [hg]; exact Nat.ne_of_gt (blk_lt (g := gb67001) (o := .cells #[.int .i64 a0_0, .slice A0_1 l0_1.length c0_1] 26 (0, 0)) (pk BK67001.out)) : gb67002 ≠ gb67001)); replace BK67001 := aQ (blk_below (g := gb67001) (o := .cells #[.int .i64 a0_0, .slice A0_1 l0_1.length c0_1] 26 (0, 0)) (pk BK67001.out) hb); clear hb hbox hg; have hnb47 := NB67001_67002.out; have hnc47 := NB67002_67001.out; have hcz48_0 := bc (v := (.int .i64 a0_0)) BK67001.out 0; have hcz48_1 := bc (v := (.slice A0_1 l0_1.length c0_1)) BK67001.out 1; have hfz48_0 := blk_frozen BK67001.out 0; have hfz48_1 := blk_frozen BK67001.out 1) | ((with_reducible refine gate_callee (f := 74) rfl ?_); refine goesL_ (some 8) rfl rfl Try.func74 (by kernel_rfl) rfl #[.agg #[.int .i64 a0_0, .slice A0_1 l0_1.length c0_1]] rfl lm ?_; (with_reducible refine (spec_IsMatroid.calls k a0_0 _ _ l0_1 true _ ?side1 ?side2 A4.out).mono ?_); (case side1 => exact pC (Kd.C_below HR0_1.out HB.out)); (case side2 => exact HC0_1.out); rintro e w49 ⟨rfl, hb⟩; refine ⟨_, rfl, ?_⟩; replace BK67001 := aQ (blk_below (g := gb67001) (o := .cells #[.int .i64 a0_0, .slice A0_1 l0_1.length c0_1] 26 (0, 0)) (pk BK67001.out) hb); replace BK67002 := aQ (blk_below (g := gb67002) (o := .cells #[.int .i64 a1_0, .slice A1_1 l1_1.length c1_1] 26 (0, 0)) (pk BK67002.out) hb); replace HB := aQ (below_step (pB2 HB.out GE67001.out GE67002.out) hb); (try clear hb); have hcz50_0 := bc (v := (.int .i64 a1_0)) BK67002.out 0; have hcz50_1 := bc (v := (.slice A1_1 l1_1.length c1_1)) BK67002.out 1; have hfz50_0 := blk_frozen BK67002.out 0; have hfz50_1 := blk_frozen BK67002.out 1) | (go_at_call 74; (with_reducible refine (spec_IsMatroid.calls k a1_0 _ _ l1_1 true _ ?side1 ?side2 A6.out).mono ?_); (case side1 => exact pC (Kd.C_below HR1_1.out HB.out)); (case side2 => exact HC1_1.out); rintro e w51 ⟨rfl, hb⟩; replace BK67001 := aQ (blk_below (g := gb67001) (o := .cells #[.int .i64 a0_0, .slice A0_1 l0_1.length c0_1] 26 (0, 0)) (pk BK67001.out) hb); replace BK67002 := aQ (blk_below (g := gb67002) (o := .cells #[.int .i64 a1_0, .slice A1_1 l1_1.length c1_1] 26 (0, 0)) (pk BK67002.out) hb); replace HB := aQ (below_step (pB2 HB.out GE67001.out GE67002.out) hb); (try clear hb); have hcz52_0 := bc (v := (.int .i64 a0_0)) BK67001.out 0; have hcz52_1 := bc (v := (.slice A0_1 l0_1.length c0_1)) BK67001.out 1; have hfz52_0 := blk_frozen BK67001.out 0; have hfz52_1 := blk_frozen BK67001.out 1; have hcz53_0 := bc (v := (.int .i64 a1_0)) BK67002.out 0; have hcz53_1 := bc (v := (.slice A1_1 l1_1.length c1_1)) BK67002.out 1; have hfz53_0 := blk_frozen BK67002.out 0; have hfz53_1 := blk_frozen BK67002.out 1))
    go_ret
    exact ⟨re_, pB2 HB.out GE67001.out GE67002.out⟩
  ·replace c7 := Bool.eq_false_iff.mpr c7
   subst c7
   have H1 : (some false) = some r := by rw [if_neg (show ¬ (false = true) by decide)] at H; exact H
   clear H
   have H := H1
   clear H1
   obtain rfl := Option.some.inj H
   go_enter Try.func66, Try.ntmps66
   go_wp2_with (first | ((with_reducible refine gate_dst (N := 3) rfl ?_); refine box_event ?hg (N := 3) ?hd (cs := #[.int .i64 a0_0, .slice A0_1 l0_1.length c0_1]) (t := 26) ?hr ?_; (case hd => rfl); (case hg => rfl); (case hr => first | (go_simp; done) | (go_simp; rfl)); intro gb67001 hg w54 hbox hb; have BK67001 := aQ (hbox); have GW67001 := aQ ((by rw [hg]; exact (below_size (pB HB.out)) : w.heap.size ≤ gb67001)); have GE67001 := aQ ((by rw [hg]; exact (below_size (pB HB.out)) : w.heap.size ≤ gb67001)); replace HB := aQ (below_step (pB HB.out) hb); clear hb hbox hg) | ((with_reducible refine gate_dst (N := 4) rfl ?_); refine box_event ?hg (N := 4) ?hd (cs := #[.int .i64 a1_0, .slice A1_1 l1_1.length c1_1]) (t := 26) ?hr ?_; (case hd => rfl); (case hg => rfl); (case hr => first | (go_simp; done) | (go_simp; rfl)); intro gb67002 hg w55 hbox hb; have BK67002 := aQ (hbox); have GW67002 := aQ ((by rw [hg]; exact (below_size (pB1 HB.out GE67001.out)) : w.heap.size ≤ gb67002)); have GE67002 := aQ ((by rw [hg]; exact (below_size (pB1 HB.out GE67001.out)) : w.heap.size ≤ gb67002)); replace HB := aQ (below_step (pB1 HB.out GE67001.out) hb); have NB67001_67002 := aQ ((by rw [hg]; exact Nat.ne_of_lt (blk_lt (g := gb67001) (o := .cells #[.int .i64 a0_0, .slice A0_1 l0_1.length c0_1] 26 (0, 0)) (pk BK67001.out)) : gb67001 ≠ gb67002)); have NB67002_67001 := aQ ((by rw [hg]; exact Nat.ne_of_gt (blk_lt (g := gb67001) (o := .cells #[.int .i64 a0_0, .slice A0_1 l0_1.length c0_1] 26 (0, 0)) (pk BK67001.out)) : gb67002 ≠ gb67001)); replace BK67001 := aQ (blk_below (g := gb67001) (o := .cells #[.int .i64 a0_0, .slice A0_1 l0_1.length c0_1] 26 (0, 0)) (pk BK67001.out) hb); clear hb hbox hg; have hnb56 := NB67001_67002.out; have hnc56 := NB67002_67001.out; have hcz57_0 := bc (v := (.int .i64 a0_0)) BK67001.out 0; have hcz57_1 := bc (v := (.slice A0_1 l0_1.length c0_1)) BK67001.out 1; have hfz57_0 := blk_frozen BK67001.out 0; have hfz57_1 := blk_frozen BK67001.out 1) | ((with_reducible refine gate_callee (f := 74) rfl ?_); refine goesL_ (some 8) rfl rfl Try.func74 (by kernel_rfl) rfl #[.agg #[.int .i64 a0_0, .slice A0_1 l0_1.length c0_1]] rfl lm ?_; (with_reducible refine (spec_IsMatroid.calls k a0_0 _ _ l0_1 true _ ?side1 ?side2 A4.out).mono ?_); (case side1 => exact pC (Kd.C_below HR0_1.out HB.out)); (case side2 => exact HC0_1.out); rintro e w58 ⟨rfl, hb⟩; refine ⟨_, rfl, ?_⟩; replace BK67001 := aQ (blk_below (g := gb67001) (o := .cells #[.int .i64 a0_0, .slice A0_1 l0_1.length c0_1] 26 (0, 0)) (pk BK67001.out) hb); replace BK67002 := aQ (blk_below (g := gb67002) (o := .cells #[.int .i64 a1_0, .slice A1_1 l1_1.length c1_1] 26 (0, 0)) (pk BK67002.out) hb); replace HB := aQ (below_step (pB2 HB.out GE67001.out GE67002.out) hb); (try clear hb); have hcz59_0 := bc (v := (.int .i64 a1_0)) BK67002.out 0; have hcz59_1 := bc (v := (.slice A1_1 l1_1.length c1_1)) BK67002.out 1; have hfz59_0 := blk_frozen BK67002.out 0; have hfz59_1 := blk_frozen BK67002.out 1) | (go_at_call 74; (with_reducible refine (spec_IsMatroid.calls k a1_0 _ _ l1_1 false _ ?side1 ?side2 A6.out).mono ?_); (case side1 => exact pC (Kd.C_below HR1_1.out HB.out)); (case side2 => exact HC1_1.out); rintro e w60 ⟨rfl, hb⟩; replace BK67001 := aQ (blk_below (g := gb67001) (o := .cells #[.int .i64 a0_0, .slice A0_1 l0_1.length c0_1] 26 (0, 0)) (pk BK67001.out) hb); replace BK67002 := aQ (blk_below (g := gb67002) (o := .cells #[.int .i64 a1_0, .slice A1_1 l1_1.length c1_1] 26 (0, 0)) (pk BK67002.out) hb); replace HB := aQ (below_step (pB2 HB.out GE67001.out GE67002.out) hb); (try clear hb)))
   go_ret
   exact ⟨re_, pB2 HB.out GE67001.out GE67002.out⟩
 ·replace c5 := Bool.eq_false_iff.mpr c5
  subst c5
  have H1 : (some false) = some r := by rw [if_neg (show ¬ (false = true) by decide)] at H; exact H
  clear H
  have H := H1
  clear H1
  obtain rfl := Option.some.inj H
  go_enter Try.func66, Try.ntmps66
  go_wp2_with (first | ((with_reducible refine gate_dst (N := 3) rfl ?_); refine box_event ?hg (N := 3) ?hd (cs := #[.int .i64 a0_0, .slice A0_1 l0_1.length c0_1]) (t := 26) ?hr ?_; (case hd => rfl); (case hg => rfl); (case hr => first | (go_simp; done) | (go_simp; rfl)); intro gb67001 hg w61 hbox hb; have BK67001 := aQ (hbox); have GW67001 := aQ ((by rw [hg]; exact (below_size (pB HB.out)) : w.heap.size ≤ gb67001)); have GE67001 := aQ ((by rw [hg]; exact (below_size (pB HB.out)) : w.heap.size ≤ gb67001)); replace HB := aQ (below_step (pB HB.out) hb); clear hb hbox hg) | ((with_reducible refine gate_dst (N := 4) rfl ?_); refine box_event ?hg (N := 4) ?hd (cs := #[.int .i64 a1_0, .slice A1_1 l1_1.length c1_1]) (t := 26) ?hr ?_; (case hd => rfl); (case hg => rfl); (case hr => first | (go_simp; done) | (go_simp; rfl)); intro gb67002 hg w62 hbox hb; have BK67002 := aQ (hbox); have GW67002 := aQ ((by rw [hg]; exact (below_size (pB1 HB.out GE67001.out)) : w.heap.size ≤ gb67002)); have GE67002 := aQ ((by rw [hg]; exact (below_size (pB1 HB.out GE67001.out)) : w.heap.size ≤ gb67002)); replace HB := aQ (below_step (pB1 HB.out GE67001.out) hb); have NB67001_67002 := aQ ((by rw [hg]; exact Nat.ne_of_lt (blk_lt (g := gb67001) (o := .cells #[.int .i64 a0_0, .slice A0_1 l0_1.length c0_1] 26 (0, 0)) (pk BK67001.out)) : gb67001 ≠ gb67002)); have NB67002_67001 := aQ ((by rw [hg]; exact Nat.ne_of_gt (blk_lt (g := gb67001) (o := .cells #[.int .i64 a0_0, .slice A0_1 l0_1.length c0_1] 26 (0, 0)) (pk BK67001.out)) : gb67002 ≠ gb67001)); replace BK67001 := aQ (blk_below (g := gb67001) (o := .cells #[.int .i64 a0_0, .slice A0_1 l0_1.length c0_1] 26 (0, 0)) (pk BK67001.out) hb); clear hb hbox hg; have hnb63 := NB67001_67002.out; have hnc63 := NB67002_67001.out; have hcz64_0 := bc (v := (.int .i64 a0_0)) BK67001.out 0; have hcz64_1 := bc (v := (.slice A0_1 l0_1.length c0_1)) BK67001.out 1; have hfz64_0 := blk_frozen BK67001.out 0; have hfz64_1 := blk_frozen BK67001.out 1) | ((with_reducible refine gate_callee (f := 74) rfl ?_); refine goesL_ (some 8) rfl rfl Try.func74 (by kernel_rfl) rfl #[.agg #[.int .i64 a0_0, .slice A0_1 l0_1.length c0_1]] rfl lm ?_; (with_reducible refine (spec_IsMatroid.calls k a0_0 _ _ l0_1 false _ ?side1 ?side2 A4.out).mono ?_); (case side1 => exact pC (Kd.C_below HR0_1.out HB.out)); (case side2 => exact HC0_1.out); rintro e w65 ⟨rfl, hb⟩; refine ⟨_, rfl, ?_⟩; replace BK67001 := aQ (blk_below (g := gb67001) (o := .cells #[.int .i64 a0_0, .slice A0_1 l0_1.length c0_1] 26 (0, 0)) (pk BK67001.out) hb); replace BK67002 := aQ (blk_below (g := gb67002) (o := .cells #[.int .i64 a1_0, .slice A1_1 l1_1.length c1_1] 26 (0, 0)) (pk BK67002.out) hb); replace HB := aQ (below_step (pB2 HB.out GE67001.out GE67002.out) hb); (try clear hb)))
  go_ret
  exact ⟨re_, pB2 HB.out GE67001.out GE67002.out⟩
/-! ### impl_IsSubset: function 135 -/
def impl_IsSubset.f (a0 : Int) (a1 : Int) : Option (Bool) := (impl_isAny.f a0).bind fun t136001 => (if t136001 = true then ((impl_isAny.f a1).bind fun t136002 => (if t136002 = true then (some ((Go.bits .andNot .i64 a0 a1) == 0)) else (some false))) else (some false))
set_option maxHeartbeats 8000000 in
set_option maxRecDepth 100000 in
theorem impl_IsSubset.calls (a0 : Int) (a1 : Int) (r : Bool) (w : World) (h : impl_IsSubset.f a0 a1 = some r) :
  Calls Try.prog 135 #[.int .i64 a0, .int .i64 a1] w fun e w' => e = .returned (.bool r) ∧ Drawn0 w w' := by
 have H : ((impl_isAny.f a0).bind fun t136001 => (if t136001 = true then ((impl_isAny.f a1).bind fun t136002 => (if t136002 = true then (some ((Go.bits .andNot .i64 a0 a1) == 0)) else (some false))) else (some false))) = some r := h
 clear h
 replace H := Option.bind_eq_some_iff.mp H
 obtain ⟨t136001, A30, H⟩ := H
 replace H : (if t136001 = true then ((impl_isAny.f a1).bind fun t136002 => (if t136002 = true then (some ((Go.bits .andNot .i64 a0 a1) == 0)) else (some false))) else (some false)) = some r := H
 have A3 := aQ A30
 clear A30
 by_cases c4 : t136001 = true
 ·subst c4
  have H1 : ((impl_isAny.f a1).bind fun t136002 => (if t136002 = true then (some ((Go.bits .andNot .i64 a0 a1) == 0)) else (some false))) = some r := by rw [if_pos rfl] at H; exact H
  clear H
  have H := H1
  clear H1
  replace H := Option.bind_eq_some_iff.mp H
  obtain ⟨t136002, A50, H⟩ := H
  replace H : (if t136002 = true then (some ((Go.bits .andNot .i64 a0 a1) == 0)) else (some false)) = some r := H
  have A5 := aQ A50
  clear A50
  by_cases c6 : t136002 = true
  ·subst c6
   have H1 : (some ((Go.bits .andNot .i64 a0 a1) == 0)) = some r := by rw [if_pos rfl] at H; exact H
   clear H
   have H := H1
   clear H1
   obtain rfl := Option.some.inj H
   go_enter Try.func135, Try.ntmps135
   go_wp2_with (first | ((with_reducible refine gate_callee (f := 133) rfl ?_); refine goesL_ (some 6) rfl rfl Try.func133 (by kernel_rfl) rfl #[.int .i64 a0] rfl lm ?_; (with_reducible refine (impl_isAny.calls a0 true _ A3.out).mono ?_); rintro e w' ⟨rfl, ⟨nd, rfl⟩⟩; refine ⟨_, rfl, ?_⟩) | (go_at_call 133; (with_reducible refine (impl_isAny.calls a1 true _ A5.out).mono ?_); rintro e w' ⟨rfl, ⟨nd, rfl⟩⟩))
   go_ret
   exact ⟨rs_, rd_⟩
  ·replace c6 := Bool.eq_false_iff.mpr c6
   subst c6
   have H1 : (some false) = some r := by rw [if_neg (show ¬ (false = true) by decide)] at H; exact H
   clear H
   have H := H1
   clear H1
   obtain rfl := Option.some.inj H
   go_enter Try.func135, Try.ntmps135
   go_wp2_with (first | ((with_reducible refine gate_callee (f := 133) rfl ?_); refine goesL_ (some 6) rfl rfl Try.func133 (by kernel_rfl) rfl #[.int .i64 a0] rfl lm ?_; (with_reducible refine (impl_isAny.calls a0 true _ A3.out).mono ?_); rintro e w' ⟨rfl, ⟨nd, rfl⟩⟩; refine ⟨_, rfl, ?_⟩) | (go_at_call 133; (with_reducible refine (impl_isAny.calls a1 false _ A5.out).mono ?_); rintro e w' ⟨rfl, ⟨nd, rfl⟩⟩))
   go_ret
   exact ⟨rs_, rd_⟩
 ·replace c4 := Bool.eq_false_iff.mpr c4
  subst c4
  have H1 : (some false) = some r := by rw [if_neg (show ¬ (false = true) by decide)] at H; exact H
  clear H
  have H := H1
  clear H1
  obtain rfl := Option.some.inj H
  go_enter Try.func135, Try.ntmps135
  go_wp2_with (first | ((with_reducible refine gate_callee (f := 133) rfl ?_); refine goesL_ (some 6) rfl rfl Try.func133 (by kernel_rfl) rfl #[.int .i64 a0] rfl lm ?_; (with_reducible refine (impl_isAny.calls a0 false _ A3.out).mono ?_); rintro e w' ⟨rfl, ⟨nd, rfl⟩⟩; refine ⟨_, rfl, ?_⟩))
  go_ret
  exact ⟨rs_, rd_⟩
/-! ### impl_independent: function 65 -/
def impl_independent.l0 : Nat → Int → List Int → Int → Int → Option (Bool)
 | 0, _, _, _, _ => none
 | k + 1, x1, x8, x9, x10 => if x10 < x9 then (if 0 ≤ x10 then (if x10 < (x8.length : Int) then ((impl_IsSubset.f x1 (rd x8 x10)).bind fun t66003 => (if t66003 = true then (some true) else (impl_independent.l0 k x1 x8 x9 (wrap64 (x10 + 1))))) else (none)) else (none)) else (some false)
def impl_independent.f (k : Nat) (a0_0 : Int) (l0_1 : List Int) (a1 : Int) : Option (Bool) := impl_independent.l0 k a1 l0_1 (l0_1.length : Int) 0
theorem impl_independent.mono_l : ∀ k, (∀ y0 y1 y2 y3, LeO (impl_independent.l0 k y0 y1 y2 y3) (impl_independent.l0 (k + 1) y0 y1 y2 y3))
 | 0 => fun _ _ _ _ r h => by simp [impl_independent.l0] at h
 | k + 1 => by
  have ih0 := impl_independent.mono_l k
  ·intro y0 y1 y2 y3
   unfold impl_independent.l0
   repeat' first
   | (with_reducible exact ih0 _ _ _ _)
   | (with_reducible exact LeO.refl _)
   | (with_reducible exact LeO.none _)
   | (with_reducible refine LeO.ite ?_ ?_)
   | (with_reducible refine LeO.bind ?_ (fun _ => ?_))
   | exact ih0 _ _ _ _
   | exact LeO.none _
   | refine LeO.ite ?_ ?_
   | refine LeO.bind ?_ (fun _ => ?_)
theorem impl_independent.mono : ∀ a0 a1 a2 k, LeO (impl_independent.f k a0 a1 a2) (impl_independent.f (k + 1) a0 a1 a2) := by
 intro a0 a1 a2 k
 have ih0 := impl_independent.mono_l k
 unfold impl_independent.f
 repeat' first
   | (with_reducible exact ih0 _ _ _ _)
   | (with_reducible exact LeO.refl _)
   | (with_reducible exact LeO.none _)
   | (with_reducible refine LeO.ite ?_ ?_)
   | (with_reducible refine LeO.bind ?_ (fun _ => ?_))
   | exact ih0 _ _ _ _
   | exact LeO.none _
   | refine LeO.ite ?_ ?_
   | refine LeO.bind ?_ (fun _ => ?_)
set_option maxHeartbeats 8000000 in
set_option maxRecDepth 100000 in
theorem impl_independent.calls (k : Nat) (a0_0 : Int) (A0_1 : Option Addr) (c0_1 : Nat) (l0_1 : List Int) (a1 : Int) (r : Bool) (w : World) (hr0_1 : Kd.C (Kd.int .i64) w A0_1 l0_1.length l0_1) (hc0_1 : l0_1.length ≤ c0_1) (h : impl_independent.f k a0_0 l0_1 a1 = some r) :
  Calls Try.prog 65 #[.agg #[.int .i64 a0_0, .slice A0_1 l0_1.length c0_1], .int .i64 a1] w fun e w' => e = .returned (.bool r) ∧ Below w.heap.size w w' := by
 have hu26 := Try.underlying26
 have HR0_1 := aQ hr0_1
 have HC0_1 := aQ hc0_1
 clear hr0_1 hc0_1
 have HB := aQ (Below.refl w.heap.size w)
 have H : (impl_independent.l0 k a1 l0_1 (l0_1.length : Int) 0) = some r := h
 clear h
 have H' := aQ H
 clear H
 go_enter Try.func65, Try.ntmps65
 go_wp2_with (first | ((with_reducible refine gate_dst (N := 2) rfl ?_); refine box_event ?hg (N := 2) ?hd (cs := #[.int .i64 a0_0, .slice A0_1 l0_1.length c0_1]) (t := 26) ?hr ?_; (case hd => rfl); (case hg => rfl); (case hr => first | (go_simp; done) | (go_simp; rfl)); intro gb66001 hg w3 hbox hb; have BK66001 := aQ (hbox); have GW66001 := aQ ((by rw [hg]; exact (below_size (pB HB.out)) : w.heap.size ≤ gb66001)); have GE66001 := aQ ((by rw [hg]; exact (below_size (pB HB.out)) : w.heap.size ≤ gb66001)); replace HB := aQ (below_step (pB HB.out) hb); clear hb hbox hg; have hcz4_0 := bc (v := (.int .i64 a0_0)) BK66001.out 0; have hcz4_1 := bc (v := (.slice A0_1 l0_1.length c0_1)) BK66001.out 1; have hfz4_0 := blk_frozen BK66001.out 0; have hfz4_1 := blk_frozen BK66001.out 1))
 go_loopg [10] k (fun kq v10 w' => ∃ (x10_1 : Int), v10 = .int .i64 x10_1 ∧ Aside0 (impl_independent.l0 kq a1 l0_1 (l0_1.length : Int) x10_1 = some r) ∧ Aside0 (kq ≤ k) ∧ Aside0 (w'.heap[gb66001]? = some (.cells #[.int .i64 a0_0, (.slice A0_1 l0_1.length c0_1)] 26 (0, 0))) ∧ Aside0 (Below w.heap.size w w'))
 case atStart => exact ⟨(0), rs_, H', ⟨Nat.le_refl _⟩, ⟨pk BK66001.out⟩, ⟨pB1 HB.out GE66001.out⟩⟩
 case round =>
  clear H'
  try clear p2
  try clear hcz4_0
  try clear hcz4_1
  try clear hfz4_0
  try clear hfz4_1
  obtain ⟨x10_1, rfl, HA, HK1, BK66001, HB⟩ := hrel
  cases gk with
  | zero => exact absurd HA.out (by simp [impl_independent.l0])
  | succ k1 =>
   have H := HA.out
   clear HA
   simp only [impl_independent.l0] at H
   by_cases c5 : x10_1 < (l0_1.length : Int)
   ·rw [if_pos c5] at H
    have c5b0 : decide (x10_1 < (l0_1.length : Int)) = true := decide_eq_true c5
    clear c5
    by_cases c6 : 0 ≤ x10_1
    ·rw [if_pos c6] at H
     have c6b0 : decide (0 ≤ x10_1) = true := decide_eq_true c6
     clear c6
     by_cases c7 : x10_1 < (l0_1.length : Int)
     ·rw [if_pos c7] at H
      have c7b0 : decide (x10_1 < (l0_1.length : Int)) = true := decide_eq_true c7
      clear c7
      replace H := Option.bind_eq_some_iff.mp H
      obtain ⟨t66003, A80, H⟩ := H
      replace H : (if t66003 = true then (some true) else (impl_independent.l0 k1 a1 l0_1 (l0_1.length : Int) (wrap64 (x10_1 + 1)))) = some r := H
      have A8 := aQ A80
      clear A80
      by_cases c9 : t66003 = true
      ·subst c9
       have H1 : (some true) = some r := by rw [if_pos rfl] at H; exact H
       clear H
       have H := H1
       clear H1
       obtain rfl := Option.some.inj H
       have p66002 : 0 ≤ (x10_1 : Int) := of_decide_eq_true as_
       have q66002 : x10_1 < (l0_1.length : Int) := of_decide_eq_true as_
       obtain ⟨ad66002, e66002, hx66002_0⟩ := Kd.at_int HR0_1.out x10_1 p66002 q66002
       cases e66002
       replace hx66002_0 := (HB.out.cell (World.block_lt_of_cell? w _ hx66002_0)).trans hx66002_0
       replace p66002 := eq_true p66002
       replace q66002 := eq_true q66002
       go_wp2_with (first | ((with_reducible refine gate_callee (f := 135) rfl ?_); refine goesL_ (some 16) rfl rfl Try.func135 (by kernel_rfl) rfl #[.int .i64 a1, .int .i64 (rd l0_1 x10_1)] rfl lm ?_; (with_reducible refine (impl_IsSubset.calls a1 (rd l0_1 x10_1) true _ A8.out).mono ?_); rintro e w' ⟨rfl, ⟨nd, rfl⟩⟩; refine ⟨_, rfl, ?_⟩))
       go_ret
       exact ⟨re_, pB1 HB.out GE66001.out⟩
      ·replace c9 := Bool.eq_false_iff.mpr c9
       subst c9
       have H1 : (impl_independent.l0 k1 a1 l0_1 (l0_1.length : Int) (wrap64 (x10_1 + 1))) = some r := by rw [if_neg (show ¬ (false = true) by decide)] at H; exact H
       clear H
       have H := H1
       clear H1
       have H' := aQ H
       clear H
       have p66002 : 0 ≤ (x10_1 : Int) := of_decide_eq_true as_
       have q66002 : x10_1 < (l0_1.length : Int) := of_decide_eq_true as_
       obtain ⟨ad66002, e66002, hx66002_0⟩ := Kd.at_int HR0_1.out x10_1 p66002 q66002
       cases e66002
       replace hx66002_0 := (HB.out.cell (World.block_lt_of_cell? w _ hx66002_0)).trans hx66002_0
       replace p66002 := eq_true p66002
       replace q66002 := eq_true q66002
       go_wp2_with (first | ((with_reducible refine gate_callee (f := 135) rfl ?_); refine goesL_ (some 16) rfl rfl Try.func135 (by kernel_rfl) rfl #[.int .i64 a1, .int .i64 (rd l0_1 x10_1)] rfl lm ?_; (with_reducible refine (impl_IsSubset.calls a1 (rd l0_1 x10_1) false _ A8.out).mono ?_); rintro e w' ⟨rfl, ⟨nd, rfl⟩⟩; refine ⟨_, rfl, ?_⟩))
       go_roundg k1
       case measure => have := HK1.out; omega
       case rel => exact ⟨(wrap64 (x10_1 + 1)), rs_, H', ⟨by have := HK1.out; omega⟩, ⟨pk BK66001.out⟩, ⟨pB1 HB.out GE66001.out⟩⟩
     ·rw [if_neg c7] at H
      exact absurd H (by simp)
    ·rw [if_neg c6] at H
     exact absurd H (by simp)
   ·rw [if_neg c5] at H
    have c5b0 : decide (x10_1 < (l0_1.length : Int)) = false := decide_eq_false c5
    clear c5
    obtain rfl := Option.some.inj H
    go_wp2
    go_ret
    exact ⟨re_, pB1 HB.out GE66001.out⟩
/-! ### impl_together: function 136 -/
def impl_together.f (k : Nat) (a0_0 : Int) (l0_1 : List Int) (a1_0 : Int) (l1_1 : List Int) : Option (Bool) := (impl_IsMatroid.f k a0_0 l0_1).bind fun t137003 => (if t137003 = true then ((impl_IsMatroid.f k a1_0 l1_1).bind fun t137004 => (if t137004 = true then (some (a0_0 == a1_0)) else (some false))) else (some false))
theorem impl_together.mono : ∀ a0 a1 a2 a3 k, LeO (impl_together.f k a0 a1 a2 a3) (impl_together.f (k + 1) a0 a1 a2 a3) := by
 intro a0 a1 a2 a3 k
 unfold impl_together.f
 repeat' first
   | (with_reducible exact impl_IsMatroid.mono _ _ _)
   | (with_reducible exact LeO.refl _)
   | (with_reducible exact LeO.none _)
   | (with_reducible refine LeO.ite ?_ ?_)
   | (with_reducible refine LeO.bind ?_ (fun _ => ?_))
   | exact impl_IsMatroid.mono _ _ _
   | exact LeO.none _
   | refine LeO.ite ?_ ?_
   | refine LeO.bind ?_ (fun _ => ?_)
set_option maxHeartbeats 8000000 in
set_option maxRecDepth 100000 in
theorem impl_together.calls (k : Nat) (a0_0 : Int) (A0_1 : Option Addr) (c0_1 : Nat) (l0_1 : List Int) (a1_0 : Int) (A1_1 : Option Addr) (c1_1 : Nat) (l1_1 : List Int) (r : Bool) (w : World) (hr0_1 : Kd.C (Kd.int .i64) w A0_1 l0_1.length l0_1) (hc0_1 : l0_1.length ≤ c0_1) (hr1_1 : Kd.C (Kd.int .i64) w A1_1 l1_1.length l1_1) (hc1_1 : l1_1.length ≤ c1_1) (h : impl_together.f k a0_0 l0_1 a1_0 l1_1 = some r) :
  Calls Try.prog 136 #[.agg #[.int .i64 a0_0, .slice A0_1 l0_1.length c0_1], .agg #[.int .i64 a1_0, .slice A1_1 l1_1.length c1_1]] w fun e w' => e = .returned (.bool r) ∧ Below w.heap.size w w' := by
 have hu26 := Try.underlying26
 have HR0_1 := aQ hr0_1
 have HC0_1 := aQ hc0_1
 clear hr0_1 hc0_1
 have HR1_1 := aQ hr1_1
 have HC1_1 := aQ hc1_1
 clear hr1_1 hc1_1
 have HB := aQ (Below.refl w.heap.size w)
 have H : ((impl_IsMatroid.f k a0_0 l0_1).bind fun t137003 => (if t137003 = true then ((impl_IsMatroid.f k a1_0 l1_1).bind fun t137004 => (if t137004 = true then (some (a0_0 == a1_0)) else (some false))) else (some false))) = some r := h
 clear h
 replace H := Option.bind_eq_some_iff.mp H
 obtain ⟨t137003, A30, H⟩ := H
 replace H : (if t137003 = true then ((impl_IsMatroid.f k a1_0 l1_1).bind fun t137004 => (if t137004 = true then (some (a0_0 == a1_0)) else (some false))) else (some false)) = some r := H
 have A3 := aQ A30
 clear A30
 by_cases c4 : t137003 = true
 ·subst c4
  have H1 : ((impl_IsMatroid.f k a1_0 l1_1).bind fun t137004 => (if t137004 = true then (some (a0_0 == a1_0)) else (some false))) = some r := by rw [if_pos rfl] at H; exact H
  clear H
  have H := H1
  clear H1
  replace H := Option.bind_eq_some_iff.mp H
  obtain ⟨t137004, A50, H⟩ := H
  replace H : (if t137004 = true then (some (a0_0 == a1_0)) else (some false)) = some r := H
  have A5 := aQ A50
  clear A50
  by_cases c6 : t137004 = true
  ·subst c6
   have H1 : (some (a0_0 == a1_0)) = some r := by rw [if_pos rfl] at H; exact H
   clear H
   have H := H1
   clear H1
   obtain rfl := Option.some.inj H
   go_enter Try.func136, Try.ntmps136
   go_wp2_with (first | ((with_reducible refine gate_dst (N := 2) rfl ?_); refine box_event ?hg (N := 2) ?hd (cs := #[.int .i64 a0_0, .slice A0_1 l0_1.length c0_1]) (t := 26) ?hr ?_; (case hd => rfl); (case hg => rfl); (case hr => first | (go_simp; done) | (go_simp; rfl)); intro gb137001 hg w7 hbox hb; have BK137001 := aQ (hbox); have GW137001 := aQ ((by rw [hg]; exact (below_size (pB HB.out)) : w.heap.size ≤ gb137001)); have GE137001 := aQ ((by rw [hg]; exact (below_size (pB HB.out)) : w.heap.size ≤ gb137001)); replace HB := aQ (below_step (pB HB.out) hb); clear hb hbox hg) | ((with_reducible refine gate_dst (N := 3) rfl ?_); refine box_event ?hg (N := 3) ?hd (cs := #[.int .i64 a1_0, .slice A1_1 l1_1.length c1_1]) (t := 26) ?hr ?_; (case hd => rfl); (case hg => rfl); (case hr => first | (go_simp; done) | (go_simp; rfl)); intro gb137002 hg w8 hbox hb; have BK137002 := aQ (hbox); have GW137002 := aQ ((by rw [hg]; exact (below_size (pB1 HB.out GE137001.out)) : w.heap.size ≤ gb137002)); have GE137002 := aQ ((by rw [hg]; exact (below_size (pB1 HB.out GE137001.out)) : w.heap.size ≤ gb137002)); replace HB := aQ (below_step (pB1 HB.out GE137001.out) hb); have NB137001_137002 := aQ ((by rw [hg]; exact Nat.ne_of_lt (blk_lt (g := gb137001) (o := .cells #[.int .i64 a0_0, .slice A0_1 l0_1.length c0_1] 26 (0, 0)) (pk BK137001.out)) : gb137001 ≠ gb137002)); have NB137002_137001 := aQ ((by rw [hg]; exact Nat.ne_of_gt (blk_lt (g := gb137001) (o := .cells #[.int .i64 a0_0, .slice A0_1 l0_1.length c0_1] 26 (0, 0)) (pk BK137001.out)) : gb137002 ≠ gb137001)); replace BK137001 := aQ (blk_below (g := gb137001) (o := .cells #[.int .i64 a0_0, .slice A0_1 l0_1.length c0_1] 26 (0, 0)) (pk BK137001.out) hb); clear hb hbox hg; have hnb9 := NB137001_137002.out; have hnc9 := NB137002_137001.out; have hcz10_0 := bc (v := (.int .i64 a0_0)) BK137001.out 0; have hcz10_1 := bc (v := (.slice A0_1 l0_1.length c0_1)) BK137001.out 1; have hfz10_0 := blk_frozen BK137001.out 0; have hfz10_1 := blk_frozen BK137001.out 1) | ((with_reducible refine gate_callee (f := 60) rfl ?_); refine goesL_ (some 6) rfl rfl Try.func60 (by kernel_rfl) rfl #[.agg #[.int .i64 a0_0, .slice A0_1 l0_1.length c0_1]] rfl lm ?_; (with_reducible refine (impl_IsMatroid.calls k a0_0 _ _ l0_1 true _ ?side1 ?side2 A3.out).mono ?_); (case side1 => exact pC (Kd.C_below HR0_1.out HB.out)); (case side2 => exact HC0_1.out); rintro e w11 ⟨rfl, hb⟩; refine ⟨_, rfl, ?_⟩; replace BK137001 := aQ (blk_below (g := gb137001) (o := .cells #[.int .i64 a0_0, .slice A0_1 l0_1.length c0_1] 26 (0, 0)) (pk BK137001.out) hb); replace BK137002 := aQ (blk_below (g := gb137002) (o := .cells #[.int .i64 a1_0, .slice A1_1 l1_1.length c1_1] 26 (0, 0)) (pk BK137002.out) hb); replace HB := aQ (below_step (pB2 HB.out GE137001.out GE137002.out) hb); (try clear hb); have hcz12_0 := bc (v := (.int .i64 a1_0)) BK137002.out 0; have hcz12_1 := bc (v := (.slice A1_1 l1_1.length c1_1)) BK137002.out 1; have hfz12_0 := blk_frozen BK137002.out 0; have hfz12_1 := blk_frozen BK137002.out 1) | (go_at_call 60; (with_reducible refine (impl_IsMatroid.calls k a1_0 _ _ l1_1 true _ ?side1 ?side2 A5.out).mono ?_); (case side1 => exact pC (Kd.C_below HR1_1.out HB.out)); (case side2 => exact HC1_1.out); rintro e w13 ⟨rfl, hb⟩; replace BK137001 := aQ (blk_below (g := gb137001) (o := .cells #[.int .i64 a0_0, .slice A0_1 l0_1.length c0_1] 26 (0, 0)) (pk BK137001.out) hb); replace BK137002 := aQ (blk_below (g := gb137002) (o := .cells #[.int .i64 a1_0, .slice A1_1 l1_1.length c1_1] 26 (0, 0)) (pk BK137002.out) hb); replace HB := aQ (below_step (pB2 HB.out GE137001.out GE137002.out) hb); (try clear hb); have hcz14_0 := bc (v := (.int .i64 a0_0)) BK137001.out 0; have hcz14_1 := bc (v := (.slice A0_1 l0_1.length c0_1)) BK137001.out 1; have hfz14_0 := blk_frozen BK137001.out 0; have hfz14_1 := blk_frozen BK137001.out 1; have hcz15_0 := bc (v := (.int .i64 a1_0)) BK137002.out 0; have hcz15_1 := bc (v := (.slice A1_1 l1_1.length c1_1)) BK137002.out 1; have hfz15_0 := blk_frozen BK137002.out 0; have hfz15_1 := blk_frozen BK137002.out 1))
   go_ret
   exact ⟨re_, pB2 HB.out GE137001.out GE137002.out⟩
  ·replace c6 := Bool.eq_false_iff.mpr c6
   subst c6
   have H1 : (some false) = some r := by rw [if_neg (show ¬ (false = true) by decide)] at H; exact H
   clear H
   have H := H1
   clear H1
   obtain rfl := Option.some.inj H
   go_enter Try.func136, Try.ntmps136
   go_wp2_with (first | ((with_reducible refine gate_dst (N := 2) rfl ?_); refine box_event ?hg (N := 2) ?hd (cs := #[.int .i64 a0_0, .slice A0_1 l0_1.length c0_1]) (t := 26) ?hr ?_; (case hd => rfl); (case hg => rfl); (case hr => first | (go_simp; done) | (go_simp; rfl)); intro gb137001 hg w16 hbox hb; have BK137001 := aQ (hbox); have GW137001 := aQ ((by rw [hg]; exact (below_size (pB HB.out)) : w.heap.size ≤ gb137001)); have GE137001 := aQ ((by rw [hg]; exact (below_size (pB HB.out)) : w.heap.size ≤ gb137001)); replace HB := aQ (below_step (pB HB.out) hb); clear hb hbox hg) | ((with_reducible refine gate_dst (N := 3) rfl ?_); refine box_event ?hg (N := 3) ?hd (cs := #[.int .i64 a1_0, .slice A1_1 l1_1.length c1_1]) (t := 26) ?hr ?_; (case hd => rfl); (case hg => rfl); (case hr => first | (go_simp; done) | (go_simp; rfl)); intro gb137002 hg w17 hbox hb; have BK137002 := aQ (hbox); have GW137002 := aQ ((by rw [hg]; exact (below_size (pB1 HB.out GE137001.out)) : w.heap.size ≤ gb137002)); have GE137002 := aQ ((by rw [hg]; exact (below_size (pB1 HB.out GE137001.out)) : w.heap.size ≤ gb137002)); replace HB := aQ (below_step (pB1 HB.out GE137001.out) hb); have NB137001_137002 := aQ ((by rw [hg]; exact Nat.ne_of_lt (blk_lt (g := gb137001) (o := .cells #[.int .i64 a0_0, .slice A0_1 l0_1.length c0_1] 26 (0, 0)) (pk BK137001.out)) : gb137001 ≠ gb137002)); have NB137002_137001 := aQ ((by rw [hg]; exact Nat.ne_of_gt (blk_lt (g := gb137001) (o := .cells #[.int .i64 a0_0, .slice A0_1 l0_1.length c0_1] 26 (0, 0)) (pk BK137001.out)) : gb137002 ≠ gb137001)); replace BK137001 := aQ (blk_below (g := gb137001) (o := .cells #[.int .i64 a0_0, .slice A0_1 l0_1.length c0_1] 26 (0, 0)) (pk BK137001.out) hb); clear hb hbox hg; have hnb18 := NB137001_137002.out; have hnc18 := NB137002_137001.out; have hcz19_0 := bc (v := (.int .i64 a0_0)) BK137001.out 0; have hcz19_1 := bc (v := (.slice A0_1 l0_1.length c0_1)) BK137001.out 1; have hfz19_0 := blk_frozen BK137001.out 0; have hfz19_1 := blk_frozen BK137001.out 1) | ((with_reducible refine gate_callee (f := 60) rfl ?_); refine goesL_ (some 6) rfl rfl Try.func60 (by kernel_rfl) rfl #[.agg #[.int .i64 a0_0, .slice A0_1 l0_1.length c0_1]] rfl lm ?_; (with_reducible refine (impl_IsMatroid.calls k a0_0 _ _ l0_1 true _ ?side1 ?side2 A3.out).mono ?_); (case side1 => exact pC (Kd.C_below HR0_1.out HB.out)); (case side2 => exact HC0_1.out); rintro e w20 ⟨rfl, hb⟩; refine ⟨_, rfl, ?_⟩; replace BK137001 := aQ (blk_below (g := gb137001) (o := .cells #[.int .i64 a0_0, .slice A0_1 l0_1.length c0_1] 26 (0, 0)) (pk BK137001.out) hb); replace BK137002 := aQ (blk_below (g := gb137002) (o := .cells #[.int .i64 a1_0, .slice A1_1 l1_1.length c1_1] 26 (0, 0)) (pk BK137002.out) hb); replace HB := aQ (below_step (pB2 HB.out GE137001.out GE137002.out) hb); (try clear hb); have hcz21_0 := bc (v := (.int .i64 a1_0)) BK137002.out 0; have hcz21_1 := bc (v := (.slice A1_1 l1_1.length c1_1)) BK137002.out 1; have hfz21_0 := blk_frozen BK137002.out 0; have hfz21_1 := blk_frozen BK137002.out 1) | (go_at_call 60; (with_reducible refine (impl_IsMatroid.calls k a1_0 _ _ l1_1 false _ ?side1 ?side2 A5.out).mono ?_); (case side1 => exact pC (Kd.C_below HR1_1.out HB.out)); (case side2 => exact HC1_1.out); rintro e w22 ⟨rfl, hb⟩; replace BK137001 := aQ (blk_below (g := gb137001) (o := .cells #[.int .i64 a0_0, .slice A0_1 l0_1.length c0_1] 26 (0, 0)) (pk BK137001.out) hb); replace BK137002 := aQ (blk_below (g := gb137002) (o := .cells #[.int .i64 a1_0, .slice A1_1 l1_1.length c1_1] 26 (0, 0)) (pk BK137002.out) hb); replace HB := aQ (below_step (pB2 HB.out GE137001.out GE137002.out) hb); (try clear hb)))
   go_ret
   exact ⟨re_, pB2 HB.out GE137001.out GE137002.out⟩
 ·replace c4 := Bool.eq_false_iff.mpr c4
  subst c4
  have H1 : (some false) = some r := by rw [if_neg (show ¬ (false = true) by decide)] at H; exact H
  clear H
  have H := H1
  clear H1
  obtain rfl := Option.some.inj H
  go_enter Try.func136, Try.ntmps136
  go_wp2_with (first | ((with_reducible refine gate_dst (N := 2) rfl ?_); refine box_event ?hg (N := 2) ?hd (cs := #[.int .i64 a0_0, .slice A0_1 l0_1.length c0_1]) (t := 26) ?hr ?_; (case hd => rfl); (case hg => rfl); (case hr => first | (go_simp; done) | (go_simp; rfl)); intro gb137001 hg w23 hbox hb; have BK137001 := aQ (hbox); have GW137001 := aQ ((by rw [hg]; exact (below_size (pB HB.out)) : w.heap.size ≤ gb137001)); have GE137001 := aQ ((by rw [hg]; exact (below_size (pB HB.out)) : w.heap.size ≤ gb137001)); replace HB := aQ (below_step (pB HB.out) hb); clear hb hbox hg) | ((with_reducible refine gate_dst (N := 3) rfl ?_); refine box_event ?hg (N := 3) ?hd (cs := #[.int .i64 a1_0, .slice A1_1 l1_1.length c1_1]) (t := 26) ?hr ?_; (case hd => rfl); (case hg => rfl); (case hr => first | (go_simp; done) | (go_simp; rfl)); intro gb137002 hg w24 hbox hb; have BK137002 := aQ (hbox); have GW137002 := aQ ((by rw [hg]; exact (below_size (pB1 HB.out GE137001.out)) : w.heap.size ≤ gb137002)); have GE137002 := aQ ((by rw [hg]; exact (below_size (pB1 HB.out GE137001.out)) : w.heap.size ≤ gb137002)); replace HB := aQ (below_step (pB1 HB.out GE137001.out) hb); have NB137001_137002 := aQ ((by rw [hg]; exact Nat.ne_of_lt (blk_lt (g := gb137001) (o := .cells #[.int .i64 a0_0, .slice A0_1 l0_1.length c0_1] 26 (0, 0)) (pk BK137001.out)) : gb137001 ≠ gb137002)); have NB137002_137001 := aQ ((by rw [hg]; exact Nat.ne_of_gt (blk_lt (g := gb137001) (o := .cells #[.int .i64 a0_0, .slice A0_1 l0_1.length c0_1] 26 (0, 0)) (pk BK137001.out)) : gb137002 ≠ gb137001)); replace BK137001 := aQ (blk_below (g := gb137001) (o := .cells #[.int .i64 a0_0, .slice A0_1 l0_1.length c0_1] 26 (0, 0)) (pk BK137001.out) hb); clear hb hbox hg; have hnb25 := NB137001_137002.out; have hnc25 := NB137002_137001.out; have hcz26_0 := bc (v := (.int .i64 a0_0)) BK137001.out 0; have hcz26_1 := bc (v := (.slice A0_1 l0_1.length c0_1)) BK137001.out 1; have hfz26_0 := blk_frozen BK137001.out 0; have hfz26_1 := blk_frozen BK137001.out 1) | ((with_reducible refine gate_callee (f := 60) rfl ?_); refine goesL_ (some 6) rfl rfl Try.func60 (by kernel_rfl) rfl #[.agg #[.int .i64 a0_0, .slice A0_1 l0_1.length c0_1]] rfl lm ?_; (with_reducible refine (impl_IsMatroid.calls k a0_0 _ _ l0_1 false _ ?side1 ?side2 A3.out).mono ?_); (case side1 => exact pC (Kd.C_below HR0_1.out HB.out)); (case side2 => exact HC0_1.out); rintro e w27 ⟨rfl, hb⟩; refine ⟨_, rfl, ?_⟩; replace BK137001 := aQ (blk_below (g := gb137001) (o := .cells #[.int .i64 a0_0, .slice A0_1 l0_1.length c0_1] 26 (0, 0)) (pk BK137001.out) hb); replace BK137002 := aQ (blk_below (g := gb137002) (o := .cells #[.int .i64 a1_0, .slice A1_1 l1_1.length c1_1] 26 (0, 0)) (pk BK137002.out) hb); replace HB := aQ (below_step (pB2 HB.out GE137001.out GE137002.out) hb); (try clear hb)))
  go_ret
  exact ⟨re_, pB2 HB.out GE137001.out GE137002.out⟩
/-! ### spec_HasElement: function 143 -/
def spec_HasElement.f (a0 : Int) (a1 : Int) : Option (Bool) := (spec_IsSet.f 8 a0).bind fun t144001 => (if t144001 = true then ((spec_l1In.f a1 0 7).bind fun t144002 => (if t144002 = true then ((spec_l2Has.f a0 a1).bind fun t144003 => (some t144003)) else (some false))) else (some false))
set_option maxHeartbeats 8000000 in
set_option maxRecDepth 100000 in
theorem spec_HasElement.calls (a0 : Int) (a1 : Int) (r : Bool) (w : World) (h : spec_HasElement.f a0 a1 = some r) :
  Calls Try.prog 143 #[.int .i64 a0, .int .i64 a1] w fun e w' => e = .returned (.bool r) ∧ Drawn0 w w' := by
 have H : ((spec_IsSet.f 8 a0).bind fun t144001 => (if t144001 = true then ((spec_l1In.f a1 0 7).bind fun t144002 => (if t144002 = true then ((spec_l2Has.f a0 a1).bind fun t144003 => (some t144003)) else (some false))) else (some false))) = some r := h
 clear h
 replace H := Option.bind_eq_some_iff.mp H
 obtain ⟨t144001, A30, H⟩ := H
 replace H : (if t144001 = true then ((spec_l1In.f a1 0 7).bind fun t144002 => (if t144002 = true then ((spec_l2Has.f a0 a1).bind fun t144003 => (some t144003)) else (some false))) else (some false)) = some r := H
 have A3 := aQ A30
 clear A30
 by_cases c4 : t144001 = true
 ·subst c4
  have H1 : ((spec_l1In.f a1 0 7).bind fun t144002 => (if t144002 = true then ((spec_l2Has.f a0 a1).bind fun t144003 => (some t144003)) else (some false))) = some r := by rw [if_pos rfl] at H; exact H
  clear H
  have H := H1
  clear H1
  replace H := Option.bind_eq_some_iff.mp H
  obtain ⟨t144002, A50, H⟩ := H
  replace H : (if t144002 = true then ((spec_l2Has.f a0 a1).bind fun t144003 => (some t144003)) else (some false)) = some r := H
  have A5 := aQ A50
  clear A50
  by_cases c6 : t144002 = true
  ·subst c6
   have H1 : ((spec_l2Has.f a0 a1).bind fun t144003 => (some t144003)) = some r := by rw [if_pos rfl] at H; exact H
   clear H
   have H := H1
   clear H1
   replace H := Option.bind_eq_some_iff.mp H
   obtain ⟨t144003, A70, H⟩ := H
   replace H : (some t144003) = some r := H
   have A7 := aQ A70
   clear A70
   obtain rfl := Option.some.inj H
   go_enter Try.func143, Try.ntmps143
   go_wp2_with (first | ((with_reducible refine gate_callee (f := 129) rfl ?_); refine goesL_ (some 6) rfl rfl Try.func129 (by kernel_rfl) rfl #[.int .i64 8, .int .i64 a0] rfl lm ?_; (with_reducible refine (spec_IsSet.calls 8 a0 true _ A3.out).mono ?_); rintro e w' ⟨rfl, ⟨nd, rfl⟩⟩; refine ⟨_, rfl, ?_⟩) | (go_at_call 55; (with_reducible refine (spec_l1In.calls a1 0 7 true _ A5.out).mono ?_); rintro e w' ⟨rfl, ⟨nd, rfl⟩⟩) | (go_at_call 68; (with_reducible refine (spec_l2Has.calls a0 a1 t144003 _ A7.out).mono ?_); rintro e w' ⟨rfl, ⟨nd, rfl⟩⟩))
   go_ret
   exact ⟨rs_, rd_⟩
  ·replace c6 := Bool.eq_false_iff.mpr c6
   subst c6
   have H1 : (some false) = some r := by rw [if_neg (show ¬ (false = true) by decide)] at H; exact H
   clear H
   have H := H1
   clear H1
   obtain rfl := Option.some.inj H
   go_enter Try.func143, Try.ntmps143
   go_wp2_with (first | ((with_reducible refine gate_callee (f := 129) rfl ?_); refine goesL_ (some 6) rfl rfl Try.func129 (by kernel_rfl) rfl #[.int .i64 8, .int .i64 a0] rfl lm ?_; (with_reducible refine (spec_IsSet.calls 8 a0 true _ A3.out).mono ?_); rintro e w' ⟨rfl, ⟨nd, rfl⟩⟩; refine ⟨_, rfl, ?_⟩) | (go_at_call 55; (with_reducible refine (spec_l1In.calls a1 0 7 false _ A5.out).mono ?_); rintro e w' ⟨rfl, ⟨nd, rfl⟩⟩))
   go_ret
   exact ⟨rs_, rd_⟩
 ·replace c4 := Bool.eq_false_iff.mpr c4
  subst c4
  have H1 : (some false) = some r := by rw [if_neg (show ¬ (false = true) by decide)] at H; exact H
  clear H
  have H := H1
  clear H1
  obtain rfl := Option.some.inj H
  go_enter Try.func143, Try.ntmps143
  go_wp2_with (first | ((with_reducible refine gate_callee (f := 129) rfl ?_); refine goesL_ (some 6) rfl rfl Try.func129 (by kernel_rfl) rfl #[.int .i64 8, .int .i64 a0] rfl lm ?_; (with_reducible refine (spec_IsSet.calls 8 a0 false _ A3.out).mono ?_); rintro e w' ⟨rfl, ⟨nd, rfl⟩⟩; refine ⟨_, rfl, ?_⟩))
  go_ret
  exact ⟨rs_, rd_⟩
/-! ### spec_WeightOf: function 79 -/
def spec_WeightOf.l0 : Nat → List Int → Int → Int → Int → Option (Int)
 | 0, _, _, _, _ => none
 | k + 1, x0, x1, x5, x6 => if x6 < (x0.length : Int) then ((spec_HasElement.f x1 x6).bind fun t80001 => (if t80001 = true then (if 0 ≤ x6 then (spec_WeightOf.l0 k x0 x1 (wrap64 (x5 + (rd x0 x6))) (wrap64 (x6 + 1))) else (none)) else (spec_WeightOf.l0 k x0 x1 x5 (wrap64 (x6 + 1))))) else (some x5)
def spec_WeightOf.f (k : Nat) (l0 : List Int) (a1 : Int) : Option (Int) := spec_WeightOf.l0 k l0 a1 0 0
theorem spec_WeightOf.mono_l : ∀ k, (∀ y0 y1 y2 y3, LeO (spec_WeightOf.l0 k y0 y1 y2 y3) (spec_WeightOf.l0 (k + 1) y0 y1 y2 y3))
 | 0 => fun _ _ _ _ r h => by simp [spec_WeightOf.l0] at h
 | k + 1 => by
  have ih0 := spec_WeightOf.mono_l k
  ·intro y0 y1 y2 y3
   unfold spec_WeightOf.l0
   repeat' first
   | (with_reducible exact ih0 _ _ _ _)
   | (with_reducible exact LeO.refl _)
   | (with_reducible exact LeO.none _)
   | (with_reducible refine LeO.ite ?_ ?_)
   | (with_reducible refine LeO.bind ?_ (fun _ => ?_))
   | exact ih0 _ _ _ _
   | exact LeO.none _
   | refine LeO.ite ?_ ?_
   | refine LeO.bind ?_ (fun _ => ?_)
theorem spec_WeightOf.mono : ∀ a0 a1 k, LeO (spec_WeightOf.f k a0 a1) (spec_WeightOf.f (k + 1) a0 a1) := by
 intro a0 a1 k
 have ih0 := spec_WeightOf.mono_l k
 unfold spec_WeightOf.f
 repeat' first
   | (with_reducible exact ih0 _ _ _ _)
   | (with_reducible exact LeO.refl _)
   | (with_reducible exact LeO.none _)
   | (with_reducible refine LeO.ite ?_ ?_)
   | (with_reducible refine LeO.bind ?_ (fun _ => ?_))
   | exact ih0 _ _ _ _
   | exact LeO.none _
   | refine LeO.ite ?_ ?_
   | refine LeO.bind ?_ (fun _ => ?_)
set_option maxHeartbeats 8000000 in
set_option maxRecDepth 100000 in
theorem spec_WeightOf.calls (k : Nat) (A0 : Option Addr) (c0 : Nat) (l0 : List Int) (a1 : Int) (r : Int) (w : World) (hr0 : Kd.C (Kd.int .i64) w A0 l0.length l0) (hc0 : l0.length ≤ c0) (h : spec_WeightOf.f k l0 a1 = some r) :
  Calls Try.prog 79 #[.slice A0 l0.length c0, .int .i64 a1] w fun e w' => e = .returned (.int .i64 r) ∧ Drawn0 w w' := by
 have HR0 := aQ hr0
 have HC0 := aQ hc0
 clear hr0 hc0
 have H : (spec_WeightOf.l0 k l0 a1 0 0) = some r := h
 clear h
 have H' := aQ H
 clear H
 go_enter Try.func79, Try.ntmps79
 go_wp2
 go_loopg [5, 6] k (fun kq v5 v6 w' => ∃ (x5_1 : Int) (x6_1 : Int), v5 = .int .i64 x5_1 ∧ v6 = .int .i64 x6_1 ∧ Aside0 (spec_WeightOf.l0 kq l0 a1 x5_1 x6_1 = some r) ∧ Aside0 (kq ≤ k) ∧ Drawn0 w w')
 case atStart => exact ⟨(0), (0), rs_, rs_, H', ⟨Nat.le_refl _⟩, rd_⟩
 case round =>
  clear H'
  try clear p2
  obtain ⟨x5_1, x6_1, rfl, rfl, HA, HK1, ⟨m1, rfl⟩⟩ := hrel
  cases gk with
  | zero => exact absurd HA.out (by simp [spec_WeightOf.l0])
  | succ k1 =>
   have H := HA.out
   clear HA
   simp only [spec_WeightOf.l0] at H
   by_cases c3 : x6_1 < (l0.length : Int)
   ·rw [if_pos c3] at H
    have c3b0 : decide (x6_1 < (l0.length : Int)) = true := decide_eq_true c3
    clear c3
    replace H := Option.bind_eq_some_iff.mp H
    obtain ⟨t80001, A40, H⟩ := H
    replace H : (if t80001 = true then (if 0 ≤ x6_1 then (spec_WeightOf.l0 k1 l0 a1 (wrap64 (x5_1 + (rd l0 x6_1))) (wrap64 (x6_1 + 1))) else (none)) else (spec_WeightOf.l0 k1 l0 a1 x5_1 (wrap64 (x6_1 + 1)))) = some r := H
    have A4 := aQ A40
    clear A40
    by_cases c5 : t80001 = true
    ·subst c5
     have H1 : (if 0 ≤ x6_1 then (spec_WeightOf.l0 k1 l0 a1 (wrap64 (x5_1 + (rd l0 x6_1))) (wrap64 (x6_1 + 1))) else (none)) = some r := by rw [if_pos rfl] at H; exact H
     clear H
     have H := H1
     clear H1
     by_cases c6 : 0 ≤ x6_1
     ·rw [if_pos c6] at H
      have c6b0 : decide (0 ≤ x6_1) = true := decide_eq_true c6
      clear c6
      have H' := aQ H
      clear H
      go_wp2_with (first | ((with_reducible refine gate_callee (f := 143) rfl ?_); refine goesL_ (some 15) rfl rfl Try.func143 (by kernel_rfl) rfl #[.int .i64 a1, .int .i64 x6_1] rfl lm ?_; (with_reducible refine (spec_HasElement.calls a1 x6_1 true _ A4.out).mono ?_); rintro e w' ⟨rfl, ⟨nd, rfl⟩⟩; refine ⟨_, rfl, ?_⟩; have p80002 : 0 ≤ (x6_1 : Int) := of_decide_eq_true as_; have q80002 : x6_1 < (l0.length : Int) := of_decide_eq_true as_; obtain ⟨ad80002, e80002, hx80002_0⟩ := Kd.at_int HR0.out x6_1 p80002 q80002; cases e80002; replace p80002 := eq_true p80002; replace q80002 := eq_true q80002))
      go_roundg k1
      case measure => have := HK1.out; omega
      case rel => exact ⟨(wrap64 (x5_1 + (rd l0 x6_1))), (wrap64 (x6_1 + 1)), rs_, rs_, H', ⟨by have := HK1.out; omega⟩, rd_⟩
     ·rw [if_neg c6] at H
      exact absurd H (by simp)
    ·replace c5 := Bool.eq_false_iff.mpr c5
     subst c5
     have H1 : (spec_WeightOf.l0 k1 l0 a1 x5_1 (wrap64 (x6_1 + 1))) = some r := by rw [if_neg (show ¬ (false = true) by decide)] at H; exact H
     clear H
     have H := H1
     clear H1
     have H' := aQ H
     clear H
     go_wp2_with (first | ((with_reducible refine gate_callee (f := 143) rfl ?_); refine goesL_ (some 15) rfl rfl Try.func143 (by kernel_rfl) rfl #[.int .i64 a1, .int .i64 x6_1] rfl lm ?_; (with_reducible refine (spec_HasElement.calls a1 x6_1 false _ A4.out).mono ?_); rintro e w' ⟨rfl, ⟨nd, rfl⟩⟩; refine ⟨_, rfl, ?_⟩))
     go_roundg k1
     case measure => have := HK1.out; omega
     case rel => exact ⟨(x5_1), (wrap64 (x6_1 + 1)), rs_, rs_, H', ⟨by have := HK1.out; omega⟩, rd_⟩
   ·rw [if_neg c3] at H
    have c3b0 : decide (x6_1 < (l0.length : Int)) = false := decide_eq_false c3
    clear c3
    obtain rfl := Option.some.inj H
    go_wp2
    go_ret
    exact ⟨rs_, rd_⟩
/-! ### spec_AreWeights: function 84 -/
def spec_AreWeights.l0 : Nat → Int → List Int → Int → Option (Bool)
 | 0, _, _, _ => none
 | k + 1, x0, x1, x5 => if x5 < (x1.length : Int) then (if 0 ≤ x5 then ((spec_l1In.f (rd x1 x5) (-1000) 1000).bind fun t85002 => (if t85002 = true then (spec_AreWeights.l0 k x0 x1 (wrap64 (x5 + 1))) else (some false))) else (none)) else ((spec_l1In.f x0 0 8).bind fun t85003 => (if t85003 = true then (some ((x1.length : Int) == x0)) else (some false)))
def spec_AreWeights.f (k : Nat) (a0 : Int) (l1 : List Int) : Option (Bool) := spec_AreWeights.l0 k a0 l1 0
theorem spec_AreWeights.mono_l : ∀ k, (∀ y0 y1 y2, LeO (spec_AreWeights.l0 k y0 y1 y2) (spec_AreWeights.l0 (k + 1) y0 y1 y2))
 | 0 => fun _ _ _ r h => by simp [spec_AreWeights.l0] at h
 | k + 1 => by
  have ih0 := spec_AreWeights.mono_l k
  ·intro y0 y1 y2
   unfold spec_AreWeights.l0
   repeat' first
   | (with_reducible exact ih0 _ _ _)
   | (with_reducible exact LeO.refl _)
   | (with_reducible exact LeO.none _)
   | (with_reducible refine LeO.ite ?_ ?_)
   | (with_reducible refine LeO.bind ?_ (fun _ => ?_))
   | exact ih0 _ _ _
   | exact LeO.none _
   | refine LeO.ite ?_ ?_
   | refine LeO.bind ?_ (fun _ => ?_)
theorem spec_AreWeights.mono : ∀ a0 a1 k, LeO (spec_AreWeights.f k a0 a1) (spec_AreWeights.f (k + 1) a0 a1) := by
 intro a0 a1 k
 have ih0 := spec_AreWeights.mono_l k
 unfold spec_AreWeights.f
 repeat' first
   | (with_reducible exact ih0 _ _ _)
   | (with_reducible exact LeO.refl _)
   | (with_reducible exact LeO.none _)
   | (with_reducible refine LeO.ite ?_ ?_)
   | (with_reducible refine LeO.bind ?_ (fun _ => ?_))
   | exact ih0 _ _ _
   | exact LeO.none _
   | refine LeO.ite ?_ ?_
   | refine LeO.bind ?_ (fun _ => ?_)
set_option maxHeartbeats 8000000 in
set_option maxRecDepth 100000 in
theorem spec_AreWeights.calls (k : Nat) (a0 : Int) (A1 : Option Addr) (c1 : Nat) (l1 : List Int) (r : Bool) (w : World) (hr1 : Kd.C (Kd.int .i64) w A1 l1.length l1) (hc1 : l1.length ≤ c1) (h : spec_AreWeights.f k a0 l1 = some r) :
  Calls Try.prog 84 #[.int .i64 a0, .slice A1 l1.length c1] w fun e w' => e = .returned (.bool r) ∧ Drawn0 w w' := by
 have HR1 := aQ hr1
 have HC1 := aQ hc1
 clear hr1 hc1
 have H : (spec_AreWeights.l0 k a0 l1 0) = some r := h
 clear h
 have H' := aQ H
 clear H
 go_enter Try.func84, Try.ntmps84
 go_wp2
 go_loopg [5] k (fun kq v5 w' => ∃ (x5_1 : Int), v5 = .int .i64 x5_1 ∧ Aside0 (spec_AreWeights.l0 kq a0 l1 x5_1 = some r) ∧ Aside0 (kq ≤ k) ∧ Drawn0 w w')
 case atStart => exact ⟨(0), rs_, H', ⟨Nat.le_refl _⟩, rd_⟩
 case round =>
  clear H'
  try clear c1
  try clear p2
  obtain ⟨x5_1, rfl, HA, HK1, ⟨m1, rfl⟩⟩ := hrel
  cases gk with
  | zero => exact absurd HA.out (by simp [spec_AreWeights.l0])
  | succ k1 =>
   have H := HA.out
   clear HA
   simp only [spec_AreWeights.l0] at H
   by_cases c3 : x5_1 < (l1.length : Int)
   ·rw [if_pos c3] at H
    have c3b0 : decide (x5_1 < (l1.length : Int)) = true := decide_eq_true c3
    clear c3
    by_cases c4 : 0 ≤ x5_1
    ·rw [if_pos c4] at H
     have c4b0 : decide (0 ≤ x5_1) = true := decide_eq_true c4
     clear c4
     replace H := Option.bind_eq_some_iff.mp H
     obtain ⟨t85002, A50, H⟩ := H
     replace H : (if t85002 = true then (spec_AreWeights.l0 k1 a0 l1 (wrap64 (x5_1 + 1))) else (some false)) = some r := H
     have A5 := aQ A50
     clear A50
     by_cases c6 : t85002 = true
     ·subst c6
      have H1 : (spec_AreWeights.l0 k1 a0 l1 (wrap64 (x5_1 + 1))) = some r := by rw [if_pos rfl] at H; exact H
      clear H
      have H := H1
      clear H1
      have H' := aQ H
      clear H
      have p85001 : 0 ≤ (x5_1 : Int) := of_decide_eq_true as_
      have q85001 : x5_1 < (l1.length : Int) := of_decide_eq_true as_
      obtain ⟨ad85001, e85001, hx85001_0⟩ := Kd.at_int HR1.out x5_1 p85001 q85001
      cases e85001
      replace p85001 := eq_true p85001
      replace q85001 := eq_true q85001
      go_wp2_with (first | ((with_reducible refine gate_callee (f := 55) rfl ?_); refine goesL_ (some 16) rfl rfl Try.func55 (by kernel_rfl) rfl #[.int .i64 (rd l1 x5_1), .int .i64 (-1000), .int .i64 1000] rfl lm ?_; (with_reducible refine (spec_l1In.calls (rd l1 x5_1) (-1000) 1000 true _ A5.out).mono ?_); rintro e w' ⟨rfl, ⟨nd, rfl⟩⟩; refine ⟨_, rfl, ?_⟩))
      go_roundg k1
      case measure => have := HK1.out; omega
      case rel => exact ⟨(wrap64 (x5_1 + 1)), rs_, H', ⟨by have := HK1.out; omega⟩, rd_⟩
     ·replace c6 := Bool.eq_false_iff.mpr c6
      subst c6
      have H1 : (some false) = some r := by rw [if_neg (show ¬ (false = true) by decide)] at H; exact H
      clear H
      have H := H1
      clear H1
      obtain rfl := Option.some.inj H
      have p85001 : 0 ≤ (x5_1 : Int) := of_decide_eq_true as_
      have q85001 : x5_1 < (l1.length : Int) := of_decide_eq_true as_
      obtain ⟨ad85001, e85001, hx85001_0⟩ := Kd.at_int HR1.out x5_1 p85001 q85001
      cases e85001
      replace p85001 := eq_true p85001
      replace q85001 := eq_true q85001
      go_wp2_with (first | ((with_reducible refine gate_callee (f := 55) rfl ?_); refine goesL_ (some 16) rfl rfl Try.func55 (by kernel_rfl) rfl #[.int .i64 (rd l1 x5_1), .int .i64 (-1000), .int .i64 1000] rfl lm ?_; (with_reducible refine (spec_l1In.calls (rd l1 x5_1) (-1000) 1000 false _ A5.out).mono ?_); rintro e w' ⟨rfl, ⟨nd, rfl⟩⟩; refine ⟨_, rfl, ?_⟩))
      go_ret
      exact ⟨rs_, rd_⟩
    ·rw [if_neg c4] at H
     exact absurd H (by simp)
   ·rw [if_neg c3] at H
    have c3b0 : decide (x5_1 < (l1.length : Int)) = false := decide_eq_false c3
    clear c3
    replace H := Option.bind_eq_some_iff.mp H
    obtain ⟨t85003, A70, H⟩ := H
    replace H : (if t85003 = true then (some ((l1.length : Int) == a0)) else (some false)) = some r := H
    have A7 := aQ A70
    clear A70
    by_cases c8 : t85003 = true
    ·subst c8
     have H1 : (some ((l1.length : Int) == a0)) = some r := by rw [if_pos rfl] at H; exact H
     clear H
     have H := H1
     clear H1
     obtain rfl := Option.some.inj H
     go_wp2_with (first | ((with_reducible refine gate_callee (f := 55) rfl ?_); refine goesL_ (some 19) rfl rfl Try.func55 (by kernel_rfl) rfl #[.int .i64 a0, .int .i64 0, .int .i64 8] rfl lm ?_; (with_reducible refine (spec_l1In.calls a0 0 8 true _ A7.out).mono ?_); rintro e w' ⟨rfl, ⟨nd, rfl⟩⟩; refine ⟨_, rfl, ?_⟩))
     go_ret
     exact ⟨rs_, rd_⟩
    ·replace c8 := Bool.eq_false_iff.mpr c8
     subst c8
     have H1 : (some false) = some r := by rw [if_neg (show ¬ (false = true) by decide)] at H; exact H
     clear H
     have H := H1
     clear H1
     obtain rfl := Option.some.inj H
     go_wp2_with (first | ((with_reducible refine gate_callee (f := 55) rfl ?_); refine goesL_ (some 19) rfl rfl Try.func55 (by kernel_rfl) rfl #[.int .i64 a0, .int .i64 0, .int .i64 8] rfl lm ?_; (with_reducible refine (spec_l1In.calls a0 0 8 false _ A7.out).mono ?_); rintro e w' ⟨rfl, ⟨nd, rfl⟩⟩; refine ⟨_, rfl, ?_⟩))
     go_ret
     exact ⟨rs_, rd_⟩
/-! ### spec_BestCommon: function 78 -/
mutual
def spec_BestCommon.j0 : Nat → List Int → Int → Bool → Int → List Int → Int → List Int → Option (Int × Bool)
 | 0, _, _, _, _, _, _, _ => none
 | k + 1, x2, x3, x22, x79002000, x79002001, x79003000, x79003001 => if x22 = true then (some (0, false)) else (spec_BestCommon.l0 k x2 x3 (-1) 0 x79002000 x79002001 x79003000 x79003001)
def spec_BestCommon.l0 : Nat → List Int → Int → Int → Int → Int → List Int → Int → List Int → Option (Int × Bool)
 | 0, _, _, _, _, _, _, _, _ => none
 | k + 1, x2, x3, x10, x11, x79002000, x79002001, x79003000, x79003001 => (spec_FullSet.f x79002000).bind fun t79005 => (if x11 ≤ t79005 then ((spec_CountOf.f k x11).bind fun t79006 => (if t79006 = x3 then ((spec_l20Free.f k x79002000 x79002001 x11).bind fun t79007 => (if t79007 = true then ((spec_l20Free.f k x79003000 x79003001 x11).bind fun t79008 => (if t79008 = true then (if x10 < 0 then (spec_BestCommon.l0 k x2 x3 x11 (wrap64 (x11 + 1)) x79002000 x79002001 x79003000 x79003001) else ((spec_WeightOf.f k x2 x11).bind fun t79009 => ((spec_WeightOf.f k x2 x10).bind fun t79010 => (if t79009 > t79010 then (spec_BestCommon.l0 k x2 x3 x11 (wrap64 (x11 + 1)) x79002000 x79002001 x79003000 x79003001) else (spec_BestCommon.l0 k x2 x3 x10 (wrap64 (x11 + 1)) x79002000 x79002001 x79003000 x79003001))))) else (spec_BestCommon.l0 k x2 x3 x10 (wrap64 (x11 + 1)) x79002000 x79002001 x79003000 x79003001))) else (spec_BestCommon.l0 k x2 x3 x10 (wrap64 (x11 + 1)) x79002000 x79002001 x79003000 x79003001))) else (spec_BestCommon.l0 k x2 x3 x10 (wrap64 (x11 + 1)) x79002000 x79002001 x79003000 x79003001))) else (if x10 < 0 then (some (0, false)) else (some (x10, true))))
end
def spec_BestCommon.f (k : Nat) (a0_0 : Int) (l0_1 : List Int) (a1_0 : Int) (l1_1 : List Int) (l2 : List Int) (a3 : Int) : Option (Int × Bool) := (spec_IsCommon.f k a0_0 l0_1 a1_0 l1_1 0).bind fun t79003 => (if t79003 = true then ((spec_AreWeights.f k a0_0 l2).bind fun t79004 => (spec_BestCommon.j0 k l2 a3 (!t79004) a0_0 l0_1 a1_0 l1_1)) else (spec_BestCommon.j0 k l2 a3 true a0_0 l0_1 a1_0 l1_1))
theorem spec_BestCommon.mono_l : ∀ k, (∀ y0 y1 y2 y3 y4 y5 y6, LeO (spec_BestCommon.j0 k y0 y1 y2 y3 y4 y5 y6) (spec_BestCommon.j0 (k + 1) y0 y1 y2 y3 y4 y5 y6)) ∧ (∀ y0 y1 y2 y3 y4 y5 y6 y7, LeO (spec_BestCommon.l0 k y0 y1 y2 y3 y4 y5 y6 y7) (spec_BestCommon.l0 (k + 1) y0 y1 y2 y3 y4 y5 y6 y7))
 | 0 => ⟨fun _ _ _ _ _ _ _ r h => by simp [spec_BestCommon.j0] at h, fun _ _ _ _ _ _ _ _ r h => by simp [spec_BestCommon.l0] at h⟩
 | k + 1 => by
  obtain ⟨ih0, ih1⟩ := spec_BestCommon.mono_l k
  refine ⟨?_, ?_⟩
  ·intro y0 y1 y2 y3 y4 y5 y6
   unfold spec_BestCommon.j0
   repeat' first
   | (with_reducible exact ih0 _ _ _ _ _ _ _)
   | (with_reducible exact ih1 _ _ _ _ _ _ _ _)
   | (with_reducible exact spec_AreWeights.mono _ _ _)
   | (with_reducible exact spec_CountOf.mono _ _)
   | (with_reducible exact spec_IsCommon.mono _ _ _ _ _ _)
   | (with_reducible exact spec_WeightOf.mono _ _ _)
   | (with_reducible exact spec_l20Free.mono _ _ _ _)
   | (with_reducible exact LeO.refl _)
   | (with_reducible exact LeO.none _)
   | (with_reducible refine LeO.ite ?_ ?_)
   | (with_reducible refine LeO.bind ?_ (fun _ => ?_))
   | exact ih0 _ _ _ _ _ _ _
   | exact ih1 _ _ _ _ _ _ _ _
   | exact spec_AreWeights.mono _ _ _
   | exact spec_CountOf.mono _ _
   | exact spec_IsCommon.mono _ _ _ _ _ _
   | exact spec_WeightOf.mono _ _ _
   | exact spec_l20Free.mono _ _ _ _
   | exact LeO.none _
   | refine LeO.ite ?_ ?_
   | refine LeO.bind ?_ (fun _ => ?_)
  ·intro y0 y1 y2 y3 y4 y5 y6 y7
   unfold spec_BestCommon.l0
   repeat' first
   | (with_reducible exact ih0 _ _ _ _ _ _ _)
   | (with_reducible exact ih1 _ _ _ _ _ _ _ _)
   | (with_reducible exact spec_AreWeights.mono _ _ _)
   | (with_reducible exact spec_CountOf.mono _ _)
   | (with_reducible exact spec_IsCommon.mono _ _ _ _ _ _)
   | (with_reducible exact spec_WeightOf.mono _ _ _)
   | (with_reducible exact spec_l20Free.mono _ _ _ _)
   | (with_reducible exact LeO.refl _)
   | (with_reducible exact LeO.none _)
   | (with_reducible refine LeO.ite ?_ ?_)
   | (with_reducible refine LeO.bind ?_ (fun _ => ?_))
   | exact ih0 _ _ _ _ _ _ _
   | exact ih1 _ _ _ _ _ _ _ _
   | exact spec_AreWeights.mono _ _ _
   | exact spec_CountOf.mono _ _
   | exact spec_IsCommon.mono _ _ _ _ _ _
   | exact spec_WeightOf.mono _ _ _
   | exact spec_l20Free.mono _ _ _ _
   | exact LeO.none _
   | refine LeO.ite ?_ ?_
   | refine LeO.bind ?_ (fun _ => ?_)
theorem spec_BestCommon.mono : ∀ a0 a1 a2 a3 a4 a5 k, LeO (spec_BestCommon.f k a0 a1 a2 a3 a4 a5) (spec_BestCommon.f (k + 1) a0 a1 a2 a3 a4 a5) := by
 intro a0 a1 a2 a3 a4 a5 k
 obtain ⟨ih0, ih1⟩ := spec_BestCommon.mono_l k
 unfold spec_BestCommon.f
 repeat' first
   | (with_reducible exact ih0 _ _ _ _ _ _ _)
   | (with_reducible exact ih1 _ _ _ _ _ _ _ _)
   | (with_reducible exact spec_AreWeights.mono _ _ _)
   | (with_reducible exact spec_CountOf.mono _ _)
   | (with_reducible exact spec_IsCommon.mono _ _ _ _ _ _)
   | (with_reducible exact spec_WeightOf.mono _ _ _)
   | (with_reducible exact spec_l20Free.mono _ _ _ _)
   | (with_reducible exact LeO.refl _)
   | (with_reducible exact LeO.none _)
   | (with_reducible refine LeO.ite ?_ ?_)
   | (with_reducible refine LeO.bind ?_ (fun _ => ?_))
   | exact ih0 _ _ _ _ _ _ _
   | exact ih1 _ _ _ _ _ _ _ _
   | exact spec_AreWeights.mono _ _ _
   | exact spec_CountOf.mono _ _
   | exact spec_IsCommon.mono _ _ _ _ _ _
   | exact spec_WeightOf.mono _ _ _
   | exact spec_l20Free.mono _ _ _ _
   | exact LeO.none _
   | refine LeO.ite ?_ ?_
   | refine LeO.bind ?_ (fun _ => ?_)
set_option maxHeartbeats 8000000 in
set_option maxRecDepth 100000 in
theorem spec_BestCommon.calls (k : Nat) (a0_0 : Int) (A0_1 : Option Addr) (c0_1 : Nat) (l0_1 : List Int) (a1_0 : Int) (A1_1 : Option Addr) (c1_1 : Nat) (l1_1 : List Int) (A2 : Option Addr) (c2 : Nat) (l2 : List Int) (a3 : Int) (r1 : Int) (r2 : Bool) (w : World) (hr0_1 : Kd.C (Kd.int .i64) w A0_1 l0_1.length l0_1) (hc0_1 : l0_1.length ≤ c0_1) (hr1_1 : Kd.C (Kd.int .i64) w A1_1 l1_1.length l1_1) (hc1_1 : l1_1.length ≤ c1_1) (hr2 : Kd.C (Kd.int .i64) w A2 l2.length l2) (hc2 : l2.length ≤ c2) (h : spec_BestCommon.f k a0_0 l0_1 a1_0 l1_1 l2 a3 = some (r1, r2)) :
  Calls Try.prog 78 #[.agg #[.int .i64 a0_0, .slice A0_1 l0_1.length c0_1], .agg #[.int .i64 a1_0, .slice A1_1 l1_1.length c1_1], .slice A2 l2.length c2, .int .i64 a3] w fun e w' => e = .returned (.tuple #[.int .i64 r1, .bool r2]) ∧ Below w.heap.size w w' := by
 have hu26 := Try.underlying26
 have HR0_1 := aQ hr0_1
 have HC0_1 := aQ hc0_1
 clear hr0_1 hc0_1
 have HR1_1 := aQ hr1_1
 have HC1_1 := aQ hc1_1
 clear hr1_1 hc1_1
 have HR2 := aQ hr2
 have HC2 := aQ hc2
 clear hr2 hc2
 have HB := aQ (Below.refl w.heap.size w)
 have H : ((spec_IsCommon.f k a0_0 l0_1 a1_0 l1_1 0).bind fun t79003 => (if t79003 = true then ((spec_AreWeights.f k a0_0 l2).bind fun t79004 => (spec_BestCommon.j0 k l2 a3 (!t79004) a0_0 l0_1 a1_0 l1_1)) else (spec_BestCommon.j0 k l2 a3 true a0_0 l0_1 a1_0 l1_1))) = some (r1, r2) := h
 clear h
 have HC5 := aQ H
 clear H
 go_enter Try.func78, Try.ntmps78
 go_upto_region 1 with (first | ((with_reducible refine gate_dst (N := 4) rfl ?_); refine box_event ?hg (N := 4) ?hd (cs := #[.int .i64 a0_0, .slice A0_1 l0_1.length c0_1]) (t := 26) ?hr ?_; (case hd => rfl); (case hg => rfl); (case hr => first | (go_simp; done) | (go_simp; rfl)); intro gb79001 hg w6 hbox hb; have BK79001 := aQ (hbox); have GW79001 := aQ ((by rw [hg]; exact (below_size (pB HB.out)) : w.heap.size ≤ gb79001)); have GE79001 := aQ ((by rw [hg]; exact (below_size (pB HB.out)) : w.heap.size ≤ gb79001)); replace HB := aQ (below_step (pB HB.out) hb); clear hb hbox hg) | ((with_reducible refine gate_dst (N := 5) rfl ?_); refine box_event ?hg (N := 5) ?hd (cs := #[.int .i64 a1_0, .slice A1_1 l1_1.length c1_1]) (t := 26) ?hr ?_; (case hd => rfl); (case hg => rfl); (case hr => first | (go_simp; done) | (go_simp; rfl)); intro gb79002 hg w7 hbox hb; have BK79002 := aQ (hbox); have GW79002 := aQ ((by rw [hg]; exact (below_size (pB1 HB.out GE79001.out)) : w.heap.size ≤ gb79002)); have GE79002 := aQ ((by rw [hg]; exact (below_size (pB1 HB.out GE79001.out)) : w.heap.size ≤ gb79002)); replace HB := aQ (below_step (pB1 HB.out GE79001.out) hb); have NB79001_79002 := aQ ((by rw [hg]; exact Nat.ne_of_lt (blk_lt (g := gb79001) (o := .cells #[.int .i64 a0_0, .slice A0_1 l0_1.length c0_1] 26 (0, 0)) (pk BK79001.out)) : gb79001 ≠ gb79002)); have NB79002_79001 := aQ ((by rw [hg]; exact Nat.ne_of_gt (blk_lt (g := gb79001) (o := .cells #[.int .i64 a0_0, .slice A0_1 l0_1.length c0_1] 26 (0, 0)) (pk BK79001.out)) : gb79002 ≠ gb79001)); replace BK79001 := aQ (blk_below (g := gb79001) (o := .cells #[.int .i64 a0_0, .slice A0_1 l0_1.length c0_1] 26 (0, 0)) (pk BK79001.out) hb); clear hb hbox hg))
 (try simp only [Act.put, List.setIfInBounds_toArray, List.set_cons_zero, List.set_cons_succ])
 go_cut [22] (fun v22 wc => ∃ (kq : Nat) (x22_4 : Bool), v22 = .bool x22_4 ∧ Aside0 (spec_BestCommon.j0 kq l2 a3 x22_4 a0_0 l0_1 a1_0 l1_1 = some (r1, r2)) ∧ Aside0 (kq ≤ k) ∧ Aside0 (wc.heap[gb79001]? = some (.cells #[.int .i64 a0_0, (.slice A0_1 l0_1.length c0_1)] 26 (0, 0))) ∧ Aside0 (wc.heap[gb79002]? = some (.cells #[.int .i64 a1_0, (.slice A1_1 l1_1.length c1_1)] 26 (0, 0))) ∧ Aside0 (Below w.heap.size w wc))
 case first =>
  have H := HC5.out
  clear HC5
  replace H := Option.bind_eq_some_iff.mp H
  obtain ⟨t79003, A80, H⟩ := H
  replace H : (if t79003 = true then ((spec_AreWeights.f k a0_0 l2).bind fun t79004 => (spec_BestCommon.j0 k l2 a3 (!t79004) a0_0 l0_1 a1_0 l1_1)) else (spec_BestCommon.j0 k l2 a3 true a0_0 l0_1 a1_0 l1_1)) = some (r1, r2) := H
  have A8 := aQ A80
  clear A80
  by_cases c9 : t79003 = true
  ·subst c9
   have H1 : ((spec_AreWeights.f k a0_0 l2).bind fun t79004 => (spec_BestCommon.j0 k l2 a3 (!t79004) a0_0 l0_1 a1_0 l1_1)) = some (r1, r2) := by rw [if_pos rfl] at H; exact H
   clear H
   have H := H1
   clear H1
   replace H := Option.bind_eq_some_iff.mp H
   obtain ⟨t79004, A100, H⟩ := H
   replace H : (spec_BestCommon.j0 k l2 a3 (!t79004) a0_0 l0_1 a1_0 l1_1) = some (r1, r2) := H
   have A10 := aQ A100
   clear A100
   have H' := aQ H
   clear H
   have hnb11 := NB79001_79002.out
   have hnc11 := NB79002_79001.out
   have hcz12_0 := bc (v := (.int .i64 a0_0)) BK79001.out 0
   have hcz12_1 := bc (v := (.slice A0_1 l0_1.length c0_1)) BK79001.out 1
   have hfz12_0 := blk_frozen BK79001.out 0
   have hfz12_1 := blk_frozen BK79001.out 1
   have hcz13_0 := bc (v := (.int .i64 a1_0)) BK79002.out 0
   have hcz13_1 := bc (v := (.slice A1_1 l1_1.length c1_1)) BK79002.out 1
   have hfz13_0 := blk_frozen BK79002.out 0
   have hfz13_1 := blk_frozen BK79002.out 1
   go_wp2_with (first | ((with_reducible refine gate_callee (f := 66) rfl ?_); refine goesL_ (some 14) rfl rfl Try.func66 (by kernel_rfl) rfl #[.agg #[.int .i64 a0_0, .slice A0_1 l0_1.length c0_1], .agg #[.int .i64 a1_0, .slice A1_1 l1_1.length c1_1], .int .i64 0] rfl lm ?_; (with_reducible refine (spec_IsCommon.calls k a0_0 _ _ l0_1 a1_0 _ _ l1_1 0 true _ ?side1 ?side2 ?side3 ?side4 A8.out).mono ?_); (case side1 => exact pC (Kd.C_below HR0_1.out HB.out)); (case side2 => exact HC0_1.out); (case side3 => exact pC (Kd.C_below HR1_1.out HB.out)); (case side4 => exact HC1_1.out); rintro e w14 ⟨rfl, hb⟩; refine ⟨_, rfl, ?_⟩; replace BK79001 := aQ (blk_below (g := gb79001) (o := .cells #[.int .i64 a0_0, .slice A0_1 l0_1.length c0_1] 26 (0, 0)) (pk BK79001.out) hb); replace BK79002 := aQ (blk_below (g := gb79002) (o := .cells #[.int .i64 a1_0, .slice A1_1 l1_1.length c1_1] 26 (0, 0)) (pk BK79002.out) hb); replace HB := aQ (below_step (pB2 HB.out GE79001.out GE79002.out) hb); (try clear hb); have hcz15_0 := bc (v := (.int .i64 a0_0)) BK79001.out 0; have hcz15_1 := bc (v := (.slice A0_1 l0_1.length c0_1)) BK79001.out 1; have hfz15_0 := blk_frozen BK79001.out 0; have hfz15_1 := blk_frozen BK79001.out 1) | (go_at_call 84; (with_reducible refine (spec_AreWeights.calls k a0_0 _ _ l2 t79004 _ ?side1 ?side2 A10.out).mono ?_); (case side1 => exact pC (Kd.C_below HR2.out HB.out)); (case side2 => exact HC2.out); rintro e w' ⟨rfl, ⟨nd, rfl⟩⟩))
   go_meet
   case rel => exact ⟨_, (!t79004), rs_, H', ⟨by first | omega | exact Nat.le_refl _⟩, ⟨pk BK79001.out⟩, ⟨pk BK79002.out⟩, ⟨pB2 HB.out GE79001.out GE79002.out⟩⟩
  ·replace c9 := Bool.eq_false_iff.mpr c9
   subst c9
   have H1 : (spec_BestCommon.j0 k l2 a3 true a0_0 l0_1 a1_0 l1_1) = some (r1, r2) := by rw [if_neg (show ¬ (false = true) by decide)] at H; exact H
   clear H
   have H := H1
   clear H1
   have H' := aQ H
   clear H
   have hnb16 := NB79001_79002.out
   have hnc16 := NB79002_79001.out
   have hcz17_0 := bc (v := (.int .i64 a0_0)) BK79001.out 0
   have hcz17_1 := bc (v := (.slice A0_1 l0_1.length c0_1)) BK79001.out 1
   have hfz17_0 := blk_frozen BK79001.out 0
   have hfz17_1 := blk_frozen BK79001.out 1
   have hcz18_0 := bc (v := (.int .i64 a1_0)) BK79002.out 0
   have hcz18_1 := bc (v := (.slice A1_1 l1_1.length c1_1)) BK79002.out 1
   have hfz18_0 := blk_frozen BK79002.out 0
   have hfz18_1 := blk_frozen BK79002.out 1
   go_wp2_with (first | ((with_reducible refine gate_callee (f := 66) rfl ?_); refine goesL_ (some 14) rfl rfl Try.func66 (by kernel_rfl) rfl #[.agg #[.int .i64 a0_0, .slice A0_1 l0_1.length c0_1], .agg #[.int .i64 a1_0, .slice A1_1 l1_1.length c1_1], .int .i64 0] rfl lm ?_; (with_reducible refine (spec_IsCommon.calls k a0_0 _ _ l0_1 a1_0 _ _ l1_1 0 false _ ?side1 ?side2 ?side3 ?side4 A8.out).mono ?_); (case side1 => exact pC (Kd.C_below HR0_1.out HB.out)); (case side2 => exact HC0_1.out); (case side3 => exact pC (Kd.C_below HR1_1.out HB.out)); (case side4 => exact HC1_1.out); rintro e w19 ⟨rfl, hb⟩; refine ⟨_, rfl, ?_⟩; replace BK79001 := aQ (blk_below (g := gb79001) (o := .cells #[.int .i64 a0_0, .slice A0_1 l0_1.length c0_1] 26 (0, 0)) (pk BK79001.out) hb); replace BK79002 := aQ (blk_below (g := gb79002) (o := .cells #[.int .i64 a1_0, .slice A1_1 l1_1.length c1_1] 26 (0, 0)) (pk BK79002.out) hb); replace HB := aQ (below_step (pB2 HB.out GE79001.out GE79002.out) hb); (try clear hb)))
   go_meet
   case rel => exact ⟨_, (true), rs_, H', ⟨by first | omega | exact Nat.le_refl _⟩, ⟨pk BK79001.out⟩, ⟨pk BK79002.out⟩, ⟨pB2 HB.out GE79001.out GE79002.out⟩⟩
 case rest =>
  clear HC5
  try clear c1
  try clear c2
  try clear p2
  try clear c6
  try clear c7
  try clear c9
  try clear c11
  try clear c16
  try clear hcz12_0
  try clear hcz12_1
  try clear hcz13_0
  try clear hcz13_1
  try clear hcz15_0
  try clear hcz15_1
  try clear hcz17_0
  try clear hcz17_1
  try clear hcz18_0
  try clear hcz18_1
  try clear hfz12_0
  try clear hfz12_1
  try clear hfz13_0
  try clear hfz13_1
  try clear hfz15_0
  try clear hfz15_1
  try clear hfz17_0
  try clear hfz17_1
  try clear hfz18_0
  try clear hfz18_1
  obtain ⟨kq, x22_4, rfl, HA, HJ4, BK79001, BK79002, HB⟩ := hcut
  cases kq with
  | zero => exact absurd HA.out (by simp [spec_BestCommon.j0])
  | succ kj4 =>
   have H := HA.out
   clear HA
   simp only [spec_BestCommon.j0] at H
   by_cases c20 : x22_4 = true
   ·subst c20
    have H1 : (some (0, false)) = some (r1, r2) := by rw [if_pos rfl] at H; exact H
    clear H
    have H := H1
    clear H1
    simp only [Option.some.injEq, Prod.mk.injEq] at H
    obtain ⟨rfl, rfl⟩ := H
    go_wp2
    go_ret2
    exact ⟨re_, pB2 HB.out GE79001.out GE79002.out⟩
   ·replace c20 := Bool.eq_false_iff.mpr c20
    subst c20
    have H1 : (spec_BestCommon.l0 kj4 l2 a3 (-1) 0 a0_0 l0_1 a1_0 l1_1) = some (r1, r2) := by rw [if_neg (show ¬ (false = true) by decide)] at H; exact H
    clear H
    have H := H1
    clear H1
    have H' := aQ H
    clear H
    go_wp2
    go_loopg [10, 11] kj4 (fun kq v10 v11 w' => ∃ (x10_2 : Int) (x11_2 : Int), v10 = .int .i64 x10_2 ∧ v11 = .int .i64 x11_2 ∧ Aside0 (spec_BestCommon.l0 kq l2 a3 x10_2 x11_2 a0_0 l0_1 a1_0 l1_1 = some (r1, r2)) ∧ Aside0 (kq ≤ kj4) ∧ Aside0 (w'.heap[gb79001]? = some (.cells #[.int .i64 a0_0, (.slice A0_1 l0_1.length c0_1)] 26 (0, 0))) ∧ Aside0 (w'.heap[gb79002]? = some (.cells #[.int .i64 a1_0, (.slice A1_1 l1_1.length c1_1)] 26 (0, 0))) ∧ Aside0 (Below w.heap.size w w'))
    case atStart => exact ⟨((-1)), (0), rs_, rs_, H', ⟨Nat.le_refl _⟩, ⟨pk BK79001.out⟩, ⟨pk BK79002.out⟩, ⟨pB2 HB.out GE79001.out GE79002.out⟩⟩
    case round =>
     clear H'
     try clear c1
     try clear c2
     try clear p2
     try clear c6
     try clear c7
     try clear c9
     try clear c11
     try clear c16
     try clear c20
     try clear hcz12_0
     try clear hcz12_1
     try clear hcz13_0
     try clear hcz13_1
     try clear hcz15_0
     try clear hcz15_1
     try clear hcz17_0
     try clear hcz17_1
     try clear hcz18_0
     try clear hcz18_1
     try clear hfz12_0
     try clear hfz12_1
     try clear hfz13_0
     try clear hfz13_1
     try clear hfz15_0
     try clear hfz15_1
     try clear hfz17_0
     try clear hfz17_1
     try clear hfz18_0
     try clear hfz18_1
     try clear p2
     obtain ⟨x10_2, x11_2, rfl, rfl, HA, HK2, BK79001, BK79002, HB⟩ := hrel
     cases gk with
     | zero => exact absurd HA.out (by simp [spec_BestCommon.l0])
     | succ k2 =>
      have H := HA.out
      clear HA
      simp only [spec_BestCommon.l0] at H
      replace H := Option.bind_eq_some_iff.mp H
      obtain ⟨t79005, A210, H⟩ := H
      replace H : (if x11_2 ≤ t79005 then ((spec_CountOf.f k2 x11_2).bind fun t79006 => (if t79006 = a3 then ((spec_l20Free.f k2 a0_0 l0_1 x11_2).bind fun t79007 => (if t79007 = true then ((spec_l20Free.f k2 a1_0 l1_1 x11_2).bind fun t79008 => (if t79008 = true then (if x10_2 < 0 then (spec_BestCommon.l0 k2 l2 a3 x11_2 (wrap64 (x11_2 + 1)) a0_0 l0_1 a1_0 l1_1) else ((spec_WeightOf.f k2 l2 x11_2).bind fun t79009 => ((spec_WeightOf.f k2 l2 x10_2).bind fun t79010 => (if t79009 > t79010 then (spec_BestCommon.l0 k2 l2 a3 x11_2 (wrap64 (x11_2 + 1)) a0_0 l0_1 a1_0 l1_1) else (spec_BestCommon.l0 k2 l2 a3 x10_2 (wrap64 (x11_2 + 1)) a0_0 l0_1 a1_0 l1_1))))) else (spec_BestCommon.l0 k2 l2 a3 x10_2 (wrap64 (x11_2 + 1)) a0_0 l0_1 a1_0 l1_1))) else (spec_BestCommon.l0 k2 l2 a3 x10_2 (wrap64 (x11_2 + 1)) a0_0 l0_1 a1_0 l1_1))) else (spec_BestCommon.l0 k2 l2 a3 x10_2 (wrap64 (x11_2 + 1)) a0_0 l0_1 a1_0 l1_1))) else (if x10_2 < 0 then (some (0, false)) else (some (x10_2, true)))) = some (r1, r2) := H
      have A21 := aQ A210
      clear A210
      by_cases c22 : x11_2 ≤ t79005
      ·rw [if_pos c22] at H
       have c22b0 : decide (x11_2 ≤ t79005) = true := decide_eq_true c22
       clear c22
       replace H := Option.bind_eq_some_iff.mp H
       obtain ⟨t79006, A230, H⟩ := H
       replace H : (if t79006 = a3 then ((spec_l20Free.f k2 a0_0 l0_1 x11_2).bind fun t79007 => (if t79007 = true then ((spec_l20Free.f k2 a1_0 l1_1 x11_2).bind fun t79008 => (if t79008 = true then (if x10_2 < 0 then (spec_BestCommon.l0 k2 l2 a3 x11_2 (wrap64 (x11_2 + 1)) a0_0 l0_1 a1_0 l1_1) else ((spec_WeightOf.f k2 l2 x11_2).bind fun t79009 => ((spec_WeightOf.f k2 l2 x10_2).bind fun t79010 => (if t79009 > t79010 then (spec_BestCommon.l0 k2 l2 a3 x11_2 (wrap64 (x11_2 + 1)) a0_0 l0_1 a1_0 l1_1) else (spec_BestCommon.l0 k2 l2 a3 x10_2 (wrap64 (x11_2 + 1)) a0_0 l0_1 a1_0 l1_1))))) else (spec_BestCommon.l0 k2 l2 a3 x10_2 (wrap64 (x11_2 + 1)) a0_0 l0_1 a1_0 l1_1))) else (spec_BestCommon.l0 k2 l2 a3 x10_2 (wrap64 (x11_2 + 1)) a0_0 l0_1 a1_0 l1_1))) else (spec_BestCommon.l0 k2 l2 a3 x10_2 (wrap64 (x11_2 + 1)) a0_0 l0_1 a1_0 l1_1)) = some (r1, r2) := H
       have A23 := aQ A230
       clear A230
       by_cases c24 : t79006 = a3
       ·rw [if_pos c24] at H
        have c24b0 : (t79006 == a3) = true := beq_iff_eq.mpr c24
        have c24b1 : (t79006 != a3) = false := bne_eq_false_iff_eq.mpr c24
        clear c24
        replace H := Option.bind_eq_some_iff.mp H
        obtain ⟨t79007, A250, H⟩ := H
        replace H : (if t79007 = true then ((spec_l20Free.f k2 a1_0 l1_1 x11_2).bind fun t79008 => (if t79008 = true then (if x10_2 < 0 then (spec_BestCommon.l0 k2 l2 a3 x11_2 (wrap64 (x11_2 + 1)) a0_0 l0_1 a1_0 l1_1) else ((spec_WeightOf.f k2 l2 x11_2).bind fun t79009 => ((spec_WeightOf.f k2 l2 x10_2).bind fun t79010 => (if t79009 > t79010 then (spec_BestCommon.l0 k2 l2 a3 x11_2 (wrap64 (x11_2 + 1)) a0_0 l0_1 a1_0 l1_1) else (spec_BestCommon.l0 k2 l2 a3 x10_2 (wrap64 (x11_2 + 1)) a0_0 l0_1 a1_0 l1_1))))) else (spec_BestCommon.l0 k2 l2 a3 x10_2 (wrap64 (x11_2 + 1)) a0_0 l0_1 a1_0 l1_1))) else (spec_BestCommon.l0 k2 l2 a3 x10_2 (wrap64 (x11_2 + 1)) a0_0 l0_1 a1_0 l1_1)) = some (r1, r2) := H
        have A25 := aQ A250
        clear A250
        by_cases c26 : t79007 = true
        ·subst c26
         have H1 : ((spec_l20Free.f k2 a1_0 l1_1 x11_2).bind fun t79008 => (if t79008 = true then (if x10_2 < 0 then (spec_BestCommon.l0 k2 l2 a3 x11_2 (wrap64 (x11_2 + 1)) a0_0 l0_1 a1_0 l1_1) else ((spec_WeightOf.f k2 l2 x11_2).bind fun t79009 => ((spec_WeightOf.f k2 l2 x10_2).bind fun t79010 => (if t79009 > t79010 then (spec_BestCommon.l0 k2 l2 a3 x11_2 (wrap64 (x11_2 + 1)) a0_0 l0_1 a1_0 l1_1) else (spec_BestCommon.l0 k2 l2 a3 x10_2 (wrap64 (x11_2 + 1)) a0_0 l0_1 a1_0 l1_1))))) else (spec_BestCommon.l0 k2 l2 a3 x10_2 (wrap64 (x11_2 + 1)) a0_0 l0_1 a1_0 l1_1))) = some (r1, r2) := by rw [if_pos rfl] at H; exact H
         clear H
         have H := H1
         clear H1
         replace H := Option.bind_eq_some_iff.mp H
         obtain ⟨t79008, A270, H⟩ := H
         replace H : (if t79008 = true then (if x10_2 < 0 then (spec_BestCommon.l0 k2 l2 a3 x11_2 (wrap64 (x11_2 + 1)) a0_0 l0_1 a1_0 l1_1) else ((spec_WeightOf.f k2 l2 x11_2).bind fun t79009 => ((spec_WeightOf.f k2 l2 x10_2).bind fun t79010 => (if t79009 > t79010 then (spec_BestCommon.l0 k2 l2 a3 x11_2 (wrap64 (x11_2 + 1)) a0_0 l0_1 a1_0 l1_1) else (spec_BestCommon.l0 k2 l2 a3 x10_2 (wrap64 (x11_2 + 1)) a0_0 l0_1 a1_0 l1_1))))) else (spec_BestCommon.l0 k2 l2 a3 x10_2 (wrap64 (x11_2 + 1)) a0_0 l0_1 a1_0 l1_1)) = some (r1, r2) := H
         have A27 := aQ A270
         clear A270
         by_cases c28 : t79008 = true
         ·subst c28
          have H1 : (if x10_2 < 0 then (spec_BestCommon.l0 k2 l2 a3 x11_2 (wrap64 (x11_2 + 1)) a0_0 l0_1 a1_0 l1_1) else ((spec_WeightOf.f k2 l2 x11_2).bind fun t79009 => ((spec_WeightOf.f k2 l2 x10_2).bind fun t79010 => (if t79009 > t79010 then (spec_BestCommon.l0 k2 l2 a3 x11_2 (wrap64 (x11_2 + 1)) a0_0 l0_1 a1_0 l1_1) else (spec_BestCommon.l0 k2 l2 a3 x10_2 (wrap64 (x11_2 + 1)) a0_0 l0_1 a1_0 l1_1))))) = some (r1, r2) := by rw [if_pos rfl] at H; exact H
          clear H
          have H := H1
          clear H1
          by_cases c29 : x10_2 < 0
          ·rw [if_pos c29] at H
           have c29b0 : decide (x10_2 < 0) = true := decide_eq_true c29
           clear c29
           have H' := aQ H
           clear H
           have hnb30 := NB79001_79002.out
           have hnc30 := NB79002_79001.out
           have hcz31_0 := bc (v := (.int .i64 a0_0)) BK79001.out 0
           have hcz31_1 := bc (v := (.slice A0_1 l0_1.length c0_1)) BK79001.out 1
           have hfz31_0 := blk_frozen BK79001.out 0
           have hfz31_1 := blk_frozen BK79001.out 1
           go_wp2_with (first | ((with_reducible refine gate_callee (f := 57) rfl ?_); refine goesL_ (some 26) rfl rfl Try.func57 (by kernel_rfl) rfl #[.int .i64 a0_0] rfl lm ?_; (with_reducible refine (spec_FullSet.calls a0_0 t79005 _ A21.out).mono ?_); rintro e w' ⟨rfl, ⟨nd, rfl⟩⟩; refine ⟨_, rfl, ?_⟩) | ((with_reducible refine gate_callee (f := 58) rfl ?_); refine goesL_ (some 31) rfl rfl Try.func58 (by kernel_rfl) rfl #[.int .i64 x11_2] rfl lm ?_; (with_reducible refine (spec_CountOf.calls k2 x11_2 t79006 _ A23.out).mono ?_); rintro e w' ⟨rfl, ⟨nd, rfl⟩⟩; refine ⟨_, rfl, ?_⟩) | (go_at_call 69; (with_reducible refine (spec_l20Free.calls k2 a0_0 _ _ l0_1 x11_2 true _ ?side1 ?side2 A25.out).mono ?_); (case side1 => repeat (first | exact (Kd.C_below HR0_1.out (pB2 HB.out GE79001.out GE79002.out)) | (with_reducible refine Kd.C_alloc ?_ _) | (with_reducible refine Kd.C_drewN ?_ _) | (with_reducible refine Kd.C_drew ?_))); (case side2 => exact HC0_1.out); rintro e w32 ⟨rfl, hb⟩; replace BK79001 := aQ (blk_below (g := gb79001) (o := .cells #[.int .i64 a0_0, .slice A0_1 l0_1.length c0_1] 26 (0, 0)) (pk BK79001.out) hb); replace BK79002 := aQ (blk_below (g := gb79002) (o := .cells #[.int .i64 a1_0, .slice A1_1 l1_1.length c1_1] 26 (0, 0)) (pk BK79002.out) hb); replace HB := aQ (below_step (pB2 HB.out GE79001.out GE79002.out) hb); (try clear hb); have hcz33_0 := bc (v := (.int .i64 a1_0)) BK79002.out 0; have hcz33_1 := bc (v := (.slice A1_1 l1_1.length c1_1)) BK79002.out 1; have hfz33_0 := blk_frozen BK79002.out 0; have hfz33_1 := blk_frozen BK79002.out 1) | (go_at_call 69; (with_reducible refine (spec_l20Free.calls k2 a1_0 _ _ l1_1 x11_2 true _ ?side1 ?side2 A27.out).mono ?_); (case side1 => exact pC (Kd.C_below HR1_1.out HB.out)); (case side2 => exact HC1_1.out); rintro e w34 ⟨rfl, hb⟩; replace BK79001 := aQ (blk_below (g := gb79001) (o := .cells #[.int .i64 a0_0, .slice A0_1 l0_1.length c0_1] 26 (0, 0)) (pk BK79001.out) hb); replace BK79002 := aQ (blk_below (g := gb79002) (o := .cells #[.int .i64 a1_0, .slice A1_1 l1_1.length c1_1] 26 (0, 0)) (pk BK79002.out) hb); replace HB := aQ (below_step (pB2 HB.out GE79001.out GE79002.out) hb); (try clear hb)))
           go_roundg k2
           case measure => have := HJ4.out; have := HK2.out; omega
           case rel => exact ⟨(x11_2), (wrap64 (x11_2 + 1)), rs_, rs_, H', ⟨by have := HJ4.out; have := HK2.out; omega⟩, ⟨pk BK79001.out⟩, ⟨pk BK79002.out⟩, ⟨pB2 HB.out GE79001.out GE79002.out⟩⟩
          ·rw [if_neg c29] at H
           have c29b0 : decide (x10_2 < 0) = false := decide_eq_false c29
           clear c29
           replace H := Option.bind_eq_some_iff.mp H
           obtain ⟨t79009, A350, H⟩ := H
           replace H : ((spec_WeightOf.f k2 l2 x10_2).bind fun t79010 => (if t79009 > t79010 then (spec_BestCommon.l0 k2 l2 a3 x11_2 (wrap64 (x11_2 + 1)) a0_0 l0_1 a1_0 l1_1) else (spec_BestCommon.l0 k2 l2 a3 x10_2 (wrap64 (x11_2 + 1)) a0_0 l0_1 a1_0 l1_1))) = some (r1, r2) := H
           have A35 := aQ A350
           clear A350
           replace H := Option.bind_eq_some_iff.mp H
           obtain ⟨t79010, A360, H⟩ := H
           replace H : (if t79009 > t79010 then (spec_BestCommon.l0 k2 l2 a3 x11_2 (wrap64 (x11_2 + 1)) a0_0 l0_1 a1_0 l1_1) else (spec_BestCommon.l0 k2 l2 a3 x10_2 (wrap64 (x11_2 + 1)) a0_0 l0_1 a1_0 l1_1)) = some (r1, r2) := H
           have A36 := aQ A360
           clear A360
           by_cases c37 : t79009 > t79010
           ·rw [if_pos c37] at H
            have c37b0 : decide (t79010 < t79009) = true := decide_eq_true c37
            clear c37
            have H' := aQ H
            clear H
            have hnb38 := NB79001_79002.out
            have hnc38 := NB79002_79001.out
            have hcz39_0 := bc (v := (.int .i64 a0_0)) BK79001.out 0
            have hcz39_1 := bc (v := (.slice A0_1 l0_1.length c0_1)) BK79001.out 1
            have hfz39_0 := blk_frozen BK79001.out 0
            have hfz39_1 := blk_frozen BK79001.out 1
            go_wp2_with (first | ((with_reducible refine gate_callee (f := 57) rfl ?_); refine goesL_ (some 26) rfl rfl Try.func57 (by kernel_rfl) rfl #[.int .i64 a0_0] rfl lm ?_; (with_reducible refine (spec_FullSet.calls a0_0 t79005 _ A21.out).mono ?_); rintro e w' ⟨rfl, ⟨nd, rfl⟩⟩; refine ⟨_, rfl, ?_⟩) | ((with_reducible refine gate_callee (f := 58) rfl ?_); refine goesL_ (some 31) rfl rfl Try.func58 (by kernel_rfl) rfl #[.int .i64 x11_2] rfl lm ?_; (with_reducible refine (spec_CountOf.calls k2 x11_2 t79006 _ A23.out).mono ?_); rintro e w' ⟨rfl, ⟨nd, rfl⟩⟩; refine ⟨_, rfl, ?_⟩) | (go_at_call 69; (with_reducible refine (spec_l20Free.calls k2 a0_0 _ _ l0_1 x11_2 true _ ?side1 ?side2 A25.out).mono ?_); (case side1 => repeat (first | exact (Kd.C_below HR0_1.out (pB2 HB.out GE79001.out GE79002.out)) | (with_reducible refine Kd.C_alloc ?_ _) | (with_reducible refine Kd.C_drewN ?_ _) | (with_reducible refine Kd.C_drew ?_))); (case side2 => exact HC0_1.out); rintro e w40 ⟨rfl, hb⟩; replace BK79001 := aQ (blk_below (g := gb79001) (o := .cells #[.int .i64 a0_0, .slice A0_1 l0_1.length c0_1] 26 (0, 0)) (pk BK79001.out) hb); replace BK79002 := aQ (blk_below (g := gb79002) (o := .cells #[.int .i64 a1_0, .slice A1_1 l1_1.length c1_1] 26 (0, 0)) (pk BK79002.out) hb); replace HB := aQ (below_step (pB2 HB.out GE79001.out GE79002.out) hb); (try clear hb); have hcz41_0 := bc (v := (.int .i64 a1_0)) BK79002.out 0; have hcz41_1 := bc (v := (.slice A1_1 l1_1.length c1_1)) BK79002.out 1; have hfz41_0 := blk_frozen BK79002.out 0; have hfz41_1 := blk_frozen BK79002.out 1) | (go_at_call 69; (with_reducible refine (spec_l20Free.calls k2 a1_0 _ _ l1_1 x11_2 true _ ?side1 ?side2 A27.out).mono ?_); (case side1 => exact pC (Kd.C_below HR1_1.out HB.out)); (case side2 => exact HC1_1.out); rintro e w42 ⟨rfl, hb⟩; replace BK79001 := aQ (blk_below (g := gb79001) (o := .cells #[.int .i64 a0_0, .slice A0_1 l0_1.length c0_1] 26 (0, 0)) (pk BK79001.out) hb); replace BK79002 := aQ (blk_below (g := gb79002) (o := .cells #[.int .i64 a1_0, .slice A1_1 l1_1.length c1_1] 26 (0, 0)) (pk BK79002.out) hb); replace HB := aQ (below_step (pB2 HB.out GE79001.out GE79002.out) hb); (try clear hb)) | (go_at_call 79; (with_reducible refine (spec_WeightOf.calls k2 _ _ l2 x11_2 t79009 _ ?side1 ?side2 A35.out).mono ?_); (case side1 => exact pC (Kd.C_below HR2.out HB.out)); (case side2 => exact HC2.out); rintro e w' ⟨rfl, ⟨nd, rfl⟩⟩) | (go_at_call 79; (with_reducible refine (spec_WeightOf.calls k2 _ _ l2 x10_2 t79010 _ ?side1 ?side2 A36.out).mono ?_); (case side1 => repeat (first | exact (Kd.C_below HR2.out (pB2 HB.out GE79001.out GE79002.out)) | (with_reducible refine Kd.C_alloc ?_ _) | (with_reducible refine Kd.C_drewN ?_ _) | (with_reducible refine Kd.C_drew ?_))); (case side2 => exact HC2.out); rintro e w' ⟨rfl, ⟨nd, rfl⟩⟩))
            go_roundg k2
            case measure => have := HJ4.out; have := HK2.out; omega
            case rel => exact ⟨(x11_2), (wrap64 (x11_2 + 1)), rs_, rs_, H', ⟨by have := HJ4.out; have := HK2.out; omega⟩, ⟨pk BK79001.out⟩, ⟨pk BK79002.out⟩, ⟨pB2 HB.out GE79001.out GE79002.out⟩⟩
           ·rw [if_neg c37] at H
            have c37b0 : decide (t79010 < t79009) = false := decide_eq_false c37
            clear c37
            have H' := aQ H
            clear H
            have hnb43 := NB79001_79002.out
            have hnc43 := NB79002_79001.out
            have hcz44_0 := bc (v := (.int .i64 a0_0)) BK79001.out 0
            have hcz44_1 := bc (v := (.slice A0_1 l0_1.length c0_1)) BK79001.out 1
            have hfz44_0 := blk_frozen BK79001.out 0
            have hfz44_1 := blk_frozen BK79001.out 1
            go_wp2_with (first | ((with_reducible refine gate_callee (f := 57) rfl ?_); refine goesL_ (some 26) rfl rfl Try.func57 (by kernel_rfl) rfl #[.int .i64 a0_0] rfl lm ?_; (with_reducible refine (spec_FullSet.calls a0_0 t79005 _ A21.out).mono ?_); rintro e w' ⟨rfl, ⟨nd, rfl⟩⟩; refine ⟨_, rfl, ?_⟩) | ((with_reducible refine gate_callee (f := 58) rfl ?_); refine goesL_ (some 31) rfl rfl Try.func58 (by kernel_rfl) rfl #[.int .i64 x11_2] rfl lm ?_; (with_reducible refine (spec_CountOf.calls k2 x11_2 t79006 _ A23.out).mono ?_); rintro e w' ⟨rfl, ⟨nd, rfl⟩⟩; refine ⟨_, rfl, ?_⟩) | (go_at_call 69; (with_reducible refine (spec_l20Free.calls k2 a0_0 _ _ l0_1 x11_2 true _ ?side1 ?side2 A25.out).mono ?_); (case side1 => repeat (first | exact (Kd.C_below HR0_1.out (pB2 HB.out GE79001.out GE79002.out)) | (with_reducible refine Kd.C_alloc ?_ _) | (with_reducible refine Kd.C_drewN ?_ _) | (with_reducible refine Kd.C_drew ?_))); (case side2 => exact HC0_1.out); rintro e w45 ⟨rfl, hb⟩; replace BK79001 := aQ (blk_below (g := gb79001) (o := .cells #[.int .i64 a0_0, .slice A0_1 l0_1.length c0_1] 26 (0, 0)) (pk BK79001.out) hb); replace BK79002 := aQ (blk_below (g := gb79002) (o := .cells #[.int .i64 a1_0, .slice A1_1 l1_1.length c1_1] 26 (0, 0)) (pk BK79002.out) hb); replace HB := aQ (below_step (pB2 HB.out GE79001.out GE79002.out) hb); (try clear hb); have hcz46_0 := bc (v := (.int .i64 a1_0)) BK79002.out 0; have hcz46_1 := bc (v := (.slice A1_1 l1_1.length c1_1)) BK79002.out 1; have hfz46_0 := blk_frozen BK79002.out 0; have hfz46_1 := blk_frozen BK79002.out 1) | (go_at_call 69; (with_reducible refine (spec_l20Free.calls k2 a1_0 _ _ l1_1 x11_2 true _ ?side1 ?side2 A27.out).mono ?_); (case side1 => exact pC (Kd.C_below HR1_1.out HB.out)); (case side2 => exact HC1_1.out); rintro e w47 ⟨rfl, hb⟩; replace BK79001 := aQ (blk_below (g := gb79001) (o := .cells #[.int .i64 a0_0, .slice A0_1 l0_1.length c0_1] 26 (0, 0)) (pk BK79001.out) hb); replace BK79002 := aQ (blk_below (g := gb79002) (o := .cells #[.int .i64 a1_0, .slice A1_1 l1_1.length c1_1] 26 (0, 0)) (pk BK79002.out) hb); replace HB := aQ (below_step (pB2 HB.out GE79001.out GE79002.out) hb); (try clear hb)) | (go_at_call 79; (with_reducible refine (spec_WeightOf.calls k2 _ _ l2 x11_2 t79009 _ ?side1 ?side2 A35.out).mono ?_); (case side1 => exact pC (Kd.C_below HR2.out HB.out)); (case side2 => exact HC2.out); rintro e w' ⟨rfl, ⟨nd, rfl⟩⟩) | (go_at_call 79; (with_reducible refine (spec_WeightOf.calls k2 _ _ l2 x10_2 t79010 _ ?side1 ?side2 A36.out).mono ?_); (case side1 => repeat (first | exact (Kd.C_below HR2.out (pB2 HB.out GE79001.out GE79002.out)) | (with_reducible refine Kd.C_alloc ?_ _) | (with_reducible refine Kd.C_drewN ?_ _) | (with_reducible refine Kd.C_drew ?_))); (case side2 => exact HC2.out); rintro e w' ⟨rfl, ⟨nd, rfl⟩⟩))
            go_roundg k2
            case measure => have := HJ4.out; have := HK2.out; omega
            case rel => exact ⟨(x10_2), (wrap64 (x11_2 + 1)), rs_, rs_, H', ⟨by have := HJ4.out; have := HK2.out; omega⟩, ⟨pk BK79001.out⟩, ⟨pk BK79002.out⟩, ⟨pB2 HB.out GE79001.out GE79002.out⟩⟩
         ·replace c28 := Bool.eq_false_iff.mpr c28
          subst c28
          have H1 : (spec_BestCommon.l0 k2 l2 a3 x10_2 (wrap64 (x11_2 + 1)) a0_0 l0_1 a1_0 l1_1) = some (r1, r2) := by rw [if_neg (show ¬ (false = true) by decide)] at H; exact H
          clear H
          have H := H1
          clear H1
          have H' := aQ H
          clear H
          have hnb48 := NB79001_79002.out
          have hnc48 := NB79002_79001.out
          have hcz49_0 := bc (v := (.int .i64 a0_0)) BK79001.out 0
          have hcz49_1 := bc (v := (.slice A0_1 l0_1.length c0_1)) BK79001.out 1
          have hfz49_0 := blk_frozen BK79001.out 0
          have hfz49_1 := blk_frozen BK79001.out 1
          go_wp2_with (first | ((with_reducible refine gate_callee (f := 57) rfl ?_); refine goesL_ (some 26) rfl rfl Try.func57 (by kernel_rfl) rfl #[.int .i64 a0_0] rfl lm ?_; (with_reducible refine (spec_FullSet.calls a0_0 t79005 _ A21.out).mono ?_); rintro e w' ⟨rfl, ⟨nd, rfl⟩⟩; refine ⟨_, rfl, ?_⟩) | ((with_reducible refine gate_callee (f := 58) rfl ?_); refine goesL_ (some 31) rfl rfl Try.func58 (by kernel_rfl) rfl #[.int .i64 x11_2] rfl lm ?_; (with_reducible refine (spec_CountOf.calls k2 x11_2 t79006 _ A23.out).mono ?_); rintro e w' ⟨rfl, ⟨nd, rfl⟩⟩; refine ⟨_, rfl, ?_⟩) | (go_at_call 69; (with_reducible refine (spec_l20Free.calls k2 a0_0 _ _ l0_1 x11_2 true _ ?side1 ?side2 A25.out).mono ?_); (case side1 => repeat (first | exact (Kd.C_below HR0_1.out (pB2 HB.out GE79001.out GE79002.out)) | (with_reducible refine Kd.C_alloc ?_ _) | (with_reducible refine Kd.C_drewN ?_ _) | (with_reducible refine Kd.C_drew ?_))); (case side2 => exact HC0_1.out); rintro e w50 ⟨rfl, hb⟩; replace BK79001 := aQ (blk_below (g := gb79001) (o := .cells #[.int .i64 a0_0, .slice A0_1 l0_1.length c0_1] 26 (0, 0)) (pk BK79001.out) hb); replace BK79002 := aQ (blk_below (g := gb79002) (o := .cells #[.int .i64 a1_0, .slice A1_1 l1_1.length c1_1] 26 (0, 0)) (pk BK79002.out) hb); replace HB := aQ (below_step (pB2 HB.out GE79001.out GE79002.out) hb); (try clear hb); have hcz51_0 := bc (v := (.int .i64 a1_0)) BK79002.out 0; have hcz51_1 := bc (v := (.slice A1_1 l1_1.length c1_1)) BK79002.out 1; have hfz51_0 := blk_frozen BK79002.out 0; have hfz51_1 := blk_frozen BK79002.out 1) | (go_at_call 69; (with_reducible refine (spec_l20Free.calls k2 a1_0 _ _ l1_1 x11_2 false _ ?side1 ?side2 A27.out).mono ?_); (case side1 => exact pC (Kd.C_below HR1_1.out HB.out)); (case side2 => exact HC1_1.out); rintro e w52 ⟨rfl, hb⟩; replace BK79001 := aQ (blk_below (g := gb79001) (o := .cells #[.int .i64 a0_0, .slice A0_1 l0_1.length c0_1] 26 (0, 0)) (pk BK79001.out) hb); replace BK79002 := aQ (blk_below (g := gb79002) (o := .cells #[.int .i64 a1_0, .slice A1_1 l1_1.length c1_1] 26 (0, 0)) (pk BK79002.out) hb); replace HB := aQ (below_step (pB2 HB.out GE79001.out GE79002.out) hb); (try clear hb)))
          go_roundg k2
          case measure => have := HJ4.out; have := HK2.out; omega
          case rel => exact ⟨(x10_2), (wrap64 (x11_2 + 1)), rs_, rs_, H', ⟨by have := HJ4.out; have := HK2.out; omega⟩, ⟨pk BK79001.out⟩, ⟨pk BK79002.out⟩, ⟨pB2 HB.out GE79001.out GE79002.out⟩⟩
        ·replace c26 := Bool.eq_false_iff.mpr c26
         subst c26
         have H1 : (spec_BestCommon.l0 k2 l2 a3 x10_2 (wrap64 (x11_2 + 1)) a0_0 l0_1 a1_0 l1_1) = some (r1, r2) := by rw [if_neg (show ¬ (false = true) by decide)] at H; exact H
         clear H
         have H := H1
         clear H1
         have H' := aQ H
         clear H
         have hnb53 := NB79001_79002.out
         have hnc53 := NB79002_79001.out
         have hcz54_0 := bc (v := (.int .i64 a0_0)) BK79001.out 0
         have hcz54_1 := bc (v := (.slice A0_1 l0_1.length c0_1)) BK79001.out 1
         have hfz54_0 := blk_frozen BK79001.out 0
         have hfz54_1 := blk_frozen BK79001.out 1
         go_wp2_with (first | ((with_reducible refine gate_callee (f := 57) rfl ?_); refine goesL_ (some 26) rfl rfl Try.func57 (by kernel_rfl) rfl #[.int .i64 a0_0] rfl lm ?_; (with_reducible refine (spec_FullSet.calls a0_0 t79005 _ A21.out).mono ?_); rintro e w' ⟨rfl, ⟨nd, rfl⟩⟩; refine ⟨_, rfl, ?_⟩) | ((with_reducible refine gate_callee (f := 58) rfl ?_); refine goesL_ (some 31) rfl rfl Try.func58 (by kernel_rfl) rfl #[.int .i64 x11_2] rfl lm ?_; (with_reducible refine (spec_CountOf.calls k2 x11_2 t79006 _ A23.out).mono ?_); rintro e w' ⟨rfl, ⟨nd, rfl⟩⟩; refine ⟨_, rfl, ?_⟩) | (go_at_call 69; (with_reducible refine (spec_l20Free.calls k2 a0_0 _ _ l0_1 x11_2 false _ ?side1 ?side2 A25.out).mono ?_); (case side1 => repeat (first | exact (Kd.C_below HR0_1.out (pB2 HB.out GE79001.out GE79002.out)) | (with_reducible refine Kd.C_alloc ?_ _) | (with_reducible refine Kd.C_drewN ?_ _) | (with_reducible refine Kd.C_drew ?_))); (case side2 => exact HC0_1.out); rintro e w55 ⟨rfl, hb⟩; replace BK79001 := aQ (blk_below (g := gb79001) (o := .cells #[.int .i64 a0_0, .slice A0_1 l0_1.length c0_1] 26 (0, 0)) (pk BK79001.out) hb); replace BK79002 := aQ (blk_below (g := gb79002) (o := .cells #[.int .i64 a1_0, .slice A1_1 l1_1.length c1_1] 26 (0, 0)) (pk BK79002.out) hb); replace HB := aQ (below_step (pB2 HB.out GE79001.out GE79002.out) hb); (try clear hb)))
         go_roundg k2
         case measure => have := HJ4.out; have := HK2.out; omega
         case rel => exact ⟨(x10_2), (wrap64 (x11_2 + 1)), rs_, rs_, H', ⟨by have := HJ4.out; have := HK2.out; omega⟩, ⟨pk BK79001.out⟩, ⟨pk BK79002.out⟩, ⟨pB2 HB.out GE79001.out GE79002.out⟩⟩
       ·rw [if_neg c24] at H
        have c24b0 : (t79006 == a3) = false := beq_eq_false_iff_ne.mpr c24
        have c24b1 : (t79006 != a3) = true := bne_iff_ne.mpr c24
        have H' := aQ H
        clear H
        have hnb56 := NB79001_79002.out
        have hnc56 := NB79002_79001.out
        have hcz57_0 := bc (v := (.int .i64 a0_0)) BK79001.out 0
        have hcz57_1 := bc (v := (.slice A0_1 l0_1.length c0_1)) BK79001.out 1
        have hfz57_0 := blk_frozen BK79001.out 0
        have hfz57_1 := blk_frozen BK79001.out 1
        go_wp2_with (first | ((with_reducible refine gate_callee (f := 57) rfl ?_); refine goesL_ (some 26) rfl rfl Try.func57 (by kernel_rfl) rfl #[.int .i64 a0_0] rfl lm ?_; (with_reducible refine (spec_FullSet.calls a0_0 t79005 _ A21.out).mono ?_); rintro e w' ⟨rfl, ⟨nd, rfl⟩⟩; refine ⟨_, rfl, ?_⟩) | ((with_reducible refine gate_callee (f := 58) rfl ?_); refine goesL_ (some 31) rfl rfl Try.func58 (by kernel_rfl) rfl #[.int .i64 x11_2] rfl lm ?_; (with_reducible refine (spec_CountOf.calls k2 x11_2 t79006 _ A23.out).mono ?_); rintro e w' ⟨rfl, ⟨nd, rfl⟩⟩; refine ⟨_, rfl, ?_⟩))
        go_roundg k2
        case measure => have := HJ4.out; have := HK2.out; omega
        case rel => exact ⟨(x10_2), (wrap64 (x11_2 + 1)), rs_, rs_, H', ⟨by have := HJ4.out; have := HK2.out; omega⟩, ⟨pk BK79001.out⟩, ⟨pk BK79002.out⟩, ⟨pB2 HB.out GE79001.out GE79002.out⟩⟩
      ·rw [if_neg c22] at H
       have c22b0 : decide (x11_2 ≤ t79005) = false := decide_eq_false c22
       clear c22
       by_cases c58 : x10_2 < 0
       ·rw [if_pos c58] at H
        have c58b0 : decide (x10_2 < 0) = true := decide_eq_true c58
        clear c58
        simp only [Option.some.injEq, Prod.mk.injEq] at H
        obtain ⟨rfl, rfl⟩ := H
        have hnb59 := NB79001_79002.out
        have hnc59 := NB79002_79001.out
        have hcz60_0 := bc (v := (.int .i64 a0_0)) BK79001.out 0
        have hcz60_1 := bc (v := (.slice A0_1 l0_1.length c0_1)) BK79001.out 1
        have hfz60_0 := blk_frozen BK79001.out 0
        have hfz60_1 := blk_frozen BK79001.out 1
        go_wp2_with (first | ((with_reducible refine gate_callee (f := 57) rfl ?_); refine goesL_ (some 26) rfl rfl Try.func57 (by kernel_rfl) rfl #[.int .i64 a0_0] rfl lm ?_; (with_reducible refine (spec_FullSet.calls a0_0 t79005 _ A21.out).mono ?_); rintro e w' ⟨rfl, ⟨nd, rfl⟩⟩; refine ⟨_, rfl, ?_⟩))
        go_ret2
        exact ⟨re_, pB2 HB.out GE79001.out GE79002.out⟩
       ·rw [if_neg c58] at H
        have c58b0 : decide (x10_2 < 0) = false := decide_eq_false c58
        clear c58
        simp only [Option.some.injEq, Prod.mk.injEq] at H
        obtain ⟨rfl, rfl⟩ := H
        have hnb61 := NB79001_79002.out
        have hnc61 := NB79002_79001.out
        have hcz62_0 := bc (v := (.int .i64 a0_0)) BK79001.out 0
        have hcz62_1 := bc (v := (.slice A0_1 l0_1.length c0_1)) BK79001.out 1
        have hfz62_0 := blk_frozen BK79001.out 0
        have hfz62_1 := blk_frozen BK79001.out 1
        go_wp2_with (first | ((with_reducible refine gate_callee (f := 57) rfl ?_); refine goesL_ (some 26) rfl rfl Try.func57 (by kernel_rfl) rfl #[.int .i64 a0_0] rfl lm ?_; (with_reducible refine (spec_FullSet.calls a0_0 t79005 _ A21.out).mono ?_); rintro e w' ⟨rfl, ⟨nd, rfl⟩⟩; refine ⟨_, rfl, ?_⟩))
        go_ret2
        exact ⟨re_, pB2 HB.out GE79001.out GE79002.out⟩
end Go.Proofs.Ytagncnjllpebjaa.A
