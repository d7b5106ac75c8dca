/- Machine side of the law FnTransversals: Go functions as Lean functions, and proofs that calls come to what these tell. Conditions: those in each theorem. -/
import Derived.Test.YtimkekeaeojpkaaMFnTransversals0
import Derived.Test.YtimkekeaeojpkaaMFnTransversals6
namespace Go.Proofs.Ytimkekeaeojpkaa.A
open Go.RowKit Go.Proofs.YtimkekeaeojpkaaW.PrintWords Go.Proofs.YtimkekeaeojpkaaW.PrintLast Go.Proofs.YtimkekeaeojpkaaW.PrintMore
attribute [local go_sem] max2_int min2_int max_two min_two max_three min_three max_four min_four
set_option linter.unusedVariables false
set_option linter.unusedSimpArgs false
/-! ### spec_IsMatroid: function 52 -/
def spec_IsMatroid.f (k : Nat) (a0_0 : Int) (l0_1 : List Int) : Option (Bool) := (spec_FirstFailure.f k a0_0 l0_1).bind fun bt53002 => ((spec_IsFamily.f k a0_0 l0_1).bind fun t53007 => (if t53007 = true then (if (l0_1.length : Int) > 0 then (some (!bt53002.2.2.2)) else (some false)) else (some false)))
theorem spec_IsMatroid.mono : ∀ a0 a1 k, LeO (spec_IsMatroid.f k a0 a1) (spec_IsMatroid.f (k + 1) a0 a1) := by
 intro a0 a1 k
 unfold spec_IsMatroid.f
 repeat' first
   | (with_reducible exact spec_FirstFailure.mono _ _ _)
   | (with_reducible exact spec_IsFamily.mono _ _ _)
   | (with_reducible exact LeO.refl _)
   | (with_reducible exact LeO.none _)
   | (with_reducible refine LeO.ite ?_ ?_)
   | (with_reducible refine LeO.bind ?_ (fun _ => ?_))
   | exact spec_FirstFailure.mono _ _ _
   | exact spec_IsFamily.mono _ _ _
   | exact LeO.none _
   | refine LeO.ite ?_ ?_
   | refine LeO.bind ?_ (fun _ => ?_)
set_option maxHeartbeats 8000000 in
set_option maxRecDepth 100000 in
theorem spec_IsMatroid.calls (k : Nat) (a0_0 : Int) (A0_1 : Option Addr) (c0_1 : Nat) (l0_1 : List Int) (r : Bool) (w : World) (hr0_1 : Kd.C (Kd.int .i64) w A0_1 l0_1.length l0_1) (hc0_1 : l0_1.length ≤ c0_1) (h : spec_IsMatroid.f k a0_0 l0_1 = some r) :
  Calls Try.prog 52 #[.agg #[.int .i64 a0_0, .slice A0_1 l0_1.length c0_1]] w fun e w' => e = .returned (.bool r) ∧ Below w.heap.size w w' := by
 have hu28 := Try.underlying28
 have hu94 := Try.underlying94
 have HR0_1 := aQ hr0_1
 have HC0_1 := aQ hc0_1
 clear hr0_1 hc0_1
 have HB := aQ (Below.refl w.heap.size w)
 have H : ((spec_FirstFailure.f k a0_0 l0_1).bind fun bt53002 => ((spec_IsFamily.f k a0_0 l0_1).bind fun t53007 => (if t53007 = true then (if (l0_1.length : Int) > 0 then (some (!bt53002.2.2.2)) else (some false)) else (some false)))) = some r := h
 clear h
 replace H := Option.bind_eq_some_iff.mp H
 obtain ⟨⟨t53002, t53003, t53004, t53005⟩, A20, H⟩ := H
 replace H : ((spec_IsFamily.f k a0_0 l0_1).bind fun t53007 => (if t53007 = true then (if (l0_1.length : Int) > 0 then (some (!t53005)) else (some false)) else (some false))) = some r := H
 have A2 := aQ A20
 clear A20
 replace H := Option.bind_eq_some_iff.mp H
 obtain ⟨t53007, A30, H⟩ := H
 replace H : (if t53007 = true then (if (l0_1.length : Int) > 0 then (some (!t53005)) else (some false)) else (some false)) = some r := H
 have A3 := aQ A30
 clear A30
 by_cases c4 : t53007 = true
 ·subst c4
  have H1 : (if (l0_1.length : Int) > 0 then (some (!t53005)) else (some false)) = some r := by rw [if_pos rfl] at H; exact H
  clear H
  have H := H1
  clear H1
  by_cases c5 : (l0_1.length : Int) > 0
  ·rw [if_pos c5] at H
   have c5b0 : decide (0 < (l0_1.length : Int)) = true := decide_eq_true c5
   have c5b1 : decide (0 < l0_1.length) = true := decide_eq_true (by omega)
   clear c5
   obtain rfl := Option.some.inj H
   go_enter Try.func52, Try.ntmps52
   go_wp2_with (first | ((with_reducible refine gate_dst (N := 1) rfl ?_); (try (refine gate_guard (by rfl) ?_; dsimp only)); refine box_event ?hg (N := 1) ?hd (cs := #[.int .i64 a0_0, .slice A0_1 l0_1.length c0_1]) (t := 28) ?hr ?_; (case hd => rfl); (case hg => rfl); (case hr => first | (go_simp; done) | (go_simp; rfl)); intro gb53001 hg w6 hbox hb; have BK53001 := aQ (hbox); have GW53001 := aQ ((by rw [hg]; exact (below_size (pB HB.out)) : w.heap.size ≤ gb53001)); have GE53001 := aQ ((by rw [hg]; exact (below_size (pB HB.out)) : w.heap.size ≤ gb53001)); replace HB := aQ (below_step (pB HB.out) hb); clear hb hbox hg; have hcz7_0 := bc (v := (.int .i64 a0_0)) BK53001.out 0; have hcz7_1 := bc (v := (.slice A0_1 l0_1.length c0_1)) BK53001.out 1; have hfz7_0 := blk_frozen BK53001.out 0; have hfz7_1 := blk_frozen BK53001.out 1) | ((with_reducible refine gate_callee (f := 111) rfl ?_); refine goesL_ (some 7) rfl rfl Try.func111 (by kernel_rfl) rfl #[.agg #[.int .i64 a0_0, .slice A0_1 l0_1.length c0_1]] rfl lm ?_; (with_reducible refine (spec_FirstFailure.calls k a0_0 _ _ l0_1 t53002 t53003 t53004 t53005 _ ?side1 ?side2 A2.out).mono ?_); (case side1 => exact pC (Kd.C_below HR0_1.out HB.out)); (case side2 => exact HC0_1.out); rintro e w8 ⟨rfl, hb⟩; refine ⟨_, rfl, ?_⟩; replace BK53001 := aQ (blk_below (g := gb53001) (o := .cells #[.int .i64 a0_0, .slice A0_1 l0_1.length c0_1] 28 (0, 0)) (pk BK53001.out) hb); replace HB := aQ (below_step (pB1 HB.out GE53001.out) hb); (try clear hb)) | ((with_reducible refine gate_dst (N := 3) rfl ?_); (try (refine gate_guard (by rfl) ?_; dsimp only)); refine box_event ?hg (N := 3) ?hd (cs := #[.int .i64 0, .int .i64 0, .int .i64 0]) (t := 94) ?hr ?_; (case hd => rfl); (case hg => rfl); (case hr => first | (go_simp; done) | (go_simp; rfl)); intro gb53006 hg w9 hbox hb; have BK53006 := aQ (hbox); have GW53006 := aQ ((by rw [hg]; exact (below_size (pB1 HB.out GE53001.out)) : w.heap.size ≤ gb53006)); have GE53006 := aQ ((by rw [hg]; exact (below_size (pB1 HB.out GE53001.out)) : w.heap.size ≤ gb53006)); replace HB := aQ (below_step (pB1 HB.out GE53001.out) hb); have NB53001_53006 := aQ ((by rw [hg]; exact Nat.ne_of_lt (blk_lt (g := gb53001) (o := .cells #[.int .i64 a0_0, .slice A0_1 l0_1.length c0_1] 28 (0, 0)) (pk BK53001.out)) : gb53001 ≠ gb53006)); have NB53006_53001 := aQ ((by rw [hg]; exact Nat.ne_of_gt (blk_lt (g := gb53001) (o := .cells #[.int .i64 a0_0, .slice A0_1 l0_1.length c0_1] 28 (0, 0)) (pk BK53001.out)) : gb53006 ≠ gb53001)); replace BK53001 := aQ (blk_below (g := gb53001) (o := .cells #[.int .i64 a0_0, .slice A0_1 l0_1.length c0_1] 28 (0, 0)) (pk BK53001.out) hb); clear hb hbox hg; have hnb10 := NB53006_53001.out; have hnc10 := NB53001_53006.out; have hcz11_0 := bc (v := (.int .i64 0)) BK53006.out 0; have hcz11_1 := bc (v := (.int .i64 0)) BK53006.out 1; have hcz11_2 := bc (v := (.int .i64 0)) BK53006.out 2; have hfz11_0 := blk_frozen BK53006.out 0; have hfz11_1 := blk_frozen BK53006.out 1; have hfz11_2 := blk_frozen BK53006.out 2; have hcz12_0 := bc (v := (.int .i64 a0_0)) BK53001.out 0; have hcz12_1 := bc (v := (.slice A0_1 l0_1.length c0_1)) BK53001.out 1; have hfz12_0 := blk_frozen BK53001.out 0; have hfz12_1 := blk_frozen BK53001.out 1) | ((with_reducible refine gate_callee (f := 112) rfl ?_); refine goesL_ (some 14) rfl rfl Try.func112 (by kernel_rfl) rfl #[.int .i64 a0_0, .slice A0_1 l0_1.length c0_1] rfl lm ?_; (with_reducible refine (spec_IsFamily.calls k a0_0 _ _ l0_1 true _ ?side1 ?side2 A3.out).mono ?_); (case side1 => exact Kd.C_below HR0_1.out (pB2 HB.out GE53001.out GE53006.out)); (case side2 => exact HC0_1.out); rintro e w' ⟨rfl, ⟨nd, rfl⟩⟩; refine ⟨_, rfl, ?_⟩))
   go_ret
   exact ⟨re_, pB2 HB.out GE53001.out GE53006.out⟩
  ·rw [if_neg c5] at H
   have c5b0 : decide (0 < (l0_1.length : Int)) = false := decide_eq_false c5
   have c5b1 : decide (0 < l0_1.length) = false := decide_eq_false (by omega)
   clear c5
   obtain rfl := Option.some.inj H
   go_enter Try.func52, Try.ntmps52
   go_wp2_with (first | ((with_reducible refine gate_dst (N := 1) rfl ?_); (try (refine gate_guard (by rfl) ?_; dsimp only)); refine box_event ?hg (N := 1) ?hd (cs := #[.int .i64 a0_0, .slice A0_1 l0_1.length c0_1]) (t := 28) ?hr ?_; (case hd => rfl); (case hg => rfl); (case hr => first | (go_simp; done) | (go_simp; rfl)); intro gb53001 hg w13 hbox hb; have BK53001 := aQ (hbox); have GW53001 := aQ ((by rw [hg]; exact (below_size (pB HB.out)) : w.heap.size ≤ gb53001)); have GE53001 := aQ ((by rw [hg]; exact (below_size (pB HB.out)) : w.heap.size ≤ gb53001)); replace HB := aQ (below_step (pB HB.out) hb); clear hb hbox hg; have hcz14_0 := bc (v := (.int .i64 a0_0)) BK53001.out 0; have hcz14_1 := bc (v := (.slice A0_1 l0_1.length c0_1)) BK53001.out 1; have hfz14_0 := blk_frozen BK53001.out 0; have hfz14_1 := blk_frozen BK53001.out 1) | ((with_reducible refine gate_callee (f := 111) rfl ?_); refine goesL_ (some 7) rfl rfl Try.func111 (by kernel_rfl) rfl #[.agg #[.int .i64 a0_0, .slice A0_1 l0_1.length c0_1]] rfl lm ?_; (with_reducible refine (spec_FirstFailure.calls k a0_0 _ _ l0_1 t53002 t53003 t53004 t53005 _ ?side1 ?side2 A2.out).mono ?_); (case side1 => exact pC (Kd.C_below HR0_1.out HB.out)); (case side2 => exact HC0_1.out); rintro e w15 ⟨rfl, hb⟩; refine ⟨_, rfl, ?_⟩; replace BK53001 := aQ (blk_below (g := gb53001) (o := .cells #[.int .i64 a0_0, .slice A0_1 l0_1.length c0_1] 28 (0, 0)) (pk BK53001.out) hb); replace HB := aQ (below_step (pB1 HB.out GE53001.out) hb); (try clear hb)) | ((with_reducible refine gate_dst (N := 3) rfl ?_); (try (refine gate_guard (by rfl) ?_; dsimp only)); refine box_event ?hg (N := 3) ?hd (cs := #[.int .i64 0, .int .i64 0, .int .i64 0]) (t := 94) ?hr ?_; (case hd => rfl); (case hg => rfl); (case hr => first | (go_simp; done) | (go_simp; rfl)); intro gb53006 hg w16 hbox hb; have BK53006 := aQ (hbox); have GW53006 := aQ ((by rw [hg]; exact (below_size (pB1 HB.out GE53001.out)) : w.heap.size ≤ gb53006)); have GE53006 := aQ ((by rw [hg]; exact (below_size (pB1 HB.out GE53001.out)) : w.heap.size ≤ gb53006)); replace HB := aQ (below_step (pB1 HB.out GE53001.out) hb); have NB53001_53006 := aQ ((by rw [hg]; exact Nat.ne_of_lt (blk_lt (g := gb53001) (o := .cells #[.int .i64 a0_0, .slice A0_1 l0_1.length c0_1] 28 (0, 0)) (pk BK53001.out)) : gb53001 ≠ gb53006)); have NB53006_53001 := aQ ((by rw [hg]; exact Nat.ne_of_gt (blk_lt (g := gb53001) (o := .cells #[.int .i64 a0_0, .slice A0_1 l0_1.length c0_1] 28 (0, 0)) (pk BK53001.out)) : gb53006 ≠ gb53001)); replace BK53001 := aQ (blk_below (g := gb53001) (o := .cells #[.int .i64 a0_0, .slice A0_1 l0_1.length c0_1] 28 (0, 0)) (pk BK53001.out) hb); clear hb hbox hg; have hnb17 := NB53006_53001.out; have hnc17 := NB53001_53006.out; have hcz18_0 := bc (v := (.int .i64 0)) BK53006.out 0; have hcz18_1 := bc (v := (.int .i64 0)) BK53006.out 1; have hcz18_2 := bc (v := (.int .i64 0)) BK53006.out 2; have hfz18_0 := blk_frozen BK53006.out 0; have hfz18_1 := blk_frozen BK53006.out 1; have hfz18_2 := blk_frozen BK53006.out 2; have hcz19_0 := bc (v := (.int .i64 a0_0)) BK53001.out 0; have hcz19_1 := bc (v := (.slice A0_1 l0_1.length c0_1)) BK53001.out 1; have hfz19_0 := blk_frozen BK53001.out 0; have hfz19_1 := blk_frozen BK53001.out 1) | ((with_reducible refine gate_callee (f := 112) rfl ?_); refine goesL_ (some 14) rfl rfl Try.func112 (by kernel_rfl) rfl #[.int .i64 a0_0, .slice A0_1 l0_1.length c0_1] rfl lm ?_; (with_reducible refine (spec_IsFamily.calls k a0_0 _ _ l0_1 true _ ?side1 ?side2 A3.out).mono ?_); (case side1 => exact Kd.C_below HR0_1.out (pB2 HB.out GE53001.out GE53006.out)); (case side2 => exact HC0_1.out); rintro e w' ⟨rfl, ⟨nd, rfl⟩⟩; refine ⟨_, rfl, ?_⟩))
   go_ret
   exact ⟨re_, pB2 HB.out GE53001.out GE53006.out⟩
 ·replace c4 := Bool.eq_false_iff.mpr c4
  subst c4
  have H1 : (some false) = some r := by rw [if_neg (show ¬ (false = true) by decide)] at H; exact H
  clear H
  have H := H1
  clear H1
  obtain rfl := Option.some.inj H
  go_enter Try.func52, Try.ntmps52
  go_wp2_with (first | ((with_reducible refine gate_dst (N := 1) rfl ?_); (try (refine gate_guard (by rfl) ?_; dsimp only)); refine box_event ?hg (N := 1) ?hd (cs := #[.int .i64 a0_0, .slice A0_1 l0_1.length c0_1]) (t := 28) ?hr ?_; (case hd => rfl); (case hg => rfl); (case hr => first | (go_simp; done) | (go_simp; rfl)); intro gb53001 hg w20 hbox hb; have BK53001 := aQ (hbox); have GW53001 := aQ ((by rw [hg]; exact (below_size (pB HB.out)) : w.heap.size ≤ gb53001)); have GE53001 := aQ ((by rw [hg]; exact (below_size (pB HB.out)) : w.heap.size ≤ gb53001)); replace HB := aQ (below_step (pB HB.out) hb); clear hb hbox hg; have hcz21_0 := bc (v := (.int .i64 a0_0)) BK53001.out 0; have hcz21_1 := bc (v := (.slice A0_1 l0_1.length c0_1)) BK53001.out 1; have hfz21_0 := blk_frozen BK53001.out 0; have hfz21_1 := blk_frozen BK53001.out 1) | ((with_reducible refine gate_callee (f := 111) rfl ?_); refine goesL_ (some 7) rfl rfl Try.func111 (by kernel_rfl) rfl #[.agg #[.int .i64 a0_0, .slice A0_1 l0_1.length c0_1]] rfl lm ?_; (with_reducible refine (spec_FirstFailure.calls k a0_0 _ _ l0_1 t53002 t53003 t53004 t53005 _ ?side1 ?side2 A2.out).mono ?_); (case side1 => exact pC (Kd.C_below HR0_1.out HB.out)); (case side2 => exact HC0_1.out); rintro e w22 ⟨rfl, hb⟩; refine ⟨_, rfl, ?_⟩; replace BK53001 := aQ (blk_below (g := gb53001) (o := .cells #[.int .i64 a0_0, .slice A0_1 l0_1.length c0_1] 28 (0, 0)) (pk BK53001.out) hb); replace HB := aQ (below_step (pB1 HB.out GE53001.out) hb); (try clear hb)) | ((with_reducible refine gate_dst (N := 3) rfl ?_); (try (refine gate_guard (by rfl) ?_; dsimp only)); refine box_event ?hg (N := 3) ?hd (cs := #[.int .i64 0, .int .i64 0, .int .i64 0]) (t := 94) ?hr ?_; (case hd => rfl); (case hg => rfl); (case hr => first | (go_simp; done) | (go_simp; rfl)); intro gb53006 hg w23 hbox hb; have BK53006 := aQ (hbox); have GW53006 := aQ ((by rw [hg]; exact (below_size (pB1 HB.out GE53001.out)) : w.heap.size ≤ gb53006)); have GE53006 := aQ ((by rw [hg]; exact (below_size (pB1 HB.out GE53001.out)) : w.heap.size ≤ gb53006)); replace HB := aQ (below_step (pB1 HB.out GE53001.out) hb); have NB53001_53006 := aQ ((by rw [hg]; exact Nat.ne_of_lt (blk_lt (g := gb53001) (o := .cells #[.int .i64 a0_0, .slice A0_1 l0_1.length c0_1] 28 (0, 0)) (pk BK53001.out)) : gb53001 ≠ gb53006)); have NB53006_53001 := aQ ((by rw [hg]; exact Nat.ne_of_gt (blk_lt (g := gb53001) (o := .cells #[.int .i64 a0_0, .slice A0_1 l0_1.length c0_1] 28 (0, 0)) (pk BK53001.out)) : gb53006 ≠ gb53001)); replace BK53001 := aQ (blk_below (g := gb53001) (o := .cells #[.int .i64 a0_0, .slice A0_1 l0_1.length c0_1] 28 (0, 0)) (pk BK53001.out) hb); clear hb hbox hg; have hnb24 := NB53006_53001.out; have hnc24 := NB53001_53006.out; have hcz25_0 := bc (v := (.int .i64 0)) BK53006.out 0; have hcz25_1 := bc (v := (.int .i64 0)) BK53006.out 1; have hcz25_2 := bc (v := (.int .i64 0)) BK53006.out 2; have hfz25_0 := blk_frozen BK53006.out 0; have hfz25_1 := blk_frozen BK53006.out 1; have hfz25_2 := blk_frozen BK53006.out 2; have hcz26_0 := bc (v := (.int .i64 a0_0)) BK53001.out 0; have hcz26_1 := bc (v := (.slice A0_1 l0_1.length c0_1)) BK53001.out 1; have hfz26_0 := blk_frozen BK53001.out 0; have hfz26_1 := blk_frozen BK53001.out 1) | ((with_reducible refine gate_callee (f := 112) rfl ?_); refine goesL_ (some 14) rfl rfl Try.func112 (by kernel_rfl) rfl #[.int .i64 a0_0, .slice A0_1 l0_1.length c0_1] rfl lm ?_; (with_reducible refine (spec_IsFamily.calls k a0_0 _ _ l0_1 false _ ?side1 ?side2 A3.out).mono ?_); (case side1 => exact Kd.C_below HR0_1.out (pB2 HB.out GE53001.out GE53006.out)); (case side2 => exact HC0_1.out); rintro e w' ⟨rfl, ⟨nd, rfl⟩⟩; refine ⟨_, rfl, ?_⟩))
  go_ret
  exact ⟨re_, pB2 HB.out GE53001.out GE53006.out⟩
end Go.Proofs.Ytimkekeaeojpkaa.A
