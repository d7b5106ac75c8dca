/- Machine side of the law FnTransversals: Go functions as Lean functions, and proofs that calls come to what these tell. Conditions: those in each theorem. -/
import Derived.Test.YtimkekeaeojpkaaMFnTransversals0
import Derived.Test.YtimkekeaeojpkaaMFnTransversalsq0
import Derived.Test.YtimkekeaeojpkaaMFnTransversals3
namespace Go.Proofs.Ytimkekeaeojpkaa.A
open Go.RowKit Go.Proofs.YtimkekeaeojpkaaW.PrintWords Go.Proofs.YtimkekeaeojpkaaW.PrintLast Go.Proofs.YtimkekeaeojpkaaW.PrintMore
attribute [local go_sem] max2_int min2_int max_two min_two max_three min_three max_four min_four
set_option linter.unusedVariables false
set_option linter.unusedSimpArgs false
/-! ### spec_EqualMatroid: function 48 -/
mutual
def spec_EqualMatroid.j0 : Nat → Bool → Int → List Int → Int → List Int → Option (Bool)
 | 0, _, _, _, _, _ => none
 | k + 1, x19, x49002000, x49002001, x49003000, x49003001 => if x19 = true then (some false) else (spec_EqualMatroid.l0 k 0 x49002000 x49002001 x49003000 x49003001)
def spec_EqualMatroid.l0 : Nat → Int → Int → List Int → Int → List Int → Option (Bool)
 | 0, _, _, _, _, _ => none
 | k + 1, x5, x49002000, x49002001, x49003000, x49003001 => if x5 < (x49002001.length : Int) then (if 0 ≤ x5 then (if x5 < (x49003001.length : Int) then (if (rd x49002001 x5) = (rd x49003001 x5) then (spec_EqualMatroid.l0 k (wrap64 (x5 + 1)) x49002000 x49002001 x49003000 x49003001) else (some false)) else (none)) else (none)) else (some true)
end
def spec_EqualMatroid.f (k : Nat) (a0_0 : Int) (l0_1 : List Int) (a1_0 : Int) (l1_1 : List Int) : Option (Bool) := if a0_0 = a1_0 then (spec_EqualMatroid.j0 k ((l0_1.length : Int) != (l1_1.length : Int)) a0_0 l0_1 a1_0 l1_1) else (spec_EqualMatroid.j0 k true a0_0 l0_1 a1_0 l1_1)
theorem spec_EqualMatroid.mono_l : ∀ k, (∀ y0 y1 y2 y3 y4, LeO (spec_EqualMatroid.j0 k y0 y1 y2 y3 y4) (spec_EqualMatroid.j0 (k + 1) y0 y1 y2 y3 y4)) ∧ (∀ y0 y1 y2 y3 y4, LeO (spec_EqualMatroid.l0 k y0 y1 y2 y3 y4) (spec_EqualMatroid.l0 (k + 1) y0 y1 y2 y3 y4))
 | 0 => ⟨fun _ _ _ _ _ r h => by simp [spec_EqualMatroid.j0] at h, fun _ _ _ _ _ r h => by simp [spec_EqualMatroid.l0] at h⟩
 | k + 1 => by
  obtain ⟨ih0, ih1⟩ := spec_EqualMatroid.mono_l k
  refine ⟨?_, ?_⟩
  ·intro y0 y1 y2 y3 y4
   unfold spec_EqualMatroid.j0
   repeat' first
   | (with_reducible exact ih0 _ _ _ _ _)
   | (with_reducible exact ih1 _ _ _ _ _)
   | (with_reducible exact LeO.refl _)
   | (with_reducible exact LeO.none _)
   | (with_reducible refine LeO.ite ?_ ?_)
   | (with_reducible refine LeO.bind ?_ (fun _ => ?_))
   | exact ih0 _ _ _ _ _
   | exact ih1 _ _ _ _ _
   | exact LeO.none _
   | refine LeO.ite ?_ ?_
   | refine LeO.bind ?_ (fun _ => ?_)
  ·intro y0 y1 y2 y3 y4
   unfold spec_EqualMatroid.l0
   repeat' first
   | (with_reducible exact ih0 _ _ _ _ _)
   | (with_reducible exact ih1 _ _ _ _ _)
   | (with_reducible exact LeO.refl _)
   | (with_reducible exact LeO.none _)
   | (with_reducible refine LeO.ite ?_ ?_)
   | (with_reducible refine LeO.bind ?_ (fun _ => ?_))
   | exact ih0 _ _ _ _ _
   | exact ih1 _ _ _ _ _
   | exact LeO.none _
   | refine LeO.ite ?_ ?_
   | refine LeO.bind ?_ (fun _ => ?_)
theorem spec_EqualMatroid.mono : ∀ a0 a1 a2 a3 k, LeO (spec_EqualMatroid.f k a0 a1 a2 a3) (spec_EqualMatroid.f (k + 1) a0 a1 a2 a3) := by
 intro a0 a1 a2 a3 k
 obtain ⟨ih0, ih1⟩ := spec_EqualMatroid.mono_l k
 unfold spec_EqualMatroid.f
 repeat' first
   | (with_reducible exact ih0 _ _ _ _ _)
   | (with_reducible exact ih1 _ _ _ _ _)
   | (with_reducible exact LeO.refl _)
   | (with_reducible exact LeO.none _)
   | (with_reducible refine LeO.ite ?_ ?_)
   | (with_reducible refine LeO.bind ?_ (fun _ => ?_))
   | exact ih0 _ _ _ _ _
   | exact ih1 _ _ _ _ _
   | exact LeO.none _
   | refine LeO.ite ?_ ?_
   | refine LeO.bind ?_ (fun _ => ?_)
set_option maxHeartbeats 8000000 in
set_option maxRecDepth 100000 in
theorem spec_EqualMatroid.calls (k : Nat) (a0_0 : Int) (A0_1 : Option Addr) (c0_1 : Nat) (l0_1 : List Int) (a1_0 : Int) (A1_1 : Option Addr) (c1_1 : Nat) (l1_1 : List Int) (r : Bool) (w : World) (hr0_1 : Kd.C (Kd.int .i64) w A0_1 l0_1.length l0_1) (hc0_1 : l0_1.length ≤ c0_1) (hr1_1 : Kd.C (Kd.int .i64) w A1_1 l1_1.length l1_1) (hc1_1 : l1_1.length ≤ c1_1) (h : spec_EqualMatroid.f k a0_0 l0_1 a1_0 l1_1 = some r) :
  Calls Try.prog 48 #[.agg #[.int .i64 a0_0, .slice A0_1 l0_1.length c0_1], .agg #[.int .i64 a1_0, .slice A1_1 l1_1.length c1_1]] w fun e w' => e = .returned (.bool r) ∧ Below w.heap.size w w' := by
 have hu28 := Try.underlying28
 have HR0_1 := aQ hr0_1
 have HC0_1 := aQ hc0_1
 clear hr0_1 hc0_1
 have HR1_1 := aQ hr1_1
 have HC1_1 := aQ hc1_1
 clear hr1_1 hc1_1
 have HB := aQ (Below.refl w.heap.size w)
 have H : (if a0_0 = a1_0 then (spec_EqualMatroid.j0 k ((l0_1.length : Int) != (l1_1.length : Int)) a0_0 l0_1 a1_0 l1_1) else (spec_EqualMatroid.j0 k true a0_0 l0_1 a1_0 l1_1)) = some r := h
 clear h
 have HC3 := aQ H
 clear H
 go_enter Try.func48, Try.ntmps48
 go_upto_region 1 with (first | ((with_reducible refine gate_dst (N := 2) rfl ?_); (try (refine gate_guard (by rfl) ?_; dsimp only)); refine box_event ?hg (N := 2) ?hd (cs := #[.int .i64 a0_0, .slice A0_1 l0_1.length c0_1]) (t := 28) ?hr ?_; (case hd => rfl); (case hg => rfl); (case hr => first | (go_simp; done) | (go_simp; rfl)); intro gb49001 hg w4 hbox hb; have BK49001 := aQ (hbox); have GW49001 := aQ ((by rw [hg]; exact (below_size (pB HB.out)) : w.heap.size ≤ gb49001)); have GE49001 := aQ ((by rw [hg]; exact (below_size (pB HB.out)) : w.heap.size ≤ gb49001)); replace HB := aQ (below_step (pB HB.out) hb); clear hb hbox hg) | ((with_reducible refine gate_dst (N := 3) rfl ?_); (try (refine gate_guard (by rfl) ?_; dsimp only)); refine box_event ?hg (N := 3) ?hd (cs := #[.int .i64 a1_0, .slice A1_1 l1_1.length c1_1]) (t := 28) ?hr ?_; (case hd => rfl); (case hg => rfl); (case hr => first | (go_simp; done) | (go_simp; rfl)); intro gb49002 hg w5 hbox hb; have BK49002 := aQ (hbox); have GW49002 := aQ ((by rw [hg]; exact (below_size (pB1 HB.out GE49001.out)) : w.heap.size ≤ gb49002)); have GE49002 := aQ ((by rw [hg]; exact (below_size (pB1 HB.out GE49001.out)) : w.heap.size ≤ gb49002)); replace HB := aQ (below_step (pB1 HB.out GE49001.out) hb); have NB49001_49002 := aQ ((by rw [hg]; exact Nat.ne_of_lt (blk_lt (g := gb49001) (o := .cells #[.int .i64 a0_0, .slice A0_1 l0_1.length c0_1] 28 (0, 0)) (pk BK49001.out)) : gb49001 ≠ gb49002)); have NB49002_49001 := aQ ((by rw [hg]; exact Nat.ne_of_gt (blk_lt (g := gb49001) (o := .cells #[.int .i64 a0_0, .slice A0_1 l0_1.length c0_1] 28 (0, 0)) (pk BK49001.out)) : gb49002 ≠ gb49001)); replace BK49001 := aQ (blk_below (g := gb49001) (o := .cells #[.int .i64 a0_0, .slice A0_1 l0_1.length c0_1] 28 (0, 0)) (pk BK49001.out) hb); clear hb hbox hg))
 repeat (go_quiet (first | ((with_reducible refine gate_dst (N := 2) rfl ?_); (try (refine gate_guard (by rfl) ?_; dsimp only)); refine box_event ?hg (N := 2) ?hd (cs := #[.int .i64 a0_0, .slice A0_1 l0_1.length c0_1]) (t := 28) ?hr ?_; (case hd => rfl); (case hg => rfl); (case hr => first | (go_simp; done) | (go_simp; rfl)); intro gb49001 hg w4 hbox hb; have BK49001 := aQ (hbox); have GW49001 := aQ ((by rw [hg]; exact (below_size (pB HB.out)) : w.heap.size ≤ gb49001)); have GE49001 := aQ ((by rw [hg]; exact (below_size (pB HB.out)) : w.heap.size ≤ gb49001)); replace HB := aQ (below_step (pB HB.out) hb); clear hb hbox hg) | ((with_reducible refine gate_dst (N := 3) rfl ?_); (try (refine gate_guard (by rfl) ?_; dsimp only)); refine box_event ?hg (N := 3) ?hd (cs := #[.int .i64 a1_0, .slice A1_1 l1_1.length c1_1]) (t := 28) ?hr ?_; (case hd => rfl); (case hg => rfl); (case hr => first | (go_simp; done) | (go_simp; rfl)); intro gb49002 hg w5 hbox hb; have BK49002 := aQ (hbox); have GW49002 := aQ ((by rw [hg]; exact (below_size (pB1 HB.out GE49001.out)) : w.heap.size ≤ gb49002)); have GE49002 := aQ ((by rw [hg]; exact (below_size (pB1 HB.out GE49001.out)) : w.heap.size ≤ gb49002)); replace HB := aQ (below_step (pB1 HB.out GE49001.out) hb); have NB49001_49002 := aQ ((by rw [hg]; exact Nat.ne_of_lt (blk_lt (g := gb49001) (o := .cells #[.int .i64 a0_0, .slice A0_1 l0_1.length c0_1] 28 (0, 0)) (pk BK49001.out)) : gb49001 ≠ gb49002)); have NB49002_49001 := aQ ((by rw [hg]; exact Nat.ne_of_gt (blk_lt (g := gb49001) (o := .cells #[.int .i64 a0_0, .slice A0_1 l0_1.length c0_1] 28 (0, 0)) (pk BK49001.out)) : gb49002 ≠ gb49001)); replace BK49001 := aQ (blk_below (g := gb49001) (o := .cells #[.int .i64 a0_0, .slice A0_1 l0_1.length c0_1] 28 (0, 0)) (pk BK49001.out) hb); clear hb hbox hg)); go_upto_region 1 with (first | ((with_reducible refine gate_dst (N := 2) rfl ?_); (try (refine gate_guard (by rfl) ?_; dsimp only)); refine box_event ?hg (N := 2) ?hd (cs := #[.int .i64 a0_0, .slice A0_1 l0_1.length c0_1]) (t := 28) ?hr ?_; (case hd => rfl); (case hg => rfl); (case hr => first | (go_simp; done) | (go_simp; rfl)); intro gb49001 hg w4 hbox hb; have BK49001 := aQ (hbox); have GW49001 := aQ ((by rw [hg]; exact (below_size (pB HB.out)) : w.heap.size ≤ gb49001)); have GE49001 := aQ ((by rw [hg]; exact (below_size (pB HB.out)) : w.heap.size ≤ gb49001)); replace HB := aQ (below_step (pB HB.out) hb); clear hb hbox hg) | ((with_reducible refine gate_dst (N := 3) rfl ?_); (try (refine gate_guard (by rfl) ?_; dsimp only)); refine box_event ?hg (N := 3) ?hd (cs := #[.int .i64 a1_0, .slice A1_1 l1_1.length c1_1]) (t := 28) ?hr ?_; (case hd => rfl); (case hg => rfl); (case hr => first | (go_simp; done) | (go_simp; rfl)); intro gb49002 hg w5 hbox hb; have BK49002 := aQ (hbox); have GW49002 := aQ ((by rw [hg]; exact (below_size (pB1 HB.out GE49001.out)) : w.heap.size ≤ gb49002)); have GE49002 := aQ ((by rw [hg]; exact (below_size (pB1 HB.out GE49001.out)) : w.heap.size ≤ gb49002)); replace HB := aQ (below_step (pB1 HB.out GE49001.out) hb); have NB49001_49002 := aQ ((by rw [hg]; exact Nat.ne_of_lt (blk_lt (g := gb49001) (o := .cells #[.int .i64 a0_0, .slice A0_1 l0_1.length c0_1] 28 (0, 0)) (pk BK49001.out)) : gb49001 ≠ gb49002)); have NB49002_49001 := aQ ((by rw [hg]; exact Nat.ne_of_gt (blk_lt (g := gb49001) (o := .cells #[.int .i64 a0_0, .slice A0_1 l0_1.length c0_1] 28 (0, 0)) (pk BK49001.out)) : gb49002 ≠ gb49001)); replace BK49001 := aQ (blk_below (g := gb49001) (o := .cells #[.int .i64 a0_0, .slice A0_1 l0_1.length c0_1] 28 (0, 0)) (pk BK49001.out) hb); clear hb hbox hg)))
 (try simp only [Act.put, List.setIfInBounds_toArray, List.set_cons_zero, List.set_cons_succ])
 go_cut [19] (fun v19 wc => ∃ (kq : Nat) (x19_2 : Bool), v19 = .bool x19_2 ∧ Aside0 (spec_EqualMatroid.j0 kq x19_2 a0_0 l0_1 a1_0 l1_1 = some r) ∧ Aside0 (kq ≤ k) ∧ Aside0 (wc.heap[gb49001]? = some (.cells #[.int .i64 a0_0, (.slice A0_1 l0_1.length c0_1)] 28 (0, 0))) ∧ Aside0 (wc.heap[gb49002]? = some (.cells #[.int .i64 a1_0, (.slice A1_1 l1_1.length c1_1)] 28 (0, 0))) ∧ Aside0 (Below w.heap.size w wc))
 case first =>
  have H := HC3.out
  clear HC3
  by_cases c6 : a0_0 = a1_0
  ·rw [if_pos c6] at H
   have c6b0 : (a0_0 == a1_0) = true := beq_iff_eq.mpr c6
   have c6b1 : (a0_0 != a1_0) = false := bne_eq_false_iff_eq.mpr c6
   clear c6
   (first | rw [c6b0] | (simp only [i64_w, i32_w]; rw [c6b0]) | skip)
   have H' := aQ H
   clear H
   have hnb7 := NB49001_49002.out
   have hnc7 := NB49002_49001.out
   have hcz8_0 := bc (v := (.int .i64 a0_0)) BK49001.out 0
   have hcz8_1 := bc (v := (.slice A0_1 l0_1.length c0_1)) BK49001.out 1
   have hfz8_0 := blk_frozen BK49001.out 0
   have hfz8_1 := blk_frozen BK49001.out 1
   have hcz9_0 := bc (v := (.int .i64 a1_0)) BK49002.out 0
   have hcz9_1 := bc (v := (.slice A1_1 l1_1.length c1_1)) BK49002.out 1
   have hfz9_0 := blk_frozen BK49002.out 0
   have hfz9_1 := blk_frozen BK49002.out 1
   go_wp2
   repeat (go_quiet (fail); try go_wp2)
   go_meet
   case rel => exact ⟨_, (((l0_1.length : Int) != (l1_1.length : Int))), rs_, H', ⟨by first | omega | exact Nat.le_refl _⟩, ⟨pk BK49001.out⟩, ⟨pk BK49002.out⟩, ⟨pB2 HB.out GE49001.out GE49002.out⟩⟩
  ·rw [if_neg c6] at H
   have c6b0 : (a0_0 == a1_0) = false := beq_eq_false_iff_ne.mpr c6
   have c6b1 : (a0_0 != a1_0) = true := bne_iff_ne.mpr c6
   (first | rw [c6b0] | (simp only [i64_w, i32_w]; rw [c6b0]) | skip)
   have H' := aQ H
   clear H
   have hnb10 := NB49001_49002.out
   have hnc10 := NB49002_49001.out
   have hcz11_0 := bc (v := (.int .i64 a0_0)) BK49001.out 0
   have hcz11_1 := bc (v := (.slice A0_1 l0_1.length c0_1)) BK49001.out 1
   have hfz11_0 := blk_frozen BK49001.out 0
   have hfz11_1 := blk_frozen BK49001.out 1
   have hcz12_0 := bc (v := (.int .i64 a1_0)) BK49002.out 0
   have hcz12_1 := bc (v := (.slice A1_1 l1_1.length c1_1)) BK49002.out 1
   have hfz12_0 := blk_frozen BK49002.out 0
   have hfz12_1 := blk_frozen BK49002.out 1
   go_wp2
   repeat (go_quiet (fail); try go_wp2)
   go_meet
   case rel => exact ⟨_, (true), rs_, H', ⟨by first | omega | exact Nat.le_refl _⟩, ⟨pk BK49001.out⟩, ⟨pk BK49002.out⟩, ⟨pB2 HB.out GE49001.out GE49002.out⟩⟩
 case rest =>
  clear HC3
  try clear c1
  try clear p2
  try clear c4
  try clear c6
  try clear c6b0
  try clear c6b1
  try clear c7
  try clear c10
  try clear hcz11_0
  try clear hcz11_1
  try clear hcz12_0
  try clear hcz12_1
  try clear hcz8_0
  try clear hcz8_1
  try clear hcz9_0
  try clear hcz9_1
  try clear hfz11_0
  try clear hfz11_1
  try clear hfz12_0
  try clear hfz12_1
  try clear hfz8_0
  try clear hfz8_1
  try clear hfz9_0
  try clear hfz9_1
  obtain ⟨kq, x19_2, rfl, HA, HJ2, BK49001, BK49002, HB⟩ := hcut
  cases kq with
  | zero => exact absurd HA.out (by simp [spec_EqualMatroid.j0])
  | succ kj2 =>
   have H := HA.out
   clear HA
   simp only [spec_EqualMatroid.j0] at H
   by_cases c13 : x19_2 = true
   ·subst c13
    have H1 : (some false) = some r := by rw [if_pos rfl] at H; exact H
    clear H
    have H := H1
    clear H1
    obtain rfl := Option.some.inj H
    go_wp2
    repeat (go_quiet (fail); try go_wp2)
    go_ret
    exact ⟨re_, pB2 HB.out GE49001.out GE49002.out⟩
   ·replace c13 := Bool.eq_false_iff.mpr c13
    subst c13
    have H1 : (spec_EqualMatroid.l0 kj2 0 a0_0 l0_1 a1_0 l1_1) = some r := by rw [if_neg (show ¬ (false = true) by decide)] at H; exact H
    clear H
    have H := H1
    clear H1
    have H' := aQ H
    clear H
    go_wp2
    repeat (go_quiet (fail); try go_wp2)
    go_loopg [5] kj2 (fun kq v5 w' => ∃ (x5_2 : Int), v5 = .int .i64 x5_2 ∧ Aside0 (spec_EqualMatroid.l0 kq x5_2 a0_0 l0_1 a1_0 l1_1 = some r) ∧ Aside0 (kq ≤ kj2) ∧ Aside0 (w'.heap[gb49001]? = some (.cells #[.int .i64 a0_0, (.slice A0_1 l0_1.length c0_1)] 28 (0, 0))) ∧ Aside0 (w'.heap[gb49002]? = some (.cells #[.int .i64 a1_0, (.slice A1_1 l1_1.length c1_1)] 28 (0, 0))) ∧ Aside0 (Below w.heap.size w w'))
    case atStart => exact ⟨(0), rs_, H', ⟨Nat.le_refl _⟩, ⟨pk BK49001.out⟩, ⟨pk BK49002.out⟩, ⟨pB2 HB.out GE49001.out GE49002.out⟩⟩
    case round =>
     clear H'
     try clear c1
     try clear p2
     try clear c4
     try clear c6
     try clear c6b0
     try clear c6b1
     try clear c7
     try clear c10
     try clear c13
     try clear hcz11_0
     try clear hcz11_1
     try clear hcz12_0
     try clear hcz12_1
     try clear hcz8_0
     try clear hcz8_1
     try clear hcz9_0
     try clear hcz9_1
     try clear hfz11_0
     try clear hfz11_1
     try clear hfz12_0
     try clear hfz12_1
     try clear hfz8_0
     try clear hfz8_1
     try clear hfz9_0
     try clear hfz9_1
     try clear p2
     obtain ⟨x5_2, rfl, HA, HK2, BK49001, BK49002, HB⟩ := hrel
     cases gk with
     | zero => exact absurd HA.out (by simp [spec_EqualMatroid.l0])
     | succ k2 =>
      have H := HA.out
      clear HA
      simp only [spec_EqualMatroid.l0] at H
      by_cases c14 : x5_2 < (l0_1.length : Int)
      ·rw [if_pos c14] at H
       have c14b0 : decide (x5_2 < (l0_1.length : Int)) = true := decide_eq_true c14
       clear c14
       by_cases c15 : 0 ≤ x5_2
       ·rw [if_pos c15] at H
        have c15b0 : decide (0 ≤ x5_2) = true := decide_eq_true c15
        clear c15
        by_cases c16 : x5_2 < (l1_1.length : Int)
        ·rw [if_pos c16] at H
         have c16b0 : decide (x5_2 < (l1_1.length : Int)) = true := decide_eq_true c16
         clear c16
         by_cases c17 : (rd l0_1 x5_2) = (rd l1_1 x5_2)
         ·rw [if_pos c17] at H
          have c17b0 : ((rd l0_1 x5_2) == (rd l1_1 x5_2)) = true := beq_iff_eq.mpr c17
          have c17b1 : ((rd l0_1 x5_2) != (rd l1_1 x5_2)) = false := bne_eq_false_iff_eq.mpr c17
          clear c17
          have H' := aQ H
          clear H
          have hnb18 := NB49001_49002.out
          have hnc18 := NB49002_49001.out
          have hcz19_0 := bc (v := (.int .i64 a0_0)) BK49001.out 0
          have hcz19_1 := bc (v := (.slice A0_1 l0_1.length c0_1)) BK49001.out 1
          have hfz19_0 := blk_frozen BK49001.out 0
          have hfz19_1 := blk_frozen BK49001.out 1
          have p49003 : 0 ≤ (x5_2 : Int) := of_decide_eq_true as_
          have q49003 : x5_2 < (l0_1.length : Int) := of_decide_eq_true as_
          obtain ⟨ad49003, e49003, hx49003_0⟩ := Kd.at_int HR0_1.out x5_2 p49003 q49003
          cases e49003
          replace hx49003_0 := (HB.out.cell (World.block_lt_of_cell? w _ hx49003_0)).trans hx49003_0
          replace p49003 := eq_true p49003
          replace q49003 := eq_true q49003
          have hcz20_0 := bc (v := (.int .i64 a1_0)) BK49002.out 0
          have hcz20_1 := bc (v := (.slice A1_1 l1_1.length c1_1)) BK49002.out 1
          have hfz20_0 := blk_frozen BK49002.out 0
          have hfz20_1 := blk_frozen BK49002.out 1
          have p49004 : 0 ≤ (x5_2 : Int) := of_decide_eq_true as_
          have q49004 : x5_2 < (l1_1.length : Int) := of_decide_eq_true as_
          obtain ⟨ad49004, e49004, hx49004_0⟩ := Kd.at_int HR1_1.out x5_2 p49004 q49004
          cases e49004
          replace hx49004_0 := (HB.out.cell (World.block_lt_of_cell? w _ hx49004_0)).trans hx49004_0
          replace p49004 := eq_true p49004
          replace q49004 := eq_true q49004
          go_wp2
          repeat (go_quiet (fail); try go_wp2)
          go_roundg k2
          case measure => have := HJ2.out; have := HK2.out; omega
          case rel => exact ⟨(wrap64 (x5_2 + 1)), rs_, H', ⟨by have := HJ2.out; have := HK2.out; omega⟩, ⟨pk BK49001.out⟩, ⟨pk BK49002.out⟩, ⟨pB2 HB.out GE49001.out GE49002.out⟩⟩
         ·rw [if_neg c17] at H
          have c17b0 : ((rd l0_1 x5_2) == (rd l1_1 x5_2)) = false := beq_eq_false_iff_ne.mpr c17
          have c17b1 : ((rd l0_1 x5_2) != (rd l1_1 x5_2)) = true := bne_iff_ne.mpr c17
          obtain rfl := Option.some.inj H
          have hnb21 := NB49001_49002.out
          have hnc21 := NB49002_49001.out
          have hcz22_0 := bc (v := (.int .i64 a0_0)) BK49001.out 0
          have hcz22_1 := bc (v := (.slice A0_1 l0_1.length c0_1)) BK49001.out 1
          have hfz22_0 := blk_frozen BK49001.out 0
          have hfz22_1 := blk_frozen BK49001.out 1
          have p49003 : 0 ≤ (x5_2 : Int) := of_decide_eq_true as_
          have q49003 : x5_2 < (l0_1.length : Int) := of_decide_eq_true as_
          obtain ⟨ad49003, e49003, hx49003_0⟩ := Kd.at_int HR0_1.out x5_2 p49003 q49003
          cases e49003
          replace hx49003_0 := (HB.out.cell (World.block_lt_of_cell? w _ hx49003_0)).trans hx49003_0
          replace p49003 := eq_true p49003
          replace q49003 := eq_true q49003
          have hcz23_0 := bc (v := (.int .i64 a1_0)) BK49002.out 0
          have hcz23_1 := bc (v := (.slice A1_1 l1_1.length c1_1)) BK49002.out 1
          have hfz23_0 := blk_frozen BK49002.out 0
          have hfz23_1 := blk_frozen BK49002.out 1
          have p49004 : 0 ≤ (x5_2 : Int) := of_decide_eq_true as_
          have q49004 : x5_2 < (l1_1.length : Int) := of_decide_eq_true as_
          obtain ⟨ad49004, e49004, hx49004_0⟩ := Kd.at_int HR1_1.out x5_2 p49004 q49004
          cases e49004
          replace hx49004_0 := (HB.out.cell (World.block_lt_of_cell? w _ hx49004_0)).trans hx49004_0
          replace p49004 := eq_true p49004
          replace q49004 := eq_true q49004
          go_wp2
          repeat (go_quiet (fail); try go_wp2)
          go_ret
          exact ⟨re_, pB2 HB.out GE49001.out GE49002.out⟩
        ·rw [if_neg c16] at H
         exact absurd H (by simp)
       ·rw [if_neg c15] at H
        exact absurd H (by simp)
      ·rw [if_neg c14] at H
       have c14b0 : decide (x5_2 < (l0_1.length : Int)) = false := decide_eq_false c14
       clear c14
       obtain rfl := Option.some.inj H
       have hnb24 := NB49001_49002.out
       have hnc24 := NB49002_49001.out
       have hcz25_0 := bc (v := (.int .i64 a0_0)) BK49001.out 0
       have hcz25_1 := bc (v := (.slice A0_1 l0_1.length c0_1)) BK49001.out 1
       have hfz25_0 := blk_frozen BK49001.out 0
       have hfz25_1 := blk_frozen BK49001.out 1
       go_wp2
       repeat (go_quiet (fail); try go_wp2)
       go_ret
       exact ⟨re_, pB2 HB.out GE49001.out GE49002.out⟩
/-! ### spec_FullSet: function 81 -/
def spec_FullSet.f (a0 : Int) : Option (Int) := (spec_l1In.f a0 0 8).bind fun t82001 => (if t82001 = true then (if 0 ≤ (IntKind.u64.wrap (a0)) then (some (wrap64 ((shl .i64 1 (IntKind.u64.wrap (a0))) - 1))) else (none)) else (some 0))
set_option maxHeartbeats 8000000 in
set_option maxRecDepth 100000 in
theorem spec_FullSet.calls (a0 : Int) (r : Int) (w : World) (h : spec_FullSet.f a0 = some r) :
  Calls Try.prog 81 #[.int .i64 a0] w fun e w' => e = .returned (.int .i64 r) ∧ Drawn0 w w' := by
 have H : ((spec_l1In.f a0 0 8).bind fun t82001 => (if t82001 = true then (if 0 ≤ (IntKind.u64.wrap (a0)) then (some (wrap64 ((shl .i64 1 (IntKind.u64.wrap (a0))) - 1))) else (none)) else (some 0))) = some r := h
 clear h
 replace H := Option.bind_eq_some_iff.mp H
 obtain ⟨t82001, A20, H⟩ := H
 replace H : (if t82001 = true then (if 0 ≤ (IntKind.u64.wrap (a0)) then (some (wrap64 ((shl .i64 1 (IntKind.u64.wrap (a0))) - 1))) else (none)) else (some 0)) = some r := H
 have A2 := aQ A20
 clear A20
 by_cases c3 : t82001 = true
 ·subst c3
  have H1 : (if 0 ≤ (IntKind.u64.wrap (a0)) then (some (wrap64 ((shl .i64 1 (IntKind.u64.wrap (a0))) - 1))) else (none)) = some r := by rw [if_pos rfl] at H; exact H
  clear H
  have H := H1
  clear H1
  obtain ⟨ji4, hji4⟩ : ∃ j_ : Int, (IntKind.u64.wrap (a0)) = j_ := ⟨_, rfl⟩
  replace H : (if 0 ≤ (ji4) then (some (wrap64 ((shl .i64 1 (ji4)) - 1))) else (none)) = some r := by first | (rw [hji4] at H; exact H) | (simp only [hji4] at H ⊢; exact H)
  (try rw [hji4] at A2)
  by_cases c5 : 0 ≤ (ji4)
  ·rw [if_pos c5] at H
   have c5b0 := eq_true c5
   have c5b1 : decide (0 ≤ (ji4)) = true := decide_eq_true c5
   clear c5
   obtain ⟨ji6, hji6⟩ : ∃ j_ : Int, (shl .i64 1 (ji4)) = j_ := ⟨_, rfl⟩
   replace H : (some (wrap64 ((ji6) - 1))) = some r := by first | (rw [hji6] at H; exact H) | (simp only [hji6] at H ⊢; exact H)
   (try rw [hji6] at A2)
   have hji6_ : (IntKind.i64.wrap (1 * 2 ^ min (ji4).toNat 64)) = ji6 := hji6
   have hji6z : (ji4) ≤ 64 → (IntKind.i64.wrap (1 * 2 ^ (ji4).toNat)) = ji6 := shl_small hji6
   have hji6u : (IntKind.i64.wrap (2 ^ min (ji4).toNat 64)) = ji6 := by have h_ := hji6_; rw [Int.one_mul] at h_; exact h_
   have hji6v : (ji4) ≤ 64 → (IntKind.i64.wrap (2 ^ (ji4).toNat)) = ji6 := fun hle_ => by have h_ := hji6z hle_; rw [Int.one_mul] at h_; exact h_
   have hji6y : (wrap64 (1 * 2 ^ min (ji4).toNat 64)) = ji6 := (i64_w _).symm.trans hji6_
   have hji6x : (ji4) ≤ 64 → (wrap64 (1 * 2 ^ (ji4).toNat)) = ji6 := fun h_ => (i64_w _).symm.trans (hji6z h_)
   obtain rfl := Option.some.inj H
   go_enter Try.func81, Try.ntmps81
   go_wp2_with (first | ((with_reducible refine gate_callee (f := 98) rfl ?_); refine goesL_ (some 4) rfl rfl Try.func98 (by kernel_rfl) rfl #[.int .i64 a0, .int .i64 0, .int .i64 8] rfl lm ?_; (with_reducible refine (spec_l1In.calls a0 0 8 true _ A2.out).mono ?_); rintro e w' ⟨rfl, ⟨nd, rfl⟩⟩; refine ⟨_, rfl, ?_⟩))
   go_ret
   exact ⟨by first | rfl | (simp; done) | (simp only [← hji4, ← hji6] <;> (first | rfl | simp)) | (simp [*]; done), rd_⟩
  ·rw [if_neg c5] at H
   exact absurd H (by simp)
 ·replace c3 := Bool.eq_false_iff.mpr c3
  subst c3
  have H1 : (some 0) = some r := by rw [if_neg (show ¬ (false = true) by decide)] at H; exact H
  clear H
  have H := H1
  clear H1
  obtain rfl := Option.some.inj H
  go_enter Try.func81, Try.ntmps81
  go_wp2_with (first | ((with_reducible refine gate_callee (f := 98) rfl ?_); refine goesL_ (some 4) rfl rfl Try.func98 (by kernel_rfl) rfl #[.int .i64 a0, .int .i64 0, .int .i64 8] rfl lm ?_; (with_reducible refine (spec_l1In.calls a0 0 8 false _ A2.out).mono ?_); rintro e w' ⟨rfl, ⟨nd, rfl⟩⟩; refine ⟨_, rfl, ?_⟩))
  go_ret
  exact ⟨rs_, rd_⟩
end Go.Proofs.Ytimkekeaeojpkaa.A
namespace Go.Proofs.Ytimkekeaeojpkaa.A
open Go.RowKit Go.Proofs.YtimkekeaeojpkaaW.PrintWords Go.Proofs.YtimkekeaeojpkaaW.PrintLast Go.Proofs.YtimkekeaeojpkaaW.PrintMore Go.Proofs.Ytimkekeaeojpkaa.Z
attribute [local go_sem] max2_int min2_int max_two min_two max_three min_three max_four min_four
set_option linter.unusedVariables false
set_option linter.unusedSimpArgs false
/-! ### spec_SortSets: function 143 -/
mutual
def spec_SortSets.l0 : Nat → List Int → List Int → Int → Option (List Int)
 | 0, _, _, _ => none
 | k + 1, x0, x3, x4 => if x4 < (x0.length : Int) then (spec_SortSets.l1 k x0 x3 x4 0) else (some x3)
def spec_SortSets.l1 : Nat → List Int → List Int → Int → Int → Option (List Int)
 | 0, _, _, _, _ => none
 | k + 1, x0, x3, x4, x5 => if x5 < (x3.length : Int) then (if 0 ≤ x5 then (if 0 ≤ x4 then (if x4 < (x0.length : Int) then (if (rd x3 x5) < (rd x0 x4) then (spec_SortSets.l1 k x0 x3 x4 (wrap64 (x5 + 1))) else (if (rd x3 x5) = (rd x0 x4) then (spec_SortSets.l0 k x0 x3 (wrap64 (x4 + 1))) else ((some (([] : List Int) : List Int)).bind fun y144008 => (if x5 ≤ (x3.length : Int) then ((some (x3.drop (x5 : Int).toNat : List Int)).bind fun y144011 => (if y144008.length + y144011.length < 17592186044416 then ((some (y144008 ++ y144011 : List Int)).bind fun y144015 => ((some (x3.take (x5 : Int).toNat : List Int)).bind fun y144018 => (if y144018.length < 17592186044416 then ((some (y144018 ++ [rd x0 x4] : List Int)).bind fun y144022 => (if y144022.length + y144015.length < 17592186044416 then (spec_SortSets.l0 k x0 (y144022 ++ y144015) (wrap64 (x4 + 1))) else (none))) else (none)))) else (none))) else (none))))) else (none)) else (none)) else (none)) else ((some (([] : List Int) : List Int)).bind fun y144028 => (if 0 ≤ x5 then (if x5 ≤ (x3.length : Int) then ((some (x3.drop (x5 : Int).toNat : List Int)).bind fun y144031 => (if y144028.length + y144031.length < 17592186044416 then ((some (y144028 ++ y144031 : List Int)).bind fun y144035 => ((some (x3.take (x5 : Int).toNat : List Int)).bind fun y144038 => (if 0 ≤ x4 then (if x4 < (x0.length : Int) then (if y144038.length < 17592186044416 then ((some (y144038 ++ [rd x0 x4] : List Int)).bind fun y144042 => (if y144042.length + y144035.length < 17592186044416 then (spec_SortSets.l0 k x0 (y144042 ++ y144035) (wrap64 (x4 + 1))) else (none))) else (none)) else (none)) else (none)))) else (none))) else (none)) else (none)))
end
def spec_SortSets.f (k : Nat) (l0 : List Int) : Option (List Int) := spec_SortSets.l0 k l0 (([] : List Int)) 0
theorem spec_SortSets.mono_l : ∀ k, (∀ y0 y1 y2, LeO (spec_SortSets.l0 k y0 y1 y2) (spec_SortSets.l0 (k + 1) y0 y1 y2)) ∧ (∀ y0 y1 y2 y3, LeO (spec_SortSets.l1 k y0 y1 y2 y3) (spec_SortSets.l1 (k + 1) y0 y1 y2 y3))
 | 0 => ⟨fun _ _ _ r h => by simp [spec_SortSets.l0] at h, fun _ _ _ _ r h => by simp [spec_SortSets.l1] at h⟩
 | k + 1 => by
  obtain ⟨ih0, ih1⟩ := spec_SortSets.mono_l k
  refine ⟨?_, ?_⟩
  ·intro y0 y1 y2
   unfold spec_SortSets.l0
   repeat' first
   | (with_reducible exact ih0 _ _ _)
   | (with_reducible exact ih1 _ _ _ _)
   | (with_reducible exact LeO.refl _)
   | (with_reducible exact LeO.none _)
   | (with_reducible refine LeO.ite ?_ ?_)
   | (with_reducible refine LeO.bind ?_ (fun _ => ?_))
   | exact ih0 _ _ _
   | exact ih1 _ _ _ _
   | exact LeO.none _
   | refine LeO.ite ?_ ?_
   | refine LeO.bind ?_ (fun _ => ?_)
  ·intro y0 y1 y2 y3
   unfold spec_SortSets.l1
   repeat' first
   | (with_reducible exact ih0 _ _ _)
   | (with_reducible exact ih1 _ _ _ _)
   | (with_reducible exact LeO.refl _)
   | (with_reducible exact LeO.none _)
   | (with_reducible refine LeO.ite ?_ ?_)
   | (with_reducible refine LeO.bind ?_ (fun _ => ?_))
   | exact ih0 _ _ _
   | exact ih1 _ _ _ _
   | exact LeO.none _
   | refine LeO.ite ?_ ?_
   | refine LeO.bind ?_ (fun _ => ?_)
theorem spec_SortSets.mono : ∀ a0 k, LeO (spec_SortSets.f k a0) (spec_SortSets.f (k + 1) a0) := by
 intro a0 k
 obtain ⟨ih0, ih1⟩ := spec_SortSets.mono_l k
 unfold spec_SortSets.f
 repeat' first
   | (with_reducible exact ih0 _ _ _)
   | (with_reducible exact ih1 _ _ _ _)
   | (with_reducible exact LeO.refl _)
   | (with_reducible exact LeO.none _)
   | (with_reducible refine LeO.ite ?_ ?_)
   | (with_reducible refine LeO.bind ?_ (fun _ => ?_))
   | exact ih0 _ _ _
   | exact ih1 _ _ _ _
   | exact LeO.none _
   | refine LeO.ite ?_ ?_
   | refine LeO.bind ?_ (fun _ => ?_)
def spec_SortSets.T6 : Bool × List (List Nat × List Nat) := (true, [([], []), ([], []), ([1], [1]), ([0, 2], [0, 2]), ([3], [3]), ([4], [4]), ([4], [4]), ([5, 6, 4], [4, 5, 6]), ([7, 4], [4, 7]), ([4], [4]), ([4], [4]), ([9, 10, 4], [4, 9, 10]), ([11, 4], [4, 11]), ([8, 12, 4], [4, 8, 12]), ([4, 13], [4, 13])])
def spec_SortSets.B6 : List Nat := [0, 0, 2, 7, 15, 31, 31, 127, 255, 31, 31, 1567, 3615, 8191, 16383]
theorem spec_SortSets.tab6 : rtab .any (opsOf Try.f143 6) = spec_SortSets.T6 := by kernel_rfl
theorem spec_SortSets.bits6 : waitsOk spec_SortSets.T6.2 spec_SortSets.B6 = true := by kernel_rfl
def spec_SortSets.T8 : Bool × List (List Nat × List Nat) := (true, [([], []), ([], []), ([1], [1]), ([0, 2], [0, 2]), ([3], [3]), ([4], [4]), ([4], [4]), ([5, 6, 4], [4, 5, 6]), ([7, 4], [4, 7]), ([4], [4]), ([4], [4]), ([9, 10, 4], [4, 9, 10]), ([11, 4], [4, 11]), ([8, 12, 4], [4, 8, 12]), ([4, 13], [4, 13])])
def spec_SortSets.B8 : List Nat := [0, 0, 2, 7, 15, 31, 31, 127, 255, 31, 31, 1567, 3615, 8191, 16383]
theorem spec_SortSets.tab8 : rtab .any (opsOf Try.f143 8) = spec_SortSets.T8 := by kernel_rfl
theorem spec_SortSets.bits8 : waitsOk spec_SortSets.T8.2 spec_SortSets.B8 = true := by kernel_rfl
def spec_SortSets.T10 : Bool × List (List Nat × List Nat) := (true, [([], []), ([], []), ([0, 1], [0, 1]), ([], []), ([], []), ([3, 4], [3, 4]), ([5], [5]), ([6], [6]), ([2, 7], [2, 7]), ([], []), ([8, 9, 8], [8, 9]), ([10, 10, 0, 1, 2, 3, 4, 5, 6, 7, 8, 9, 10], [0, 10])])
def spec_SortSets.B10 : List Nat := [0, 0, 3, 0, 0, 24, 56, 120, 255, 0, 1023, 2047]
theorem spec_SortSets.tab10 : rtab .any (opsOf Try.f143 10) = spec_SortSets.T10 := by kernel_rfl
theorem spec_SortSets.bits10 : waitsOk spec_SortSets.T10.2 spec_SortSets.B10 = true := by kernel_rfl
set_option maxHeartbeats 8000000 in
set_option maxRecDepth 100000 in
theorem spec_SortSets.calls (k : Nat) (A0 : Option Addr) (c0 : Nat) (l0 : List Int) (r : List Int) (w : World) (hr0 : Kd.C (Kd.int .i64) w A0 l0.length l0) (hc0 : l0.length ≤ c0) (h : spec_SortSets.f k l0 = some r) :
  Calls Try.prog 143 #[.slice A0 l0.length c0] w fun e w' => ∃ v0_ : Value, e = .returned (v0_) ∧ Kd.R (Kd.int .i64) 3 w' w.heap.size (fun _ => True) v0_ r ∧ Below w.heap.size w w' := by
 have HR0 := aQ hr0
 have HC0 := aQ hc0
 clear hr0 hc0
 have HB := aQ (Below.refl w.heap.size w)
 have H : (spec_SortSets.l0 k l0 (([] : List Int)) 0) = some r := h
 clear h
 obtain ⟨y144001, hy144001⟩ : ∃ y_ : List Int, y_ = (([] : List Int)) := ⟨_, rfl⟩
 replace H : (spec_SortSets.l0 k l0 y144001 0) = some r := by first | (rw [hy144001]; with_reducible exact H) | (have H2_ := (Option.bind_some _ _).symm.trans H; rw [hy144001]; with_reducible exact H2_) | (have H2_ := (Option.bind_some _ _).symm.trans H; with_reducible exact H2_) | with_reducible exact H | (rw [hy144001]; exact H) | exact H
 have Ny144001 := aQ hy144001
 clear hy144001
 have H' := aQ H
 clear H
 go_enter Try.func143, Try.ntmps143
 go_wp2_with (first | ((with_reducible refine gate_dst (N := 7) rfl ?_); refine Kd.R_lit (Kd.int .i64) _ 3 ?hg (N := 7) ?hd (xs := ([] : List Int)) (inner := []) (ok := fun _ => True) (okp := fun _ => True) ?hr ?hp (fun _ hk => hk) trivial (Below.refl _ _) (Nat.le_refl _) (by simp) ?_; (case hd => rfl); (case hg => rfl); (case hr => first | (go_simp; done) | (go_simp; rfl)); (case hp => exact (Reps.none _ _)); intro v144002 w2 ho3 hb hg_ hnew_; clear hg_ hnew_; (first | rw [← Ny144001.out] at ho3 | (simp only [Int.reduceToNat] at ho3; rw [← Ny144001.out] at ho3)); have HO144003 := aQ (Kd.R_lower ho3 (below_size (pB HB.out))); replace HB := aQ (below_step (pB HB.out) hb); clear hb ho3))
 go_loopg [3, 4] k (fun kq v3 v4 w' => ∃ (x3_1 : List Int) (x4_1 : Int), v4 = .int .i64 x4_1 ∧ Aside0 (spec_SortSets.l0 kq l0 x3_1 x4_1 = some r) ∧ Aside0 (kq ≤ k) ∧ Aside0 (Kd.R (Kd.int .i64) 3 w' w.heap.size (fun _ => True) v3 x3_1) ∧ Aside0 (Below w.heap.size w w'))
 case atStart => exact ⟨(y144001), (0), rs_, H', ⟨Nat.le_refl _⟩, ⟨pR HO144003.out⟩, ⟨pB HB.out⟩⟩
 case round =>
  clear H'
  try clear c1
  try clear p2
  obtain ⟨x3_1, x4_1, rfl, HA, HK1, HO_3, HB⟩ := hrel
  cases gk with
  | zero => exact absurd HA.out (by simp [spec_SortSets.l0])
  | succ k1 =>
   have H := HA.out
   clear HA
   simp only [spec_SortSets.l0] at H
   by_cases c4 : x4_1 < (l0.length : Int)
   ·rw [if_pos c4] at H
    have c4b0 : decide (x4_1 < (l0.length : Int)) = true := decide_eq_true c4
    clear c4
    have H' := aQ H
    clear H
    go_wp2
    go_loopg [5] k1 (fun kq v5 w' => ∃ (x5_2 : Int), v5 = .int .i64 x5_2 ∧ Aside0 (spec_SortSets.l1 kq l0 x3_1 x4_1 x5_2 = some r) ∧ Aside0 (kq ≤ k1) ∧ Aside0 (Kd.R (Kd.int .i64) 3 w' w.heap.size (fun _ => True) u3 x3_1) ∧ Aside0 (Below w.heap.size w w'))
    case atStart => exact ⟨(0), rs_, H', ⟨Nat.le_refl _⟩, ⟨pR HO_3.out⟩, ⟨pB HB.out⟩⟩
    case round =>
     clear H'
     try clear c1
     try clear p2
     try clear c4
     try clear c4b0
     try clear p2
     obtain ⟨x5_2, rfl, HA, HK2, HO_3, HB⟩ := hrel
     cases gk with
     | zero => exact absurd HA.out (by simp [spec_SortSets.l1])
     | succ k2 =>
      have H := HA.out
      clear HA
      simp only [spec_SortSets.l1] at H
      by_cases c5 : x5_2 < (x3_1.length : Int)
      ·rw [if_pos c5] at H
       have c5b0 : decide (x5_2 < (x3_1.length : Int)) = true := decide_eq_true c5
       clear c5
       by_cases c6 : 0 ≤ x5_2
       ·rw [if_pos c6] at H
        have c6b0 : decide (0 ≤ x5_2) = true := decide_eq_true c6
        clear c6
        by_cases c7 : 0 ≤ x4_1
        ·rw [if_pos c7] at H
         have c7b0 : decide (0 ≤ x4_1) = true := decide_eq_true c7
         clear c7
         by_cases c8 : x4_1 < (l0.length : Int)
         ·rw [if_pos c8] at H
          have c8b0 : decide (x4_1 < (l0.length : Int)) = true := decide_eq_true c8
          clear c8
          by_cases c9 : (rd x3_1 x5_2) < (rd l0 x4_1)
          ·rw [if_pos c9] at H
           have c9b0 : decide ((rd x3_1 x5_2) < (rd l0 x4_1)) = true := decide_eq_true c9
           clear c9
           have H' := aQ H
           clear H
           try go_wp2
           have n0_ := aQ (Kd.R_drew HO_3.out)
           have n1_ := aQ (below_drew1 HB.out)
           clear HO_3
           clear HB
           have HO_3 := n0_
           have HB := n1_
           clear n0_ n1_
           obtain ⟨Ao11, co11, eo11⟩ := Kd.R_slice HO_3.out
           (first | subst eo11 | (injection eo11 with f1_ f2_ f3_; have f4_ := f1_.symm; have f5_ := f3_.symm; clear f1_ f2_ f3_; subst f4_; subst f5_))
           have p144004 : 0 ≤ (x5_2 : Int) := of_decide_eq_true as_
           have q144004 : x5_2 < (x3_1.length : Int) := of_decide_eq_true as_
           obtain ⟨ad144004, e144004, hx144004_0⟩ := Kd.at_int (Kd.R_reads' HO_3.out).2.2 x5_2 p144004 q144004
           cases e144004
           replace p144004 := eq_true p144004
           replace q144004 := eq_true q144004
           have p144005 : 0 ≤ (x4_1 : Int) := of_decide_eq_true as_
           have q144005 : x4_1 < (l0.length : Int) := of_decide_eq_true as_
           obtain ⟨ad144005, e144005, hx144005_0⟩ := Kd.at_int HR0.out x4_1 p144005 q144005
           have hw144005_0 := hx144005_0
           cases e144005
           replace hx144005_0 := (HB.out.cell (World.block_lt_of_cell? w _ hx144005_0)).trans hx144005_0
           replace p144005 := eq_true p144005
           replace q144005 := eq_true q144005
           refine start_ (n := 15) (S := fun w' => w'.cell? (ad144004.add (x5_2).toNat) = some (.int .i64 (rd x3_1 x5_2)) ∧ w'.cell? (ad144005.add (x4_1).toNat) = some (.int .i64 (rd l0 x4_1))) (ds := []) #[false, false, false, false, false, false, false, false, false, false, false, false, false, false, false] (by kernel_rfl) rfl rfl ⟨hx144004_0, ((HB.out.cell (World.block_lt_of_cell? w _ hw144005_0)).trans hw144005_0)⟩ (fun hHeld => ?_); refine with_tabW spec_SortSets.tab6 spec_SortSets.bits6 (fun HT_ HW_ => ?_)
           generalize wr.drew = w10 at HO_3 HB hx144004_0 hx144005_0 hHeld ⊢
           refine puA (i := 0) (N := some 14) HT_ (h := ?_)
           refine puA (i := 1) (N := some 15) HT_ (h := ?_)
           refine puA (i := 2) (N := some 16) HT_ (h := ?_)
           refine puA (i := 3) (N := some 17) HT_ (h := ?_)
           refine puA (i := 4) (N := some 18) HT_ (h := ?_)
           refine puA (i := 5) (N := some 19) HT_ (h := ?_)
           refine puA (i := 6) (N := some 20) HT_ (h := ?_)
           refine puA (i := 7) (N := some 21) HT_ (h := ?_)
           refine puA (i := 9) (N := some 23) HT_ (h := ?_)
           refine puA (i := 10) (N := some 24) HT_ (h := ?_)
           refine puA (i := 11) (N := some 25) HT_ (h := ?_)
           refine taA2 (i := 8) (N := some 22) HT_ HW_ hHeld (h := ?_)
           refine taA2 (i := 12) (N := some 26) HT_ HW_ hHeld (h := ?_)
           refine puA (i := 13) (N := some 27) HT_ (h := ?_)
           refine puA (i := 14) (N := some 28) HT_ (h := ?_)
           refine done_ (done_of HT_.out (by kernel_rfl)) ?_
           try go_wp2
           go_roundg k2
           case measure => have := HK1.out; have := HK2.out; omega
           case rel => exact ⟨(wrap64 (x5_2 + 1)), rs_, H', ⟨by have := HK1.out; have := HK2.out; omega⟩, ⟨pR HO_3.out⟩, ⟨pB HB.out⟩⟩
          ·rw [if_neg c9] at H
           have c9b0 : decide ((rd x3_1 x5_2) < (rd l0 x4_1)) = false := decide_eq_false c9
           clear c9
           by_cases c12 : (rd x3_1 x5_2) = (rd l0 x4_1)
           ·rw [if_pos c12] at H
            have c12b0 : ((rd x3_1 x5_2) == (rd l0 x4_1)) = true := beq_iff_eq.mpr c12
            have c12b1 : ((rd x3_1 x5_2) != (rd l0 x4_1)) = false := bne_eq_false_iff_eq.mpr c12
            clear c12
            have H' := aQ H
            clear H
            try go_wp2
            have n0_ := aQ (Kd.R_drew HO_3.out)
            have n1_ := aQ (below_drew1 HB.out)
            clear HO_3
            clear HB
            have HO_3 := n0_
            have HB := n1_
            clear n0_ n1_
            obtain ⟨Ao14, co14, eo14⟩ := Kd.R_slice HO_3.out
            (first | subst eo14 | (injection eo14 with f1_ f2_ f3_; have f4_ := f1_.symm; have f5_ := f3_.symm; clear f1_ f2_ f3_; subst f4_; subst f5_))
            have p144004 : 0 ≤ (x5_2 : Int) := of_decide_eq_true as_
            have q144004 : x5_2 < (x3_1.length : Int) := of_decide_eq_true as_
            obtain ⟨ad144004, e144004, hx144004_0⟩ := Kd.at_int (Kd.R_reads' HO_3.out).2.2 x5_2 p144004 q144004
            cases e144004
            replace p144004 := eq_true p144004
            replace q144004 := eq_true q144004
            have p144005 : 0 ≤ (x4_1 : Int) := of_decide_eq_true as_
            have q144005 : x4_1 < (l0.length : Int) := of_decide_eq_true as_
            obtain ⟨ad144005, e144005, hx144005_0⟩ := Kd.at_int HR0.out x4_1 p144005 q144005
            have hw144005_0 := hx144005_0
            cases e144005
            replace hx144005_0 := (HB.out.cell (World.block_lt_of_cell? w _ hx144005_0)).trans hx144005_0
            replace p144005 := eq_true p144005
            replace q144005 := eq_true q144005
            refine start_ (n := 15) (S := fun w' => w'.cell? (ad144004.add (x5_2).toNat) = some (.int .i64 (rd x3_1 x5_2)) ∧ w'.cell? (ad144005.add (x4_1).toNat) = some (.int .i64 (rd l0 x4_1))) (ds := []) #[false, false, false, false, false, false, false, false, false, false, false, false, false, false, false] (by kernel_rfl) rfl rfl ⟨hx144004_0, ((HB.out.cell (World.block_lt_of_cell? w _ hw144005_0)).trans hw144005_0)⟩ (fun hHeld => ?_); refine with_tabW spec_SortSets.tab6 spec_SortSets.bits6 (fun HT_ HW_ => ?_)
            generalize wr.drew = w13 at HO_3 HB hx144004_0 hx144005_0 hHeld ⊢
            refine puA (i := 0) (N := some 14) HT_ (h := ?_)
            refine puA (i := 1) (N := some 15) HT_ (h := ?_)
            refine puA (i := 2) (N := some 16) HT_ (h := ?_)
            refine puA (i := 3) (N := some 17) HT_ (h := ?_)
            refine puA (i := 4) (N := some 18) HT_ (h := ?_)
            refine puA (i := 5) (N := some 19) HT_ (h := ?_)
            refine puA (i := 6) (N := some 20) HT_ (h := ?_)
            refine puA (i := 7) (N := some 21) HT_ (h := ?_)
            refine puA (i := 9) (N := some 23) HT_ (h := ?_)
            refine puA (i := 10) (N := some 24) HT_ (h := ?_)
            refine puA (i := 11) (N := some 25) HT_ (h := ?_)
            refine taA2 (i := 8) (N := some 22) HT_ HW_ hHeld (h := ?_)
            refine taA2 (i := 12) (N := some 26) HT_ HW_ hHeld (h := ?_)
            refine puA (i := 13) (N := some 27) HT_ (h := ?_)
            refine puA (i := 14) (N := some 28) HT_ (h := ?_)
            refine done_ (done_of HT_.out (by kernel_rfl)) ?_
            try go_wp2
            have n0_ := aQ (Kd.R_drew HO_3.out)
            have n1_ := aQ (below_drew1 HB.out)
            clear HO_3
            clear HB
            have HO_3 := n0_
            have HB := n1_
            clear n0_ n1_
            have p144006 : 0 ≤ (x5_2 : Int) := of_decide_eq_true as_
            have q144006 : x5_2 < (x3_1.length : Int) := of_decide_eq_true as_
            obtain ⟨ad144006, e144006, hx144006_0⟩ := Kd.at_int (Kd.R_reads' HO_3.out).2.2 x5_2 p144006 q144006
            obtain rfl : ad144004 = ad144006 := (by injection e144006)
            replace p144006 := eq_true p144006
            replace q144006 := eq_true q144006
            have p144007 : 0 ≤ (x4_1 : Int) := of_decide_eq_true as_
            have q144007 : x4_1 < (l0.length : Int) := of_decide_eq_true as_
            obtain ⟨ad144007, e144007, hx144007_0⟩ := Kd.at_int HR0.out x4_1 p144007 q144007
            have hw144007_0 := hx144007_0
            obtain rfl : ad144005 = ad144007 := (by injection e144007)
            replace hx144007_0 := (HB.out.cell (World.block_lt_of_cell? w _ hx144007_0)).trans hx144007_0
            replace p144007 := eq_true p144007
            replace q144007 := eq_true q144007
            refine start_ (n := 15) (S := fun w' => w'.cell? (ad144004.add (x5_2).toNat) = some (.int .i64 (rd x3_1 x5_2)) ∧ w'.cell? (ad144005.add (x4_1).toNat) = some (.int .i64 (rd l0 x4_1))) (ds := []) #[false, false, false, false, false, false, false, false, false, false, false, false, false, false, false] (by kernel_rfl) rfl rfl ⟨hx144006_0, ((HB.out.cell (World.block_lt_of_cell? w _ hw144007_0)).trans hw144007_0)⟩ (fun hHeld => ?_); refine with_tabW spec_SortSets.tab8 spec_SortSets.bits8 (fun HT_ HW_ => ?_)
            generalize w13.drew = w15 at HO_3 HB hx144006_0 hx144007_0 hHeld ⊢
            refine puA (i := 0) (N := some 31) HT_ (h := ?_)
            refine puA (i := 1) (N := some 32) HT_ (h := ?_)
            refine puA (i := 2) (N := some 33) HT_ (h := ?_)
            refine puA (i := 3) (N := some 34) HT_ (h := ?_)
            refine puA (i := 4) (N := some 35) HT_ (h := ?_)
            refine puA (i := 5) (N := some 36) HT_ (h := ?_)
            refine puA (i := 6) (N := some 37) HT_ (h := ?_)
            refine puA (i := 7) (N := some 38) HT_ (h := ?_)
            refine puA (i := 9) (N := some 40) HT_ (h := ?_)
            refine puA (i := 10) (N := some 41) HT_ (h := ?_)
            refine puA (i := 11) (N := some 42) HT_ (h := ?_)
            refine taA2 (i := 8) (N := some 39) HT_ HW_ hHeld (h := ?_)
            refine taA2 (i := 12) (N := some 43) HT_ HW_ hHeld (h := ?_)
            refine puA (i := 13) (N := some 44) HT_ (h := ?_)
            refine puA (i := 14) (N := some 45) HT_ (h := ?_)
            refine done_ (done_of HT_.out (by kernel_rfl)) ?_
            try go_wp2
            go_roundg k2
            case measure => have := HK1.out; have := HK2.out; omega
            case rel => exact ⟨(x3_1), (wrap64 (x4_1 + 1)), rs_, H', ⟨by have := HK1.out; have := HK2.out; omega⟩, ⟨pR HO_3.out⟩, ⟨pB HB.out⟩⟩
           ·rw [if_neg c12] at H
            have c12b0 : ((rd x3_1 x5_2) == (rd l0 x4_1)) = false := beq_eq_false_iff_ne.mpr c12
            have c12b1 : ((rd x3_1 x5_2) != (rd l0 x4_1)) = true := bne_iff_ne.mpr c12
            obtain ⟨y144008, hy144008⟩ : ∃ y_ : List Int, y_ = (([] : List Int)) := ⟨_, rfl⟩
            replace H : (if x5_2 ≤ (x3_1.length : Int) then ((some (x3_1.drop (x5_2 : Int).toNat : List Int)).bind fun y144011 => (if y144008.length + y144011.length < 17592186044416 then ((some (y144008 ++ y144011 : List Int)).bind fun y144015 => ((some (x3_1.take (x5_2 : Int).toNat : List Int)).bind fun y144018 => (if y144018.length < 17592186044416 then ((some (y144018 ++ [rd l0 x4_1] : List Int)).bind fun y144022 => (if y144022.length + y144015.length < 17592186044416 then (spec_SortSets.l0 k2 l0 (y144022 ++ y144015) (wrap64 (x4_1 + 1))) else (none))) else (none)))) else (none))) else (none)) = some r := by first | (rw [hy144008]; with_reducible exact H) | (have H2_ := (Option.bind_some _ _).symm.trans H; rw [hy144008]; with_reducible exact H2_) | (have H2_ := (Option.bind_some _ _).symm.trans H; with_reducible exact H2_) | with_reducible exact H | (rw [hy144008]; exact H) | exact H
            have Ny144008 := aQ hy144008
            clear hy144008
            have c16b0 := eq_true (of_decide_eq_true as_ : 0 ≤ x5_2)
            by_cases c17 : x5_2 ≤ (x3_1.length : Int)
            ·rw [if_pos c17] at H
             have c17b0 := eq_true c17
             have c17b1 : decide (x5_2 ≤ (x3_1.length : Int)) = true := decide_eq_true c17
             clear c17
             obtain ⟨y144011, hy144011⟩ : ∃ y_ : List Int, y_ = (x3_1.drop (x5_2 : Int).toNat) := ⟨_, rfl⟩
             replace H : (if y144008.length + y144011.length < 17592186044416 then ((some (y144008 ++ y144011 : List Int)).bind fun y144015 => ((some (x3_1.take (x5_2 : Int).toNat : List Int)).bind fun y144018 => (if y144018.length < 17592186044416 then ((some (y144018 ++ [rd l0 x4_1] : List Int)).bind fun y144022 => (if y144022.length + y144015.length < 17592186044416 then (spec_SortSets.l0 k2 l0 (y144022 ++ y144015) (wrap64 (x4_1 + 1))) else (none))) else (none)))) else (none)) = some r := by first | (rw [hy144011]; with_reducible exact H) | (have H2_ := (Option.bind_some _ _).symm.trans H; rw [hy144011]; with_reducible exact H2_) | (have H2_ := (Option.bind_some _ _).symm.trans H; with_reducible exact H2_) | with_reducible exact H | (rw [hy144011]; exact H) | exact H
             have Ny144011 := aQ hy144011
             clear hy144011
             by_cases c18 : y144008.length + y144011.length < 17592186044416
             ·rw [if_pos c18] at H
              have LMc18 := aQ c18
              clear c18
              obtain ⟨y144015, hy144015⟩ : ∃ y_ : List Int, y_ = (y144008 ++ y144011) := ⟨_, rfl⟩
              replace H : ((some (x3_1.take (x5_2 : Int).toNat : List Int)).bind fun y144018 => (if y144018.length < 17592186044416 then ((some (y144018 ++ [rd l0 x4_1] : List Int)).bind fun y144022 => (if y144022.length + y144015.length < 17592186044416 then (spec_SortSets.l0 k2 l0 (y144022 ++ y144015) (wrap64 (x4_1 + 1))) else (none))) else (none))) = some r := by first | (rw [hy144015]; with_reducible exact H) | (have H2_ := (Option.bind_some _ _).symm.trans H; rw [hy144015]; with_reducible exact H2_) | (have H2_ := (Option.bind_some _ _).symm.trans H; with_reducible exact H2_) | with_reducible exact H | (rw [hy144015]; exact H) | exact H
              have Ny144015 := aQ hy144015
              clear hy144015
              have c19b0 := eq_true (of_decide_eq_true as_ : x5_2 ≤ (x3_1.length : Int))
              obtain ⟨y144018, hy144018⟩ : ∃ y_ : List Int, y_ = (x3_1.take (x5_2 : Int).toNat) := ⟨_, rfl⟩
              replace H : (if y144018.length < 17592186044416 then ((some (y144018 ++ [rd l0 x4_1] : List Int)).bind fun y144022 => (if y144022.length + y144015.length < 17592186044416 then (spec_SortSets.l0 k2 l0 (y144022 ++ y144015) (wrap64 (x4_1 + 1))) else (none))) else (none)) = some r := by first | (rw [hy144018]; with_reducible exact H) | (have H2_ := (Option.bind_some _ _).symm.trans H; rw [hy144018]; with_reducible exact H2_) | (have H2_ := (Option.bind_some _ _).symm.trans H; with_reducible exact H2_) | with_reducible exact H | (rw [hy144018]; exact H) | exact H
              have Ny144018 := aQ hy144018
              clear hy144018
              by_cases c20 : y144018.length < 17592186044416
              ·rw [if_pos c20] at H
               have LMc20 := aQ c20
               clear c20
               obtain ⟨y144022, hy144022⟩ : ∃ y_ : List Int, y_ = (y144018 ++ [rd l0 x4_1]) := ⟨_, rfl⟩
               replace H : (if y144022.length + y144015.length < 17592186044416 then (spec_SortSets.l0 k2 l0 (y144022 ++ y144015) (wrap64 (x4_1 + 1))) else (none)) = some r := by first | (rw [hy144022]; with_reducible exact H) | (have H2_ := (Option.bind_some _ _).symm.trans H; rw [hy144022]; with_reducible exact H2_) | (have H2_ := (Option.bind_some _ _).symm.trans H; with_reducible exact H2_) | with_reducible exact H | (rw [hy144022]; exact H) | exact H
               have Ny144022 := aQ hy144022
               clear hy144022
               by_cases c21 : y144022.length + y144015.length < 17592186044416
               ·rw [if_pos c21] at H
                have LMc21 := aQ c21
                clear c21
                obtain ⟨y144025, hy144025⟩ : ∃ y_ : List Int, y_ = (y144022 ++ y144015) := ⟨_, rfl⟩
                replace H : (spec_SortSets.l0 k2 l0 y144025 (wrap64 (x4_1 + 1))) = some r := by first | (rw [hy144025]; with_reducible exact H) | (have H2_ := (Option.bind_some _ _).symm.trans H; rw [hy144025]; with_reducible exact H2_) | (have H2_ := (Option.bind_some _ _).symm.trans H; with_reducible exact H2_) | with_reducible exact H | (rw [hy144025]; exact H) | exact H
                have Ny144025 := aQ hy144025
                clear hy144025
                have H' := aQ H
                clear H
                try go_wp2
                have n0_ := aQ (Kd.R_drew HO_3.out)
                have n1_ := aQ (below_drew1 HB.out)
                clear HO_3
                clear HB
                have HO_3 := n0_
                have HB := n1_
                clear n0_ n1_
                obtain ⟨Ao23, co23, eo23⟩ := Kd.R_slice HO_3.out
                (first | subst eo23 | (injection eo23 with f1_ f2_ f3_; have f4_ := f1_.symm; have f5_ := f3_.symm; clear f1_ f2_ f3_; subst f4_; subst f5_))
                have p144004 : 0 ≤ (x5_2 : Int) := of_decide_eq_true as_
                have q144004 : x5_2 < (x3_1.length : Int) := of_decide_eq_true as_
                obtain ⟨ad144004, e144004, hx144004_0⟩ := Kd.at_int (Kd.R_reads' HO_3.out).2.2 x5_2 p144004 q144004
                cases e144004
                replace p144004 := eq_true p144004
                replace q144004 := eq_true q144004
                have p144005 : 0 ≤ (x4_1 : Int) := of_decide_eq_true as_
                have q144005 : x4_1 < (l0.length : Int) := of_decide_eq_true as_
                obtain ⟨ad144005, e144005, hx144005_0⟩ := Kd.at_int HR0.out x4_1 p144005 q144005
                have hw144005_0 := hx144005_0
                cases e144005
                replace hx144005_0 := (HB.out.cell (World.block_lt_of_cell? w _ hx144005_0)).trans hx144005_0
                replace p144005 := eq_true p144005
                replace q144005 := eq_true q144005
                refine start_ (n := 15) (S := fun w' => w'.cell? (ad144004.add (x5_2).toNat) = some (.int .i64 (rd x3_1 x5_2)) ∧ w'.cell? (ad144005.add (x4_1).toNat) = some (.int .i64 (rd l0 x4_1))) (ds := []) #[false, false, false, false, false, false, false, false, false, false, false, false, false, false, false] (by kernel_rfl) rfl rfl ⟨hx144004_0, ((HB.out.cell (World.block_lt_of_cell? w _ hw144005_0)).trans hw144005_0)⟩ (fun hHeld => ?_); refine with_tabW spec_SortSets.tab6 spec_SortSets.bits6 (fun HT_ HW_ => ?_)
                generalize wr.drew = w22 at HO_3 HB hx144004_0 hx144005_0 hHeld ⊢
                refine puA (i := 0) (N := some 14) HT_ (h := ?_)
                refine puA (i := 1) (N := some 15) HT_ (h := ?_)
                refine puA (i := 2) (N := some 16) HT_ (h := ?_)
                refine puA (i := 3) (N := some 17) HT_ (h := ?_)
                refine puA (i := 4) (N := some 18) HT_ (h := ?_)
                refine puA (i := 5) (N := some 19) HT_ (h := ?_)
                refine puA (i := 6) (N := some 20) HT_ (h := ?_)
                refine puA (i := 7) (N := some 21) HT_ (h := ?_)
                refine puA (i := 9) (N := some 23) HT_ (h := ?_)
                refine puA (i := 10) (N := some 24) HT_ (h := ?_)
                refine puA (i := 11) (N := some 25) HT_ (h := ?_)
                refine taA2 (i := 8) (N := some 22) HT_ HW_ hHeld (h := ?_)
                refine taA2 (i := 12) (N := some 26) HT_ HW_ hHeld (h := ?_)
                refine puA (i := 13) (N := some 27) HT_ (h := ?_)
                refine puA (i := 14) (N := some 28) HT_ (h := ?_)
                refine done_ (done_of HT_.out (by kernel_rfl)) ?_
                try go_wp2
                have n0_ := aQ (Kd.R_drew HO_3.out)
                have n1_ := aQ (below_drew1 HB.out)
                clear HO_3
                clear HB
                have HO_3 := n0_
                have HB := n1_
                clear n0_ n1_
                have p144006 : 0 ≤ (x5_2 : Int) := of_decide_eq_true as_
                have q144006 : x5_2 < (x3_1.length : Int) := of_decide_eq_true as_
                obtain ⟨ad144006, e144006, hx144006_0⟩ := Kd.at_int (Kd.R_reads' HO_3.out).2.2 x5_2 p144006 q144006
                obtain rfl : ad144004 = ad144006 := (by injection e144006)
                replace p144006 := eq_true p144006
                replace q144006 := eq_true q144006
                have p144007 : 0 ≤ (x4_1 : Int) := of_decide_eq_true as_
                have q144007 : x4_1 < (l0.length : Int) := of_decide_eq_true as_
                obtain ⟨ad144007, e144007, hx144007_0⟩ := Kd.at_int HR0.out x4_1 p144007 q144007
                have hw144007_0 := hx144007_0
                obtain rfl : ad144005 = ad144007 := (by injection e144007)
                replace hx144007_0 := (HB.out.cell (World.block_lt_of_cell? w _ hx144007_0)).trans hx144007_0
                replace p144007 := eq_true p144007
                replace q144007 := eq_true q144007
                refine start_ (n := 15) (S := fun w' => w'.cell? (ad144004.add (x5_2).toNat) = some (.int .i64 (rd x3_1 x5_2)) ∧ w'.cell? (ad144005.add (x4_1).toNat) = some (.int .i64 (rd l0 x4_1))) (ds := []) #[false, false, false, false, false, false, false, false, false, false, false, false, false, false, false] (by kernel_rfl) rfl rfl ⟨hx144006_0, ((HB.out.cell (World.block_lt_of_cell? w _ hw144007_0)).trans hw144007_0)⟩ (fun hHeld => ?_); refine with_tabW spec_SortSets.tab8 spec_SortSets.bits8 (fun HT_ HW_ => ?_)
                generalize w22.drew = w24 at HO_3 HB hx144006_0 hx144007_0 hHeld ⊢
                refine puA (i := 0) (N := some 31) HT_ (h := ?_)
                refine puA (i := 1) (N := some 32) HT_ (h := ?_)
                refine puA (i := 2) (N := some 33) HT_ (h := ?_)
                refine puA (i := 3) (N := some 34) HT_ (h := ?_)
                refine puA (i := 4) (N := some 35) HT_ (h := ?_)
                refine puA (i := 5) (N := some 36) HT_ (h := ?_)
                refine puA (i := 6) (N := some 37) HT_ (h := ?_)
                refine puA (i := 7) (N := some 38) HT_ (h := ?_)
                refine puA (i := 9) (N := some 40) HT_ (h := ?_)
                refine puA (i := 10) (N := some 41) HT_ (h := ?_)
                refine puA (i := 11) (N := some 42) HT_ (h := ?_)
                refine taA2 (i := 8) (N := some 39) HT_ HW_ hHeld (h := ?_)
                refine taA2 (i := 12) (N := some 43) HT_ HW_ hHeld (h := ?_)
                refine puA (i := 13) (N := some 44) HT_ (h := ?_)
                refine puA (i := 14) (N := some 45) HT_ (h := ?_)
                refine done_ (done_of HT_.out (by kernel_rfl)) ?_
                try go_wp2_with (first | ((with_reducible refine gate_dst (N := 46) rfl ?_); refine Kd.R_lit (Kd.int .i64) _ 3 ?hg (N := 46) ?hd (xs := ([] : List Int)) (inner := []) (ok := fun _ => True) (okp := fun _ => True) ?hr ?hp (fun _ hk => hk) trivial (Below.refl _ _) (Nat.le_refl _) (by simp) ?_; (case hd => rfl); (case hg => rfl); (case hr => first | (go_simp; done) | (go_simp; rfl)); (case hp => exact (Reps.none _ _)); intro v144009 w25 ho26 hb hg_ hnew_; clear hg_ hnew_; (first | rw [← Ny144008.out] at ho26 | (simp only [Int.reduceToNat] at ho26; rw [← Ny144008.out] at ho26)); have HO144010 := aQ (Kd.R_lower (Kd.R_new' ho26 (Kd.R_lt (pR HO_3.out))) (below_size (pB HB.out))); replace HO_3 := aQ (Kd.R_elder' (pR HO_3.out) (Kd.R_base ho26) hb); replace HB := aQ (below_step (pB HB.out) hb); clear hb ho26; have q27 : (x5_2 : Int) ≤ ((x3_1.length : Int) : Int) := of_decide_eq_true as_; obtain ⟨i027, hi027, _, hsz27, _⟩ := info_parts info3; have hroom27 : x3_1.length ≤ co23 := (Kd.R_reads' HO_3.out).2.1; have hC27 : Kd.C (Kd.int .i64) _ (some ad144004) x3_1.length x3_1 := (Kd.R_reads' HO_3.out).2.2; have q027 : (0 : Int) ≤ (x5_2 : Int) := of_decide_eq_true as_; have hcut27 := cut_from (P := Try.prog) 22 3 .i64 Try.underlying22 hi027 1 hsz27 (some ad144004) x3_1.length co23 x5_2 q027 q27; have hr27 := Kd.C_drop (m := (x5_2 : Int).toNat) (c := co23) hC27 (by omega) hroom27; obtain ⟨A27, hA27⟩ : ∃ A1, A1 = (if co23 = (x5_2 : Int).toNat then (some ad144004) else ((some ad144004) : Option Addr).map (·.add ((x5_2 : Int).toNat * 1))) := ⟨_, rfl⟩; obtain ⟨c27, hc27⟩ : ∃ c1, c1 = co23 - (x5_2 : Int).toNat := ⟨_, rfl⟩; have hy27 : y144011.length = x3_1.length - (x5_2 : Int).toNat := (by rw [Ny144011.out, List.length_drop] <;> omega); rw [show (x3_1).drop (x5_2 : Int).toNat = y144011 from Ny144011.out.symm] at hr27; replace hr27 : Kd.C (Kd.int .i64) _ A27 y144011.length y144011 := (by rw [hA27]; exact hr27); rw [← hy27, ← hA27, ← hc27] at hcut27; have HR144014 := aQ hr27; have HC144014 := aQ (show y144011.length ≤ c27 from by rw [hy27, hc27]; exact Nat.sub_le_sub_right hroom27 _); clear hr27 hC27 hroom27 hi027 hsz27 hc27; have KY27 := aQ hy27; have KA27 := aQ hA27; clear hy27 hA27; have KL27 := aQ (show (x5_2 : Int).toNat ≤ x3_1.length from by omega); replace q27 := eq_true q27) | ((with_reducible refine gate_builtin (b := .append) (xs := #[.tmp 46, .tmp 49]) rfl ?_); at_builtin; refine Kd.R_append_rows (Kd.int .i64) (w0 := w) w.heap.size rfl (.tmp 46) (.tmp 49) 22 3 (.int .i64 0) 8 rfl Try.underlying22 info3 rfl (by decide) (by omega) v144009 y144008 y144011 _ _ _ (fun k_ => some k_ ≠ (.slice (some ad144004) x3_1.length co23 : Value).ownBlock) (fun _ => False) rfl rfl ?aO ?aR (fun _ _ h => h) (fun _ h => h.elim) ?aF ?aB ?aS ?aL ?_; (case aR => repeat (first | exact (by repeat (first | (with_reducible exact HR144014.out) | (with_reducible refine Kd.C_alloc ?_ _) | (with_reducible refine Kd.C_drewN ?_ _) | (with_reducible refine Kd.C_drew ?_) | exact HR144014.out)) | (with_reducible refine Kd.C_alloc ?_ _) | (with_reducible refine Kd.C_drewN ?_ _) | (with_reducible refine Kd.C_drew ?_))); (case aB => exact (pB HB.out)); (case aF => exact (fun k_ hk => Kd.fresh' (Kd.R_lt (pR HO_3.out)) k_ hk)); (case aO => exact (by (with_reducible repeat (first | apply Kd.R_alloc | apply Kd.R_drewN | apply Kd.R_drew)); exact Kd.R_mono HO144010.out (fun _ hk => hk.2))); (case aS => exact (below_size (pB HB.out))); (case aL => have := LMc18.out; omega); intro v144016 w28 ho hb hg hat; rw [← Ny144015.out] at ho; replace HB := aQ (hb); replace HR144014 := aQ ((show Kd.C (Kd.int .i64) w28 A27 y144011.length y144011 from by rw [Ny144011.out, KA27.out]; exact Kd.C_drop (m := (x5_2 : Int).toNat) (c := co23) ((Kd.R_reads' (Kd.R_after (ok := (fun _ => True)) (pR HO_3.out) hg hat)).2.2) KL27.out ((Kd.R_reads' (Kd.R_after (ok := (fun _ => True)) (pR HO_3.out) hg hat)).2.1))); replace HO_3 := aQ (Kd.R_after (ok := (fun _ => True)) (pR HO_3.out) hg hat); have HO144017 := aQ (ho); clear HO144010; clear ho hb hg hat))
                have n0_ := aQ (Kd.R_drew HO_3.out)
                have n1_ := aQ (Kd.R_drew HO144017.out)
                have n2_ := aQ (Kd.C_drew HR144014.out)
                have n3_ := aQ (below_drew1 HB.out)
                clear HO_3
                clear HO144017
                clear HR144014
                clear HB
                have HO_3 := n0_
                have HO144017 := n1_
                have HR144014 := n2_
                have HB := n3_
                clear n0_ n1_ n2_ n3_
                have q30 : (x5_2 : Int) ≤ ((x3_1.length : Int) : Int) := of_decide_eq_true as_
                obtain ⟨i030, hi030, _, hsz30, _⟩ := info_parts info3
                have hcut30 := cut_to (P := Try.prog) 22 3 .i64 Try.underlying22 hi030 (some ad144004) x3_1.length co23 x5_2 (of_decide_eq_true as_) q30 (Kd.R_reads' HO_3.out).2.1
                have hr30 := Kd.R_take (m := (x5_2 : Int).toNat) HO_3.out (by omega)
                have hy30 : y144018.length = (x5_2 : Int).toNat := (by rw [Ny144018.out, List.length_take]; omega)
                rw [← Ny144018.out] at hr30
                rw [← hy30] at hr30 hcut30
                clear hy30 hi030 hsz30 HO_3
                have HO144020 := aQ hr30
                clear hr30
                replace q30 := eq_true q30
                have p144021 : 0 ≤ (x4_1 : Int) := of_decide_eq_true as_
                have q144021 : x4_1 < (l0.length : Int) := of_decide_eq_true as_
                obtain ⟨ad144021, e144021, hx144021_0⟩ := Kd.at_int HR0.out x4_1 p144021 q144021
                have hw144021_0 := hx144021_0
                obtain rfl : ad144005 = ad144021 := (by injection e144021)
                replace hx144021_0 := (HB.out.cell (World.block_lt_of_cell? w _ hx144021_0)).trans hx144021_0
                replace p144021 := eq_true p144021
                replace q144021 := eq_true q144021
                refine start_ (n := 12) (S := fun w' => w'.cell? (ad144005.add (x4_1).toNat) = some (.int .i64 (rd l0 x4_1))) (ds := []) #[false, false, false, false, false, false, false, false, false, false, false, false] (by kernel_rfl) rfl rfl (((HB.out.cell (World.block_lt_of_cell? w _ hw144021_0)).trans hw144021_0)) (fun hHeld => ?_); refine with_tabW spec_SortSets.tab10 spec_SortSets.bits10 (fun HT_ HW_ => ?_)
                generalize w28.drew = w29 at HO_3 HO144017 HR144014 HB HO144020 hx144021_0 hHeld ⊢
                refine puA (i := 0) (N := some 51) HT_ (h := ?_)
                refine puA (i := 1) (N := some 52) HT_ (h := ?_)
                refine puA (i := 2) (N := some 53) HT_ (h := ?_)
                refine puA (i := 3) (N := some 54) HT_ (h := ?_)
                refine puA (i := 4) (N := some 55) HT_ (h := ?_)
                refine puA (i := 5) (N := some 56) HT_ (h := ?_)
                refine puA (i := 9) (N := some 60) HT_ (h := ?_)
                refine taA1 (i := 6) (N := some 57) HT_ HW_ hHeld (h := ?_)
                refine onA (i := 7) (N := some 58) HT_ (h := fun K hK => ?_)
                refine value_ (w1 := ?_) (v := ?_) (by rfl) rfl ?_ ?_
                rotate_left 2
                ·go_simp
                 constructor
                 ·rfl
                 ·rfl
                refine hK.out _ _ ((World.cell?_alloc_lt _ _ _ (World.block_lt_of_cell? _ _ (((HB.out.cell (World.block_lt_of_cell? w _ hw144021_0)).trans hw144021_0)))).trans (((HB.out.cell (World.block_lt_of_cell? w _ hw144021_0)).trans hw144021_0))) (fun hHeld => ?_)
                clear hK K
                refine noA (h := ?_)
                refine onA (i := 8) (N := some 59) HT_ (h := fun K hK => ?_)
                refine Kd.R_append_step (Kd.int .i64) (w0 := w) w.heap.size (by rfl) (.tmp 53) (.tmp 58) 22 3 (.int .i64 0) 8 rfl Try.underlying22 info3 rfl (by decide) (by omega) (.slice (some ad144004) y144018.length co23) y144018 (rd l0 x4_1) [.int .i64 (rd l0 x4_1)] (fun k_ => some k_ ≠ (v144016 : Value).ownBlock) (fun _ => False) rfl rfl ?aP (fun _ hk => hk.elim) ?aF ?aO ?aB ?aS ?aL ?_
                (case aP => exact rfl)
                (case aB => exact (pB HB.out))
                (case aF => exact (fun k_ hk => Kd.fresh' (Kd.R_lt (pR HO144017.out)) k_ hk))
                (case aO => exact (by (with_reducible repeat (first | apply Kd.R_alloc | apply Kd.R_drewN | apply Kd.R_drew)); exact Kd.R_mono HO144020.out (fun _ hk => hk.2)))
                (case aS => exact (below_size (pB HB.out)))
                (case aL => have := LMc20.out; omega)
                intro v144023 w31 ho hb hg hat
                rw [← Ny144022.out] at ho
                have n0_ := aQ (Kd.R_after (ok := (fun _ => True)) (by (with_reducible repeat (first | apply Kd.R_alloc | apply Kd.R_drewN | apply Kd.R_drew)); exact Kd.R_mono HO144017.out (fun _ hk => ⟨trivial, by first | exact hk | exact fun h_ => hk (h_.trans (ob_len _ _ _ _))⟩)) hg hat)
                have n1_ := aQ (hb)
                have n2_ := aQ (ho)
                clear HO144017
                clear HB
                clear HO144020
                have HO144017 := n0_
                have HB := n1_
                have HO144024 := n2_
                clear n0_ n1_ n2_
                clear ho hb hg hat
                obtain ⟨Ao33, co33, eo33⟩ := Kd.R_slice HO144017.out
                (first | subst eo33 | (injection eo33 with f1_ f2_ f3_; have f4_ := f1_.symm; have f5_ := f3_.symm; clear f1_ f2_ f3_; subst f4_; subst f5_))
                refine hK.out _ _ (((HB.out.cell (World.block_lt_of_cell? w _ hw144021_0)).trans hw144021_0)) (fun hHeld => ?_)
                clear hK K
                refine noA (h := ?_)
                refine onA (i := 10) (N := some 61) HT_ (h := fun K hK => ?_)
                refine Kd.R_append_rows_step (Kd.int .i64) (w0 := w) w.heap.size (by rfl) (.tmp 59) (.tmp 60) 22 3 (.int .i64 0) 8 rfl Try.underlying22 info3 rfl (by decide) (by omega) v144023 y144022 y144015 _ _ _ (fun k_ => some k_ ≠ (.slice Ao33 y144015.length co33 : Value).ownBlock) (fun _ => False) rfl rfl ?aO ?aR (fun _ _ h => h) (fun _ h => h.elim) ?aF ?aB ?aS ?aL ?_
                (case aR => repeat (first | exact (Kd.R_reads' HO144017.out).2.2 | (with_reducible refine Kd.C_alloc ?_ _) | (with_reducible refine Kd.C_drewN ?_ _) | (with_reducible refine Kd.C_drew ?_)))
                (case aB => exact (pB HB.out))
                (case aF => exact (fun k_ hk => Kd.fresh' (Kd.R_lt (pR HO144017.out)) k_ hk))
                (case aO => exact (pR HO144024.out))
                (case aS => exact (below_size (pB HB.out)))
                (case aL => have := LMc21.out; omega)
                intro v144026 w32 ho hb hg hat
                rw [← Ny144025.out] at ho
                have n0_ := aQ (Kd.R_after (ok := (fun _ => True)) (pR HO144017.out) hg hat)
                have n1_ := aQ (hb)
                have n2_ := aQ (ho)
                clear HO144017
                clear HB
                clear HO144024
                have HO144017 := n0_
                have HB := n1_
                have HO144027 := n2_
                clear n0_ n1_ n2_
                clear ho hb hg hat
                refine hK.out _ _ (((HB.out.cell (World.block_lt_of_cell? w _ hw144021_0)).trans hw144021_0)) (fun hHeld => ?_)
                clear hK K
                refine noA (h := ?_)
                refine puA (i := 11) (N := some 3) HT_ (h := ?_)
                refine done_ (done_of HT_.out (by kernel_rfl)) ?_
                try go_wp2
                go_roundg k2
                case measure => have := HK1.out; have := HK2.out; omega
                case rel => exact ⟨(y144025), (wrap64 (x4_1 + 1)), rs_, H', ⟨by have := HK1.out; have := HK2.out; omega⟩, ⟨by (with_reducible repeat (first | apply Kd.R_alloc | apply Kd.R_drewN | apply Kd.R_drew)); exact Kd.R_mono HO144027.out (fun _ hk => trivial)⟩, ⟨pB HB.out⟩⟩
               ·rw [if_neg c21] at H
                exact absurd H (by simp)
              ·rw [if_neg c20] at H
               exact absurd H (by simp)
             ·rw [if_neg c18] at H
              exact absurd H (by simp)
            ·rw [if_neg c17] at H
             exact absurd H (by simp)
         ·rw [if_neg c8] at H
          exact absurd H (by simp)
        ·rw [if_neg c7] at H
         exact absurd H (by simp)
       ·rw [if_neg c6] at H
        exact absurd H (by simp)
      ·rw [if_neg c5] at H
       have c5b0 : decide (x5_2 < (x3_1.length : Int)) = false := decide_eq_false c5
       clear c5
       obtain ⟨y144028, hy144028⟩ : ∃ y_ : List Int, y_ = (([] : List Int)) := ⟨_, rfl⟩
       replace H : (if 0 ≤ x5_2 then (if x5_2 ≤ (x3_1.length : Int) then ((some (x3_1.drop (x5_2 : Int).toNat : List Int)).bind fun y144031 => (if y144028.length + y144031.length < 17592186044416 then ((some (y144028 ++ y144031 : List Int)).bind fun y144035 => ((some (x3_1.take (x5_2 : Int).toNat : List Int)).bind fun y144038 => (if 0 ≤ x4_1 then (if x4_1 < (l0.length : Int) then (if y144038.length < 17592186044416 then ((some (y144038 ++ [rd l0 x4_1] : List Int)).bind fun y144042 => (if y144042.length + y144035.length < 17592186044416 then (spec_SortSets.l0 k2 l0 (y144042 ++ y144035) (wrap64 (x4_1 + 1))) else (none))) else (none)) else (none)) else (none)))) else (none))) else (none)) else (none)) = some r := by first | (rw [hy144028]; with_reducible exact H) | (have H2_ := (Option.bind_some _ _).symm.trans H; rw [hy144028]; with_reducible exact H2_) | (have H2_ := (Option.bind_some _ _).symm.trans H; with_reducible exact H2_) | with_reducible exact H | (rw [hy144028]; exact H) | exact H
       have Ny144028 := aQ hy144028
       clear hy144028
       by_cases c34 : 0 ≤ x5_2
       ·rw [if_pos c34] at H
        have c34b0 := eq_true c34
        have c34b1 : decide (0 ≤ x5_2) = true := decide_eq_true c34
        clear c34
        by_cases c35 : x5_2 ≤ (x3_1.length : Int)
        ·rw [if_pos c35] at H
         have c35b0 := eq_true c35
         have c35b1 : decide (x5_2 ≤ (x3_1.length : Int)) = true := decide_eq_true c35
         clear c35
         obtain ⟨y144031, hy144031⟩ : ∃ y_ : List Int, y_ = (x3_1.drop (x5_2 : Int).toNat) := ⟨_, rfl⟩
         replace H : (if y144028.length + y144031.length < 17592186044416 then ((some (y144028 ++ y144031 : List Int)).bind fun y144035 => ((some (x3_1.take (x5_2 : Int).toNat : List Int)).bind fun y144038 => (if 0 ≤ x4_1 then (if x4_1 < (l0.length : Int) then (if y144038.length < 17592186044416 then ((some (y144038 ++ [rd l0 x4_1] : List Int)).bind fun y144042 => (if y144042.length + y144035.length < 17592186044416 then (spec_SortSets.l0 k2 l0 (y144042 ++ y144035) (wrap64 (x4_1 + 1))) else (none))) else (none)) else (none)) else (none)))) else (none)) = some r := by first | (rw [hy144031]; with_reducible exact H) | (have H2_ := (Option.bind_some _ _).symm.trans H; rw [hy144031]; with_reducible exact H2_) | (have H2_ := (Option.bind_some _ _).symm.trans H; with_reducible exact H2_) | with_reducible exact H | (rw [hy144031]; exact H) | exact H
         have Ny144031 := aQ hy144031
         clear hy144031
         by_cases c36 : y144028.length + y144031.length < 17592186044416
         ·rw [if_pos c36] at H
          have LMc36 := aQ c36
          clear c36
          obtain ⟨y144035, hy144035⟩ : ∃ y_ : List Int, y_ = (y144028 ++ y144031) := ⟨_, rfl⟩
          replace H : ((some (x3_1.take (x5_2 : Int).toNat : List Int)).bind fun y144038 => (if 0 ≤ x4_1 then (if x4_1 < (l0.length : Int) then (if y144038.length < 17592186044416 then ((some (y144038 ++ [rd l0 x4_1] : List Int)).bind fun y144042 => (if y144042.length + y144035.length < 17592186044416 then (spec_SortSets.l0 k2 l0 (y144042 ++ y144035) (wrap64 (x4_1 + 1))) else (none))) else (none)) else (none)) else (none))) = some r := by first | (rw [hy144035]; with_reducible exact H) | (have H2_ := (Option.bind_some _ _).symm.trans H; rw [hy144035]; with_reducible exact H2_) | (have H2_ := (Option.bind_some _ _).symm.trans H; with_reducible exact H2_) | with_reducible exact H | (rw [hy144035]; exact H) | exact H
          have Ny144035 := aQ hy144035
          clear hy144035
          have c37b0 := eq_true (of_decide_eq_true as_ : x5_2 ≤ (x3_1.length : Int))
          obtain ⟨y144038, hy144038⟩ : ∃ y_ : List Int, y_ = (x3_1.take (x5_2 : Int).toNat) := ⟨_, rfl⟩
          replace H : (if 0 ≤ x4_1 then (if x4_1 < (l0.length : Int) then (if y144038.length < 17592186044416 then ((some (y144038 ++ [rd l0 x4_1] : List Int)).bind fun y144042 => (if y144042.length + y144035.length < 17592186044416 then (spec_SortSets.l0 k2 l0 (y144042 ++ y144035) (wrap64 (x4_1 + 1))) else (none))) else (none)) else (none)) else (none)) = some r := by first | (rw [hy144038]; with_reducible exact H) | (have H2_ := (Option.bind_some _ _).symm.trans H; rw [hy144038]; with_reducible exact H2_) | (have H2_ := (Option.bind_some _ _).symm.trans H; with_reducible exact H2_) | with_reducible exact H | (rw [hy144038]; exact H) | exact H
          have Ny144038 := aQ hy144038
          clear hy144038
          by_cases c38 : 0 ≤ x4_1
          ·rw [if_pos c38] at H
           have c38b0 : decide (0 ≤ x4_1) = true := decide_eq_true c38
           clear c38
           by_cases c39 : x4_1 < (l0.length : Int)
           ·rw [if_pos c39] at H
            have c39b0 : decide (x4_1 < (l0.length : Int)) = true := decide_eq_true c39
            clear c39
            by_cases c40 : y144038.length < 17592186044416
            ·rw [if_pos c40] at H
             have LMc40 := aQ c40
             clear c40
             obtain ⟨y144042, hy144042⟩ : ∃ y_ : List Int, y_ = (y144038 ++ [rd l0 x4_1]) := ⟨_, rfl⟩
             replace H : (if y144042.length + y144035.length < 17592186044416 then (spec_SortSets.l0 k2 l0 (y144042 ++ y144035) (wrap64 (x4_1 + 1))) else (none)) = some r := by first | (rw [hy144042]; with_reducible exact H) | (have H2_ := (Option.bind_some _ _).symm.trans H; rw [hy144042]; with_reducible exact H2_) | (have H2_ := (Option.bind_some _ _).symm.trans H; with_reducible exact H2_) | with_reducible exact H | (rw [hy144042]; exact H) | exact H
             have Ny144042 := aQ hy144042
             clear hy144042
             by_cases c41 : y144042.length + y144035.length < 17592186044416
             ·rw [if_pos c41] at H
              have LMc41 := aQ c41
              clear c41
              obtain ⟨y144045, hy144045⟩ : ∃ y_ : List Int, y_ = (y144042 ++ y144035) := ⟨_, rfl⟩
              replace H : (spec_SortSets.l0 k2 l0 y144045 (wrap64 (x4_1 + 1))) = some r := by first | (rw [hy144045]; with_reducible exact H) | (have H2_ := (Option.bind_some _ _).symm.trans H; rw [hy144045]; with_reducible exact H2_) | (have H2_ := (Option.bind_some _ _).symm.trans H; with_reducible exact H2_) | with_reducible exact H | (rw [hy144045]; exact H) | exact H
              have Ny144045 := aQ hy144045
              clear hy144045
              have H' := aQ H
              clear H
              try go_wp2
              have n0_ := aQ (Kd.R_drew HO_3.out)
              have n1_ := aQ (below_drew1 HB.out)
              clear HO_3
              clear HB
              have HO_3 := n0_
              have HB := n1_
              clear n0_ n1_
              obtain ⟨Ao43, co43, eo43⟩ := Kd.R_slice HO_3.out
              (first | subst eo43 | (injection eo43 with f1_ f2_ f3_; have f4_ := f1_.symm; have f5_ := f3_.symm; clear f1_ f2_ f3_; subst f4_; subst f5_))
              refine start_ (n := 15) (S := fun w' => True) (ds := []) #[false, false, false, false, false, false, false, false, false, false, false, false, false, false, false] (by kernel_rfl) rfl rfl trivial (fun hHeld => ?_); refine with_tabW spec_SortSets.tab6 spec_SortSets.bits6 (fun HT_ HW_ => ?_)
              generalize wr.drew = w42 at HO_3 HB hHeld ⊢
              refine puA (i := 0) (N := some 14) HT_ (h := ?_)
              refine puA (i := 1) (N := some 15) HT_ (h := ?_)
              refine puA (i := 2) (N := some 16) HT_ (h := ?_)
              refine puA (i := 3) (N := some 17) HT_ (h := ?_)
              refine puA (i := 4) (N := some 18) HT_ (h := ?_)
              refine puU (i := 5) (N := some 19) HT_ (h := ?_)
              refine puU (i := 6) (N := some 20) HT_ (h := ?_)
              refine puU (i := 7) (N := some 21) HT_ (h := ?_)
              refine puU (i := 8) (N := some 22) HT_ (h := ?_)
              refine puU (i := 9) (N := some 23) HT_ (h := ?_)
              refine puU (i := 10) (N := some 24) HT_ (h := ?_)
              refine puU (i := 11) (N := some 25) HT_ (h := ?_)
              refine puU (i := 12) (N := some 26) HT_ (h := ?_)
              refine puU (i := 13) (N := some 27) HT_ (h := ?_)
              refine puA (i := 14) (N := some 28) HT_ (h := ?_)
              refine done_ (done_of HT_.out (by kernel_rfl)) ?_
              try go_wp2
              have n0_ := aQ (Kd.R_drew HO_3.out)
              have n1_ := aQ (below_drew1 HB.out)
              clear HO_3
              clear HB
              have HO_3 := n0_
              have HB := n1_
              clear n0_ n1_
              refine start_ (n := 15) (S := fun w' => True) (ds := []) #[false, false, false, false, false, false, false, false, false, false, false, false, false, false, false] (by kernel_rfl) rfl rfl trivial (fun hHeld => ?_); refine with_tabW spec_SortSets.tab8 spec_SortSets.bits8 (fun HT_ HW_ => ?_)
              generalize w42.drew = w44 at HO_3 HB hHeld ⊢
              refine puA (i := 0) (N := some 31) HT_ (h := ?_)
              refine puA (i := 1) (N := some 32) HT_ (h := ?_)
              refine puA (i := 2) (N := some 33) HT_ (h := ?_)
              refine puA (i := 3) (N := some 34) HT_ (h := ?_)
              refine puA (i := 4) (N := some 35) HT_ (h := ?_)
              refine puU (i := 5) (N := some 36) HT_ (h := ?_)
              refine puU (i := 6) (N := some 37) HT_ (h := ?_)
              refine puU (i := 7) (N := some 38) HT_ (h := ?_)
              refine puU (i := 8) (N := some 39) HT_ (h := ?_)
              refine puU (i := 9) (N := some 40) HT_ (h := ?_)
              refine puU (i := 10) (N := some 41) HT_ (h := ?_)
              refine puU (i := 11) (N := some 42) HT_ (h := ?_)
              refine puU (i := 12) (N := some 43) HT_ (h := ?_)
              refine puU (i := 13) (N := some 44) HT_ (h := ?_)
              refine puA (i := 14) (N := some 45) HT_ (h := ?_)
              refine done_ (done_of HT_.out (by kernel_rfl)) ?_
              try go_wp2_with (first | ((with_reducible refine gate_dst (N := 46) rfl ?_); refine Kd.R_lit (Kd.int .i64) _ 3 ?hg (N := 46) ?hd (xs := ([] : List Int)) (inner := []) (ok := fun _ => True) (okp := fun _ => True) ?hr ?hp (fun _ hk => hk) trivial (Below.refl _ _) (Nat.le_refl _) (by simp) ?_; (case hd => rfl); (case hg => rfl); (case hr => first | (go_simp; done) | (go_simp; rfl)); (case hp => exact (Reps.none _ _)); intro v144029 w45 ho46 hb hg_ hnew_; clear hg_ hnew_; (first | rw [← Ny144028.out] at ho46 | (simp only [Int.reduceToNat] at ho46; rw [← Ny144028.out] at ho46)); have HO144030 := aQ (Kd.R_lower (Kd.R_new' ho46 (Kd.R_lt (pR HO_3.out))) (below_size (pB HB.out))); replace HO_3 := aQ (Kd.R_elder' (pR HO_3.out) (Kd.R_base ho46) hb); replace HB := aQ (below_step (pB HB.out) hb); clear hb ho46; have q47 : (x5_2 : Int) ≤ ((x3_1.length : Int) : Int) := of_decide_eq_true as_; obtain ⟨i047, hi047, _, hsz47, _⟩ := info_parts info3; have hroom47 : x3_1.length ≤ co43 := (Kd.R_reads' HO_3.out).2.1; have hC47 : Kd.C (Kd.int .i64) _ Ao43 x3_1.length x3_1 := (Kd.R_reads' HO_3.out).2.2; have q047 : (0 : Int) ≤ (x5_2 : Int) := of_decide_eq_true as_; have hcut47 := cut_from (P := Try.prog) 22 3 .i64 Try.underlying22 hi047 1 hsz47 Ao43 x3_1.length co43 x5_2 q047 q47; have hr47 := Kd.C_drop (m := (x5_2 : Int).toNat) (c := co43) hC47 (by omega) hroom47; obtain ⟨A47, hA47⟩ : ∃ A1, A1 = (if co43 = (x5_2 : Int).toNat then Ao43 else (Ao43 : Option Addr).map (·.add ((x5_2 : Int).toNat * 1))) := ⟨_, rfl⟩; obtain ⟨c47, hc47⟩ : ∃ c1, c1 = co43 - (x5_2 : Int).toNat := ⟨_, rfl⟩; have hy47 : y144031.length = x3_1.length - (x5_2 : Int).toNat := (by rw [Ny144031.out, List.length_drop] <;> omega); rw [show (x3_1).drop (x5_2 : Int).toNat = y144031 from Ny144031.out.symm] at hr47; replace hr47 : Kd.C (Kd.int .i64) _ A47 y144031.length y144031 := (by rw [hA47]; exact hr47); rw [← hy47, ← hA47, ← hc47] at hcut47; have HR144034 := aQ hr47; have HC144034 := aQ (show y144031.length ≤ c47 from by rw [hy47, hc47]; exact Nat.sub_le_sub_right hroom47 _); clear hr47 hC47 hroom47 hi047 hsz47 hc47; have KY47 := aQ hy47; have KA47 := aQ hA47; clear hy47 hA47; have KL47 := aQ (show (x5_2 : Int).toNat ≤ x3_1.length from by omega); replace q47 := eq_true q47) | ((with_reducible refine gate_builtin (b := .append) (xs := #[.tmp 46, .tmp 49]) rfl ?_); at_builtin; refine Kd.R_append_rows (Kd.int .i64) (w0 := w) w.heap.size rfl (.tmp 46) (.tmp 49) 22 3 (.int .i64 0) 8 rfl Try.underlying22 info3 rfl (by decide) (by omega) v144029 y144028 y144031 _ _ _ (fun k_ => some k_ ≠ (.slice Ao43 x3_1.length co43 : Value).ownBlock) (fun _ => False) rfl rfl ?aO ?aR (fun _ _ h => h) (fun _ h => h.elim) ?aF ?aB ?aS ?aL ?_; (case aR => repeat (first | exact (by repeat (first | (with_reducible exact HR144034.out) | (with_reducible refine Kd.C_alloc ?_ _) | (with_reducible refine Kd.C_drewN ?_ _) | (with_reducible refine Kd.C_drew ?_) | exact HR144034.out)) | (with_reducible refine Kd.C_alloc ?_ _) | (with_reducible refine Kd.C_drewN ?_ _) | (with_reducible refine Kd.C_drew ?_))); (case aB => exact (pB HB.out)); (case aF => exact (fun k_ hk => Kd.fresh' (Kd.R_lt (pR HO_3.out)) k_ hk)); (case aO => exact (by (with_reducible repeat (first | apply Kd.R_alloc | apply Kd.R_drewN | apply Kd.R_drew)); exact Kd.R_mono HO144030.out (fun _ hk => hk.2))); (case aS => exact (below_size (pB HB.out))); (case aL => have := LMc36.out; omega); intro v144036 w48 ho hb hg hat; rw [← Ny144035.out] at ho; replace HB := aQ (hb); replace HR144034 := aQ ((show Kd.C (Kd.int .i64) w48 A47 y144031.length y144031 from by rw [Ny144031.out, KA47.out]; exact Kd.C_drop (m := (x5_2 : Int).toNat) (c := co43) ((Kd.R_reads' (Kd.R_after (ok := (fun _ => True)) (pR HO_3.out) hg hat)).2.2) KL47.out ((Kd.R_reads' (Kd.R_after (ok := (fun _ => True)) (pR HO_3.out) hg hat)).2.1))); replace HO_3 := aQ (Kd.R_after (ok := (fun _ => True)) (pR HO_3.out) hg hat); have HO144037 := aQ (ho); clear HO144030; clear ho hb hg hat))
              have n0_ := aQ (Kd.R_drew HO_3.out)
              have n1_ := aQ (Kd.R_drew HO144037.out)
              have n2_ := aQ (Kd.C_drew HR144034.out)
              have n3_ := aQ (below_drew1 HB.out)
              clear HO_3
              clear HO144037
              clear HR144034
              clear HB
              have HO_3 := n0_
              have HO144037 := n1_
              have HR144034 := n2_
              have HB := n3_
              clear n0_ n1_ n2_ n3_
              have q50 : (x5_2 : Int) ≤ ((x3_1.length : Int) : Int) := of_decide_eq_true as_
              obtain ⟨i050, hi050, _, hsz50, _⟩ := info_parts info3
              have hcut50 := cut_to (P := Try.prog) 22 3 .i64 Try.underlying22 hi050 Ao43 x3_1.length co43 x5_2 (of_decide_eq_true as_) q50 (Kd.R_reads' HO_3.out).2.1
              have hr50 := Kd.R_take (m := (x5_2 : Int).toNat) HO_3.out (by omega)
              have hy50 : y144038.length = (x5_2 : Int).toNat := (by rw [Ny144038.out, List.length_take]; omega)
              rw [← Ny144038.out] at hr50
              rw [← hy50] at hr50 hcut50
              clear hy50 hi050 hsz50 HO_3
              have HO144040 := aQ hr50
              clear hr50
              replace q50 := eq_true q50
              have p144041 : 0 ≤ (x4_1 : Int) := of_decide_eq_true as_
              have q144041 : x4_1 < (l0.length : Int) := of_decide_eq_true as_
              obtain ⟨ad144041, e144041, hx144041_0⟩ := Kd.at_int HR0.out x4_1 p144041 q144041
              have hw144041_0 := hx144041_0
              cases e144041
              replace hx144041_0 := (HB.out.cell (World.block_lt_of_cell? w _ hx144041_0)).trans hx144041_0
              replace p144041 := eq_true p144041
              replace q144041 := eq_true q144041
              refine start_ (n := 12) (S := fun w' => w'.cell? (ad144041.add (x4_1).toNat) = some (.int .i64 (rd l0 x4_1))) (ds := []) #[false, false, false, false, false, false, false, false, false, false, false, false] (by kernel_rfl) rfl rfl (((HB.out.cell (World.block_lt_of_cell? w _ hw144041_0)).trans hw144041_0)) (fun hHeld => ?_); refine with_tabW spec_SortSets.tab10 spec_SortSets.bits10 (fun HT_ HW_ => ?_)
              generalize w48.drew = w49 at HO_3 HO144037 HR144034 HB HO144040 hx144041_0 hHeld ⊢
              refine puA (i := 0) (N := some 51) HT_ (h := ?_)
              refine puA (i := 1) (N := some 52) HT_ (h := ?_)
              refine puA (i := 2) (N := some 53) HT_ (h := ?_)
              refine puA (i := 3) (N := some 54) HT_ (h := ?_)
              refine puA (i := 4) (N := some 55) HT_ (h := ?_)
              refine puA (i := 5) (N := some 56) HT_ (h := ?_)
              refine puA (i := 9) (N := some 60) HT_ (h := ?_)
              refine taA1 (i := 6) (N := some 57) HT_ HW_ hHeld (h := ?_)
              refine onA (i := 7) (N := some 58) HT_ (h := fun K hK => ?_)
              refine value_ (w1 := ?_) (v := ?_) (by rfl) rfl ?_ ?_
              rotate_left 2
              ·go_simp
               constructor
               ·rfl
               ·rfl
              refine hK.out _ _ ((World.cell?_alloc_lt _ _ _ (World.block_lt_of_cell? _ _ (((HB.out.cell (World.block_lt_of_cell? w _ hw144041_0)).trans hw144041_0)))).trans (((HB.out.cell (World.block_lt_of_cell? w _ hw144041_0)).trans hw144041_0))) (fun hHeld => ?_)
              clear hK K
              refine noA (h := ?_)
              refine onA (i := 8) (N := some 59) HT_ (h := fun K hK => ?_)
              refine Kd.R_append_step (Kd.int .i64) (w0 := w) w.heap.size (by rfl) (.tmp 53) (.tmp 58) 22 3 (.int .i64 0) 8 rfl Try.underlying22 info3 rfl (by decide) (by omega) (.slice Ao43 y144038.length co43) y144038 (rd l0 x4_1) [.int .i64 (rd l0 x4_1)] (fun k_ => some k_ ≠ (v144036 : Value).ownBlock) (fun _ => False) rfl rfl ?aP (fun _ hk => hk.elim) ?aF ?aO ?aB ?aS ?aL ?_
              (case aP => exact rfl)
              (case aB => exact (pB HB.out))
              (case aF => exact (fun k_ hk => Kd.fresh' (Kd.R_lt (pR HO144037.out)) k_ hk))
              (case aO => exact (by (with_reducible repeat (first | apply Kd.R_alloc | apply Kd.R_drewN | apply Kd.R_drew)); exact Kd.R_mono HO144040.out (fun _ hk => hk.2)))
              (case aS => exact (below_size (pB HB.out)))
              (case aL => have := LMc40.out; omega)
              intro v144043 w51 ho hb hg hat
              rw [← Ny144042.out] at ho
              have n0_ := aQ (Kd.R_after (ok := (fun _ => True)) (by (with_reducible repeat (first | apply Kd.R_alloc | apply Kd.R_drewN | apply Kd.R_drew)); exact Kd.R_mono HO144037.out (fun _ hk => ⟨trivial, by first | exact hk | exact fun h_ => hk (h_.trans (ob_len _ _ _ _))⟩)) hg hat)
              have n1_ := aQ (hb)
              have n2_ := aQ (ho)
              clear HO144037
              clear HB
              clear HO144040
              have HO144037 := n0_
              have HB := n1_
              have HO144044 := n2_
              clear n0_ n1_ n2_
              clear ho hb hg hat
              obtain ⟨Ao53, co53, eo53⟩ := Kd.R_slice HO144037.out
              (first | subst eo53 | (injection eo53 with f1_ f2_ f3_; have f4_ := f1_.symm; have f5_ := f3_.symm; clear f1_ f2_ f3_; subst f4_; subst f5_))
              refine hK.out _ _ (((HB.out.cell (World.block_lt_of_cell? w _ hw144041_0)).trans hw144041_0)) (fun hHeld => ?_)
              clear hK K
              refine noA (h := ?_)
              refine onA (i := 10) (N := some 61) HT_ (h := fun K hK => ?_)
              refine Kd.R_append_rows_step (Kd.int .i64) (w0 := w) w.heap.size (by rfl) (.tmp 59) (.tmp 60) 22 3 (.int .i64 0) 8 rfl Try.underlying22 info3 rfl (by decide) (by omega) v144043 y144042 y144035 _ _ _ (fun k_ => some k_ ≠ (.slice Ao53 y144035.length co53 : Value).ownBlock) (fun _ => False) rfl rfl ?aO ?aR (fun _ _ h => h) (fun _ h => h.elim) ?aF ?aB ?aS ?aL ?_
              (case aR => repeat (first | exact (Kd.R_reads' HO144037.out).2.2 | (with_reducible refine Kd.C_alloc ?_ _) | (with_reducible refine Kd.C_drewN ?_ _) | (with_reducible refine Kd.C_drew ?_)))
              (case aB => exact (pB HB.out))
              (case aF => exact (fun k_ hk => Kd.fresh' (Kd.R_lt (pR HO144037.out)) k_ hk))
              (case aO => exact (pR HO144044.out))
              (case aS => exact (below_size (pB HB.out)))
              (case aL => have := LMc41.out; omega)
              intro v144046 w52 ho hb hg hat
              rw [← Ny144045.out] at ho
              have n0_ := aQ (Kd.R_after (ok := (fun _ => True)) (pR HO144037.out) hg hat)
              have n1_ := aQ (hb)
              have n2_ := aQ (ho)
              clear HO144037
              clear HB
              clear HO144044
              have HO144037 := n0_
              have HB := n1_
              have HO144047 := n2_
              clear n0_ n1_ n2_
              clear ho hb hg hat
              refine hK.out _ _ (((HB.out.cell (World.block_lt_of_cell? w _ hw144041_0)).trans hw144041_0)) (fun hHeld => ?_)
              clear hK K
              refine noA (h := ?_)
              refine puA (i := 11) (N := some 3) HT_ (h := ?_)
              refine done_ (done_of HT_.out (by kernel_rfl)) ?_
              try go_wp2
              go_roundg k2
              case measure => have := HK1.out; have := HK2.out; omega
              case rel => exact ⟨(y144045), (wrap64 (x4_1 + 1)), rs_, H', ⟨by have := HK1.out; have := HK2.out; omega⟩, ⟨by (with_reducible repeat (first | apply Kd.R_alloc | apply Kd.R_drewN | apply Kd.R_drew)); exact Kd.R_mono HO144047.out (fun _ hk => trivial)⟩, ⟨pB HB.out⟩⟩
             ·rw [if_neg c41] at H
              exact absurd H (by simp)
            ·rw [if_neg c40] at H
             exact absurd H (by simp)
           ·rw [if_neg c39] at H
            exact absurd H (by simp)
          ·rw [if_neg c38] at H
           exact absurd H (by simp)
         ·rw [if_neg c36] at H
          exact absurd H (by simp)
        ·rw [if_neg c35] at H
         exact absurd H (by simp)
       ·rw [if_neg c34] at H
        exact absurd H (by simp)
   ·rw [if_neg c4] at H
    have c4b0 : decide (x4_1 < (l0.length : Int)) = false := decide_eq_false c4
    clear c4
    obtain rfl := Option.some.inj H
    go_wp2
    go_ret
    exact ⟨_, by first | rfl | (simp [errW_none, errW_some] <;> rfl) | (simp [*, errW_none, errW_some] <;> rfl), by (with_reducible repeat (first | apply Kd.R_alloc | apply Kd.R_drewN | apply Kd.R_drew)); exact HO_3.out, pB HB.out⟩
end Go.Proofs.Ytimkekeaeojpkaa.A
