/- Machine side of the law FnExactCanonOf: Go functions as Lean functions, and proofs that calls come to what these tell. Conditions: those in each theorem. -/
import Derived.Test.YtagncnjllpebjaaMFnExactCanonOf0
import Derived.Test.YtagncnjllpebjaaMFnExactCanonOfq0
import Derived.Test.YtagncnjllpebjaaMFnExactCanonOf2
import Derived.Test.YtagncnjllpebjaaMFnExactCanonOf3
import Derived.Test.YtagncnjllpebjaaMFnExactCanonOf5
namespace Go.Proofs.Ytagncnjllpebjaa.A
open Go.RowKit Go.Proofs.YtagncnjllpebjaaW.PrintWords Go.Proofs.YtagncnjllpebjaaW.PrintLast Go.Proofs.YtagncnjllpebjaaW.PrintMore
attribute [local go_sem] max2_int min2_int max_two min_two max_three min_three max_four min_four
set_option linter.unusedVariables false
set_option linter.unusedSimpArgs false
/-! ### impl_renamed: function 112 -/
def impl_renamed.l0 : Nat → List Int → List Int → Int → Int → Int → List Int → Option (Int × List Int)
 | 0, _, _, _, _, _, _ => none
 | k + 1, x1, x12, x13, x14, x113004000, x113004001 => if x14 < x13 then (if 0 ≤ x14 then (if x14 < (x12.length : Int) then ((impl_renameSet.f k x1 (rd x12 x14)).bind fun t113005 => (if x113004001.length < 17592186044416 then (impl_renamed.l0 k x1 x12 x13 (wrap64 (x14 + 1)) x113004000 (x113004001 ++ [t113005])) else (none))) else (none)) else (none)) else ((impl_SortSets.f x113004001).bind fun t113009 => (some (x113004000, t113009)))
def impl_renamed.f (k : Nat) (a0_0 : Int) (l0_1 : List Int) (l1 : List Int) : Option (Int × List Int) := impl_renamed.l0 k l1 l0_1 (l0_1.length : Int) 0 a0_0 ([] : List Int)
theorem impl_renamed.mono_l : ∀ k, (∀ y0 y1 y2 y3 y4 y5, LeO (impl_renamed.l0 k y0 y1 y2 y3 y4 y5) (impl_renamed.l0 (k + 1) y0 y1 y2 y3 y4 y5))
 | 0 => fun _ _ _ _ _ _ r h => by simp [impl_renamed.l0] at h
 | k + 1 => by
  have ih0 := impl_renamed.mono_l k
  ·intro y0 y1 y2 y3 y4 y5
   unfold impl_renamed.l0
   repeat' first
   | (with_reducible exact ih0 _ _ _ _ _ _)
   | (with_reducible exact impl_renameSet.mono _ _ _)
   | (with_reducible exact LeO.refl _)
   | (with_reducible exact LeO.none _)
   | (with_reducible refine LeO.ite ?_ ?_)
   | (with_reducible refine LeO.bind ?_ (fun _ => ?_))
   | exact ih0 _ _ _ _ _ _
   | exact impl_renameSet.mono _ _ _
   | exact LeO.none _
   | refine LeO.ite ?_ ?_
   | refine LeO.bind ?_ (fun _ => ?_)
theorem impl_renamed.mono : ∀ a0 a1 a2 k, LeO (impl_renamed.f k a0 a1 a2) (impl_renamed.f (k + 1) a0 a1 a2) := by
 intro a0 a1 a2 k
 have ih0 := impl_renamed.mono_l k
 unfold impl_renamed.f
 repeat' first
   | (with_reducible exact ih0 _ _ _ _ _ _)
   | (with_reducible exact impl_renameSet.mono _ _ _)
   | (with_reducible exact LeO.refl _)
   | (with_reducible exact LeO.none _)
   | (with_reducible refine LeO.ite ?_ ?_)
   | (with_reducible refine LeO.bind ?_ (fun _ => ?_))
   | exact ih0 _ _ _ _ _ _
   | exact impl_renameSet.mono _ _ _
   | exact LeO.none _
   | refine LeO.ite ?_ ?_
   | refine LeO.bind ?_ (fun _ => ?_)
def impl_renamed.T5 : Bool × List (List Nat × List Nat) := (true, [([], []), ([0], [0]), ([], []), ([], []), ([2, 3], [2, 3]), ([4], [4]), ([1, 5, 4], [1, 5]), ([0, 1, 2, 3, 4, 5, 6], []), ([7, 6, 6, 0, 1, 2, 3, 4, 5, 6], [6, 7])])
def impl_renamed.B5 : List Nat := [0, 1, 0, 0, 12, 28, 63, 127, 255]
theorem impl_renamed.tab5 : rtab .any (opsOf Try.f112 5) = impl_renamed.T5 := by kernel_rfl
theorem impl_renamed.bits5 : waitsOk impl_renamed.T5.2 impl_renamed.B5 = true := by kernel_rfl
set_option maxHeartbeats 8000000 in
set_option maxRecDepth 100000 in
theorem impl_renamed.calls (k : Nat) (a0_0 : Int) (A0_1 : Option Addr) (c0_1 : Nat) (l0_1 : List Int) (A1 : Option Addr) (c1 : Nat) (l1 : List Int) (r1 : Int) (r2 : List Int) (w : World) (hr0_1 : Kd.C (Kd.int .i64) w A0_1 l0_1.length l0_1) (hc0_1 : l0_1.length ≤ c0_1) (hr1 : Kd.C (Kd.int .i64) w A1 l1.length l1) (hc1 : l1.length ≤ c1) (h : impl_renamed.f k a0_0 l0_1 l1 = some (r1, r2)) :
  Calls Try.prog 112 #[.agg #[.int .i64 a0_0, .slice A0_1 l0_1.length c0_1], .slice A1 l1.length c1] w fun e w' => ∃ v1_ : Value, e = .returned (.agg #[.int .i64 r1, v1_]) ∧ Kd.R (Kd.int .i64) 3 w' w.heap.size (fun _ => True) v1_ r2 ∧ Below w.heap.size w w' := by
 have hu26 := Try.underlying26
 have HR0_1 := aQ hr0_1
 have HC0_1 := aQ hc0_1
 clear hr0_1 hc0_1
 have HR1 := aQ hr1
 have HC1 := aQ hc1
 clear hr1 hc1
 have HB := aQ (Below.refl w.heap.size w)
 have H : (impl_renamed.l0 k l1 l0_1 (l0_1.length : Int) 0 a0_0 ([] : List Int)) = some (r1, r2) := h
 clear h
 have H' := aQ H
 clear H
 go_enter Try.func112, Try.ntmps112
 go_wp2_with (first | ((with_reducible refine gate_dst (N := 2) rfl ?_); refine box_event ?hg (N := 2) ?hd (cs := #[.int .i64 a0_0, .slice A0_1 l0_1.length c0_1]) (t := 26) ?hr ?_; (case hd => rfl); (case hg => rfl); (case hr => first | (go_simp; done) | (go_simp; rfl)); intro gb113001 hg w3 hbox hb; have BK113001 := aQ (hbox); have GW113001 := aQ ((by rw [hg]; exact (below_size (by repeat (first | (with_reducible first | exact HB.out | apply below_alloc | apply pw_below_drewN | apply below_drew1) | exact HB.out))) : w.heap.size ≤ gb113001)); have GE113001 := aQ ((by rw [hg]; exact (below_size (by repeat (first | (with_reducible first | exact HB.out | apply below_alloc | apply pw_below_drewN | apply below_drew1) | exact HB.out))) : w.heap.size ≤ gb113001)); replace HB := aQ (below_step (by repeat (first | (with_reducible first | exact HB.out | apply below_alloc | apply pw_below_drewN | apply below_drew1) | exact HB.out)) hb); clear hb hbox hg) | ((with_reducible refine gate_dst (N := 4) rfl ?_); refine box_event ?hg (N := 4) ?hd (cs := #[.int .i64 0, .slice none 0 0]) (t := 26) ?hr ?_; (case hd => rfl); (case hg => rfl); (case hr => first | (go_simp; done) | (go_simp; rfl)); intro gb113002 hg w4 hbox hb; have BK113002 := aQ (hbox); have GW113002 := aQ ((by rw [hg]; exact (below_size (by repeat (first | (with_reducible first | exact HB.out | apply below_alloc | apply pw_below_drewN | apply below_drew1 | refine below_set ?_ GE113001.out) | exact HB.out))) : w.heap.size ≤ gb113002)); have GE113002 := aQ ((by rw [hg]; exact (below_size (by repeat (first | (with_reducible first | exact HB.out | apply below_alloc | apply pw_below_drewN | apply below_drew1 | refine below_set ?_ GE113001.out) | exact HB.out))) : w.heap.size ≤ gb113002)); replace HB := aQ (below_step (by repeat (first | (with_reducible first | exact HB.out | apply below_alloc | apply pw_below_drewN | apply below_drew1 | refine below_set ?_ GE113001.out) | exact HB.out)) hb); have NB113001_113002 := aQ ((by rw [hg]; exact Nat.ne_of_lt (blk_lt (g := gb113001) (o := .cells #[.int .i64 a0_0, .slice A0_1 l0_1.length c0_1] 26 (0, 0)) (by (with_reducible repeat (first | refine blk_drewN ?_ _ | refine blk_drew ?_ | refine blk_alloc ?_ _)); exact BK113001.out)) : gb113001 ≠ gb113002)); have NB113002_113001 := aQ ((by rw [hg]; exact Nat.ne_of_gt (blk_lt (g := gb113001) (o := .cells #[.int .i64 a0_0, .slice A0_1 l0_1.length c0_1] 26 (0, 0)) (by (with_reducible repeat (first | refine blk_drewN ?_ _ | refine blk_drew ?_ | refine blk_alloc ?_ _)); exact BK113001.out)) : gb113002 ≠ gb113001)); replace BK113001 := aQ (blk_below (g := gb113001) (o := .cells #[.int .i64 a0_0, .slice A0_1 l0_1.length c0_1] 26 (0, 0)) (by (with_reducible repeat (first | refine blk_drewN ?_ _ | refine blk_drew ?_ | refine blk_alloc ?_ _)); exact BK113001.out) hb); clear hb hbox hg; have hnb5 := NB113001_113002.out; have hnc5 := NB113002_113001.out; have hcz6_0 : w4.cell? ⟨gb113001, 0, none⟩ = some (.int .i64 a0_0) := (blk_cell BK113001.out 0).trans rfl; have hcz6_1 : w4.cell? ⟨gb113001, 1, none⟩ = some (.slice A0_1 l0_1.length c0_1) := (blk_cell BK113001.out 1).trans rfl; have hfz6_0 := blk_frozen BK113001.out 0; have hfz6_1 := blk_frozen BK113001.out 1) | ((with_reducible refine gate_dst (N := 5) rfl ?_); refine box_event ?hg (N := 5) ?hd (cs := #[.int .i64 0, .slice none 0 0]) (t := 26) ?hr ?_; (case hd => rfl); (case hg => rfl); (case hr => first | (go_simp; done) | (go_simp; rfl)); intro gb113003 hg w7 hbox hb; have BK113003 := aQ (hbox); have GW113003 := aQ ((by rw [hg]; exact (below_size (by repeat (first | (with_reducible first | exact HB.out | apply below_alloc | apply pw_below_drewN | apply below_drew1 | refine below_set ?_ GE113001.out | refine below_set ?_ GE113002.out) | exact HB.out))) : w.heap.size ≤ gb113003)); have GE113003 := aQ ((by rw [hg]; exact (below_size (by repeat (first | (with_reducible first | exact HB.out | apply below_alloc | apply pw_below_drewN | apply below_drew1 | refine below_set ?_ GE113001.out | refine below_set ?_ GE113002.out) | exact HB.out))) : w.heap.size ≤ gb113003)); replace HB := aQ (below_step (by repeat (first | (with_reducible first | exact HB.out | apply below_alloc | apply pw_below_drewN | apply below_drew1 | refine below_set ?_ GE113001.out | refine below_set ?_ GE113002.out) | exact HB.out)) hb); have NB113001_113003 := aQ ((by rw [hg]; exact Nat.ne_of_lt (blk_lt (g := gb113001) (o := .cells #[.int .i64 a0_0, .slice A0_1 l0_1.length c0_1] 26 (0, 0)) (by (with_reducible repeat (first | refine blk_drewN ?_ _ | refine blk_drew ?_ | refine blk_alloc ?_ _)); exact BK113001.out)) : gb113001 ≠ gb113003)); have NB113003_113001 := aQ ((by rw [hg]; exact Nat.ne_of_gt (blk_lt (g := gb113001) (o := .cells #[.int .i64 a0_0, .slice A0_1 l0_1.length c0_1] 26 (0, 0)) (by (with_reducible repeat (first | refine blk_drewN ?_ _ | refine blk_drew ?_ | refine blk_alloc ?_ _)); exact BK113001.out)) : gb113003 ≠ gb113001)); replace BK113001 := aQ (blk_below (g := gb113001) (o := .cells #[.int .i64 a0_0, .slice A0_1 l0_1.length c0_1] 26 (0, 0)) (by (with_reducible repeat (first | refine blk_drewN ?_ _ | refine blk_drew ?_ | refine blk_alloc ?_ _)); exact BK113001.out) hb); have NB113002_113003 := aQ ((by rw [hg]; exact Nat.ne_of_lt (blk_lt (g := gb113002) (o := .cells #[.int .i64 0, .slice none 0 0] 26 (0, 0)) (by (with_reducible repeat (first | refine blk_drewN ?_ _ | refine blk_drew ?_ | refine blk_alloc ?_ _)); exact BK113002.out)) : gb113002 ≠ gb113003)); have NB113003_113002 := aQ ((by rw [hg]; exact Nat.ne_of_gt (blk_lt (g := gb113002) (o := .cells #[.int .i64 0, .slice none 0 0] 26 (0, 0)) (by (with_reducible repeat (first | refine blk_drewN ?_ _ | refine blk_drew ?_ | refine blk_alloc ?_ _)); exact BK113002.out)) : gb113003 ≠ gb113002)); replace BK113002 := aQ (blk_below (g := gb113002) (o := .cells #[.int .i64 0, .slice none 0 0] 26 (0, 0)) (by (with_reducible repeat (first | refine blk_drewN ?_ _ | refine blk_drew ?_ | refine blk_alloc ?_ _)); exact BK113002.out) hb); clear hb hbox hg; have hnb8 := NB113003_113001.out; have hnc8 := NB113001_113003.out; have hnb9 := NB113003_113002.out; have hnc9 := NB113002_113003.out; have hcz10_0 : w7.cell? ⟨gb113003, 0, none⟩ = some (.int .i64 0) := (blk_cell BK113003.out 0).trans rfl; have hcz10_1 : w7.cell? ⟨gb113003, 1, none⟩ = some (.slice none 0 0) := (blk_cell BK113003.out 1).trans rfl; have hfz10_0 := blk_frozen BK113003.out 0; have hfz10_1 := blk_frozen BK113003.out 1; have hcz11_0 : w7.cell? ⟨gb113001, 0, none⟩ = some (.int .i64 a0_0) := (blk_cell BK113001.out 0).trans rfl; have hcz11_1 : w7.cell? ⟨gb113001, 1, none⟩ = some (.slice A0_1 l0_1.length c0_1) := (blk_cell BK113001.out 1).trans rfl; have hfz11_0 := blk_frozen BK113001.out 0; have hfz11_1 := blk_frozen BK113001.out 1))
 go_loopg [14] k (fun kq v14 w' => ∃ (x14_1 : Int) (x113004001_1 : List Int) (u113004001 : Value), v14 = .int .i64 x14_1 ∧ Aside0 (impl_renamed.l0 kq l1 l0_1 (l0_1.length : Int) x14_1 a0_0 x113004001_1 = some (r1, r2)) ∧ Aside0 (kq ≤ k) ∧ Aside0 (Kd.R (Kd.int .i64) 3 w' w.heap.size (fun _ => True) u113004001 x113004001_1) ∧ Aside0 (w'.heap[gb113001]? = some (.cells #[.int .i64 a0_0, (.slice A0_1 l0_1.length c0_1)] 26 (0, 0))) ∧ Aside0 (w'.heap[gb113002]? = some (.cells #[.int .i64 0, (.slice none 0 0)] 26 (0, 0))) ∧ Aside0 (w'.heap[gb113003]? = some (.cells #[.int .i64 a0_0, u113004001] 26 (0, 0))) ∧ Aside0 (Below w.heap.size w w'))
 case atStart => exact ⟨(0), (([] : List Int)), (.slice none 0 0), (by first | rfl | (simp; done) | (simp [*]; done)), H', ⟨Nat.le_refl _⟩, ⟨by first | exact Kd.R_nil _ _ _ _ _ | exact Kd.N_nil _ _ _ _ _ | exact Kd.V_nil _ _ _ _ _ | exact Kd.Q_nil _ _ _ _ _ | exact Kd.S_nil _ _ _ _ _⟩, ⟨by (with_reducible repeat (first | refine blk_drewN ?_ _ | refine blk_drew ?_ | refine blk_alloc ?_ _)); refine blk_far ?_ NB113001_113003.out _; (with_reducible repeat (first | refine blk_drewN ?_ _ | refine blk_drew ?_ | refine blk_alloc ?_ _)); refine blk_far ?_ NB113001_113003.out _; (with_reducible repeat (first | refine blk_drewN ?_ _ | refine blk_drew ?_ | refine blk_alloc ?_ _)); exact BK113001.out⟩, ⟨by (with_reducible repeat (first | refine blk_drewN ?_ _ | refine blk_drew ?_ | refine blk_alloc ?_ _)); refine blk_far ?_ NB113002_113003.out _; (with_reducible repeat (first | refine blk_drewN ?_ _ | refine blk_drew ?_ | refine blk_alloc ?_ _)); refine blk_far ?_ NB113002_113003.out _; (with_reducible repeat (first | refine blk_drewN ?_ _ | refine blk_drew ?_ | refine blk_alloc ?_ _)); exact BK113002.out⟩, ⟨by (with_reducible repeat (first | refine blk_drewN ?_ _ | refine blk_drew ?_ | refine blk_alloc ?_ _)); refine blk_put (cs := #[.int .i64 a0_0, .slice none 0 0]) ?_ 1 _ rfl; (with_reducible repeat (first | refine blk_drewN ?_ _ | refine blk_drew ?_ | refine blk_alloc ?_ _)); refine blk_put (cs := #[.int .i64 0, .slice none 0 0]) ?_ 0 _ rfl; (with_reducible repeat (first | refine blk_drewN ?_ _ | refine blk_drew ?_ | refine blk_alloc ?_ _)); exact BK113003.out⟩, ⟨by repeat (first | (with_reducible first | exact HB.out | apply below_alloc | apply pw_below_drewN | apply below_drew1 | refine below_set ?_ GE113001.out | refine below_set ?_ GE113002.out | refine below_set ?_ GE113003.out) | exact HB.out)⟩⟩
 case round =>
  clear H'
  try clear c1
  try clear p2
  try clear c5
  try clear c8
  try clear c9
  try clear c11
  try clear hcz10_0
  try clear hcz10_1
  try clear hcz11_0
  try clear hcz11_1
  try clear hcz6_0
  try clear hcz6_1
  try clear hfz10_0
  try clear hfz10_1
  try clear hfz11_0
  try clear hfz11_1
  try clear hfz6_0
  try clear hfz6_1
  obtain ⟨x14_1, x113004001_1, u113004001, rfl, HA, HK1, HO_113004001, BK113001, BK113002, BK113003, HB⟩ := hrel
  cases gk with
  | zero => exact absurd HA.out (by simp [impl_renamed.l0])
  | succ k1 =>
   have H := HA.out
   clear HA
   simp only [impl_renamed.l0] at H
   by_cases c12 : x14_1 < (l0_1.length : Int)
   ·rw [if_pos c12] at H
    have c12b0 : decide (x14_1 < (l0_1.length : Int)) = true := decide_eq_true c12
    clear c12
    by_cases c13 : 0 ≤ x14_1
    ·rw [if_pos c13] at H
     have c13b0 : decide (0 ≤ x14_1) = true := decide_eq_true c13
     clear c13
     by_cases c14 : x14_1 < (l0_1.length : Int)
     ·rw [if_pos c14] at H
      have c14b0 : decide (x14_1 < (l0_1.length : Int)) = true := decide_eq_true c14
      clear c14
      replace H := Option.bind_eq_some_iff.mp H
      obtain ⟨t113005, A150, H⟩ := H
      replace H : (if x113004001_1.length < 17592186044416 then (impl_renamed.l0 k1 l1 l0_1 (l0_1.length : Int) (wrap64 (x14_1 + 1)) a0_0 (x113004001_1 ++ [t113005])) else (none)) = some (r1, r2) := H
      have A15 := aQ A150
      clear A150
      by_cases c16 : x113004001_1.length < 17592186044416
      ·rw [if_pos c16] at H
       have LMc16 := aQ c16
       clear c16
       obtain ⟨y113006, hy113006⟩ : ∃ y_ : List Int, y_ = (x113004001_1 ++ [t113005]) := ⟨_, rfl⟩
       replace H : (impl_renamed.l0 k1 l1 l0_1 (l0_1.length : Int) (wrap64 (x14_1 + 1)) a0_0 y113006) = some (r1, r2) := by first | (rw [hy113006]; with_reducible exact H) | (have H2_ := (Option.bind_some _ _).symm.trans H; rw [hy113006]; with_reducible exact H2_) | (have H2_ := (Option.bind_some _ _).symm.trans H; with_reducible exact H2_) | with_reducible exact H | (rw [hy113006]; exact H) | exact H
       have Ny113006 := aQ hy113006
       clear hy113006
       have H' := aQ H
       clear H
       have p113004 : 0 ≤ (x14_1 : Int) := of_decide_eq_true (by first | (with_reducible assumption) | assumption)
       have q113004 : x14_1 < (l0_1.length : Int) := of_decide_eq_true (by first | (with_reducible assumption) | assumption)
       obtain ⟨ad113004, e113004, hx113004_0⟩ := Kd.at_int HR0_1.out x14_1 p113004 q113004
       cases e113004
       replace hx113004_0 := (HB.out.cell (World.block_lt_of_cell? w _ hx113004_0)).trans hx113004_0
       replace p113004 := eq_true p113004
       replace q113004 := eq_true q113004
       try go_wp2
       have n0_ := aQ (Kd.R_drew HO_113004001.out)
       have n1_ := aQ (blk_drew BK113001.out)
       have n2_ := aQ (blk_drew BK113002.out)
       have n3_ := aQ (blk_drew BK113003.out)
       have n4_ := aQ (below_drew1 HB.out)
       clear HO_113004001
       clear BK113001
       clear BK113002
       clear BK113003
       clear HB
       have HO_113004001 := n0_
       have BK113001 := n1_
       have BK113002 := n2_
       have BK113003 := n3_
       have HB := n4_
       clear n0_ n1_ n2_ n3_ n4_
       refine start_ (n := 9) (S := fun w' => w'.cell? ⟨gb113003, 0, none⟩ = some (.int .i64 a0_0) ∧ w'.cell? ⟨gb113003, 1, none⟩ = some (u113004001)) (ds := [8]) #[false, false, false, false, false, false, false, false, false] (by kernel_rfl) rfl rfl ⟨(blk_cell BK113003.out 0).trans rfl, (blk_cell BK113003.out 1).trans rfl⟩ (fun hHeld => ?_); refine with_tabW impl_renamed.tab5 impl_renamed.bits5 (fun HT_ HW_ => ?_)
       generalize wr.drew = w17 at HO_113004001 BK113001 BK113002 BK113003 HB hHeld ⊢
       refine pure_ (i := 0) (N := some 18) (v := ?_) (a' := ?_) #[true, false, false, false, false, false, false, false, false] rfl rfl (any_of HT_.out (by kernel_rfl)) (fun _ _ _ h => h) (Or.inl ⟨by rfl, ?_⟩) ?_ ?_
       rotate_left
       ·intro w'
        go_simp
        with_reducible rfl
       rotate_left
       ·simp only [Act.put, List.setIfInBounds_toArray, List.set_cons_zero, List.set_cons_succ, i64_w, i32_w]
        rfl
       refine pure_ (i := 2) (N := some 20) (v := ?_) (a' := ?_) #[true, false, true, false, false, false, false, false, false] rfl rfl (any_of HT_.out (by kernel_rfl)) (fun _ _ _ h => h) (Or.inl ⟨by rfl, ?_⟩) ?_ ?_
       rotate_left
       ·intro w'
        go_simp
        with_reducible rfl
       rotate_left
       ·simp only [Act.put, List.setIfInBounds_toArray, List.set_cons_zero, List.set_cons_succ, i64_w, i32_w]
        rfl
       refine pure_ (i := 3) (N := some 21) (v := ?_) (a' := ?_) #[true, false, true, true, false, false, false, false, false] rfl rfl (any_of HT_.out (by kernel_rfl)) (fun _ _ _ h => h) (Or.inl ⟨by rfl, ?_⟩) ?_ ?_
       rotate_left
       ·intro w'
        go_simp
        with_reducible rfl
       rotate_left
       ·simp only [Act.put, List.setIfInBounds_toArray, List.set_cons_zero, List.set_cons_succ, i64_w, i32_w]
        rfl
       refine take_ (i := 1) (N := some 19) (v := ?_) (a' := ?_) #[true, true, true, true, false, false, false, false, false] rfl rfl (take_ofW HT_.out HW_.out (by kernel_rfl)) (fun _ _ _ h => h) (Or.inl ⟨by rfl, ?_⟩) hHeld ?_ ?_
       rotate_left
       ·rintro w' ⟨s0, s1⟩
        go_simp
        with_reducible rfl
       rotate_left
       ·simp only [Act.put, List.setIfInBounds_toArray, List.set_cons_zero, List.set_cons_succ, i64_w, i32_w]
        rfl
       refine one_ (i := 4) (N := some 22) #[true, true, true, true, true, false, false, false, false] rfl rfl (one_of HT_.out (by kernel_rfl)) (by decide) (fun K hK => ?_)
       refine goes_ Try.func159 (by kernel_rfl) rfl #[.slice A1 l1.length c1, .int .i64 (rd l0_1 x14_1)] (by rfl) rfl rfl (by (try simp only [List.map_toArray, List.map_cons, List.map_nil]); first | done | rfl | (simp only [List.length_drop, List.length_take]; rfl)) ?_
       with_reducible refine (impl_renameSet.calls k1 _ _ l1 (rd l0_1 x14_1) t113005 _ ?side1 ?side2 A15.out).mono ?_
       (case side1 => repeat (first | exact (Kd.C_below HR1.out HB.out) | (with_reducible refine Kd.C_alloc ?_ _) | (with_reducible refine Kd.C_drewN ?_ _) | (with_reducible refine Kd.C_drew ?_)))
       (case side2 => exact HC1.out)
       rintro e w18 ⟨rfl, hb⟩
       refine ⟨_, rfl, ?_⟩
       have n0_ := aQ (Kd.R_below (by (with_reducible repeat (first | apply Kd.R_alloc | apply Kd.R_drewN | apply Kd.R_drew)); exact HO_113004001.out) hb)
       have n1_ := aQ (blk_below (g := gb113001) (o := .cells #[.int .i64 a0_0, .slice (some ad113004) l0_1.length c0_1] 26 (0, 0)) (by (with_reducible repeat (first | refine blk_drewN ?_ _ | refine blk_drew ?_ | refine blk_alloc ?_ _)); exact BK113001.out) hb)
       have n2_ := aQ (blk_below (g := gb113002) (o := .cells #[.int .i64 0, .slice none 0 0] 26 (0, 0)) (by (with_reducible repeat (first | refine blk_drewN ?_ _ | refine blk_drew ?_ | refine blk_alloc ?_ _)); exact BK113002.out) hb)
       have n3_ := aQ (blk_below (g := gb113003) (o := .cells #[.int .i64 a0_0, u113004001] 26 (0, 0)) (by (with_reducible repeat (first | refine blk_drewN ?_ _ | refine blk_drew ?_ | refine blk_alloc ?_ _)); exact BK113003.out) hb)
       have n4_ := aQ (below_step (by repeat (first | (with_reducible first | exact HB.out | apply below_alloc | apply pw_below_drewN | apply below_drew1 | refine below_set ?_ GE113001.out | refine below_set ?_ GE113002.out | refine below_set ?_ GE113003.out) | exact HB.out)) hb)
       clear HO_113004001
       clear BK113001
       clear BK113002
       clear BK113003
       clear HB
       have HO_113004001 := n0_
       have BK113001 := n1_
       have BK113002 := n2_
       have BK113003 := n3_
       have HB := n4_
       clear n0_ n1_ n2_ n3_ n4_
       (try clear hb)
       (try clear hb2)
       (try clear hk)
       (try clear hi)
       refine hK.out _ _ ⟨(blk_cell BK113003.out 0).trans rfl, (blk_cell BK113003.out 1).trans rfl⟩ (fun hHeld => ?_)
       clear hK K
       refine norm_ (a' := ?_) ?_ ?_
       rotate_left
       ·show Act.put _ (some 22) _ = _
        simp only [Act.put, List.setIfInBounds_toArray, List.set_cons_zero, List.set_cons_succ, i64_w, i32_w]
        rfl
       refine one_ (i := 5) (N := some 23) #[true, true, true, true, true, true, false, false, false] rfl rfl (one_of HT_.out (by kernel_rfl)) (by decide) (fun K hK => ?_)
       refine value_ (w1 := ?_) (v := ?_) (by rfl) rfl ?_ ?_
       rotate_left 2
       ·go_simp
        constructor
        ·rfl
        ·rfl
       refine hK.out _ _ ⟨(blk_cell (blk_alloc BK113003.out _) 0).trans rfl, (blk_cell (blk_alloc BK113003.out _) 1).trans rfl⟩ (fun hHeld => ?_)
       clear hK K
       refine norm_ (a' := ?_) ?_ ?_
       rotate_left
       ·show Act.put _ (some 23) _ = _
        simp only [Act.put, List.setIfInBounds_toArray, List.set_cons_zero, List.set_cons_succ, i64_w, i32_w]
        rfl
       refine one_ (i := 6) (N := some 24) #[true, true, true, true, true, true, true, false, false] rfl rfl (one_of HT_.out (by kernel_rfl)) (by decide) (fun K hK => ?_)
       refine Kd.R_append_step (Kd.int .i64) (w0 := w) w.heap.size (by rfl) (.tmp 19) (.tmp 23) 22 3 (.int .i64 0) 8 rfl Try.underlying22 info3 rfl (by decide) (by omega) u113004001 x113004001_1 t113005 [.int .i64 t113005] (fun _ => True) (fun _ => False) rfl rfl ?aP (fun _ hk => hk.elim) ?aF ?aO ?aB ?aS ?aL ?_
       (case aP => exact rfl)
       (case aB => exact (by repeat (first | (with_reducible first | exact HB.out | apply below_alloc | apply pw_below_drewN | apply below_drew1 | refine below_set ?_ GE113001.out | refine below_set ?_ GE113002.out | refine below_set ?_ GE113003.out) | exact HB.out)))
       (case aF => exact (fun _ _ => trivial))
       (case aO => exact (by (with_reducible repeat (first | apply Kd.R_alloc | apply Kd.R_drewN | apply Kd.R_drew)); exact HO_113004001.out))
       (case aS => exact (below_size (by repeat (first | (with_reducible first | exact HB.out | apply below_alloc | apply pw_below_drewN | apply below_drew1 | refine below_set ?_ GE113001.out | refine below_set ?_ GE113002.out | refine below_set ?_ GE113003.out) | exact HB.out))))
       (case aL => have := LMc16.out; omega)
       intro v113007 w19 ho hb hg hat
       rw [← Ny113006.out] at ho
       have n0_ := aQ (blk_grown (g := gb113001) (o := .cells #[.int .i64 a0_0, .slice (some ad113004) l0_1.length c0_1] 26 (0, 0)) (by (with_reducible repeat (first | refine blk_drewN ?_ _ | refine blk_drew ?_ | refine blk_alloc ?_ _)); exact BK113001.out) hg (Kd.R_ne HO_113004001.out BK113001.out (by decide)))
       have n1_ := aQ (blk_grown (g := gb113002) (o := .cells #[.int .i64 0, .slice none 0 0] 26 (0, 0)) (by (with_reducible repeat (first | refine blk_drewN ?_ _ | refine blk_drew ?_ | refine blk_alloc ?_ _)); exact BK113002.out) hg (Kd.R_ne HO_113004001.out BK113002.out (by decide)))
       have n2_ := aQ (blk_grown (g := gb113003) (o := .cells #[.int .i64 a0_0, u113004001] 26 (0, 0)) (by (with_reducible repeat (first | refine blk_drewN ?_ _ | refine blk_drew ?_ | refine blk_alloc ?_ _)); exact BK113003.out) hg (Kd.R_ne HO_113004001.out BK113003.out (by decide)))
       have n3_ := aQ (hb)
       have n4_ := aQ (ho)
       clear BK113001
       clear BK113002
       clear BK113003
       clear HB
       clear HO_113004001
       have BK113001 := n0_
       have BK113002 := n1_
       have BK113003 := n2_
       have HB := n3_
       have HO113008 := n4_
       clear n0_ n1_ n2_ n3_ n4_
       clear ho hb hg hat
       obtain ⟨Ao20, co20, eo20⟩ := Kd.R_slice HO113008.out
       (first | subst eo20 | (injection eo20 with f1_ f2_ f3_; have f4_ := f1_.symm; have f5_ := f3_.symm; clear f1_ f2_ f3_; subst f4_; subst f5_))
       refine hK.out _ _ ⟨(blk_cell BK113003.out 0).trans rfl, (blk_cell BK113003.out 1).trans rfl⟩ (fun hHeld => ?_)
       clear hK K
       refine norm_ (a' := ?_) ?_ ?_
       rotate_left
       ·show Act.put _ (some 24) _ = _
        simp only [Act.put, List.setIfInBounds_toArray, List.set_cons_zero, List.set_cons_succ, i64_w, i32_w]
        rfl
       refine pure_ (i := 7) (N := some 25) (v := ?_) (a' := ?_) #[true, true, true, true, true, true, true, true, false] rfl rfl (any_of HT_.out (by kernel_rfl)) (fun _ _ _ h => h) (Or.inl ⟨by rfl, ?_⟩) ?_ ?_
       rotate_left
       ·intro w'
        go_simp
        with_reducible rfl
       rotate_left
       ·simp only [Act.put, List.setIfInBounds_toArray, List.set_cons_zero, List.set_cons_succ, i64_w, i32_w]
        rfl
       refine last_ (i := 8) (N := none) #[true, true, true, true, true, true, true, true, true] rfl rfl (one_of HT_.out (by kernel_rfl)) (by decide) (fun K hK => ?_)
       have hs21 : w19.cell? ⟨gb113003, 1, none⟩ = some (u113004001) := (blk_cell BK113003.out 1).trans rfl
       have hfs21 := blk_frozen BK113003.out 1
       have hns21_0 := NB113001_113003.out
       have hns21_1 := NB113002_113003.out
       have hms21_0 := NB113003_113001.out
       have hms21_1 := NB113003_113002.out
       refine skip_ (w1 := ?_) (by rfl) rfl ?_ ?_
       rotate_left
       ·go_simp
        rfl
       refine hK.out _ _ ?_
       clear hK K
       refine done_ (done_of HT_.out (by kernel_rfl)) ?_
       try go_wp2
       go_roundg k1
       case measure => have := HK1.out; omega
       case rel => exact ⟨(wrap64 (x14_1 + 1)), (y113006), (.slice Ao20 y113006.length co20), (by first | rfl | (simp; done) | (simp [*]; done)), H', ⟨by have := HK1.out; omega⟩, ⟨by (with_reducible repeat (first | apply Kd.R_alloc | apply Kd.R_drewN | apply Kd.R_drew)); exact Kd.R_mono (Kd.R_far (p := ⟨gb113003, 1, none⟩) (Kd.R_types HO113008.out BK113003.out (by decide)) (fun _ hk => hk.2) (.slice Ao20 y113006.length co20)) (fun _ hk => trivial)⟩, ⟨by (with_reducible repeat (first | refine blk_drewN ?_ _ | refine blk_drew ?_ | refine blk_alloc ?_ _)); refine blk_far ?_ NB113001_113003.out _; (with_reducible repeat (first | refine blk_drewN ?_ _ | refine blk_drew ?_ | refine blk_alloc ?_ _)); exact BK113001.out⟩, ⟨by (with_reducible repeat (first | refine blk_drewN ?_ _ | refine blk_drew ?_ | refine blk_alloc ?_ _)); refine blk_far ?_ NB113002_113003.out _; (with_reducible repeat (first | refine blk_drewN ?_ _ | refine blk_drew ?_ | refine blk_alloc ?_ _)); exact BK113002.out⟩, ⟨by (with_reducible repeat (first | refine blk_drewN ?_ _ | refine blk_drew ?_ | refine blk_alloc ?_ _)); refine blk_put (cs := #[.int .i64 a0_0, u113004001]) ?_ 1 _ rfl; (with_reducible repeat (first | refine blk_drewN ?_ _ | refine blk_drew ?_ | refine blk_alloc ?_ _)); exact BK113003.out⟩, ⟨by repeat (first | (with_reducible first | exact HB.out | apply below_alloc | apply pw_below_drewN | apply below_drew1 | refine below_set ?_ GE113001.out | refine below_set ?_ GE113002.out | refine below_set ?_ GE113003.out) | exact HB.out)⟩⟩
      ·rw [if_neg c16] at H
       exact absurd H (by simp)
     ·rw [if_neg c14] at H
      exact absurd H (by simp)
    ·rw [if_neg c13] at H
     exact absurd H (by simp)
   ·rw [if_neg c12] at H
    have c12b0 : decide (x14_1 < (l0_1.length : Int)) = false := decide_eq_false c12
    clear c12
    replace H := Option.bind_eq_some_iff.mp H
    obtain ⟨t113009, A220, H⟩ := H
    replace H : (some (a0_0, t113009)) = some (r1, r2) := H
    have A22 := aQ A220
    clear A220
    simp only [Option.some.injEq, Prod.mk.injEq] at H
    obtain ⟨rfl, rfl⟩ := H
    have hnb23 := NB113003_113001.out
    have hnc23 := NB113001_113003.out
    have hnb24 := NB113003_113002.out
    have hnc24 := NB113002_113003.out
    have hcz25_0 : wr.cell? ⟨gb113003, 0, none⟩ = some (.int .i64 a0_0) := (blk_cell BK113003.out 0).trans rfl
    have hcz25_1 : wr.cell? ⟨gb113003, 1, none⟩ = some (u113004001) := (blk_cell BK113003.out 1).trans rfl
    have hfz25_0 := blk_frozen BK113003.out 0
    have hfz25_1 := blk_frozen BK113003.out 1
    obtain ⟨Ao26, co26, eo26⟩ := Kd.R_slice HO_113004001.out
    subst eo26
    go_wp2_with (first | ((with_reducible refine gate_callee (f := 160) rfl ?_); refine goesL_ (some 29) rfl rfl Try.func160 (by kernel_rfl) rfl #[.slice Ao26 x113004001_1.length co26] rfl (by (try simp only [List.map_toArray, List.map_cons, List.map_nil]); first | done | rfl | (simp only [List.length_drop, List.length_take]; rfl)) ?_; (with_reducible refine (impl_SortSets.calls _ _ x113004001_1 t113009 _ ?side1 ?side2 A22.out).mono ?_); (case side1 => repeat (first | exact (Kd.R_reads' HO_113004001.out).2.2 | (with_reducible refine Kd.C_alloc ?_ _) | (with_reducible refine Kd.C_drewN ?_ _) | (with_reducible refine Kd.C_drew ?_))); (case side2 => exact (Kd.R_reads' HO_113004001.out).2.1); rintro e w27 ⟨v113010, rfl, ho0, hb⟩; refine ⟨_, rfl, ?_⟩; have HO113011 := aQ (Kd.R_lower (Kd.R_new' ho0 (Kd.R_lt (by (with_reducible repeat (first | apply Kd.R_alloc | apply Kd.R_drewN | apply Kd.R_drew)); exact HO_113004001.out))) (below_size (by repeat (first | (with_reducible first | exact HB.out | apply below_alloc | apply pw_below_drewN | apply below_drew1 | refine below_set ?_ GE113001.out | refine below_set ?_ GE113002.out | refine below_set ?_ GE113003.out) | exact HB.out)))); replace HO_113004001 := aQ (Kd.R_elder' (by (with_reducible repeat (first | apply Kd.R_alloc | apply Kd.R_drewN | apply Kd.R_drew)); exact HO_113004001.out) (Kd.R_base ho0) hb); replace BK113001 := aQ (blk_below (g := gb113001) (o := .cells #[.int .i64 a0_0, .slice A0_1 l0_1.length c0_1] 26 (0, 0)) (by (with_reducible repeat (first | refine blk_drewN ?_ _ | refine blk_drew ?_ | refine blk_alloc ?_ _)); exact BK113001.out) hb); replace BK113002 := aQ (blk_below (g := gb113002) (o := .cells #[.int .i64 0, .slice none 0 0] 26 (0, 0)) (by (with_reducible repeat (first | refine blk_drewN ?_ _ | refine blk_drew ?_ | refine blk_alloc ?_ _)); exact BK113002.out) hb); replace BK113003 := aQ (blk_below (g := gb113003) (o := .cells #[.int .i64 a0_0, .slice Ao26 x113004001_1.length co26] 26 (0, 0)) (by (with_reducible repeat (first | refine blk_drewN ?_ _ | refine blk_drew ?_ | refine blk_alloc ?_ _)); exact BK113003.out) hb); replace HB := aQ (below_step (by repeat (first | (with_reducible first | exact HB.out | apply below_alloc | apply pw_below_drewN | apply below_drew1 | refine below_set ?_ GE113001.out | refine below_set ?_ GE113002.out | refine below_set ?_ GE113003.out) | exact HB.out)) hb); (try clear hb); (try clear hb2); (try clear hk); (try clear hi); (try clear ho0); obtain ⟨Ao28, co28, eo28⟩ := Kd.R_slice HO113011.out; subst eo28; have hcz29_0 : w27.cell? ⟨gb113003, 0, none⟩ = some (.int .i64 a0_0) := (blk_cell BK113003.out 0).trans rfl; have hcz29_1 : w27.cell? ⟨gb113003, 1, none⟩ = some (.slice Ao26 x113004001_1.length co26) := (blk_cell BK113003.out 1).trans rfl; have hfz29_0 := blk_frozen BK113003.out 0; have hfz29_1 := blk_frozen BK113003.out 1; have hnb30 := NB113002_113001.out; have hnc30 := NB113001_113002.out; have hcz31_0 : w27.cell? ⟨gb113002, 0, none⟩ = some (.int .i64 0) := (blk_cell BK113002.out 0).trans rfl; have hcz31_1 : w27.cell? ⟨gb113002, 1, none⟩ = some (.slice none 0 0) := (blk_cell BK113002.out 1).trans rfl; have hfz31_0 := blk_frozen BK113002.out 0; have hfz31_1 := blk_frozen BK113002.out 1))
    refine bodyPost_ret (results_cell_row rfl _ _ gb113002 26 #[.int .i64 a0_0, .slice Ao28 t113009.length co28] (0, 0) _ rfl (by (with_reducible repeat (first | refine blk_drewN ?_ _ | refine blk_drew ?_ | refine blk_alloc ?_ _)); refine blk_put (cs := #[.int .i64 a0_0, .slice none 0 0]) ?_ 1 _ rfl; (with_reducible repeat (first | refine blk_drewN ?_ _ | refine blk_drew ?_ | refine blk_alloc ?_ _)); refine blk_put (cs := #[.int .i64 0, .slice none 0 0]) ?_ 0 _ rfl; (with_reducible repeat (first | refine blk_drewN ?_ _ | refine blk_drew ?_ | refine blk_alloc ?_ _)); refine blk_far ?_ NB113002_113003.out _; (with_reducible repeat (first | refine blk_drewN ?_ _ | refine blk_drew ?_ | refine blk_alloc ?_ _)); exact BK113002.out) Try.underlying26 rfl (by kernel_rfl)) rfl ?_
    exact ⟨_, by first | rfl | (simp [errW_none, errW_some] <;> rfl) | (simp [*, errW_none, errW_some] <;> rfl), by (with_reducible repeat (first | apply Kd.R_alloc | apply Kd.R_drewN | apply Kd.R_drew)); exact Kd.R_mono (Kd.R_far (p := ⟨gb113002, 1, none⟩) (Kd.R_far (p := ⟨gb113002, 0, none⟩) (Kd.R_far (p := ⟨gb113003, 1, none⟩) (Kd.R_types (Kd.R_types HO113011.out BK113003.out (by decide)) BK113002.out (by decide)) (fun _ hk => hk.1.2) (.slice Ao28 t113009.length co28)) (fun _ hk => hk.2) (.int .i64 a0_0)) (fun _ hk => hk.2) (.slice Ao28 t113009.length co28)) (fun _ hk => trivial), by repeat (first | (with_reducible first | exact HB.out | apply below_alloc | apply pw_below_drewN | apply below_drew1 | refine below_set ?_ GE113001.out | refine below_set ?_ GE113002.out | refine below_set ?_ GE113003.out) | exact HB.out)⟩
end Go.Proofs.Ytagncnjllpebjaa.A
namespace Go.Proofs.Ytagncnjllpebjaa.A
open Go.RowKit Go.Proofs.YtagncnjllpebjaaW.PrintWords Go.Proofs.YtagncnjllpebjaaW.PrintLast Go.Proofs.YtagncnjllpebjaaW.PrintMore Go.Proofs.Ytagncnjllpebjaa.Z
attribute [local go_sem] max2_int min2_int max_two min_two max_three min_three max_four min_four
set_option linter.unusedVariables false
set_option linter.unusedSimpArgs false
/-! ### impl_CanonOf: function 44 (by hand) -/
def impl_CanonOf.g (k : Nat) (n : Int) (l : List Int) (st : Int × List Int) (list : List Int) : Option ((Int × List Int) × Bool) := (impl_renamed.f k n l list).bind fun x => (slices_Compare_int_int.f k x.2 st.2).bind fun c => if c < 0 then some ((x.1, x.2), true) else some (st, true)
theorem impl_CanonOf.g_mono (n : Int) (l : List Int) (k : Nat) (st : Int × List Int) (list : List Int) : LeO (impl_CanonOf.g k n l st list) (impl_CanonOf.g (k + 1) n l st list) := by
 unfold impl_CanonOf.g
 exact LeO.bind (impl_renamed.mono _ _ _ _) (fun x => LeO.bind (slices_Compare_int_int.mono _ _ _) (fun c => LeO.refl _))
def impl_CanonOf.f (k : Nat) (a0_0 : Int) (l0_1 : List Int) : Option (Int × List Int × Bool) := (impl_IsMatroid.f k a0_0 l0_1).bind fun t => if t = true then (if a0_0 > 6 then some (0, ([] : List Int), false) else if 0 ≤ a0_0 then (impl_copyMatroid.f a0_0 l0_1).bind fun m => (renO k (impl_CanonOf.g k a0_0 l0_1) a0_0 16 ([] : List Int) (m.1, m.2)).bind fun p => some (p.1.1, p.1.2, true) else none) else some (0, ([] : List Int), false)
theorem impl_CanonOf.mono : ∀ a0 a1 k, LeO (impl_CanonOf.f k a0 a1) (impl_CanonOf.f (k + 1) a0 a1) := by
 intro a0 a1 k
 unfold impl_CanonOf.f
 exact LeO.bind (impl_IsMatroid.mono _ _ _) (fun t => LeO.ite (LeO.ite (LeO.refl _) (LeO.ite (LeO.bind (LeO.refl _) (fun m => LeO.bind (renO_mono k _ _ (fun st l => impl_CanonOf.g_mono a0 a1 k st l) _ _ _ _) (fun p => LeO.refl _))) (LeO.none _))) (LeO.refl _))
/-- What the captured blocks hold: the matroid, and the best so far. -/
def canRel (w : World) (gm gb : Nat) (n : Int) (A : Option Addr) (c : Nat) (l : List Int) (st : Int × List Int) (W : World) : Prop :=
 Below w.heap.size w W ∧ W.heap[gm]? = some (.cells #[.int .i64 n, .slice A l.length c] 26 (0, 0)) ∧ ∃ v, W.heap[gb]? = some (.cells #[.int .i64 st.1, v] 26 (0, 0)) ∧ Kd.R (Kd.int .i64) 3 W w.heap.size (fun _ => True) v st.2
theorem canRel_below (w : World) (gm gb : Nat) (n : Int) (A : Option Addr) (c : Nat) (l : List Int) (st : Int × List Int) (W W' : World) (h : canRel w gm gb n A c l st W) (hb : Below W.heap.size W W') : canRel w gm gb n A c l st W' := by
 obtain ⟨h1, h2, v, h3, h4⟩ := h
 exact ⟨below_step h1 hb, blk_below h2 hb, v, blk_below h3 hb, Kd.R_below h4 hb⟩
set_option maxHeartbeats 4000000 in
set_option maxRecDepth 100000 in
theorem Canon1_walk (k : Nat) (n : Int) (A : Option Addr) (c : Nat) (l : List Int) (gm gb : Nat) (w : World) (hC : Kd.C (Kd.int .i64) w A l.length l) (hc : l.length ≤ c) (hne : gm ≠ gb) (hgb : w.heap.size ≤ gb)
  (st st' : Int × List Int) (b : Bool) (W : World) (A' : Option Addr) (c' : Nat) (list : List Int) (hR : canRel w gm gb n A c l st W) (hL : Kd.C (Kd.int .i64) W A' list.length list) (hc' : list.length ≤ c') (h : impl_CanonOf.g k n l st list = some (st', b)) :
  Calls Try.prog 111 (#[.slice A' list.length c'] ++ #[.pointer (some ⟨gm, 0, none⟩), .pointer (some ⟨gb, 0, none⟩)]) W fun e W' => e = .returned (.bool b) ∧ canRel w gm gb n A c l st' W' ∧ Below 0 W W' ∧ Kept W W' (fun q => q = gb) := by
 obtain ⟨s1, s2⟩ := st
 obtain ⟨hB, hM, v, hG, hS⟩ := hR
 obtain ⟨AS, cS, eS⟩ := Kd.R_slice hS
 subst eS
 unfold impl_CanonOf.g at h
 obtain ⟨⟨x1, x2⟩, hX, h⟩ := Option.bind_eq_some_iff.1 h
 obtain ⟨q, hQ, h⟩ := Option.bind_eq_some_iff.1 h
 refine calls_of_args (show #[.slice A' list.length c', .pointer (some ⟨gm, 0, none⟩), .pointer (some ⟨gb, 0, none⟩)] = (#[.slice A' list.length c'] ++ #[.pointer (some ⟨gm, 0, none⟩), .pointer (some ⟨gb, 0, none⟩)] : Array Value) by simp) ?_
 have hu := Try.underlying26
 have BM := aQ hM
 have BB := aQ hG
 have HS := aQ hS
 have HB := aQ hB
 have NBMBB := aQ hne
 have GBB := aQ hgb
 have HCM := Lib.hid hC
 have HCC := aQ hc
 have HLC := Lib.hid hL
 have HLc := aQ hc'
 have HX := Lib.hid hX
 have HQ := Lib.hid hQ
 have HW0 := aQ (Below.refl W.heap.size W)
 clear hB hM hG hS hne hgb hC hc hL hc' hX hQ
 by_cases c3 : q < 0
 ·rw [if_pos c3] at h
  simp only [Option.some.injEq, Prod.mk.injEq] at h
  obtain ⟨rfl, rfl⟩ := h
  have l3 : decide (q < 0) = true := decide_eq_true c3
  clear c3
  have zBM0 : W.cell? ⟨gm, 0, none⟩ = some (.int .i64 n) := (blk_cell BM.out 0).trans rfl
  have zBM1 : W.cell? ⟨gm, 1, none⟩ = some (.slice A l.length c) := (blk_cell BM.out 1).trans rfl
  have zBB0 : W.cell? ⟨gb, 0, none⟩ = some (.int .i64 s1) := (blk_cell BB.out 0).trans rfl
  have zBB1 : W.cell? ⟨gb, 1, none⟩ = some (.slice AS s2.length cS) := (blk_cell BB.out 1).trans rfl
  go_enter Try.func111, Try.ntmps111
  go_wp2_with (first | (go_at_call 112; (with_reducible refine (impl_renamed.calls k n _ _ l _ _ list x1 x2 _ ?side1 ?side2 ?side3 ?side4 HX.out).mono ?_); (case side1 => exact (Kd.C_below HCM.out HB.out)); (case side2 => exact HCC.out); (case side3 => exact HLC.out); (case side4 => exact HLc.out); rintro e wa_ ⟨v_, rfl, ho_, hb⟩; have hW1_ := aQ hb; have m_HX_ := aQ (Kd.R_lower ho_ (below_size (by repeat (first | (with_reducible first | exact HB.out | apply below_alloc | apply pw_below_drewN | apply below_drew1 | refine below_set ?_ GBB.out) | exact HB.out)))); have n_BM := aQ (blk_below (g := gm) (o := .cells #[(.int .i64 n), (.slice A l.length c)] 26 (0, 0)) (by (with_reducible repeat (first | refine blk_drewN ?_ _ | refine blk_drew ?_ | refine blk_alloc ?_ _)); exact BM.out) hb); have n_BB := aQ (blk_below (g := gb) (o := .cells #[(.int .i64 s1), (.slice AS s2.length cS)] 26 (0, 0)) (by (with_reducible repeat (first | refine blk_drewN ?_ _ | refine blk_drew ?_ | refine blk_alloc ?_ _)); exact BB.out) hb); have n_HS := aQ (Kd.R_below (by (with_reducible repeat (first | apply Kd.R_alloc | apply Kd.R_drewN | apply Kd.R_drew)); exact HS.out) hb); have n_HB := aQ (below_step (by repeat (first | (with_reducible first | exact HB.out | apply below_alloc | apply pw_below_drewN | apply below_drew1 | refine below_set ?_ GBB.out) | exact HB.out)) hb); clear HB; clear BM; have BM := n_BM; clear n_BM; clear BB; have BB := n_BB; clear n_BB; clear HS; have HS := n_HS; clear n_HS; have HB := n_HB; clear n_HB; have HX_ := m_HX_; clear m_HX_ ho_; obtain ⟨AHX_, cHX_, eHX_⟩ := Kd.R_slice HX_.out; subst eHX_; clear hb; have zBM0 : wa_.cell? ⟨gm, 0, none⟩ = some (.int .i64 n) := (blk_cell BM.out 0).trans rfl; have zBM1 : wa_.cell? ⟨gm, 1, none⟩ = some (.slice A l.length c) := (blk_cell BM.out 1).trans rfl; have zBB0 : wa_.cell? ⟨gb, 0, none⟩ = some (.int .i64 s1) := (blk_cell BB.out 0).trans rfl; have zBB1 : wa_.cell? ⟨gb, 1, none⟩ = some (.slice AS s2.length cS) := (blk_cell BB.out 1).trans rfl) | ((with_reducible refine gate_dst (N := 5) rfl ?_); refine box_event ?hg (N := 5) ?hd (cs := #[(.int .i64 0), (.slice none 0 0)]) (t := 26) ?hr ?_; (case hd => rfl); (case hg => rfl); (case hr => first | (go_simp; done) | (go_simp; rfl)); intro gx hg wb_ hbox hb; have hW2_ := aQ (below_step hW1_.out hb); have NBMBX := aQ ((by rw [hg]; exact Nat.ne_of_lt (blk_lt (g := gm) (o := .cells #[(.int .i64 n), (.slice A l.length c)] 26 (0, 0)) (by (with_reducible repeat (first | refine blk_drewN ?_ _ | refine blk_drew ?_ | refine blk_alloc ?_ _)); exact BM.out))) : gm ≠ gx); have NBBBX := aQ ((by rw [hg]; exact Nat.ne_of_lt (blk_lt (g := gb) (o := .cells #[(.int .i64 s1), (.slice AS s2.length cS)] 26 (0, 0)) (by (with_reducible repeat (first | refine blk_drewN ?_ _ | refine blk_drew ?_ | refine blk_alloc ?_ _)); exact BB.out))) : gb ≠ gx); have hGX_ := aQ ((by rw [hg]; exact below_size hW1_.out) : W.heap.size ≤ gx); have GBX := aQ ((by rw [hg]; exact below_size (by repeat (first | (with_reducible first | exact HB.out | apply below_alloc | apply pw_below_drewN | apply below_drew1 | refine below_set ?_ GBB.out) | exact HB.out))) : w.heap.size ≤ gx); have n_BM := aQ (blk_below (g := gm) (o := .cells #[(.int .i64 n), (.slice A l.length c)] 26 (0, 0)) (by (with_reducible repeat (first | refine blk_drewN ?_ _ | refine blk_drew ?_ | refine blk_alloc ?_ _)); exact BM.out) hb); have n_BB := aQ (blk_below (g := gb) (o := .cells #[(.int .i64 s1), (.slice AS s2.length cS)] 26 (0, 0)) (by (with_reducible repeat (first | refine blk_drewN ?_ _ | refine blk_drew ?_ | refine blk_alloc ?_ _)); exact BB.out) hb); have n_HS := aQ (Kd.R_below (by (with_reducible repeat (first | apply Kd.R_alloc | apply Kd.R_drewN | apply Kd.R_drew)); exact HS.out) hb); have n_HX_ := aQ (Kd.R_below (by (with_reducible repeat (first | apply Kd.R_alloc | apply Kd.R_drewN | apply Kd.R_drew)); exact HX_.out) hb); have n_HB := aQ (below_step (by repeat (first | (with_reducible first | exact HB.out | apply below_alloc | apply pw_below_drewN | apply below_drew1 | refine below_set ?_ GBB.out) | exact HB.out)) hb); clear HB; clear BM; have BM := n_BM; clear n_BM; clear BB; have BB := n_BB; clear n_BB; clear HS; have HS := n_HS; clear n_HS; clear HX_; have HX_ := n_HX_; clear n_HX_; have HB := n_HB; clear n_HB; have BX := aQ hbox; clear hb hbox hg; have zBM0 : wb_.cell? ⟨gm, 0, none⟩ = some (.int .i64 n) := (blk_cell BM.out 0).trans rfl; have zBM1 : wb_.cell? ⟨gm, 1, none⟩ = some (.slice A l.length c) := (blk_cell BM.out 1).trans rfl; have zBB0 : wb_.cell? ⟨gb, 0, none⟩ = some (.int .i64 s1) := (blk_cell BB.out 0).trans rfl; have zBB1 : wb_.cell? ⟨gb, 1, none⟩ = some (.slice AS s2.length cS) := (blk_cell BB.out 1).trans rfl; have zBX0 : wb_.cell? ⟨gx, 0, none⟩ = some (.int .i64 0) := (blk_cell BX.out 0).trans rfl; have zBX1 : wb_.cell? ⟨gx, 1, none⟩ = some (.slice none 0 0) := (blk_cell BX.out 1).trans rfl; have hf0BX := blk_frozen BX.out 0; have hf1BX := blk_frozen BX.out 1) | ((with_reducible refine gate_store (t := 26) (p := 5) rfl ?_); refine store_event (t := 26) (p := 5) (v := ?vo5_) (w1 := ((wb_.setCell ⟨gx, 0, none⟩ (.int .i64 x1)).setCell ⟨gx, 1, none⟩ (.slice AHX_ x2.length cHX_))) ?hg ?ho ?hn ?hr ?_; (case ho => rfl); (case hg => rfl); (case hn => rfl); (case hr => first | (go_simp; done) | (go_simp; rfl)); intro wc_ hw; have n_BX := aQ ((by rw [hw]; exact blk_put (cs := #[(.int .i64 x1), (.slice none 0 0)]) (blk_put BX.out 0 _ rfl) 1 _ rfl) : wc_.heap[gx]? = some (.cells #[(.int .i64 x1), (.slice AHX_ x2.length cHX_)] 26 (0, 0))); have n_BM := aQ ((by rw [hw]; exact blk_far (p := ⟨gx, 1, none⟩) (blk_far (p := ⟨gx, 0, none⟩) BM.out NBMBX.out _) NBMBX.out _) : wc_.heap[gm]? = some (.cells #[(.int .i64 n), (.slice A l.length c)] 26 (0, 0))); have n_BB := aQ ((by rw [hw]; exact blk_far (p := ⟨gx, 1, none⟩) (blk_far (p := ⟨gx, 0, none⟩) BB.out NBBBX.out _) NBBBX.out _) : wc_.heap[gb]? = some (.cells #[(.int .i64 s1), (.slice AS s2.length cS)] 26 (0, 0))); have n_HS : Aside0 (Kd.R (Kd.int .i64) 3 wc_ w.heap.size (fun _ => True) (.slice AS s2.length cS) s2) := ⟨by rw [hw]; exact Kd.R_mono (Kd.R_far (p := ⟨gx, 1, none⟩) (Kd.R_far (p := ⟨gx, 0, none⟩) (Kd.R_types HS.out BX.out (by decide)) (fun _ hk => hk.2) _) (fun _ hk => hk.2) _) (fun _ hk => trivial)⟩; have n_HX_ : Aside0 (Kd.R (Kd.int .i64) 3 wc_ w.heap.size (fun _ => True) (.slice AHX_ x2.length cHX_) x2) := ⟨by rw [hw]; exact Kd.R_mono (Kd.R_far (p := ⟨gx, 1, none⟩) (Kd.R_far (p := ⟨gx, 0, none⟩) (Kd.R_types HX_.out BX.out (by decide)) (fun _ hk => hk.2) _) (fun _ hk => hk.2) _) (fun _ hk => trivial)⟩; have n_HB := aQ ((by rw [hw]; exact below_set (below_set HB.out GBX.out) GBX.out) : Below w.heap.size w wc_); have hW3_ := aQ ((by rw [hw]; exact below_set (below_set hW2_.out hGX_.out) hGX_.out) : Below W.heap.size W wc_); clear hw; clear BM; have BM := n_BM; clear n_BM; clear BB; have BB := n_BB; clear n_BB; clear BX; have BX := n_BX; clear n_BX; clear HS; have HS := n_HS; clear n_HS; clear HX_; have HX_ := n_HX_; clear n_HX_; have HB := n_HB; clear n_HB; skip; have zsBM0 : wc_.cell? ⟨gm, 0, none⟩ = some (.int .i64 n) := (blk_cell BM.out 0).trans rfl; have zsBM1 : wc_.cell? ⟨gm, 1, none⟩ = some (.slice A l.length c) := (blk_cell BM.out 1).trans rfl; have zsBB0 : wc_.cell? ⟨gb, 0, none⟩ = some (.int .i64 s1) := (blk_cell BB.out 0).trans rfl; have zsBB1 : wc_.cell? ⟨gb, 1, none⟩ = some (.slice AS s2.length cS) := (blk_cell BB.out 1).trans rfl; have zsBX0 : wc_.cell? ⟨gx, 0, none⟩ = some (.int .i64 x1) := (blk_cell BX.out 0).trans rfl; have zsBX1 : wc_.cell? ⟨gx, 1, none⟩ = some (.slice AHX_ x2.length cHX_) := (blk_cell BX.out 1).trans rfl) | (go_at_call 113; (with_reducible refine (slices_Compare_int_int.calls k _ _ x2 _ _ s2 q _ ?side5 ?side6 ?side7 ?side8 HQ.out).mono ?_); (case side5 => exact (Kd.R_reads' HX_.out).2.2); (case side6 => exact (Kd.R_reads' HX_.out).2.1); (case side7 => exact (Kd.R_reads' HS.out).2.2); (case side8 => exact (Kd.R_reads' HS.out).2.1); rintro e wd_ ⟨rfl, ⟨nd, rfl⟩⟩; have zqBM0 : (wc_.drewN nd).cell? ⟨gm, 0, none⟩ = some (.int .i64 n) := (blk_cell BM.out 0).trans rfl; have zqBM1 : (wc_.drewN nd).cell? ⟨gm, 1, none⟩ = some (.slice A l.length c) := (blk_cell BM.out 1).trans rfl; have zqBB0 : (wc_.drewN nd).cell? ⟨gb, 0, none⟩ = some (.int .i64 s1) := (blk_cell BB.out 0).trans rfl; have zqBB1 : (wc_.drewN nd).cell? ⟨gb, 1, none⟩ = some (.slice AS s2.length cS) := (blk_cell BB.out 1).trans rfl; have zqBX0 : (wc_.drewN nd).cell? ⟨gx, 0, none⟩ = some (.int .i64 x1) := (blk_cell BX.out 0).trans rfl; have zqBX1 : (wc_.drewN nd).cell? ⟨gx, 1, none⟩ = some (.slice AHX_ x2.length cHX_) := (blk_cell BX.out 1).trans rfl; have hf0BB := blk_frozen BB.out 0; have hf1BB := blk_frozen BB.out 1))
  go_ret
  have m1_ : (wc_.drewN nd).heap[gm]? = some (.cells #[.int .i64 n, .slice A l.length c] 26 (0, 0)) := blk_drewN BM.out nd
  have m2_ : (wc_.drewN nd).heap[gb]? = some (.cells #[.int .i64 s1, .slice AS s2.length cS] 26 (0, 0)) := blk_drewN BB.out nd
  have m3_ := Kd.R_drewN HX_.out nd
  have m4_ : Below W.heap.size W (wc_.drewN nd) := pw_below_drewN hW3_.out nd
  have m5_ : Below w.heap.size w (wc_.drewN nd) := pw_below_drewN HB.out nd
  generalize wc_.drewN nd = wz_ at m1_ m2_ m3_ m4_ m5_ ⊢
  have q1 := below_set (j := 1) (v := (.slice AHX_ x2.length cHX_)) (below_set (j := 0) (v := (.int .i64 x1)) m5_ GBB.out) GBB.out
  have q2 := blk_far (p := ⟨gb, 1, none⟩) (blk_far (p := ⟨gb, 0, none⟩) m1_ NBMBB.out (.int .i64 x1)) NBMBB.out (.slice AHX_ x2.length cHX_)
  have q3 := blk_put (cs' := #[.int .i64 x1, .slice AHX_ x2.length cHX_]) (blk_put (cs' := #[.int .i64 x1, .slice AS s2.length cS]) m2_ 0 (.int .i64 x1) rfl) 1 (.slice AHX_ x2.length cHX_) rfl
  have q4 := Kd.R_mono (ok' := fun _ => True) (Kd.R_far (p := ⟨gb, 1, none⟩) (Kd.R_far (p := ⟨gb, 0, none⟩) (Kd.R_types m3_ m2_ (by decide)) (fun _ hk => hk.2) (.int .i64 x1)) (fun _ hk => hk.2) (.slice AHX_ x2.length cHX_)) (fun _ hk => trivial)
  have q5 := Kept.setCell (p := ⟨gb, 1, none⟩) (Kept.setCell (p := ⟨gb, 0, none⟩) (Kept.of_below m4_ (fun q => q = gb)) (Or.inl rfl) (.int .i64 x1)) (Or.inl rfl) (.slice AHX_ x2.length cHX_)
  have q6 : Below 0 W ((wz_.setCell ⟨gb, 0, none⟩ (.int .i64 x1)).setCell ⟨gb, 1, none⟩ (.slice AHX_ x2.length cHX_)) := ⟨m4_.os, m4_.tape, m4_.output, q5.1, fun _ hk => absurd hk (Nat.not_lt_zero _)⟩
  refine ⟨by first | rfl | (simp; done) | (simp [*]; done), ?_, ?_, ?_⟩
  ·exact ⟨q1, q2, _, q3, q4⟩
  ·exact q6
  ·exact q5
 ·rw [if_neg c3] at h
  simp only [Option.some.injEq, Prod.mk.injEq] at h
  obtain ⟨rfl, rfl⟩ := h
  have l3 : decide (q < 0) = false := decide_eq_false c3
  clear c3
  have zBM0 : W.cell? ⟨gm, 0, none⟩ = some (.int .i64 n) := (blk_cell BM.out 0).trans rfl
  have zBM1 : W.cell? ⟨gm, 1, none⟩ = some (.slice A l.length c) := (blk_cell BM.out 1).trans rfl
  have zBB0 : W.cell? ⟨gb, 0, none⟩ = some (.int .i64 s1) := (blk_cell BB.out 0).trans rfl
  have zBB1 : W.cell? ⟨gb, 1, none⟩ = some (.slice AS s2.length cS) := (blk_cell BB.out 1).trans rfl
  go_enter Try.func111, Try.ntmps111
  go_wp2_with (first | (go_at_call 112; (with_reducible refine (impl_renamed.calls k n _ _ l _ _ list x1 x2 _ ?side1 ?side2 ?side3 ?side4 HX.out).mono ?_); (case side1 => exact (Kd.C_below HCM.out HB.out)); (case side2 => exact HCC.out); (case side3 => exact HLC.out); (case side4 => exact HLc.out); rintro e wa_ ⟨v_, rfl, ho_, hb⟩; have hW1_ := aQ hb; have m_HX_ := aQ (Kd.R_lower ho_ (below_size (by repeat (first | (with_reducible first | exact HB.out | apply below_alloc | apply pw_below_drewN | apply below_drew1 | refine below_set ?_ GBB.out) | exact HB.out)))); have n_BM := aQ (blk_below (g := gm) (o := .cells #[(.int .i64 n), (.slice A l.length c)] 26 (0, 0)) (by (with_reducible repeat (first | refine blk_drewN ?_ _ | refine blk_drew ?_ | refine blk_alloc ?_ _)); exact BM.out) hb); have n_BB := aQ (blk_below (g := gb) (o := .cells #[(.int .i64 s1), (.slice AS s2.length cS)] 26 (0, 0)) (by (with_reducible repeat (first | refine blk_drewN ?_ _ | refine blk_drew ?_ | refine blk_alloc ?_ _)); exact BB.out) hb); have n_HS := aQ (Kd.R_below (by (with_reducible repeat (first | apply Kd.R_alloc | apply Kd.R_drewN | apply Kd.R_drew)); exact HS.out) hb); have n_HB := aQ (below_step (by repeat (first | (with_reducible first | exact HB.out | apply below_alloc | apply pw_below_drewN | apply below_drew1 | refine below_set ?_ GBB.out) | exact HB.out)) hb); clear HB; clear BM; have BM := n_BM; clear n_BM; clear BB; have BB := n_BB; clear n_BB; clear HS; have HS := n_HS; clear n_HS; have HB := n_HB; clear n_HB; have HX_ := m_HX_; clear m_HX_ ho_; obtain ⟨AHX_, cHX_, eHX_⟩ := Kd.R_slice HX_.out; subst eHX_; clear hb; have zBM0 : wa_.cell? ⟨gm, 0, none⟩ = some (.int .i64 n) := (blk_cell BM.out 0).trans rfl; have zBM1 : wa_.cell? ⟨gm, 1, none⟩ = some (.slice A l.length c) := (blk_cell BM.out 1).trans rfl; have zBB0 : wa_.cell? ⟨gb, 0, none⟩ = some (.int .i64 s1) := (blk_cell BB.out 0).trans rfl; have zBB1 : wa_.cell? ⟨gb, 1, none⟩ = some (.slice AS s2.length cS) := (blk_cell BB.out 1).trans rfl) | ((with_reducible refine gate_dst (N := 5) rfl ?_); refine box_event ?hg (N := 5) ?hd (cs := #[(.int .i64 0), (.slice none 0 0)]) (t := 26) ?hr ?_; (case hd => rfl); (case hg => rfl); (case hr => first | (go_simp; done) | (go_simp; rfl)); intro gx hg wb_ hbox hb; have hW2_ := aQ (below_step hW1_.out hb); have NBMBX := aQ ((by rw [hg]; exact Nat.ne_of_lt (blk_lt (g := gm) (o := .cells #[(.int .i64 n), (.slice A l.length c)] 26 (0, 0)) (by (with_reducible repeat (first | refine blk_drewN ?_ _ | refine blk_drew ?_ | refine blk_alloc ?_ _)); exact BM.out))) : gm ≠ gx); have NBBBX := aQ ((by rw [hg]; exact Nat.ne_of_lt (blk_lt (g := gb) (o := .cells #[(.int .i64 s1), (.slice AS s2.length cS)] 26 (0, 0)) (by (with_reducible repeat (first | refine blk_drewN ?_ _ | refine blk_drew ?_ | refine blk_alloc ?_ _)); exact BB.out))) : gb ≠ gx); have hGX_ := aQ ((by rw [hg]; exact below_size hW1_.out) : W.heap.size ≤ gx); have GBX := aQ ((by rw [hg]; exact below_size (by repeat (first | (with_reducible first | exact HB.out | apply below_alloc | apply pw_below_drewN | apply below_drew1 | refine below_set ?_ GBB.out) | exact HB.out))) : w.heap.size ≤ gx); have n_BM := aQ (blk_below (g := gm) (o := .cells #[(.int .i64 n), (.slice A l.length c)] 26 (0, 0)) (by (with_reducible repeat (first | refine blk_drewN ?_ _ | refine blk_drew ?_ | refine blk_alloc ?_ _)); exact BM.out) hb); have n_BB := aQ (blk_below (g := gb) (o := .cells #[(.int .i64 s1), (.slice AS s2.length cS)] 26 (0, 0)) (by (with_reducible repeat (first | refine blk_drewN ?_ _ | refine blk_drew ?_ | refine blk_alloc ?_ _)); exact BB.out) hb); have n_HS := aQ (Kd.R_below (by (with_reducible repeat (first | apply Kd.R_alloc | apply Kd.R_drewN | apply Kd.R_drew)); exact HS.out) hb); have n_HX_ := aQ (Kd.R_below (by (with_reducible repeat (first | apply Kd.R_alloc | apply Kd.R_drewN | apply Kd.R_drew)); exact HX_.out) hb); have n_HB := aQ (below_step (by repeat (first | (with_reducible first | exact HB.out | apply below_alloc | apply pw_below_drewN | apply below_drew1 | refine below_set ?_ GBB.out) | exact HB.out)) hb); clear HB; clear BM; have BM := n_BM; clear n_BM; clear BB; have BB := n_BB; clear n_BB; clear HS; have HS := n_HS; clear n_HS; clear HX_; have HX_ := n_HX_; clear n_HX_; have HB := n_HB; clear n_HB; have BX := aQ hbox; clear hb hbox hg; have zBM0 : wb_.cell? ⟨gm, 0, none⟩ = some (.int .i64 n) := (blk_cell BM.out 0).trans rfl; have zBM1 : wb_.cell? ⟨gm, 1, none⟩ = some (.slice A l.length c) := (blk_cell BM.out 1).trans rfl; have zBB0 : wb_.cell? ⟨gb, 0, none⟩ = some (.int .i64 s1) := (blk_cell BB.out 0).trans rfl; have zBB1 : wb_.cell? ⟨gb, 1, none⟩ = some (.slice AS s2.length cS) := (blk_cell BB.out 1).trans rfl; have zBX0 : wb_.cell? ⟨gx, 0, none⟩ = some (.int .i64 0) := (blk_cell BX.out 0).trans rfl; have zBX1 : wb_.cell? ⟨gx, 1, none⟩ = some (.slice none 0 0) := (blk_cell BX.out 1).trans rfl; have hf0BX := blk_frozen BX.out 0; have hf1BX := blk_frozen BX.out 1) | ((with_reducible refine gate_store (t := 26) (p := 5) rfl ?_); refine store_event (t := 26) (p := 5) (v := ?vo5_) (w1 := ((wb_.setCell ⟨gx, 0, none⟩ (.int .i64 x1)).setCell ⟨gx, 1, none⟩ (.slice AHX_ x2.length cHX_))) ?hg ?ho ?hn ?hr ?_; (case ho => rfl); (case hg => rfl); (case hn => rfl); (case hr => first | (go_simp; done) | (go_simp; rfl)); intro wc_ hw; have n_BX := aQ ((by rw [hw]; exact blk_put (cs := #[(.int .i64 x1), (.slice none 0 0)]) (blk_put BX.out 0 _ rfl) 1 _ rfl) : wc_.heap[gx]? = some (.cells #[(.int .i64 x1), (.slice AHX_ x2.length cHX_)] 26 (0, 0))); have n_BM := aQ ((by rw [hw]; exact blk_far (p := ⟨gx, 1, none⟩) (blk_far (p := ⟨gx, 0, none⟩) BM.out NBMBX.out _) NBMBX.out _) : wc_.heap[gm]? = some (.cells #[(.int .i64 n), (.slice A l.length c)] 26 (0, 0))); have n_BB := aQ ((by rw [hw]; exact blk_far (p := ⟨gx, 1, none⟩) (blk_far (p := ⟨gx, 0, none⟩) BB.out NBBBX.out _) NBBBX.out _) : wc_.heap[gb]? = some (.cells #[(.int .i64 s1), (.slice AS s2.length cS)] 26 (0, 0))); have n_HS : Aside0 (Kd.R (Kd.int .i64) 3 wc_ w.heap.size (fun _ => True) (.slice AS s2.length cS) s2) := ⟨by rw [hw]; exact Kd.R_mono (Kd.R_far (p := ⟨gx, 1, none⟩) (Kd.R_far (p := ⟨gx, 0, none⟩) (Kd.R_types HS.out BX.out (by decide)) (fun _ hk => hk.2) _) (fun _ hk => hk.2) _) (fun _ hk => trivial)⟩; have n_HX_ : Aside0 (Kd.R (Kd.int .i64) 3 wc_ w.heap.size (fun _ => True) (.slice AHX_ x2.length cHX_) x2) := ⟨by rw [hw]; exact Kd.R_mono (Kd.R_far (p := ⟨gx, 1, none⟩) (Kd.R_far (p := ⟨gx, 0, none⟩) (Kd.R_types HX_.out BX.out (by decide)) (fun _ hk => hk.2) _) (fun _ hk => hk.2) _) (fun _ hk => trivial)⟩; have n_HB := aQ ((by rw [hw]; exact below_set (below_set HB.out GBX.out) GBX.out) : Below w.heap.size w wc_); have hW3_ := aQ ((by rw [hw]; exact below_set (below_set hW2_.out hGX_.out) hGX_.out) : Below W.heap.size W wc_); clear hw; clear BM; have BM := n_BM; clear n_BM; clear BB; have BB := n_BB; clear n_BB; clear BX; have BX := n_BX; clear n_BX; clear HS; have HS := n_HS; clear n_HS; clear HX_; have HX_ := n_HX_; clear n_HX_; have HB := n_HB; clear n_HB; skip; have zsBM0 : wc_.cell? ⟨gm, 0, none⟩ = some (.int .i64 n) := (blk_cell BM.out 0).trans rfl; have zsBM1 : wc_.cell? ⟨gm, 1, none⟩ = some (.slice A l.length c) := (blk_cell BM.out 1).trans rfl; have zsBB0 : wc_.cell? ⟨gb, 0, none⟩ = some (.int .i64 s1) := (blk_cell BB.out 0).trans rfl; have zsBB1 : wc_.cell? ⟨gb, 1, none⟩ = some (.slice AS s2.length cS) := (blk_cell BB.out 1).trans rfl; have zsBX0 : wc_.cell? ⟨gx, 0, none⟩ = some (.int .i64 x1) := (blk_cell BX.out 0).trans rfl; have zsBX1 : wc_.cell? ⟨gx, 1, none⟩ = some (.slice AHX_ x2.length cHX_) := (blk_cell BX.out 1).trans rfl) | (go_at_call 113; (with_reducible refine (slices_Compare_int_int.calls k _ _ x2 _ _ s2 q _ ?side5 ?side6 ?side7 ?side8 HQ.out).mono ?_); (case side5 => exact (Kd.R_reads' HX_.out).2.2); (case side6 => exact (Kd.R_reads' HX_.out).2.1); (case side7 => exact (Kd.R_reads' HS.out).2.2); (case side8 => exact (Kd.R_reads' HS.out).2.1); rintro e wd_ ⟨rfl, ⟨nd, rfl⟩⟩))
  go_ret
  exact ⟨by first | rfl | (simp; done) | (simp [*]; done), ⟨pw_below_drewN HB.out _, blk_drewN BM.out _, _, blk_drewN BB.out _, Kd.R_drewN HS.out _⟩, below0_of (pw_below_drewN hW3_.out _), Kept.drewN (Kept.of_below hW3_.out _) _⟩
set_option maxHeartbeats 4000000 in
set_option maxRecDepth 100000 in
theorem impl_CanonOf.calls (k : Nat) (a0_0 : Int) (A0_1 : Option Addr) (c0_1 : Nat) (l0_1 : List Int) (r1 : Int) (r2 : List Int) (r3 : Bool) (w : World) (hr0_1 : Kd.C (Kd.int .i64) w A0_1 l0_1.length l0_1) (hc0_1 : l0_1.length ≤ c0_1) (h : impl_CanonOf.f k a0_0 l0_1 = some (r1, r2, r3)) :
  Calls Try.prog 44 #[.agg #[.int .i64 a0_0, .slice A0_1 l0_1.length c0_1]] w fun e w' => ∃ v1_ : Value, e = .returned (.tuple #[.agg #[.int .i64 r1, v1_], .bool r3]) ∧ Kd.R (Kd.int .i64) 3 w' w.heap.size (fun _ => True) v1_ r2 ∧ Below w.heap.size w w' := by
 have hu := Try.underlying26
 have HR := aQ hr0_1
 have HC := aQ hc0_1
 have HB := aQ (Below.refl w.heap.size w)
 clear hr0_1 hc0_1
 have EG := aQ (show ∀ args w, (callFunc 111 args).run Try.prog w = .ok (.enter 111 args) w from runs_of Try.func111 (by kernel_rfl) rfl)
 unfold impl_CanonOf.f at h
 obtain ⟨t, hT, h⟩ := Option.bind_eq_some_iff.1 h
 have HT := aQ hT
 clear hT
 by_cases c3 : t = true
 ·subst c3
  rw [if_pos rfl] at h
  by_cases c6 : a0_0 > 6
  ·rw [if_pos c6] at h
   simp only [Option.some.injEq, Prod.mk.injEq] at h
   obtain ⟨rfl, rfl, rfl⟩ := h
   have l6 : decide (6 < a0_0) = true := decide_eq_true c6
   clear c6
   go_enter Try.func44, Try.ntmps44
   go_wp2_with (first | ((with_reducible refine gate_dst (N := 1) rfl ?_); refine box_event ?hg (N := 1) ?hd (cs := #[(.int .i64 a0_0), (.slice A0_1 l0_1.length c0_1)]) (t := 26) ?hr ?_; (case hd => rfl); (case hg => rfl); (case hr => first | (go_simp; done) | (go_simp; rfl)); intro gm hg wa_ hbox hb; have GBM := aQ ((by rw [hg]; exact below_size (by repeat (first | (with_reducible first | exact HB.out | apply below_alloc | apply pw_below_drewN | apply below_drew1) | exact HB.out))) : w.heap.size ≤ gm); replace HB := aQ (below_step (by repeat (first | (with_reducible first | exact HB.out | apply below_alloc | apply pw_below_drewN | apply below_drew1) | exact HB.out)) hb); have BM := aQ hbox; clear hb hbox hg; have zBM0 : wa_.cell? ⟨gm, 0, none⟩ = some (.int .i64 a0_0) := (blk_cell BM.out 0).trans rfl; have zBM1 : wa_.cell? ⟨gm, 1, none⟩ = some (.slice A0_1 l0_1.length c0_1) := (blk_cell BM.out 1).trans rfl) | ((with_reducible refine gate_dst (N := 2) rfl ?_); refine box_event ?hg (N := 2) ?hd (cs := #[(.int .i64 0), (.slice none 0 0)]) (t := 26) ?hr ?_; (case hd => rfl); (case hg => rfl); (case hr => first | (go_simp; done) | (go_simp; rfl)); intro gr hg wb_ hbox hb; have NBMBR := aQ ((by rw [hg]; exact Nat.ne_of_lt (blk_lt (g := gm) (o := .cells #[(.int .i64 a0_0), (.slice A0_1 l0_1.length c0_1)] 26 (0, 0)) (by (with_reducible repeat (first | refine blk_drewN ?_ _ | refine blk_drew ?_ | refine blk_alloc ?_ _)); exact BM.out))) : gm ≠ gr); have GBR := aQ ((by rw [hg]; exact below_size (by repeat (first | (with_reducible first | exact HB.out | apply below_alloc | apply pw_below_drewN | apply below_drew1 | refine below_set ?_ GBM.out) | exact HB.out))) : w.heap.size ≤ gr); have n_BM := aQ (blk_below (g := gm) (o := .cells #[(.int .i64 a0_0), (.slice A0_1 l0_1.length c0_1)] 26 (0, 0)) (by (with_reducible repeat (first | refine blk_drewN ?_ _ | refine blk_drew ?_ | refine blk_alloc ?_ _)); exact BM.out) hb); have n_HB := aQ (below_step (by repeat (first | (with_reducible first | exact HB.out | apply below_alloc | apply pw_below_drewN | apply below_drew1 | refine below_set ?_ GBM.out) | exact HB.out)) hb); clear HB; clear BM; have BM := n_BM; clear n_BM; have HB := n_HB; clear n_HB; have BR := aQ hbox; clear hb hbox hg; have zBM0 : wb_.cell? ⟨gm, 0, none⟩ = some (.int .i64 a0_0) := (blk_cell BM.out 0).trans rfl; have zBM1 : wb_.cell? ⟨gm, 1, none⟩ = some (.slice A0_1 l0_1.length c0_1) := (blk_cell BM.out 1).trans rfl; have zBR0 : wb_.cell? ⟨gr, 0, none⟩ = some (.int .i64 0) := (blk_cell BR.out 0).trans rfl; have zBR1 : wb_.cell? ⟨gr, 1, none⟩ = some (.slice none 0 0) := (blk_cell BR.out 1).trans rfl; have hf0BR := blk_frozen BR.out 0; have hf1BR := blk_frozen BR.out 1) | (go_at_call 60; (with_reducible refine (impl_IsMatroid.calls k a0_0 _ _ l0_1 true _ ?side1 ?side2 HT.out).mono ?_); (case side1 => exact (Kd.C_below HR.out (by repeat (first | (with_reducible first | exact HB.out | apply below_alloc | apply pw_below_drewN | apply below_drew1 | refine below_set ?_ GBM.out | refine below_set ?_ GBR.out) | exact HB.out)))); (case side2 => exact HC.out); rintro e wc_ ⟨rfl, hb⟩; have n_BM := aQ (blk_below (g := gm) (o := .cells #[(.int .i64 a0_0), (.slice A0_1 l0_1.length c0_1)] 26 (0, 0)) (by (with_reducible repeat (first | refine blk_drewN ?_ _ | refine blk_drew ?_ | refine blk_alloc ?_ _)); exact BM.out) hb); have n_BR := aQ (blk_below (g := gr) (o := .cells #[(.int .i64 0), (.slice none 0 0)] 26 (0, 0)) (by (with_reducible repeat (first | refine blk_drewN ?_ _ | refine blk_drew ?_ | refine blk_alloc ?_ _)); exact BR.out) hb); have n_HB := aQ (below_step (by repeat (first | (with_reducible first | exact HB.out | apply below_alloc | apply pw_below_drewN | apply below_drew1 | refine below_set ?_ GBM.out | refine below_set ?_ GBR.out) | exact HB.out)) hb); clear HB; clear BM; have BM := n_BM; clear n_BM; clear BR; have BR := n_BR; clear n_BR; have HB := n_HB; clear n_HB; clear hb; have zBM0 : wc_.cell? ⟨gm, 0, none⟩ = some (.int .i64 a0_0) := (blk_cell BM.out 0).trans rfl; have zBM1 : wc_.cell? ⟨gm, 1, none⟩ = some (.slice A0_1 l0_1.length c0_1) := (blk_cell BM.out 1).trans rfl; have zBR0 : wc_.cell? ⟨gr, 0, none⟩ = some (.int .i64 0) := (blk_cell BR.out 0).trans rfl; have zBR1 : wc_.cell? ⟨gr, 1, none⟩ = some (.slice none 0 0) := (blk_cell BR.out 1).trans rfl; have hf0BR := blk_frozen BR.out 0; have hf1BR := blk_frozen BR.out 1))
   refine bodyPost_ret (results_ct rfl _ _ gr 26 #[(.int .i64 0), (.slice none 0 0)] (0, 0) _ rfl (by (with_reducible repeat (first | refine blk_drewN ?_ _ | refine blk_drew ?_ | refine blk_alloc ?_ _)); refine blk_put (cs := #[(.int .i64 0), (.slice none 0 0)]) ?_ 1 _ rfl; (with_reducible repeat (first | refine blk_drewN ?_ _ | refine blk_drew ?_ | refine blk_alloc ?_ _)); refine blk_put (cs := #[(.int .i64 0), (.slice none 0 0)]) ?_ 0 _ rfl; (with_reducible repeat (first | refine blk_drewN ?_ _ | refine blk_drew ?_ | refine blk_alloc ?_ _)); exact BR.out) Try.underlying26 rfl (by kernel_rfl)) rfl ?_
   exact ⟨_, by first | rfl | (simp; done) | (simp [*]; done), Kd.R_nil _ _ _ _ _, (by repeat (first | (with_reducible first | exact HB.out | apply below_alloc | apply pw_below_drewN | apply below_drew1 | refine below_set ?_ GBM.out | refine below_set ?_ GBR.out) | exact HB.out))⟩
  ·rw [if_neg c6] at h
   have l6 : decide (6 < a0_0) = false := decide_eq_false c6
   by_cases c0 : 0 ≤ a0_0
   ·rw [if_pos c0] at h
    obtain ⟨⟨m1, m2⟩, hm, h⟩ := Option.bind_eq_some_iff.1 h
    obtain ⟨⟨⟨p1, p2⟩, p3⟩, hp, h⟩ := Option.bind_eq_some_iff.1 h
    simp only [Option.some.injEq, Prod.mk.injEq] at h
    obtain ⟨rfl, rfl, rfl⟩ := h
    have HN := aQ (show 0 ≤ a0_0 ∧ a0_0 ≤ 1000 by omega)
    have HCP := aQ hm
    have HP := Lib.hid hp
    clear c6 c0 hm hp
    go_enter Try.func44, Try.ntmps44
    go_wp2_with (first | ((with_reducible refine gate_dst (N := 1) rfl ?_); refine box_event ?hg (N := 1) ?hd (cs := #[(.int .i64 a0_0), (.slice A0_1 l0_1.length c0_1)]) (t := 26) ?hr ?_; (case hd => rfl); (case hg => rfl); (case hr => first | (go_simp; done) | (go_simp; rfl)); intro gm hg wa_ hbox hb; have GBM := aQ ((by rw [hg]; exact below_size (by repeat (first | (with_reducible first | exact HB.out | apply below_alloc | apply pw_below_drewN | apply below_drew1) | exact HB.out))) : w.heap.size ≤ gm); replace HB := aQ (below_step (by repeat (first | (with_reducible first | exact HB.out | apply below_alloc | apply pw_below_drewN | apply below_drew1) | exact HB.out)) hb); have BM := aQ hbox; clear hb hbox hg; have zBM0 : wa_.cell? ⟨gm, 0, none⟩ = some (.int .i64 a0_0) := (blk_cell BM.out 0).trans rfl; have zBM1 : wa_.cell? ⟨gm, 1, none⟩ = some (.slice A0_1 l0_1.length c0_1) := (blk_cell BM.out 1).trans rfl) | ((with_reducible refine gate_dst (N := 2) rfl ?_); refine box_event ?hg (N := 2) ?hd (cs := #[(.int .i64 0), (.slice none 0 0)]) (t := 26) ?hr ?_; (case hd => rfl); (case hg => rfl); (case hr => first | (go_simp; done) | (go_simp; rfl)); intro gr hg wb_ hbox hb; have NBMBR := aQ ((by rw [hg]; exact Nat.ne_of_lt (blk_lt (g := gm) (o := .cells #[(.int .i64 a0_0), (.slice A0_1 l0_1.length c0_1)] 26 (0, 0)) (by (with_reducible repeat (first | refine blk_drewN ?_ _ | refine blk_drew ?_ | refine blk_alloc ?_ _)); exact BM.out))) : gm ≠ gr); have GBR := aQ ((by rw [hg]; exact below_size (by repeat (first | (with_reducible first | exact HB.out | apply below_alloc | apply pw_below_drewN | apply below_drew1 | refine below_set ?_ GBM.out) | exact HB.out))) : w.heap.size ≤ gr); have n_BM := aQ (blk_below (g := gm) (o := .cells #[(.int .i64 a0_0), (.slice A0_1 l0_1.length c0_1)] 26 (0, 0)) (by (with_reducible repeat (first | refine blk_drewN ?_ _ | refine blk_drew ?_ | refine blk_alloc ?_ _)); exact BM.out) hb); have n_HB := aQ (below_step (by repeat (first | (with_reducible first | exact HB.out | apply below_alloc | apply pw_below_drewN | apply below_drew1 | refine below_set ?_ GBM.out) | exact HB.out)) hb); clear HB; clear BM; have BM := n_BM; clear n_BM; have HB := n_HB; clear n_HB; have BR := aQ hbox; clear hb hbox hg; have zBM0 : wb_.cell? ⟨gm, 0, none⟩ = some (.int .i64 a0_0) := (blk_cell BM.out 0).trans rfl; have zBM1 : wb_.cell? ⟨gm, 1, none⟩ = some (.slice A0_1 l0_1.length c0_1) := (blk_cell BM.out 1).trans rfl; have zBR0 : wb_.cell? ⟨gr, 0, none⟩ = some (.int .i64 0) := (blk_cell BR.out 0).trans rfl; have zBR1 : wb_.cell? ⟨gr, 1, none⟩ = some (.slice none 0 0) := (blk_cell BR.out 1).trans rfl; have hf0BR := blk_frozen BR.out 0; have hf1BR := blk_frozen BR.out 1) | (go_at_call 60; (with_reducible refine (impl_IsMatroid.calls k a0_0 _ _ l0_1 true _ ?side1 ?side2 HT.out).mono ?_); (case side1 => exact (Kd.C_below HR.out (by repeat (first | (with_reducible first | exact HB.out | apply below_alloc | apply pw_below_drewN | apply below_drew1 | refine below_set ?_ GBM.out | refine below_set ?_ GBR.out) | exact HB.out)))); (case side2 => exact HC.out); rintro e wc_ ⟨rfl, hb⟩; have n_BM := aQ (blk_below (g := gm) (o := .cells #[(.int .i64 a0_0), (.slice A0_1 l0_1.length c0_1)] 26 (0, 0)) (by (with_reducible repeat (first | refine blk_drewN ?_ _ | refine blk_drew ?_ | refine blk_alloc ?_ _)); exact BM.out) hb); have n_BR := aQ (blk_below (g := gr) (o := .cells #[(.int .i64 0), (.slice none 0 0)] 26 (0, 0)) (by (with_reducible repeat (first | refine blk_drewN ?_ _ | refine blk_drew ?_ | refine blk_alloc ?_ _)); exact BR.out) hb); have n_HB := aQ (below_step (by repeat (first | (with_reducible first | exact HB.out | apply below_alloc | apply pw_below_drewN | apply below_drew1 | refine below_set ?_ GBM.out | refine below_set ?_ GBR.out) | exact HB.out)) hb); clear HB; clear BM; have BM := n_BM; clear n_BM; clear BR; have BR := n_BR; clear n_BR; have HB := n_HB; clear n_HB; clear hb; have zBM0 : wc_.cell? ⟨gm, 0, none⟩ = some (.int .i64 a0_0) := (blk_cell BM.out 0).trans rfl; have zBM1 : wc_.cell? ⟨gm, 1, none⟩ = some (.slice A0_1 l0_1.length c0_1) := (blk_cell BM.out 1).trans rfl; have zBR0 : wc_.cell? ⟨gr, 0, none⟩ = some (.int .i64 0) := (blk_cell BR.out 0).trans rfl; have zBR1 : wc_.cell? ⟨gr, 1, none⟩ = some (.slice none 0 0) := (blk_cell BR.out 1).trans rfl; have hf0BR := blk_frozen BR.out 0; have hf1BR := blk_frozen BR.out 1) | (go_at_call 109; (with_reducible refine (impl_copyMatroid.calls a0_0 _ _ l0_1 m1 m2 _ ?side3 ?side4 HCP.out).mono ?_); (case side3 => exact (Kd.C_below HR.out (by repeat (first | (with_reducible first | exact HB.out | apply below_alloc | apply pw_below_drewN | apply below_drew1 | refine below_set ?_ GBM.out | refine below_set ?_ GBR.out) | exact HB.out)))); (case side4 => exact HC.out); rintro e wd_ ⟨v_, rfl, ho_, hb⟩; have m_HM := aQ (Kd.R_lower ho_ (below_size (by repeat (first | (with_reducible first | exact HB.out | apply below_alloc | apply pw_below_drewN | apply below_drew1 | refine below_set ?_ GBM.out | refine below_set ?_ GBR.out) | exact HB.out)))); have n_BM := aQ (blk_below (g := gm) (o := .cells #[(.int .i64 a0_0), (.slice A0_1 l0_1.length c0_1)] 26 (0, 0)) (by (with_reducible repeat (first | refine blk_drewN ?_ _ | refine blk_drew ?_ | refine blk_alloc ?_ _)); exact BM.out) hb); have n_BR := aQ (blk_below (g := gr) (o := .cells #[(.int .i64 0), (.slice none 0 0)] 26 (0, 0)) (by (with_reducible repeat (first | refine blk_drewN ?_ _ | refine blk_drew ?_ | refine blk_alloc ?_ _)); exact BR.out) hb); have n_HB := aQ (below_step (by repeat (first | (with_reducible first | exact HB.out | apply below_alloc | apply pw_below_drewN | apply below_drew1 | refine below_set ?_ GBM.out | refine below_set ?_ GBR.out) | exact HB.out)) hb); clear HB; clear BM; have BM := n_BM; clear n_BM; clear BR; have BR := n_BR; clear n_BR; have HB := n_HB; clear n_HB; have HM := m_HM; clear m_HM ho_; obtain ⟨AHM, cHM, eHM⟩ := Kd.R_slice HM.out; subst eHM; clear hb; have zBM0 : wd_.cell? ⟨gm, 0, none⟩ = some (.int .i64 a0_0) := (blk_cell BM.out 0).trans rfl; have zBM1 : wd_.cell? ⟨gm, 1, none⟩ = some (.slice A0_1 l0_1.length c0_1) := (blk_cell BM.out 1).trans rfl; have zBR0 : wd_.cell? ⟨gr, 0, none⟩ = some (.int .i64 0) := (blk_cell BR.out 0).trans rfl; have zBR1 : wd_.cell? ⟨gr, 1, none⟩ = some (.slice none 0 0) := (blk_cell BR.out 1).trans rfl) | ((with_reducible refine gate_dst (N := 4) rfl ?_); refine box_event ?hg (N := 4) ?hd (cs := #[(.int .i64 0), (.slice none 0 0)]) (t := 26) ?hr ?_; (case hd => rfl); (case hg => rfl); (case hr => first | (go_simp; done) | (go_simp; rfl)); intro gb hg we_ hbox hb; have NBMBB := aQ ((by rw [hg]; exact Nat.ne_of_lt (blk_lt (g := gm) (o := .cells #[(.int .i64 a0_0), (.slice A0_1 l0_1.length c0_1)] 26 (0, 0)) (by (with_reducible repeat (first | refine blk_drewN ?_ _ | refine blk_drew ?_ | refine blk_alloc ?_ _)); exact BM.out))) : gm ≠ gb); have NBRBB := aQ ((by rw [hg]; exact Nat.ne_of_lt (blk_lt (g := gr) (o := .cells #[(.int .i64 0), (.slice none 0 0)] 26 (0, 0)) (by (with_reducible repeat (first | refine blk_drewN ?_ _ | refine blk_drew ?_ | refine blk_alloc ?_ _)); exact BR.out))) : gr ≠ gb); have GBB := aQ ((by rw [hg]; exact below_size (by repeat (first | (with_reducible first | exact HB.out | apply below_alloc | apply pw_below_drewN | apply below_drew1 | refine below_set ?_ GBM.out | refine below_set ?_ GBR.out) | exact HB.out))) : w.heap.size ≤ gb); have n_BM := aQ (blk_below (g := gm) (o := .cells #[(.int .i64 a0_0), (.slice A0_1 l0_1.length c0_1)] 26 (0, 0)) (by (with_reducible repeat (first | refine blk_drewN ?_ _ | refine blk_drew ?_ | refine blk_alloc ?_ _)); exact BM.out) hb); have n_BR := aQ (blk_below (g := gr) (o := .cells #[(.int .i64 0), (.slice none 0 0)] 26 (0, 0)) (by (with_reducible repeat (first | refine blk_drewN ?_ _ | refine blk_drew ?_ | refine blk_alloc ?_ _)); exact BR.out) hb); have n_HM := aQ (Kd.R_below (by (with_reducible repeat (first | apply Kd.R_alloc | apply Kd.R_drewN | apply Kd.R_drew)); exact HM.out) hb); have n_HB := aQ (below_step (by repeat (first | (with_reducible first | exact HB.out | apply below_alloc | apply pw_below_drewN | apply below_drew1 | refine below_set ?_ GBM.out | refine below_set ?_ GBR.out) | exact HB.out)) hb); clear HB; clear BM; have BM := n_BM; clear n_BM; clear BR; have BR := n_BR; clear n_BR; clear HM; have HM := n_HM; clear n_HM; have HB := n_HB; clear n_HB; have BB := aQ hbox; clear hb hbox hg; have zBM0 : we_.cell? ⟨gm, 0, none⟩ = some (.int .i64 a0_0) := (blk_cell BM.out 0).trans rfl; have zBM1 : we_.cell? ⟨gm, 1, none⟩ = some (.slice A0_1 l0_1.length c0_1) := (blk_cell BM.out 1).trans rfl; have zBR0 : we_.cell? ⟨gr, 0, none⟩ = some (.int .i64 0) := (blk_cell BR.out 0).trans rfl; have zBR1 : we_.cell? ⟨gr, 1, none⟩ = some (.slice none 0 0) := (blk_cell BR.out 1).trans rfl; have zBB0 : we_.cell? ⟨gb, 0, none⟩ = some (.int .i64 0) := (blk_cell BB.out 0).trans rfl; have zBB1 : we_.cell? ⟨gb, 1, none⟩ = some (.slice none 0 0) := (blk_cell BB.out 1).trans rfl; have hf0BB := blk_frozen BB.out 0; have hf1BB := blk_frozen BB.out 1) | ((with_reducible refine gate_store (t := 26) (p := 4) rfl ?_); refine store_event (t := 26) (p := 4) (v := ?vo4_) (w1 := ((we_.setCell ⟨gb, 0, none⟩ (.int .i64 m1)).setCell ⟨gb, 1, none⟩ (.slice AHM m2.length cHM))) ?hg ?ho ?hn ?hr ?_; (case ho => rfl); (case hg => rfl); (case hn => rfl); (case hr => first | (go_simp; done) | (go_simp; rfl)); intro wf_ hw; have n_BB := aQ ((by rw [hw]; exact blk_put (cs := #[(.int .i64 m1), (.slice none 0 0)]) (blk_put BB.out 0 _ rfl) 1 _ rfl) : wf_.heap[gb]? = some (.cells #[(.int .i64 m1), (.slice AHM m2.length cHM)] 26 (0, 0))); have n_BM := aQ ((by rw [hw]; exact blk_far (p := ⟨gb, 1, none⟩) (blk_far (p := ⟨gb, 0, none⟩) BM.out NBMBB.out _) NBMBB.out _) : wf_.heap[gm]? = some (.cells #[(.int .i64 a0_0), (.slice A0_1 l0_1.length c0_1)] 26 (0, 0))); have n_BR := aQ ((by rw [hw]; exact blk_far (p := ⟨gb, 1, none⟩) (blk_far (p := ⟨gb, 0, none⟩) BR.out NBRBB.out _) NBRBB.out _) : wf_.heap[gr]? = some (.cells #[(.int .i64 0), (.slice none 0 0)] 26 (0, 0))); have n_HM : Aside0 (Kd.R (Kd.int .i64) 3 wf_ w.heap.size (fun _ => True) (.slice AHM m2.length cHM) m2) := ⟨by rw [hw]; exact Kd.R_mono (Kd.R_far (p := ⟨gb, 1, none⟩) (Kd.R_far (p := ⟨gb, 0, none⟩) (Kd.R_types HM.out BB.out (by decide)) (fun _ hk => hk.2) _) (fun _ hk => hk.2) _) (fun _ hk => trivial)⟩; have n_HB := aQ ((by rw [hw]; exact below_set (below_set HB.out GBB.out) GBB.out) : Below w.heap.size w wf_); clear BM; have BM := n_BM; clear n_BM; clear BR; have BR := n_BR; clear n_BR; clear BB; have BB := n_BB; clear n_BB; clear HM; have HM := n_HM; clear n_HM; have HB := n_HB; clear n_HB; clear hw; have zsBM0 : wf_.cell? ⟨gm, 0, none⟩ = some (.int .i64 a0_0) := (blk_cell BM.out 0).trans rfl; have zsBM1 : wf_.cell? ⟨gm, 1, none⟩ = some (.slice A0_1 l0_1.length c0_1) := (blk_cell BM.out 1).trans rfl; have zsBR0 : wf_.cell? ⟨gr, 0, none⟩ = some (.int .i64 0) := (blk_cell BR.out 0).trans rfl; have zsBR1 : wf_.cell? ⟨gr, 1, none⟩ = some (.slice none 0 0) := (blk_cell BR.out 1).trans rfl; have zsBB0 : wf_.cell? ⟨gb, 0, none⟩ = some (.int .i64 m1) := (blk_cell BB.out 0).trans rfl; have zsBB1 : wf_.cell? ⟨gb, 1, none⟩ = some (.slice AHM m2.length cHM) := (blk_cell BB.out 1).trans rfl) | (go_at_call 110; have hrn_ := renamings_walk k (impl_CanonOf.g k a0_0 l0_1) (canRel w gm gb a0_0 A0_1 c0_1 l0_1) (fun q => q = gb) 111 #[.pointer (some ⟨gm, 0, none⟩), .pointer (some ⟨gb, 0, none⟩)] a0_0 HN.out (fun st_ W_ W2_ h1_ h2_ => canRel_below w gm gb a0_0 A0_1 c0_1 l0_1 st_ W_ W2_ h1_ h2_) (fun st_ st2_ b_ W_ A_ c_ list_ hR_ hL_ hc_ h_ => Canon1_walk k a0_0 A0_1 c0_1 l0_1 gm gb w HR.out HC.out NBMBB.out GBB.out st_ st2_ b_ W_ A_ c_ list_ hR_ hL_ hc_ h_) EG.out 16 [] (m1, m2) (p1, p2) p3 none 0 wf_ (fun q hq => by rw [hq]; exact blk_lt BB.out) ⟨HB.out, BM.out, _, BB.out, HM.out⟩ (fun _ _ => Kd.C_nil _ _) (Nat.le_refl _) HP.out; refine (calls_of_args (by simp) hrn_).mono ?_; rintro e wg_ ⟨rfl, hr_, hb_, hk_⟩; obtain ⟨hB2_, hM2_, v2_, hG2_, hS2_⟩ := hr_; obtain ⟨AS, cS, eS⟩ := Kd.R_slice hS2_; subst eS; have n_BR := aQ (blk_kept BR.out hk_ NBRBB.out); clear BR BM BB HB HM hrn_; have BR := n_BR; have BB := aQ hG2_; have HS := aQ hS2_; have HB := aQ hB2_; clear n_BR hG2_ hS2_ hB2_ hM2_ hb_ hk_; have hne1 := NBRBB.out; have hne2 := Ne.symm NBRBB.out; have zeBR0 : wg_.cell? ⟨gr, 0, none⟩ = some (.int .i64 0) := (blk_cell BR.out 0).trans rfl; have zeBR1 : wg_.cell? ⟨gr, 1, none⟩ = some (.slice none 0 0) := (blk_cell BR.out 1).trans rfl; have zeBB0 : wg_.cell? ⟨gb, 0, none⟩ = some (.int .i64 p1) := (blk_cell BB.out 0).trans rfl; have zeBB1 : wg_.cell? ⟨gb, 1, none⟩ = some (.slice AS p2.length cS) := (blk_cell BB.out 1).trans rfl; have hf0BRe := blk_frozen BR.out 0; have hf1BRe := blk_frozen BR.out 1))
    refine bodyPost_ret (results_ct rfl _ _ gr 26 #[(.int .i64 p1), (.slice AS p2.length cS)] (0, 0) _ rfl (by (with_reducible repeat (first | refine blk_drewN ?_ _ | refine blk_drew ?_ | refine blk_alloc ?_ _)); refine blk_put (cs := #[(.int .i64 p1), (.slice none 0 0)]) ?_ 1 _ rfl; (with_reducible repeat (first | refine blk_drewN ?_ _ | refine blk_drew ?_ | refine blk_alloc ?_ _)); refine blk_put (cs := #[(.int .i64 0), (.slice none 0 0)]) ?_ 0 _ rfl; (with_reducible repeat (first | refine blk_drewN ?_ _ | refine blk_drew ?_ | refine blk_alloc ?_ _)); exact BR.out) Try.underlying26 rfl (by kernel_rfl)) rfl ?_
    exact ⟨_, by first | rfl | (simp; done) | (simp [*]; done), by (with_reducible repeat (first | apply Kd.R_alloc | apply Kd.R_drewN | apply Kd.R_drew)); exact Kd.R_mono (Kd.R_far (p := ⟨gr, 1, none⟩) (Kd.R_far (p := ⟨gr, 0, none⟩) (Kd.R_types HS.out BR.out (by decide)) (fun _ hk => hk.2) _) (fun _ hk => hk.2) _) (fun _ hk => trivial), (by repeat (first | (with_reducible first | exact HB.out | apply below_alloc | apply pw_below_drewN | apply below_drew1 | refine below_set ?_ GBR.out | refine below_set ?_ GBB.out) | exact HB.out))⟩
   ·rw [if_neg c0] at h; cases h
 ·have c4 := Bool.eq_false_iff.mpr c3
  subst c4
  clear c3
  rw [if_neg (by decide)] at h
  simp only [Option.some.injEq, Prod.mk.injEq] at h
  obtain ⟨rfl, rfl, rfl⟩ := h
  go_enter Try.func44, Try.ntmps44
  go_wp2_with (first | ((with_reducible refine gate_dst (N := 1) rfl ?_); refine box_event ?hg (N := 1) ?hd (cs := #[(.int .i64 a0_0), (.slice A0_1 l0_1.length c0_1)]) (t := 26) ?hr ?_; (case hd => rfl); (case hg => rfl); (case hr => first | (go_simp; done) | (go_simp; rfl)); intro gm hg wa_ hbox hb; have GBM := aQ ((by rw [hg]; exact below_size (by repeat (first | (with_reducible first | exact HB.out | apply below_alloc | apply pw_below_drewN | apply below_drew1) | exact HB.out))) : w.heap.size ≤ gm); replace HB := aQ (below_step (by repeat (first | (with_reducible first | exact HB.out | apply below_alloc | apply pw_below_drewN | apply below_drew1) | exact HB.out)) hb); have BM := aQ hbox; clear hb hbox hg; have zBM0 : wa_.cell? ⟨gm, 0, none⟩ = some (.int .i64 a0_0) := (blk_cell BM.out 0).trans rfl; have zBM1 : wa_.cell? ⟨gm, 1, none⟩ = some (.slice A0_1 l0_1.length c0_1) := (blk_cell BM.out 1).trans rfl) | ((with_reducible refine gate_dst (N := 2) rfl ?_); refine box_event ?hg (N := 2) ?hd (cs := #[(.int .i64 0), (.slice none 0 0)]) (t := 26) ?hr ?_; (case hd => rfl); (case hg => rfl); (case hr => first | (go_simp; done) | (go_simp; rfl)); intro gr hg wb_ hbox hb; have NBMBR := aQ ((by rw [hg]; exact Nat.ne_of_lt (blk_lt (g := gm) (o := .cells #[(.int .i64 a0_0), (.slice A0_1 l0_1.length c0_1)] 26 (0, 0)) (by (with_reducible repeat (first | refine blk_drewN ?_ _ | refine blk_drew ?_ | refine blk_alloc ?_ _)); exact BM.out))) : gm ≠ gr); have GBR := aQ ((by rw [hg]; exact below_size (by repeat (first | (with_reducible first | exact HB.out | apply below_alloc | apply pw_below_drewN | apply below_drew1 | refine below_set ?_ GBM.out) | exact HB.out))) : w.heap.size ≤ gr); have n_BM := aQ (blk_below (g := gm) (o := .cells #[(.int .i64 a0_0), (.slice A0_1 l0_1.length c0_1)] 26 (0, 0)) (by (with_reducible repeat (first | refine blk_drewN ?_ _ | refine blk_drew ?_ | refine blk_alloc ?_ _)); exact BM.out) hb); have n_HB := aQ (below_step (by repeat (first | (with_reducible first | exact HB.out | apply below_alloc | apply pw_below_drewN | apply below_drew1 | refine below_set ?_ GBM.out) | exact HB.out)) hb); clear HB; clear BM; have BM := n_BM; clear n_BM; have HB := n_HB; clear n_HB; have BR := aQ hbox; clear hb hbox hg; have zBM0 : wb_.cell? ⟨gm, 0, none⟩ = some (.int .i64 a0_0) := (blk_cell BM.out 0).trans rfl; have zBM1 : wb_.cell? ⟨gm, 1, none⟩ = some (.slice A0_1 l0_1.length c0_1) := (blk_cell BM.out 1).trans rfl; have zBR0 : wb_.cell? ⟨gr, 0, none⟩ = some (.int .i64 0) := (blk_cell BR.out 0).trans rfl; have zBR1 : wb_.cell? ⟨gr, 1, none⟩ = some (.slice none 0 0) := (blk_cell BR.out 1).trans rfl; have hf0BR := blk_frozen BR.out 0; have hf1BR := blk_frozen BR.out 1) | (go_at_call 60; (with_reducible refine (impl_IsMatroid.calls k a0_0 _ _ l0_1 false _ ?side1 ?side2 HT.out).mono ?_); (case side1 => exact (Kd.C_below HR.out (by repeat (first | (with_reducible first | exact HB.out | apply below_alloc | apply pw_below_drewN | apply below_drew1 | refine below_set ?_ GBM.out | refine below_set ?_ GBR.out) | exact HB.out)))); (case side2 => exact HC.out); rintro e wc_ ⟨rfl, hb⟩; have n_BM := aQ (blk_below (g := gm) (o := .cells #[(.int .i64 a0_0), (.slice A0_1 l0_1.length c0_1)] 26 (0, 0)) (by (with_reducible repeat (first | refine blk_drewN ?_ _ | refine blk_drew ?_ | refine blk_alloc ?_ _)); exact BM.out) hb); have n_BR := aQ (blk_below (g := gr) (o := .cells #[(.int .i64 0), (.slice none 0 0)] 26 (0, 0)) (by (with_reducible repeat (first | refine blk_drewN ?_ _ | refine blk_drew ?_ | refine blk_alloc ?_ _)); exact BR.out) hb); have n_HB := aQ (below_step (by repeat (first | (with_reducible first | exact HB.out | apply below_alloc | apply pw_below_drewN | apply below_drew1 | refine below_set ?_ GBM.out | refine below_set ?_ GBR.out) | exact HB.out)) hb); clear HB; clear BM; have BM := n_BM; clear n_BM; clear BR; have BR := n_BR; clear n_BR; have HB := n_HB; clear n_HB; clear hb; have zBM0 : wc_.cell? ⟨gm, 0, none⟩ = some (.int .i64 a0_0) := (blk_cell BM.out 0).trans rfl; have zBM1 : wc_.cell? ⟨gm, 1, none⟩ = some (.slice A0_1 l0_1.length c0_1) := (blk_cell BM.out 1).trans rfl; have zBR0 : wc_.cell? ⟨gr, 0, none⟩ = some (.int .i64 0) := (blk_cell BR.out 0).trans rfl; have zBR1 : wc_.cell? ⟨gr, 1, none⟩ = some (.slice none 0 0) := (blk_cell BR.out 1).trans rfl; have hf0BR := blk_frozen BR.out 0; have hf1BR := blk_frozen BR.out 1))
  refine bodyPost_ret (results_ct rfl _ _ gr 26 #[(.int .i64 0), (.slice none 0 0)] (0, 0) _ rfl (by (with_reducible repeat (first | refine blk_drewN ?_ _ | refine blk_drew ?_ | refine blk_alloc ?_ _)); refine blk_put (cs := #[(.int .i64 0), (.slice none 0 0)]) ?_ 1 _ rfl; (with_reducible repeat (first | refine blk_drewN ?_ _ | refine blk_drew ?_ | refine blk_alloc ?_ _)); refine blk_put (cs := #[(.int .i64 0), (.slice none 0 0)]) ?_ 0 _ rfl; (with_reducible repeat (first | refine blk_drewN ?_ _ | refine blk_drew ?_ | refine blk_alloc ?_ _)); exact BR.out) Try.underlying26 rfl (by kernel_rfl)) rfl ?_
  exact ⟨_, by first | rfl | (simp; done) | (simp [*]; done), Kd.R_nil _ _ _ _ _, (by repeat (first | (with_reducible first | exact HB.out | apply below_alloc | apply pw_below_drewN | apply below_drew1 | refine below_set ?_ GBM.out | refine below_set ?_ GBR.out) | exact HB.out))⟩
end Go.Proofs.Ytagncnjllpebjaa.A
