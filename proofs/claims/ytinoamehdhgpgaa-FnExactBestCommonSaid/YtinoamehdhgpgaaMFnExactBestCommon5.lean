/- The machine side of the law FnExactBestCommon, laid by a program of this work over the kit's print and contracts by hand: Go functions as Lean functions, and proofs that calls come to what these tell. Conditions: those in each theorem. -/
import Derived.Test.YtinoamehdhgpgaaMFnExactBestCommon0
import Derived.Test.YtinoamehdhgpgaaMFnExactBestCommon1
import Derived.Test.YtinoamehdhgpgaaMFnExactBestCommon2
import Derived.Test.YtinoamehdhgpgaaMFnExactBestCommon4
namespace Go.Proofs.Ytinoamehdhgpgaa.A
open Go.RowKit Go.Proofs.YtinoamehdhgpgaaW.PrintWords Go.Proofs.YtinoamehdhgpgaaW.PrintLast Go.Proofs.YtinoamehdhgpgaaW.PrintMore
attribute [local go_sem] max2_int min2_int max_two min_two max_three min_three max_four min_four   -- for this text's walks alone
set_option linter.unusedVariables false
set_option linter.unusedSimpArgs false


/-! ### laws_FnExactBestCommon: function 11 -/
def laws_FnExactBestCommon.j0 : Nat → List Int → List Int → Bool → Int → List Int → Int → List Int → Int → List Int → Int → List Int → Option (Bool)
  | 0, _, _, _, _, _, _, _, _, _, _, _ => none
  | k + 1, x2, x14, x62, x12002000, x12002001, x12003000, x12003001, x12023000, x12023001, x12028000, x12028001 => if x62 = true then (some false) else ((laws_toMatroid.f k x12002000 x12002001).bind fun bt12033 => ((laws_eqMatroid.f k x12023000 x12023001 bt12033.1 bt12033.2).bind fun t12037 => (if t12037 = true then ((laws_toMatroid.f k x12003000 x12003001).bind fun bt12038 => ((laws_eqMatroid.f k x12028000 x12028001 bt12038.1 bt12038.2).bind fun t12042 => (if t12042 = true then ((laws_toIntS.f k x2).bind fun t12043 => ((laws_eqIntS.f k x14 t12043).bind fun t12046 => (if t12046 = true then (some true) else (some false)))) else (some false)))) else (some false))))
def laws_FnExactBestCommon.f (k : Nat) (a0_0 : Int) (l0_1 : List Int) (a1_0 : Int) (l1_1 : List Int) (l2 : List Int) (a3 : Int) : Option (Bool) := if (l2.length : Int) > 1048576 then (some true) else ((laws_szMatroid.f a0_0 l0_1 1048576).bind fun t12003 => (if t12003 < 0 then (some true) else ((laws_szMatroid.f a1_0 l1_1 t12003).bind fun t12004 => (if t12004 < 0 then (some true) else ((laws_toMatroid.f k a0_0 l0_1).bind fun bt12005 => ((laws_toMatroid.f k a1_0 l1_1).bind fun bt12009 => ((laws_toIntS.f k l2).bind fun t12013 => ((spec_BestCommon.f k bt12005.1 bt12005.2 bt12009.1 bt12009.2 t12013 a3).bind fun bt12016 => ((laws_toMatroid.f k a0_0 l0_1).bind fun bt12018 => ((laws_toMatroid.f k a1_0 l1_1).bind fun bt12023 => ((laws_toIntS.f k l2).bind fun t12028 => ((impl_BestCommon.f k bt12018.1 bt12018.2 bt12023.1 bt12023.2 t12028 a3).bind fun bt12031 => (if bt12031.1 = bt12016.1 then (laws_FnExactBestCommon.j0 k l2 t12028 (bt12031.2 != bt12016.2) a0_0 l0_1 a1_0 l1_1 bt12018.1 bt12018.2 bt12023.1 bt12023.2) else (laws_FnExactBestCommon.j0 k l2 t12028 true a0_0 l0_1 a1_0 l1_1 bt12018.1 bt12018.2 bt12023.1 bt12023.2))))))))))))))
theorem laws_FnExactBestCommon.mono_l : ∀ k, (∀ y0 y1 y2 y3 y4 y5 y6 y7 y8 y9 y10, LeO (laws_FnExactBestCommon.j0 k y0 y1 y2 y3 y4 y5 y6 y7 y8 y9 y10) (laws_FnExactBestCommon.j0 (k + 1) y0 y1 y2 y3 y4 y5 y6 y7 y8 y9 y10))
  | 0 => fun _ _ _ _ _ _ _ _ _ _ _ r h => by simp [laws_FnExactBestCommon.j0] at h
  | k + 1 => by
    have ih0 := laws_FnExactBestCommon.mono_l k
    · intro y0 y1 y2 y3 y4 y5 y6 y7 y8 y9 y10
      unfold laws_FnExactBestCommon.j0
      repeat' first
      | (with_reducible exact ih0 _ _ _ _ _ _ _ _ _ _ _)
      | (with_reducible exact impl_BestCommon.mono _ _ _ _ _ _ _)
      | (with_reducible exact laws_eqIntS.mono _ _ _)
      | (with_reducible exact laws_eqMatroid.mono _ _ _ _ _)
      | (with_reducible exact laws_toIntS.mono _ _)
      | (with_reducible exact laws_toMatroid.mono _ _ _)
      | (with_reducible exact spec_BestCommon.mono _ _ _ _ _ _ _)
      | (with_reducible exact LeO.refl _)
      | (with_reducible exact LeO.none _)
      | (with_reducible refine LeO.ite ?_ ?_)
      | (with_reducible refine LeO.bind ?_ (fun _ => ?_))
      | exact ih0 _ _ _ _ _ _ _ _ _ _ _
      | exact impl_BestCommon.mono _ _ _ _ _ _ _
      | exact laws_eqIntS.mono _ _ _
      | exact laws_eqMatroid.mono _ _ _ _ _
      | exact laws_toIntS.mono _ _
      | exact laws_toMatroid.mono _ _ _
      | exact spec_BestCommon.mono _ _ _ _ _ _ _
      | exact LeO.none _
      | refine LeO.ite ?_ ?_
      | refine LeO.bind ?_ (fun _ => ?_)
theorem laws_FnExactBestCommon.mono : ∀ a0 a1 a2 a3 a4 a5 k, LeO (laws_FnExactBestCommon.f k a0 a1 a2 a3 a4 a5) (laws_FnExactBestCommon.f (k + 1) a0 a1 a2 a3 a4 a5) := by
  intro a0 a1 a2 a3 a4 a5 k
  have ih0 := laws_FnExactBestCommon.mono_l k
  unfold laws_FnExactBestCommon.f
  repeat' first
      | (with_reducible exact ih0 _ _ _ _ _ _ _ _ _ _ _)
      | (with_reducible exact impl_BestCommon.mono _ _ _ _ _ _ _)
      | (with_reducible exact laws_eqIntS.mono _ _ _)
      | (with_reducible exact laws_eqMatroid.mono _ _ _ _ _)
      | (with_reducible exact laws_toIntS.mono _ _)
      | (with_reducible exact laws_toMatroid.mono _ _ _)
      | (with_reducible exact spec_BestCommon.mono _ _ _ _ _ _ _)
      | (with_reducible exact LeO.refl _)
      | (with_reducible exact LeO.none _)
      | (with_reducible refine LeO.ite ?_ ?_)
      | (with_reducible refine LeO.bind ?_ (fun _ => ?_))
      | exact ih0 _ _ _ _ _ _ _ _ _ _ _
      | exact impl_BestCommon.mono _ _ _ _ _ _ _
      | exact laws_eqIntS.mono _ _ _
      | exact laws_eqMatroid.mono _ _ _ _ _
      | exact laws_toIntS.mono _ _
      | exact laws_toMatroid.mono _ _ _
      | exact spec_BestCommon.mono _ _ _ _ _ _ _
      | exact LeO.none _
      | refine LeO.ite ?_ ?_
      | refine LeO.bind ?_ (fun _ => ?_)
def laws_FnExactBestCommon.T10 : Bool × List (List Nat × List Nat) := (true, [([], []), ([0], [0]), ([], []), ([2, 1], [2]), ([], []), ([4, 3], [4]), ([], []), ([1, 3, 5, 6, 5], [1, 3, 5, 6]), ([7], [7]), ([8], [8]), ([8], [8]), ([9, 7, 0, 1, 2, 3, 4, 5, 6, 7, 8, 9], [9]), ([10, 11, 0, 1, 2, 3, 4, 5, 6, 7, 8, 9, 10, 11], [10])])
def laws_FnExactBestCommon.B10 : List Nat := [0, 1, 0, 7, 0, 31, 0, 127, 255, 511, 511, 1023, 4095]
theorem laws_FnExactBestCommon.tab10 : rtab .any (opsOf Try.f11 10) = laws_FnExactBestCommon.T10 := by kernel_rfl
theorem laws_FnExactBestCommon.bits10 : waitsOk laws_FnExactBestCommon.T10.2 laws_FnExactBestCommon.B10 = true := by kernel_rfl
set_option maxHeartbeats 8000000 in
set_option maxRecDepth 100000 in
theorem laws_FnExactBestCommon.calls (k : Nat) (a0_0 : Int) (A0_1 : Option Addr) (c0_1 : Nat) (l0_1 : List Int) (a1_0 : Int) (A1_1 : Option Addr) (c1_1 : Nat) (l1_1 : List Int) (A2 : Option Addr) (c2 : Nat) (l2 : List Int) (a3 : Int) (w : World) (hr0_1 : Kd.C (Kd.int .i64) w A0_1 l0_1.length l0_1) (hc0_1 : l0_1.length ≤ c0_1) (hr1_1 : Kd.C (Kd.int .i64) w A1_1 l1_1.length l1_1) (hc1_1 : l1_1.length ≤ c1_1) (hr2 : Kd.C (Kd.int .i64) w A2 l2.length l2) (hc2 : l2.length ≤ c2) (h : laws_FnExactBestCommon.f k a0_0 l0_1 a1_0 l1_1 l2 a3 = some true) :
    Calls Try.prog 11 #[.agg #[.int .i64 a0_0, .slice A0_1 l0_1.length c0_1], .agg #[.int .i64 a1_0, .slice A1_1 l1_1.length c1_1], .slice A2 l2.length c2, .int .i64 a3] w fun e w' => e = .returned (.bool true) ∧ Below w.heap.size w w' := by
  have hu24 := Try.underlying24
  have hu28 := Try.underlying28
  have HR0_1 := Aside0.mk hr0_1
  have HC0_1 := Aside0.mk hc0_1
  clear hr0_1 hc0_1
  have HR1_1 := Aside0.mk hr1_1
  have HC1_1 := Aside0.mk hc1_1
  clear hr1_1 hc1_1
  have HR2 := Aside0.mk hr2
  have HC2 := Aside0.mk hc2
  clear hr2 hc2
  have HB := Aside0.mk (Below.refl w.heap.size w)
  have H : (if (l2.length : Int) > 1048576 then (some true) else ((laws_szMatroid.f a0_0 l0_1 1048576).bind fun t12003 => (if t12003 < 0 then (some true) else ((laws_szMatroid.f a1_0 l1_1 t12003).bind fun t12004 => (if t12004 < 0 then (some true) else ((laws_toMatroid.f k a0_0 l0_1).bind fun bt12005 => ((laws_toMatroid.f k a1_0 l1_1).bind fun bt12009 => ((laws_toIntS.f k l2).bind fun t12013 => ((spec_BestCommon.f k bt12005.1 bt12005.2 bt12009.1 bt12009.2 t12013 a3).bind fun bt12016 => ((laws_toMatroid.f k a0_0 l0_1).bind fun bt12018 => ((laws_toMatroid.f k a1_0 l1_1).bind fun bt12023 => ((laws_toIntS.f k l2).bind fun t12028 => ((impl_BestCommon.f k bt12018.1 bt12018.2 bt12023.1 bt12023.2 t12028 a3).bind fun bt12031 => (if bt12031.1 = bt12016.1 then (laws_FnExactBestCommon.j0 k l2 t12028 (bt12031.2 != bt12016.2) a0_0 l0_1 a1_0 l1_1 bt12018.1 bt12018.2 bt12023.1 bt12023.2) else (laws_FnExactBestCommon.j0 k l2 t12028 true a0_0 l0_1 a1_0 l1_1 bt12018.1 bt12018.2 bt12023.1 bt12023.2))))))))))))))) = some true := h
  clear h
  by_cases c5 : (l2.length : Int) > 1048576
  · rw [if_pos c5] at H
    have c5b0 : decide (1048576 < (l2.length : Int)) = true := decide_eq_true c5
    have c5b1 : decide (1048576 < l2.length) = true := decide_eq_true (by omega)
    clear c5
    clear H
    go_enter Try.func11, Try.ntmps11
    go_wp2_with (first | ((with_reducible refine gate_dst (N := 4) rfl ?_); refine box_event ?hg (N := 4) ?hd (cs := #[.int .i64 a0_0, .slice A0_1 l0_1.length c0_1]) (t := 24) ?hr ?_; (case hd => rfl); (case hg => rfl); (case hr => first | (go_simp; done) | (go_simp; rfl)); intro gb12001 hg w6 hbox hb; have n0_ := Aside0.mk (below_step (by repeat (first | (with_reducible first | exact HB.out | apply below_alloc | apply pw_below_drewN | apply below_drew1) | exact HB.out)) hb); have n1_ := Aside0.mk (hbox); have n2_ := Aside0.mk ((by rw [hg]; exact (below_size (by repeat (first | (with_reducible first | exact HB.out | apply below_alloc | apply pw_below_drewN | apply below_drew1) | exact HB.out))) : w.heap.size ≤ gb12001)); have n3_ := Aside0.mk ((by rw [hg]; exact (below_size (by repeat (first | (with_reducible first | exact HB.out | apply below_alloc | apply pw_below_drewN | apply below_drew1) | exact HB.out))) : w.heap.size ≤ gb12001)); clear HB; have HB := n0_; have BK12001 := n1_; have GW12001 := n2_; have GE12001 := n3_; clear n0_ n1_ n2_ n3_; clear hb hbox hg) | ((with_reducible refine gate_dst (N := 5) rfl ?_); refine box_event ?hg (N := 5) ?hd (cs := #[.int .i64 a1_0, .slice A1_1 l1_1.length c1_1]) (t := 24) ?hr ?_; (case hd => rfl); (case hg => rfl); (case hr => first | (go_simp; done) | (go_simp; rfl)); intro gb12002 hg w7 hbox hb; have n0_ := Aside0.mk (blk_below (g := gb12001) (o := .cells #[.int .i64 a0_0, .slice A0_1 l0_1.length c0_1] 24 (0, 0)) (by (with_reducible repeat (first | refine blk_drewN ?_ _ | refine blk_drew ?_ | refine blk_alloc ?_ _)); exact BK12001.out) hb); have n1_ := Aside0.mk (below_step (by repeat (first | (with_reducible first | exact HB.out | apply below_alloc | apply pw_below_drewN | apply below_drew1 | refine below_set ?_ GE12001.out) | exact HB.out)) hb); have n2_ := Aside0.mk (hbox); have n3_ := Aside0.mk ((by rw [hg]; exact (below_size (by repeat (first | (with_reducible first | exact HB.out | apply below_alloc | apply pw_below_drewN | apply below_drew1 | refine below_set ?_ GE12001.out) | exact HB.out))) : w.heap.size ≤ gb12002)); have n4_ := Aside0.mk ((by rw [hg]; exact (below_size (by repeat (first | (with_reducible first | exact HB.out | apply below_alloc | apply pw_below_drewN | apply below_drew1 | refine below_set ?_ GE12001.out) | exact HB.out))) : w.heap.size ≤ gb12002)); have n5_ := Aside0.mk ((by rw [hg]; exact Nat.ne_of_lt (blk_lt (g := gb12001) (o := .cells #[.int .i64 a0_0, .slice A0_1 l0_1.length c0_1] 24 (0, 0)) (by (with_reducible repeat (first | refine blk_drewN ?_ _ | refine blk_drew ?_ | refine blk_alloc ?_ _)); exact BK12001.out)) : gb12001 ≠ gb12002)); have n6_ := Aside0.mk ((by rw [hg]; exact Nat.ne_of_gt (blk_lt (g := gb12001) (o := .cells #[.int .i64 a0_0, .slice A0_1 l0_1.length c0_1] 24 (0, 0)) (by (with_reducible repeat (first | refine blk_drewN ?_ _ | refine blk_drew ?_ | refine blk_alloc ?_ _)); exact BK12001.out)) : gb12002 ≠ gb12001)); clear BK12001; clear HB; have BK12001 := n0_; have HB := n1_; have BK12002 := n2_; have GW12002 := n3_; have GE12002 := n4_; have NB12001_12002 := n5_; have NB12002_12001 := n6_; clear n0_ n1_ n2_ n3_ n4_ n5_ n6_; clear hb hbox hg))
    go_ret
    exact ⟨by first | rfl | (simp [errW_none, errW_some] <;> rfl) | (simp [*, errW_none, errW_some] <;> rfl), by repeat (first | (with_reducible first | exact HB.out | apply below_alloc | apply pw_below_drewN | apply below_drew1 | refine below_set ?_ GE12001.out | refine below_set ?_ GE12002.out) | exact HB.out)⟩
  · rw [if_neg c5] at H
    have c5b0 : decide (1048576 < (l2.length : Int)) = false := decide_eq_false c5
    have c5b1 : decide (1048576 < l2.length) = false := decide_eq_false (by omega)
    clear c5
    replace H := Option.bind_eq_some_iff.mp H
    obtain ⟨t12003, A80, H⟩ := H
    replace H : (if t12003 < 0 then (some true) else ((laws_szMatroid.f a1_0 l1_1 t12003).bind fun t12004 => (if t12004 < 0 then (some true) else ((laws_toMatroid.f k a0_0 l0_1).bind fun bt12005 => ((laws_toMatroid.f k a1_0 l1_1).bind fun bt12009 => ((laws_toIntS.f k l2).bind fun t12013 => ((spec_BestCommon.f k bt12005.1 bt12005.2 bt12009.1 bt12009.2 t12013 a3).bind fun bt12016 => ((laws_toMatroid.f k a0_0 l0_1).bind fun bt12018 => ((laws_toMatroid.f k a1_0 l1_1).bind fun bt12023 => ((laws_toIntS.f k l2).bind fun t12028 => ((impl_BestCommon.f k bt12018.1 bt12018.2 bt12023.1 bt12023.2 t12028 a3).bind fun bt12031 => (if bt12031.1 = bt12016.1 then (laws_FnExactBestCommon.j0 k l2 t12028 (bt12031.2 != bt12016.2) a0_0 l0_1 a1_0 l1_1 bt12018.1 bt12018.2 bt12023.1 bt12023.2) else (laws_FnExactBestCommon.j0 k l2 t12028 true a0_0 l0_1 a1_0 l1_1 bt12018.1 bt12018.2 bt12023.1 bt12023.2))))))))))))) = some true := H
    have A8 := Aside0.mk A80
    clear A80
    by_cases c9 : t12003 < 0
    · rw [if_pos c9] at H
      have c9b0 : decide (t12003 < 0) = true := decide_eq_true c9
      clear c9
      clear H
      go_enter Try.func11, Try.ntmps11
      go_wp2_with (first | ((with_reducible refine gate_dst (N := 4) rfl ?_); refine box_event ?hg (N := 4) ?hd (cs := #[.int .i64 a0_0, .slice A0_1 l0_1.length c0_1]) (t := 24) ?hr ?_; (case hd => rfl); (case hg => rfl); (case hr => first | (go_simp; done) | (go_simp; rfl)); intro gb12001 hg w10 hbox hb; have n0_ := Aside0.mk (below_step (by repeat (first | (with_reducible first | exact HB.out | apply below_alloc | apply pw_below_drewN | apply below_drew1) | exact HB.out)) hb); have n1_ := Aside0.mk (hbox); have n2_ := Aside0.mk ((by rw [hg]; exact (below_size (by repeat (first | (with_reducible first | exact HB.out | apply below_alloc | apply pw_below_drewN | apply below_drew1) | exact HB.out))) : w.heap.size ≤ gb12001)); have n3_ := Aside0.mk ((by rw [hg]; exact (below_size (by repeat (first | (with_reducible first | exact HB.out | apply below_alloc | apply pw_below_drewN | apply below_drew1) | exact HB.out))) : w.heap.size ≤ gb12001)); clear HB; have HB := n0_; have BK12001 := n1_; have GW12001 := n2_; have GE12001 := n3_; clear n0_ n1_ n2_ n3_; clear hb hbox hg) | ((with_reducible refine gate_dst (N := 5) rfl ?_); refine box_event ?hg (N := 5) ?hd (cs := #[.int .i64 a1_0, .slice A1_1 l1_1.length c1_1]) (t := 24) ?hr ?_; (case hd => rfl); (case hg => rfl); (case hr => first | (go_simp; done) | (go_simp; rfl)); intro gb12002 hg w11 hbox hb; have n0_ := Aside0.mk (blk_below (g := gb12001) (o := .cells #[.int .i64 a0_0, .slice A0_1 l0_1.length c0_1] 24 (0, 0)) (by (with_reducible repeat (first | refine blk_drewN ?_ _ | refine blk_drew ?_ | refine blk_alloc ?_ _)); exact BK12001.out) hb); have n1_ := Aside0.mk (below_step (by repeat (first | (with_reducible first | exact HB.out | apply below_alloc | apply pw_below_drewN | apply below_drew1 | refine below_set ?_ GE12001.out) | exact HB.out)) hb); have n2_ := Aside0.mk (hbox); have n3_ := Aside0.mk ((by rw [hg]; exact (below_size (by repeat (first | (with_reducible first | exact HB.out | apply below_alloc | apply pw_below_drewN | apply below_drew1 | refine below_set ?_ GE12001.out) | exact HB.out))) : w.heap.size ≤ gb12002)); have n4_ := Aside0.mk ((by rw [hg]; exact (below_size (by repeat (first | (with_reducible first | exact HB.out | apply below_alloc | apply pw_below_drewN | apply below_drew1 | refine below_set ?_ GE12001.out) | exact HB.out))) : w.heap.size ≤ gb12002)); have n5_ := Aside0.mk ((by rw [hg]; exact Nat.ne_of_lt (blk_lt (g := gb12001) (o := .cells #[.int .i64 a0_0, .slice A0_1 l0_1.length c0_1] 24 (0, 0)) (by (with_reducible repeat (first | refine blk_drewN ?_ _ | refine blk_drew ?_ | refine blk_alloc ?_ _)); exact BK12001.out)) : gb12001 ≠ gb12002)); have n6_ := Aside0.mk ((by rw [hg]; exact Nat.ne_of_gt (blk_lt (g := gb12001) (o := .cells #[.int .i64 a0_0, .slice A0_1 l0_1.length c0_1] 24 (0, 0)) (by (with_reducible repeat (first | refine blk_drewN ?_ _ | refine blk_drew ?_ | refine blk_alloc ?_ _)); exact BK12001.out)) : gb12002 ≠ gb12001)); clear BK12001; clear HB; have BK12001 := n0_; have HB := n1_; have BK12002 := n2_; have GW12002 := n3_; have GE12002 := n4_; have NB12001_12002 := n5_; have NB12002_12001 := n6_; clear n0_ n1_ n2_ n3_ n4_ n5_ n6_; clear hb hbox hg; have hnb12 := NB12001_12002.out; have hnc12 := NB12002_12001.out; have hcz13_0 : w11.cell? ⟨gb12001, 0, none⟩ = some (.int .i64 a0_0) := (blk_cell BK12001.out 0).trans rfl; have hcz13_1 : w11.cell? ⟨gb12001, 1, none⟩ = some (.slice A0_1 l0_1.length c0_1) := (blk_cell BK12001.out 1).trans rfl; have hfz13_0 := blk_frozen BK12001.out 0; have hfz13_1 := blk_frozen BK12001.out 1) | ((with_reducible refine gate_callee (f := 33) rfl ?_); refine goesL_ (some 22) rfl rfl Try.func33 (by kernel_rfl) rfl #[.agg #[.int .i64 a0_0, .slice A0_1 l0_1.length c0_1], .int .i64 1048576] rfl (by (try simp only [List.map_toArray, List.map_cons, List.map_nil]); first | done | rfl | (simp only [List.length_drop, List.length_take]; rfl)) ?_; (with_reducible refine (laws_szMatroid.calls a0_0 _ _ l0_1 1048576 t12003 _ ?side1 ?side2 A8.out).mono ?_); (case side1 => repeat (first | exact (Kd.C_below HR0_1.out HB.out) | (with_reducible refine Kd.C_alloc ?_ _) | (with_reducible refine Kd.C_drewN ?_ _) | (with_reducible refine Kd.C_drew ?_))); (case side2 => exact HC0_1.out); rintro e w14 ⟨rfl, hb⟩; refine ⟨_, rfl, ?_⟩; have n0_ := Aside0.mk (blk_below (g := gb12001) (o := .cells #[.int .i64 a0_0, .slice A0_1 l0_1.length c0_1] 24 (0, 0)) (by (with_reducible repeat (first | refine blk_drewN ?_ _ | refine blk_drew ?_ | refine blk_alloc ?_ _)); exact BK12001.out) hb); have n1_ := Aside0.mk (blk_below (g := gb12002) (o := .cells #[.int .i64 a1_0, .slice A1_1 l1_1.length c1_1] 24 (0, 0)) (by (with_reducible repeat (first | refine blk_drewN ?_ _ | refine blk_drew ?_ | refine blk_alloc ?_ _)); exact BK12002.out) hb); have n2_ := Aside0.mk (below_step (by repeat (first | (with_reducible first | exact HB.out | apply below_alloc | apply pw_below_drewN | apply below_drew1 | refine below_set ?_ GE12001.out | refine below_set ?_ GE12002.out) | exact HB.out)) hb); clear BK12001; clear BK12002; clear HB; have BK12001 := n0_; have BK12002 := n1_; have HB := n2_; clear n0_ n1_ n2_; (try clear hb); (try clear hb2); (try clear hk); (try clear hi)))
      go_ret
      exact ⟨by first | rfl | (simp [errW_none, errW_some] <;> rfl) | (simp [*, errW_none, errW_some] <;> rfl), by repeat (first | (with_reducible first | exact HB.out | apply below_alloc | apply pw_below_drewN | apply below_drew1 | refine below_set ?_ GE12001.out | refine below_set ?_ GE12002.out) | exact HB.out)⟩
    · rw [if_neg c9] at H
      have c9b0 : decide (t12003 < 0) = false := decide_eq_false c9
      clear c9
      replace H := Option.bind_eq_some_iff.mp H
      obtain ⟨t12004, A150, H⟩ := H
      replace H : (if t12004 < 0 then (some true) else ((laws_toMatroid.f k a0_0 l0_1).bind fun bt12005 => ((laws_toMatroid.f k a1_0 l1_1).bind fun bt12009 => ((laws_toIntS.f k l2).bind fun t12013 => ((spec_BestCommon.f k bt12005.1 bt12005.2 bt12009.1 bt12009.2 t12013 a3).bind fun bt12016 => ((laws_toMatroid.f k a0_0 l0_1).bind fun bt12018 => ((laws_toMatroid.f k a1_0 l1_1).bind fun bt12023 => ((laws_toIntS.f k l2).bind fun t12028 => ((impl_BestCommon.f k bt12018.1 bt12018.2 bt12023.1 bt12023.2 t12028 a3).bind fun bt12031 => (if bt12031.1 = bt12016.1 then (laws_FnExactBestCommon.j0 k l2 t12028 (bt12031.2 != bt12016.2) a0_0 l0_1 a1_0 l1_1 bt12018.1 bt12018.2 bt12023.1 bt12023.2) else (laws_FnExactBestCommon.j0 k l2 t12028 true a0_0 l0_1 a1_0 l1_1 bt12018.1 bt12018.2 bt12023.1 bt12023.2))))))))))) = some true := H
      have A15 := Aside0.mk A150
      clear A150
      by_cases c16 : t12004 < 0
      · rw [if_pos c16] at H
        have c16b0 : decide (t12004 < 0) = true := decide_eq_true c16
        clear c16
        clear H
        go_enter Try.func11, Try.ntmps11
        go_wp2_with (first | ((with_reducible refine gate_dst (N := 4) rfl ?_); refine box_event ?hg (N := 4) ?hd (cs := #[.int .i64 a0_0, .slice A0_1 l0_1.length c0_1]) (t := 24) ?hr ?_; (case hd => rfl); (case hg => rfl); (case hr => first | (go_simp; done) | (go_simp; rfl)); intro gb12001 hg w17 hbox hb; have n0_ := Aside0.mk (below_step (by repeat (first | (with_reducible first | exact HB.out | apply below_alloc | apply pw_below_drewN | apply below_drew1) | exact HB.out)) hb); have n1_ := Aside0.mk (hbox); have n2_ := Aside0.mk ((by rw [hg]; exact (below_size (by repeat (first | (with_reducible first | exact HB.out | apply below_alloc | apply pw_below_drewN | apply below_drew1) | exact HB.out))) : w.heap.size ≤ gb12001)); have n3_ := Aside0.mk ((by rw [hg]; exact (below_size (by repeat (first | (with_reducible first | exact HB.out | apply below_alloc | apply pw_below_drewN | apply below_drew1) | exact HB.out))) : w.heap.size ≤ gb12001)); clear HB; have HB := n0_; have BK12001 := n1_; have GW12001 := n2_; have GE12001 := n3_; clear n0_ n1_ n2_ n3_; clear hb hbox hg) | ((with_reducible refine gate_dst (N := 5) rfl ?_); refine box_event ?hg (N := 5) ?hd (cs := #[.int .i64 a1_0, .slice A1_1 l1_1.length c1_1]) (t := 24) ?hr ?_; (case hd => rfl); (case hg => rfl); (case hr => first | (go_simp; done) | (go_simp; rfl)); intro gb12002 hg w18 hbox hb; have n0_ := Aside0.mk (blk_below (g := gb12001) (o := .cells #[.int .i64 a0_0, .slice A0_1 l0_1.length c0_1] 24 (0, 0)) (by (with_reducible repeat (first | refine blk_drewN ?_ _ | refine blk_drew ?_ | refine blk_alloc ?_ _)); exact BK12001.out) hb); have n1_ := Aside0.mk (below_step (by repeat (first | (with_reducible first | exact HB.out | apply below_alloc | apply pw_below_drewN | apply below_drew1 | refine below_set ?_ GE12001.out) | exact HB.out)) hb); have n2_ := Aside0.mk (hbox); have n3_ := Aside0.mk ((by rw [hg]; exact (below_size (by repeat (first | (with_reducible first | exact HB.out | apply below_alloc | apply pw_below_drewN | apply below_drew1 | refine below_set ?_ GE12001.out) | exact HB.out))) : w.heap.size ≤ gb12002)); have n4_ := Aside0.mk ((by rw [hg]; exact (below_size (by repeat (first | (with_reducible first | exact HB.out | apply below_alloc | apply pw_below_drewN | apply below_drew1 | refine below_set ?_ GE12001.out) | exact HB.out))) : w.heap.size ≤ gb12002)); have n5_ := Aside0.mk ((by rw [hg]; exact Nat.ne_of_lt (blk_lt (g := gb12001) (o := .cells #[.int .i64 a0_0, .slice A0_1 l0_1.length c0_1] 24 (0, 0)) (by (with_reducible repeat (first | refine blk_drewN ?_ _ | refine blk_drew ?_ | refine blk_alloc ?_ _)); exact BK12001.out)) : gb12001 ≠ gb12002)); have n6_ := Aside0.mk ((by rw [hg]; exact Nat.ne_of_gt (blk_lt (g := gb12001) (o := .cells #[.int .i64 a0_0, .slice A0_1 l0_1.length c0_1] 24 (0, 0)) (by (with_reducible repeat (first | refine blk_drewN ?_ _ | refine blk_drew ?_ | refine blk_alloc ?_ _)); exact BK12001.out)) : gb12002 ≠ gb12001)); clear BK12001; clear HB; have BK12001 := n0_; have HB := n1_; have BK12002 := n2_; have GW12002 := n3_; have GE12002 := n4_; have NB12001_12002 := n5_; have NB12002_12001 := n6_; clear n0_ n1_ n2_ n3_ n4_ n5_ n6_; clear hb hbox hg; have hnb19 := NB12001_12002.out; have hnc19 := NB12002_12001.out; have hcz20_0 : w18.cell? ⟨gb12001, 0, none⟩ = some (.int .i64 a0_0) := (blk_cell BK12001.out 0).trans rfl; have hcz20_1 : w18.cell? ⟨gb12001, 1, none⟩ = some (.slice A0_1 l0_1.length c0_1) := (blk_cell BK12001.out 1).trans rfl; have hfz20_0 := blk_frozen BK12001.out 0; have hfz20_1 := blk_frozen BK12001.out 1) | ((with_reducible refine gate_callee (f := 33) rfl ?_); refine goesL_ (some 22) rfl rfl Try.func33 (by kernel_rfl) rfl #[.agg #[.int .i64 a0_0, .slice A0_1 l0_1.length c0_1], .int .i64 1048576] rfl (by (try simp only [List.map_toArray, List.map_cons, List.map_nil]); first | done | rfl | (simp only [List.length_drop, List.length_take]; rfl)) ?_; (with_reducible refine (laws_szMatroid.calls a0_0 _ _ l0_1 1048576 t12003 _ ?side1 ?side2 A8.out).mono ?_); (case side1 => repeat (first | exact (Kd.C_below HR0_1.out HB.out) | (with_reducible refine Kd.C_alloc ?_ _) | (with_reducible refine Kd.C_drewN ?_ _) | (with_reducible refine Kd.C_drew ?_))); (case side2 => exact HC0_1.out); rintro e w21 ⟨rfl, hb⟩; refine ⟨_, rfl, ?_⟩; have n0_ := Aside0.mk (blk_below (g := gb12001) (o := .cells #[.int .i64 a0_0, .slice A0_1 l0_1.length c0_1] 24 (0, 0)) (by (with_reducible repeat (first | refine blk_drewN ?_ _ | refine blk_drew ?_ | refine blk_alloc ?_ _)); exact BK12001.out) hb); have n1_ := Aside0.mk (blk_below (g := gb12002) (o := .cells #[.int .i64 a1_0, .slice A1_1 l1_1.length c1_1] 24 (0, 0)) (by (with_reducible repeat (first | refine blk_drewN ?_ _ | refine blk_drew ?_ | refine blk_alloc ?_ _)); exact BK12002.out) hb); have n2_ := Aside0.mk (below_step (by repeat (first | (with_reducible first | exact HB.out | apply below_alloc | apply pw_below_drewN | apply below_drew1 | refine below_set ?_ GE12001.out | refine below_set ?_ GE12002.out) | exact HB.out)) hb); clear BK12001; clear BK12002; clear HB; have BK12001 := n0_; have BK12002 := n1_; have HB := n2_; clear n0_ n1_ n2_; (try clear hb); (try clear hb2); (try clear hk); (try clear hi); have hcz22_0 : w21.cell? ⟨gb12002, 0, none⟩ = some (.int .i64 a1_0) := (blk_cell BK12002.out 0).trans rfl; have hcz22_1 : w21.cell? ⟨gb12002, 1, none⟩ = some (.slice A1_1 l1_1.length c1_1) := (blk_cell BK12002.out 1).trans rfl; have hfz22_0 := blk_frozen BK12002.out 0; have hfz22_1 := blk_frozen BK12002.out 1) | ((with_reducible refine gate_callee (f := 33) rfl ?_); refine goesL_ (some 27) rfl rfl Try.func33 (by kernel_rfl) rfl #[.agg #[.int .i64 a1_0, .slice A1_1 l1_1.length c1_1], .int .i64 t12003] rfl (by (try simp only [List.map_toArray, List.map_cons, List.map_nil]); first | done | rfl | (simp only [List.length_drop, List.length_take]; rfl)) ?_; (with_reducible refine (laws_szMatroid.calls a1_0 _ _ l1_1 t12003 t12004 _ ?side1 ?side2 A15.out).mono ?_); (case side1 => repeat (first | exact (Kd.C_below HR1_1.out HB.out) | (with_reducible refine Kd.C_alloc ?_ _) | (with_reducible refine Kd.C_drewN ?_ _) | (with_reducible refine Kd.C_drew ?_))); (case side2 => exact HC1_1.out); rintro e w23 ⟨rfl, hb⟩; refine ⟨_, rfl, ?_⟩; have n0_ := Aside0.mk (blk_below (g := gb12001) (o := .cells #[.int .i64 a0_0, .slice A0_1 l0_1.length c0_1] 24 (0, 0)) (by (with_reducible repeat (first | refine blk_drewN ?_ _ | refine blk_drew ?_ | refine blk_alloc ?_ _)); exact BK12001.out) hb); have n1_ := Aside0.mk (blk_below (g := gb12002) (o := .cells #[.int .i64 a1_0, .slice A1_1 l1_1.length c1_1] 24 (0, 0)) (by (with_reducible repeat (first | refine blk_drewN ?_ _ | refine blk_drew ?_ | refine blk_alloc ?_ _)); exact BK12002.out) hb); have n2_ := Aside0.mk (below_step (by repeat (first | (with_reducible first | exact HB.out | apply below_alloc | apply pw_below_drewN | apply below_drew1 | refine below_set ?_ GE12001.out | refine below_set ?_ GE12002.out) | exact HB.out)) hb); clear BK12001; clear BK12002; clear HB; have BK12001 := n0_; have BK12002 := n1_; have HB := n2_; clear n0_ n1_ n2_; (try clear hb); (try clear hb2); (try clear hk); (try clear hi)))
        go_ret
        exact ⟨by first | rfl | (simp [errW_none, errW_some] <;> rfl) | (simp [*, errW_none, errW_some] <;> rfl), by repeat (first | (with_reducible first | exact HB.out | apply below_alloc | apply pw_below_drewN | apply below_drew1 | refine below_set ?_ GE12001.out | refine below_set ?_ GE12002.out) | exact HB.out)⟩
      · rw [if_neg c16] at H
        have c16b0 : decide (t12004 < 0) = false := decide_eq_false c16
        clear c16
        replace H := Option.bind_eq_some_iff.mp H
        obtain ⟨⟨t12005, t12006⟩, A240, H⟩ := H
        replace H : ((laws_toMatroid.f k a1_0 l1_1).bind fun bt12009 => ((laws_toIntS.f k l2).bind fun t12013 => ((spec_BestCommon.f k t12005 t12006 bt12009.1 bt12009.2 t12013 a3).bind fun bt12016 => ((laws_toMatroid.f k a0_0 l0_1).bind fun bt12018 => ((laws_toMatroid.f k a1_0 l1_1).bind fun bt12023 => ((laws_toIntS.f k l2).bind fun t12028 => ((impl_BestCommon.f k bt12018.1 bt12018.2 bt12023.1 bt12023.2 t12028 a3).bind fun bt12031 => (if bt12031.1 = bt12016.1 then (laws_FnExactBestCommon.j0 k l2 t12028 (bt12031.2 != bt12016.2) a0_0 l0_1 a1_0 l1_1 bt12018.1 bt12018.2 bt12023.1 bt12023.2) else (laws_FnExactBestCommon.j0 k l2 t12028 true a0_0 l0_1 a1_0 l1_1 bt12018.1 bt12018.2 bt12023.1 bt12023.2))))))))) = some true := H
        have A24 := Aside0.mk A240
        clear A240
        replace H := Option.bind_eq_some_iff.mp H
        obtain ⟨⟨t12009, t12010⟩, A250, H⟩ := H
        replace H : ((laws_toIntS.f k l2).bind fun t12013 => ((spec_BestCommon.f k t12005 t12006 t12009 t12010 t12013 a3).bind fun bt12016 => ((laws_toMatroid.f k a0_0 l0_1).bind fun bt12018 => ((laws_toMatroid.f k a1_0 l1_1).bind fun bt12023 => ((laws_toIntS.f k l2).bind fun t12028 => ((impl_BestCommon.f k bt12018.1 bt12018.2 bt12023.1 bt12023.2 t12028 a3).bind fun bt12031 => (if bt12031.1 = bt12016.1 then (laws_FnExactBestCommon.j0 k l2 t12028 (bt12031.2 != bt12016.2) a0_0 l0_1 a1_0 l1_1 bt12018.1 bt12018.2 bt12023.1 bt12023.2) else (laws_FnExactBestCommon.j0 k l2 t12028 true a0_0 l0_1 a1_0 l1_1 bt12018.1 bt12018.2 bt12023.1 bt12023.2)))))))) = some true := H
        have A25 := Aside0.mk A250
        clear A250
        replace H := Option.bind_eq_some_iff.mp H
        obtain ⟨t12013, A260, H⟩ := H
        replace H : ((spec_BestCommon.f k t12005 t12006 t12009 t12010 t12013 a3).bind fun bt12016 => ((laws_toMatroid.f k a0_0 l0_1).bind fun bt12018 => ((laws_toMatroid.f k a1_0 l1_1).bind fun bt12023 => ((laws_toIntS.f k l2).bind fun t12028 => ((impl_BestCommon.f k bt12018.1 bt12018.2 bt12023.1 bt12023.2 t12028 a3).bind fun bt12031 => (if bt12031.1 = bt12016.1 then (laws_FnExactBestCommon.j0 k l2 t12028 (bt12031.2 != bt12016.2) a0_0 l0_1 a1_0 l1_1 bt12018.1 bt12018.2 bt12023.1 bt12023.2) else (laws_FnExactBestCommon.j0 k l2 t12028 true a0_0 l0_1 a1_0 l1_1 bt12018.1 bt12018.2 bt12023.1 bt12023.2))))))) = some true := H
        have A26 := Aside0.mk A260
        clear A260
        replace H := Option.bind_eq_some_iff.mp H
        obtain ⟨⟨t12016, t12017⟩, A270, H⟩ := H
        replace H : ((laws_toMatroid.f k a0_0 l0_1).bind fun bt12018 => ((laws_toMatroid.f k a1_0 l1_1).bind fun bt12023 => ((laws_toIntS.f k l2).bind fun t12028 => ((impl_BestCommon.f k bt12018.1 bt12018.2 bt12023.1 bt12023.2 t12028 a3).bind fun bt12031 => (if bt12031.1 = t12016 then (laws_FnExactBestCommon.j0 k l2 t12028 (bt12031.2 != t12017) a0_0 l0_1 a1_0 l1_1 bt12018.1 bt12018.2 bt12023.1 bt12023.2) else (laws_FnExactBestCommon.j0 k l2 t12028 true a0_0 l0_1 a1_0 l1_1 bt12018.1 bt12018.2 bt12023.1 bt12023.2)))))) = some true := H
        have A27 := Aside0.mk A270
        clear A270
        replace H := Option.bind_eq_some_iff.mp H
        obtain ⟨⟨t12018, t12019⟩, A280, H⟩ := H
        replace H : ((laws_toMatroid.f k a1_0 l1_1).bind fun bt12023 => ((laws_toIntS.f k l2).bind fun t12028 => ((impl_BestCommon.f k t12018 t12019 bt12023.1 bt12023.2 t12028 a3).bind fun bt12031 => (if bt12031.1 = t12016 then (laws_FnExactBestCommon.j0 k l2 t12028 (bt12031.2 != t12017) a0_0 l0_1 a1_0 l1_1 t12018 t12019 bt12023.1 bt12023.2) else (laws_FnExactBestCommon.j0 k l2 t12028 true a0_0 l0_1 a1_0 l1_1 t12018 t12019 bt12023.1 bt12023.2))))) = some true := H
        have A28 := Aside0.mk A280
        clear A280
        replace H := Option.bind_eq_some_iff.mp H
        obtain ⟨⟨t12023, t12024⟩, A290, H⟩ := H
        replace H : ((laws_toIntS.f k l2).bind fun t12028 => ((impl_BestCommon.f k t12018 t12019 t12023 t12024 t12028 a3).bind fun bt12031 => (if bt12031.1 = t12016 then (laws_FnExactBestCommon.j0 k l2 t12028 (bt12031.2 != t12017) a0_0 l0_1 a1_0 l1_1 t12018 t12019 t12023 t12024) else (laws_FnExactBestCommon.j0 k l2 t12028 true a0_0 l0_1 a1_0 l1_1 t12018 t12019 t12023 t12024)))) = some true := H
        have A29 := Aside0.mk A290
        clear A290
        replace H := Option.bind_eq_some_iff.mp H
        obtain ⟨t12028, A300, H⟩ := H
        replace H : ((impl_BestCommon.f k t12018 t12019 t12023 t12024 t12028 a3).bind fun bt12031 => (if bt12031.1 = t12016 then (laws_FnExactBestCommon.j0 k l2 t12028 (bt12031.2 != t12017) a0_0 l0_1 a1_0 l1_1 t12018 t12019 t12023 t12024) else (laws_FnExactBestCommon.j0 k l2 t12028 true a0_0 l0_1 a1_0 l1_1 t12018 t12019 t12023 t12024))) = some true := H
        have A30 := Aside0.mk A300
        clear A300
        replace H := Option.bind_eq_some_iff.mp H
        obtain ⟨⟨t12031, t12032⟩, A310, H⟩ := H
        replace H : (if t12031 = t12016 then (laws_FnExactBestCommon.j0 k l2 t12028 (t12032 != t12017) a0_0 l0_1 a1_0 l1_1 t12018 t12019 t12023 t12024) else (laws_FnExactBestCommon.j0 k l2 t12028 true a0_0 l0_1 a1_0 l1_1 t12018 t12019 t12023 t12024)) = some true := H
        have A31 := Aside0.mk A310
        clear A310
        have HC32 := Aside0.mk H
        clear H
        go_enter Try.func11, Try.ntmps11
        try go_wp2_with (first | ((with_reducible refine gate_dst (N := 4) rfl ?_); refine box_event ?hg (N := 4) ?hd (cs := #[.int .i64 a0_0, .slice A0_1 l0_1.length c0_1]) (t := 24) ?hr ?_; (case hd => rfl); (case hg => rfl); (case hr => first | (go_simp; done) | (go_simp; rfl)); intro gb12001 hg w33 hbox hb; have n0_ := Aside0.mk (below_step (by repeat (first | (with_reducible first | exact HB.out | apply below_alloc | apply pw_below_drewN | apply below_drew1) | exact HB.out)) hb); have n1_ := Aside0.mk (hbox); have n2_ := Aside0.mk ((by rw [hg]; exact (below_size (by repeat (first | (with_reducible first | exact HB.out | apply below_alloc | apply pw_below_drewN | apply below_drew1) | exact HB.out))) : w.heap.size ≤ gb12001)); have n3_ := Aside0.mk ((by rw [hg]; exact (below_size (by repeat (first | (with_reducible first | exact HB.out | apply below_alloc | apply pw_below_drewN | apply below_drew1) | exact HB.out))) : w.heap.size ≤ gb12001)); clear HB; have HB := n0_; have BK12001 := n1_; have GW12001 := n2_; have GE12001 := n3_; clear n0_ n1_ n2_ n3_; clear hb hbox hg) | ((with_reducible refine gate_dst (N := 5) rfl ?_); refine box_event ?hg (N := 5) ?hd (cs := #[.int .i64 a1_0, .slice A1_1 l1_1.length c1_1]) (t := 24) ?hr ?_; (case hd => rfl); (case hg => rfl); (case hr => first | (go_simp; done) | (go_simp; rfl)); intro gb12002 hg w34 hbox hb; have n0_ := Aside0.mk (blk_below (g := gb12001) (o := .cells #[.int .i64 a0_0, .slice A0_1 l0_1.length c0_1] 24 (0, 0)) (by (with_reducible repeat (first | refine blk_drewN ?_ _ | refine blk_drew ?_ | refine blk_alloc ?_ _)); exact BK12001.out) hb); have n1_ := Aside0.mk (below_step (by repeat (first | (with_reducible first | exact HB.out | apply below_alloc | apply pw_below_drewN | apply below_drew1 | refine below_set ?_ GE12001.out) | exact HB.out)) hb); have n2_ := Aside0.mk (hbox); have n3_ := Aside0.mk ((by rw [hg]; exact (below_size (by repeat (first | (with_reducible first | exact HB.out | apply below_alloc | apply pw_below_drewN | apply below_drew1 | refine below_set ?_ GE12001.out) | exact HB.out))) : w.heap.size ≤ gb12002)); have n4_ := Aside0.mk ((by rw [hg]; exact (below_size (by repeat (first | (with_reducible first | exact HB.out | apply below_alloc | apply pw_below_drewN | apply below_drew1 | refine below_set ?_ GE12001.out) | exact HB.out))) : w.heap.size ≤ gb12002)); have n5_ := Aside0.mk ((by rw [hg]; exact Nat.ne_of_lt (blk_lt (g := gb12001) (o := .cells #[.int .i64 a0_0, .slice A0_1 l0_1.length c0_1] 24 (0, 0)) (by (with_reducible repeat (first | refine blk_drewN ?_ _ | refine blk_drew ?_ | refine blk_alloc ?_ _)); exact BK12001.out)) : gb12001 ≠ gb12002)); have n6_ := Aside0.mk ((by rw [hg]; exact Nat.ne_of_gt (blk_lt (g := gb12001) (o := .cells #[.int .i64 a0_0, .slice A0_1 l0_1.length c0_1] 24 (0, 0)) (by (with_reducible repeat (first | refine blk_drewN ?_ _ | refine blk_drew ?_ | refine blk_alloc ?_ _)); exact BK12001.out)) : gb12002 ≠ gb12001)); clear BK12001; clear HB; have BK12001 := n0_; have HB := n1_; have BK12002 := n2_; have GW12002 := n3_; have GE12002 := n4_; have NB12001_12002 := n5_; have NB12002_12001 := n6_; clear n0_ n1_ n2_ n3_ n4_ n5_ n6_; clear hb hbox hg; have hnb35 := NB12001_12002.out; have hnc35 := NB12002_12001.out; have hcz36_0 : w34.cell? ⟨gb12001, 0, none⟩ = some (.int .i64 a0_0) := (blk_cell BK12001.out 0).trans rfl; have hcz36_1 : w34.cell? ⟨gb12001, 1, none⟩ = some (.slice A0_1 l0_1.length c0_1) := (blk_cell BK12001.out 1).trans rfl; have hfz36_0 := blk_frozen BK12001.out 0; have hfz36_1 := blk_frozen BK12001.out 1) | ((with_reducible refine gate_callee (f := 33) rfl ?_); refine goesL_ (some 22) rfl rfl Try.func33 (by kernel_rfl) rfl #[.agg #[.int .i64 a0_0, .slice A0_1 l0_1.length c0_1], .int .i64 1048576] rfl (by (try simp only [List.map_toArray, List.map_cons, List.map_nil]); first | done | rfl | (simp only [List.length_drop, List.length_take]; rfl)) ?_; (with_reducible refine (laws_szMatroid.calls a0_0 _ _ l0_1 1048576 t12003 _ ?side1 ?side2 A8.out).mono ?_); (case side1 => repeat (first | exact (Kd.C_below HR0_1.out HB.out) | (with_reducible refine Kd.C_alloc ?_ _) | (with_reducible refine Kd.C_drewN ?_ _) | (with_reducible refine Kd.C_drew ?_))); (case side2 => exact HC0_1.out); rintro e w37 ⟨rfl, hb⟩; refine ⟨_, rfl, ?_⟩; have n0_ := Aside0.mk (blk_below (g := gb12001) (o := .cells #[.int .i64 a0_0, .slice A0_1 l0_1.length c0_1] 24 (0, 0)) (by (with_reducible repeat (first | refine blk_drewN ?_ _ | refine blk_drew ?_ | refine blk_alloc ?_ _)); exact BK12001.out) hb); have n1_ := Aside0.mk (blk_below (g := gb12002) (o := .cells #[.int .i64 a1_0, .slice A1_1 l1_1.length c1_1] 24 (0, 0)) (by (with_reducible repeat (first | refine blk_drewN ?_ _ | refine blk_drew ?_ | refine blk_alloc ?_ _)); exact BK12002.out) hb); have n2_ := Aside0.mk (below_step (by repeat (first | (with_reducible first | exact HB.out | apply below_alloc | apply pw_below_drewN | apply below_drew1 | refine below_set ?_ GE12001.out | refine below_set ?_ GE12002.out) | exact HB.out)) hb); clear BK12001; clear BK12002; clear HB; have BK12001 := n0_; have BK12002 := n1_; have HB := n2_; clear n0_ n1_ n2_; (try clear hb); (try clear hb2); (try clear hk); (try clear hi); have hcz38_0 : w37.cell? ⟨gb12002, 0, none⟩ = some (.int .i64 a1_0) := (blk_cell BK12002.out 0).trans rfl; have hcz38_1 : w37.cell? ⟨gb12002, 1, none⟩ = some (.slice A1_1 l1_1.length c1_1) := (blk_cell BK12002.out 1).trans rfl; have hfz38_0 := blk_frozen BK12002.out 0; have hfz38_1 := blk_frozen BK12002.out 1) | ((with_reducible refine gate_callee (f := 33) rfl ?_); refine goesL_ (some 27) rfl rfl Try.func33 (by kernel_rfl) rfl #[.agg #[.int .i64 a1_0, .slice A1_1 l1_1.length c1_1], .int .i64 t12003] rfl (by (try simp only [List.map_toArray, List.map_cons, List.map_nil]); first | done | rfl | (simp only [List.length_drop, List.length_take]; rfl)) ?_; (with_reducible refine (laws_szMatroid.calls a1_0 _ _ l1_1 t12003 t12004 _ ?side1 ?side2 A15.out).mono ?_); (case side1 => repeat (first | exact (Kd.C_below HR1_1.out HB.out) | (with_reducible refine Kd.C_alloc ?_ _) | (with_reducible refine Kd.C_drewN ?_ _) | (with_reducible refine Kd.C_drew ?_))); (case side2 => exact HC1_1.out); rintro e w39 ⟨rfl, hb⟩; refine ⟨_, rfl, ?_⟩; have n0_ := Aside0.mk (blk_below (g := gb12001) (o := .cells #[.int .i64 a0_0, .slice A0_1 l0_1.length c0_1] 24 (0, 0)) (by (with_reducible repeat (first | refine blk_drewN ?_ _ | refine blk_drew ?_ | refine blk_alloc ?_ _)); exact BK12001.out) hb); have n1_ := Aside0.mk (blk_below (g := gb12002) (o := .cells #[.int .i64 a1_0, .slice A1_1 l1_1.length c1_1] 24 (0, 0)) (by (with_reducible repeat (first | refine blk_drewN ?_ _ | refine blk_drew ?_ | refine blk_alloc ?_ _)); exact BK12002.out) hb); have n2_ := Aside0.mk (below_step (by repeat (first | (with_reducible first | exact HB.out | apply below_alloc | apply pw_below_drewN | apply below_drew1 | refine below_set ?_ GE12001.out | refine below_set ?_ GE12002.out) | exact HB.out)) hb); clear BK12001; clear BK12002; clear HB; have BK12001 := n0_; have BK12002 := n1_; have HB := n2_; clear n0_ n1_ n2_; (try clear hb); (try clear hb2); (try clear hk); (try clear hi)))
        have n0_ := Aside0.mk (blk_drew BK12001.out)
        have n1_ := Aside0.mk (blk_drew BK12002.out)
        have n2_ := Aside0.mk (below_drew1 HB.out)
        clear BK12001
        clear BK12002
        clear HB
        have BK12001 := n0_
        have BK12002 := n1_
        have HB := n2_
        clear n0_ n1_ n2_
        refine start_ (n := 13) (S := fun w' => w'.cell? ⟨gb12001, 0, none⟩ = some (.int .i64 a0_0) ∧ w'.cell? ⟨gb12001, 1, none⟩ = some (.slice A0_1 l0_1.length c0_1) ∧ w'.cell? ⟨gb12002, 0, none⟩ = some (.int .i64 a1_0) ∧ w'.cell? ⟨gb12002, 1, none⟩ = some (.slice A1_1 l1_1.length c1_1)) (ds := []) #[false, false, false, false, false, false, false, false, false, false, false, false, false] (by kernel_rfl) rfl rfl ⟨(blk_cell BK12001.out 0).trans rfl, (blk_cell BK12001.out 1).trans rfl, (blk_cell BK12002.out 0).trans rfl, (blk_cell BK12002.out 1).trans rfl⟩ (fun hHeld => ?_); refine with_tabW laws_FnExactBestCommon.tab10 laws_FnExactBestCommon.bits10 (fun HT_ HW_ => ?_)
        generalize w39.drew = w40 at BK12001 BK12002 HB hHeld ⊢
        refine pure_ (i := 4) (N := some 35) (v := ?_) (a' := ?_) #[false, false, false, false, true, false, false, false, false, false, false, false, false] rfl rfl (any_of HT_.out (by kernel_rfl)) (fun _ _ _ h => h) (Or.inl ⟨by rfl, ?_⟩) ?_ ?_
        rotate_left
        · intro w'
          go_simp
          with_reducible rfl
        rotate_left
        · simp only [Act.put, List.setIfInBounds_toArray, List.set_cons_zero, List.set_cons_succ, i64_w, i32_w]
          rfl
        refine pure_ (i := 6) (N := some 37) (v := ?_) (a' := ?_) #[false, false, false, false, true, false, true, false, false, false, false, false, false] rfl rfl (any_of HT_.out (by kernel_rfl)) (fun _ _ _ h => h) (Or.inl ⟨by rfl, ?_⟩) ?_ ?_
        rotate_left
        · intro w'
          go_simp
          with_reducible rfl
        rotate_left
        · simp only [Act.put, List.setIfInBounds_toArray, List.set_cons_zero, List.set_cons_succ, i64_w, i32_w]
          rfl
        refine take_ (i := 0) (N := some 31) (v := ?_) (a' := ?_) #[true, false, false, false, true, false, true, false, false, false, false, false, false] rfl rfl (take_ofW HT_.out HW_.out (by kernel_rfl)) (fun _ _ _ h => h) (Or.inl ⟨by rfl, ?_⟩) hHeld ?_ ?_
        rotate_left
        · rintro w' ⟨s0, s1, s2, s3⟩
          go_simp
          with_reducible rfl
        rotate_left
        · simp only [Act.put, List.setIfInBounds_toArray, List.set_cons_zero, List.set_cons_succ, i64_w, i32_w]
          rfl
        refine take_ (i := 2) (N := some 33) (v := ?_) (a' := ?_) #[true, false, true, false, true, false, true, false, false, false, false, false, false] rfl rfl (take_ofW HT_.out HW_.out (by kernel_rfl)) (fun _ _ _ h => h) (Or.inl ⟨by rfl, ?_⟩) hHeld ?_ ?_
        rotate_left
        · rintro w' ⟨s0, s1, s2, s3⟩
          go_simp
          with_reducible rfl
        rotate_left
        · simp only [Act.put, List.setIfInBounds_toArray, List.set_cons_zero, List.set_cons_succ, i64_w, i32_w]
          rfl
        refine one_ (i := 1) (N := some 32) #[true, true, true, false, true, false, true, false, false, false, false, false, false] rfl rfl (one_of HT_.out (by kernel_rfl)) (by decide) (fun K hK => ?_)
        refine goes_ Try.func35 (by kernel_rfl) rfl #[.agg #[.int .i64 a0_0, .slice A0_1 l0_1.length c0_1]] (by rfl) rfl rfl (by (try simp only [List.map_toArray, List.map_cons, List.map_nil]); first | done | rfl | (simp only [List.length_drop, List.length_take]; rfl)) ?_
        with_reducible refine (laws_toMatroid.calls k a0_0 _ _ l0_1 t12005 t12006 _ ?side1 ?side2 A24.out).mono ?_
        (case side1 => repeat (first | exact (Kd.C_below HR0_1.out HB.out) | (with_reducible refine Kd.C_alloc ?_ _) | (with_reducible refine Kd.C_drewN ?_ _) | (with_reducible refine Kd.C_drew ?_)))
        (case side2 => exact HC0_1.out)
        rintro e w41 ⟨v12007, rfl, ho0, hb⟩
        refine ⟨_, rfl, ?_⟩
        have n0_ := Aside0.mk (Kd.R_lower ho0 (below_size (by repeat (first | (with_reducible first | exact HB.out | apply below_alloc | apply pw_below_drewN | apply below_drew1 | refine below_set ?_ GE12001.out | refine below_set ?_ GE12002.out) | exact HB.out))))
        have n1_ := Aside0.mk (blk_below (g := gb12001) (o := .cells #[.int .i64 a0_0, .slice A0_1 l0_1.length c0_1] 24 (0, 0)) (by (with_reducible repeat (first | refine blk_drewN ?_ _ | refine blk_drew ?_ | refine blk_alloc ?_ _)); exact BK12001.out) hb)
        have n2_ := Aside0.mk (blk_below (g := gb12002) (o := .cells #[.int .i64 a1_0, .slice A1_1 l1_1.length c1_1] 24 (0, 0)) (by (with_reducible repeat (first | refine blk_drewN ?_ _ | refine blk_drew ?_ | refine blk_alloc ?_ _)); exact BK12002.out) hb)
        have n3_ := Aside0.mk (below_step (by repeat (first | (with_reducible first | exact HB.out | apply below_alloc | apply pw_below_drewN | apply below_drew1 | refine below_set ?_ GE12001.out | refine below_set ?_ GE12002.out) | exact HB.out)) hb)
        clear BK12001
        clear BK12002
        clear HB
        have HO12008 := n0_
        have BK12001 := n1_
        have BK12002 := n2_
        have HB := n3_
        clear n0_ n1_ n2_ n3_
        (try clear hb)
        (try clear hb2)
        (try clear hk)
        (try clear hi)
        (try clear ho0)
        refine hK.out _ _ ⟨(blk_cell BK12001.out 0).trans rfl, (blk_cell BK12001.out 1).trans rfl, (blk_cell BK12002.out 0).trans rfl, (blk_cell BK12002.out 1).trans rfl⟩ (fun hHeld => ?_)
        clear hK K
        refine norm_ (a' := ?_) ?_ ?_
        rotate_left
        · show Act.put _ (some 32) _ = _
          simp only [Act.put, List.setIfInBounds_toArray, List.set_cons_zero, List.set_cons_succ, i64_w, i32_w]
          rfl
        refine one_ (i := 3) (N := some 34) #[true, true, true, true, true, false, true, false, false, false, false, false, false] rfl rfl (one_of HT_.out (by kernel_rfl)) (by decide) (fun K hK => ?_)
        refine goes_ Try.func35 (by kernel_rfl) rfl #[.agg #[.int .i64 a1_0, .slice A1_1 l1_1.length c1_1]] (by rfl) rfl rfl (by (try simp only [List.map_toArray, List.map_cons, List.map_nil]); first | done | rfl | (simp only [List.length_drop, List.length_take]; rfl)) ?_
        with_reducible refine (laws_toMatroid.calls k a1_0 _ _ l1_1 t12009 t12010 _ ?side1 ?side2 A25.out).mono ?_
        (case side1 => repeat (first | exact (Kd.C_below HR1_1.out HB.out) | (with_reducible refine Kd.C_alloc ?_ _) | (with_reducible refine Kd.C_drewN ?_ _) | (with_reducible refine Kd.C_drew ?_)))
        (case side2 => exact HC1_1.out)
        rintro e w42 ⟨v12011, rfl, ho0, hb⟩
        refine ⟨_, rfl, ?_⟩
        have n0_ := Aside0.mk (Kd.R_elder' (by (with_reducible repeat (first | apply Kd.R_alloc | apply Kd.R_drewN | apply Kd.R_drew)); exact HO12008.out) (Kd.R_base ho0) hb)
        have n1_ := Aside0.mk (Kd.R_lower (Kd.R_new' ho0 (Kd.R_lt (by (with_reducible repeat (first | apply Kd.R_alloc | apply Kd.R_drewN | apply Kd.R_drew)); exact HO12008.out))) (below_size (by repeat (first | (with_reducible first | exact HB.out | apply below_alloc | apply pw_below_drewN | apply below_drew1 | refine below_set ?_ GE12001.out | refine below_set ?_ GE12002.out) | exact HB.out))))
        have n2_ := Aside0.mk (blk_below (g := gb12001) (o := .cells #[.int .i64 a0_0, .slice A0_1 l0_1.length c0_1] 24 (0, 0)) (by (with_reducible repeat (first | refine blk_drewN ?_ _ | refine blk_drew ?_ | refine blk_alloc ?_ _)); exact BK12001.out) hb)
        have n3_ := Aside0.mk (blk_below (g := gb12002) (o := .cells #[.int .i64 a1_0, .slice A1_1 l1_1.length c1_1] 24 (0, 0)) (by (with_reducible repeat (first | refine blk_drewN ?_ _ | refine blk_drew ?_ | refine blk_alloc ?_ _)); exact BK12002.out) hb)
        have n4_ := Aside0.mk (below_step (by repeat (first | (with_reducible first | exact HB.out | apply below_alloc | apply pw_below_drewN | apply below_drew1 | refine below_set ?_ GE12001.out | refine below_set ?_ GE12002.out) | exact HB.out)) hb)
        clear HO12008
        clear BK12001
        clear BK12002
        clear HB
        have HO12008 := n0_
        have HO12012 := n1_
        have BK12001 := n2_
        have BK12002 := n3_
        have HB := n4_
        clear n0_ n1_ n2_ n3_ n4_
        (try clear hb)
        (try clear hb2)
        (try clear hk)
        (try clear hi)
        (try clear ho0)
        refine hK.out _ _ ⟨(blk_cell BK12001.out 0).trans rfl, (blk_cell BK12001.out 1).trans rfl, (blk_cell BK12002.out 0).trans rfl, (blk_cell BK12002.out 1).trans rfl⟩ (fun hHeld => ?_)
        clear hK K
        refine norm_ (a' := ?_) ?_ ?_
        rotate_left
        · show Act.put _ (some 34) _ = _
          simp only [Act.put, List.setIfInBounds_toArray, List.set_cons_zero, List.set_cons_succ, i64_w, i32_w]
          rfl
        refine one_ (i := 5) (N := some 36) #[true, true, true, true, true, true, true, false, false, false, false, false, false] rfl rfl (one_of HT_.out (by kernel_rfl)) (by decide) (fun K hK => ?_)
        refine goes_ Try.func47 (by kernel_rfl) rfl #[.slice A2 l2.length c2] (by rfl) rfl rfl (by (try simp only [List.map_toArray, List.map_cons, List.map_nil]); first | done | rfl | (simp only [List.length_drop, List.length_take]; rfl)) ?_
        with_reducible refine (laws_toIntS.calls k _ _ l2 t12013 _ ?side1 ?side2 A26.out).mono ?_
        (case side1 => repeat (first | exact (Kd.C_below HR2.out HB.out) | (with_reducible refine Kd.C_alloc ?_ _) | (with_reducible refine Kd.C_drewN ?_ _) | (with_reducible refine Kd.C_drew ?_)))
        (case side2 => exact HC2.out)
        rintro e w43 ⟨v12014, rfl, ho0, hb⟩
        refine ⟨_, rfl, ?_⟩
        have n0_ := Aside0.mk (Kd.R_elder' (by (with_reducible repeat (first | apply Kd.R_alloc | apply Kd.R_drewN | apply Kd.R_drew)); exact HO12008.out) (Kd.R_base ho0) hb)
        have n1_ := Aside0.mk (Kd.R_elder' (by (with_reducible repeat (first | apply Kd.R_alloc | apply Kd.R_drewN | apply Kd.R_drew)); exact HO12012.out) (Kd.R_base ho0) hb)
        have n2_ := Aside0.mk (Kd.R_lower (Kd.R_new' (Kd.R_new' ho0 (Kd.R_lt (by (with_reducible repeat (first | apply Kd.R_alloc | apply Kd.R_drewN | apply Kd.R_drew)); exact HO12008.out))) (Kd.R_lt (by (with_reducible repeat (first | apply Kd.R_alloc | apply Kd.R_drewN | apply Kd.R_drew)); exact HO12012.out))) (below_size (by repeat (first | (with_reducible first | exact HB.out | apply below_alloc | apply pw_below_drewN | apply below_drew1 | refine below_set ?_ GE12001.out | refine below_set ?_ GE12002.out) | exact HB.out))))
        have n3_ := Aside0.mk (blk_below (g := gb12001) (o := .cells #[.int .i64 a0_0, .slice A0_1 l0_1.length c0_1] 24 (0, 0)) (by (with_reducible repeat (first | refine blk_drewN ?_ _ | refine blk_drew ?_ | refine blk_alloc ?_ _)); exact BK12001.out) hb)
        have n4_ := Aside0.mk (blk_below (g := gb12002) (o := .cells #[.int .i64 a1_0, .slice A1_1 l1_1.length c1_1] 24 (0, 0)) (by (with_reducible repeat (first | refine blk_drewN ?_ _ | refine blk_drew ?_ | refine blk_alloc ?_ _)); exact BK12002.out) hb)
        have n5_ := Aside0.mk (below_step (by repeat (first | (with_reducible first | exact HB.out | apply below_alloc | apply pw_below_drewN | apply below_drew1 | refine below_set ?_ GE12001.out | refine below_set ?_ GE12002.out) | exact HB.out)) hb)
        clear HO12008
        clear HO12012
        clear BK12001
        clear BK12002
        clear HB
        have HO12008 := n0_
        have HO12012 := n1_
        have HO12015 := n2_
        have BK12001 := n3_
        have BK12002 := n4_
        have HB := n5_
        clear n0_ n1_ n2_ n3_ n4_ n5_
        (try clear hb)
        (try clear hb2)
        (try clear hk)
        (try clear hi)
        (try clear ho0)
        obtain ⟨Ao44, co44, eo44⟩ := Kd.R_slice HO12008.out
        (first | subst eo44 | (injection eo44 with f1_ f2_ f3_; have f4_ := f1_.symm; have f5_ := f3_.symm; clear f1_ f2_ f3_; subst f4_; subst f5_))
        obtain ⟨Ao45, co45, eo45⟩ := Kd.R_slice HO12012.out
        (first | subst eo45 | (injection eo45 with f1_ f2_ f3_; have f4_ := f1_.symm; have f5_ := f3_.symm; clear f1_ f2_ f3_; subst f4_; subst f5_))
        obtain ⟨Ao46, co46, eo46⟩ := Kd.R_slice HO12015.out
        (first | subst eo46 | (injection eo46 with f1_ f2_ f3_; have f4_ := f1_.symm; have f5_ := f3_.symm; clear f1_ f2_ f3_; subst f4_; subst f5_))
        refine hK.out _ _ ⟨(blk_cell BK12001.out 0).trans rfl, (blk_cell BK12001.out 1).trans rfl, (blk_cell BK12002.out 0).trans rfl, (blk_cell BK12002.out 1).trans rfl⟩ (fun hHeld => ?_)
        clear hK K
        refine norm_ (a' := ?_) ?_ ?_
        rotate_left
        · show Act.put _ (some 36) _ = _
          simp only [Act.put, List.setIfInBounds_toArray, List.set_cons_zero, List.set_cons_succ, i64_w, i32_w]
          rfl
        refine one_ (i := 7) (N := some 38) #[true, true, true, true, true, true, true, true, false, false, false, false, false] rfl rfl (one_of HT_.out (by kernel_rfl)) (by decide) (fun K hK => ?_)
        refine goes_ Try.func58 (by kernel_rfl) rfl #[.agg #[.int .i64 t12005, .slice Ao44 t12006.length co44], .agg #[.int .i64 t12009, .slice Ao45 t12010.length co45], .slice Ao46 t12013.length co46, .int .i64 a3] (by rfl) rfl rfl (by (try simp only [List.map_toArray, List.map_cons, List.map_nil]); first | done | rfl | (simp only [List.length_drop, List.length_take]; rfl)) ?_
        with_reducible refine (spec_BestCommon.calls k t12005 _ _ t12006 t12009 _ _ t12010 _ _ t12013 a3 t12016 t12017 _ ?side1 ?side2 ?side3 ?side4 ?side5 ?side6 A27.out).mono ?_
        (case side1 => repeat (first | exact (Kd.R_reads' HO12008.out).2.2 | (with_reducible refine Kd.C_alloc ?_ _) | (with_reducible refine Kd.C_drewN ?_ _) | (with_reducible refine Kd.C_drew ?_)))
        (case side2 => exact (Kd.R_reads' HO12008.out).2.1)
        (case side3 => repeat (first | exact (Kd.R_reads' HO12012.out).2.2 | (with_reducible refine Kd.C_alloc ?_ _) | (with_reducible refine Kd.C_drewN ?_ _) | (with_reducible refine Kd.C_drew ?_)))
        (case side4 => exact (Kd.R_reads' HO12012.out).2.1)
        (case side5 => repeat (first | exact (Kd.R_reads' HO12015.out).2.2 | (with_reducible refine Kd.C_alloc ?_ _) | (with_reducible refine Kd.C_drewN ?_ _) | (with_reducible refine Kd.C_drew ?_)))
        (case side6 => exact (Kd.R_reads' HO12015.out).2.1)
        rintro e w47 ⟨rfl, hb⟩
        refine ⟨_, rfl, ?_⟩
        have n0_ := Aside0.mk (Kd.R_below (by (with_reducible repeat (first | apply Kd.R_alloc | apply Kd.R_drewN | apply Kd.R_drew)); exact HO12008.out) hb)
        have n1_ := Aside0.mk (Kd.R_below (by (with_reducible repeat (first | apply Kd.R_alloc | apply Kd.R_drewN | apply Kd.R_drew)); exact HO12012.out) hb)
        have n2_ := Aside0.mk (Kd.R_below (by (with_reducible repeat (first | apply Kd.R_alloc | apply Kd.R_drewN | apply Kd.R_drew)); exact HO12015.out) hb)
        have n3_ := Aside0.mk (blk_below (g := gb12001) (o := .cells #[.int .i64 a0_0, .slice A0_1 l0_1.length c0_1] 24 (0, 0)) (by (with_reducible repeat (first | refine blk_drewN ?_ _ | refine blk_drew ?_ | refine blk_alloc ?_ _)); exact BK12001.out) hb)
        have n4_ := Aside0.mk (blk_below (g := gb12002) (o := .cells #[.int .i64 a1_0, .slice A1_1 l1_1.length c1_1] 24 (0, 0)) (by (with_reducible repeat (first | refine blk_drewN ?_ _ | refine blk_drew ?_ | refine blk_alloc ?_ _)); exact BK12002.out) hb)
        have n5_ := Aside0.mk (below_step (by repeat (first | (with_reducible first | exact HB.out | apply below_alloc | apply pw_below_drewN | apply below_drew1 | refine below_set ?_ GE12001.out | refine below_set ?_ GE12002.out) | exact HB.out)) hb)
        clear HO12008
        clear HO12012
        clear HO12015
        clear BK12001
        clear BK12002
        clear HB
        have HO12008 := n0_
        have HO12012 := n1_
        have HO12015 := n2_
        have BK12001 := n3_
        have BK12002 := n4_
        have HB := n5_
        clear n0_ n1_ n2_ n3_ n4_ n5_
        (try clear hb)
        (try clear hb2)
        (try clear hk)
        (try clear hi)
        refine hK.out _ _ ⟨(blk_cell BK12001.out 0).trans rfl, (blk_cell BK12001.out 1).trans rfl, (blk_cell BK12002.out 0).trans rfl, (blk_cell BK12002.out 1).trans rfl⟩ (fun hHeld => ?_)
        clear hK K
        refine norm_ (a' := ?_) ?_ ?_
        rotate_left
        · show Act.put _ (some 38) _ = _
          simp only [Act.put, List.setIfInBounds_toArray, List.set_cons_zero, List.set_cons_succ, i64_w, i32_w]
          rfl
        refine pure_ (i := 8) (N := some 30) (v := ?_) (a' := ?_) #[true, true, true, true, true, true, true, true, true, false, false, false, false] rfl rfl (any_of HT_.out (by kernel_rfl)) (fun _ _ _ h => h) (Or.inl ⟨by rfl, ?_⟩) ?_ ?_
        rotate_left
        · intro w'
          go_simp
          with_reducible rfl
        rotate_left
        · simp only [Act.put, List.setIfInBounds_toArray, List.set_cons_zero, List.set_cons_succ, i64_w, i32_w]
          rfl
        refine pure_ (i := 9) (N := some 39) (v := ?_) (a' := ?_) #[true, true, true, true, true, true, true, true, true, true, false, false, false] rfl rfl (any_of HT_.out (by kernel_rfl)) (fun _ _ _ h => h) (Or.inl ⟨by rfl, ?_⟩) ?_ ?_
        rotate_left
        · intro w'
          go_simp
          with_reducible rfl
        rotate_left
        · simp only [Act.put, List.setIfInBounds_toArray, List.set_cons_zero, List.set_cons_succ, i64_w, i32_w]
          rfl
        refine pure_ (i := 10) (N := some 40) (v := ?_) (a' := ?_) #[true, true, true, true, true, true, true, true, true, true, true, false, false] rfl rfl (any_of HT_.out (by kernel_rfl)) (fun _ _ _ h => h) (Or.inl ⟨by rfl, ?_⟩) ?_ ?_
        rotate_left
        · intro w'
          go_simp
          with_reducible rfl
        rotate_left
        · simp only [Act.put, List.setIfInBounds_toArray, List.set_cons_zero, List.set_cons_succ, i64_w, i32_w]
          rfl
        refine pure_ (i := 11) (N := some 10) (v := ?_) (a' := ?_) #[true, true, true, true, true, true, true, true, true, true, true, true, false] rfl rfl (any_of HT_.out (by kernel_rfl)) (fun _ _ _ h => h) (Or.inl ⟨by rfl, ?_⟩) ?_ ?_
        rotate_left
        · intro w'
          go_simp
          with_reducible rfl
        rotate_left
        · simp only [Act.put, List.setIfInBounds_toArray, List.set_cons_zero, List.set_cons_succ, i64_w, i32_w]
          rfl
        refine pure_ (i := 12) (N := some 11) (v := ?_) (a' := ?_) #[true, true, true, true, true, true, true, true, true, true, true, true, true] rfl rfl (any_of HT_.out (by kernel_rfl)) (fun _ _ _ h => h) (Or.inl ⟨by rfl, ?_⟩) ?_ ?_
        rotate_left
        · intro w'
          go_simp
          with_reducible rfl
        rotate_left
        · simp only [Act.put, List.setIfInBounds_toArray, List.set_cons_zero, List.set_cons_succ, i64_w, i32_w]
          rfl
        refine done_ (done_of HT_.out (by kernel_rfl)) ?_
        have hcz48_0 : w47.cell? ⟨gb12001, 0, none⟩ = some (.int .i64 a0_0) := (blk_cell BK12001.out 0).trans rfl
        have hcz48_1 : w47.cell? ⟨gb12001, 1, none⟩ = some (.slice A0_1 l0_1.length c0_1) := (blk_cell BK12001.out 1).trans rfl
        have hfz48_0 := blk_frozen BK12001.out 0
        have hfz48_1 := blk_frozen BK12001.out 1
        go_upto_region 15 with (first | ((with_reducible refine gate_callee (f := 35) rfl ?_); refine goesL_ (some 42) rfl rfl Try.func35 (by kernel_rfl) rfl #[.agg #[.int .i64 a0_0, .slice A0_1 l0_1.length c0_1]] rfl (by (try simp only [List.map_toArray, List.map_cons, List.map_nil]); first | done | rfl | (simp only [List.length_drop, List.length_take]; rfl)) ?_; (with_reducible refine (laws_toMatroid.calls k a0_0 _ _ l0_1 t12018 t12019 _ ?side1 ?side2 A28.out).mono ?_); (case side1 => repeat (first | exact (Kd.C_below HR0_1.out HB.out) | (with_reducible refine Kd.C_alloc ?_ _) | (with_reducible refine Kd.C_drewN ?_ _) | (with_reducible refine Kd.C_drew ?_))); (case side2 => exact HC0_1.out); rintro e w49 ⟨v12020, rfl, ho0, hb⟩; refine ⟨_, rfl, ?_⟩; have n0_ := Aside0.mk (Kd.R_elder' (by (with_reducible repeat (first | apply Kd.R_alloc | apply Kd.R_drewN | apply Kd.R_drew)); exact HO12008.out) (Kd.R_base ho0) hb); have n1_ := Aside0.mk (Kd.R_elder' (by (with_reducible repeat (first | apply Kd.R_alloc | apply Kd.R_drewN | apply Kd.R_drew)); exact HO12012.out) (Kd.R_base ho0) hb); have n2_ := Aside0.mk (Kd.R_elder' (by (with_reducible repeat (first | apply Kd.R_alloc | apply Kd.R_drewN | apply Kd.R_drew)); exact HO12015.out) (Kd.R_base ho0) hb); have n3_ := Aside0.mk (Kd.R_lower (Kd.R_new' (Kd.R_new' (Kd.R_new' ho0 (Kd.R_lt (by (with_reducible repeat (first | apply Kd.R_alloc | apply Kd.R_drewN | apply Kd.R_drew)); exact HO12008.out))) (Kd.R_lt (by (with_reducible repeat (first | apply Kd.R_alloc | apply Kd.R_drewN | apply Kd.R_drew)); exact HO12012.out))) (Kd.R_lt (by (with_reducible repeat (first | apply Kd.R_alloc | apply Kd.R_drewN | apply Kd.R_drew)); exact HO12015.out))) (below_size (by repeat (first | (with_reducible first | exact HB.out | apply below_alloc | apply pw_below_drewN | apply below_drew1 | refine below_set ?_ GE12001.out | refine below_set ?_ GE12002.out) | exact HB.out)))); have n4_ := Aside0.mk (blk_below (g := gb12001) (o := .cells #[.int .i64 a0_0, .slice A0_1 l0_1.length c0_1] 24 (0, 0)) (by (with_reducible repeat (first | refine blk_drewN ?_ _ | refine blk_drew ?_ | refine blk_alloc ?_ _)); exact BK12001.out) hb); have n5_ := Aside0.mk (blk_below (g := gb12002) (o := .cells #[.int .i64 a1_0, .slice A1_1 l1_1.length c1_1] 24 (0, 0)) (by (with_reducible repeat (first | refine blk_drewN ?_ _ | refine blk_drew ?_ | refine blk_alloc ?_ _)); exact BK12002.out) hb); have n6_ := Aside0.mk (below_step (by repeat (first | (with_reducible first | exact HB.out | apply below_alloc | apply pw_below_drewN | apply below_drew1 | refine below_set ?_ GE12001.out | refine below_set ?_ GE12002.out) | exact HB.out)) hb); clear HO12008; clear HO12012; clear HO12015; clear BK12001; clear BK12002; clear HB; have HO12008 := n0_; have HO12012 := n1_; have HO12015 := n2_; have HO12021 := n3_; have BK12001 := n4_; have BK12002 := n5_; have HB := n6_; clear n0_ n1_ n2_ n3_ n4_ n5_ n6_; (try clear hb); (try clear hb2); (try clear hk); (try clear hi); (try clear ho0)) | ((with_reducible refine gate_dst (N := 12) rfl ?_); refine box_event ?hg (N := 12) ?hd (cs := #[.int .i64 0, .slice none 0 0]) (t := 28) ?hr ?_; (case hd => rfl); (case hg => rfl); (case hr => first | (go_simp; done) | (go_simp; rfl)); intro gb12022 hg w50 hbox hb; have n0_ := Aside0.mk (Kd.R_below (by (with_reducible repeat (first | apply Kd.R_alloc | apply Kd.R_drewN | apply Kd.R_drew)); exact HO12008.out) hb); have n1_ := Aside0.mk (Kd.R_below (by (with_reducible repeat (first | apply Kd.R_alloc | apply Kd.R_drewN | apply Kd.R_drew)); exact HO12012.out) hb); have n2_ := Aside0.mk (Kd.R_below (by (with_reducible repeat (first | apply Kd.R_alloc | apply Kd.R_drewN | apply Kd.R_drew)); exact HO12015.out) hb); have n3_ := Aside0.mk (Kd.R_below (by (with_reducible repeat (first | apply Kd.R_alloc | apply Kd.R_drewN | apply Kd.R_drew)); exact HO12021.out) hb); have n4_ := Aside0.mk (blk_below (g := gb12001) (o := .cells #[.int .i64 a0_0, .slice A0_1 l0_1.length c0_1] 24 (0, 0)) (by (with_reducible repeat (first | refine blk_drewN ?_ _ | refine blk_drew ?_ | refine blk_alloc ?_ _)); exact BK12001.out) hb); have n5_ := Aside0.mk (blk_below (g := gb12002) (o := .cells #[.int .i64 a1_0, .slice A1_1 l1_1.length c1_1] 24 (0, 0)) (by (with_reducible repeat (first | refine blk_drewN ?_ _ | refine blk_drew ?_ | refine blk_alloc ?_ _)); exact BK12002.out) hb); have n6_ := Aside0.mk (below_step (by repeat (first | (with_reducible first | exact HB.out | apply below_alloc | apply pw_below_drewN | apply below_drew1 | refine below_set ?_ GE12001.out | refine below_set ?_ GE12002.out) | exact HB.out)) hb); have n7_ := Aside0.mk (hbox); have n8_ := Aside0.mk ((by rw [hg]; exact (below_size (by repeat (first | (with_reducible first | exact HB.out | apply below_alloc | apply pw_below_drewN | apply below_drew1 | refine below_set ?_ GE12001.out | refine below_set ?_ GE12002.out) | exact HB.out))) : w.heap.size ≤ gb12022)); have n9_ := Aside0.mk ((by rw [hg]; exact (below_size (by repeat (first | (with_reducible first | exact HB.out | apply below_alloc | apply pw_below_drewN | apply below_drew1 | refine below_set ?_ GE12001.out | refine below_set ?_ GE12002.out) | exact HB.out))) : w.heap.size ≤ gb12022)); have n10_ := Aside0.mk ((by rw [hg]; exact Nat.ne_of_lt (blk_lt (g := gb12001) (o := .cells #[.int .i64 a0_0, .slice A0_1 l0_1.length c0_1] 24 (0, 0)) (by (with_reducible repeat (first | refine blk_drewN ?_ _ | refine blk_drew ?_ | refine blk_alloc ?_ _)); exact BK12001.out)) : gb12001 ≠ gb12022)); have n11_ := Aside0.mk ((by rw [hg]; exact Nat.ne_of_gt (blk_lt (g := gb12001) (o := .cells #[.int .i64 a0_0, .slice A0_1 l0_1.length c0_1] 24 (0, 0)) (by (with_reducible repeat (first | refine blk_drewN ?_ _ | refine blk_drew ?_ | refine blk_alloc ?_ _)); exact BK12001.out)) : gb12022 ≠ gb12001)); have n12_ := Aside0.mk ((by rw [hg]; exact Nat.ne_of_lt (blk_lt (g := gb12002) (o := .cells #[.int .i64 a1_0, .slice A1_1 l1_1.length c1_1] 24 (0, 0)) (by (with_reducible repeat (first | refine blk_drewN ?_ _ | refine blk_drew ?_ | refine blk_alloc ?_ _)); exact BK12002.out)) : gb12002 ≠ gb12022)); have n13_ := Aside0.mk ((by rw [hg]; exact Nat.ne_of_gt (blk_lt (g := gb12002) (o := .cells #[.int .i64 a1_0, .slice A1_1 l1_1.length c1_1] 24 (0, 0)) (by (with_reducible repeat (first | refine blk_drewN ?_ _ | refine blk_drew ?_ | refine blk_alloc ?_ _)); exact BK12002.out)) : gb12022 ≠ gb12002)); clear HO12008; clear HO12012; clear HO12015; clear HO12021; clear BK12001; clear BK12002; clear HB; have HO12008 := n0_; have HO12012 := n1_; have HO12015 := n2_; have HO12021 := n3_; have BK12001 := n4_; have BK12002 := n5_; have HB := n6_; have BK12022 := n7_; have GW12022 := n8_; have GE12022 := n9_; have NB12001_12022 := n10_; have NB12022_12001 := n11_; have NB12002_12022 := n12_; have NB12022_12002 := n13_; clear n0_ n1_ n2_ n3_ n4_ n5_ n6_ n7_ n8_ n9_ n10_ n11_ n12_ n13_; clear hb hbox hg; have hnb51 := NB12022_12001.out; have hnc51 := NB12001_12022.out; have hnb52 := NB12022_12002.out; have hnc52 := NB12002_12022.out; have hcz53_0 : w50.cell? ⟨gb12022, 0, none⟩ = some (.int .i64 0) := (blk_cell BK12022.out 0).trans rfl; have hcz53_1 : w50.cell? ⟨gb12022, 1, none⟩ = some (.slice none 0 0) := (blk_cell BK12022.out 1).trans rfl; have hfz53_0 := blk_frozen BK12022.out 0; have hfz53_1 := blk_frozen BK12022.out 1; obtain ⟨Ao54, co54, eo54⟩ := Kd.R_slice HO12021.out; subst eo54; have hcz55_0 : w50.cell? ⟨gb12002, 0, none⟩ = some (.int .i64 a1_0) := (blk_cell BK12002.out 0).trans rfl; have hcz55_1 : w50.cell? ⟨gb12002, 1, none⟩ = some (.slice A1_1 l1_1.length c1_1) := (blk_cell BK12002.out 1).trans rfl; have hfz55_0 := blk_frozen BK12002.out 0; have hfz55_1 := blk_frozen BK12002.out 1) | ((with_reducible refine gate_callee (f := 35) rfl ?_); refine goesL_ (some 44) rfl rfl Try.func35 (by kernel_rfl) rfl #[.agg #[.int .i64 a1_0, .slice A1_1 l1_1.length c1_1]] rfl (by (try simp only [List.map_toArray, List.map_cons, List.map_nil]); first | done | rfl | (simp only [List.length_drop, List.length_take]; rfl)) ?_; (with_reducible refine (laws_toMatroid.calls k a1_0 _ _ l1_1 t12023 t12024 _ ?side1 ?side2 A29.out).mono ?_); (case side1 => exact Kd.C_below HR1_1.out (by repeat (first | (with_reducible first | exact HB.out | apply below_alloc | apply pw_below_drewN | apply below_drew1 | refine below_set ?_ GE12001.out | refine below_set ?_ GE12002.out | refine below_set ?_ GE12022.out) | exact HB.out))); (case side2 => exact HC1_1.out); rintro e w56 ⟨v12025, rfl, ho0, hb⟩; refine ⟨_, rfl, ?_⟩; have n0_ := Aside0.mk (Kd.R_elder' (by (with_reducible repeat (first | apply Kd.R_alloc | apply Kd.R_drewN | apply Kd.R_drew)); exact (Kd.R_mono (Kd.R_far (p := ⟨gb12022, 1, none⟩) (Kd.R_far (p := ⟨gb12022, 0, none⟩) (Kd.R_types HO12008.out BK12022.out (by decide)) (fun _ hk => hk.2) (.int .i64 t12018)) (fun _ hk => hk.2) (.slice Ao54 t12019.length co54)) (fun _ h_ => h_.1))) (Kd.R_base ho0) hb); have n1_ := Aside0.mk (Kd.R_elder' (by (with_reducible repeat (first | apply Kd.R_alloc | apply Kd.R_drewN | apply Kd.R_drew)); exact (Kd.R_mono (Kd.R_far (p := ⟨gb12022, 1, none⟩) (Kd.R_far (p := ⟨gb12022, 0, none⟩) (Kd.R_types HO12012.out BK12022.out (by decide)) (fun _ hk => hk.2) (.int .i64 t12018)) (fun _ hk => hk.2) (.slice Ao54 t12019.length co54)) (fun _ h_ => h_.1))) (Kd.R_base ho0) hb); have n2_ := Aside0.mk (Kd.R_elder' (by (with_reducible repeat (first | apply Kd.R_alloc | apply Kd.R_drewN | apply Kd.R_drew)); exact (Kd.R_mono (Kd.R_far (p := ⟨gb12022, 1, none⟩) (Kd.R_far (p := ⟨gb12022, 0, none⟩) (Kd.R_types HO12015.out BK12022.out (by decide)) (fun _ hk => hk.2) (.int .i64 t12018)) (fun _ hk => hk.2) (.slice Ao54 t12019.length co54)) (fun _ h_ => h_.1))) (Kd.R_base ho0) hb); have n3_ := Aside0.mk (Kd.R_elder' (by (with_reducible repeat (first | apply Kd.R_alloc | apply Kd.R_drewN | apply Kd.R_drew)); exact (Kd.R_mono (Kd.R_far (p := ⟨gb12022, 1, none⟩) (Kd.R_far (p := ⟨gb12022, 0, none⟩) (Kd.R_types HO12021.out BK12022.out (by decide)) (fun _ hk => hk.2) (.int .i64 t12018)) (fun _ hk => hk.2) (.slice Ao54 t12019.length co54)) (fun _ h_ => h_.1))) (Kd.R_base ho0) hb); have n4_ := Aside0.mk (Kd.R_lower (Kd.R_new' (Kd.R_new' (Kd.R_new' (Kd.R_new' ho0 (Kd.R_lt (by (with_reducible repeat (first | apply Kd.R_alloc | apply Kd.R_drewN | apply Kd.R_drew)); exact (Kd.R_mono (Kd.R_far (p := ⟨gb12022, 1, none⟩) (Kd.R_far (p := ⟨gb12022, 0, none⟩) (Kd.R_types HO12008.out BK12022.out (by decide)) (fun _ hk => hk.2) (.int .i64 t12018)) (fun _ hk => hk.2) (.slice Ao54 t12019.length co54)) (fun _ h_ => h_.1))))) (Kd.R_lt (by (with_reducible repeat (first | apply Kd.R_alloc | apply Kd.R_drewN | apply Kd.R_drew)); exact (Kd.R_mono (Kd.R_far (p := ⟨gb12022, 1, none⟩) (Kd.R_far (p := ⟨gb12022, 0, none⟩) (Kd.R_types HO12012.out BK12022.out (by decide)) (fun _ hk => hk.2) (.int .i64 t12018)) (fun _ hk => hk.2) (.slice Ao54 t12019.length co54)) (fun _ h_ => h_.1))))) (Kd.R_lt (by (with_reducible repeat (first | apply Kd.R_alloc | apply Kd.R_drewN | apply Kd.R_drew)); exact (Kd.R_mono (Kd.R_far (p := ⟨gb12022, 1, none⟩) (Kd.R_far (p := ⟨gb12022, 0, none⟩) (Kd.R_types HO12015.out BK12022.out (by decide)) (fun _ hk => hk.2) (.int .i64 t12018)) (fun _ hk => hk.2) (.slice Ao54 t12019.length co54)) (fun _ h_ => h_.1))))) (Kd.R_lt (by (with_reducible repeat (first | apply Kd.R_alloc | apply Kd.R_drewN | apply Kd.R_drew)); exact (Kd.R_mono (Kd.R_far (p := ⟨gb12022, 1, none⟩) (Kd.R_far (p := ⟨gb12022, 0, none⟩) (Kd.R_types HO12021.out BK12022.out (by decide)) (fun _ hk => hk.2) (.int .i64 t12018)) (fun _ hk => hk.2) (.slice Ao54 t12019.length co54)) (fun _ h_ => h_.1))))) (below_size (by repeat (first | (with_reducible first | exact HB.out | apply below_alloc | apply pw_below_drewN | apply below_drew1 | refine below_set ?_ GE12001.out | refine below_set ?_ GE12002.out | refine below_set ?_ GE12022.out) | exact HB.out)))); have n5_ := Aside0.mk (blk_below (g := gb12001) (o := .cells #[.int .i64 a0_0, .slice A0_1 l0_1.length c0_1] 24 (0, 0)) (by (with_reducible repeat (first | refine blk_drewN ?_ _ | refine blk_drew ?_ | refine blk_alloc ?_ _)); refine blk_far ?_ NB12001_12022.out _; (with_reducible repeat (first | refine blk_drewN ?_ _ | refine blk_drew ?_ | refine blk_alloc ?_ _)); refine blk_far ?_ NB12001_12022.out _; (with_reducible repeat (first | refine blk_drewN ?_ _ | refine blk_drew ?_ | refine blk_alloc ?_ _)); exact BK12001.out) hb); have n6_ := Aside0.mk (blk_below (g := gb12002) (o := .cells #[.int .i64 a1_0, .slice A1_1 l1_1.length c1_1] 24 (0, 0)) (by (with_reducible repeat (first | refine blk_drewN ?_ _ | refine blk_drew ?_ | refine blk_alloc ?_ _)); refine blk_far ?_ NB12002_12022.out _; (with_reducible repeat (first | refine blk_drewN ?_ _ | refine blk_drew ?_ | refine blk_alloc ?_ _)); refine blk_far ?_ NB12002_12022.out _; (with_reducible repeat (first | refine blk_drewN ?_ _ | refine blk_drew ?_ | refine blk_alloc ?_ _)); exact BK12002.out) hb); have n7_ := Aside0.mk (blk_below (g := gb12022) (o := .cells #[.int .i64 t12018, .slice Ao54 t12019.length co54] 28 (0, 0)) (by (with_reducible repeat (first | refine blk_drewN ?_ _ | refine blk_drew ?_ | refine blk_alloc ?_ _)); refine blk_put (cs := #[.int .i64 t12018, .slice none 0 0]) ?_ 1 _ rfl; (with_reducible repeat (first | refine blk_drewN ?_ _ | refine blk_drew ?_ | refine blk_alloc ?_ _)); refine blk_put (cs := #[.int .i64 0, .slice none 0 0]) ?_ 0 _ rfl; (with_reducible repeat (first | refine blk_drewN ?_ _ | refine blk_drew ?_ | refine blk_alloc ?_ _)); exact BK12022.out) hb); have n8_ := Aside0.mk (below_step (by repeat (first | (with_reducible first | exact HB.out | apply below_alloc | apply pw_below_drewN | apply below_drew1 | refine below_set ?_ GE12001.out | refine below_set ?_ GE12002.out | refine below_set ?_ GE12022.out) | exact HB.out)) hb); clear HO12008; clear HO12012; clear HO12015; clear HO12021; clear BK12001; clear BK12002; clear BK12022; clear HB; have HO12008 := n0_; have HO12012 := n1_; have HO12015 := n2_; have HO12021 := n3_; have HO12026 := n4_; have BK12001 := n5_; have BK12002 := n6_; have BK12022 := n7_; have HB := n8_; clear n0_ n1_ n2_ n3_ n4_ n5_ n6_ n7_ n8_; (try clear hb); (try clear hb2); (try clear hk); (try clear hi); (try clear ho0)) | ((with_reducible refine gate_dst (N := 13) rfl ?_); refine box_event ?hg (N := 13) ?hd (cs := #[.int .i64 0, .slice none 0 0]) (t := 28) ?hr ?_; (case hd => rfl); (case hg => rfl); (case hr => first | (go_simp; done) | (go_simp; rfl)); intro gb12027 hg w57 hbox hb; have n0_ := Aside0.mk (Kd.R_below (by (with_reducible repeat (first | apply Kd.R_alloc | apply Kd.R_drewN | apply Kd.R_drew)); exact HO12008.out) hb); have n1_ := Aside0.mk (Kd.R_below (by (with_reducible repeat (first | apply Kd.R_alloc | apply Kd.R_drewN | apply Kd.R_drew)); exact HO12012.out) hb); have n2_ := Aside0.mk (Kd.R_below (by (with_reducible repeat (first | apply Kd.R_alloc | apply Kd.R_drewN | apply Kd.R_drew)); exact HO12015.out) hb); have n3_ := Aside0.mk (Kd.R_below (by (with_reducible repeat (first | apply Kd.R_alloc | apply Kd.R_drewN | apply Kd.R_drew)); exact HO12021.out) hb); have n4_ := Aside0.mk (Kd.R_below (by (with_reducible repeat (first | apply Kd.R_alloc | apply Kd.R_drewN | apply Kd.R_drew)); exact HO12026.out) hb); have n5_ := Aside0.mk (blk_below (g := gb12001) (o := .cells #[.int .i64 a0_0, .slice A0_1 l0_1.length c0_1] 24 (0, 0)) (by (with_reducible repeat (first | refine blk_drewN ?_ _ | refine blk_drew ?_ | refine blk_alloc ?_ _)); exact BK12001.out) hb); have n6_ := Aside0.mk (blk_below (g := gb12002) (o := .cells #[.int .i64 a1_0, .slice A1_1 l1_1.length c1_1] 24 (0, 0)) (by (with_reducible repeat (first | refine blk_drewN ?_ _ | refine blk_drew ?_ | refine blk_alloc ?_ _)); exact BK12002.out) hb); have n7_ := Aside0.mk (blk_below (g := gb12022) (o := .cells #[.int .i64 t12018, .slice Ao54 t12019.length co54] 28 (0, 0)) (by (with_reducible repeat (first | refine blk_drewN ?_ _ | refine blk_drew ?_ | refine blk_alloc ?_ _)); exact BK12022.out) hb); have n8_ := Aside0.mk (below_step (by repeat (first | (with_reducible first | exact HB.out | apply below_alloc | apply pw_below_drewN | apply below_drew1 | refine below_set ?_ GE12001.out | refine below_set ?_ GE12002.out | refine below_set ?_ GE12022.out) | exact HB.out)) hb); have n9_ := Aside0.mk (hbox); have n10_ := Aside0.mk ((by rw [hg]; exact (below_size (by repeat (first | (with_reducible first | exact HB.out | apply below_alloc | apply pw_below_drewN | apply below_drew1 | refine below_set ?_ GE12001.out | refine below_set ?_ GE12002.out | refine below_set ?_ GE12022.out) | exact HB.out))) : w.heap.size ≤ gb12027)); have n11_ := Aside0.mk ((by rw [hg]; exact (below_size (by repeat (first | (with_reducible first | exact HB.out | apply below_alloc | apply pw_below_drewN | apply below_drew1 | refine below_set ?_ GE12001.out | refine below_set ?_ GE12002.out | refine below_set ?_ GE12022.out) | exact HB.out))) : w.heap.size ≤ gb12027)); have n12_ := Aside0.mk ((by rw [hg]; exact Nat.ne_of_lt (blk_lt (g := gb12001) (o := .cells #[.int .i64 a0_0, .slice A0_1 l0_1.length c0_1] 24 (0, 0)) (by (with_reducible repeat (first | refine blk_drewN ?_ _ | refine blk_drew ?_ | refine blk_alloc ?_ _)); exact BK12001.out)) : gb12001 ≠ gb12027)); have n13_ := Aside0.mk ((by rw [hg]; exact Nat.ne_of_gt (blk_lt (g := gb12001) (o := .cells #[.int .i64 a0_0, .slice A0_1 l0_1.length c0_1] 24 (0, 0)) (by (with_reducible repeat (first | refine blk_drewN ?_ _ | refine blk_drew ?_ | refine blk_alloc ?_ _)); exact BK12001.out)) : gb12027 ≠ gb12001)); have n14_ := Aside0.mk ((by rw [hg]; exact Nat.ne_of_lt (blk_lt (g := gb12002) (o := .cells #[.int .i64 a1_0, .slice A1_1 l1_1.length c1_1] 24 (0, 0)) (by (with_reducible repeat (first | refine blk_drewN ?_ _ | refine blk_drew ?_ | refine blk_alloc ?_ _)); exact BK12002.out)) : gb12002 ≠ gb12027)); have n15_ := Aside0.mk ((by rw [hg]; exact Nat.ne_of_gt (blk_lt (g := gb12002) (o := .cells #[.int .i64 a1_0, .slice A1_1 l1_1.length c1_1] 24 (0, 0)) (by (with_reducible repeat (first | refine blk_drewN ?_ _ | refine blk_drew ?_ | refine blk_alloc ?_ _)); exact BK12002.out)) : gb12027 ≠ gb12002)); have n16_ := Aside0.mk ((by rw [hg]; exact Nat.ne_of_lt (blk_lt (g := gb12022) (o := .cells #[.int .i64 t12018, .slice Ao54 t12019.length co54] 28 (0, 0)) (by (with_reducible repeat (first | refine blk_drewN ?_ _ | refine blk_drew ?_ | refine blk_alloc ?_ _)); exact BK12022.out)) : gb12022 ≠ gb12027)); have n17_ := Aside0.mk ((by rw [hg]; exact Nat.ne_of_gt (blk_lt (g := gb12022) (o := .cells #[.int .i64 t12018, .slice Ao54 t12019.length co54] 28 (0, 0)) (by (with_reducible repeat (first | refine blk_drewN ?_ _ | refine blk_drew ?_ | refine blk_alloc ?_ _)); exact BK12022.out)) : gb12027 ≠ gb12022)); clear HO12008; clear HO12012; clear HO12015; clear HO12021; clear HO12026; clear BK12001; clear BK12002; clear BK12022; clear HB; have HO12008 := n0_; have HO12012 := n1_; have HO12015 := n2_; have HO12021 := n3_; have HO12026 := n4_; have BK12001 := n5_; have BK12002 := n6_; have BK12022 := n7_; have HB := n8_; have BK12027 := n9_; have GW12027 := n10_; have GE12027 := n11_; have NB12001_12027 := n12_; have NB12027_12001 := n13_; have NB12002_12027 := n14_; have NB12027_12002 := n15_; have NB12022_12027 := n16_; have NB12027_12022 := n17_; clear n0_ n1_ n2_ n3_ n4_ n5_ n6_ n7_ n8_ n9_ n10_ n11_ n12_ n13_ n14_ n15_ n16_ n17_; clear hb hbox hg; have hnb58 := NB12027_12001.out; have hnc58 := NB12001_12027.out; have hnb59 := NB12027_12002.out; have hnc59 := NB12002_12027.out; have hnb60 := NB12027_12022.out; have hnc60 := NB12022_12027.out; have hcz61_0 : w57.cell? ⟨gb12027, 0, none⟩ = some (.int .i64 0) := (blk_cell BK12027.out 0).trans rfl; have hcz61_1 : w57.cell? ⟨gb12027, 1, none⟩ = some (.slice none 0 0) := (blk_cell BK12027.out 1).trans rfl; have hfz61_0 := blk_frozen BK12027.out 0; have hfz61_1 := blk_frozen BK12027.out 1; obtain ⟨Ao62, co62, eo62⟩ := Kd.R_slice HO12026.out; subst eo62) | ((with_reducible refine gate_callee (f := 47) rfl ?_); refine goesL_ (some 46) rfl rfl Try.func47 (by kernel_rfl) rfl #[.slice A2 l2.length c2] rfl (by (try simp only [List.map_toArray, List.map_cons, List.map_nil]); first | done | rfl | (simp only [List.length_drop, List.length_take]; rfl)) ?_; (with_reducible refine (laws_toIntS.calls k _ _ l2 t12028 _ ?side1 ?side2 A30.out).mono ?_); (case side1 => exact Kd.C_below HR2.out (by repeat (first | (with_reducible first | exact HB.out | apply below_alloc | apply pw_below_drewN | apply below_drew1 | refine below_set ?_ GE12001.out | refine below_set ?_ GE12002.out | refine below_set ?_ GE12022.out | refine below_set ?_ GE12027.out) | exact HB.out))); (case side2 => exact HC2.out); rintro e w63 ⟨v12029, rfl, ho0, hb⟩; refine ⟨_, rfl, ?_⟩; have n0_ := Aside0.mk (Kd.R_elder' (by (with_reducible repeat (first | apply Kd.R_alloc | apply Kd.R_drewN | apply Kd.R_drew)); exact (Kd.R_mono (Kd.R_far (p := ⟨gb12027, 1, none⟩) (Kd.R_far (p := ⟨gb12027, 0, none⟩) (Kd.R_types HO12008.out BK12027.out (by decide)) (fun _ hk => hk.2) (.int .i64 t12023)) (fun _ hk => hk.2) (.slice Ao62 t12024.length co62)) (fun _ h_ => h_.1))) (Kd.R_base ho0) hb); have n1_ := Aside0.mk (Kd.R_elder' (by (with_reducible repeat (first | apply Kd.R_alloc | apply Kd.R_drewN | apply Kd.R_drew)); exact (Kd.R_mono (Kd.R_far (p := ⟨gb12027, 1, none⟩) (Kd.R_far (p := ⟨gb12027, 0, none⟩) (Kd.R_types HO12012.out BK12027.out (by decide)) (fun _ hk => hk.2) (.int .i64 t12023)) (fun _ hk => hk.2) (.slice Ao62 t12024.length co62)) (fun _ h_ => h_.1))) (Kd.R_base ho0) hb); have n2_ := Aside0.mk (Kd.R_elder' (by (with_reducible repeat (first | apply Kd.R_alloc | apply Kd.R_drewN | apply Kd.R_drew)); exact (Kd.R_mono (Kd.R_far (p := ⟨gb12027, 1, none⟩) (Kd.R_far (p := ⟨gb12027, 0, none⟩) (Kd.R_types HO12015.out BK12027.out (by decide)) (fun _ hk => hk.2) (.int .i64 t12023)) (fun _ hk => hk.2) (.slice Ao62 t12024.length co62)) (fun _ h_ => h_.1))) (Kd.R_base ho0) hb); have n3_ := Aside0.mk (Kd.R_elder' (by (with_reducible repeat (first | apply Kd.R_alloc | apply Kd.R_drewN | apply Kd.R_drew)); exact (Kd.R_mono (Kd.R_far (p := ⟨gb12027, 1, none⟩) (Kd.R_far (p := ⟨gb12027, 0, none⟩) (Kd.R_types HO12021.out BK12027.out (by decide)) (fun _ hk => hk.2) (.int .i64 t12023)) (fun _ hk => hk.2) (.slice Ao62 t12024.length co62)) (fun _ h_ => h_.1))) (Kd.R_base ho0) hb); have n4_ := Aside0.mk (Kd.R_elder' (by (with_reducible repeat (first | apply Kd.R_alloc | apply Kd.R_drewN | apply Kd.R_drew)); exact (Kd.R_mono (Kd.R_far (p := ⟨gb12027, 1, none⟩) (Kd.R_far (p := ⟨gb12027, 0, none⟩) (Kd.R_types HO12026.out BK12027.out (by decide)) (fun _ hk => hk.2) (.int .i64 t12023)) (fun _ hk => hk.2) (.slice Ao62 t12024.length co62)) (fun _ h_ => h_.1))) (Kd.R_base ho0) hb); have n5_ := Aside0.mk (Kd.R_lower (Kd.R_new' (Kd.R_new' (Kd.R_new' (Kd.R_new' (Kd.R_new' ho0 (Kd.R_lt (by (with_reducible repeat (first | apply Kd.R_alloc | apply Kd.R_drewN | apply Kd.R_drew)); exact (Kd.R_mono (Kd.R_far (p := ⟨gb12027, 1, none⟩) (Kd.R_far (p := ⟨gb12027, 0, none⟩) (Kd.R_types HO12008.out BK12027.out (by decide)) (fun _ hk => hk.2) (.int .i64 t12023)) (fun _ hk => hk.2) (.slice Ao62 t12024.length co62)) (fun _ h_ => h_.1))))) (Kd.R_lt (by (with_reducible repeat (first | apply Kd.R_alloc | apply Kd.R_drewN | apply Kd.R_drew)); exact (Kd.R_mono (Kd.R_far (p := ⟨gb12027, 1, none⟩) (Kd.R_far (p := ⟨gb12027, 0, none⟩) (Kd.R_types HO12012.out BK12027.out (by decide)) (fun _ hk => hk.2) (.int .i64 t12023)) (fun _ hk => hk.2) (.slice Ao62 t12024.length co62)) (fun _ h_ => h_.1))))) (Kd.R_lt (by (with_reducible repeat (first | apply Kd.R_alloc | apply Kd.R_drewN | apply Kd.R_drew)); exact (Kd.R_mono (Kd.R_far (p := ⟨gb12027, 1, none⟩) (Kd.R_far (p := ⟨gb12027, 0, none⟩) (Kd.R_types HO12015.out BK12027.out (by decide)) (fun _ hk => hk.2) (.int .i64 t12023)) (fun _ hk => hk.2) (.slice Ao62 t12024.length co62)) (fun _ h_ => h_.1))))) (Kd.R_lt (by (with_reducible repeat (first | apply Kd.R_alloc | apply Kd.R_drewN | apply Kd.R_drew)); exact (Kd.R_mono (Kd.R_far (p := ⟨gb12027, 1, none⟩) (Kd.R_far (p := ⟨gb12027, 0, none⟩) (Kd.R_types HO12021.out BK12027.out (by decide)) (fun _ hk => hk.2) (.int .i64 t12023)) (fun _ hk => hk.2) (.slice Ao62 t12024.length co62)) (fun _ h_ => h_.1))))) (Kd.R_lt (by (with_reducible repeat (first | apply Kd.R_alloc | apply Kd.R_drewN | apply Kd.R_drew)); exact (Kd.R_mono (Kd.R_far (p := ⟨gb12027, 1, none⟩) (Kd.R_far (p := ⟨gb12027, 0, none⟩) (Kd.R_types HO12026.out BK12027.out (by decide)) (fun _ hk => hk.2) (.int .i64 t12023)) (fun _ hk => hk.2) (.slice Ao62 t12024.length co62)) (fun _ h_ => h_.1))))) (below_size (by repeat (first | (with_reducible first | exact HB.out | apply below_alloc | apply pw_below_drewN | apply below_drew1 | refine below_set ?_ GE12001.out | refine below_set ?_ GE12002.out | refine below_set ?_ GE12022.out | refine below_set ?_ GE12027.out) | exact HB.out)))); have n6_ := Aside0.mk (blk_below (g := gb12001) (o := .cells #[.int .i64 a0_0, .slice A0_1 l0_1.length c0_1] 24 (0, 0)) (by (with_reducible repeat (first | refine blk_drewN ?_ _ | refine blk_drew ?_ | refine blk_alloc ?_ _)); refine blk_far ?_ NB12001_12027.out _; (with_reducible repeat (first | refine blk_drewN ?_ _ | refine blk_drew ?_ | refine blk_alloc ?_ _)); refine blk_far ?_ NB12001_12027.out _; (with_reducible repeat (first | refine blk_drewN ?_ _ | refine blk_drew ?_ | refine blk_alloc ?_ _)); exact BK12001.out) hb); have n7_ := Aside0.mk (blk_below (g := gb12002) (o := .cells #[.int .i64 a1_0, .slice A1_1 l1_1.length c1_1] 24 (0, 0)) (by (with_reducible repeat (first | refine blk_drewN ?_ _ | refine blk_drew ?_ | refine blk_alloc ?_ _)); refine blk_far ?_ NB12002_12027.out _; (with_reducible repeat (first | refine blk_drewN ?_ _ | refine blk_drew ?_ | refine blk_alloc ?_ _)); refine blk_far ?_ NB12002_12027.out _; (with_reducible repeat (first | refine blk_drewN ?_ _ | refine blk_drew ?_ | refine blk_alloc ?_ _)); exact BK12002.out) hb); have n8_ := Aside0.mk (blk_below (g := gb12022) (o := .cells #[.int .i64 t12018, .slice Ao54 t12019.length co54] 28 (0, 0)) (by (with_reducible repeat (first | refine blk_drewN ?_ _ | refine blk_drew ?_ | refine blk_alloc ?_ _)); refine blk_far ?_ NB12022_12027.out _; (with_reducible repeat (first | refine blk_drewN ?_ _ | refine blk_drew ?_ | refine blk_alloc ?_ _)); refine blk_far ?_ NB12022_12027.out _; (with_reducible repeat (first | refine blk_drewN ?_ _ | refine blk_drew ?_ | refine blk_alloc ?_ _)); exact BK12022.out) hb); have n9_ := Aside0.mk (blk_below (g := gb12027) (o := .cells #[.int .i64 t12023, .slice Ao62 t12024.length co62] 28 (0, 0)) (by (with_reducible repeat (first | refine blk_drewN ?_ _ | refine blk_drew ?_ | refine blk_alloc ?_ _)); refine blk_put (cs := #[.int .i64 t12023, .slice none 0 0]) ?_ 1 _ rfl; (with_reducible repeat (first | refine blk_drewN ?_ _ | refine blk_drew ?_ | refine blk_alloc ?_ _)); refine blk_put (cs := #[.int .i64 0, .slice none 0 0]) ?_ 0 _ rfl; (with_reducible repeat (first | refine blk_drewN ?_ _ | refine blk_drew ?_ | refine blk_alloc ?_ _)); exact BK12027.out) hb); have n10_ := Aside0.mk (below_step (by repeat (first | (with_reducible first | exact HB.out | apply below_alloc | apply pw_below_drewN | apply below_drew1 | refine below_set ?_ GE12001.out | refine below_set ?_ GE12002.out | refine below_set ?_ GE12022.out | refine below_set ?_ GE12027.out) | exact HB.out)) hb); clear HO12008; clear HO12012; clear HO12015; clear HO12021; clear HO12026; clear BK12001; clear BK12002; clear BK12022; clear BK12027; clear HB; have HO12008 := n0_; have HO12012 := n1_; have HO12015 := n2_; have HO12021 := n3_; have HO12026 := n4_; have HO12030 := n5_; have BK12001 := n6_; have BK12002 := n7_; have BK12022 := n8_; have BK12027 := n9_; have HB := n10_; clear n0_ n1_ n2_ n3_ n4_ n5_ n6_ n7_ n8_ n9_ n10_; (try clear hb); (try clear hb2); (try clear hk); (try clear hi); (try clear ho0); have hcz64_0 : w63.cell? ⟨gb12022, 0, none⟩ = some (.int .i64 t12018) := (blk_cell BK12022.out 0).trans rfl; have hcz64_1 : w63.cell? ⟨gb12022, 1, none⟩ = some (.slice Ao54 t12019.length co54) := (blk_cell BK12022.out 1).trans rfl; have hfz64_0 := blk_frozen BK12022.out 0; have hfz64_1 := blk_frozen BK12022.out 1; have hcz65_0 : w63.cell? ⟨gb12027, 0, none⟩ = some (.int .i64 t12023) := (blk_cell BK12027.out 0).trans rfl; have hcz65_1 : w63.cell? ⟨gb12027, 1, none⟩ = some (.slice Ao62 t12024.length co62) := (blk_cell BK12027.out 1).trans rfl; have hfz65_0 := blk_frozen BK12027.out 0; have hfz65_1 := blk_frozen BK12027.out 1; obtain ⟨Ao66, co66, eo66⟩ := Kd.R_slice HO12030.out; subst eo66) | ((with_reducible refine gate_callee (f := 59) rfl ?_); refine goesL_ (some 52) rfl rfl Try.func59 (by kernel_rfl) rfl #[.agg #[.int .i64 t12018, .slice Ao54 t12019.length co54], .agg #[.int .i64 t12023, .slice Ao62 t12024.length co62], .slice Ao66 t12028.length co66, .int .i64 a3] rfl (by (try simp only [List.map_toArray, List.map_cons, List.map_nil]); first | done | rfl | (simp only [List.length_drop, List.length_take]; rfl)) ?_; (with_reducible refine (impl_BestCommon.calls k t12018 _ _ t12019 t12023 _ _ t12024 _ _ t12028 a3 t12031 t12032 _ ?side1 ?side2 ?side3 ?side4 ?side5 ?side6 A31.out).mono ?_); (case side1 => repeat (first | exact (Kd.R_reads' HO12021.out).2.2 | (with_reducible refine Kd.C_alloc ?_ _) | (with_reducible refine Kd.C_drewN ?_ _) | (with_reducible refine Kd.C_drew ?_))); (case side2 => exact (Kd.R_reads' HO12021.out).2.1); (case side3 => repeat (first | exact (Kd.R_reads' HO12026.out).2.2 | (with_reducible refine Kd.C_alloc ?_ _) | (with_reducible refine Kd.C_drewN ?_ _) | (with_reducible refine Kd.C_drew ?_))); (case side4 => exact (Kd.R_reads' HO12026.out).2.1); (case side5 => repeat (first | exact (Kd.R_reads' HO12030.out).2.2 | (with_reducible refine Kd.C_alloc ?_ _) | (with_reducible refine Kd.C_drewN ?_ _) | (with_reducible refine Kd.C_drew ?_))); (case side6 => exact (Kd.R_reads' HO12030.out).2.1); rintro e w67 ⟨rfl, hb⟩; refine ⟨_, rfl, ?_⟩; have n0_ := Aside0.mk (Kd.R_below (by (with_reducible repeat (first | apply Kd.R_alloc | apply Kd.R_drewN | apply Kd.R_drew)); exact HO12008.out) hb); have n1_ := Aside0.mk (Kd.R_below (by (with_reducible repeat (first | apply Kd.R_alloc | apply Kd.R_drewN | apply Kd.R_drew)); exact HO12012.out) hb); have n2_ := Aside0.mk (Kd.R_below (by (with_reducible repeat (first | apply Kd.R_alloc | apply Kd.R_drewN | apply Kd.R_drew)); exact HO12015.out) hb); have n3_ := Aside0.mk (Kd.R_below (by (with_reducible repeat (first | apply Kd.R_alloc | apply Kd.R_drewN | apply Kd.R_drew)); exact HO12021.out) hb); have n4_ := Aside0.mk (Kd.R_below (by (with_reducible repeat (first | apply Kd.R_alloc | apply Kd.R_drewN | apply Kd.R_drew)); exact HO12026.out) hb); have n5_ := Aside0.mk (Kd.R_below (by (with_reducible repeat (first | apply Kd.R_alloc | apply Kd.R_drewN | apply Kd.R_drew)); exact HO12030.out) hb); have n6_ := Aside0.mk (blk_below (g := gb12001) (o := .cells #[.int .i64 a0_0, .slice A0_1 l0_1.length c0_1] 24 (0, 0)) (by (with_reducible repeat (first | refine blk_drewN ?_ _ | refine blk_drew ?_ | refine blk_alloc ?_ _)); exact BK12001.out) hb); have n7_ := Aside0.mk (blk_below (g := gb12002) (o := .cells #[.int .i64 a1_0, .slice A1_1 l1_1.length c1_1] 24 (0, 0)) (by (with_reducible repeat (first | refine blk_drewN ?_ _ | refine blk_drew ?_ | refine blk_alloc ?_ _)); exact BK12002.out) hb); have n8_ := Aside0.mk (blk_below (g := gb12022) (o := .cells #[.int .i64 t12018, .slice Ao54 t12019.length co54] 28 (0, 0)) (by (with_reducible repeat (first | refine blk_drewN ?_ _ | refine blk_drew ?_ | refine blk_alloc ?_ _)); exact BK12022.out) hb); have n9_ := Aside0.mk (blk_below (g := gb12027) (o := .cells #[.int .i64 t12023, .slice Ao62 t12024.length co62] 28 (0, 0)) (by (with_reducible repeat (first | refine blk_drewN ?_ _ | refine blk_drew ?_ | refine blk_alloc ?_ _)); exact BK12027.out) hb); have n10_ := Aside0.mk (below_step (by repeat (first | (with_reducible first | exact HB.out | apply below_alloc | apply pw_below_drewN | apply below_drew1 | refine below_set ?_ GE12001.out | refine below_set ?_ GE12002.out | refine below_set ?_ GE12022.out | refine below_set ?_ GE12027.out) | exact HB.out)) hb); clear HO12008; clear HO12012; clear HO12015; clear HO12021; clear HO12026; clear HO12030; clear BK12001; clear BK12002; clear BK12022; clear BK12027; clear HB; have HO12008 := n0_; have HO12012 := n1_; have HO12015 := n2_; have HO12021 := n3_; have HO12026 := n4_; have HO12030 := n5_; have BK12001 := n6_; have BK12002 := n7_; have BK12022 := n8_; have BK12027 := n9_; have HB := n10_; clear n0_ n1_ n2_ n3_ n4_ n5_ n6_ n7_ n8_ n9_ n10_; (try clear hb); (try clear hb2); (try clear hk); (try clear hi)))
        (try simp only [Act.put, List.setIfInBounds_toArray, List.set_cons_zero, List.set_cons_succ])
        go_cut [62] (fun v62 wc => ∃ (kq : Nat) (x62_31 : Bool), v62 = .bool x62_31 ∧ Aside0 (laws_FnExactBestCommon.j0 kq l2 t12028 x62_31 a0_0 l0_1 a1_0 l1_1 t12018 t12019 t12023 t12024 = some true) ∧ Aside0 (kq ≤ k) ∧ Aside0 (Kd.R (Kd.int .i64) 3 wc w.heap.size (fun k_ => some k_ ≠ ((.slice Ao54 t12019.length co54) : Value).ownBlock ∧ some k_ ≠ ((.slice Ao62 t12024.length co62) : Value).ownBlock) (.slice Ao66 t12028.length co66) t12028) ∧ Aside0 (Kd.R (Kd.int .i64) 3 wc w.heap.size (fun k_ => some k_ ≠ ((.slice Ao66 t12028.length co66) : Value).ownBlock ∧ some k_ ≠ ((.slice Ao62 t12024.length co62) : Value).ownBlock) (.slice Ao54 t12019.length co54) t12019) ∧ Aside0 (Kd.R (Kd.int .i64) 3 wc w.heap.size (fun k_ => some k_ ≠ ((.slice Ao66 t12028.length co66) : Value).ownBlock ∧ some k_ ≠ ((.slice Ao54 t12019.length co54) : Value).ownBlock) (.slice Ao62 t12024.length co62) t12024) ∧ Aside0 (wc.heap[gb12001]? = some (.cells #[.int .i64 a0_0, (.slice A0_1 l0_1.length c0_1)] 24 (0, 0))) ∧ Aside0 (wc.heap[gb12002]? = some (.cells #[.int .i64 a1_0, (.slice A1_1 l1_1.length c1_1)] 24 (0, 0))) ∧ Aside0 (wc.heap[gb12022]? = some (.cells #[.int .i64 t12018, (.slice Ao54 t12019.length co54)] 28 (0, 0))) ∧ Aside0 (wc.heap[gb12027]? = some (.cells #[.int .i64 t12023, (.slice Ao62 t12024.length co62)] 28 (0, 0))) ∧ Aside0 (Below w.heap.size w wc))
        case first =>
          have H := HC32.out
          clear HC32
          by_cases c68 : t12031 = t12016
          · rw [if_pos c68] at H
            have c68b0 : (t12031 == t12016) = true := beq_iff_eq.mpr c68
            have c68b1 : (t12031 != t12016) = false := bne_eq_false_iff_eq.mpr c68
            clear c68
            (first | rw [c68b0] | (simp only [i64_w, i32_w]; rw [c68b0]) | skip)
            have H' := Aside0.mk H
            clear H
            go_wp2
            go_meet
            case rel => exact ⟨_, ((t12032 != t12017)), (by first | rfl | (simp; done) | (simp [*]; done)), H', ⟨by first | omega | exact Nat.le_refl _⟩, ⟨by (with_reducible repeat (first | apply Kd.R_alloc | apply Kd.R_drewN | apply Kd.R_drew)); exact Kd.R_mono HO12030.out (fun _ hk => ⟨hk.1.2, hk.2⟩)⟩, ⟨by (with_reducible repeat (first | apply Kd.R_alloc | apply Kd.R_drewN | apply Kd.R_drew)); exact Kd.R_mono HO12021.out (fun _ hk => ⟨hk.2, hk.1.2⟩)⟩, ⟨by (with_reducible repeat (first | apply Kd.R_alloc | apply Kd.R_drewN | apply Kd.R_drew)); exact Kd.R_mono HO12026.out (fun _ hk => ⟨hk.2, hk.1.2⟩)⟩, ⟨by (with_reducible repeat (first | refine blk_drewN ?_ _ | refine blk_drew ?_ | refine blk_alloc ?_ _)); exact BK12001.out⟩, ⟨by (with_reducible repeat (first | refine blk_drewN ?_ _ | refine blk_drew ?_ | refine blk_alloc ?_ _)); exact BK12002.out⟩, ⟨by (with_reducible repeat (first | refine blk_drewN ?_ _ | refine blk_drew ?_ | refine blk_alloc ?_ _)); exact BK12022.out⟩, ⟨by (with_reducible repeat (first | refine blk_drewN ?_ _ | refine blk_drew ?_ | refine blk_alloc ?_ _)); exact BK12027.out⟩, ⟨by repeat (first | (with_reducible first | exact HB.out | apply below_alloc | apply pw_below_drewN | apply below_drew1 | refine below_set ?_ GE12001.out | refine below_set ?_ GE12002.out | refine below_set ?_ GE12022.out | refine below_set ?_ GE12027.out) | exact HB.out)⟩⟩
          · rw [if_neg c68] at H
            have c68b0 : (t12031 == t12016) = false := beq_eq_false_iff_ne.mpr c68
            have c68b1 : (t12031 != t12016) = true := bne_iff_ne.mpr c68
            (first | rw [c68b0] | (simp only [i64_w, i32_w]; rw [c68b0]) | skip)
            have H' := Aside0.mk H
            clear H
            go_wp2
            go_meet
            case rel => exact ⟨_, (true), (by first | rfl | (simp; done) | (simp [*]; done)), H', ⟨by first | omega | exact Nat.le_refl _⟩, ⟨by (with_reducible repeat (first | apply Kd.R_alloc | apply Kd.R_drewN | apply Kd.R_drew)); exact Kd.R_mono HO12030.out (fun _ hk => ⟨hk.1.2, hk.2⟩)⟩, ⟨by (with_reducible repeat (first | apply Kd.R_alloc | apply Kd.R_drewN | apply Kd.R_drew)); exact Kd.R_mono HO12021.out (fun _ hk => ⟨hk.2, hk.1.2⟩)⟩, ⟨by (with_reducible repeat (first | apply Kd.R_alloc | apply Kd.R_drewN | apply Kd.R_drew)); exact Kd.R_mono HO12026.out (fun _ hk => ⟨hk.2, hk.1.2⟩)⟩, ⟨by (with_reducible repeat (first | refine blk_drewN ?_ _ | refine blk_drew ?_ | refine blk_alloc ?_ _)); exact BK12001.out⟩, ⟨by (with_reducible repeat (first | refine blk_drewN ?_ _ | refine blk_drew ?_ | refine blk_alloc ?_ _)); exact BK12002.out⟩, ⟨by (with_reducible repeat (first | refine blk_drewN ?_ _ | refine blk_drew ?_ | refine blk_alloc ?_ _)); exact BK12022.out⟩, ⟨by (with_reducible repeat (first | refine blk_drewN ?_ _ | refine blk_drew ?_ | refine blk_alloc ?_ _)); exact BK12027.out⟩, ⟨by repeat (first | (with_reducible first | exact HB.out | apply below_alloc | apply pw_below_drewN | apply below_drew1 | refine below_set ?_ GE12001.out | refine below_set ?_ GE12002.out | refine below_set ?_ GE12022.out | refine below_set ?_ GE12027.out) | exact HB.out)⟩⟩
        case rest =>
          clear HC32
          try clear c1
          try clear c2
          try clear p2
          try clear c3
          try clear c4
          try clear c5
          try clear c5b0
          try clear c5b1
          try clear c6
          try clear c9
          try clear c9b0
          try clear c11
          try clear c12
          try clear c16
          try clear c16b0
          try clear c19
          try clear c33
          try clear c35
          try clear c47
          try clear c51
          try clear c52
          try clear c58
          try clear c59
          try clear c60
          try clear c68
          try clear c68b0
          try clear c68b1
          try clear hcz13_0
          try clear hcz13_1
          try clear hcz20_0
          try clear hcz20_1
          try clear hcz22_0
          try clear hcz22_1
          try clear hcz36_0
          try clear hcz36_1
          try clear hcz38_0
          try clear hcz38_1
          try clear hcz48_0
          try clear hcz48_1
          try clear hcz53_0
          try clear hcz53_1
          try clear hcz55_0
          try clear hcz55_1
          try clear hcz61_0
          try clear hcz61_1
          try clear hcz64_0
          try clear hcz64_1
          try clear hcz65_0
          try clear hcz65_1
          try clear hfz13_0
          try clear hfz13_1
          try clear hfz20_0
          try clear hfz20_1
          try clear hfz22_0
          try clear hfz22_1
          try clear hfz36_0
          try clear hfz36_1
          try clear hfz38_0
          try clear hfz38_1
          try clear hfz48_0
          try clear hfz48_1
          try clear hfz53_0
          try clear hfz53_1
          try clear hfz55_0
          try clear hfz55_1
          try clear hfz61_0
          try clear hfz61_1
          try clear hfz64_0
          try clear hfz64_1
          try clear hfz65_0
          try clear hfz65_1
          obtain ⟨kq, x62_31, rfl, HA, HJ31, HO_14, HO_12023001, HO_12028001, BK12001, BK12002, BK12022, BK12027, HB⟩ := hcut
          cases kq with
          | zero => exact absurd HA.out (by simp [laws_FnExactBestCommon.j0])
          | succ kj31 =>
            have H := HA.out
            clear HA
            simp only [laws_FnExactBestCommon.j0] at H
            by_cases c69 : x62_31 = true
            · subst c69
              have H1 : (some false) = some true := by rw [if_pos rfl] at H; exact H
              clear H
              have H := H1
              clear H1
              exact absurd (Option.some.inj H) (by decide)
            · replace c69 := Bool.eq_false_iff.mpr c69
              subst c69
              have H1 : ((laws_toMatroid.f kj31 a0_0 l0_1).bind fun bt12033 => ((laws_eqMatroid.f kj31 t12018 t12019 bt12033.1 bt12033.2).bind fun t12037 => (if t12037 = true then ((laws_toMatroid.f kj31 a1_0 l1_1).bind fun bt12038 => ((laws_eqMatroid.f kj31 t12023 t12024 bt12038.1 bt12038.2).bind fun t12042 => (if t12042 = true then ((laws_toIntS.f kj31 l2).bind fun t12043 => ((laws_eqIntS.f kj31 t12028 t12043).bind fun t12046 => (if t12046 = true then (some true) else (some false)))) else (some false)))) else (some false)))) = some true := by rw [if_neg (show ¬ (false = true) by decide)] at H; exact H
              clear H
              have H := H1
              clear H1
              replace H := Option.bind_eq_some_iff.mp H
              obtain ⟨⟨t12033, t12034⟩, A700, H⟩ := H
              replace H : ((laws_eqMatroid.f kj31 t12018 t12019 t12033 t12034).bind fun t12037 => (if t12037 = true then ((laws_toMatroid.f kj31 a1_0 l1_1).bind fun bt12038 => ((laws_eqMatroid.f kj31 t12023 t12024 bt12038.1 bt12038.2).bind fun t12042 => (if t12042 = true then ((laws_toIntS.f kj31 l2).bind fun t12043 => ((laws_eqIntS.f kj31 t12028 t12043).bind fun t12046 => (if t12046 = true then (some true) else (some false)))) else (some false)))) else (some false))) = some true := H
              have A70 := Aside0.mk A700
              clear A700
              replace H := Option.bind_eq_some_iff.mp H
              obtain ⟨t12037, A710, H⟩ := H
              replace H : (if t12037 = true then ((laws_toMatroid.f kj31 a1_0 l1_1).bind fun bt12038 => ((laws_eqMatroid.f kj31 t12023 t12024 bt12038.1 bt12038.2).bind fun t12042 => (if t12042 = true then ((laws_toIntS.f kj31 l2).bind fun t12043 => ((laws_eqIntS.f kj31 t12028 t12043).bind fun t12046 => (if t12046 = true then (some true) else (some false)))) else (some false)))) else (some false)) = some true := H
              have A71 := Aside0.mk A710
              clear A710
              by_cases c72 : t12037 = true
              · subst c72
                have H1 : ((laws_toMatroid.f kj31 a1_0 l1_1).bind fun bt12038 => ((laws_eqMatroid.f kj31 t12023 t12024 bt12038.1 bt12038.2).bind fun t12042 => (if t12042 = true then ((laws_toIntS.f kj31 l2).bind fun t12043 => ((laws_eqIntS.f kj31 t12028 t12043).bind fun t12046 => (if t12046 = true then (some true) else (some false)))) else (some false)))) = some true := by rw [if_pos rfl] at H; exact H
                clear H
                have H := H1
                clear H1
                replace H := Option.bind_eq_some_iff.mp H
                obtain ⟨⟨t12038, t12039⟩, A730, H⟩ := H
                replace H : ((laws_eqMatroid.f kj31 t12023 t12024 t12038 t12039).bind fun t12042 => (if t12042 = true then ((laws_toIntS.f kj31 l2).bind fun t12043 => ((laws_eqIntS.f kj31 t12028 t12043).bind fun t12046 => (if t12046 = true then (some true) else (some false)))) else (some false))) = some true := H
                have A73 := Aside0.mk A730
                clear A730
                replace H := Option.bind_eq_some_iff.mp H
                obtain ⟨t12042, A740, H⟩ := H
                replace H : (if t12042 = true then ((laws_toIntS.f kj31 l2).bind fun t12043 => ((laws_eqIntS.f kj31 t12028 t12043).bind fun t12046 => (if t12046 = true then (some true) else (some false)))) else (some false)) = some true := H
                have A74 := Aside0.mk A740
                clear A740
                by_cases c75 : t12042 = true
                · subst c75
                  have H1 : ((laws_toIntS.f kj31 l2).bind fun t12043 => ((laws_eqIntS.f kj31 t12028 t12043).bind fun t12046 => (if t12046 = true then (some true) else (some false)))) = some true := by rw [if_pos rfl] at H; exact H
                  clear H
                  have H := H1
                  clear H1
                  replace H := Option.bind_eq_some_iff.mp H
                  obtain ⟨t12043, A760, H⟩ := H
                  replace H : ((laws_eqIntS.f kj31 t12028 t12043).bind fun t12046 => (if t12046 = true then (some true) else (some false))) = some true := H
                  have A76 := Aside0.mk A760
                  clear A760
                  replace H := Option.bind_eq_some_iff.mp H
                  obtain ⟨t12046, A770, H⟩ := H
                  replace H : (if t12046 = true then (some true) else (some false)) = some true := H
                  have A77 := Aside0.mk A770
                  clear A770
                  by_cases c78 : t12046 = true
                  · subst c78
                    have H1 : (some true) = some true := rfl
                    clear H
                    have H := H1
                    clear H1
                    clear H
                    try go_wp2
                    have n0_ := Aside0.mk (Kd.R_drew HO_14.out)
                    have n1_ := Aside0.mk (Kd.R_drew HO_12023001.out)
                    have n2_ := Aside0.mk (Kd.R_drew HO_12028001.out)
                    have n3_ := Aside0.mk (blk_drew BK12001.out)
                    have n4_ := Aside0.mk (blk_drew BK12002.out)
                    have n5_ := Aside0.mk (blk_drew BK12022.out)
                    have n6_ := Aside0.mk (blk_drew BK12027.out)
                    have n7_ := Aside0.mk (below_drew1 HB.out)
                    clear HO_14
                    clear HO_12023001
                    clear HO_12028001
                    clear BK12001
                    clear BK12002
                    clear BK12022
                    clear BK12027
                    clear HB
                    have HO_14 := n0_
                    have HO_12023001 := n1_
                    have HO_12028001 := n2_
                    have BK12001 := n3_
                    have BK12002 := n4_
                    have BK12022 := n5_
                    have BK12027 := n6_
                    have HB := n7_
                    clear n0_ n1_ n2_ n3_ n4_ n5_ n6_ n7_
                    refine start_ (n := 5) (S := fun w' => w'.cell? ⟨gb12022, 0, none⟩ = some (.int .i64 t12018) ∧ w'.cell? ⟨gb12022, 1, none⟩ = some (.slice Ao54 t12019.length co54) ∧ w'.cell? ⟨gb12001, 0, none⟩ = some (.int .i64 a0_0) ∧ w'.cell? ⟨gb12001, 1, none⟩ = some (.slice A0_1 l0_1.length c0_1)) (ds := []) #[false, false, false, false, false] (by kernel_rfl) rfl rfl ⟨(blk_cell BK12022.out 0).trans rfl, (blk_cell BK12022.out 1).trans rfl, (blk_cell BK12001.out 0).trans rfl, (blk_cell BK12001.out 1).trans rfl⟩ (fun hHeld => ?_)
                    generalize wc.drew = w79 at HO_14 HO_12023001 HO_12028001 BK12001 BK12002 BK12022 BK12027 HB hHeld ⊢
                    refine take_ (i := 0) (N := some 63) (v := ?_) (a' := ?_) #[true, false, false, false, false] rfl rfl (by kernel_rfl) (fun _ _ _ h => h) (Or.inl ⟨by rfl, ?_⟩) hHeld ?_ ?_
                    rotate_left
                    · rintro w' ⟨s0, s1, s2, s3⟩
                      go_simp
                      with_reducible rfl
                    rotate_left
                    · simp only [Act.put, List.setIfInBounds_toArray, List.set_cons_zero, List.set_cons_succ, i64_w, i32_w]
                      rfl
                    refine take_ (i := 1) (N := some 64) (v := ?_) (a' := ?_) #[true, true, false, false, false] rfl rfl (by kernel_rfl) (fun _ _ _ h => h) (Or.inl ⟨by rfl, ?_⟩) hHeld ?_ ?_
                    rotate_left
                    · rintro w' ⟨s0, s1, s2, s3⟩
                      go_simp
                      with_reducible rfl
                    rotate_left
                    · simp only [Act.put, List.setIfInBounds_toArray, List.set_cons_zero, List.set_cons_succ, i64_w, i32_w]
                      rfl
                    refine one_ (i := 2) (N := some 65) #[true, true, true, false, false] rfl rfl (by kernel_rfl) (by decide) (fun K hK => ?_)
                    refine goes_ Try.func35 (by kernel_rfl) rfl #[.agg #[.int .i64 a0_0, .slice A0_1 l0_1.length c0_1]] (by rfl) rfl rfl (by (try simp only [List.map_toArray, List.map_cons, List.map_nil]); first | done | rfl | (simp only [List.length_drop, List.length_take]; rfl)) ?_
                    with_reducible refine (laws_toMatroid.calls kj31 a0_0 _ _ l0_1 t12033 t12034 _ ?side1 ?side2 A70.out).mono ?_
                    (case side1 => repeat (first | exact (Kd.C_below HR0_1.out HB.out) | (with_reducible refine Kd.C_alloc ?_ _) | (with_reducible refine Kd.C_drewN ?_ _) | (with_reducible refine Kd.C_drew ?_)))
                    (case side2 => exact HC0_1.out)
                    rintro e w80 ⟨v12035, rfl, ho0, hb⟩
                    refine ⟨_, rfl, ?_⟩
                    have n0_ := Aside0.mk (Kd.R_elder' (by (with_reducible repeat (first | apply Kd.R_alloc | apply Kd.R_drewN | apply Kd.R_drew)); exact HO_14.out) (Kd.R_base ho0) hb)
                    have n1_ := Aside0.mk (Kd.R_elder' (by (with_reducible repeat (first | apply Kd.R_alloc | apply Kd.R_drewN | apply Kd.R_drew)); exact HO_12023001.out) (Kd.R_base ho0) hb)
                    have n2_ := Aside0.mk (Kd.R_elder' (by (with_reducible repeat (first | apply Kd.R_alloc | apply Kd.R_drewN | apply Kd.R_drew)); exact HO_12028001.out) (Kd.R_base ho0) hb)
                    have n3_ := Aside0.mk (Kd.R_lower (Kd.R_new' (Kd.R_new' (Kd.R_new' ho0 (Kd.R_lt (by (with_reducible repeat (first | apply Kd.R_alloc | apply Kd.R_drewN | apply Kd.R_drew)); exact HO_14.out))) (Kd.R_lt (by (with_reducible repeat (first | apply Kd.R_alloc | apply Kd.R_drewN | apply Kd.R_drew)); exact HO_12023001.out))) (Kd.R_lt (by (with_reducible repeat (first | apply Kd.R_alloc | apply Kd.R_drewN | apply Kd.R_drew)); exact HO_12028001.out))) (below_size (by repeat (first | (with_reducible first | exact HB.out | apply below_alloc | apply pw_below_drewN | apply below_drew1 | refine below_set ?_ GE12001.out | refine below_set ?_ GE12002.out | refine below_set ?_ GE12022.out | refine below_set ?_ GE12027.out) | exact HB.out))))
                    have n4_ := Aside0.mk (blk_below (g := gb12001) (o := .cells #[.int .i64 a0_0, .slice A0_1 l0_1.length c0_1] 24 (0, 0)) (by (with_reducible repeat (first | refine blk_drewN ?_ _ | refine blk_drew ?_ | refine blk_alloc ?_ _)); exact BK12001.out) hb)
                    have n5_ := Aside0.mk (blk_below (g := gb12002) (o := .cells #[.int .i64 a1_0, .slice A1_1 l1_1.length c1_1] 24 (0, 0)) (by (with_reducible repeat (first | refine blk_drewN ?_ _ | refine blk_drew ?_ | refine blk_alloc ?_ _)); exact BK12002.out) hb)
                    have n6_ := Aside0.mk (blk_below (g := gb12022) (o := .cells #[.int .i64 t12018, .slice Ao54 t12019.length co54] 28 (0, 0)) (by (with_reducible repeat (first | refine blk_drewN ?_ _ | refine blk_drew ?_ | refine blk_alloc ?_ _)); exact BK12022.out) hb)
                    have n7_ := Aside0.mk (blk_below (g := gb12027) (o := .cells #[.int .i64 t12023, .slice Ao62 t12024.length co62] 28 (0, 0)) (by (with_reducible repeat (first | refine blk_drewN ?_ _ | refine blk_drew ?_ | refine blk_alloc ?_ _)); exact BK12027.out) hb)
                    have n8_ := Aside0.mk (below_step (by repeat (first | (with_reducible first | exact HB.out | apply below_alloc | apply pw_below_drewN | apply below_drew1 | refine below_set ?_ GE12001.out | refine below_set ?_ GE12002.out | refine below_set ?_ GE12022.out | refine below_set ?_ GE12027.out) | exact HB.out)) hb)
                    clear HO_14
                    clear HO_12023001
                    clear HO_12028001
                    clear BK12001
                    clear BK12002
                    clear BK12022
                    clear BK12027
                    clear HB
                    have HO_14 := n0_
                    have HO_12023001 := n1_
                    have HO_12028001 := n2_
                    have HO12036 := n3_
                    have BK12001 := n4_
                    have BK12002 := n5_
                    have BK12022 := n6_
                    have BK12027 := n7_
                    have HB := n8_
                    clear n0_ n1_ n2_ n3_ n4_ n5_ n6_ n7_ n8_
                    (try clear hb)
                    (try clear hb2)
                    (try clear hk)
                    (try clear hi)
                    (try clear ho0)
                    obtain ⟨Ao81, co81, eo81⟩ := Kd.R_slice HO12036.out
                    (first | subst eo81 | (injection eo81 with f1_ f2_ f3_; have f4_ := f1_.symm; have f5_ := f3_.symm; clear f1_ f2_ f3_; subst f4_; subst f5_))
                    refine hK.out _ _ ⟨(blk_cell BK12022.out 0).trans rfl, (blk_cell BK12022.out 1).trans rfl, (blk_cell BK12001.out 0).trans rfl, (blk_cell BK12001.out 1).trans rfl⟩ (fun hHeld => ?_)
                    clear hK K
                    refine norm_ (a' := ?_) ?_ ?_
                    rotate_left
                    · show Act.put _ (some 65) _ = _
                      simp only [Act.put, List.setIfInBounds_toArray, List.set_cons_zero, List.set_cons_succ, i64_w, i32_w]
                      rfl
                    refine one_ (i := 3) (N := some 66) #[true, true, true, true, false] rfl rfl (by kernel_rfl) (by decide) (fun K hK => ?_)
                    refine goes_ Try.func38 (by kernel_rfl) rfl #[.agg #[.int .i64 t12018, .slice Ao54 t12019.length co54], .agg #[.int .i64 t12033, .slice Ao81 t12034.length co81]] (by rfl) rfl rfl (by (try simp only [List.map_toArray, List.map_cons, List.map_nil]); first | done | rfl | (simp only [List.length_drop, List.length_take]; rfl)) ?_
                    with_reducible refine (laws_eqMatroid.calls kj31 t12018 _ _ t12019 t12033 _ _ t12034 true _ ?side1 ?side2 ?side3 ?side4 A71.out).mono ?_
                    (case side1 => repeat (first | exact (Kd.R_reads' HO_12023001.out).2.2 | (with_reducible refine Kd.C_alloc ?_ _) | (with_reducible refine Kd.C_drewN ?_ _) | (with_reducible refine Kd.C_drew ?_)))
                    (case side2 => exact (Kd.R_reads' HO_12023001.out).2.1)
                    (case side3 => repeat (first | exact (Kd.R_reads' HO12036.out).2.2 | (with_reducible refine Kd.C_alloc ?_ _) | (with_reducible refine Kd.C_drewN ?_ _) | (with_reducible refine Kd.C_drew ?_)))
                    (case side4 => exact (Kd.R_reads' HO12036.out).2.1)
                    rintro e w82 ⟨rfl, hb⟩
                    refine ⟨_, rfl, ?_⟩
                    have n0_ := Aside0.mk (Kd.R_below (by (with_reducible repeat (first | apply Kd.R_alloc | apply Kd.R_drewN | apply Kd.R_drew)); exact HO_14.out) hb)
                    have n1_ := Aside0.mk (Kd.R_below (by (with_reducible repeat (first | apply Kd.R_alloc | apply Kd.R_drewN | apply Kd.R_drew)); exact HO_12023001.out) hb)
                    have n2_ := Aside0.mk (Kd.R_below (by (with_reducible repeat (first | apply Kd.R_alloc | apply Kd.R_drewN | apply Kd.R_drew)); exact HO_12028001.out) hb)
                    have n3_ := Aside0.mk (Kd.R_below (by (with_reducible repeat (first | apply Kd.R_alloc | apply Kd.R_drewN | apply Kd.R_drew)); exact HO12036.out) hb)
                    have n4_ := Aside0.mk (blk_below (g := gb12001) (o := .cells #[.int .i64 a0_0, .slice A0_1 l0_1.length c0_1] 24 (0, 0)) (by (with_reducible repeat (first | refine blk_drewN ?_ _ | refine blk_drew ?_ | refine blk_alloc ?_ _)); exact BK12001.out) hb)
                    have n5_ := Aside0.mk (blk_below (g := gb12002) (o := .cells #[.int .i64 a1_0, .slice A1_1 l1_1.length c1_1] 24 (0, 0)) (by (with_reducible repeat (first | refine blk_drewN ?_ _ | refine blk_drew ?_ | refine blk_alloc ?_ _)); exact BK12002.out) hb)
                    have n6_ := Aside0.mk (blk_below (g := gb12022) (o := .cells #[.int .i64 t12018, .slice Ao54 t12019.length co54] 28 (0, 0)) (by (with_reducible repeat (first | refine blk_drewN ?_ _ | refine blk_drew ?_ | refine blk_alloc ?_ _)); exact BK12022.out) hb)
                    have n7_ := Aside0.mk (blk_below (g := gb12027) (o := .cells #[.int .i64 t12023, .slice Ao62 t12024.length co62] 28 (0, 0)) (by (with_reducible repeat (first | refine blk_drewN ?_ _ | refine blk_drew ?_ | refine blk_alloc ?_ _)); exact BK12027.out) hb)
                    have n8_ := Aside0.mk (below_step (by repeat (first | (with_reducible first | exact HB.out | apply below_alloc | apply pw_below_drewN | apply below_drew1 | refine below_set ?_ GE12001.out | refine below_set ?_ GE12002.out | refine below_set ?_ GE12022.out | refine below_set ?_ GE12027.out) | exact HB.out)) hb)
                    clear HO_14
                    clear HO_12023001
                    clear HO_12028001
                    clear HO12036
                    clear BK12001
                    clear BK12002
                    clear BK12022
                    clear BK12027
                    clear HB
                    have HO_14 := n0_
                    have HO_12023001 := n1_
                    have HO_12028001 := n2_
                    have HO12036 := n3_
                    have BK12001 := n4_
                    have BK12002 := n5_
                    have BK12022 := n6_
                    have BK12027 := n7_
                    have HB := n8_
                    clear n0_ n1_ n2_ n3_ n4_ n5_ n6_ n7_ n8_
                    (try clear hb)
                    (try clear hb2)
                    (try clear hk)
                    (try clear hi)
                    refine hK.out _ _ ⟨(blk_cell BK12022.out 0).trans rfl, (blk_cell BK12022.out 1).trans rfl, (blk_cell BK12001.out 0).trans rfl, (blk_cell BK12001.out 1).trans rfl⟩ (fun hHeld => ?_)
                    clear hK K
                    refine norm_ (a' := ?_) ?_ ?_
                    rotate_left
                    · show Act.put _ (some 66) _ = _
                      simp only [Act.put, List.setIfInBounds_toArray, List.set_cons_zero, List.set_cons_succ, i64_w, i32_w]
                      rfl
                    refine pure_ (i := 4) (N := some 67) (v := ?_) (a' := ?_) #[true, true, true, true, true] rfl rfl (by kernel_rfl) (fun _ _ _ h => h) (Or.inl ⟨by rfl, ?_⟩) ?_ ?_
                    rotate_left
                    · intro w'
                      go_simp
                      with_reducible rfl
                    rotate_left
                    · simp only [Act.put, List.setIfInBounds_toArray, List.set_cons_zero, List.set_cons_succ, i64_w, i32_w]
                      rfl
                    refine done_ (by kernel_rfl) ?_
                    try go_wp2
                    have n0_ := Aside0.mk (Kd.R_drew HO_14.out)
                    have n1_ := Aside0.mk (Kd.R_drew HO_12023001.out)
                    have n2_ := Aside0.mk (Kd.R_drew HO_12028001.out)
                    have n3_ := Aside0.mk (Kd.R_drew HO12036.out)
                    have n4_ := Aside0.mk (blk_drew BK12001.out)
                    have n5_ := Aside0.mk (blk_drew BK12002.out)
                    have n6_ := Aside0.mk (blk_drew BK12022.out)
                    have n7_ := Aside0.mk (blk_drew BK12027.out)
                    have n8_ := Aside0.mk (below_drew1 HB.out)
                    clear HO_14
                    clear HO_12023001
                    clear HO_12028001
                    clear HO12036
                    clear BK12001
                    clear BK12002
                    clear BK12022
                    clear BK12027
                    clear HB
                    have HO_14 := n0_
                    have HO_12023001 := n1_
                    have HO_12028001 := n2_
                    have HO12036 := n3_
                    have BK12001 := n4_
                    have BK12002 := n5_
                    have BK12022 := n6_
                    have BK12027 := n7_
                    have HB := n8_
                    clear n0_ n1_ n2_ n3_ n4_ n5_ n6_ n7_ n8_
                    refine start_ (n := 5) (S := fun w' => w'.cell? ⟨gb12027, 0, none⟩ = some (.int .i64 t12023) ∧ w'.cell? ⟨gb12027, 1, none⟩ = some (.slice Ao62 t12024.length co62) ∧ w'.cell? ⟨gb12002, 0, none⟩ = some (.int .i64 a1_0) ∧ w'.cell? ⟨gb12002, 1, none⟩ = some (.slice A1_1 l1_1.length c1_1)) (ds := []) #[false, false, false, false, false] (by kernel_rfl) rfl rfl ⟨(blk_cell BK12027.out 0).trans rfl, (blk_cell BK12027.out 1).trans rfl, (blk_cell BK12002.out 0).trans rfl, (blk_cell BK12002.out 1).trans rfl⟩ (fun hHeld => ?_)
                    generalize w82.drew = w83 at HO_14 HO_12023001 HO_12028001 HO12036 BK12001 BK12002 BK12022 BK12027 HB hHeld ⊢
                    refine take_ (i := 0) (N := some 68) (v := ?_) (a' := ?_) #[true, false, false, false, false] rfl rfl (by kernel_rfl) (fun _ _ _ h => h) (Or.inl ⟨by rfl, ?_⟩) hHeld ?_ ?_
                    rotate_left
                    · rintro w' ⟨s0, s1, s2, s3⟩
                      go_simp
                      with_reducible rfl
                    rotate_left
                    · simp only [Act.put, List.setIfInBounds_toArray, List.set_cons_zero, List.set_cons_succ, i64_w, i32_w]
                      rfl
                    refine take_ (i := 1) (N := some 69) (v := ?_) (a' := ?_) #[true, true, false, false, false] rfl rfl (by kernel_rfl) (fun _ _ _ h => h) (Or.inl ⟨by rfl, ?_⟩) hHeld ?_ ?_
                    rotate_left
                    · rintro w' ⟨s0, s1, s2, s3⟩
                      go_simp
                      with_reducible rfl
                    rotate_left
                    · simp only [Act.put, List.setIfInBounds_toArray, List.set_cons_zero, List.set_cons_succ, i64_w, i32_w]
                      rfl
                    refine one_ (i := 2) (N := some 70) #[true, true, true, false, false] rfl rfl (by kernel_rfl) (by decide) (fun K hK => ?_)
                    refine goes_ Try.func35 (by kernel_rfl) rfl #[.agg #[.int .i64 a1_0, .slice A1_1 l1_1.length c1_1]] (by rfl) rfl rfl (by (try simp only [List.map_toArray, List.map_cons, List.map_nil]); first | done | rfl | (simp only [List.length_drop, List.length_take]; rfl)) ?_
                    with_reducible refine (laws_toMatroid.calls kj31 a1_0 _ _ l1_1 t12038 t12039 _ ?side1 ?side2 A73.out).mono ?_
                    (case side1 => repeat (first | exact (Kd.C_below HR1_1.out HB.out) | (with_reducible refine Kd.C_alloc ?_ _) | (with_reducible refine Kd.C_drewN ?_ _) | (with_reducible refine Kd.C_drew ?_)))
                    (case side2 => exact HC1_1.out)
                    rintro e w84 ⟨v12040, rfl, ho0, hb⟩
                    refine ⟨_, rfl, ?_⟩
                    have n0_ := Aside0.mk (Kd.R_elder' (by (with_reducible repeat (first | apply Kd.R_alloc | apply Kd.R_drewN | apply Kd.R_drew)); exact HO_14.out) (Kd.R_base ho0) hb)
                    have n1_ := Aside0.mk (Kd.R_elder' (by (with_reducible repeat (first | apply Kd.R_alloc | apply Kd.R_drewN | apply Kd.R_drew)); exact HO_12023001.out) (Kd.R_base ho0) hb)
                    have n2_ := Aside0.mk (Kd.R_elder' (by (with_reducible repeat (first | apply Kd.R_alloc | apply Kd.R_drewN | apply Kd.R_drew)); exact HO_12028001.out) (Kd.R_base ho0) hb)
                    have n3_ := Aside0.mk (Kd.R_elder' (by (with_reducible repeat (first | apply Kd.R_alloc | apply Kd.R_drewN | apply Kd.R_drew)); exact HO12036.out) (Kd.R_base ho0) hb)
                    have n4_ := Aside0.mk (Kd.R_lower (Kd.R_new' (Kd.R_new' (Kd.R_new' (Kd.R_new' ho0 (Kd.R_lt (by (with_reducible repeat (first | apply Kd.R_alloc | apply Kd.R_drewN | apply Kd.R_drew)); exact HO_14.out))) (Kd.R_lt (by (with_reducible repeat (first | apply Kd.R_alloc | apply Kd.R_drewN | apply Kd.R_drew)); exact HO_12023001.out))) (Kd.R_lt (by (with_reducible repeat (first | apply Kd.R_alloc | apply Kd.R_drewN | apply Kd.R_drew)); exact HO_12028001.out))) (Kd.R_lt (by (with_reducible repeat (first | apply Kd.R_alloc | apply Kd.R_drewN | apply Kd.R_drew)); exact HO12036.out))) (below_size (by repeat (first | (with_reducible first | exact HB.out | apply below_alloc | apply pw_below_drewN | apply below_drew1 | refine below_set ?_ GE12001.out | refine below_set ?_ GE12002.out | refine below_set ?_ GE12022.out | refine below_set ?_ GE12027.out) | exact HB.out))))
                    have n5_ := Aside0.mk (blk_below (g := gb12001) (o := .cells #[.int .i64 a0_0, .slice A0_1 l0_1.length c0_1] 24 (0, 0)) (by (with_reducible repeat (first | refine blk_drewN ?_ _ | refine blk_drew ?_ | refine blk_alloc ?_ _)); exact BK12001.out) hb)
                    have n6_ := Aside0.mk (blk_below (g := gb12002) (o := .cells #[.int .i64 a1_0, .slice A1_1 l1_1.length c1_1] 24 (0, 0)) (by (with_reducible repeat (first | refine blk_drewN ?_ _ | refine blk_drew ?_ | refine blk_alloc ?_ _)); exact BK12002.out) hb)
                    have n7_ := Aside0.mk (blk_below (g := gb12022) (o := .cells #[.int .i64 t12018, .slice Ao54 t12019.length co54] 28 (0, 0)) (by (with_reducible repeat (first | refine blk_drewN ?_ _ | refine blk_drew ?_ | refine blk_alloc ?_ _)); exact BK12022.out) hb)
                    have n8_ := Aside0.mk (blk_below (g := gb12027) (o := .cells #[.int .i64 t12023, .slice Ao62 t12024.length co62] 28 (0, 0)) (by (with_reducible repeat (first | refine blk_drewN ?_ _ | refine blk_drew ?_ | refine blk_alloc ?_ _)); exact BK12027.out) hb)
                    have n9_ := Aside0.mk (below_step (by repeat (first | (with_reducible first | exact HB.out | apply below_alloc | apply pw_below_drewN | apply below_drew1 | refine below_set ?_ GE12001.out | refine below_set ?_ GE12002.out | refine below_set ?_ GE12022.out | refine below_set ?_ GE12027.out) | exact HB.out)) hb)
                    clear HO_14
                    clear HO_12023001
                    clear HO_12028001
                    clear HO12036
                    clear BK12001
                    clear BK12002
                    clear BK12022
                    clear BK12027
                    clear HB
                    have HO_14 := n0_
                    have HO_12023001 := n1_
                    have HO_12028001 := n2_
                    have HO12036 := n3_
                    have HO12041 := n4_
                    have BK12001 := n5_
                    have BK12002 := n6_
                    have BK12022 := n7_
                    have BK12027 := n8_
                    have HB := n9_
                    clear n0_ n1_ n2_ n3_ n4_ n5_ n6_ n7_ n8_ n9_
                    (try clear hb)
                    (try clear hb2)
                    (try clear hk)
                    (try clear hi)
                    (try clear ho0)
                    obtain ⟨Ao85, co85, eo85⟩ := Kd.R_slice HO12041.out
                    (first | subst eo85 | (injection eo85 with f1_ f2_ f3_; have f4_ := f1_.symm; have f5_ := f3_.symm; clear f1_ f2_ f3_; subst f4_; subst f5_))
                    refine hK.out _ _ ⟨(blk_cell BK12027.out 0).trans rfl, (blk_cell BK12027.out 1).trans rfl, (blk_cell BK12002.out 0).trans rfl, (blk_cell BK12002.out 1).trans rfl⟩ (fun hHeld => ?_)
                    clear hK K
                    refine norm_ (a' := ?_) ?_ ?_
                    rotate_left
                    · show Act.put _ (some 70) _ = _
                      simp only [Act.put, List.setIfInBounds_toArray, List.set_cons_zero, List.set_cons_succ, i64_w, i32_w]
                      rfl
                    refine one_ (i := 3) (N := some 71) #[true, true, true, true, false] rfl rfl (by kernel_rfl) (by decide) (fun K hK => ?_)
                    refine goes_ Try.func38 (by kernel_rfl) rfl #[.agg #[.int .i64 t12023, .slice Ao62 t12024.length co62], .agg #[.int .i64 t12038, .slice Ao85 t12039.length co85]] (by rfl) rfl rfl (by (try simp only [List.map_toArray, List.map_cons, List.map_nil]); first | done | rfl | (simp only [List.length_drop, List.length_take]; rfl)) ?_
                    with_reducible refine (laws_eqMatroid.calls kj31 t12023 _ _ t12024 t12038 _ _ t12039 true _ ?side1 ?side2 ?side3 ?side4 A74.out).mono ?_
                    (case side1 => repeat (first | exact (Kd.R_reads' HO_12028001.out).2.2 | (with_reducible refine Kd.C_alloc ?_ _) | (with_reducible refine Kd.C_drewN ?_ _) | (with_reducible refine Kd.C_drew ?_)))
                    (case side2 => exact (Kd.R_reads' HO_12028001.out).2.1)
                    (case side3 => repeat (first | exact (Kd.R_reads' HO12041.out).2.2 | (with_reducible refine Kd.C_alloc ?_ _) | (with_reducible refine Kd.C_drewN ?_ _) | (with_reducible refine Kd.C_drew ?_)))
                    (case side4 => exact (Kd.R_reads' HO12041.out).2.1)
                    rintro e w86 ⟨rfl, hb⟩
                    refine ⟨_, rfl, ?_⟩
                    have n0_ := Aside0.mk (Kd.R_below (by (with_reducible repeat (first | apply Kd.R_alloc | apply Kd.R_drewN | apply Kd.R_drew)); exact HO_14.out) hb)
                    have n1_ := Aside0.mk (Kd.R_below (by (with_reducible repeat (first | apply Kd.R_alloc | apply Kd.R_drewN | apply Kd.R_drew)); exact HO_12023001.out) hb)
                    have n2_ := Aside0.mk (Kd.R_below (by (with_reducible repeat (first | apply Kd.R_alloc | apply Kd.R_drewN | apply Kd.R_drew)); exact HO_12028001.out) hb)
                    have n3_ := Aside0.mk (Kd.R_below (by (with_reducible repeat (first | apply Kd.R_alloc | apply Kd.R_drewN | apply Kd.R_drew)); exact HO12036.out) hb)
                    have n4_ := Aside0.mk (Kd.R_below (by (with_reducible repeat (first | apply Kd.R_alloc | apply Kd.R_drewN | apply Kd.R_drew)); exact HO12041.out) hb)
                    have n5_ := Aside0.mk (blk_below (g := gb12001) (o := .cells #[.int .i64 a0_0, .slice A0_1 l0_1.length c0_1] 24 (0, 0)) (by (with_reducible repeat (first | refine blk_drewN ?_ _ | refine blk_drew ?_ | refine blk_alloc ?_ _)); exact BK12001.out) hb)
                    have n6_ := Aside0.mk (blk_below (g := gb12002) (o := .cells #[.int .i64 a1_0, .slice A1_1 l1_1.length c1_1] 24 (0, 0)) (by (with_reducible repeat (first | refine blk_drewN ?_ _ | refine blk_drew ?_ | refine blk_alloc ?_ _)); exact BK12002.out) hb)
                    have n7_ := Aside0.mk (blk_below (g := gb12022) (o := .cells #[.int .i64 t12018, .slice Ao54 t12019.length co54] 28 (0, 0)) (by (with_reducible repeat (first | refine blk_drewN ?_ _ | refine blk_drew ?_ | refine blk_alloc ?_ _)); exact BK12022.out) hb)
                    have n8_ := Aside0.mk (blk_below (g := gb12027) (o := .cells #[.int .i64 t12023, .slice Ao62 t12024.length co62] 28 (0, 0)) (by (with_reducible repeat (first | refine blk_drewN ?_ _ | refine blk_drew ?_ | refine blk_alloc ?_ _)); exact BK12027.out) hb)
                    have n9_ := Aside0.mk (below_step (by repeat (first | (with_reducible first | exact HB.out | apply below_alloc | apply pw_below_drewN | apply below_drew1 | refine below_set ?_ GE12001.out | refine below_set ?_ GE12002.out | refine below_set ?_ GE12022.out | refine below_set ?_ GE12027.out) | exact HB.out)) hb)
                    clear HO_14
                    clear HO_12023001
                    clear HO_12028001
                    clear HO12036
                    clear HO12041
                    clear BK12001
                    clear BK12002
                    clear BK12022
                    clear BK12027
                    clear HB
                    have HO_14 := n0_
                    have HO_12023001 := n1_
                    have HO_12028001 := n2_
                    have HO12036 := n3_
                    have HO12041 := n4_
                    have BK12001 := n5_
                    have BK12002 := n6_
                    have BK12022 := n7_
                    have BK12027 := n8_
                    have HB := n9_
                    clear n0_ n1_ n2_ n3_ n4_ n5_ n6_ n7_ n8_ n9_
                    (try clear hb)
                    (try clear hb2)
                    (try clear hk)
                    (try clear hi)
                    refine hK.out _ _ ⟨(blk_cell BK12027.out 0).trans rfl, (blk_cell BK12027.out 1).trans rfl, (blk_cell BK12002.out 0).trans rfl, (blk_cell BK12002.out 1).trans rfl⟩ (fun hHeld => ?_)
                    clear hK K
                    refine norm_ (a' := ?_) ?_ ?_
                    rotate_left
                    · show Act.put _ (some 71) _ = _
                      simp only [Act.put, List.setIfInBounds_toArray, List.set_cons_zero, List.set_cons_succ, i64_w, i32_w]
                      rfl
                    refine pure_ (i := 4) (N := some 72) (v := ?_) (a' := ?_) #[true, true, true, true, true] rfl rfl (by kernel_rfl) (fun _ _ _ h => h) (Or.inl ⟨by rfl, ?_⟩) ?_ ?_
                    rotate_left
                    · intro w'
                      go_simp
                      with_reducible rfl
                    rotate_left
                    · simp only [Act.put, List.setIfInBounds_toArray, List.set_cons_zero, List.set_cons_succ, i64_w, i32_w]
                      rfl
                    refine done_ (by kernel_rfl) ?_
                    try go_wp2_with (first | ((with_reducible refine gate_callee (f := 47) rfl ?_); refine goesL_ (some 75) rfl rfl Try.func47 (by kernel_rfl) rfl #[.slice A2 l2.length c2] rfl (by (try simp only [List.map_toArray, List.map_cons, List.map_nil]); first | done | rfl | (simp only [List.length_drop, List.length_take]; rfl)) ?_; (with_reducible refine (laws_toIntS.calls kj31 _ _ l2 t12043 _ ?side1 ?side2 A76.out).mono ?_); (case side1 => repeat (first | exact (Kd.C_below HR2.out HB.out) | (with_reducible refine Kd.C_alloc ?_ _) | (with_reducible refine Kd.C_drewN ?_ _) | (with_reducible refine Kd.C_drew ?_))); (case side2 => exact HC2.out); rintro e w87 ⟨v12044, rfl, ho0, hb⟩; refine ⟨_, rfl, ?_⟩; have n0_ := Aside0.mk (Kd.R_elder' (by (with_reducible repeat (first | apply Kd.R_alloc | apply Kd.R_drewN | apply Kd.R_drew)); exact HO_14.out) (Kd.R_base ho0) hb); have n1_ := Aside0.mk (Kd.R_elder' (by (with_reducible repeat (first | apply Kd.R_alloc | apply Kd.R_drewN | apply Kd.R_drew)); exact HO_12023001.out) (Kd.R_base ho0) hb); have n2_ := Aside0.mk (Kd.R_elder' (by (with_reducible repeat (first | apply Kd.R_alloc | apply Kd.R_drewN | apply Kd.R_drew)); exact HO_12028001.out) (Kd.R_base ho0) hb); have n3_ := Aside0.mk (Kd.R_elder' (by (with_reducible repeat (first | apply Kd.R_alloc | apply Kd.R_drewN | apply Kd.R_drew)); exact HO12036.out) (Kd.R_base ho0) hb); have n4_ := Aside0.mk (Kd.R_elder' (by (with_reducible repeat (first | apply Kd.R_alloc | apply Kd.R_drewN | apply Kd.R_drew)); exact HO12041.out) (Kd.R_base ho0) hb); have n5_ := Aside0.mk (Kd.R_lower (Kd.R_new' (Kd.R_new' (Kd.R_new' (Kd.R_new' (Kd.R_new' ho0 (Kd.R_lt (by (with_reducible repeat (first | apply Kd.R_alloc | apply Kd.R_drewN | apply Kd.R_drew)); exact HO_14.out))) (Kd.R_lt (by (with_reducible repeat (first | apply Kd.R_alloc | apply Kd.R_drewN | apply Kd.R_drew)); exact HO_12023001.out))) (Kd.R_lt (by (with_reducible repeat (first | apply Kd.R_alloc | apply Kd.R_drewN | apply Kd.R_drew)); exact HO_12028001.out))) (Kd.R_lt (by (with_reducible repeat (first | apply Kd.R_alloc | apply Kd.R_drewN | apply Kd.R_drew)); exact HO12036.out))) (Kd.R_lt (by (with_reducible repeat (first | apply Kd.R_alloc | apply Kd.R_drewN | apply Kd.R_drew)); exact HO12041.out))) (below_size (by repeat (first | (with_reducible first | exact HB.out | apply below_alloc | apply pw_below_drewN | apply below_drew1 | refine below_set ?_ GE12001.out | refine below_set ?_ GE12002.out | refine below_set ?_ GE12022.out | refine below_set ?_ GE12027.out) | exact HB.out)))); have n6_ := Aside0.mk (blk_below (g := gb12001) (o := .cells #[.int .i64 a0_0, .slice A0_1 l0_1.length c0_1] 24 (0, 0)) (by (with_reducible repeat (first | refine blk_drewN ?_ _ | refine blk_drew ?_ | refine blk_alloc ?_ _)); exact BK12001.out) hb); have n7_ := Aside0.mk (blk_below (g := gb12002) (o := .cells #[.int .i64 a1_0, .slice A1_1 l1_1.length c1_1] 24 (0, 0)) (by (with_reducible repeat (first | refine blk_drewN ?_ _ | refine blk_drew ?_ | refine blk_alloc ?_ _)); exact BK12002.out) hb); have n8_ := Aside0.mk (blk_below (g := gb12022) (o := .cells #[.int .i64 t12018, .slice Ao54 t12019.length co54] 28 (0, 0)) (by (with_reducible repeat (first | refine blk_drewN ?_ _ | refine blk_drew ?_ | refine blk_alloc ?_ _)); exact BK12022.out) hb); have n9_ := Aside0.mk (blk_below (g := gb12027) (o := .cells #[.int .i64 t12023, .slice Ao62 t12024.length co62] 28 (0, 0)) (by (with_reducible repeat (first | refine blk_drewN ?_ _ | refine blk_drew ?_ | refine blk_alloc ?_ _)); exact BK12027.out) hb); have n10_ := Aside0.mk (below_step (by repeat (first | (with_reducible first | exact HB.out | apply below_alloc | apply pw_below_drewN | apply below_drew1 | refine below_set ?_ GE12001.out | refine below_set ?_ GE12002.out | refine below_set ?_ GE12022.out | refine below_set ?_ GE12027.out) | exact HB.out)) hb); clear HO_14; clear HO_12023001; clear HO_12028001; clear HO12036; clear HO12041; clear BK12001; clear BK12002; clear BK12022; clear BK12027; clear HB; have HO_14 := n0_; have HO_12023001 := n1_; have HO_12028001 := n2_; have HO12036 := n3_; have HO12041 := n4_; have HO12045 := n5_; have BK12001 := n6_; have BK12002 := n7_; have BK12022 := n8_; have BK12027 := n9_; have HB := n10_; clear n0_ n1_ n2_ n3_ n4_ n5_ n6_ n7_ n8_ n9_ n10_; (try clear hb); (try clear hb2); (try clear hk); (try clear hi); (try clear ho0); obtain ⟨Ao88, co88, eo88⟩ := Kd.R_slice HO12045.out; subst eo88) | ((with_reducible refine gate_callee (f := 37) rfl ?_); refine goesL_ (some 76) rfl rfl Try.func37 (by kernel_rfl) rfl #[.slice Ao66 t12028.length co66, .slice Ao88 t12043.length co88] rfl (by (try simp only [List.map_toArray, List.map_cons, List.map_nil]); first | done | rfl | (simp only [List.length_drop, List.length_take]; rfl)) ?_; (with_reducible refine (laws_eqIntS.calls kj31 _ _ t12028 _ _ t12043 true _ ?side1 ?side2 ?side3 ?side4 A77.out).mono ?_); (case side1 => repeat (first | exact (Kd.R_reads' HO_14.out).2.2 | (with_reducible refine Kd.C_alloc ?_ _) | (with_reducible refine Kd.C_drewN ?_ _) | (with_reducible refine Kd.C_drew ?_))); (case side2 => exact (Kd.R_reads' HO_14.out).2.1); (case side3 => repeat (first | exact (Kd.R_reads' HO12045.out).2.2 | (with_reducible refine Kd.C_alloc ?_ _) | (with_reducible refine Kd.C_drewN ?_ _) | (with_reducible refine Kd.C_drew ?_))); (case side4 => exact (Kd.R_reads' HO12045.out).2.1); rintro e w' ⟨rfl, ⟨nd, rfl⟩⟩; refine ⟨_, rfl, ?_⟩))
                    go_ret
                    exact ⟨by first | rfl | (simp [errW_none, errW_some] <;> rfl) | (simp [*, errW_none, errW_some] <;> rfl), by repeat (first | (with_reducible first | exact HB.out | apply below_alloc | apply pw_below_drewN | apply below_drew1 | refine below_set ?_ GE12001.out | refine below_set ?_ GE12002.out | refine below_set ?_ GE12022.out | refine below_set ?_ GE12027.out) | exact HB.out)⟩
                  · replace c78 := Bool.eq_false_iff.mpr c78
                    subst c78
                    have H1 : (some false) = some true := by rw [if_neg (show ¬ (false = true) by decide)] at H; exact H
                    clear H
                    have H := H1
                    clear H1
                    exact absurd (Option.some.inj H) (by decide)
                · replace c75 := Bool.eq_false_iff.mpr c75
                  subst c75
                  have H1 : (some false) = some true := by rw [if_neg (show ¬ (false = true) by decide)] at H; exact H
                  clear H
                  have H := H1
                  clear H1
                  exact absurd (Option.some.inj H) (by decide)
              · replace c72 := Bool.eq_false_iff.mpr c72
                subst c72
                have H1 : (some false) = some true := by rw [if_neg (show ¬ (false = true) by decide)] at H; exact H
                clear H
                have H := H1
                clear H1
                exact absurd (Option.some.inj H) (by decide)

end Go.Proofs.Ytinoamehdhgpgaa.A
