/- The machine side of the law FnExactIsSplit, laid by a program of this work over the kit's print and contracts by hand: Go functions as Lean functions, and proofs that calls come to what these tell. Conditions: those in each theorem. -/
import Derived.Test.YtinoamehdhgpgaaMFnExactIsSplit0
import Derived.Test.YtinoamehdhgpgaaMFnExactIsSplit1
import Derived.Test.YtinoamehdhgpgaaMFnExactIsSplit2
import Derived.Test.YtinoamehdhgpgaaMFnExactIsSplit4
import Derived.Test.YtinoamehdhgpgaaMFnExactIsSplit5
namespace Go.Proofs.Ytinoamehdhgpgaa.A
open Go.RowKit Go.Proofs.YtinoamehdhgpgaaW.PrintWords Go.Proofs.YtinoamehdhgpgaaW.PrintLast Go.Proofs.YtinoamehdhgpgaaW.PrintMore
attribute [local go_sem] max2_int min2_int max_two min_two max_three min_three max_four min_four   -- for this text's walks alone
set_option linter.unusedVariables false
set_option linter.unusedSimpArgs false

/-! ### laws_FnExactIsSplit: function 15 -/
def laws_FnExactIsSplit.f (k : Nat) (a0_0 : Int) (l0_1 : List Int) (a1_0 : Int) (l1_1 : List Int) (l2 : List Int) (l3 : List Int) (a4 : Int) : Option (Bool) := if (l2.length : Int) > 1048576 then (some true) else (if (l3.length : Int) > 1048576 then (some true) else ((laws_szMatroid.f a0_0 l0_1 1048576).bind fun t16003 => (if t16003 < 0 then (some true) else ((laws_szMatroid.f a1_0 l1_1 t16003).bind fun t16004 => (if t16004 < 0 then (some true) else ((laws_toMatroid.f k a0_0 l0_1).bind fun bt16005 => ((laws_toMatroid.f k a1_0 l1_1).bind fun bt16009 => ((laws_toIntS.f k l2).bind fun t16013 => ((laws_toIntS.f k l3).bind fun t16016 => ((spec_IsSplit.f k bt16005.1 bt16005.2 bt16009.1 bt16009.2 t16013 t16016 a4).bind fun t16019 => ((laws_toMatroid.f k a0_0 l0_1).bind fun bt16020 => ((laws_toMatroid.f k a1_0 l1_1).bind fun bt16025 => ((laws_toIntS.f k l2).bind fun t16030 => ((laws_toIntS.f k l3).bind fun t16033 => ((impl_IsSplit.f k bt16020.1 bt16020.2 bt16025.1 bt16025.2 t16030 t16033 a4).bind fun t16036 => (if (t16036 != t16019) = true then (some false) else ((laws_toMatroid.f k a0_0 l0_1).bind fun bt16037 => ((laws_eqMatroid.f k bt16020.1 bt16020.2 bt16037.1 bt16037.2).bind fun t16041 => (if t16041 = true then ((laws_toMatroid.f k a1_0 l1_1).bind fun bt16042 => ((laws_eqMatroid.f k bt16025.1 bt16025.2 bt16042.1 bt16042.2).bind fun t16046 => (if t16046 = true then ((laws_toIntS.f k l2).bind fun t16047 => ((laws_eqIntS.f k t16030 t16047).bind fun t16050 => (if t16050 = true then ((laws_toIntS.f k l3).bind fun t16051 => ((laws_eqIntS.f k t16033 t16051).bind fun t16054 => (if t16054 = true then (some true) else (some false)))) else (some false)))) else (some false)))) else (some false))))))))))))))))))))
theorem laws_FnExactIsSplit.mono : ∀ a0 a1 a2 a3 a4 a5 a6 k, LeO (laws_FnExactIsSplit.f k a0 a1 a2 a3 a4 a5 a6) (laws_FnExactIsSplit.f (k + 1) a0 a1 a2 a3 a4 a5 a6) := by
 intro a0 a1 a2 a3 a4 a5 a6 k
 unfold laws_FnExactIsSplit.f
 repeat' first
   | (with_reducible exact impl_IsSplit.mono _ _ _ _ _ _ _ _)
   | (with_reducible exact laws_eqIntS.mono _ _ _)
   | (with_reducible exact laws_eqMatroid.mono _ _ _ _ _)
   | (with_reducible exact laws_toIntS.mono _ _)
   | (with_reducible exact laws_toMatroid.mono _ _ _)
   | (with_reducible exact spec_IsSplit.mono _ _ _ _ _ _ _ _)
   | (with_reducible exact LeO.refl _)
   | (with_reducible exact LeO.none _)
   | (with_reducible refine LeO.ite ?_ ?_)
   | (with_reducible refine LeO.bind ?_ (fun _ => ?_))
   | exact impl_IsSplit.mono _ _ _ _ _ _ _ _
   | exact laws_eqIntS.mono _ _ _
   | exact laws_eqMatroid.mono _ _ _ _ _
   | exact laws_toIntS.mono _ _
   | exact laws_toMatroid.mono _ _ _
   | exact spec_IsSplit.mono _ _ _ _ _ _ _ _
   | exact LeO.none _
   | refine LeO.ite ?_ ?_
   | refine LeO.bind ?_ (fun _ => ?_)
def laws_FnExactIsSplit.T12 : Bool × List (List Nat × List Nat) := (true, [([], []), ([0], [0]), ([], []), ([2, 1], [2]), ([], []), ([4, 3], [4]), ([], []), ([6, 5], [6]), ([], []), ([1, 3, 5, 7, 8, 7], [1, 3, 5, 7, 8]), ([9, 9, 0, 1, 2, 3, 4, 5, 6, 7, 8, 9], [9])])
def laws_FnExactIsSplit.B12 : List Nat := [0, 1, 0, 7, 0, 31, 0, 127, 0, 511, 1023]
theorem laws_FnExactIsSplit.tab12 : rtab .any (opsOf Try.f15 12) = laws_FnExactIsSplit.T12 := by kernel_rfl
theorem laws_FnExactIsSplit.bits12 : waitsOk laws_FnExactIsSplit.T12.2 laws_FnExactIsSplit.B12 = true := by kernel_rfl
set_option maxHeartbeats 8000000 in
set_option maxRecDepth 100000 in
theorem laws_FnExactIsSplit.calls (k : Nat) (a0_0 : Int) (A0_1 : Option Addr) (c0_1 : Nat) (l0_1 : List Int) (a1_0 : Int) (A1_1 : Option Addr) (c1_1 : Nat) (l1_1 : List Int) (A2 : Option Addr) (c2 : Nat) (l2 : List Int) (A3 : Option Addr) (c3 : Nat) (l3 : List Int) (a4 : Int) (w : World) (hr0_1 : Kd.C (Kd.int .i64) w A0_1 l0_1.length l0_1) (hc0_1 : l0_1.length ≤ c0_1) (hr1_1 : Kd.C (Kd.int .i64) w A1_1 l1_1.length l1_1) (hc1_1 : l1_1.length ≤ c1_1) (hr2 : Kd.C (Kd.int .i64) w A2 l2.length l2) (hc2 : l2.length ≤ c2) (hr3 : Kd.C (Kd.int .i64) w A3 l3.length l3) (hc3 : l3.length ≤ c3) (h : laws_FnExactIsSplit.f k a0_0 l0_1 a1_0 l1_1 l2 l3 a4 = some true) :
  Calls Try.prog 15 #[.agg #[.int .i64 a0_0, .slice A0_1 l0_1.length c0_1], .agg #[.int .i64 a1_0, .slice A1_1 l1_1.length c1_1], .slice A2 l2.length c2, .slice A3 l3.length c3, .int .i64 a4] w fun e w' => e = .returned (.bool true) ∧ Below w.heap.size w w' := by
 have hu24 := Try.underlying24
 have hu28 := Try.underlying28
 have HR0_1 := aQ hr0_1
 have HC0_1 := aQ hc0_1
 clear hr0_1 hc0_1
 have HR1_1 := aQ hr1_1
 have HC1_1 := aQ hc1_1
 clear hr1_1 hc1_1
 have HR2 := aQ hr2
 have HC2 := aQ hc2
 clear hr2 hc2
 have HR3 := aQ hr3
 have HC3 := aQ hc3
 clear hr3 hc3
 have HB := aQ (Below.refl w.heap.size w)
 have H : (if (l2.length : Int) > 1048576 then (some true) else (if (l3.length : Int) > 1048576 then (some true) else ((laws_szMatroid.f a0_0 l0_1 1048576).bind fun t16003 => (if t16003 < 0 then (some true) else ((laws_szMatroid.f a1_0 l1_1 t16003).bind fun t16004 => (if t16004 < 0 then (some true) else ((laws_toMatroid.f k a0_0 l0_1).bind fun bt16005 => ((laws_toMatroid.f k a1_0 l1_1).bind fun bt16009 => ((laws_toIntS.f k l2).bind fun t16013 => ((laws_toIntS.f k l3).bind fun t16016 => ((spec_IsSplit.f k bt16005.1 bt16005.2 bt16009.1 bt16009.2 t16013 t16016 a4).bind fun t16019 => ((laws_toMatroid.f k a0_0 l0_1).bind fun bt16020 => ((laws_toMatroid.f k a1_0 l1_1).bind fun bt16025 => ((laws_toIntS.f k l2).bind fun t16030 => ((laws_toIntS.f k l3).bind fun t16033 => ((impl_IsSplit.f k bt16020.1 bt16020.2 bt16025.1 bt16025.2 t16030 t16033 a4).bind fun t16036 => (if (t16036 != t16019) = true then (some false) else ((laws_toMatroid.f k a0_0 l0_1).bind fun bt16037 => ((laws_eqMatroid.f k bt16020.1 bt16020.2 bt16037.1 bt16037.2).bind fun t16041 => (if t16041 = true then ((laws_toMatroid.f k a1_0 l1_1).bind fun bt16042 => ((laws_eqMatroid.f k bt16025.1 bt16025.2 bt16042.1 bt16042.2).bind fun t16046 => (if t16046 = true then ((laws_toIntS.f k l2).bind fun t16047 => ((laws_eqIntS.f k t16030 t16047).bind fun t16050 => (if t16050 = true then ((laws_toIntS.f k l3).bind fun t16051 => ((laws_eqIntS.f k t16033 t16051).bind fun t16054 => (if t16054 = true then (some true) else (some false)))) else (some false)))) else (some false)))) else (some false))))))))))))))))))))) = some true := h
 clear h
 by_cases c6 : (l2.length : Int) > 1048576
 ·rw [if_pos c6] at H
  have c6b0 : decide (1048576 < (l2.length : Int)) = true := decide_eq_true c6
  have c6b1 : decide (1048576 < l2.length) = true := decide_eq_true (by omega)
  clear c6
  clear H
  go_enter Try.func15, Try.ntmps15
  go_wp2_with (first | ((with_reducible refine gate_dst (N := 5) rfl ?_); refine box_event ?hg (N := 5) ?hd (cs := #[.int .i64 a0_0, .slice A0_1 l0_1.length c0_1]) (t := 24) ?hr ?_; (case hd => rfl); (case hg => rfl); (case hr => first | (go_simp; done) | (go_simp; rfl)); intro gb16001 hg w7 hbox hb; have BK16001 := aQ (hbox); have GW16001 := aQ ((by rw [hg]; exact (below_size (pB HB.out)) : w.heap.size ≤ gb16001)); have GE16001 := aQ ((by rw [hg]; exact (below_size (pB HB.out)) : w.heap.size ≤ gb16001)); replace HB := aQ (below_step (pB HB.out) hb); clear hb hbox hg) | ((with_reducible refine gate_dst (N := 6) rfl ?_); refine box_event ?hg (N := 6) ?hd (cs := #[.int .i64 a1_0, .slice A1_1 l1_1.length c1_1]) (t := 24) ?hr ?_; (case hd => rfl); (case hg => rfl); (case hr => first | (go_simp; done) | (go_simp; rfl)); intro gb16002 hg w8 hbox hb; have BK16002 := aQ (hbox); have GW16002 := aQ ((by rw [hg]; exact (below_size (pB1 HB.out GE16001.out)) : w.heap.size ≤ gb16002)); have GE16002 := aQ ((by rw [hg]; exact (below_size (pB1 HB.out GE16001.out)) : w.heap.size ≤ gb16002)); replace HB := aQ (below_step (pB1 HB.out GE16001.out) hb); have NB16001_16002 := aQ ((by rw [hg]; exact Nat.ne_of_lt (blk_lt (g := gb16001) (o := .cells #[.int .i64 a0_0, .slice A0_1 l0_1.length c0_1] 24 (0, 0)) (pk BK16001.out)) : gb16001 ≠ gb16002)); have NB16002_16001 := aQ ((by rw [hg]; exact Nat.ne_of_gt (blk_lt (g := gb16001) (o := .cells #[.int .i64 a0_0, .slice A0_1 l0_1.length c0_1] 24 (0, 0)) (pk BK16001.out)) : gb16002 ≠ gb16001)); replace BK16001 := aQ (blk_below (g := gb16001) (o := .cells #[.int .i64 a0_0, .slice A0_1 l0_1.length c0_1] 24 (0, 0)) (pk BK16001.out) hb); clear hb hbox hg))
  go_ret
  exact ⟨re_, pB2 HB.out GE16001.out GE16002.out⟩
 ·rw [if_neg c6] at H
  have c6b0 : decide (1048576 < (l2.length : Int)) = false := decide_eq_false c6
  have c6b1 : decide (1048576 < l2.length) = false := decide_eq_false (by omega)
  clear c6
  by_cases c9 : (l3.length : Int) > 1048576
  ·rw [if_pos c9] at H
   have c9b0 : decide (1048576 < (l3.length : Int)) = true := decide_eq_true c9
   have c9b1 : decide (1048576 < l3.length) = true := decide_eq_true (by omega)
   clear c9
   clear H
   go_enter Try.func15, Try.ntmps15
   go_wp2_with (first | ((with_reducible refine gate_dst (N := 5) rfl ?_); refine box_event ?hg (N := 5) ?hd (cs := #[.int .i64 a0_0, .slice A0_1 l0_1.length c0_1]) (t := 24) ?hr ?_; (case hd => rfl); (case hg => rfl); (case hr => first | (go_simp; done) | (go_simp; rfl)); intro gb16001 hg w10 hbox hb; have BK16001 := aQ (hbox); have GW16001 := aQ ((by rw [hg]; exact (below_size (pB HB.out)) : w.heap.size ≤ gb16001)); have GE16001 := aQ ((by rw [hg]; exact (below_size (pB HB.out)) : w.heap.size ≤ gb16001)); replace HB := aQ (below_step (pB HB.out) hb); clear hb hbox hg) | ((with_reducible refine gate_dst (N := 6) rfl ?_); refine box_event ?hg (N := 6) ?hd (cs := #[.int .i64 a1_0, .slice A1_1 l1_1.length c1_1]) (t := 24) ?hr ?_; (case hd => rfl); (case hg => rfl); (case hr => first | (go_simp; done) | (go_simp; rfl)); intro gb16002 hg w11 hbox hb; have BK16002 := aQ (hbox); have GW16002 := aQ ((by rw [hg]; exact (below_size (pB1 HB.out GE16001.out)) : w.heap.size ≤ gb16002)); have GE16002 := aQ ((by rw [hg]; exact (below_size (pB1 HB.out GE16001.out)) : w.heap.size ≤ gb16002)); replace HB := aQ (below_step (pB1 HB.out GE16001.out) hb); have NB16001_16002 := aQ ((by rw [hg]; exact Nat.ne_of_lt (blk_lt (g := gb16001) (o := .cells #[.int .i64 a0_0, .slice A0_1 l0_1.length c0_1] 24 (0, 0)) (pk BK16001.out)) : gb16001 ≠ gb16002)); have NB16002_16001 := aQ ((by rw [hg]; exact Nat.ne_of_gt (blk_lt (g := gb16001) (o := .cells #[.int .i64 a0_0, .slice A0_1 l0_1.length c0_1] 24 (0, 0)) (pk BK16001.out)) : gb16002 ≠ gb16001)); replace BK16001 := aQ (blk_below (g := gb16001) (o := .cells #[.int .i64 a0_0, .slice A0_1 l0_1.length c0_1] 24 (0, 0)) (pk BK16001.out) hb); clear hb hbox hg))
   go_ret
   exact ⟨re_, pB2 HB.out GE16001.out GE16002.out⟩
  ·rw [if_neg c9] at H
   have c9b0 : decide (1048576 < (l3.length : Int)) = false := decide_eq_false c9
   have c9b1 : decide (1048576 < l3.length) = false := decide_eq_false (by omega)
   clear c9
   replace H := Option.bind_eq_some_iff.mp H
   obtain ⟨t16003, A120, H⟩ := H
   replace H : (if t16003 < 0 then (some true) else ((laws_szMatroid.f a1_0 l1_1 t16003).bind fun t16004 => (if t16004 < 0 then (some true) else ((laws_toMatroid.f k a0_0 l0_1).bind fun bt16005 => ((laws_toMatroid.f k a1_0 l1_1).bind fun bt16009 => ((laws_toIntS.f k l2).bind fun t16013 => ((laws_toIntS.f k l3).bind fun t16016 => ((spec_IsSplit.f k bt16005.1 bt16005.2 bt16009.1 bt16009.2 t16013 t16016 a4).bind fun t16019 => ((laws_toMatroid.f k a0_0 l0_1).bind fun bt16020 => ((laws_toMatroid.f k a1_0 l1_1).bind fun bt16025 => ((laws_toIntS.f k l2).bind fun t16030 => ((laws_toIntS.f k l3).bind fun t16033 => ((impl_IsSplit.f k bt16020.1 bt16020.2 bt16025.1 bt16025.2 t16030 t16033 a4).bind fun t16036 => (if (t16036 != t16019) = true then (some false) else ((laws_toMatroid.f k a0_0 l0_1).bind fun bt16037 => ((laws_eqMatroid.f k bt16020.1 bt16020.2 bt16037.1 bt16037.2).bind fun t16041 => (if t16041 = true then ((laws_toMatroid.f k a1_0 l1_1).bind fun bt16042 => ((laws_eqMatroid.f k bt16025.1 bt16025.2 bt16042.1 bt16042.2).bind fun t16046 => (if t16046 = true then ((laws_toIntS.f k l2).bind fun t16047 => ((laws_eqIntS.f k t16030 t16047).bind fun t16050 => (if t16050 = true then ((laws_toIntS.f k l3).bind fun t16051 => ((laws_eqIntS.f k t16033 t16051).bind fun t16054 => (if t16054 = true then (some true) else (some false)))) else (some false)))) else (some false)))) else (some false)))))))))))))))))) = some true := H
   have A12 := aQ A120
   clear A120
   by_cases c13 : t16003 < 0
   ·rw [if_pos c13] at H
    have c13b0 : decide (t16003 < 0) = true := decide_eq_true c13
    clear c13
    clear H
    go_enter Try.func15, Try.ntmps15
    go_wp2_with (first | ((with_reducible refine gate_dst (N := 5) rfl ?_); refine box_event ?hg (N := 5) ?hd (cs := #[.int .i64 a0_0, .slice A0_1 l0_1.length c0_1]) (t := 24) ?hr ?_; (case hd => rfl); (case hg => rfl); (case hr => first | (go_simp; done) | (go_simp; rfl)); intro gb16001 hg w14 hbox hb; have BK16001 := aQ (hbox); have GW16001 := aQ ((by rw [hg]; exact (below_size (pB HB.out)) : w.heap.size ≤ gb16001)); have GE16001 := aQ ((by rw [hg]; exact (below_size (pB HB.out)) : w.heap.size ≤ gb16001)); replace HB := aQ (below_step (pB HB.out) hb); clear hb hbox hg) | ((with_reducible refine gate_dst (N := 6) rfl ?_); refine box_event ?hg (N := 6) ?hd (cs := #[.int .i64 a1_0, .slice A1_1 l1_1.length c1_1]) (t := 24) ?hr ?_; (case hd => rfl); (case hg => rfl); (case hr => first | (go_simp; done) | (go_simp; rfl)); intro gb16002 hg w15 hbox hb; have BK16002 := aQ (hbox); have GW16002 := aQ ((by rw [hg]; exact (below_size (pB1 HB.out GE16001.out)) : w.heap.size ≤ gb16002)); have GE16002 := aQ ((by rw [hg]; exact (below_size (pB1 HB.out GE16001.out)) : w.heap.size ≤ gb16002)); replace HB := aQ (below_step (pB1 HB.out GE16001.out) hb); have NB16001_16002 := aQ ((by rw [hg]; exact Nat.ne_of_lt (blk_lt (g := gb16001) (o := .cells #[.int .i64 a0_0, .slice A0_1 l0_1.length c0_1] 24 (0, 0)) (pk BK16001.out)) : gb16001 ≠ gb16002)); have NB16002_16001 := aQ ((by rw [hg]; exact Nat.ne_of_gt (blk_lt (g := gb16001) (o := .cells #[.int .i64 a0_0, .slice A0_1 l0_1.length c0_1] 24 (0, 0)) (pk BK16001.out)) : gb16002 ≠ gb16001)); replace BK16001 := aQ (blk_below (g := gb16001) (o := .cells #[.int .i64 a0_0, .slice A0_1 l0_1.length c0_1] 24 (0, 0)) (pk BK16001.out) hb); clear hb hbox hg; have hnb16 := NB16001_16002.out; have hnc16 := NB16002_16001.out; have hcz17_0 := bc (v := (.int .i64 a0_0)) BK16001.out 0; have hcz17_1 := bc (v := (.slice A0_1 l0_1.length c0_1)) BK16001.out 1; have hfz17_0 := blk_frozen BK16001.out 0; have hfz17_1 := blk_frozen BK16001.out 1) | ((with_reducible refine gate_callee (f := 33) rfl ?_); refine goesL_ (some 26) rfl rfl Try.func33 (by kernel_rfl) rfl #[.agg #[.int .i64 a0_0, .slice A0_1 l0_1.length c0_1], .int .i64 1048576] rfl lm ?_; (with_reducible refine (laws_szMatroid.calls a0_0 _ _ l0_1 1048576 t16003 _ ?side1 ?side2 A12.out).mono ?_); (case side1 => exact pC (Kd.C_below HR0_1.out HB.out)); (case side2 => exact HC0_1.out); rintro e w18 ⟨rfl, hb⟩; refine ⟨_, rfl, ?_⟩; replace BK16001 := aQ (blk_below (g := gb16001) (o := .cells #[.int .i64 a0_0, .slice A0_1 l0_1.length c0_1] 24 (0, 0)) (pk BK16001.out) hb); replace BK16002 := aQ (blk_below (g := gb16002) (o := .cells #[.int .i64 a1_0, .slice A1_1 l1_1.length c1_1] 24 (0, 0)) (pk BK16002.out) hb); replace HB := aQ (below_step (pB2 HB.out GE16001.out GE16002.out) hb); (try clear hb)))
    go_ret
    exact ⟨re_, pB2 HB.out GE16001.out GE16002.out⟩
   ·rw [if_neg c13] at H
    have c13b0 : decide (t16003 < 0) = false := decide_eq_false c13
    clear c13
    replace H := Option.bind_eq_some_iff.mp H
    obtain ⟨t16004, A190, H⟩ := H
    replace H : (if t16004 < 0 then (some true) else ((laws_toMatroid.f k a0_0 l0_1).bind fun bt16005 => ((laws_toMatroid.f k a1_0 l1_1).bind fun bt16009 => ((laws_toIntS.f k l2).bind fun t16013 => ((laws_toIntS.f k l3).bind fun t16016 => ((spec_IsSplit.f k bt16005.1 bt16005.2 bt16009.1 bt16009.2 t16013 t16016 a4).bind fun t16019 => ((laws_toMatroid.f k a0_0 l0_1).bind fun bt16020 => ((laws_toMatroid.f k a1_0 l1_1).bind fun bt16025 => ((laws_toIntS.f k l2).bind fun t16030 => ((laws_toIntS.f k l3).bind fun t16033 => ((impl_IsSplit.f k bt16020.1 bt16020.2 bt16025.1 bt16025.2 t16030 t16033 a4).bind fun t16036 => (if (t16036 != t16019) = true then (some false) else ((laws_toMatroid.f k a0_0 l0_1).bind fun bt16037 => ((laws_eqMatroid.f k bt16020.1 bt16020.2 bt16037.1 bt16037.2).bind fun t16041 => (if t16041 = true then ((laws_toMatroid.f k a1_0 l1_1).bind fun bt16042 => ((laws_eqMatroid.f k bt16025.1 bt16025.2 bt16042.1 bt16042.2).bind fun t16046 => (if t16046 = true then ((laws_toIntS.f k l2).bind fun t16047 => ((laws_eqIntS.f k t16030 t16047).bind fun t16050 => (if t16050 = true then ((laws_toIntS.f k l3).bind fun t16051 => ((laws_eqIntS.f k t16033 t16051).bind fun t16054 => (if t16054 = true then (some true) else (some false)))) else (some false)))) else (some false)))) else (some false)))))))))))))))) = some true := H
    have A19 := aQ A190
    clear A190
    by_cases c20 : t16004 < 0
    ·rw [if_pos c20] at H
     have c20b0 : decide (t16004 < 0) = true := decide_eq_true c20
     clear c20
     clear H
     go_enter Try.func15, Try.ntmps15
     go_wp2_with (first | ((with_reducible refine gate_dst (N := 5) rfl ?_); refine box_event ?hg (N := 5) ?hd (cs := #[.int .i64 a0_0, .slice A0_1 l0_1.length c0_1]) (t := 24) ?hr ?_; (case hd => rfl); (case hg => rfl); (case hr => first | (go_simp; done) | (go_simp; rfl)); intro gb16001 hg w21 hbox hb; have BK16001 := aQ (hbox); have GW16001 := aQ ((by rw [hg]; exact (below_size (pB HB.out)) : w.heap.size ≤ gb16001)); have GE16001 := aQ ((by rw [hg]; exact (below_size (pB HB.out)) : w.heap.size ≤ gb16001)); replace HB := aQ (below_step (pB HB.out) hb); clear hb hbox hg) | ((with_reducible refine gate_dst (N := 6) rfl ?_); refine box_event ?hg (N := 6) ?hd (cs := #[.int .i64 a1_0, .slice A1_1 l1_1.length c1_1]) (t := 24) ?hr ?_; (case hd => rfl); (case hg => rfl); (case hr => first | (go_simp; done) | (go_simp; rfl)); intro gb16002 hg w22 hbox hb; have BK16002 := aQ (hbox); have GW16002 := aQ ((by rw [hg]; exact (below_size (pB1 HB.out GE16001.out)) : w.heap.size ≤ gb16002)); have GE16002 := aQ ((by rw [hg]; exact (below_size (pB1 HB.out GE16001.out)) : w.heap.size ≤ gb16002)); replace HB := aQ (below_step (pB1 HB.out GE16001.out) hb); have NB16001_16002 := aQ ((by rw [hg]; exact Nat.ne_of_lt (blk_lt (g := gb16001) (o := .cells #[.int .i64 a0_0, .slice A0_1 l0_1.length c0_1] 24 (0, 0)) (pk BK16001.out)) : gb16001 ≠ gb16002)); have NB16002_16001 := aQ ((by rw [hg]; exact Nat.ne_of_gt (blk_lt (g := gb16001) (o := .cells #[.int .i64 a0_0, .slice A0_1 l0_1.length c0_1] 24 (0, 0)) (pk BK16001.out)) : gb16002 ≠ gb16001)); replace BK16001 := aQ (blk_below (g := gb16001) (o := .cells #[.int .i64 a0_0, .slice A0_1 l0_1.length c0_1] 24 (0, 0)) (pk BK16001.out) hb); clear hb hbox hg; have hnb23 := NB16001_16002.out; have hnc23 := NB16002_16001.out; have hcz24_0 := bc (v := (.int .i64 a0_0)) BK16001.out 0; have hcz24_1 := bc (v := (.slice A0_1 l0_1.length c0_1)) BK16001.out 1; have hfz24_0 := blk_frozen BK16001.out 0; have hfz24_1 := blk_frozen BK16001.out 1) | ((with_reducible refine gate_callee (f := 33) rfl ?_); refine goesL_ (some 26) rfl rfl Try.func33 (by kernel_rfl) rfl #[.agg #[.int .i64 a0_0, .slice A0_1 l0_1.length c0_1], .int .i64 1048576] rfl lm ?_; (with_reducible refine (laws_szMatroid.calls a0_0 _ _ l0_1 1048576 t16003 _ ?side1 ?side2 A12.out).mono ?_); (case side1 => exact pC (Kd.C_below HR0_1.out HB.out)); (case side2 => exact HC0_1.out); rintro e w25 ⟨rfl, hb⟩; refine ⟨_, rfl, ?_⟩; replace BK16001 := aQ (blk_below (g := gb16001) (o := .cells #[.int .i64 a0_0, .slice A0_1 l0_1.length c0_1] 24 (0, 0)) (pk BK16001.out) hb); replace BK16002 := aQ (blk_below (g := gb16002) (o := .cells #[.int .i64 a1_0, .slice A1_1 l1_1.length c1_1] 24 (0, 0)) (pk BK16002.out) hb); replace HB := aQ (below_step (pB2 HB.out GE16001.out GE16002.out) hb); (try clear hb); have hcz26_0 := bc (v := (.int .i64 a1_0)) BK16002.out 0; have hcz26_1 := bc (v := (.slice A1_1 l1_1.length c1_1)) BK16002.out 1; have hfz26_0 := blk_frozen BK16002.out 0; have hfz26_1 := blk_frozen BK16002.out 1) | ((with_reducible refine gate_callee (f := 33) rfl ?_); refine goesL_ (some 31) rfl rfl Try.func33 (by kernel_rfl) rfl #[.agg #[.int .i64 a1_0, .slice A1_1 l1_1.length c1_1], .int .i64 t16003] rfl lm ?_; (with_reducible refine (laws_szMatroid.calls a1_0 _ _ l1_1 t16003 t16004 _ ?side1 ?side2 A19.out).mono ?_); (case side1 => exact pC (Kd.C_below HR1_1.out HB.out)); (case side2 => exact HC1_1.out); rintro e w27 ⟨rfl, hb⟩; refine ⟨_, rfl, ?_⟩; replace BK16001 := aQ (blk_below (g := gb16001) (o := .cells #[.int .i64 a0_0, .slice A0_1 l0_1.length c0_1] 24 (0, 0)) (pk BK16001.out) hb); replace BK16002 := aQ (blk_below (g := gb16002) (o := .cells #[.int .i64 a1_0, .slice A1_1 l1_1.length c1_1] 24 (0, 0)) (pk BK16002.out) hb); replace HB := aQ (below_step (pB2 HB.out GE16001.out GE16002.out) hb); (try clear hb)))
     go_ret
     exact ⟨re_, pB2 HB.out GE16001.out GE16002.out⟩
    ·rw [if_neg c20] at H
     have c20b0 : decide (t16004 < 0) = false := decide_eq_false c20
     clear c20
     replace H := Option.bind_eq_some_iff.mp H
     obtain ⟨⟨t16005, t16006⟩, A280, H⟩ := H
     replace H : ((laws_toMatroid.f k a1_0 l1_1).bind fun bt16009 => ((laws_toIntS.f k l2).bind fun t16013 => ((laws_toIntS.f k l3).bind fun t16016 => ((spec_IsSplit.f k t16005 t16006 bt16009.1 bt16009.2 t16013 t16016 a4).bind fun t16019 => ((laws_toMatroid.f k a0_0 l0_1).bind fun bt16020 => ((laws_toMatroid.f k a1_0 l1_1).bind fun bt16025 => ((laws_toIntS.f k l2).bind fun t16030 => ((laws_toIntS.f k l3).bind fun t16033 => ((impl_IsSplit.f k bt16020.1 bt16020.2 bt16025.1 bt16025.2 t16030 t16033 a4).bind fun t16036 => (if (t16036 != t16019) = true then (some false) else ((laws_toMatroid.f k a0_0 l0_1).bind fun bt16037 => ((laws_eqMatroid.f k bt16020.1 bt16020.2 bt16037.1 bt16037.2).bind fun t16041 => (if t16041 = true then ((laws_toMatroid.f k a1_0 l1_1).bind fun bt16042 => ((laws_eqMatroid.f k bt16025.1 bt16025.2 bt16042.1 bt16042.2).bind fun t16046 => (if t16046 = true then ((laws_toIntS.f k l2).bind fun t16047 => ((laws_eqIntS.f k t16030 t16047).bind fun t16050 => (if t16050 = true then ((laws_toIntS.f k l3).bind fun t16051 => ((laws_eqIntS.f k t16033 t16051).bind fun t16054 => (if t16054 = true then (some true) else (some false)))) else (some false)))) else (some false)))) else (some false)))))))))))))) = some true := H
     have A28 := aQ A280
     clear A280
     replace H := Option.bind_eq_some_iff.mp H
     obtain ⟨⟨t16009, t16010⟩, A290, H⟩ := H
     replace H : ((laws_toIntS.f k l2).bind fun t16013 => ((laws_toIntS.f k l3).bind fun t16016 => ((spec_IsSplit.f k t16005 t16006 t16009 t16010 t16013 t16016 a4).bind fun t16019 => ((laws_toMatroid.f k a0_0 l0_1).bind fun bt16020 => ((laws_toMatroid.f k a1_0 l1_1).bind fun bt16025 => ((laws_toIntS.f k l2).bind fun t16030 => ((laws_toIntS.f k l3).bind fun t16033 => ((impl_IsSplit.f k bt16020.1 bt16020.2 bt16025.1 bt16025.2 t16030 t16033 a4).bind fun t16036 => (if (t16036 != t16019) = true then (some false) else ((laws_toMatroid.f k a0_0 l0_1).bind fun bt16037 => ((laws_eqMatroid.f k bt16020.1 bt16020.2 bt16037.1 bt16037.2).bind fun t16041 => (if t16041 = true then ((laws_toMatroid.f k a1_0 l1_1).bind fun bt16042 => ((laws_eqMatroid.f k bt16025.1 bt16025.2 bt16042.1 bt16042.2).bind fun t16046 => (if t16046 = true then ((laws_toIntS.f k l2).bind fun t16047 => ((laws_eqIntS.f k t16030 t16047).bind fun t16050 => (if t16050 = true then ((laws_toIntS.f k l3).bind fun t16051 => ((laws_eqIntS.f k t16033 t16051).bind fun t16054 => (if t16054 = true then (some true) else (some false)))) else (some false)))) else (some false)))) else (some false))))))))))))) = some true := H
     have A29 := aQ A290
     clear A290
     replace H := Option.bind_eq_some_iff.mp H
     obtain ⟨t16013, A300, H⟩ := H
     replace H : ((laws_toIntS.f k l3).bind fun t16016 => ((spec_IsSplit.f k t16005 t16006 t16009 t16010 t16013 t16016 a4).bind fun t16019 => ((laws_toMatroid.f k a0_0 l0_1).bind fun bt16020 => ((laws_toMatroid.f k a1_0 l1_1).bind fun bt16025 => ((laws_toIntS.f k l2).bind fun t16030 => ((laws_toIntS.f k l3).bind fun t16033 => ((impl_IsSplit.f k bt16020.1 bt16020.2 bt16025.1 bt16025.2 t16030 t16033 a4).bind fun t16036 => (if (t16036 != t16019) = true then (some false) else ((laws_toMatroid.f k a0_0 l0_1).bind fun bt16037 => ((laws_eqMatroid.f k bt16020.1 bt16020.2 bt16037.1 bt16037.2).bind fun t16041 => (if t16041 = true then ((laws_toMatroid.f k a1_0 l1_1).bind fun bt16042 => ((laws_eqMatroid.f k bt16025.1 bt16025.2 bt16042.1 bt16042.2).bind fun t16046 => (if t16046 = true then ((laws_toIntS.f k l2).bind fun t16047 => ((laws_eqIntS.f k t16030 t16047).bind fun t16050 => (if t16050 = true then ((laws_toIntS.f k l3).bind fun t16051 => ((laws_eqIntS.f k t16033 t16051).bind fun t16054 => (if t16054 = true then (some true) else (some false)))) else (some false)))) else (some false)))) else (some false)))))))))))) = some true := H
     have A30 := aQ A300
     clear A300
     replace H := Option.bind_eq_some_iff.mp H
     obtain ⟨t16016, A310, H⟩ := H
     replace H : ((spec_IsSplit.f k t16005 t16006 t16009 t16010 t16013 t16016 a4).bind fun t16019 => ((laws_toMatroid.f k a0_0 l0_1).bind fun bt16020 => ((laws_toMatroid.f k a1_0 l1_1).bind fun bt16025 => ((laws_toIntS.f k l2).bind fun t16030 => ((laws_toIntS.f k l3).bind fun t16033 => ((impl_IsSplit.f k bt16020.1 bt16020.2 bt16025.1 bt16025.2 t16030 t16033 a4).bind fun t16036 => (if (t16036 != t16019) = true then (some false) else ((laws_toMatroid.f k a0_0 l0_1).bind fun bt16037 => ((laws_eqMatroid.f k bt16020.1 bt16020.2 bt16037.1 bt16037.2).bind fun t16041 => (if t16041 = true then ((laws_toMatroid.f k a1_0 l1_1).bind fun bt16042 => ((laws_eqMatroid.f k bt16025.1 bt16025.2 bt16042.1 bt16042.2).bind fun t16046 => (if t16046 = true then ((laws_toIntS.f k l2).bind fun t16047 => ((laws_eqIntS.f k t16030 t16047).bind fun t16050 => (if t16050 = true then ((laws_toIntS.f k l3).bind fun t16051 => ((laws_eqIntS.f k t16033 t16051).bind fun t16054 => (if t16054 = true then (some true) else (some false)))) else (some false)))) else (some false)))) else (some false))))))))))) = some true := H
     have A31 := aQ A310
     clear A310
     replace H := Option.bind_eq_some_iff.mp H
     obtain ⟨t16019, A320, H⟩ := H
     replace H : ((laws_toMatroid.f k a0_0 l0_1).bind fun bt16020 => ((laws_toMatroid.f k a1_0 l1_1).bind fun bt16025 => ((laws_toIntS.f k l2).bind fun t16030 => ((laws_toIntS.f k l3).bind fun t16033 => ((impl_IsSplit.f k bt16020.1 bt16020.2 bt16025.1 bt16025.2 t16030 t16033 a4).bind fun t16036 => (if (t16036 != t16019) = true then (some false) else ((laws_toMatroid.f k a0_0 l0_1).bind fun bt16037 => ((laws_eqMatroid.f k bt16020.1 bt16020.2 bt16037.1 bt16037.2).bind fun t16041 => (if t16041 = true then ((laws_toMatroid.f k a1_0 l1_1).bind fun bt16042 => ((laws_eqMatroid.f k bt16025.1 bt16025.2 bt16042.1 bt16042.2).bind fun t16046 => (if t16046 = true then ((laws_toIntS.f k l2).bind fun t16047 => ((laws_eqIntS.f k t16030 t16047).bind fun t16050 => (if t16050 = true then ((laws_toIntS.f k l3).bind fun t16051 => ((laws_eqIntS.f k t16033 t16051).bind fun t16054 => (if t16054 = true then (some true) else (some false)))) else (some false)))) else (some false)))) else (some false)))))))))) = some true := H
     have A32 := aQ A320
     clear A320
     replace H := Option.bind_eq_some_iff.mp H
     obtain ⟨⟨t16020, t16021⟩, A330, H⟩ := H
     replace H : ((laws_toMatroid.f k a1_0 l1_1).bind fun bt16025 => ((laws_toIntS.f k l2).bind fun t16030 => ((laws_toIntS.f k l3).bind fun t16033 => ((impl_IsSplit.f k t16020 t16021 bt16025.1 bt16025.2 t16030 t16033 a4).bind fun t16036 => (if (t16036 != t16019) = true then (some false) else ((laws_toMatroid.f k a0_0 l0_1).bind fun bt16037 => ((laws_eqMatroid.f k t16020 t16021 bt16037.1 bt16037.2).bind fun t16041 => (if t16041 = true then ((laws_toMatroid.f k a1_0 l1_1).bind fun bt16042 => ((laws_eqMatroid.f k bt16025.1 bt16025.2 bt16042.1 bt16042.2).bind fun t16046 => (if t16046 = true then ((laws_toIntS.f k l2).bind fun t16047 => ((laws_eqIntS.f k t16030 t16047).bind fun t16050 => (if t16050 = true then ((laws_toIntS.f k l3).bind fun t16051 => ((laws_eqIntS.f k t16033 t16051).bind fun t16054 => (if t16054 = true then (some true) else (some false)))) else (some false)))) else (some false)))) else (some false))))))))) = some true := H
     have A33 := aQ A330
     clear A330
     replace H := Option.bind_eq_some_iff.mp H
     obtain ⟨⟨t16025, t16026⟩, A340, H⟩ := H
     replace H : ((laws_toIntS.f k l2).bind fun t16030 => ((laws_toIntS.f k l3).bind fun t16033 => ((impl_IsSplit.f k t16020 t16021 t16025 t16026 t16030 t16033 a4).bind fun t16036 => (if (t16036 != t16019) = true then (some false) else ((laws_toMatroid.f k a0_0 l0_1).bind fun bt16037 => ((laws_eqMatroid.f k t16020 t16021 bt16037.1 bt16037.2).bind fun t16041 => (if t16041 = true then ((laws_toMatroid.f k a1_0 l1_1).bind fun bt16042 => ((laws_eqMatroid.f k t16025 t16026 bt16042.1 bt16042.2).bind fun t16046 => (if t16046 = true then ((laws_toIntS.f k l2).bind fun t16047 => ((laws_eqIntS.f k t16030 t16047).bind fun t16050 => (if t16050 = true then ((laws_toIntS.f k l3).bind fun t16051 => ((laws_eqIntS.f k t16033 t16051).bind fun t16054 => (if t16054 = true then (some true) else (some false)))) else (some false)))) else (some false)))) else (some false)))))))) = some true := H
     have A34 := aQ A340
     clear A340
     replace H := Option.bind_eq_some_iff.mp H
     obtain ⟨t16030, A350, H⟩ := H
     replace H : ((laws_toIntS.f k l3).bind fun t16033 => ((impl_IsSplit.f k t16020 t16021 t16025 t16026 t16030 t16033 a4).bind fun t16036 => (if (t16036 != t16019) = true then (some false) else ((laws_toMatroid.f k a0_0 l0_1).bind fun bt16037 => ((laws_eqMatroid.f k t16020 t16021 bt16037.1 bt16037.2).bind fun t16041 => (if t16041 = true then ((laws_toMatroid.f k a1_0 l1_1).bind fun bt16042 => ((laws_eqMatroid.f k t16025 t16026 bt16042.1 bt16042.2).bind fun t16046 => (if t16046 = true then ((laws_toIntS.f k l2).bind fun t16047 => ((laws_eqIntS.f k t16030 t16047).bind fun t16050 => (if t16050 = true then ((laws_toIntS.f k l3).bind fun t16051 => ((laws_eqIntS.f k t16033 t16051).bind fun t16054 => (if t16054 = true then (some true) else (some false)))) else (some false)))) else (some false)))) else (some false))))))) = some true := H
     have A35 := aQ A350
     clear A350
     replace H := Option.bind_eq_some_iff.mp H
     obtain ⟨t16033, A360, H⟩ := H
     replace H : ((impl_IsSplit.f k t16020 t16021 t16025 t16026 t16030 t16033 a4).bind fun t16036 => (if (t16036 != t16019) = true then (some false) else ((laws_toMatroid.f k a0_0 l0_1).bind fun bt16037 => ((laws_eqMatroid.f k t16020 t16021 bt16037.1 bt16037.2).bind fun t16041 => (if t16041 = true then ((laws_toMatroid.f k a1_0 l1_1).bind fun bt16042 => ((laws_eqMatroid.f k t16025 t16026 bt16042.1 bt16042.2).bind fun t16046 => (if t16046 = true then ((laws_toIntS.f k l2).bind fun t16047 => ((laws_eqIntS.f k t16030 t16047).bind fun t16050 => (if t16050 = true then ((laws_toIntS.f k l3).bind fun t16051 => ((laws_eqIntS.f k t16033 t16051).bind fun t16054 => (if t16054 = true then (some true) else (some false)))) else (some false)))) else (some false)))) else (some false)))))) = some true := H
     have A36 := aQ A360
     clear A360
     replace H := Option.bind_eq_some_iff.mp H
     obtain ⟨t16036, A370, H⟩ := H
     replace H : (if (t16036 != t16019) = true then (some false) else ((laws_toMatroid.f k a0_0 l0_1).bind fun bt16037 => ((laws_eqMatroid.f k t16020 t16021 bt16037.1 bt16037.2).bind fun t16041 => (if t16041 = true then ((laws_toMatroid.f k a1_0 l1_1).bind fun bt16042 => ((laws_eqMatroid.f k t16025 t16026 bt16042.1 bt16042.2).bind fun t16046 => (if t16046 = true then ((laws_toIntS.f k l2).bind fun t16047 => ((laws_eqIntS.f k t16030 t16047).bind fun t16050 => (if t16050 = true then ((laws_toIntS.f k l3).bind fun t16051 => ((laws_eqIntS.f k t16033 t16051).bind fun t16054 => (if t16054 = true then (some true) else (some false)))) else (some false)))) else (some false)))) else (some false))))) = some true := H
     have A37 := aQ A370
     clear A370
     by_cases c38 : (t16036 != t16019) = true
     ·rw [if_pos c38] at H
      have c38b0 : (t16036 != t16019) = true := c38
      (try (have c38b1 : decide (t16036 = t16019) = false := by simpa using c38))
      (try (have c38b2 : (t16036 == t16019) = false := by simpa using c38))
      (try (have c38b3 : ¬ (t16036 = t16019) := by simpa using c38))
      clear c38
      exact absurd (Option.some.inj H) (by decide)
     ·rw [if_neg c38] at H
      have c38b0 : (t16036 != t16019) = false := by simpa using c38
      (try (have c38b1 : decide (t16036 = t16019) = true := by simpa using c38))
      (try (have c38b2 : (t16036 == t16019) = true := by simpa using c38))
      clear c38
      replace H := Option.bind_eq_some_iff.mp H
      obtain ⟨⟨t16037, t16038⟩, A780, H⟩ := H
      replace H : ((laws_eqMatroid.f k t16020 t16021 t16037 t16038).bind fun t16041 => (if t16041 = true then ((laws_toMatroid.f k a1_0 l1_1).bind fun bt16042 => ((laws_eqMatroid.f k t16025 t16026 bt16042.1 bt16042.2).bind fun t16046 => (if t16046 = true then ((laws_toIntS.f k l2).bind fun t16047 => ((laws_eqIntS.f k t16030 t16047).bind fun t16050 => (if t16050 = true then ((laws_toIntS.f k l3).bind fun t16051 => ((laws_eqIntS.f k t16033 t16051).bind fun t16054 => (if t16054 = true then (some true) else (some false)))) else (some false)))) else (some false)))) else (some false))) = some true := H
      have A78 := aQ A780
      clear A780
      replace H := Option.bind_eq_some_iff.mp H
      obtain ⟨t16041, A790, H⟩ := H
      replace H : (if t16041 = true then ((laws_toMatroid.f k a1_0 l1_1).bind fun bt16042 => ((laws_eqMatroid.f k t16025 t16026 bt16042.1 bt16042.2).bind fun t16046 => (if t16046 = true then ((laws_toIntS.f k l2).bind fun t16047 => ((laws_eqIntS.f k t16030 t16047).bind fun t16050 => (if t16050 = true then ((laws_toIntS.f k l3).bind fun t16051 => ((laws_eqIntS.f k t16033 t16051).bind fun t16054 => (if t16054 = true then (some true) else (some false)))) else (some false)))) else (some false)))) else (some false)) = some true := H
      have A79 := aQ A790
      clear A790
      by_cases c80 : t16041 = true
      ·subst c80
       have H1 : ((laws_toMatroid.f k a1_0 l1_1).bind fun bt16042 => ((laws_eqMatroid.f k t16025 t16026 bt16042.1 bt16042.2).bind fun t16046 => (if t16046 = true then ((laws_toIntS.f k l2).bind fun t16047 => ((laws_eqIntS.f k t16030 t16047).bind fun t16050 => (if t16050 = true then ((laws_toIntS.f k l3).bind fun t16051 => ((laws_eqIntS.f k t16033 t16051).bind fun t16054 => (if t16054 = true then (some true) else (some false)))) else (some false)))) else (some false)))) = some true := by rw [if_pos rfl] at H; exact H
       clear H
       have H := H1
       clear H1
       replace H := Option.bind_eq_some_iff.mp H
       obtain ⟨⟨t16042, t16043⟩, A810, H⟩ := H
       replace H : ((laws_eqMatroid.f k t16025 t16026 t16042 t16043).bind fun t16046 => (if t16046 = true then ((laws_toIntS.f k l2).bind fun t16047 => ((laws_eqIntS.f k t16030 t16047).bind fun t16050 => (if t16050 = true then ((laws_toIntS.f k l3).bind fun t16051 => ((laws_eqIntS.f k t16033 t16051).bind fun t16054 => (if t16054 = true then (some true) else (some false)))) else (some false)))) else (some false))) = some true := H
       have A81 := aQ A810
       clear A810
       replace H := Option.bind_eq_some_iff.mp H
       obtain ⟨t16046, A820, H⟩ := H
       replace H : (if t16046 = true then ((laws_toIntS.f k l2).bind fun t16047 => ((laws_eqIntS.f k t16030 t16047).bind fun t16050 => (if t16050 = true then ((laws_toIntS.f k l3).bind fun t16051 => ((laws_eqIntS.f k t16033 t16051).bind fun t16054 => (if t16054 = true then (some true) else (some false)))) else (some false)))) else (some false)) = some true := H
       have A82 := aQ A820
       clear A820
       by_cases c83 : t16046 = true
       ·subst c83
        have H1 : ((laws_toIntS.f k l2).bind fun t16047 => ((laws_eqIntS.f k t16030 t16047).bind fun t16050 => (if t16050 = true then ((laws_toIntS.f k l3).bind fun t16051 => ((laws_eqIntS.f k t16033 t16051).bind fun t16054 => (if t16054 = true then (some true) else (some false)))) else (some false)))) = some true := by rw [if_pos rfl] at H; exact H
        clear H
        have H := H1
        clear H1
        replace H := Option.bind_eq_some_iff.mp H
        obtain ⟨t16047, A840, H⟩ := H
        replace H : ((laws_eqIntS.f k t16030 t16047).bind fun t16050 => (if t16050 = true then ((laws_toIntS.f k l3).bind fun t16051 => ((laws_eqIntS.f k t16033 t16051).bind fun t16054 => (if t16054 = true then (some true) else (some false)))) else (some false))) = some true := H
        have A84 := aQ A840
        clear A840
        replace H := Option.bind_eq_some_iff.mp H
        obtain ⟨t16050, A850, H⟩ := H
        replace H : (if t16050 = true then ((laws_toIntS.f k l3).bind fun t16051 => ((laws_eqIntS.f k t16033 t16051).bind fun t16054 => (if t16054 = true then (some true) else (some false)))) else (some false)) = some true := H
        have A85 := aQ A850
        clear A850
        by_cases c86 : t16050 = true
        ·subst c86
         have H1 : ((laws_toIntS.f k l3).bind fun t16051 => ((laws_eqIntS.f k t16033 t16051).bind fun t16054 => (if t16054 = true then (some true) else (some false)))) = some true := by rw [if_pos rfl] at H; exact H
         clear H
         have H := H1
         clear H1
         replace H := Option.bind_eq_some_iff.mp H
         obtain ⟨t16051, A870, H⟩ := H
         replace H : ((laws_eqIntS.f k t16033 t16051).bind fun t16054 => (if t16054 = true then (some true) else (some false))) = some true := H
         have A87 := aQ A870
         clear A870
         replace H := Option.bind_eq_some_iff.mp H
         obtain ⟨t16054, A880, H⟩ := H
         replace H : (if t16054 = true then (some true) else (some false)) = some true := H
         have A88 := aQ A880
         clear A880
         by_cases c89 : t16054 = true
         ·subst c89
          have H1 : (some true) = some true := rfl
          clear H
          have H := H1
          clear H1
          clear H
          go_enter Try.func15, Try.ntmps15
          try go_wp2_with (first | ((with_reducible refine gate_dst (N := 5) rfl ?_); refine box_event ?hg (N := 5) ?hd (cs := #[.int .i64 a0_0, .slice A0_1 l0_1.length c0_1]) (t := 24) ?hr ?_; (case hd => rfl); (case hg => rfl); (case hr => first | (go_simp; done) | (go_simp; rfl)); intro gb16001 hg w90 hbox hb; have BK16001 := aQ (hbox); have GW16001 := aQ ((by rw [hg]; exact (below_size (pB HB.out)) : w.heap.size ≤ gb16001)); have GE16001 := aQ ((by rw [hg]; exact (below_size (pB HB.out)) : w.heap.size ≤ gb16001)); replace HB := aQ (below_step (pB HB.out) hb); clear hb hbox hg) | ((with_reducible refine gate_dst (N := 6) rfl ?_); refine box_event ?hg (N := 6) ?hd (cs := #[.int .i64 a1_0, .slice A1_1 l1_1.length c1_1]) (t := 24) ?hr ?_; (case hd => rfl); (case hg => rfl); (case hr => first | (go_simp; done) | (go_simp; rfl)); intro gb16002 hg w91 hbox hb; have BK16002 := aQ (hbox); have GW16002 := aQ ((by rw [hg]; exact (below_size (pB1 HB.out GE16001.out)) : w.heap.size ≤ gb16002)); have GE16002 := aQ ((by rw [hg]; exact (below_size (pB1 HB.out GE16001.out)) : w.heap.size ≤ gb16002)); replace HB := aQ (below_step (pB1 HB.out GE16001.out) hb); have NB16001_16002 := aQ ((by rw [hg]; exact Nat.ne_of_lt (blk_lt (g := gb16001) (o := .cells #[.int .i64 a0_0, .slice A0_1 l0_1.length c0_1] 24 (0, 0)) (pk BK16001.out)) : gb16001 ≠ gb16002)); have NB16002_16001 := aQ ((by rw [hg]; exact Nat.ne_of_gt (blk_lt (g := gb16001) (o := .cells #[.int .i64 a0_0, .slice A0_1 l0_1.length c0_1] 24 (0, 0)) (pk BK16001.out)) : gb16002 ≠ gb16001)); replace BK16001 := aQ (blk_below (g := gb16001) (o := .cells #[.int .i64 a0_0, .slice A0_1 l0_1.length c0_1] 24 (0, 0)) (pk BK16001.out) hb); clear hb hbox hg; have hnb92 := NB16001_16002.out; have hnc92 := NB16002_16001.out; have hcz93_0 := bc (v := (.int .i64 a0_0)) BK16001.out 0; have hcz93_1 := bc (v := (.slice A0_1 l0_1.length c0_1)) BK16001.out 1; have hfz93_0 := blk_frozen BK16001.out 0; have hfz93_1 := blk_frozen BK16001.out 1) | ((with_reducible refine gate_callee (f := 33) rfl ?_); refine goesL_ (some 26) rfl rfl Try.func33 (by kernel_rfl) rfl #[.agg #[.int .i64 a0_0, .slice A0_1 l0_1.length c0_1], .int .i64 1048576] rfl lm ?_; (with_reducible refine (laws_szMatroid.calls a0_0 _ _ l0_1 1048576 t16003 _ ?side1 ?side2 A12.out).mono ?_); (case side1 => exact pC (Kd.C_below HR0_1.out HB.out)); (case side2 => exact HC0_1.out); rintro e w94 ⟨rfl, hb⟩; refine ⟨_, rfl, ?_⟩; replace BK16001 := aQ (blk_below (g := gb16001) (o := .cells #[.int .i64 a0_0, .slice A0_1 l0_1.length c0_1] 24 (0, 0)) (pk BK16001.out) hb); replace BK16002 := aQ (blk_below (g := gb16002) (o := .cells #[.int .i64 a1_0, .slice A1_1 l1_1.length c1_1] 24 (0, 0)) (pk BK16002.out) hb); replace HB := aQ (below_step (pB2 HB.out GE16001.out GE16002.out) hb); (try clear hb); have hcz95_0 := bc (v := (.int .i64 a1_0)) BK16002.out 0; have hcz95_1 := bc (v := (.slice A1_1 l1_1.length c1_1)) BK16002.out 1; have hfz95_0 := blk_frozen BK16002.out 0; have hfz95_1 := blk_frozen BK16002.out 1) | ((with_reducible refine gate_callee (f := 33) rfl ?_); refine goesL_ (some 31) rfl rfl Try.func33 (by kernel_rfl) rfl #[.agg #[.int .i64 a1_0, .slice A1_1 l1_1.length c1_1], .int .i64 t16003] rfl lm ?_; (with_reducible refine (laws_szMatroid.calls a1_0 _ _ l1_1 t16003 t16004 _ ?side1 ?side2 A19.out).mono ?_); (case side1 => exact pC (Kd.C_below HR1_1.out HB.out)); (case side2 => exact HC1_1.out); rintro e w96 ⟨rfl, hb⟩; refine ⟨_, rfl, ?_⟩; replace BK16001 := aQ (blk_below (g := gb16001) (o := .cells #[.int .i64 a0_0, .slice A0_1 l0_1.length c0_1] 24 (0, 0)) (pk BK16001.out) hb); replace BK16002 := aQ (blk_below (g := gb16002) (o := .cells #[.int .i64 a1_0, .slice A1_1 l1_1.length c1_1] 24 (0, 0)) (pk BK16002.out) hb); replace HB := aQ (below_step (pB2 HB.out GE16001.out GE16002.out) hb); (try clear hb)))
          have n0_ := aQ (blk_drew BK16001.out)
          have n1_ := aQ (blk_drew BK16002.out)
          have n2_ := aQ (below_drew1 HB.out)
          clear BK16001
          clear BK16002
          clear HB
          have BK16001 := n0_
          have BK16002 := n1_
          have HB := n2_
          clear n0_ n1_ n2_
          refine start_ (n := 11) (S := fun w' => w'.cell? ⟨gb16001, 0, none⟩ = some (.int .i64 a0_0) ∧ w'.cell? ⟨gb16001, 1, none⟩ = some (.slice A0_1 l0_1.length c0_1) ∧ w'.cell? ⟨gb16002, 0, none⟩ = some (.int .i64 a1_0) ∧ w'.cell? ⟨gb16002, 1, none⟩ = some (.slice A1_1 l1_1.length c1_1)) (ds := []) #[false, false, false, false, false, false, false, false, false, false, false] (by kernel_rfl) rfl rfl ⟨(blk_cell BK16001.out 0).trans rfl, (blk_cell BK16001.out 1).trans rfl, (blk_cell BK16002.out 0).trans rfl, (blk_cell BK16002.out 1).trans rfl⟩ (fun hHeld => ?_); refine with_tabW laws_FnExactIsSplit.tab12 laws_FnExactIsSplit.bits12 (fun HT_ HW_ => ?_)
          generalize w96.drew = w97 at BK16001 BK16002 HB hHeld ⊢
          refine pure_ (i := 4) (N := some 38) (v := ?_) (a' := ?_) #[false, false, false, false, true, false, false, false, false, false, false] rfl rfl (any_of HT_.out (by kernel_rfl)) (fun _ _ _ h => h) (Or.inl ⟨by rfl, ?_⟩) ?_ ?_
          rotate_left
          ·intro w'
           go_simp
           with_reducible rfl
          rotate_left
          ·simp only [Act.put, List.setIfInBounds_toArray, List.set_cons_zero, List.set_cons_succ, i64_w, i32_w]
           rfl
          refine pure_ (i := 6) (N := some 40) (v := ?_) (a' := ?_) #[false, false, false, false, true, false, true, false, false, false, false] rfl rfl (any_of HT_.out (by kernel_rfl)) (fun _ _ _ h => h) (Or.inl ⟨by rfl, ?_⟩) ?_ ?_
          rotate_left
          ·intro w'
           go_simp
           with_reducible rfl
          rotate_left
          ·simp only [Act.put, List.setIfInBounds_toArray, List.set_cons_zero, List.set_cons_succ, i64_w, i32_w]
           rfl
          refine pure_ (i := 8) (N := some 42) (v := ?_) (a' := ?_) #[false, false, false, false, true, false, true, false, true, false, false] rfl rfl (any_of HT_.out (by kernel_rfl)) (fun _ _ _ h => h) (Or.inl ⟨by rfl, ?_⟩) ?_ ?_
          rotate_left
          ·intro w'
           go_simp
           with_reducible rfl
          rotate_left
          ·simp only [Act.put, List.setIfInBounds_toArray, List.set_cons_zero, List.set_cons_succ, i64_w, i32_w]
           rfl
          refine take_ (i := 0) (N := some 34) (v := ?_) (a' := ?_) #[true, false, false, false, true, false, true, false, true, false, false] rfl rfl (take_ofW HT_.out HW_.out (by kernel_rfl)) (fun _ _ _ h => h) (Or.inl ⟨by rfl, ?_⟩) hHeld ?_ ?_
          rotate_left
          ·rintro w' ⟨s0, s1, s2, s3⟩
           go_simp
           with_reducible rfl
          rotate_left
          ·simp only [Act.put, List.setIfInBounds_toArray, List.set_cons_zero, List.set_cons_succ, i64_w, i32_w]
           rfl
          refine take_ (i := 2) (N := some 36) (v := ?_) (a' := ?_) #[true, false, true, false, true, false, true, false, true, false, false] rfl rfl (take_ofW HT_.out HW_.out (by kernel_rfl)) (fun _ _ _ h => h) (Or.inl ⟨by rfl, ?_⟩) hHeld ?_ ?_
          rotate_left
          ·rintro w' ⟨s0, s1, s2, s3⟩
           go_simp
           with_reducible rfl
          rotate_left
          ·simp only [Act.put, List.setIfInBounds_toArray, List.set_cons_zero, List.set_cons_succ, i64_w, i32_w]
           rfl
          refine one_ (i := 1) (N := some 35) #[true, true, true, false, true, false, true, false, true, false, false] rfl rfl (one_of HT_.out (by kernel_rfl)) (by decide) (fun K hK => ?_)
          refine goes_ Try.func35 (by kernel_rfl) rfl #[.agg #[.int .i64 a0_0, .slice A0_1 l0_1.length c0_1]] (by rfl) rfl rfl lm ?_
          with_reducible refine (laws_toMatroid.calls k a0_0 _ _ l0_1 t16005 t16006 _ ?side1 ?side2 A28.out).mono ?_
          (case side1 => exact pC (Kd.C_below HR0_1.out HB.out))
          (case side2 => exact HC0_1.out)
          rintro e w98 ⟨v16007, rfl, ho0, hb⟩
          refine ⟨_, rfl, ?_⟩
          have n0_ := aQ (Kd.R_lower ho0 (below_size (pB2 HB.out GE16001.out GE16002.out)))
          have n1_ := aQ (blk_below (g := gb16001) (o := .cells #[.int .i64 a0_0, .slice A0_1 l0_1.length c0_1] 24 (0, 0)) (pk BK16001.out) hb)
          have n2_ := aQ (blk_below (g := gb16002) (o := .cells #[.int .i64 a1_0, .slice A1_1 l1_1.length c1_1] 24 (0, 0)) (pk BK16002.out) hb)
          have n3_ := aQ (below_step (pB2 HB.out GE16001.out GE16002.out) hb)
          clear BK16001
          clear BK16002
          clear HB
          have HO16008 := n0_
          have BK16001 := n1_
          have BK16002 := n2_
          have HB := n3_
          clear n0_ n1_ n2_ n3_
          (try clear hb)
          (try clear hb2)
          (try clear hk)
          (try clear hi)
          (try clear ho0)
          refine hK.out _ _ ⟨(blk_cell BK16001.out 0).trans rfl, (blk_cell BK16001.out 1).trans rfl, (blk_cell BK16002.out 0).trans rfl, (blk_cell BK16002.out 1).trans rfl⟩ (fun hHeld => ?_)
          clear hK K
          refine norm_ (a' := ?_) ?_ ?_
          rotate_left
          ·show Act.put _ (some 35) _ = _
           simp only [Act.put, List.setIfInBounds_toArray, List.set_cons_zero, List.set_cons_succ, i64_w, i32_w]
           rfl
          refine one_ (i := 3) (N := some 37) #[true, true, true, true, true, false, true, false, true, false, false] rfl rfl (one_of HT_.out (by kernel_rfl)) (by decide) (fun K hK => ?_)
          refine goes_ Try.func35 (by kernel_rfl) rfl #[.agg #[.int .i64 a1_0, .slice A1_1 l1_1.length c1_1]] (by rfl) rfl rfl lm ?_
          with_reducible refine (laws_toMatroid.calls k a1_0 _ _ l1_1 t16009 t16010 _ ?side1 ?side2 A29.out).mono ?_
          (case side1 => exact pC (Kd.C_below HR1_1.out HB.out))
          (case side2 => exact HC1_1.out)
          rintro e w99 ⟨v16011, rfl, ho0, hb⟩
          refine ⟨_, rfl, ?_⟩
          have n0_ := aQ (Kd.R_elder' (pR HO16008.out) (Kd.R_base ho0) hb)
          have n1_ := aQ (Kd.R_lower (Kd.R_new' ho0 (Kd.R_lt (pR HO16008.out))) (below_size (pB2 HB.out GE16001.out GE16002.out)))
          have n2_ := aQ (blk_below (g := gb16001) (o := .cells #[.int .i64 a0_0, .slice A0_1 l0_1.length c0_1] 24 (0, 0)) (pk BK16001.out) hb)
          have n3_ := aQ (blk_below (g := gb16002) (o := .cells #[.int .i64 a1_0, .slice A1_1 l1_1.length c1_1] 24 (0, 0)) (pk BK16002.out) hb)
          have n4_ := aQ (below_step (pB2 HB.out GE16001.out GE16002.out) hb)
          clear HO16008
          clear BK16001
          clear BK16002
          clear HB
          have HO16008 := n0_
          have HO16012 := n1_
          have BK16001 := n2_
          have BK16002 := n3_
          have HB := n4_
          clear n0_ n1_ n2_ n3_ n4_
          (try clear hb)
          (try clear hb2)
          (try clear hk)
          (try clear hi)
          (try clear ho0)
          refine hK.out _ _ ⟨(blk_cell BK16001.out 0).trans rfl, (blk_cell BK16001.out 1).trans rfl, (blk_cell BK16002.out 0).trans rfl, (blk_cell BK16002.out 1).trans rfl⟩ (fun hHeld => ?_)
          clear hK K
          refine norm_ (a' := ?_) ?_ ?_
          rotate_left
          ·show Act.put _ (some 37) _ = _
           simp only [Act.put, List.setIfInBounds_toArray, List.set_cons_zero, List.set_cons_succ, i64_w, i32_w]
           rfl
          refine one_ (i := 5) (N := some 39) #[true, true, true, true, true, true, true, false, true, false, false] rfl rfl (one_of HT_.out (by kernel_rfl)) (by decide) (fun K hK => ?_)
          refine goes_ Try.func47 (by kernel_rfl) rfl #[.slice A2 l2.length c2] (by rfl) rfl rfl lm ?_
          with_reducible refine (laws_toIntS.calls k _ _ l2 t16013 _ ?side1 ?side2 A30.out).mono ?_
          (case side1 => exact pC (Kd.C_below HR2.out HB.out))
          (case side2 => exact HC2.out)
          rintro e w100 ⟨v16014, rfl, ho0, hb⟩
          refine ⟨_, rfl, ?_⟩
          have n0_ := aQ (Kd.R_elder' (pR HO16008.out) (Kd.R_base ho0) hb)
          have n1_ := aQ (Kd.R_elder' (pR HO16012.out) (Kd.R_base ho0) hb)
          have n2_ := aQ (Kd.R_lower (Kd.R_new' (Kd.R_new' ho0 (Kd.R_lt (pR HO16008.out))) (Kd.R_lt (pR HO16012.out))) (below_size (pB2 HB.out GE16001.out GE16002.out)))
          have n3_ := aQ (blk_below (g := gb16001) (o := .cells #[.int .i64 a0_0, .slice A0_1 l0_1.length c0_1] 24 (0, 0)) (pk BK16001.out) hb)
          have n4_ := aQ (blk_below (g := gb16002) (o := .cells #[.int .i64 a1_0, .slice A1_1 l1_1.length c1_1] 24 (0, 0)) (pk BK16002.out) hb)
          have n5_ := aQ (below_step (pB2 HB.out GE16001.out GE16002.out) hb)
          clear HO16008
          clear HO16012
          clear BK16001
          clear BK16002
          clear HB
          have HO16008 := n0_
          have HO16012 := n1_
          have HO16015 := n2_
          have BK16001 := n3_
          have BK16002 := n4_
          have HB := n5_
          clear n0_ n1_ n2_ n3_ n4_ n5_
          (try clear hb)
          (try clear hb2)
          (try clear hk)
          (try clear hi)
          (try clear ho0)
          refine hK.out _ _ ⟨(blk_cell BK16001.out 0).trans rfl, (blk_cell BK16001.out 1).trans rfl, (blk_cell BK16002.out 0).trans rfl, (blk_cell BK16002.out 1).trans rfl⟩ (fun hHeld => ?_)
          clear hK K
          refine norm_ (a' := ?_) ?_ ?_
          rotate_left
          ·show Act.put _ (some 39) _ = _
           simp only [Act.put, List.setIfInBounds_toArray, List.set_cons_zero, List.set_cons_succ, i64_w, i32_w]
           rfl
          refine one_ (i := 7) (N := some 41) #[true, true, true, true, true, true, true, true, true, false, false] rfl rfl (one_of HT_.out (by kernel_rfl)) (by decide) (fun K hK => ?_)
          refine goes_ Try.func47 (by kernel_rfl) rfl #[.slice A3 l3.length c3] (by rfl) rfl rfl lm ?_
          with_reducible refine (laws_toIntS.calls k _ _ l3 t16016 _ ?side1 ?side2 A31.out).mono ?_
          (case side1 => exact pC (Kd.C_below HR3.out HB.out))
          (case side2 => exact HC3.out)
          rintro e w101 ⟨v16017, rfl, ho0, hb⟩
          refine ⟨_, rfl, ?_⟩
          have n0_ := aQ (Kd.R_elder' (pR HO16008.out) (Kd.R_base ho0) hb)
          have n1_ := aQ (Kd.R_elder' (pR HO16012.out) (Kd.R_base ho0) hb)
          have n2_ := aQ (Kd.R_elder' (pR HO16015.out) (Kd.R_base ho0) hb)
          have n3_ := aQ (Kd.R_lower (Kd.R_new' (Kd.R_new' (Kd.R_new' ho0 (Kd.R_lt (pR HO16008.out))) (Kd.R_lt (pR HO16012.out))) (Kd.R_lt (pR HO16015.out))) (below_size (pB2 HB.out GE16001.out GE16002.out)))
          have n4_ := aQ (blk_below (g := gb16001) (o := .cells #[.int .i64 a0_0, .slice A0_1 l0_1.length c0_1] 24 (0, 0)) (pk BK16001.out) hb)
          have n5_ := aQ (blk_below (g := gb16002) (o := .cells #[.int .i64 a1_0, .slice A1_1 l1_1.length c1_1] 24 (0, 0)) (pk BK16002.out) hb)
          have n6_ := aQ (below_step (pB2 HB.out GE16001.out GE16002.out) hb)
          clear HO16008
          clear HO16012
          clear HO16015
          clear BK16001
          clear BK16002
          clear HB
          have HO16008 := n0_
          have HO16012 := n1_
          have HO16015 := n2_
          have HO16018 := n3_
          have BK16001 := n4_
          have BK16002 := n5_
          have HB := n6_
          clear n0_ n1_ n2_ n3_ n4_ n5_ n6_
          (try clear hb)
          (try clear hb2)
          (try clear hk)
          (try clear hi)
          (try clear ho0)
          obtain ⟨Ao102, co102, eo102⟩ := Kd.R_slice HO16008.out
          (first | subst eo102 | (injection eo102 with f1_ f2_ f3_; have f4_ := f1_.symm; have f5_ := f3_.symm; clear f1_ f2_ f3_; subst f4_; subst f5_))
          obtain ⟨Ao103, co103, eo103⟩ := Kd.R_slice HO16012.out
          (first | subst eo103 | (injection eo103 with f1_ f2_ f3_; have f4_ := f1_.symm; have f5_ := f3_.symm; clear f1_ f2_ f3_; subst f4_; subst f5_))
          obtain ⟨Ao104, co104, eo104⟩ := Kd.R_slice HO16015.out
          (first | subst eo104 | (injection eo104 with f1_ f2_ f3_; have f4_ := f1_.symm; have f5_ := f3_.symm; clear f1_ f2_ f3_; subst f4_; subst f5_))
          obtain ⟨Ao105, co105, eo105⟩ := Kd.R_slice HO16018.out
          (first | subst eo105 | (injection eo105 with f1_ f2_ f3_; have f4_ := f1_.symm; have f5_ := f3_.symm; clear f1_ f2_ f3_; subst f4_; subst f5_))
          refine hK.out _ _ ⟨(blk_cell BK16001.out 0).trans rfl, (blk_cell BK16001.out 1).trans rfl, (blk_cell BK16002.out 0).trans rfl, (blk_cell BK16002.out 1).trans rfl⟩ (fun hHeld => ?_)
          clear hK K
          refine norm_ (a' := ?_) ?_ ?_
          rotate_left
          ·show Act.put _ (some 41) _ = _
           simp only [Act.put, List.setIfInBounds_toArray, List.set_cons_zero, List.set_cons_succ, i64_w, i32_w]
           rfl
          refine one_ (i := 9) (N := some 43) #[true, true, true, true, true, true, true, true, true, true, false] rfl rfl (one_of HT_.out (by kernel_rfl)) (by decide) (fun K hK => ?_)
          refine goes_ Try.func66 (by kernel_rfl) rfl #[.agg #[.int .i64 t16005, .slice Ao102 t16006.length co102], .agg #[.int .i64 t16009, .slice Ao103 t16010.length co103], .slice Ao104 t16013.length co104, .slice Ao105 t16016.length co105, .int .i64 a4] (by rfl) rfl rfl lm ?_
          with_reducible refine (spec_IsSplit.calls k t16005 _ _ t16006 t16009 _ _ t16010 _ _ t16013 _ _ t16016 a4 t16019 _ ?side1 ?side2 ?side3 ?side4 ?side5 ?side6 ?side7 ?side8 A32.out).mono ?_
          (case side1 => repeat (first | exact (Kd.R_reads' HO16008.out).2.2 | (with_reducible refine Kd.C_alloc ?_ _) | (with_reducible refine Kd.C_drewN ?_ _) | (with_reducible refine Kd.C_drew ?_)))
          (case side2 => exact (Kd.R_reads' HO16008.out).2.1)
          (case side3 => repeat (first | exact (Kd.R_reads' HO16012.out).2.2 | (with_reducible refine Kd.C_alloc ?_ _) | (with_reducible refine Kd.C_drewN ?_ _) | (with_reducible refine Kd.C_drew ?_)))
          (case side4 => exact (Kd.R_reads' HO16012.out).2.1)
          (case side5 => repeat (first | exact (Kd.R_reads' HO16015.out).2.2 | (with_reducible refine Kd.C_alloc ?_ _) | (with_reducible refine Kd.C_drewN ?_ _) | (with_reducible refine Kd.C_drew ?_)))
          (case side6 => exact (Kd.R_reads' HO16015.out).2.1)
          (case side7 => repeat (first | exact (Kd.R_reads' HO16018.out).2.2 | (with_reducible refine Kd.C_alloc ?_ _) | (with_reducible refine Kd.C_drewN ?_ _) | (with_reducible refine Kd.C_drew ?_)))
          (case side8 => exact (Kd.R_reads' HO16018.out).2.1)
          rintro e w106 ⟨rfl, hb⟩
          refine ⟨_, rfl, ?_⟩
          have n0_ := aQ (Kd.R_below (pR HO16008.out) hb)
          have n1_ := aQ (Kd.R_below (pR HO16012.out) hb)
          have n2_ := aQ (Kd.R_below (pR HO16015.out) hb)
          have n3_ := aQ (Kd.R_below (pR HO16018.out) hb)
          have n4_ := aQ (blk_below (g := gb16001) (o := .cells #[.int .i64 a0_0, .slice A0_1 l0_1.length c0_1] 24 (0, 0)) (pk BK16001.out) hb)
          have n5_ := aQ (blk_below (g := gb16002) (o := .cells #[.int .i64 a1_0, .slice A1_1 l1_1.length c1_1] 24 (0, 0)) (pk BK16002.out) hb)
          have n6_ := aQ (below_step (pB2 HB.out GE16001.out GE16002.out) hb)
          clear HO16008
          clear HO16012
          clear HO16015
          clear HO16018
          clear BK16001
          clear BK16002
          clear HB
          have HO16008 := n0_
          have HO16012 := n1_
          have HO16015 := n2_
          have HO16018 := n3_
          have BK16001 := n4_
          have BK16002 := n5_
          have HB := n6_
          clear n0_ n1_ n2_ n3_ n4_ n5_ n6_
          (try clear hb)
          (try clear hb2)
          (try clear hk)
          (try clear hi)
          refine hK.out _ _ ⟨(blk_cell BK16001.out 0).trans rfl, (blk_cell BK16001.out 1).trans rfl, (blk_cell BK16002.out 0).trans rfl, (blk_cell BK16002.out 1).trans rfl⟩ (fun hHeld => ?_)
          clear hK K
          refine norm_ (a' := ?_) ?_ ?_
          rotate_left
          ·show Act.put _ (some 43) _ = _
           simp only [Act.put, List.setIfInBounds_toArray, List.set_cons_zero, List.set_cons_succ, i64_w, i32_w]
           rfl
          refine pure_ (i := 10) (N := some 12) (v := ?_) (a' := ?_) #[true, true, true, true, true, true, true, true, true, true, true] rfl rfl (any_of HT_.out (by kernel_rfl)) (fun _ _ _ h => h) (Or.inl ⟨by rfl, ?_⟩) ?_ ?_
          rotate_left
          ·intro w'
           go_simp
           with_reducible rfl
          rotate_left
          ·simp only [Act.put, List.setIfInBounds_toArray, List.set_cons_zero, List.set_cons_succ, i64_w, i32_w]
           rfl
          refine done_ (done_of HT_.out (by kernel_rfl)) ?_
          have hcz107_0 := bc (v := (.int .i64 a0_0)) BK16001.out 0
          have hcz107_1 := bc (v := (.slice A0_1 l0_1.length c0_1)) BK16001.out 1
          have hfz107_0 := blk_frozen BK16001.out 0
          have hfz107_1 := blk_frozen BK16001.out 1
          try go_wp2_with (first | ((with_reducible refine gate_callee (f := 35) rfl ?_); refine goesL_ (some 45) rfl rfl Try.func35 (by kernel_rfl) rfl #[.agg #[.int .i64 a0_0, .slice A0_1 l0_1.length c0_1]] rfl lm ?_; (with_reducible refine (laws_toMatroid.calls k a0_0 _ _ l0_1 t16020 t16021 _ ?side1 ?side2 A33.out).mono ?_); (case side1 => exact pC (Kd.C_below HR0_1.out HB.out)); (case side2 => exact HC0_1.out); rintro e w108 ⟨v16022, rfl, ho0, hb⟩; refine ⟨_, rfl, ?_⟩; have HO16023 := aQ (Kd.R_lower (Kd.R_new' (Kd.R_new' (Kd.R_new' (Kd.R_new' ho0 (Kd.R_lt (pR HO16008.out))) (Kd.R_lt (pR HO16012.out))) (Kd.R_lt (pR HO16015.out))) (Kd.R_lt (pR HO16018.out))) (below_size (pB2 HB.out GE16001.out GE16002.out))); replace HO16008 := aQ (Kd.R_elder' (pR HO16008.out) (Kd.R_base ho0) hb); replace HO16012 := aQ (Kd.R_elder' (pR HO16012.out) (Kd.R_base ho0) hb); replace HO16015 := aQ (Kd.R_elder' (pR HO16015.out) (Kd.R_base ho0) hb); replace HO16018 := aQ (Kd.R_elder' (pR HO16018.out) (Kd.R_base ho0) hb); replace BK16001 := aQ (blk_below (g := gb16001) (o := .cells #[.int .i64 a0_0, .slice A0_1 l0_1.length c0_1] 24 (0, 0)) (pk BK16001.out) hb); replace BK16002 := aQ (blk_below (g := gb16002) (o := .cells #[.int .i64 a1_0, .slice A1_1 l1_1.length c1_1] 24 (0, 0)) (pk BK16002.out) hb); replace HB := aQ (below_step (pB2 HB.out GE16001.out GE16002.out) hb); (try clear hb); (try clear ho0)) | ((with_reducible refine gate_dst (N := 13) rfl ?_); refine box_event ?hg (N := 13) ?hd (cs := #[.int .i64 0, .slice none 0 0]) (t := 28) ?hr ?_; (case hd => rfl); (case hg => rfl); (case hr => first | (go_simp; done) | (go_simp; rfl)); intro gb16024 hg w109 hbox hb; replace HO16008 := aQ (Kd.R_below (pR HO16008.out) hb); replace HO16012 := aQ (Kd.R_below (pR HO16012.out) hb); replace HO16015 := aQ (Kd.R_below (pR HO16015.out) hb); replace HO16018 := aQ (Kd.R_below (pR HO16018.out) hb); replace HO16023 := aQ (Kd.R_below (pR HO16023.out) hb); have BK16024 := aQ (hbox); have GW16024 := aQ ((by rw [hg]; exact (below_size (pB2 HB.out GE16001.out GE16002.out)) : w.heap.size ≤ gb16024)); have GE16024 := aQ ((by rw [hg]; exact (below_size (pB2 HB.out GE16001.out GE16002.out)) : w.heap.size ≤ gb16024)); replace HB := aQ (below_step (pB2 HB.out GE16001.out GE16002.out) hb); have NB16001_16024 := aQ ((by rw [hg]; exact Nat.ne_of_lt (blk_lt (g := gb16001) (o := .cells #[.int .i64 a0_0, .slice A0_1 l0_1.length c0_1] 24 (0, 0)) (pk BK16001.out)) : gb16001 ≠ gb16024)); have NB16024_16001 := aQ ((by rw [hg]; exact Nat.ne_of_gt (blk_lt (g := gb16001) (o := .cells #[.int .i64 a0_0, .slice A0_1 l0_1.length c0_1] 24 (0, 0)) (pk BK16001.out)) : gb16024 ≠ gb16001)); replace BK16001 := aQ (blk_below (g := gb16001) (o := .cells #[.int .i64 a0_0, .slice A0_1 l0_1.length c0_1] 24 (0, 0)) (pk BK16001.out) hb); have NB16002_16024 := aQ ((by rw [hg]; exact Nat.ne_of_lt (blk_lt (g := gb16002) (o := .cells #[.int .i64 a1_0, .slice A1_1 l1_1.length c1_1] 24 (0, 0)) (pk BK16002.out)) : gb16002 ≠ gb16024)); have NB16024_16002 := aQ ((by rw [hg]; exact Nat.ne_of_gt (blk_lt (g := gb16002) (o := .cells #[.int .i64 a1_0, .slice A1_1 l1_1.length c1_1] 24 (0, 0)) (pk BK16002.out)) : gb16024 ≠ gb16002)); replace BK16002 := aQ (blk_below (g := gb16002) (o := .cells #[.int .i64 a1_0, .slice A1_1 l1_1.length c1_1] 24 (0, 0)) (pk BK16002.out) hb); clear hb hbox hg; have hnb110 := NB16024_16001.out; have hnc110 := NB16001_16024.out; have hnb111 := NB16024_16002.out; have hnc111 := NB16002_16024.out; have hcz112_0 := bc (v := (.int .i64 0)) BK16024.out 0; have hcz112_1 := bc (v := (.slice none 0 0)) BK16024.out 1; have hfz112_0 := blk_frozen BK16024.out 0; have hfz112_1 := blk_frozen BK16024.out 1; obtain ⟨Ao113, co113, eo113⟩ := Kd.R_slice HO16023.out; subst eo113; have hcz114_0 := bc (v := (.int .i64 a1_0)) BK16002.out 0; have hcz114_1 := bc (v := (.slice A1_1 l1_1.length c1_1)) BK16002.out 1; have hfz114_0 := blk_frozen BK16002.out 0; have hfz114_1 := blk_frozen BK16002.out 1) | ((with_reducible refine gate_callee (f := 35) rfl ?_); refine goesL_ (some 47) rfl rfl Try.func35 (by kernel_rfl) rfl #[.agg #[.int .i64 a1_0, .slice A1_1 l1_1.length c1_1]] rfl lm ?_; (with_reducible refine (laws_toMatroid.calls k a1_0 _ _ l1_1 t16025 t16026 _ ?side1 ?side2 A34.out).mono ?_); (case side1 => exact Kd.C_below HR1_1.out (pB3 HB.out GE16001.out GE16002.out GE16024.out)); (case side2 => exact HC1_1.out); rintro e w115 ⟨v16027, rfl, ho0, hb⟩; refine ⟨_, rfl, ?_⟩; have HO16028 := aQ (Kd.R_lower (Kd.R_new' (Kd.R_new' (Kd.R_new' (Kd.R_new' (Kd.R_new' ho0 (Kd.R_lt (by (with_reducible repeat (first | apply Kd.R_alloc | apply Kd.R_drewN | apply Kd.R_drew)); exact (Kd.R_mono (Kd.R_far (p := ⟨gb16024, 1, none⟩) (Kd.R_far (p := ⟨gb16024, 0, none⟩) (Kd.R_types HO16008.out BK16024.out (by decide)) (fun _ hk => hk.2) (.int .i64 t16020)) (fun _ hk => hk.2) (.slice Ao113 t16021.length co113)) (fun _ h_ => h_.1))))) (Kd.R_lt (by (with_reducible repeat (first | apply Kd.R_alloc | apply Kd.R_drewN | apply Kd.R_drew)); exact (Kd.R_mono (Kd.R_far (p := ⟨gb16024, 1, none⟩) (Kd.R_far (p := ⟨gb16024, 0, none⟩) (Kd.R_types HO16012.out BK16024.out (by decide)) (fun _ hk => hk.2) (.int .i64 t16020)) (fun _ hk => hk.2) (.slice Ao113 t16021.length co113)) (fun _ h_ => h_.1))))) (Kd.R_lt (by (with_reducible repeat (first | apply Kd.R_alloc | apply Kd.R_drewN | apply Kd.R_drew)); exact (Kd.R_mono (Kd.R_far (p := ⟨gb16024, 1, none⟩) (Kd.R_far (p := ⟨gb16024, 0, none⟩) (Kd.R_types HO16015.out BK16024.out (by decide)) (fun _ hk => hk.2) (.int .i64 t16020)) (fun _ hk => hk.2) (.slice Ao113 t16021.length co113)) (fun _ h_ => h_.1))))) (Kd.R_lt (by (with_reducible repeat (first | apply Kd.R_alloc | apply Kd.R_drewN | apply Kd.R_drew)); exact (Kd.R_mono (Kd.R_far (p := ⟨gb16024, 1, none⟩) (Kd.R_far (p := ⟨gb16024, 0, none⟩) (Kd.R_types HO16018.out BK16024.out (by decide)) (fun _ hk => hk.2) (.int .i64 t16020)) (fun _ hk => hk.2) (.slice Ao113 t16021.length co113)) (fun _ h_ => h_.1))))) (Kd.R_lt (by (with_reducible repeat (first | apply Kd.R_alloc | apply Kd.R_drewN | apply Kd.R_drew)); exact (Kd.R_mono (Kd.R_far (p := ⟨gb16024, 1, none⟩) (Kd.R_far (p := ⟨gb16024, 0, none⟩) (Kd.R_types HO16023.out BK16024.out (by decide)) (fun _ hk => hk.2) (.int .i64 t16020)) (fun _ hk => hk.2) (.slice Ao113 t16021.length co113)) (fun _ h_ => h_.1))))) (below_size (pB3 HB.out GE16001.out GE16002.out GE16024.out))); replace HO16008 := aQ (Kd.R_elder' (by (with_reducible repeat (first | apply Kd.R_alloc | apply Kd.R_drewN | apply Kd.R_drew)); exact (Kd.R_mono (Kd.R_far (p := ⟨gb16024, 1, none⟩) (Kd.R_far (p := ⟨gb16024, 0, none⟩) (Kd.R_types HO16008.out BK16024.out (by decide)) (fun _ hk => hk.2) (.int .i64 t16020)) (fun _ hk => hk.2) (.slice Ao113 t16021.length co113)) (fun _ h_ => h_.1))) (Kd.R_base ho0) hb); replace HO16012 := aQ (Kd.R_elder' (by (with_reducible repeat (first | apply Kd.R_alloc | apply Kd.R_drewN | apply Kd.R_drew)); exact (Kd.R_mono (Kd.R_far (p := ⟨gb16024, 1, none⟩) (Kd.R_far (p := ⟨gb16024, 0, none⟩) (Kd.R_types HO16012.out BK16024.out (by decide)) (fun _ hk => hk.2) (.int .i64 t16020)) (fun _ hk => hk.2) (.slice Ao113 t16021.length co113)) (fun _ h_ => h_.1))) (Kd.R_base ho0) hb); replace HO16015 := aQ (Kd.R_elder' (by (with_reducible repeat (first | apply Kd.R_alloc | apply Kd.R_drewN | apply Kd.R_drew)); exact (Kd.R_mono (Kd.R_far (p := ⟨gb16024, 1, none⟩) (Kd.R_far (p := ⟨gb16024, 0, none⟩) (Kd.R_types HO16015.out BK16024.out (by decide)) (fun _ hk => hk.2) (.int .i64 t16020)) (fun _ hk => hk.2) (.slice Ao113 t16021.length co113)) (fun _ h_ => h_.1))) (Kd.R_base ho0) hb); replace HO16018 := aQ (Kd.R_elder' (by (with_reducible repeat (first | apply Kd.R_alloc | apply Kd.R_drewN | apply Kd.R_drew)); exact (Kd.R_mono (Kd.R_far (p := ⟨gb16024, 1, none⟩) (Kd.R_far (p := ⟨gb16024, 0, none⟩) (Kd.R_types HO16018.out BK16024.out (by decide)) (fun _ hk => hk.2) (.int .i64 t16020)) (fun _ hk => hk.2) (.slice Ao113 t16021.length co113)) (fun _ h_ => h_.1))) (Kd.R_base ho0) hb); replace HO16023 := aQ (Kd.R_elder' (by (with_reducible repeat (first | apply Kd.R_alloc | apply Kd.R_drewN | apply Kd.R_drew)); exact (Kd.R_mono (Kd.R_far (p := ⟨gb16024, 1, none⟩) (Kd.R_far (p := ⟨gb16024, 0, none⟩) (Kd.R_types HO16023.out BK16024.out (by decide)) (fun _ hk => hk.2) (.int .i64 t16020)) (fun _ hk => hk.2) (.slice Ao113 t16021.length co113)) (fun _ h_ => h_.1))) (Kd.R_base ho0) hb); replace BK16001 := aQ (blk_below (g := gb16001) (o := .cells #[.int .i64 a0_0, .slice A0_1 l0_1.length c0_1] 24 (0, 0)) (by (with_reducible repeat (first | refine blk_drewN ?_ _ | refine blk_drew ?_ | refine blk_alloc ?_ _)); refine blk_far ?_ NB16001_16024.out _; (with_reducible repeat (first | refine blk_drewN ?_ _ | refine blk_drew ?_ | refine blk_alloc ?_ _)); refine blk_far ?_ NB16001_16024.out _; (with_reducible repeat (first | refine blk_drewN ?_ _ | refine blk_drew ?_ | refine blk_alloc ?_ _)); exact BK16001.out) hb); replace BK16002 := aQ (blk_below (g := gb16002) (o := .cells #[.int .i64 a1_0, .slice A1_1 l1_1.length c1_1] 24 (0, 0)) (by (with_reducible repeat (first | refine blk_drewN ?_ _ | refine blk_drew ?_ | refine blk_alloc ?_ _)); refine blk_far ?_ NB16002_16024.out _; (with_reducible repeat (first | refine blk_drewN ?_ _ | refine blk_drew ?_ | refine blk_alloc ?_ _)); refine blk_far ?_ NB16002_16024.out _; (with_reducible repeat (first | refine blk_drewN ?_ _ | refine blk_drew ?_ | refine blk_alloc ?_ _)); exact BK16002.out) hb); replace BK16024 := aQ (blk_below (g := gb16024) (o := .cells #[.int .i64 t16020, .slice Ao113 t16021.length co113] 28 (0, 0)) (by (with_reducible repeat (first | refine blk_drewN ?_ _ | refine blk_drew ?_ | refine blk_alloc ?_ _)); refine blk_put (cs := #[.int .i64 t16020, .slice none 0 0]) ?_ 1 _ rfl; (with_reducible repeat (first | refine blk_drewN ?_ _ | refine blk_drew ?_ | refine blk_alloc ?_ _)); refine blk_put (cs := #[.int .i64 0, .slice none 0 0]) ?_ 0 _ rfl; (with_reducible repeat (first | refine blk_drewN ?_ _ | refine blk_drew ?_ | refine blk_alloc ?_ _)); exact BK16024.out) hb); replace HB := aQ (below_step (pB3 HB.out GE16001.out GE16002.out GE16024.out) hb); (try clear hb); (try clear hk); (try clear ho0)) | ((with_reducible refine gate_dst (N := 14) rfl ?_); refine box_event ?hg (N := 14) ?hd (cs := #[.int .i64 0, .slice none 0 0]) (t := 28) ?hr ?_; (case hd => rfl); (case hg => rfl); (case hr => first | (go_simp; done) | (go_simp; rfl)); intro gb16029 hg w116 hbox hb; replace HO16008 := aQ (Kd.R_below (pR HO16008.out) hb); replace HO16012 := aQ (Kd.R_below (pR HO16012.out) hb); replace HO16015 := aQ (Kd.R_below (pR HO16015.out) hb); replace HO16018 := aQ (Kd.R_below (pR HO16018.out) hb); replace HO16023 := aQ (Kd.R_below (pR HO16023.out) hb); replace HO16028 := aQ (Kd.R_below (pR HO16028.out) hb); have BK16029 := aQ (hbox); have GW16029 := aQ ((by rw [hg]; exact (below_size (pB3 HB.out GE16001.out GE16002.out GE16024.out)) : w.heap.size ≤ gb16029)); have GE16029 := aQ ((by rw [hg]; exact (below_size (pB3 HB.out GE16001.out GE16002.out GE16024.out)) : w.heap.size ≤ gb16029)); replace HB := aQ (below_step (pB3 HB.out GE16001.out GE16002.out GE16024.out) hb); have NB16001_16029 := aQ ((by rw [hg]; exact Nat.ne_of_lt (blk_lt (g := gb16001) (o := .cells #[.int .i64 a0_0, .slice A0_1 l0_1.length c0_1] 24 (0, 0)) (pk BK16001.out)) : gb16001 ≠ gb16029)); have NB16029_16001 := aQ ((by rw [hg]; exact Nat.ne_of_gt (blk_lt (g := gb16001) (o := .cells #[.int .i64 a0_0, .slice A0_1 l0_1.length c0_1] 24 (0, 0)) (pk BK16001.out)) : gb16029 ≠ gb16001)); replace BK16001 := aQ (blk_below (g := gb16001) (o := .cells #[.int .i64 a0_0, .slice A0_1 l0_1.length c0_1] 24 (0, 0)) (pk BK16001.out) hb); have NB16002_16029 := aQ ((by rw [hg]; exact Nat.ne_of_lt (blk_lt (g := gb16002) (o := .cells #[.int .i64 a1_0, .slice A1_1 l1_1.length c1_1] 24 (0, 0)) (pk BK16002.out)) : gb16002 ≠ gb16029)); have NB16029_16002 := aQ ((by rw [hg]; exact Nat.ne_of_gt (blk_lt (g := gb16002) (o := .cells #[.int .i64 a1_0, .slice A1_1 l1_1.length c1_1] 24 (0, 0)) (pk BK16002.out)) : gb16029 ≠ gb16002)); replace BK16002 := aQ (blk_below (g := gb16002) (o := .cells #[.int .i64 a1_0, .slice A1_1 l1_1.length c1_1] 24 (0, 0)) (pk BK16002.out) hb); have NB16024_16029 := aQ ((by rw [hg]; exact Nat.ne_of_lt (blk_lt (g := gb16024) (o := .cells #[.int .i64 t16020, .slice Ao113 t16021.length co113] 28 (0, 0)) (pk BK16024.out)) : gb16024 ≠ gb16029)); have NB16029_16024 := aQ ((by rw [hg]; exact Nat.ne_of_gt (blk_lt (g := gb16024) (o := .cells #[.int .i64 t16020, .slice Ao113 t16021.length co113] 28 (0, 0)) (pk BK16024.out)) : gb16029 ≠ gb16024)); replace BK16024 := aQ (blk_below (g := gb16024) (o := .cells #[.int .i64 t16020, .slice Ao113 t16021.length co113] 28 (0, 0)) (pk BK16024.out) hb); clear hb hbox hg; have hnb117 := NB16029_16001.out; have hnc117 := NB16001_16029.out; have hnb118 := NB16029_16002.out; have hnc118 := NB16002_16029.out; have hnb119 := NB16029_16024.out; have hnc119 := NB16024_16029.out; have hcz120_0 := bc (v := (.int .i64 0)) BK16029.out 0; have hcz120_1 := bc (v := (.slice none 0 0)) BK16029.out 1; have hfz120_0 := blk_frozen BK16029.out 0; have hfz120_1 := blk_frozen BK16029.out 1; obtain ⟨Ao121, co121, eo121⟩ := Kd.R_slice HO16028.out; subst eo121) | ((with_reducible refine gate_callee (f := 47) rfl ?_); refine goesL_ (some 49) rfl rfl Try.func47 (by kernel_rfl) rfl #[.slice A2 l2.length c2] rfl lm ?_; (with_reducible refine (laws_toIntS.calls k _ _ l2 t16030 _ ?side1 ?side2 A35.out).mono ?_); (case side1 => exact Kd.C_below HR2.out (pB4 HB.out GE16001.out GE16002.out GE16024.out GE16029.out)); (case side2 => exact HC2.out); rintro e w122 ⟨v16031, rfl, ho0, hb⟩; refine ⟨_, rfl, ?_⟩; have HO16032 := aQ (Kd.R_lower (Kd.R_new' (Kd.R_new' (Kd.R_new' (Kd.R_new' (Kd.R_new' (Kd.R_new' ho0 (Kd.R_lt (by (with_reducible repeat (first | apply Kd.R_alloc | apply Kd.R_drewN | apply Kd.R_drew)); exact (Kd.R_mono (Kd.R_far (p := ⟨gb16029, 1, none⟩) (Kd.R_far (p := ⟨gb16029, 0, none⟩) (Kd.R_types HO16008.out BK16029.out (by decide)) (fun _ hk => hk.2) (.int .i64 t16025)) (fun _ hk => hk.2) (.slice Ao121 t16026.length co121)) (fun _ h_ => h_.1))))) (Kd.R_lt (by (with_reducible repeat (first | apply Kd.R_alloc | apply Kd.R_drewN | apply Kd.R_drew)); exact (Kd.R_mono (Kd.R_far (p := ⟨gb16029, 1, none⟩) (Kd.R_far (p := ⟨gb16029, 0, none⟩) (Kd.R_types HO16012.out BK16029.out (by decide)) (fun _ hk => hk.2) (.int .i64 t16025)) (fun _ hk => hk.2) (.slice Ao121 t16026.length co121)) (fun _ h_ => h_.1))))) (Kd.R_lt (by (with_reducible repeat (first | apply Kd.R_alloc | apply Kd.R_drewN | apply Kd.R_drew)); exact (Kd.R_mono (Kd.R_far (p := ⟨gb16029, 1, none⟩) (Kd.R_far (p := ⟨gb16029, 0, none⟩) (Kd.R_types HO16015.out BK16029.out (by decide)) (fun _ hk => hk.2) (.int .i64 t16025)) (fun _ hk => hk.2) (.slice Ao121 t16026.length co121)) (fun _ h_ => h_.1))))) (Kd.R_lt (by (with_reducible repeat (first | apply Kd.R_alloc | apply Kd.R_drewN | apply Kd.R_drew)); exact (Kd.R_mono (Kd.R_far (p := ⟨gb16029, 1, none⟩) (Kd.R_far (p := ⟨gb16029, 0, none⟩) (Kd.R_types HO16018.out BK16029.out (by decide)) (fun _ hk => hk.2) (.int .i64 t16025)) (fun _ hk => hk.2) (.slice Ao121 t16026.length co121)) (fun _ h_ => h_.1))))) (Kd.R_lt (by (with_reducible repeat (first | apply Kd.R_alloc | apply Kd.R_drewN | apply Kd.R_drew)); exact (Kd.R_mono (Kd.R_far (p := ⟨gb16029, 1, none⟩) (Kd.R_far (p := ⟨gb16029, 0, none⟩) (Kd.R_types HO16023.out BK16029.out (by decide)) (fun _ hk => hk.2) (.int .i64 t16025)) (fun _ hk => hk.2) (.slice Ao121 t16026.length co121)) (fun _ h_ => h_.1))))) (Kd.R_lt (by (with_reducible repeat (first | apply Kd.R_alloc | apply Kd.R_drewN | apply Kd.R_drew)); exact (Kd.R_mono (Kd.R_far (p := ⟨gb16029, 1, none⟩) (Kd.R_far (p := ⟨gb16029, 0, none⟩) (Kd.R_types HO16028.out BK16029.out (by decide)) (fun _ hk => hk.2) (.int .i64 t16025)) (fun _ hk => hk.2) (.slice Ao121 t16026.length co121)) (fun _ h_ => h_.1))))) (below_size (pB4 HB.out GE16001.out GE16002.out GE16024.out GE16029.out))); replace HO16008 := aQ (Kd.R_elder' (by (with_reducible repeat (first | apply Kd.R_alloc | apply Kd.R_drewN | apply Kd.R_drew)); exact (Kd.R_mono (Kd.R_far (p := ⟨gb16029, 1, none⟩) (Kd.R_far (p := ⟨gb16029, 0, none⟩) (Kd.R_types HO16008.out BK16029.out (by decide)) (fun _ hk => hk.2) (.int .i64 t16025)) (fun _ hk => hk.2) (.slice Ao121 t16026.length co121)) (fun _ h_ => h_.1))) (Kd.R_base ho0) hb); replace HO16012 := aQ (Kd.R_elder' (by (with_reducible repeat (first | apply Kd.R_alloc | apply Kd.R_drewN | apply Kd.R_drew)); exact (Kd.R_mono (Kd.R_far (p := ⟨gb16029, 1, none⟩) (Kd.R_far (p := ⟨gb16029, 0, none⟩) (Kd.R_types HO16012.out BK16029.out (by decide)) (fun _ hk => hk.2) (.int .i64 t16025)) (fun _ hk => hk.2) (.slice Ao121 t16026.length co121)) (fun _ h_ => h_.1))) (Kd.R_base ho0) hb); replace HO16015 := aQ (Kd.R_elder' (by (with_reducible repeat (first | apply Kd.R_alloc | apply Kd.R_drewN | apply Kd.R_drew)); exact (Kd.R_mono (Kd.R_far (p := ⟨gb16029, 1, none⟩) (Kd.R_far (p := ⟨gb16029, 0, none⟩) (Kd.R_types HO16015.out BK16029.out (by decide)) (fun _ hk => hk.2) (.int .i64 t16025)) (fun _ hk => hk.2) (.slice Ao121 t16026.length co121)) (fun _ h_ => h_.1))) (Kd.R_base ho0) hb); replace HO16018 := aQ (Kd.R_elder' (by (with_reducible repeat (first | apply Kd.R_alloc | apply Kd.R_drewN | apply Kd.R_drew)); exact (Kd.R_mono (Kd.R_far (p := ⟨gb16029, 1, none⟩) (Kd.R_far (p := ⟨gb16029, 0, none⟩) (Kd.R_types HO16018.out BK16029.out (by decide)) (fun _ hk => hk.2) (.int .i64 t16025)) (fun _ hk => hk.2) (.slice Ao121 t16026.length co121)) (fun _ h_ => h_.1))) (Kd.R_base ho0) hb); replace HO16023 := aQ (Kd.R_elder' (by (with_reducible repeat (first | apply Kd.R_alloc | apply Kd.R_drewN | apply Kd.R_drew)); exact (Kd.R_mono (Kd.R_far (p := ⟨gb16029, 1, none⟩) (Kd.R_far (p := ⟨gb16029, 0, none⟩) (Kd.R_types HO16023.out BK16029.out (by decide)) (fun _ hk => hk.2) (.int .i64 t16025)) (fun _ hk => hk.2) (.slice Ao121 t16026.length co121)) (fun _ h_ => h_.1))) (Kd.R_base ho0) hb); replace HO16028 := aQ (Kd.R_elder' (by (with_reducible repeat (first | apply Kd.R_alloc | apply Kd.R_drewN | apply Kd.R_drew)); exact (Kd.R_mono (Kd.R_far (p := ⟨gb16029, 1, none⟩) (Kd.R_far (p := ⟨gb16029, 0, none⟩) (Kd.R_types HO16028.out BK16029.out (by decide)) (fun _ hk => hk.2) (.int .i64 t16025)) (fun _ hk => hk.2) (.slice Ao121 t16026.length co121)) (fun _ h_ => h_.1))) (Kd.R_base ho0) hb); replace BK16001 := aQ (blk_below (g := gb16001) (o := .cells #[.int .i64 a0_0, .slice A0_1 l0_1.length c0_1] 24 (0, 0)) (by (with_reducible repeat (first | refine blk_drewN ?_ _ | refine blk_drew ?_ | refine blk_alloc ?_ _)); refine blk_far ?_ NB16001_16029.out _; (with_reducible repeat (first | refine blk_drewN ?_ _ | refine blk_drew ?_ | refine blk_alloc ?_ _)); refine blk_far ?_ NB16001_16029.out _; (with_reducible repeat (first | refine blk_drewN ?_ _ | refine blk_drew ?_ | refine blk_alloc ?_ _)); exact BK16001.out) hb); replace BK16002 := aQ (blk_below (g := gb16002) (o := .cells #[.int .i64 a1_0, .slice A1_1 l1_1.length c1_1] 24 (0, 0)) (by (with_reducible repeat (first | refine blk_drewN ?_ _ | refine blk_drew ?_ | refine blk_alloc ?_ _)); refine blk_far ?_ NB16002_16029.out _; (with_reducible repeat (first | refine blk_drewN ?_ _ | refine blk_drew ?_ | refine blk_alloc ?_ _)); refine blk_far ?_ NB16002_16029.out _; (with_reducible repeat (first | refine blk_drewN ?_ _ | refine blk_drew ?_ | refine blk_alloc ?_ _)); exact BK16002.out) hb); replace BK16024 := aQ (blk_below (g := gb16024) (o := .cells #[.int .i64 t16020, .slice Ao113 t16021.length co113] 28 (0, 0)) (by (with_reducible repeat (first | refine blk_drewN ?_ _ | refine blk_drew ?_ | refine blk_alloc ?_ _)); refine blk_far ?_ NB16024_16029.out _; (with_reducible repeat (first | refine blk_drewN ?_ _ | refine blk_drew ?_ | refine blk_alloc ?_ _)); refine blk_far ?_ NB16024_16029.out _; (with_reducible repeat (first | refine blk_drewN ?_ _ | refine blk_drew ?_ | refine blk_alloc ?_ _)); exact BK16024.out) hb); replace BK16029 := aQ (blk_below (g := gb16029) (o := .cells #[.int .i64 t16025, .slice Ao121 t16026.length co121] 28 (0, 0)) (by (with_reducible repeat (first | refine blk_drewN ?_ _ | refine blk_drew ?_ | refine blk_alloc ?_ _)); refine blk_put (cs := #[.int .i64 t16025, .slice none 0 0]) ?_ 1 _ rfl; (with_reducible repeat (first | refine blk_drewN ?_ _ | refine blk_drew ?_ | refine blk_alloc ?_ _)); refine blk_put (cs := #[.int .i64 0, .slice none 0 0]) ?_ 0 _ rfl; (with_reducible repeat (first | refine blk_drewN ?_ _ | refine blk_drew ?_ | refine blk_alloc ?_ _)); exact BK16029.out) hb); replace HB := aQ (below_step (pB4 HB.out GE16001.out GE16002.out GE16024.out GE16029.out) hb); (try clear hb); (try clear hb2); (try clear hk); (try clear hi); (try clear ho0)) | ((with_reducible refine gate_callee (f := 47) rfl ?_); refine goesL_ (some 51) rfl rfl Try.func47 (by kernel_rfl) rfl #[.slice A3 l3.length c3] rfl lm ?_; (with_reducible refine (laws_toIntS.calls k _ _ l3 t16033 _ ?side1 ?side2 A36.out).mono ?_); (case side1 => exact pC (Kd.C_below HR3.out HB.out)); (case side2 => exact HC3.out); rintro e w123 ⟨v16034, rfl, ho0, hb⟩; refine ⟨_, rfl, ?_⟩; have HO16035 := aQ (Kd.R_lower (Kd.R_new' (Kd.R_new' (Kd.R_new' (Kd.R_new' (Kd.R_new' (Kd.R_new' (Kd.R_new' ho0 (Kd.R_lt (pR HO16008.out))) (Kd.R_lt (pR HO16012.out))) (Kd.R_lt (pR HO16015.out))) (Kd.R_lt (pR HO16018.out))) (Kd.R_lt (pR HO16023.out))) (Kd.R_lt (pR HO16028.out))) (Kd.R_lt (pR HO16032.out))) (below_size (pB4 HB.out GE16001.out GE16002.out GE16024.out GE16029.out))); replace HO16008 := aQ (Kd.R_elder' (pR HO16008.out) (Kd.R_base ho0) hb); replace HO16012 := aQ (Kd.R_elder' (pR HO16012.out) (Kd.R_base ho0) hb); replace HO16015 := aQ (Kd.R_elder' (pR HO16015.out) (Kd.R_base ho0) hb); replace HO16018 := aQ (Kd.R_elder' (pR HO16018.out) (Kd.R_base ho0) hb); replace HO16023 := aQ (Kd.R_elder' (pR HO16023.out) (Kd.R_base ho0) hb); replace HO16028 := aQ (Kd.R_elder' (pR HO16028.out) (Kd.R_base ho0) hb); replace HO16032 := aQ (Kd.R_elder' (pR HO16032.out) (Kd.R_base ho0) hb); replace BK16001 := aQ (blk_below (g := gb16001) (o := .cells #[.int .i64 a0_0, .slice A0_1 l0_1.length c0_1] 24 (0, 0)) (pk BK16001.out) hb); replace BK16002 := aQ (blk_below (g := gb16002) (o := .cells #[.int .i64 a1_0, .slice A1_1 l1_1.length c1_1] 24 (0, 0)) (pk BK16002.out) hb); replace BK16024 := aQ (blk_below (g := gb16024) (o := .cells #[.int .i64 t16020, .slice Ao113 t16021.length co113] 28 (0, 0)) (pk BK16024.out) hb); replace BK16029 := aQ (blk_below (g := gb16029) (o := .cells #[.int .i64 t16025, .slice Ao121 t16026.length co121] 28 (0, 0)) (pk BK16029.out) hb); replace HB := aQ (below_step (pB4 HB.out GE16001.out GE16002.out GE16024.out GE16029.out) hb); (try clear hb); (try clear ho0); have hcz124_0 := bc (v := (.int .i64 t16020)) BK16024.out 0; have hcz124_1 := bc (v := (.slice Ao113 t16021.length co113)) BK16024.out 1; have hfz124_0 := blk_frozen BK16024.out 0; have hfz124_1 := blk_frozen BK16024.out 1; have hcz125_0 := bc (v := (.int .i64 t16025)) BK16029.out 0; have hcz125_1 := bc (v := (.slice Ao121 t16026.length co121)) BK16029.out 1; have hfz125_0 := blk_frozen BK16029.out 0; have hfz125_1 := blk_frozen BK16029.out 1; obtain ⟨Ao126, co126, eo126⟩ := Kd.R_slice HO16032.out; subst eo126; obtain ⟨Ao127, co127, eo127⟩ := Kd.R_slice HO16035.out; subst eo127) | ((with_reducible refine gate_callee (f := 67) rfl ?_); refine goesL_ (some 57) rfl rfl Try.func67 (by kernel_rfl) rfl #[.agg #[.int .i64 t16020, .slice Ao113 t16021.length co113], .agg #[.int .i64 t16025, .slice Ao121 t16026.length co121], .slice Ao126 t16030.length co126, .slice Ao127 t16033.length co127, .int .i64 a4] rfl lm ?_; (with_reducible refine (impl_IsSplit.calls k t16020 _ _ t16021 t16025 _ _ t16026 _ _ t16030 _ _ t16033 a4 t16036 _ ?side1 ?side2 ?side3 ?side4 ?side5 ?side6 ?side7 ?side8 A37.out).mono ?_); (case side1 => repeat (first | exact (Kd.R_reads' HO16023.out).2.2 | (with_reducible refine Kd.C_alloc ?_ _) | (with_reducible refine Kd.C_drewN ?_ _) | (with_reducible refine Kd.C_drew ?_))); (case side2 => exact (Kd.R_reads' HO16023.out).2.1); (case side3 => repeat (first | exact (Kd.R_reads' HO16028.out).2.2 | (with_reducible refine Kd.C_alloc ?_ _) | (with_reducible refine Kd.C_drewN ?_ _) | (with_reducible refine Kd.C_drew ?_))); (case side4 => exact (Kd.R_reads' HO16028.out).2.1); (case side5 => repeat (first | exact (Kd.R_reads' HO16032.out).2.2 | (with_reducible refine Kd.C_alloc ?_ _) | (with_reducible refine Kd.C_drewN ?_ _) | (with_reducible refine Kd.C_drew ?_))); (case side6 => exact (Kd.R_reads' HO16032.out).2.1); (case side7 => repeat (first | exact (Kd.R_reads' HO16035.out).2.2 | (with_reducible refine Kd.C_alloc ?_ _) | (with_reducible refine Kd.C_drewN ?_ _) | (with_reducible refine Kd.C_drew ?_))); (case side8 => exact (Kd.R_reads' HO16035.out).2.1); rintro e w128 ⟨rfl, hb⟩; refine ⟨_, rfl, ?_⟩; replace HO16008 := aQ (Kd.R_below (pR HO16008.out) hb); replace HO16012 := aQ (Kd.R_below (pR HO16012.out) hb); replace HO16015 := aQ (Kd.R_below (pR HO16015.out) hb); replace HO16018 := aQ (Kd.R_below (pR HO16018.out) hb); replace HO16023 := aQ (Kd.R_below (pR HO16023.out) hb); replace HO16028 := aQ (Kd.R_below (pR HO16028.out) hb); replace HO16032 := aQ (Kd.R_below (pR HO16032.out) hb); replace HO16035 := aQ (Kd.R_below (pR HO16035.out) hb); replace BK16001 := aQ (blk_below (g := gb16001) (o := .cells #[.int .i64 a0_0, .slice A0_1 l0_1.length c0_1] 24 (0, 0)) (pk BK16001.out) hb); replace BK16002 := aQ (blk_below (g := gb16002) (o := .cells #[.int .i64 a1_0, .slice A1_1 l1_1.length c1_1] 24 (0, 0)) (pk BK16002.out) hb); replace BK16024 := aQ (blk_below (g := gb16024) (o := .cells #[.int .i64 t16020, .slice Ao113 t16021.length co113] 28 (0, 0)) (pk BK16024.out) hb); replace BK16029 := aQ (blk_below (g := gb16029) (o := .cells #[.int .i64 t16025, .slice Ao121 t16026.length co121] 28 (0, 0)) (pk BK16029.out) hb); replace HB := aQ (below_step (pB4 HB.out GE16001.out GE16002.out GE16024.out GE16029.out) hb); (try clear hb)))
          have n0_ := aQ (Kd.R_drew HO16008.out)
          have n1_ := aQ (Kd.R_drew HO16012.out)
          have n2_ := aQ (Kd.R_drew HO16015.out)
          have n3_ := aQ (Kd.R_drew HO16018.out)
          have n4_ := aQ (Kd.R_drew HO16023.out)
          have n5_ := aQ (Kd.R_drew HO16028.out)
          have n6_ := aQ (Kd.R_drew HO16032.out)
          have n7_ := aQ (Kd.R_drew HO16035.out)
          have n8_ := aQ (blk_drew BK16001.out)
          have n9_ := aQ (blk_drew BK16002.out)
          have n10_ := aQ (blk_drew BK16024.out)
          have n11_ := aQ (blk_drew BK16029.out)
          have n12_ := aQ (below_drew1 HB.out)
          clear HO16008
          clear HO16012
          clear HO16015
          clear HO16018
          clear HO16023
          clear HO16028
          clear HO16032
          clear HO16035
          clear BK16001
          clear BK16002
          clear BK16024
          clear BK16029
          clear HB
          have HO16008 := n0_
          have HO16012 := n1_
          have HO16015 := n2_
          have HO16018 := n3_
          have HO16023 := n4_
          have HO16028 := n5_
          have HO16032 := n6_
          have HO16035 := n7_
          have BK16001 := n8_
          have BK16002 := n9_
          have BK16024 := n10_
          have BK16029 := n11_
          have HB := n12_
          clear n0_ n1_ n2_ n3_ n4_ n5_ n6_ n7_ n8_ n9_ n10_ n11_ n12_
          refine start_ (n := 5) (S := fun w' => w'.cell? ⟨gb16024, 0, none⟩ = some (.int .i64 t16020) ∧ w'.cell? ⟨gb16024, 1, none⟩ = some (.slice Ao113 t16021.length co113) ∧ w'.cell? ⟨gb16001, 0, none⟩ = some (.int .i64 a0_0) ∧ w'.cell? ⟨gb16001, 1, none⟩ = some (.slice A0_1 l0_1.length c0_1)) (ds := []) #[false, false, false, false, false] (by kernel_rfl) rfl rfl ⟨(blk_cell BK16024.out 0).trans rfl, (blk_cell BK16024.out 1).trans rfl, (blk_cell BK16001.out 0).trans rfl, (blk_cell BK16001.out 1).trans rfl⟩ (fun hHeld => ?_)
          generalize w128.drew = w129 at HO16008 HO16012 HO16015 HO16018 HO16023 HO16028 HO16032 HO16035 BK16001 BK16002 BK16024 BK16029 HB hHeld ⊢
          refine take_ (i := 0) (N := some 61) (v := ?_) (a' := ?_) #[true, false, false, false, false] rfl rfl (by kernel_rfl) (fun _ _ _ h => h) (Or.inl ⟨by rfl, ?_⟩) hHeld ?_ ?_
          rotate_left
          ·rintro w' ⟨s0, s1, s2, s3⟩
           go_simp
           with_reducible rfl
          rotate_left
          ·simp only [Act.put, List.setIfInBounds_toArray, List.set_cons_zero, List.set_cons_succ, i64_w, i32_w]
           rfl
          refine take_ (i := 1) (N := some 62) (v := ?_) (a' := ?_) #[true, true, false, false, false] rfl rfl (by kernel_rfl) (fun _ _ _ h => h) (Or.inl ⟨by rfl, ?_⟩) hHeld ?_ ?_
          rotate_left
          ·rintro w' ⟨s0, s1, s2, s3⟩
           go_simp
           with_reducible rfl
          rotate_left
          ·simp only [Act.put, List.setIfInBounds_toArray, List.set_cons_zero, List.set_cons_succ, i64_w, i32_w]
           rfl
          refine one_ (i := 2) (N := some 63) #[true, true, true, false, false] rfl rfl (by kernel_rfl) (by decide) (fun K hK => ?_)
          refine goes_ Try.func35 (by kernel_rfl) rfl #[.agg #[.int .i64 a0_0, .slice A0_1 l0_1.length c0_1]] (by rfl) rfl rfl lm ?_
          with_reducible refine (laws_toMatroid.calls k a0_0 _ _ l0_1 t16037 t16038 _ ?side1 ?side2 A78.out).mono ?_
          (case side1 => exact pC (Kd.C_below HR0_1.out HB.out))
          (case side2 => exact HC0_1.out)
          rintro e w130 ⟨v16039, rfl, ho0, hb⟩
          refine ⟨_, rfl, ?_⟩
          have n0_ := aQ (Kd.R_elder' (pR HO16008.out) (Kd.R_base ho0) hb)
          have n1_ := aQ (Kd.R_elder' (pR HO16012.out) (Kd.R_base ho0) hb)
          have n2_ := aQ (Kd.R_elder' (pR HO16015.out) (Kd.R_base ho0) hb)
          have n3_ := aQ (Kd.R_elder' (pR HO16018.out) (Kd.R_base ho0) hb)
          have n4_ := aQ (Kd.R_elder' (pR HO16023.out) (Kd.R_base ho0) hb)
          have n5_ := aQ (Kd.R_elder' (pR HO16028.out) (Kd.R_base ho0) hb)
          have n6_ := aQ (Kd.R_elder' (pR HO16032.out) (Kd.R_base ho0) hb)
          have n7_ := aQ (Kd.R_elder' (pR HO16035.out) (Kd.R_base ho0) hb)
          have n8_ := aQ (Kd.R_lower (Kd.R_new' (Kd.R_new' (Kd.R_new' (Kd.R_new' (Kd.R_new' (Kd.R_new' (Kd.R_new' (Kd.R_new' ho0 (Kd.R_lt (pR HO16008.out))) (Kd.R_lt (pR HO16012.out))) (Kd.R_lt (pR HO16015.out))) (Kd.R_lt (pR HO16018.out))) (Kd.R_lt (pR HO16023.out))) (Kd.R_lt (pR HO16028.out))) (Kd.R_lt (pR HO16032.out))) (Kd.R_lt (pR HO16035.out))) (below_size (pB4 HB.out GE16001.out GE16002.out GE16024.out GE16029.out)))
          have n9_ := aQ (blk_below (g := gb16001) (o := .cells #[.int .i64 a0_0, .slice A0_1 l0_1.length c0_1] 24 (0, 0)) (pk BK16001.out) hb)
          have n10_ := aQ (blk_below (g := gb16002) (o := .cells #[.int .i64 a1_0, .slice A1_1 l1_1.length c1_1] 24 (0, 0)) (pk BK16002.out) hb)
          have n11_ := aQ (blk_below (g := gb16024) (o := .cells #[.int .i64 t16020, .slice Ao113 t16021.length co113] 28 (0, 0)) (pk BK16024.out) hb)
          have n12_ := aQ (blk_below (g := gb16029) (o := .cells #[.int .i64 t16025, .slice Ao121 t16026.length co121] 28 (0, 0)) (pk BK16029.out) hb)
          have n13_ := aQ (below_step (pB4 HB.out GE16001.out GE16002.out GE16024.out GE16029.out) hb)
          clear HO16008
          clear HO16012
          clear HO16015
          clear HO16018
          clear HO16023
          clear HO16028
          clear HO16032
          clear HO16035
          clear BK16001
          clear BK16002
          clear BK16024
          clear BK16029
          clear HB
          have HO16008 := n0_
          have HO16012 := n1_
          have HO16015 := n2_
          have HO16018 := n3_
          have HO16023 := n4_
          have HO16028 := n5_
          have HO16032 := n6_
          have HO16035 := n7_
          have HO16040 := n8_
          have BK16001 := n9_
          have BK16002 := n10_
          have BK16024 := n11_
          have BK16029 := n12_
          have HB := n13_
          clear n0_ n1_ n2_ n3_ n4_ n5_ n6_ n7_ n8_ n9_ n10_ n11_ n12_ n13_
          (try clear hb)
          (try clear hb2)
          (try clear hk)
          (try clear hi)
          (try clear ho0)
          obtain ⟨Ao131, co131, eo131⟩ := Kd.R_slice HO16040.out
          (first | subst eo131 | (injection eo131 with f1_ f2_ f3_; have f4_ := f1_.symm; have f5_ := f3_.symm; clear f1_ f2_ f3_; subst f4_; subst f5_))
          refine hK.out _ _ ⟨(blk_cell BK16024.out 0).trans rfl, (blk_cell BK16024.out 1).trans rfl, (blk_cell BK16001.out 0).trans rfl, (blk_cell BK16001.out 1).trans rfl⟩ (fun hHeld => ?_)
          clear hK K
          refine norm_ (a' := ?_) ?_ ?_
          rotate_left
          ·show Act.put _ (some 63) _ = _
           simp only [Act.put, List.setIfInBounds_toArray, List.set_cons_zero, List.set_cons_succ, i64_w, i32_w]
           rfl
          refine one_ (i := 3) (N := some 64) #[true, true, true, true, false] rfl rfl (by kernel_rfl) (by decide) (fun K hK => ?_)
          refine goes_ Try.func38 (by kernel_rfl) rfl #[.agg #[.int .i64 t16020, .slice Ao113 t16021.length co113], .agg #[.int .i64 t16037, .slice Ao131 t16038.length co131]] (by rfl) rfl rfl lm ?_
          with_reducible refine (laws_eqMatroid.calls k t16020 _ _ t16021 t16037 _ _ t16038 true _ ?side1 ?side2 ?side3 ?side4 A79.out).mono ?_
          (case side1 => repeat (first | exact (Kd.R_reads' HO16023.out).2.2 | (with_reducible refine Kd.C_alloc ?_ _) | (with_reducible refine Kd.C_drewN ?_ _) | (with_reducible refine Kd.C_drew ?_)))
          (case side2 => exact (Kd.R_reads' HO16023.out).2.1)
          (case side3 => repeat (first | exact (Kd.R_reads' HO16040.out).2.2 | (with_reducible refine Kd.C_alloc ?_ _) | (with_reducible refine Kd.C_drewN ?_ _) | (with_reducible refine Kd.C_drew ?_)))
          (case side4 => exact (Kd.R_reads' HO16040.out).2.1)
          rintro e w132 ⟨rfl, hb⟩
          refine ⟨_, rfl, ?_⟩
          have n0_ := aQ (Kd.R_below (pR HO16008.out) hb)
          have n1_ := aQ (Kd.R_below (pR HO16012.out) hb)
          have n2_ := aQ (Kd.R_below (pR HO16015.out) hb)
          have n3_ := aQ (Kd.R_below (pR HO16018.out) hb)
          have n4_ := aQ (Kd.R_below (pR HO16023.out) hb)
          have n5_ := aQ (Kd.R_below (pR HO16028.out) hb)
          have n6_ := aQ (Kd.R_below (pR HO16032.out) hb)
          have n7_ := aQ (Kd.R_below (pR HO16035.out) hb)
          have n8_ := aQ (Kd.R_below (pR HO16040.out) hb)
          have n9_ := aQ (blk_below (g := gb16001) (o := .cells #[.int .i64 a0_0, .slice A0_1 l0_1.length c0_1] 24 (0, 0)) (pk BK16001.out) hb)
          have n10_ := aQ (blk_below (g := gb16002) (o := .cells #[.int .i64 a1_0, .slice A1_1 l1_1.length c1_1] 24 (0, 0)) (pk BK16002.out) hb)
          have n11_ := aQ (blk_below (g := gb16024) (o := .cells #[.int .i64 t16020, .slice Ao113 t16021.length co113] 28 (0, 0)) (pk BK16024.out) hb)
          have n12_ := aQ (blk_below (g := gb16029) (o := .cells #[.int .i64 t16025, .slice Ao121 t16026.length co121] 28 (0, 0)) (pk BK16029.out) hb)
          have n13_ := aQ (below_step (pB4 HB.out GE16001.out GE16002.out GE16024.out GE16029.out) hb)
          clear HO16008
          clear HO16012
          clear HO16015
          clear HO16018
          clear HO16023
          clear HO16028
          clear HO16032
          clear HO16035
          clear HO16040
          clear BK16001
          clear BK16002
          clear BK16024
          clear BK16029
          clear HB
          have HO16008 := n0_
          have HO16012 := n1_
          have HO16015 := n2_
          have HO16018 := n3_
          have HO16023 := n4_
          have HO16028 := n5_
          have HO16032 := n6_
          have HO16035 := n7_
          have HO16040 := n8_
          have BK16001 := n9_
          have BK16002 := n10_
          have BK16024 := n11_
          have BK16029 := n12_
          have HB := n13_
          clear n0_ n1_ n2_ n3_ n4_ n5_ n6_ n7_ n8_ n9_ n10_ n11_ n12_ n13_
          (try clear hb)
          (try clear hb2)
          (try clear hk)
          (try clear hi)
          refine hK.out _ _ ⟨(blk_cell BK16024.out 0).trans rfl, (blk_cell BK16024.out 1).trans rfl, (blk_cell BK16001.out 0).trans rfl, (blk_cell BK16001.out 1).trans rfl⟩ (fun hHeld => ?_)
          clear hK K
          refine norm_ (a' := ?_) ?_ ?_
          rotate_left
          ·show Act.put _ (some 64) _ = _
           simp only [Act.put, List.setIfInBounds_toArray, List.set_cons_zero, List.set_cons_succ, i64_w, i32_w]
           rfl
          refine pure_ (i := 4) (N := some 65) (v := ?_) (a' := ?_) #[true, true, true, true, true] rfl rfl (by kernel_rfl) (fun _ _ _ h => h) (Or.inl ⟨by rfl, ?_⟩) ?_ ?_
          rotate_left
          ·intro w'
           go_simp
           with_reducible rfl
          rotate_left
          ·simp only [Act.put, List.setIfInBounds_toArray, List.set_cons_zero, List.set_cons_succ, i64_w, i32_w]
           rfl
          refine done_ (by kernel_rfl) ?_
          try go_wp2
          have n0_ := aQ (Kd.R_drew HO16008.out)
          have n1_ := aQ (Kd.R_drew HO16012.out)
          have n2_ := aQ (Kd.R_drew HO16015.out)
          have n3_ := aQ (Kd.R_drew HO16018.out)
          have n4_ := aQ (Kd.R_drew HO16023.out)
          have n5_ := aQ (Kd.R_drew HO16028.out)
          have n6_ := aQ (Kd.R_drew HO16032.out)
          have n7_ := aQ (Kd.R_drew HO16035.out)
          have n8_ := aQ (Kd.R_drew HO16040.out)
          have n9_ := aQ (blk_drew BK16001.out)
          have n10_ := aQ (blk_drew BK16002.out)
          have n11_ := aQ (blk_drew BK16024.out)
          have n12_ := aQ (blk_drew BK16029.out)
          have n13_ := aQ (below_drew1 HB.out)
          clear HO16008
          clear HO16012
          clear HO16015
          clear HO16018
          clear HO16023
          clear HO16028
          clear HO16032
          clear HO16035
          clear HO16040
          clear BK16001
          clear BK16002
          clear BK16024
          clear BK16029
          clear HB
          have HO16008 := n0_
          have HO16012 := n1_
          have HO16015 := n2_
          have HO16018 := n3_
          have HO16023 := n4_
          have HO16028 := n5_
          have HO16032 := n6_
          have HO16035 := n7_
          have HO16040 := n8_
          have BK16001 := n9_
          have BK16002 := n10_
          have BK16024 := n11_
          have BK16029 := n12_
          have HB := n13_
          clear n0_ n1_ n2_ n3_ n4_ n5_ n6_ n7_ n8_ n9_ n10_ n11_ n12_ n13_
          refine start_ (n := 5) (S := fun w' => w'.cell? ⟨gb16029, 0, none⟩ = some (.int .i64 t16025) ∧ w'.cell? ⟨gb16029, 1, none⟩ = some (.slice Ao121 t16026.length co121) ∧ w'.cell? ⟨gb16002, 0, none⟩ = some (.int .i64 a1_0) ∧ w'.cell? ⟨gb16002, 1, none⟩ = some (.slice A1_1 l1_1.length c1_1)) (ds := []) #[false, false, false, false, false] (by kernel_rfl) rfl rfl ⟨(blk_cell BK16029.out 0).trans rfl, (blk_cell BK16029.out 1).trans rfl, (blk_cell BK16002.out 0).trans rfl, (blk_cell BK16002.out 1).trans rfl⟩ (fun hHeld => ?_)
          generalize w132.drew = w133 at HO16008 HO16012 HO16015 HO16018 HO16023 HO16028 HO16032 HO16035 HO16040 BK16001 BK16002 BK16024 BK16029 HB hHeld ⊢
          refine take_ (i := 0) (N := some 66) (v := ?_) (a' := ?_) #[true, false, false, false, false] rfl rfl (by kernel_rfl) (fun _ _ _ h => h) (Or.inl ⟨by rfl, ?_⟩) hHeld ?_ ?_
          rotate_left
          ·rintro w' ⟨s0, s1, s2, s3⟩
           go_simp
           with_reducible rfl
          rotate_left
          ·simp only [Act.put, List.setIfInBounds_toArray, List.set_cons_zero, List.set_cons_succ, i64_w, i32_w]
           rfl
          refine take_ (i := 1) (N := some 67) (v := ?_) (a' := ?_) #[true, true, false, false, false] rfl rfl (by kernel_rfl) (fun _ _ _ h => h) (Or.inl ⟨by rfl, ?_⟩) hHeld ?_ ?_
          rotate_left
          ·rintro w' ⟨s0, s1, s2, s3⟩
           go_simp
           with_reducible rfl
          rotate_left
          ·simp only [Act.put, List.setIfInBounds_toArray, List.set_cons_zero, List.set_cons_succ, i64_w, i32_w]
           rfl
          refine one_ (i := 2) (N := some 68) #[true, true, true, false, false] rfl rfl (by kernel_rfl) (by decide) (fun K hK => ?_)
          refine goes_ Try.func35 (by kernel_rfl) rfl #[.agg #[.int .i64 a1_0, .slice A1_1 l1_1.length c1_1]] (by rfl) rfl rfl lm ?_
          with_reducible refine (laws_toMatroid.calls k a1_0 _ _ l1_1 t16042 t16043 _ ?side1 ?side2 A81.out).mono ?_
          (case side1 => exact pC (Kd.C_below HR1_1.out HB.out))
          (case side2 => exact HC1_1.out)
          rintro e w134 ⟨v16044, rfl, ho0, hb⟩
          refine ⟨_, rfl, ?_⟩
          have n0_ := aQ (Kd.R_elder' (pR HO16008.out) (Kd.R_base ho0) hb)
          have n1_ := aQ (Kd.R_elder' (pR HO16012.out) (Kd.R_base ho0) hb)
          have n2_ := aQ (Kd.R_elder' (pR HO16015.out) (Kd.R_base ho0) hb)
          have n3_ := aQ (Kd.R_elder' (pR HO16018.out) (Kd.R_base ho0) hb)
          have n4_ := aQ (Kd.R_elder' (pR HO16023.out) (Kd.R_base ho0) hb)
          have n5_ := aQ (Kd.R_elder' (pR HO16028.out) (Kd.R_base ho0) hb)
          have n6_ := aQ (Kd.R_elder' (pR HO16032.out) (Kd.R_base ho0) hb)
          have n7_ := aQ (Kd.R_elder' (pR HO16035.out) (Kd.R_base ho0) hb)
          have n8_ := aQ (Kd.R_elder' (pR HO16040.out) (Kd.R_base ho0) hb)
          have n9_ := aQ (Kd.R_lower (Kd.R_new' (Kd.R_new' (Kd.R_new' (Kd.R_new' (Kd.R_new' (Kd.R_new' (Kd.R_new' (Kd.R_new' (Kd.R_new' ho0 (Kd.R_lt (pR HO16008.out))) (Kd.R_lt (pR HO16012.out))) (Kd.R_lt (pR HO16015.out))) (Kd.R_lt (pR HO16018.out))) (Kd.R_lt (pR HO16023.out))) (Kd.R_lt (pR HO16028.out))) (Kd.R_lt (pR HO16032.out))) (Kd.R_lt (pR HO16035.out))) (Kd.R_lt (pR HO16040.out))) (below_size (pB4 HB.out GE16001.out GE16002.out GE16024.out GE16029.out)))
          have n10_ := aQ (blk_below (g := gb16001) (o := .cells #[.int .i64 a0_0, .slice A0_1 l0_1.length c0_1] 24 (0, 0)) (pk BK16001.out) hb)
          have n11_ := aQ (blk_below (g := gb16002) (o := .cells #[.int .i64 a1_0, .slice A1_1 l1_1.length c1_1] 24 (0, 0)) (pk BK16002.out) hb)
          have n12_ := aQ (blk_below (g := gb16024) (o := .cells #[.int .i64 t16020, .slice Ao113 t16021.length co113] 28 (0, 0)) (pk BK16024.out) hb)
          have n13_ := aQ (blk_below (g := gb16029) (o := .cells #[.int .i64 t16025, .slice Ao121 t16026.length co121] 28 (0, 0)) (pk BK16029.out) hb)
          have n14_ := aQ (below_step (pB4 HB.out GE16001.out GE16002.out GE16024.out GE16029.out) hb)
          clear HO16008
          clear HO16012
          clear HO16015
          clear HO16018
          clear HO16023
          clear HO16028
          clear HO16032
          clear HO16035
          clear HO16040
          clear BK16001
          clear BK16002
          clear BK16024
          clear BK16029
          clear HB
          have HO16008 := n0_
          have HO16012 := n1_
          have HO16015 := n2_
          have HO16018 := n3_
          have HO16023 := n4_
          have HO16028 := n5_
          have HO16032 := n6_
          have HO16035 := n7_
          have HO16040 := n8_
          have HO16045 := n9_
          have BK16001 := n10_
          have BK16002 := n11_
          have BK16024 := n12_
          have BK16029 := n13_
          have HB := n14_
          clear n0_ n1_ n2_ n3_ n4_ n5_ n6_ n7_ n8_ n9_ n10_ n11_ n12_ n13_ n14_
          (try clear hb)
          (try clear hb2)
          (try clear hk)
          (try clear hi)
          (try clear ho0)
          obtain ⟨Ao135, co135, eo135⟩ := Kd.R_slice HO16045.out
          (first | subst eo135 | (injection eo135 with f1_ f2_ f3_; have f4_ := f1_.symm; have f5_ := f3_.symm; clear f1_ f2_ f3_; subst f4_; subst f5_))
          refine hK.out _ _ ⟨(blk_cell BK16029.out 0).trans rfl, (blk_cell BK16029.out 1).trans rfl, (blk_cell BK16002.out 0).trans rfl, (blk_cell BK16002.out 1).trans rfl⟩ (fun hHeld => ?_)
          clear hK K
          refine norm_ (a' := ?_) ?_ ?_
          rotate_left
          ·show Act.put _ (some 68) _ = _
           simp only [Act.put, List.setIfInBounds_toArray, List.set_cons_zero, List.set_cons_succ, i64_w, i32_w]
           rfl
          refine one_ (i := 3) (N := some 69) #[true, true, true, true, false] rfl rfl (by kernel_rfl) (by decide) (fun K hK => ?_)
          refine goes_ Try.func38 (by kernel_rfl) rfl #[.agg #[.int .i64 t16025, .slice Ao121 t16026.length co121], .agg #[.int .i64 t16042, .slice Ao135 t16043.length co135]] (by rfl) rfl rfl lm ?_
          with_reducible refine (laws_eqMatroid.calls k t16025 _ _ t16026 t16042 _ _ t16043 true _ ?side1 ?side2 ?side3 ?side4 A82.out).mono ?_
          (case side1 => repeat (first | exact (Kd.R_reads' HO16028.out).2.2 | (with_reducible refine Kd.C_alloc ?_ _) | (with_reducible refine Kd.C_drewN ?_ _) | (with_reducible refine Kd.C_drew ?_)))
          (case side2 => exact (Kd.R_reads' HO16028.out).2.1)
          (case side3 => repeat (first | exact (Kd.R_reads' HO16045.out).2.2 | (with_reducible refine Kd.C_alloc ?_ _) | (with_reducible refine Kd.C_drewN ?_ _) | (with_reducible refine Kd.C_drew ?_)))
          (case side4 => exact (Kd.R_reads' HO16045.out).2.1)
          rintro e w136 ⟨rfl, hb⟩
          refine ⟨_, rfl, ?_⟩
          have n0_ := aQ (Kd.R_below (pR HO16008.out) hb)
          have n1_ := aQ (Kd.R_below (pR HO16012.out) hb)
          have n2_ := aQ (Kd.R_below (pR HO16015.out) hb)
          have n3_ := aQ (Kd.R_below (pR HO16018.out) hb)
          have n4_ := aQ (Kd.R_below (pR HO16023.out) hb)
          have n5_ := aQ (Kd.R_below (pR HO16028.out) hb)
          have n6_ := aQ (Kd.R_below (pR HO16032.out) hb)
          have n7_ := aQ (Kd.R_below (pR HO16035.out) hb)
          have n8_ := aQ (Kd.R_below (pR HO16040.out) hb)
          have n9_ := aQ (Kd.R_below (pR HO16045.out) hb)
          have n10_ := aQ (blk_below (g := gb16001) (o := .cells #[.int .i64 a0_0, .slice A0_1 l0_1.length c0_1] 24 (0, 0)) (pk BK16001.out) hb)
          have n11_ := aQ (blk_below (g := gb16002) (o := .cells #[.int .i64 a1_0, .slice A1_1 l1_1.length c1_1] 24 (0, 0)) (pk BK16002.out) hb)
          have n12_ := aQ (blk_below (g := gb16024) (o := .cells #[.int .i64 t16020, .slice Ao113 t16021.length co113] 28 (0, 0)) (pk BK16024.out) hb)
          have n13_ := aQ (blk_below (g := gb16029) (o := .cells #[.int .i64 t16025, .slice Ao121 t16026.length co121] 28 (0, 0)) (pk BK16029.out) hb)
          have n14_ := aQ (below_step (pB4 HB.out GE16001.out GE16002.out GE16024.out GE16029.out) hb)
          clear HO16008
          clear HO16012
          clear HO16015
          clear HO16018
          clear HO16023
          clear HO16028
          clear HO16032
          clear HO16035
          clear HO16040
          clear HO16045
          clear BK16001
          clear BK16002
          clear BK16024
          clear BK16029
          clear HB
          have HO16008 := n0_
          have HO16012 := n1_
          have HO16015 := n2_
          have HO16018 := n3_
          have HO16023 := n4_
          have HO16028 := n5_
          have HO16032 := n6_
          have HO16035 := n7_
          have HO16040 := n8_
          have HO16045 := n9_
          have BK16001 := n10_
          have BK16002 := n11_
          have BK16024 := n12_
          have BK16029 := n13_
          have HB := n14_
          clear n0_ n1_ n2_ n3_ n4_ n5_ n6_ n7_ n8_ n9_ n10_ n11_ n12_ n13_ n14_
          (try clear hb)
          (try clear hb2)
          (try clear hk)
          (try clear hi)
          refine hK.out _ _ ⟨(blk_cell BK16029.out 0).trans rfl, (blk_cell BK16029.out 1).trans rfl, (blk_cell BK16002.out 0).trans rfl, (blk_cell BK16002.out 1).trans rfl⟩ (fun hHeld => ?_)
          clear hK K
          refine norm_ (a' := ?_) ?_ ?_
          rotate_left
          ·show Act.put _ (some 69) _ = _
           simp only [Act.put, List.setIfInBounds_toArray, List.set_cons_zero, List.set_cons_succ, i64_w, i32_w]
           rfl
          refine pure_ (i := 4) (N := some 70) (v := ?_) (a' := ?_) #[true, true, true, true, true] rfl rfl (by kernel_rfl) (fun _ _ _ h => h) (Or.inl ⟨by rfl, ?_⟩) ?_ ?_
          rotate_left
          ·intro w'
           go_simp
           with_reducible rfl
          rotate_left
          ·simp only [Act.put, List.setIfInBounds_toArray, List.set_cons_zero, List.set_cons_succ, i64_w, i32_w]
           rfl
          refine done_ (by kernel_rfl) ?_
          try go_wp2_with (first | ((with_reducible refine gate_callee (f := 47) rfl ?_); refine goesL_ (some 73) rfl rfl Try.func47 (by kernel_rfl) rfl #[.slice A2 l2.length c2] rfl lm ?_; (with_reducible refine (laws_toIntS.calls k _ _ l2 t16047 _ ?side1 ?side2 A84.out).mono ?_); (case side1 => exact pC (Kd.C_below HR2.out HB.out)); (case side2 => exact HC2.out); rintro e w137 ⟨v16048, rfl, ho0, hb⟩; refine ⟨_, rfl, ?_⟩; have HO16049 := aQ (Kd.R_lower (Kd.R_new' (Kd.R_new' (Kd.R_new' (Kd.R_new' (Kd.R_new' (Kd.R_new' (Kd.R_new' (Kd.R_new' (Kd.R_new' (Kd.R_new' ho0 (Kd.R_lt (pR HO16008.out))) (Kd.R_lt (pR HO16012.out))) (Kd.R_lt (pR HO16015.out))) (Kd.R_lt (pR HO16018.out))) (Kd.R_lt (pR HO16023.out))) (Kd.R_lt (pR HO16028.out))) (Kd.R_lt (pR HO16032.out))) (Kd.R_lt (pR HO16035.out))) (Kd.R_lt (pR HO16040.out))) (Kd.R_lt (pR HO16045.out))) (below_size (pB4 HB.out GE16001.out GE16002.out GE16024.out GE16029.out))); replace HO16008 := aQ (Kd.R_elder' (pR HO16008.out) (Kd.R_base ho0) hb); replace HO16012 := aQ (Kd.R_elder' (pR HO16012.out) (Kd.R_base ho0) hb); replace HO16015 := aQ (Kd.R_elder' (pR HO16015.out) (Kd.R_base ho0) hb); replace HO16018 := aQ (Kd.R_elder' (pR HO16018.out) (Kd.R_base ho0) hb); replace HO16023 := aQ (Kd.R_elder' (pR HO16023.out) (Kd.R_base ho0) hb); replace HO16028 := aQ (Kd.R_elder' (pR HO16028.out) (Kd.R_base ho0) hb); replace HO16032 := aQ (Kd.R_elder' (pR HO16032.out) (Kd.R_base ho0) hb); replace HO16035 := aQ (Kd.R_elder' (pR HO16035.out) (Kd.R_base ho0) hb); replace HO16040 := aQ (Kd.R_elder' (pR HO16040.out) (Kd.R_base ho0) hb); replace HO16045 := aQ (Kd.R_elder' (pR HO16045.out) (Kd.R_base ho0) hb); replace BK16001 := aQ (blk_below (g := gb16001) (o := .cells #[.int .i64 a0_0, .slice A0_1 l0_1.length c0_1] 24 (0, 0)) (pk BK16001.out) hb); replace BK16002 := aQ (blk_below (g := gb16002) (o := .cells #[.int .i64 a1_0, .slice A1_1 l1_1.length c1_1] 24 (0, 0)) (pk BK16002.out) hb); replace BK16024 := aQ (blk_below (g := gb16024) (o := .cells #[.int .i64 t16020, .slice Ao113 t16021.length co113] 28 (0, 0)) (pk BK16024.out) hb); replace BK16029 := aQ (blk_below (g := gb16029) (o := .cells #[.int .i64 t16025, .slice Ao121 t16026.length co121] 28 (0, 0)) (pk BK16029.out) hb); replace HB := aQ (below_step (pB4 HB.out GE16001.out GE16002.out GE16024.out GE16029.out) hb); (try clear hb); (try clear ho0); obtain ⟨Ao138, co138, eo138⟩ := Kd.R_slice HO16049.out; subst eo138) | ((with_reducible refine gate_callee (f := 37) rfl ?_); refine goesL_ (some 74) rfl rfl Try.func37 (by kernel_rfl) rfl #[.slice Ao126 t16030.length co126, .slice Ao138 t16047.length co138] rfl lm ?_; (with_reducible refine (laws_eqIntS.calls k _ _ t16030 _ _ t16047 true _ ?side1 ?side2 ?side3 ?side4 A85.out).mono ?_); (case side1 => repeat (first | exact (Kd.R_reads' HO16032.out).2.2 | (with_reducible refine Kd.C_alloc ?_ _) | (with_reducible refine Kd.C_drewN ?_ _) | (with_reducible refine Kd.C_drew ?_))); (case side2 => exact (Kd.R_reads' HO16032.out).2.1); (case side3 => repeat (first | exact (Kd.R_reads' HO16049.out).2.2 | (with_reducible refine Kd.C_alloc ?_ _) | (with_reducible refine Kd.C_drewN ?_ _) | (with_reducible refine Kd.C_drew ?_))); (case side4 => exact (Kd.R_reads' HO16049.out).2.1); rintro e w' ⟨rfl, ⟨nd, rfl⟩⟩; refine ⟨_, rfl, ?_⟩) | ((with_reducible refine gate_callee (f := 47) rfl ?_); refine goesL_ (some 78) rfl rfl Try.func47 (by kernel_rfl) rfl #[.slice A3 l3.length c3] rfl lm ?_; (with_reducible refine (laws_toIntS.calls k _ _ l3 t16051 _ ?side1 ?side2 A87.out).mono ?_); (case side1 => repeat (first | exact (Kd.C_below HR3.out (pB4 HB.out GE16001.out GE16002.out GE16024.out GE16029.out)) | (with_reducible refine Kd.C_alloc ?_ _) | (with_reducible refine Kd.C_drewN ?_ _) | (with_reducible refine Kd.C_drew ?_))); (case side2 => exact HC3.out); rintro e w139 ⟨v16052, rfl, ho0, hb⟩; refine ⟨_, rfl, ?_⟩; have HO16053 := aQ (Kd.R_lower (Kd.R_new' (Kd.R_new' (Kd.R_new' (Kd.R_new' (Kd.R_new' (Kd.R_new' (Kd.R_new' (Kd.R_new' (Kd.R_new' (Kd.R_new' (Kd.R_new' ho0 (Kd.R_lt (pR HO16008.out))) (Kd.R_lt (pR HO16012.out))) (Kd.R_lt (pR HO16015.out))) (Kd.R_lt (pR HO16018.out))) (Kd.R_lt (pR HO16023.out))) (Kd.R_lt (pR HO16028.out))) (Kd.R_lt (pR HO16032.out))) (Kd.R_lt (pR HO16035.out))) (Kd.R_lt (pR HO16040.out))) (Kd.R_lt (pR HO16045.out))) (Kd.R_lt (pR HO16049.out))) (below_size (pB4 HB.out GE16001.out GE16002.out GE16024.out GE16029.out))); replace HO16008 := aQ (Kd.R_elder' (pR HO16008.out) (Kd.R_base ho0) hb); replace HO16012 := aQ (Kd.R_elder' (pR HO16012.out) (Kd.R_base ho0) hb); replace HO16015 := aQ (Kd.R_elder' (pR HO16015.out) (Kd.R_base ho0) hb); replace HO16018 := aQ (Kd.R_elder' (pR HO16018.out) (Kd.R_base ho0) hb); replace HO16023 := aQ (Kd.R_elder' (pR HO16023.out) (Kd.R_base ho0) hb); replace HO16028 := aQ (Kd.R_elder' (pR HO16028.out) (Kd.R_base ho0) hb); replace HO16032 := aQ (Kd.R_elder' (pR HO16032.out) (Kd.R_base ho0) hb); replace HO16035 := aQ (Kd.R_elder' (pR HO16035.out) (Kd.R_base ho0) hb); replace HO16040 := aQ (Kd.R_elder' (pR HO16040.out) (Kd.R_base ho0) hb); replace HO16045 := aQ (Kd.R_elder' (pR HO16045.out) (Kd.R_base ho0) hb); replace HO16049 := aQ (Kd.R_elder' (pR HO16049.out) (Kd.R_base ho0) hb); replace BK16001 := aQ (blk_below (g := gb16001) (o := .cells #[.int .i64 a0_0, .slice A0_1 l0_1.length c0_1] 24 (0, 0)) (pk BK16001.out) hb); replace BK16002 := aQ (blk_below (g := gb16002) (o := .cells #[.int .i64 a1_0, .slice A1_1 l1_1.length c1_1] 24 (0, 0)) (pk BK16002.out) hb); replace BK16024 := aQ (blk_below (g := gb16024) (o := .cells #[.int .i64 t16020, .slice Ao113 t16021.length co113] 28 (0, 0)) (pk BK16024.out) hb); replace BK16029 := aQ (blk_below (g := gb16029) (o := .cells #[.int .i64 t16025, .slice Ao121 t16026.length co121] 28 (0, 0)) (pk BK16029.out) hb); replace HB := aQ (below_step (pB4 HB.out GE16001.out GE16002.out GE16024.out GE16029.out) hb); (try clear hb); (try clear ho0); obtain ⟨Ao140, co140, eo140⟩ := Kd.R_slice HO16053.out; subst eo140) | ((with_reducible refine gate_callee (f := 37) rfl ?_); refine goesL_ (some 79) rfl rfl Try.func37 (by kernel_rfl) rfl #[.slice Ao127 t16033.length co127, .slice Ao140 t16051.length co140] rfl lm ?_; (with_reducible refine (laws_eqIntS.calls k _ _ t16033 _ _ t16051 true _ ?side1 ?side2 ?side3 ?side4 A88.out).mono ?_); (case side1 => repeat (first | exact (Kd.R_reads' HO16035.out).2.2 | (with_reducible refine Kd.C_alloc ?_ _) | (with_reducible refine Kd.C_drewN ?_ _) | (with_reducible refine Kd.C_drew ?_))); (case side2 => exact (Kd.R_reads' HO16035.out).2.1); (case side3 => repeat (first | exact (Kd.R_reads' HO16053.out).2.2 | (with_reducible refine Kd.C_alloc ?_ _) | (with_reducible refine Kd.C_drewN ?_ _) | (with_reducible refine Kd.C_drew ?_))); (case side4 => exact (Kd.R_reads' HO16053.out).2.1); rintro e w' ⟨rfl, ⟨nd, rfl⟩⟩; refine ⟨_, rfl, ?_⟩))
          go_ret
          exact ⟨re_, pB4 HB.out GE16001.out GE16002.out GE16024.out GE16029.out⟩
         ·replace c89 := Bool.eq_false_iff.mpr c89
          subst c89
          have H1 : (some false) = some true := by rw [if_neg (show ¬ (false = true) by decide)] at H; exact H
          clear H
          have H := H1
          clear H1
          exact absurd (Option.some.inj H) (by decide)
        ·replace c86 := Bool.eq_false_iff.mpr c86
         subst c86
         have H1 : (some false) = some true := by rw [if_neg (show ¬ (false = true) by decide)] at H; exact H
         clear H
         have H := H1
         clear H1
         exact absurd (Option.some.inj H) (by decide)
       ·replace c83 := Bool.eq_false_iff.mpr c83
        subst c83
        have H1 : (some false) = some true := by rw [if_neg (show ¬ (false = true) by decide)] at H; exact H
        clear H
        have H := H1
        clear H1
        exact absurd (Option.some.inj H) (by decide)
      ·replace c80 := Bool.eq_false_iff.mpr c80
       subst c80
       have H1 : (some false) = some true := by rw [if_neg (show ¬ (false = true) by decide)] at H; exact H
       clear H
       have H := H1
       clear H1
       exact absurd (Option.some.inj H) (by decide)
end Go.Proofs.Ytinoamehdhgpgaa.A
