/- Machine side of the law FnExactBestWeights: Go functions as Lean functions, and proofs that calls come to what these tell. Conditions: those in each theorem. -/
import Derived.Test.YtagncnjllpebjaaMFnExactBestWeights0
import Derived.Test.YtagncnjllpebjaaMFnExactBestWeights1
import Derived.Test.YtagncnjllpebjaaMFnExactBestWeights2
import Derived.Test.YtagncnjllpebjaaMFnExactBestWeights4
namespace Go.Proofs.Ytagncnjllpebjaa.A
open Go.RowKit Go.Proofs.YtagncnjllpebjaaW.PrintWords Go.Proofs.YtagncnjllpebjaaW.PrintLast Go.Proofs.YtagncnjllpebjaaW.PrintMore
attribute [local go_sem] max2_int min2_int max_two min_two max_three min_three max_four min_four
set_option linter.unusedVariables false
set_option linter.unusedSimpArgs false
/-! ### laws_FnExactBestWeights: function 6 -/
def laws_FnExactBestWeights.j0 : Nat → List Int → List Int → List Int → Bool → Int → List Int → Int → List Int → Option (Bool)
 | 0, _, _, _, _, _, _, _, _ => none
 | k + 1, x2, x8, x12, x82, x7002000, x7002001, x7003000, x7003001 => if x82 = true then (some false) else ((laws_markIntS.f k x12 1).bind fun bt7057 => ((laws_heldIntS.f k bt7057.2 1).bind fun t7059 => (if t7059 < 0 then (some false) else (if t7059 = bt7057.1 then ((laws_toMatroid.f k x7002000 x7002001).bind fun bt7060 => ((laws_toMatroid.f k x7003000 x7003001).bind fun bt7064 => ((laws_toIntS.f k x2).bind fun t7068 => ((impl_BestWeights.f k bt7060.1 bt7060.2 bt7064.1 bt7064.2 t7068).bind fun t7071 => ((laws_eqIntS.f k t7071 x8).bind fun t7074 => (if t7074 = true then ((laws_heldIntS.f k bt7057.2 1).bind fun t7075 => (if t7075 < 0 then (some false) else (if t7075 = bt7057.1 then (some true) else (some false)))) else (some false))))))) else (some false)))))
def laws_FnExactBestWeights.f (k : Nat) (a0_0 : Int) (l0_1 : List Int) (a1_0 : Int) (l1_1 : List Int) (l2 : List Int) : Option (Bool) := if (l2.length : Int) > 1048576 then (some true) else ((laws_szMatroid.f a0_0 l0_1 1048576).bind fun t7003 => (if t7003 < 0 then (some true) else ((laws_szMatroid.f a1_0 l1_1 t7003).bind fun t7004 => (if t7004 < 0 then (some true) else ((laws_toMatroid.f k a0_0 l0_1).bind fun bt7005 => ((laws_toMatroid.f k a1_0 l1_1).bind fun bt7009 => ((laws_toIntS.f k l2).bind fun t7013 => ((spec_BestWeights.f k bt7005.1 bt7005.2 bt7009.1 bt7009.2 t7013).bind fun t7016 => ((laws_toMatroid.f k a0_0 l0_1).bind fun bt7019 => ((laws_toMatroid.f k a1_0 l1_1).bind fun bt7024 => ((laws_toIntS.f k l2).bind fun t7029 => ((impl_BestWeights.f k bt7019.1 bt7019.2 bt7024.1 bt7024.2 t7029).bind fun t7032 => ((laws_eqIntS.f k t7032 t7016).bind fun t7035 => (if t7035 = true then ((laws_toMatroid.f k a0_0 l0_1).bind fun bt7036 => ((laws_eqMatroid.f k bt7019.1 bt7019.2 bt7036.1 bt7036.2).bind fun t7040 => (if t7040 = true then ((laws_toMatroid.f k a1_0 l1_1).bind fun bt7041 => ((laws_eqMatroid.f k bt7024.1 bt7024.2 bt7041.1 bt7041.2).bind fun t7045 => (if t7045 = true then ((laws_toIntS.f k l2).bind fun t7046 => ((laws_eqIntS.f k t7029 t7046).bind fun t7049 => (if t7049 = true then ((laws_markMatroid.f k bt7019.1 bt7019.2 1).bind fun bt7050 => ((laws_markMatroid.f k bt7024.1 bt7024.2 bt7050.1).bind fun bt7052 => ((laws_markIntS.f k t7029 bt7052.1).bind fun bt7054 => (if bt7054.1 < 0 then (laws_FnExactBestWeights.j0 k l2 t7016 t7032 true a0_0 l0_1 a1_0 l1_1) else ((laws_eqIntS.f k t7032 t7016).bind fun t7056 => (laws_FnExactBestWeights.j0 k l2 t7016 t7032 (!t7056) a0_0 l0_1 a1_0 l1_1)))))) else (some false)))) else (some false)))) else (some false)))) else (some false)))))))))))))))
theorem laws_FnExactBestWeights.mono_l : ∀ k, (∀ y0 y1 y2 y3 y4 y5 y6 y7, LeO (laws_FnExactBestWeights.j0 k y0 y1 y2 y3 y4 y5 y6 y7) (laws_FnExactBestWeights.j0 (k + 1) y0 y1 y2 y3 y4 y5 y6 y7))
 | 0 => fun _ _ _ _ _ _ _ _ r h => by simp [laws_FnExactBestWeights.j0] at h
 | k + 1 => by
  have ih0 := laws_FnExactBestWeights.mono_l k
  ·intro y0 y1 y2 y3 y4 y5 y6 y7
   unfold laws_FnExactBestWeights.j0
   repeat' first
   | (with_reducible exact ih0 _ _ _ _ _ _ _ _)
   | (with_reducible exact impl_BestWeights.mono _ _ _ _ _ _)
   | (with_reducible exact laws_eqIntS.mono _ _ _)
   | (with_reducible exact laws_eqMatroid.mono _ _ _ _ _)
   | (with_reducible exact laws_heldIntS.mono _ _ _)
   | (with_reducible exact laws_markIntS.mono _ _ _)
   | (with_reducible exact laws_markMatroid.mono _ _ _ _)
   | (with_reducible exact laws_toIntS.mono _ _)
   | (with_reducible exact laws_toMatroid.mono _ _ _)
   | (with_reducible exact spec_BestWeights.mono _ _ _ _ _ _)
   | (with_reducible exact LeO.refl _)
   | (with_reducible exact LeO.none _)
   | (with_reducible refine LeO.ite ?_ ?_)
   | (with_reducible refine LeO.bind ?_ (fun _ => ?_))
   | exact ih0 _ _ _ _ _ _ _ _
   | exact impl_BestWeights.mono _ _ _ _ _ _
   | exact laws_eqIntS.mono _ _ _
   | exact laws_eqMatroid.mono _ _ _ _ _
   | exact laws_heldIntS.mono _ _ _
   | exact laws_markIntS.mono _ _ _
   | exact laws_markMatroid.mono _ _ _ _
   | exact laws_toIntS.mono _ _
   | exact laws_toMatroid.mono _ _ _
   | exact spec_BestWeights.mono _ _ _ _ _ _
   | exact LeO.none _
   | refine LeO.ite ?_ ?_
   | refine LeO.bind ?_ (fun _ => ?_)
theorem laws_FnExactBestWeights.mono : ∀ a0 a1 a2 a3 a4 k, LeO (laws_FnExactBestWeights.f k a0 a1 a2 a3 a4) (laws_FnExactBestWeights.f (k + 1) a0 a1 a2 a3 a4) := by
 intro a0 a1 a2 a3 a4 k
 have ih0 := laws_FnExactBestWeights.mono_l k
 unfold laws_FnExactBestWeights.f
 repeat' first
   | (with_reducible exact ih0 _ _ _ _ _ _ _ _)
   | (with_reducible exact impl_BestWeights.mono _ _ _ _ _ _)
   | (with_reducible exact laws_eqIntS.mono _ _ _)
   | (with_reducible exact laws_eqMatroid.mono _ _ _ _ _)
   | (with_reducible exact laws_heldIntS.mono _ _ _)
   | (with_reducible exact laws_markIntS.mono _ _ _)
   | (with_reducible exact laws_markMatroid.mono _ _ _ _)
   | (with_reducible exact laws_toIntS.mono _ _)
   | (with_reducible exact laws_toMatroid.mono _ _ _)
   | (with_reducible exact spec_BestWeights.mono _ _ _ _ _ _)
   | (with_reducible exact LeO.refl _)
   | (with_reducible exact LeO.none _)
   | (with_reducible refine LeO.ite ?_ ?_)
   | (with_reducible refine LeO.bind ?_ (fun _ => ?_))
   | exact ih0 _ _ _ _ _ _ _ _
   | exact impl_BestWeights.mono _ _ _ _ _ _
   | exact laws_eqIntS.mono _ _ _
   | exact laws_eqMatroid.mono _ _ _ _ _
   | exact laws_heldIntS.mono _ _ _
   | exact laws_markIntS.mono _ _ _
   | exact laws_markMatroid.mono _ _ _ _
   | exact laws_toIntS.mono _ _
   | exact laws_toMatroid.mono _ _ _
   | exact spec_BestWeights.mono _ _ _ _ _ _
   | exact LeO.none _
   | refine LeO.ite ?_ ?_
   | refine LeO.bind ?_ (fun _ => ?_)
def laws_FnExactBestWeights.T10 : Bool × List (List Nat × List Nat) := (true, [([], []), ([0], [0]), ([], []), ([2, 1], [2]), ([], []), ([4, 3], [4]), ([1, 3, 5, 5], [1, 3, 5]), ([6, 6, 0, 1, 2, 3, 4, 5, 6], [6])])
def laws_FnExactBestWeights.B10 : List Nat := [0, 1, 0, 7, 0, 31, 63, 127]
theorem laws_FnExactBestWeights.tab10 : rtab .any (opsOf Try.f6 10) = laws_FnExactBestWeights.T10 := by kernel_rfl
theorem laws_FnExactBestWeights.bits10 : waitsOk laws_FnExactBestWeights.T10.2 laws_FnExactBestWeights.B10 = true := by kernel_rfl
def laws_FnExactBestWeights.T37 : Bool × List (List Nat × List Nat) := (true, [([], []), ([0], [0]), ([], []), ([2, 1], [2]), ([], []), ([4, 3], [4]), ([1, 3, 5, 5], [1, 3, 5]), ([6, 6, 0, 1, 2, 3, 4, 5, 6], [6])])
def laws_FnExactBestWeights.B37 : List Nat := [0, 1, 0, 7, 0, 31, 63, 127]
theorem laws_FnExactBestWeights.tab37 : rtab .any (opsOf Try.f6 37) = laws_FnExactBestWeights.T37 := by kernel_rfl
theorem laws_FnExactBestWeights.bits37 : waitsOk laws_FnExactBestWeights.T37.2 laws_FnExactBestWeights.B37 = true := by kernel_rfl
set_option maxHeartbeats 8000000 in
set_option maxRecDepth 100000 in
theorem laws_FnExactBestWeights.calls (k : Nat) (a0_0 : Int) (A0_1 : Option Addr) (c0_1 : Nat) (l0_1 : List Int) (a1_0 : Int) (A1_1 : Option Addr) (c1_1 : Nat) (l1_1 : List Int) (A2 : Option Addr) (c2 : Nat) (l2 : List Int) (w : World) (hr0_1 : Kd.C (Kd.int .i64) w A0_1 l0_1.length l0_1) (hc0_1 : l0_1.length ≤ c0_1) (hr1_1 : Kd.C (Kd.int .i64) w A1_1 l1_1.length l1_1) (hc1_1 : l1_1.length ≤ c1_1) (hr2 : Kd.C (Kd.int .i64) w A2 l2.length l2) (hc2 : l2.length ≤ c2) (h : laws_FnExactBestWeights.f k a0_0 l0_1 a1_0 l1_1 l2 = some true) :
  Calls Try.prog 6 #[.agg #[.int .i64 a0_0, .slice A0_1 l0_1.length c0_1], .agg #[.int .i64 a1_0, .slice A1_1 l1_1.length c1_1], .slice A2 l2.length c2] w fun e w' => e = .returned (.bool true) ∧ Below w.heap.size w w' := by
 have hu24 := Try.underlying24
 have hu26 := Try.underlying26
 have HR0_1 := aQ hr0_1
 have HC0_1 := aQ hc0_1
 clear hr0_1 hc0_1
 have HR1_1 := aQ hr1_1
 have HC1_1 := aQ hc1_1
 clear hr1_1 hc1_1
 have HR2 := aQ hr2
 have HC2 := aQ hc2
 clear hr2 hc2
 have HB := aQ (Below.refl w.heap.size w)
 have H : (if (l2.length : Int) > 1048576 then (some true) else ((laws_szMatroid.f a0_0 l0_1 1048576).bind fun t7003 => (if t7003 < 0 then (some true) else ((laws_szMatroid.f a1_0 l1_1 t7003).bind fun t7004 => (if t7004 < 0 then (some true) else ((laws_toMatroid.f k a0_0 l0_1).bind fun bt7005 => ((laws_toMatroid.f k a1_0 l1_1).bind fun bt7009 => ((laws_toIntS.f k l2).bind fun t7013 => ((spec_BestWeights.f k bt7005.1 bt7005.2 bt7009.1 bt7009.2 t7013).bind fun t7016 => ((laws_toMatroid.f k a0_0 l0_1).bind fun bt7019 => ((laws_toMatroid.f k a1_0 l1_1).bind fun bt7024 => ((laws_toIntS.f k l2).bind fun t7029 => ((impl_BestWeights.f k bt7019.1 bt7019.2 bt7024.1 bt7024.2 t7029).bind fun t7032 => ((laws_eqIntS.f k t7032 t7016).bind fun t7035 => (if t7035 = true then ((laws_toMatroid.f k a0_0 l0_1).bind fun bt7036 => ((laws_eqMatroid.f k bt7019.1 bt7019.2 bt7036.1 bt7036.2).bind fun t7040 => (if t7040 = true then ((laws_toMatroid.f k a1_0 l1_1).bind fun bt7041 => ((laws_eqMatroid.f k bt7024.1 bt7024.2 bt7041.1 bt7041.2).bind fun t7045 => (if t7045 = true then ((laws_toIntS.f k l2).bind fun t7046 => ((laws_eqIntS.f k t7029 t7046).bind fun t7049 => (if t7049 = true then ((laws_markMatroid.f k bt7019.1 bt7019.2 1).bind fun bt7050 => ((laws_markMatroid.f k bt7024.1 bt7024.2 bt7050.1).bind fun bt7052 => ((laws_markIntS.f k t7029 bt7052.1).bind fun bt7054 => (if bt7054.1 < 0 then (laws_FnExactBestWeights.j0 k l2 t7016 t7032 true a0_0 l0_1 a1_0 l1_1) else ((laws_eqIntS.f k t7032 t7016).bind fun t7056 => (laws_FnExactBestWeights.j0 k l2 t7016 t7032 (!t7056) a0_0 l0_1 a1_0 l1_1)))))) else (some false)))) else (some false)))) else (some false)))) else (some false)))))))))))))))) = some true := h
 clear h
 by_cases c4 : (l2.length : Int) > 1048576
 ·rw [if_pos c4] at H
  have c4b0 : decide (1048576 < (l2.length : Int)) = true := decide_eq_true c4
  have c4b1 : decide (1048576 < l2.length) = true := decide_eq_true (by omega)
  clear c4
  clear H
  go_enter Try.func6, Try.ntmps6
  go_wp2_with (first | ((with_reducible refine gate_dst (N := 3) rfl ?_); refine box_event ?hg (N := 3) ?hd (cs := #[.int .i64 a0_0, .slice A0_1 l0_1.length c0_1]) (t := 24) ?hr ?_; (case hd => rfl); (case hg => rfl); (case hr => first | (go_simp; done) | (go_simp; rfl)); intro gb7001 hg w5 hbox hb; have BK7001 := aQ (hbox); have GW7001 := aQ ((by rw [hg]; exact (below_size (pB HB.out)) : w.heap.size ≤ gb7001)); have GE7001 := aQ ((by rw [hg]; exact (below_size (pB HB.out)) : w.heap.size ≤ gb7001)); replace HB := aQ (below_step (pB HB.out) hb); clear hb hbox hg) | ((with_reducible refine gate_dst (N := 4) rfl ?_); refine box_event ?hg (N := 4) ?hd (cs := #[.int .i64 a1_0, .slice A1_1 l1_1.length c1_1]) (t := 24) ?hr ?_; (case hd => rfl); (case hg => rfl); (case hr => first | (go_simp; done) | (go_simp; rfl)); intro gb7002 hg w6 hbox hb; have BK7002 := aQ (hbox); have GW7002 := aQ ((by rw [hg]; exact (below_size (pB1 HB.out GE7001.out)) : w.heap.size ≤ gb7002)); have GE7002 := aQ ((by rw [hg]; exact (below_size (pB1 HB.out GE7001.out)) : w.heap.size ≤ gb7002)); replace HB := aQ (below_step (pB1 HB.out GE7001.out) hb); have NB7001_7002 := aQ ((by rw [hg]; exact Nat.ne_of_lt (blk_lt (g := gb7001) (o := .cells #[.int .i64 a0_0, .slice A0_1 l0_1.length c0_1] 24 (0, 0)) (pk BK7001.out)) : gb7001 ≠ gb7002)); have NB7002_7001 := aQ ((by rw [hg]; exact Nat.ne_of_gt (blk_lt (g := gb7001) (o := .cells #[.int .i64 a0_0, .slice A0_1 l0_1.length c0_1] 24 (0, 0)) (pk BK7001.out)) : gb7002 ≠ gb7001)); replace BK7001 := aQ (blk_below (g := gb7001) (o := .cells #[.int .i64 a0_0, .slice A0_1 l0_1.length c0_1] 24 (0, 0)) (pk BK7001.out) hb); clear hb hbox hg))
  go_ret
  exact ⟨re_, pB2 HB.out GE7001.out GE7002.out⟩
 ·rw [if_neg c4] at H
  have c4b0 : decide (1048576 < (l2.length : Int)) = false := decide_eq_false c4
  have c4b1 : decide (1048576 < l2.length) = false := decide_eq_false (by omega)
  clear c4
  replace H := Option.bind_eq_some_iff.mp H
  obtain ⟨t7003, A70, H⟩ := H
  replace H : (if t7003 < 0 then (some true) else ((laws_szMatroid.f a1_0 l1_1 t7003).bind fun t7004 => (if t7004 < 0 then (some true) else ((laws_toMatroid.f k a0_0 l0_1).bind fun bt7005 => ((laws_toMatroid.f k a1_0 l1_1).bind fun bt7009 => ((laws_toIntS.f k l2).bind fun t7013 => ((spec_BestWeights.f k bt7005.1 bt7005.2 bt7009.1 bt7009.2 t7013).bind fun t7016 => ((laws_toMatroid.f k a0_0 l0_1).bind fun bt7019 => ((laws_toMatroid.f k a1_0 l1_1).bind fun bt7024 => ((laws_toIntS.f k l2).bind fun t7029 => ((impl_BestWeights.f k bt7019.1 bt7019.2 bt7024.1 bt7024.2 t7029).bind fun t7032 => ((laws_eqIntS.f k t7032 t7016).bind fun t7035 => (if t7035 = true then ((laws_toMatroid.f k a0_0 l0_1).bind fun bt7036 => ((laws_eqMatroid.f k bt7019.1 bt7019.2 bt7036.1 bt7036.2).bind fun t7040 => (if t7040 = true then ((laws_toMatroid.f k a1_0 l1_1).bind fun bt7041 => ((laws_eqMatroid.f k bt7024.1 bt7024.2 bt7041.1 bt7041.2).bind fun t7045 => (if t7045 = true then ((laws_toIntS.f k l2).bind fun t7046 => ((laws_eqIntS.f k t7029 t7046).bind fun t7049 => (if t7049 = true then ((laws_markMatroid.f k bt7019.1 bt7019.2 1).bind fun bt7050 => ((laws_markMatroid.f k bt7024.1 bt7024.2 bt7050.1).bind fun bt7052 => ((laws_markIntS.f k t7029 bt7052.1).bind fun bt7054 => (if bt7054.1 < 0 then (laws_FnExactBestWeights.j0 k l2 t7016 t7032 true a0_0 l0_1 a1_0 l1_1) else ((laws_eqIntS.f k t7032 t7016).bind fun t7056 => (laws_FnExactBestWeights.j0 k l2 t7016 t7032 (!t7056) a0_0 l0_1 a1_0 l1_1)))))) else (some false)))) else (some false)))) else (some false)))) else (some false)))))))))))))) = some true := H
  have A7 := aQ A70
  clear A70
  by_cases c8 : t7003 < 0
  ·rw [if_pos c8] at H
   have c8b0 : decide (t7003 < 0) = true := decide_eq_true c8
   clear c8
   clear H
   go_enter Try.func6, Try.ntmps6
   go_wp2_with (first | ((with_reducible refine gate_dst (N := 3) rfl ?_); refine box_event ?hg (N := 3) ?hd (cs := #[.int .i64 a0_0, .slice A0_1 l0_1.length c0_1]) (t := 24) ?hr ?_; (case hd => rfl); (case hg => rfl); (case hr => first | (go_simp; done) | (go_simp; rfl)); intro gb7001 hg w9 hbox hb; have BK7001 := aQ (hbox); have GW7001 := aQ ((by rw [hg]; exact (below_size (pB HB.out)) : w.heap.size ≤ gb7001)); have GE7001 := aQ ((by rw [hg]; exact (below_size (pB HB.out)) : w.heap.size ≤ gb7001)); replace HB := aQ (below_step (pB HB.out) hb); clear hb hbox hg) | ((with_reducible refine gate_dst (N := 4) rfl ?_); refine box_event ?hg (N := 4) ?hd (cs := #[.int .i64 a1_0, .slice A1_1 l1_1.length c1_1]) (t := 24) ?hr ?_; (case hd => rfl); (case hg => rfl); (case hr => first | (go_simp; done) | (go_simp; rfl)); intro gb7002 hg w10 hbox hb; have BK7002 := aQ (hbox); have GW7002 := aQ ((by rw [hg]; exact (below_size (pB1 HB.out GE7001.out)) : w.heap.size ≤ gb7002)); have GE7002 := aQ ((by rw [hg]; exact (below_size (pB1 HB.out GE7001.out)) : w.heap.size ≤ gb7002)); replace HB := aQ (below_step (pB1 HB.out GE7001.out) hb); have NB7001_7002 := aQ ((by rw [hg]; exact Nat.ne_of_lt (blk_lt (g := gb7001) (o := .cells #[.int .i64 a0_0, .slice A0_1 l0_1.length c0_1] 24 (0, 0)) (pk BK7001.out)) : gb7001 ≠ gb7002)); have NB7002_7001 := aQ ((by rw [hg]; exact Nat.ne_of_gt (blk_lt (g := gb7001) (o := .cells #[.int .i64 a0_0, .slice A0_1 l0_1.length c0_1] 24 (0, 0)) (pk BK7001.out)) : gb7002 ≠ gb7001)); replace BK7001 := aQ (blk_below (g := gb7001) (o := .cells #[.int .i64 a0_0, .slice A0_1 l0_1.length c0_1] 24 (0, 0)) (pk BK7001.out) hb); clear hb hbox hg; have hnb11 := NB7001_7002.out; have hnc11 := NB7002_7001.out; have hcz12_0 := bc (v := (.int .i64 a0_0)) BK7001.out 0; have hcz12_1 := bc (v := (.slice A0_1 l0_1.length c0_1)) BK7001.out 1; have hfz12_0 := blk_frozen BK7001.out 0; have hfz12_1 := blk_frozen BK7001.out 1) | ((with_reducible refine gate_callee (f := 16) rfl ?_); refine goesL_ (some 22) rfl rfl Try.func16 (by kernel_rfl) rfl #[.agg #[.int .i64 a0_0, .slice A0_1 l0_1.length c0_1], .int .i64 1048576] rfl lm ?_; (with_reducible refine (laws_szMatroid.calls a0_0 _ _ l0_1 1048576 t7003 _ ?side1 ?side2 A7.out).mono ?_); (case side1 => exact pC (Kd.C_below HR0_1.out HB.out)); (case side2 => exact HC0_1.out); rintro e w13 ⟨rfl, hb⟩; refine ⟨_, rfl, ?_⟩; replace BK7001 := aQ (blk_below (g := gb7001) (o := .cells #[.int .i64 a0_0, .slice A0_1 l0_1.length c0_1] 24 (0, 0)) (pk BK7001.out) hb); replace BK7002 := aQ (blk_below (g := gb7002) (o := .cells #[.int .i64 a1_0, .slice A1_1 l1_1.length c1_1] 24 (0, 0)) (pk BK7002.out) hb); replace HB := aQ (below_step (pB2 HB.out GE7001.out GE7002.out) hb); (try clear hb)))
   go_ret
   exact ⟨re_, pB2 HB.out GE7001.out GE7002.out⟩
  ·rw [if_neg c8] at H
   have c8b0 : decide (t7003 < 0) = false := decide_eq_false c8
   clear c8
   replace H := Option.bind_eq_some_iff.mp H
   obtain ⟨t7004, A140, H⟩ := H
   replace H : (if t7004 < 0 then (some true) else ((laws_toMatroid.f k a0_0 l0_1).bind fun bt7005 => ((laws_toMatroid.f k a1_0 l1_1).bind fun bt7009 => ((laws_toIntS.f k l2).bind fun t7013 => ((spec_BestWeights.f k bt7005.1 bt7005.2 bt7009.1 bt7009.2 t7013).bind fun t7016 => ((laws_toMatroid.f k a0_0 l0_1).bind fun bt7019 => ((laws_toMatroid.f k a1_0 l1_1).bind fun bt7024 => ((laws_toIntS.f k l2).bind fun t7029 => ((impl_BestWeights.f k bt7019.1 bt7019.2 bt7024.1 bt7024.2 t7029).bind fun t7032 => ((laws_eqIntS.f k t7032 t7016).bind fun t7035 => (if t7035 = true then ((laws_toMatroid.f k a0_0 l0_1).bind fun bt7036 => ((laws_eqMatroid.f k bt7019.1 bt7019.2 bt7036.1 bt7036.2).bind fun t7040 => (if t7040 = true then ((laws_toMatroid.f k a1_0 l1_1).bind fun bt7041 => ((laws_eqMatroid.f k bt7024.1 bt7024.2 bt7041.1 bt7041.2).bind fun t7045 => (if t7045 = true then ((laws_toIntS.f k l2).bind fun t7046 => ((laws_eqIntS.f k t7029 t7046).bind fun t7049 => (if t7049 = true then ((laws_markMatroid.f k bt7019.1 bt7019.2 1).bind fun bt7050 => ((laws_markMatroid.f k bt7024.1 bt7024.2 bt7050.1).bind fun bt7052 => ((laws_markIntS.f k t7029 bt7052.1).bind fun bt7054 => (if bt7054.1 < 0 then (laws_FnExactBestWeights.j0 k l2 t7016 t7032 true a0_0 l0_1 a1_0 l1_1) else ((laws_eqIntS.f k t7032 t7016).bind fun t7056 => (laws_FnExactBestWeights.j0 k l2 t7016 t7032 (!t7056) a0_0 l0_1 a1_0 l1_1)))))) else (some false)))) else (some false)))) else (some false)))) else (some false)))))))))))) = some true := H
   have A14 := aQ A140
   clear A140
   by_cases c15 : t7004 < 0
   ·rw [if_pos c15] at H
    have c15b0 : decide (t7004 < 0) = true := decide_eq_true c15
    clear c15
    clear H
    go_enter Try.func6, Try.ntmps6
    go_wp2_with (first | ((with_reducible refine gate_dst (N := 3) rfl ?_); refine box_event ?hg (N := 3) ?hd (cs := #[.int .i64 a0_0, .slice A0_1 l0_1.length c0_1]) (t := 24) ?hr ?_; (case hd => rfl); (case hg => rfl); (case hr => first | (go_simp; done) | (go_simp; rfl)); intro gb7001 hg w16 hbox hb; have BK7001 := aQ (hbox); have GW7001 := aQ ((by rw [hg]; exact (below_size (pB HB.out)) : w.heap.size ≤ gb7001)); have GE7001 := aQ ((by rw [hg]; exact (below_size (pB HB.out)) : w.heap.size ≤ gb7001)); replace HB := aQ (below_step (pB HB.out) hb); clear hb hbox hg) | ((with_reducible refine gate_dst (N := 4) rfl ?_); refine box_event ?hg (N := 4) ?hd (cs := #[.int .i64 a1_0, .slice A1_1 l1_1.length c1_1]) (t := 24) ?hr ?_; (case hd => rfl); (case hg => rfl); (case hr => first | (go_simp; done) | (go_simp; rfl)); intro gb7002 hg w17 hbox hb; have BK7002 := aQ (hbox); have GW7002 := aQ ((by rw [hg]; exact (below_size (pB1 HB.out GE7001.out)) : w.heap.size ≤ gb7002)); have GE7002 := aQ ((by rw [hg]; exact (below_size (pB1 HB.out GE7001.out)) : w.heap.size ≤ gb7002)); replace HB := aQ (below_step (pB1 HB.out GE7001.out) hb); have NB7001_7002 := aQ ((by rw [hg]; exact Nat.ne_of_lt (blk_lt (g := gb7001) (o := .cells #[.int .i64 a0_0, .slice A0_1 l0_1.length c0_1] 24 (0, 0)) (pk BK7001.out)) : gb7001 ≠ gb7002)); have NB7002_7001 := aQ ((by rw [hg]; exact Nat.ne_of_gt (blk_lt (g := gb7001) (o := .cells #[.int .i64 a0_0, .slice A0_1 l0_1.length c0_1] 24 (0, 0)) (pk BK7001.out)) : gb7002 ≠ gb7001)); replace BK7001 := aQ (blk_below (g := gb7001) (o := .cells #[.int .i64 a0_0, .slice A0_1 l0_1.length c0_1] 24 (0, 0)) (pk BK7001.out) hb); clear hb hbox hg; have hnb18 := NB7001_7002.out; have hnc18 := NB7002_7001.out; have hcz19_0 := bc (v := (.int .i64 a0_0)) BK7001.out 0; have hcz19_1 := bc (v := (.slice A0_1 l0_1.length c0_1)) BK7001.out 1; have hfz19_0 := blk_frozen BK7001.out 0; have hfz19_1 := blk_frozen BK7001.out 1) | ((with_reducible refine gate_callee (f := 16) rfl ?_); refine goesL_ (some 22) rfl rfl Try.func16 (by kernel_rfl) rfl #[.agg #[.int .i64 a0_0, .slice A0_1 l0_1.length c0_1], .int .i64 1048576] rfl lm ?_; (with_reducible refine (laws_szMatroid.calls a0_0 _ _ l0_1 1048576 t7003 _ ?side1 ?side2 A7.out).mono ?_); (case side1 => exact pC (Kd.C_below HR0_1.out HB.out)); (case side2 => exact HC0_1.out); rintro e w20 ⟨rfl, hb⟩; refine ⟨_, rfl, ?_⟩; replace BK7001 := aQ (blk_below (g := gb7001) (o := .cells #[.int .i64 a0_0, .slice A0_1 l0_1.length c0_1] 24 (0, 0)) (pk BK7001.out) hb); replace BK7002 := aQ (blk_below (g := gb7002) (o := .cells #[.int .i64 a1_0, .slice A1_1 l1_1.length c1_1] 24 (0, 0)) (pk BK7002.out) hb); replace HB := aQ (below_step (pB2 HB.out GE7001.out GE7002.out) hb); (try clear hb); have hcz21_0 := bc (v := (.int .i64 a1_0)) BK7002.out 0; have hcz21_1 := bc (v := (.slice A1_1 l1_1.length c1_1)) BK7002.out 1; have hfz21_0 := blk_frozen BK7002.out 0; have hfz21_1 := blk_frozen BK7002.out 1) | ((with_reducible refine gate_callee (f := 16) rfl ?_); refine goesL_ (some 27) rfl rfl Try.func16 (by kernel_rfl) rfl #[.agg #[.int .i64 a1_0, .slice A1_1 l1_1.length c1_1], .int .i64 t7003] rfl lm ?_; (with_reducible refine (laws_szMatroid.calls a1_0 _ _ l1_1 t7003 t7004 _ ?side1 ?side2 A14.out).mono ?_); (case side1 => exact pC (Kd.C_below HR1_1.out HB.out)); (case side2 => exact HC1_1.out); rintro e w22 ⟨rfl, hb⟩; refine ⟨_, rfl, ?_⟩; replace BK7001 := aQ (blk_below (g := gb7001) (o := .cells #[.int .i64 a0_0, .slice A0_1 l0_1.length c0_1] 24 (0, 0)) (pk BK7001.out) hb); replace BK7002 := aQ (blk_below (g := gb7002) (o := .cells #[.int .i64 a1_0, .slice A1_1 l1_1.length c1_1] 24 (0, 0)) (pk BK7002.out) hb); replace HB := aQ (below_step (pB2 HB.out GE7001.out GE7002.out) hb); (try clear hb)))
    go_ret
    exact ⟨re_, pB2 HB.out GE7001.out GE7002.out⟩
   ·rw [if_neg c15] at H
    have c15b0 : decide (t7004 < 0) = false := decide_eq_false c15
    clear c15
    replace H := Option.bind_eq_some_iff.mp H
    obtain ⟨⟨t7005, t7006⟩, A230, H⟩ := H
    replace H : ((laws_toMatroid.f k a1_0 l1_1).bind fun bt7009 => ((laws_toIntS.f k l2).bind fun t7013 => ((spec_BestWeights.f k t7005 t7006 bt7009.1 bt7009.2 t7013).bind fun t7016 => ((laws_toMatroid.f k a0_0 l0_1).bind fun bt7019 => ((laws_toMatroid.f k a1_0 l1_1).bind fun bt7024 => ((laws_toIntS.f k l2).bind fun t7029 => ((impl_BestWeights.f k bt7019.1 bt7019.2 bt7024.1 bt7024.2 t7029).bind fun t7032 => ((laws_eqIntS.f k t7032 t7016).bind fun t7035 => (if t7035 = true then ((laws_toMatroid.f k a0_0 l0_1).bind fun bt7036 => ((laws_eqMatroid.f k bt7019.1 bt7019.2 bt7036.1 bt7036.2).bind fun t7040 => (if t7040 = true then ((laws_toMatroid.f k a1_0 l1_1).bind fun bt7041 => ((laws_eqMatroid.f k bt7024.1 bt7024.2 bt7041.1 bt7041.2).bind fun t7045 => (if t7045 = true then ((laws_toIntS.f k l2).bind fun t7046 => ((laws_eqIntS.f k t7029 t7046).bind fun t7049 => (if t7049 = true then ((laws_markMatroid.f k bt7019.1 bt7019.2 1).bind fun bt7050 => ((laws_markMatroid.f k bt7024.1 bt7024.2 bt7050.1).bind fun bt7052 => ((laws_markIntS.f k t7029 bt7052.1).bind fun bt7054 => (if bt7054.1 < 0 then (laws_FnExactBestWeights.j0 k l2 t7016 t7032 true a0_0 l0_1 a1_0 l1_1) else ((laws_eqIntS.f k t7032 t7016).bind fun t7056 => (laws_FnExactBestWeights.j0 k l2 t7016 t7032 (!t7056) a0_0 l0_1 a1_0 l1_1)))))) else (some false)))) else (some false)))) else (some false)))) else (some false)))))))))) = some true := H
    have A23 := aQ A230
    clear A230
    replace H := Option.bind_eq_some_iff.mp H
    obtain ⟨⟨t7009, t7010⟩, A240, H⟩ := H
    replace H : ((laws_toIntS.f k l2).bind fun t7013 => ((spec_BestWeights.f k t7005 t7006 t7009 t7010 t7013).bind fun t7016 => ((laws_toMatroid.f k a0_0 l0_1).bind fun bt7019 => ((laws_toMatroid.f k a1_0 l1_1).bind fun bt7024 => ((laws_toIntS.f k l2).bind fun t7029 => ((impl_BestWeights.f k bt7019.1 bt7019.2 bt7024.1 bt7024.2 t7029).bind fun t7032 => ((laws_eqIntS.f k t7032 t7016).bind fun t7035 => (if t7035 = true then ((laws_toMatroid.f k a0_0 l0_1).bind fun bt7036 => ((laws_eqMatroid.f k bt7019.1 bt7019.2 bt7036.1 bt7036.2).bind fun t7040 => (if t7040 = true then ((laws_toMatroid.f k a1_0 l1_1).bind fun bt7041 => ((laws_eqMatroid.f k bt7024.1 bt7024.2 bt7041.1 bt7041.2).bind fun t7045 => (if t7045 = true then ((laws_toIntS.f k l2).bind fun t7046 => ((laws_eqIntS.f k t7029 t7046).bind fun t7049 => (if t7049 = true then ((laws_markMatroid.f k bt7019.1 bt7019.2 1).bind fun bt7050 => ((laws_markMatroid.f k bt7024.1 bt7024.2 bt7050.1).bind fun bt7052 => ((laws_markIntS.f k t7029 bt7052.1).bind fun bt7054 => (if bt7054.1 < 0 then (laws_FnExactBestWeights.j0 k l2 t7016 t7032 true a0_0 l0_1 a1_0 l1_1) else ((laws_eqIntS.f k t7032 t7016).bind fun t7056 => (laws_FnExactBestWeights.j0 k l2 t7016 t7032 (!t7056) a0_0 l0_1 a1_0 l1_1)))))) else (some false)))) else (some false)))) else (some false)))) else (some false))))))))) = some true := H
    have A24 := aQ A240
    clear A240
    replace H := Option.bind_eq_some_iff.mp H
    obtain ⟨t7013, A250, H⟩ := H
    replace H : ((spec_BestWeights.f k t7005 t7006 t7009 t7010 t7013).bind fun t7016 => ((laws_toMatroid.f k a0_0 l0_1).bind fun bt7019 => ((laws_toMatroid.f k a1_0 l1_1).bind fun bt7024 => ((laws_toIntS.f k l2).bind fun t7029 => ((impl_BestWeights.f k bt7019.1 bt7019.2 bt7024.1 bt7024.2 t7029).bind fun t7032 => ((laws_eqIntS.f k t7032 t7016).bind fun t7035 => (if t7035 = true then ((laws_toMatroid.f k a0_0 l0_1).bind fun bt7036 => ((laws_eqMatroid.f k bt7019.1 bt7019.2 bt7036.1 bt7036.2).bind fun t7040 => (if t7040 = true then ((laws_toMatroid.f k a1_0 l1_1).bind fun bt7041 => ((laws_eqMatroid.f k bt7024.1 bt7024.2 bt7041.1 bt7041.2).bind fun t7045 => (if t7045 = true then ((laws_toIntS.f k l2).bind fun t7046 => ((laws_eqIntS.f k t7029 t7046).bind fun t7049 => (if t7049 = true then ((laws_markMatroid.f k bt7019.1 bt7019.2 1).bind fun bt7050 => ((laws_markMatroid.f k bt7024.1 bt7024.2 bt7050.1).bind fun bt7052 => ((laws_markIntS.f k t7029 bt7052.1).bind fun bt7054 => (if bt7054.1 < 0 then (laws_FnExactBestWeights.j0 k l2 t7016 t7032 true a0_0 l0_1 a1_0 l1_1) else ((laws_eqIntS.f k t7032 t7016).bind fun t7056 => (laws_FnExactBestWeights.j0 k l2 t7016 t7032 (!t7056) a0_0 l0_1 a1_0 l1_1)))))) else (some false)))) else (some false)))) else (some false)))) else (some false)))))))) = some true := H
    have A25 := aQ A250
    clear A250
    replace H := Option.bind_eq_some_iff.mp H
    obtain ⟨t7016, A260, H⟩ := H
    replace H : ((laws_toMatroid.f k a0_0 l0_1).bind fun bt7019 => ((laws_toMatroid.f k a1_0 l1_1).bind fun bt7024 => ((laws_toIntS.f k l2).bind fun t7029 => ((impl_BestWeights.f k bt7019.1 bt7019.2 bt7024.1 bt7024.2 t7029).bind fun t7032 => ((laws_eqIntS.f k t7032 t7016).bind fun t7035 => (if t7035 = true then ((laws_toMatroid.f k a0_0 l0_1).bind fun bt7036 => ((laws_eqMatroid.f k bt7019.1 bt7019.2 bt7036.1 bt7036.2).bind fun t7040 => (if t7040 = true then ((laws_toMatroid.f k a1_0 l1_1).bind fun bt7041 => ((laws_eqMatroid.f k bt7024.1 bt7024.2 bt7041.1 bt7041.2).bind fun t7045 => (if t7045 = true then ((laws_toIntS.f k l2).bind fun t7046 => ((laws_eqIntS.f k t7029 t7046).bind fun t7049 => (if t7049 = true then ((laws_markMatroid.f k bt7019.1 bt7019.2 1).bind fun bt7050 => ((laws_markMatroid.f k bt7024.1 bt7024.2 bt7050.1).bind fun bt7052 => ((laws_markIntS.f k t7029 bt7052.1).bind fun bt7054 => (if bt7054.1 < 0 then (laws_FnExactBestWeights.j0 k l2 t7016 t7032 true a0_0 l0_1 a1_0 l1_1) else ((laws_eqIntS.f k t7032 t7016).bind fun t7056 => (laws_FnExactBestWeights.j0 k l2 t7016 t7032 (!t7056) a0_0 l0_1 a1_0 l1_1)))))) else (some false)))) else (some false)))) else (some false)))) else (some false))))))) = some true := H
    have A26 := aQ A260
    clear A260
    replace H := Option.bind_eq_some_iff.mp H
    obtain ⟨⟨t7019, t7020⟩, A270, H⟩ := H
    replace H : ((laws_toMatroid.f k a1_0 l1_1).bind fun bt7024 => ((laws_toIntS.f k l2).bind fun t7029 => ((impl_BestWeights.f k t7019 t7020 bt7024.1 bt7024.2 t7029).bind fun t7032 => ((laws_eqIntS.f k t7032 t7016).bind fun t7035 => (if t7035 = true then ((laws_toMatroid.f k a0_0 l0_1).bind fun bt7036 => ((laws_eqMatroid.f k t7019 t7020 bt7036.1 bt7036.2).bind fun t7040 => (if t7040 = true then ((laws_toMatroid.f k a1_0 l1_1).bind fun bt7041 => ((laws_eqMatroid.f k bt7024.1 bt7024.2 bt7041.1 bt7041.2).bind fun t7045 => (if t7045 = true then ((laws_toIntS.f k l2).bind fun t7046 => ((laws_eqIntS.f k t7029 t7046).bind fun t7049 => (if t7049 = true then ((laws_markMatroid.f k t7019 t7020 1).bind fun bt7050 => ((laws_markMatroid.f k bt7024.1 bt7024.2 bt7050.1).bind fun bt7052 => ((laws_markIntS.f k t7029 bt7052.1).bind fun bt7054 => (if bt7054.1 < 0 then (laws_FnExactBestWeights.j0 k l2 t7016 t7032 true a0_0 l0_1 a1_0 l1_1) else ((laws_eqIntS.f k t7032 t7016).bind fun t7056 => (laws_FnExactBestWeights.j0 k l2 t7016 t7032 (!t7056) a0_0 l0_1 a1_0 l1_1)))))) else (some false)))) else (some false)))) else (some false)))) else (some false)))))) = some true := H
    have A27 := aQ A270
    clear A270
    replace H := Option.bind_eq_some_iff.mp H
    obtain ⟨⟨t7024, t7025⟩, A280, H⟩ := H
    replace H : ((laws_toIntS.f k l2).bind fun t7029 => ((impl_BestWeights.f k t7019 t7020 t7024 t7025 t7029).bind fun t7032 => ((laws_eqIntS.f k t7032 t7016).bind fun t7035 => (if t7035 = true then ((laws_toMatroid.f k a0_0 l0_1).bind fun bt7036 => ((laws_eqMatroid.f k t7019 t7020 bt7036.1 bt7036.2).bind fun t7040 => (if t7040 = true then ((laws_toMatroid.f k a1_0 l1_1).bind fun bt7041 => ((laws_eqMatroid.f k t7024 t7025 bt7041.1 bt7041.2).bind fun t7045 => (if t7045 = true then ((laws_toIntS.f k l2).bind fun t7046 => ((laws_eqIntS.f k t7029 t7046).bind fun t7049 => (if t7049 = true then ((laws_markMatroid.f k t7019 t7020 1).bind fun bt7050 => ((laws_markMatroid.f k t7024 t7025 bt7050.1).bind fun bt7052 => ((laws_markIntS.f k t7029 bt7052.1).bind fun bt7054 => (if bt7054.1 < 0 then (laws_FnExactBestWeights.j0 k l2 t7016 t7032 true a0_0 l0_1 a1_0 l1_1) else ((laws_eqIntS.f k t7032 t7016).bind fun t7056 => (laws_FnExactBestWeights.j0 k l2 t7016 t7032 (!t7056) a0_0 l0_1 a1_0 l1_1)))))) else (some false)))) else (some false)))) else (some false)))) else (some false))))) = some true := H
    have A28 := aQ A280
    clear A280
    replace H := Option.bind_eq_some_iff.mp H
    obtain ⟨t7029, A290, H⟩ := H
    replace H : ((impl_BestWeights.f k t7019 t7020 t7024 t7025 t7029).bind fun t7032 => ((laws_eqIntS.f k t7032 t7016).bind fun t7035 => (if t7035 = true then ((laws_toMatroid.f k a0_0 l0_1).bind fun bt7036 => ((laws_eqMatroid.f k t7019 t7020 bt7036.1 bt7036.2).bind fun t7040 => (if t7040 = true then ((laws_toMatroid.f k a1_0 l1_1).bind fun bt7041 => ((laws_eqMatroid.f k t7024 t7025 bt7041.1 bt7041.2).bind fun t7045 => (if t7045 = true then ((laws_toIntS.f k l2).bind fun t7046 => ((laws_eqIntS.f k t7029 t7046).bind fun t7049 => (if t7049 = true then ((laws_markMatroid.f k t7019 t7020 1).bind fun bt7050 => ((laws_markMatroid.f k t7024 t7025 bt7050.1).bind fun bt7052 => ((laws_markIntS.f k t7029 bt7052.1).bind fun bt7054 => (if bt7054.1 < 0 then (laws_FnExactBestWeights.j0 k l2 t7016 t7032 true a0_0 l0_1 a1_0 l1_1) else ((laws_eqIntS.f k t7032 t7016).bind fun t7056 => (laws_FnExactBestWeights.j0 k l2 t7016 t7032 (!t7056) a0_0 l0_1 a1_0 l1_1)))))) else (some false)))) else (some false)))) else (some false)))) else (some false)))) = some true := H
    have A29 := aQ A290
    clear A290
    replace H := Option.bind_eq_some_iff.mp H
    obtain ⟨t7032, A300, H⟩ := H
    replace H : ((laws_eqIntS.f k t7032 t7016).bind fun t7035 => (if t7035 = true then ((laws_toMatroid.f k a0_0 l0_1).bind fun bt7036 => ((laws_eqMatroid.f k t7019 t7020 bt7036.1 bt7036.2).bind fun t7040 => (if t7040 = true then ((laws_toMatroid.f k a1_0 l1_1).bind fun bt7041 => ((laws_eqMatroid.f k t7024 t7025 bt7041.1 bt7041.2).bind fun t7045 => (if t7045 = true then ((laws_toIntS.f k l2).bind fun t7046 => ((laws_eqIntS.f k t7029 t7046).bind fun t7049 => (if t7049 = true then ((laws_markMatroid.f k t7019 t7020 1).bind fun bt7050 => ((laws_markMatroid.f k t7024 t7025 bt7050.1).bind fun bt7052 => ((laws_markIntS.f k t7029 bt7052.1).bind fun bt7054 => (if bt7054.1 < 0 then (laws_FnExactBestWeights.j0 k l2 t7016 t7032 true a0_0 l0_1 a1_0 l1_1) else ((laws_eqIntS.f k t7032 t7016).bind fun t7056 => (laws_FnExactBestWeights.j0 k l2 t7016 t7032 (!t7056) a0_0 l0_1 a1_0 l1_1)))))) else (some false)))) else (some false)))) else (some false)))) else (some false))) = some true := H
    have A30 := aQ A300
    clear A300
    replace H := Option.bind_eq_some_iff.mp H
    obtain ⟨t7035, A310, H⟩ := H
    replace H : (if t7035 = true then ((laws_toMatroid.f k a0_0 l0_1).bind fun bt7036 => ((laws_eqMatroid.f k t7019 t7020 bt7036.1 bt7036.2).bind fun t7040 => (if t7040 = true then ((laws_toMatroid.f k a1_0 l1_1).bind fun bt7041 => ((laws_eqMatroid.f k t7024 t7025 bt7041.1 bt7041.2).bind fun t7045 => (if t7045 = true then ((laws_toIntS.f k l2).bind fun t7046 => ((laws_eqIntS.f k t7029 t7046).bind fun t7049 => (if t7049 = true then ((laws_markMatroid.f k t7019 t7020 1).bind fun bt7050 => ((laws_markMatroid.f k t7024 t7025 bt7050.1).bind fun bt7052 => ((laws_markIntS.f k t7029 bt7052.1).bind fun bt7054 => (if bt7054.1 < 0 then (laws_FnExactBestWeights.j0 k l2 t7016 t7032 true a0_0 l0_1 a1_0 l1_1) else ((laws_eqIntS.f k t7032 t7016).bind fun t7056 => (laws_FnExactBestWeights.j0 k l2 t7016 t7032 (!t7056) a0_0 l0_1 a1_0 l1_1)))))) else (some false)))) else (some false)))) else (some false)))) else (some false)) = some true := H
    have A31 := aQ A310
    clear A310
    by_cases c32 : t7035 = true
    ·subst c32
     have H1 : ((laws_toMatroid.f k a0_0 l0_1).bind fun bt7036 => ((laws_eqMatroid.f k t7019 t7020 bt7036.1 bt7036.2).bind fun t7040 => (if t7040 = true then ((laws_toMatroid.f k a1_0 l1_1).bind fun bt7041 => ((laws_eqMatroid.f k t7024 t7025 bt7041.1 bt7041.2).bind fun t7045 => (if t7045 = true then ((laws_toIntS.f k l2).bind fun t7046 => ((laws_eqIntS.f k t7029 t7046).bind fun t7049 => (if t7049 = true then ((laws_markMatroid.f k t7019 t7020 1).bind fun bt7050 => ((laws_markMatroid.f k t7024 t7025 bt7050.1).bind fun bt7052 => ((laws_markIntS.f k t7029 bt7052.1).bind fun bt7054 => (if bt7054.1 < 0 then (laws_FnExactBestWeights.j0 k l2 t7016 t7032 true a0_0 l0_1 a1_0 l1_1) else ((laws_eqIntS.f k t7032 t7016).bind fun t7056 => (laws_FnExactBestWeights.j0 k l2 t7016 t7032 (!t7056) a0_0 l0_1 a1_0 l1_1)))))) else (some false)))) else (some false)))) else (some false)))) = some true := by rw [if_pos rfl] at H; exact H
     clear H
     have H := H1
     clear H1
     replace H := Option.bind_eq_some_iff.mp H
     obtain ⟨⟨t7036, t7037⟩, A330, H⟩ := H
     replace H : ((laws_eqMatroid.f k t7019 t7020 t7036 t7037).bind fun t7040 => (if t7040 = true then ((laws_toMatroid.f k a1_0 l1_1).bind fun bt7041 => ((laws_eqMatroid.f k t7024 t7025 bt7041.1 bt7041.2).bind fun t7045 => (if t7045 = true then ((laws_toIntS.f k l2).bind fun t7046 => ((laws_eqIntS.f k t7029 t7046).bind fun t7049 => (if t7049 = true then ((laws_markMatroid.f k t7019 t7020 1).bind fun bt7050 => ((laws_markMatroid.f k t7024 t7025 bt7050.1).bind fun bt7052 => ((laws_markIntS.f k t7029 bt7052.1).bind fun bt7054 => (if bt7054.1 < 0 then (laws_FnExactBestWeights.j0 k l2 t7016 t7032 true a0_0 l0_1 a1_0 l1_1) else ((laws_eqIntS.f k t7032 t7016).bind fun t7056 => (laws_FnExactBestWeights.j0 k l2 t7016 t7032 (!t7056) a0_0 l0_1 a1_0 l1_1)))))) else (some false)))) else (some false)))) else (some false))) = some true := H
     have A33 := aQ A330
     clear A330
     replace H := Option.bind_eq_some_iff.mp H
     obtain ⟨t7040, A340, H⟩ := H
     replace H : (if t7040 = true then ((laws_toMatroid.f k a1_0 l1_1).bind fun bt7041 => ((laws_eqMatroid.f k t7024 t7025 bt7041.1 bt7041.2).bind fun t7045 => (if t7045 = true then ((laws_toIntS.f k l2).bind fun t7046 => ((laws_eqIntS.f k t7029 t7046).bind fun t7049 => (if t7049 = true then ((laws_markMatroid.f k t7019 t7020 1).bind fun bt7050 => ((laws_markMatroid.f k t7024 t7025 bt7050.1).bind fun bt7052 => ((laws_markIntS.f k t7029 bt7052.1).bind fun bt7054 => (if bt7054.1 < 0 then (laws_FnExactBestWeights.j0 k l2 t7016 t7032 true a0_0 l0_1 a1_0 l1_1) else ((laws_eqIntS.f k t7032 t7016).bind fun t7056 => (laws_FnExactBestWeights.j0 k l2 t7016 t7032 (!t7056) a0_0 l0_1 a1_0 l1_1)))))) else (some false)))) else (some false)))) else (some false)) = some true := H
     have A34 := aQ A340
     clear A340
     by_cases c35 : t7040 = true
     ·subst c35
      have H1 : ((laws_toMatroid.f k a1_0 l1_1).bind fun bt7041 => ((laws_eqMatroid.f k t7024 t7025 bt7041.1 bt7041.2).bind fun t7045 => (if t7045 = true then ((laws_toIntS.f k l2).bind fun t7046 => ((laws_eqIntS.f k t7029 t7046).bind fun t7049 => (if t7049 = true then ((laws_markMatroid.f k t7019 t7020 1).bind fun bt7050 => ((laws_markMatroid.f k t7024 t7025 bt7050.1).bind fun bt7052 => ((laws_markIntS.f k t7029 bt7052.1).bind fun bt7054 => (if bt7054.1 < 0 then (laws_FnExactBestWeights.j0 k l2 t7016 t7032 true a0_0 l0_1 a1_0 l1_1) else ((laws_eqIntS.f k t7032 t7016).bind fun t7056 => (laws_FnExactBestWeights.j0 k l2 t7016 t7032 (!t7056) a0_0 l0_1 a1_0 l1_1)))))) else (some false)))) else (some false)))) = some true := by rw [if_pos rfl] at H; exact H
      clear H
      have H := H1
      clear H1
      replace H := Option.bind_eq_some_iff.mp H
      obtain ⟨⟨t7041, t7042⟩, A360, H⟩ := H
      replace H : ((laws_eqMatroid.f k t7024 t7025 t7041 t7042).bind fun t7045 => (if t7045 = true then ((laws_toIntS.f k l2).bind fun t7046 => ((laws_eqIntS.f k t7029 t7046).bind fun t7049 => (if t7049 = true then ((laws_markMatroid.f k t7019 t7020 1).bind fun bt7050 => ((laws_markMatroid.f k t7024 t7025 bt7050.1).bind fun bt7052 => ((laws_markIntS.f k t7029 bt7052.1).bind fun bt7054 => (if bt7054.1 < 0 then (laws_FnExactBestWeights.j0 k l2 t7016 t7032 true a0_0 l0_1 a1_0 l1_1) else ((laws_eqIntS.f k t7032 t7016).bind fun t7056 => (laws_FnExactBestWeights.j0 k l2 t7016 t7032 (!t7056) a0_0 l0_1 a1_0 l1_1)))))) else (some false)))) else (some false))) = some true := H
      have A36 := aQ A360
      clear A360
      replace H := Option.bind_eq_some_iff.mp H
      obtain ⟨t7045, A370, H⟩ := H
      replace H : (if t7045 = true then ((laws_toIntS.f k l2).bind fun t7046 => ((laws_eqIntS.f k t7029 t7046).bind fun t7049 => (if t7049 = true then ((laws_markMatroid.f k t7019 t7020 1).bind fun bt7050 => ((laws_markMatroid.f k t7024 t7025 bt7050.1).bind fun bt7052 => ((laws_markIntS.f k t7029 bt7052.1).bind fun bt7054 => (if bt7054.1 < 0 then (laws_FnExactBestWeights.j0 k l2 t7016 t7032 true a0_0 l0_1 a1_0 l1_1) else ((laws_eqIntS.f k t7032 t7016).bind fun t7056 => (laws_FnExactBestWeights.j0 k l2 t7016 t7032 (!t7056) a0_0 l0_1 a1_0 l1_1)))))) else (some false)))) else (some false)) = some true := H
      have A37 := aQ A370
      clear A370
      by_cases c38 : t7045 = true
      ·subst c38
       have H1 : ((laws_toIntS.f k l2).bind fun t7046 => ((laws_eqIntS.f k t7029 t7046).bind fun t7049 => (if t7049 = true then ((laws_markMatroid.f k t7019 t7020 1).bind fun bt7050 => ((laws_markMatroid.f k t7024 t7025 bt7050.1).bind fun bt7052 => ((laws_markIntS.f k t7029 bt7052.1).bind fun bt7054 => (if bt7054.1 < 0 then (laws_FnExactBestWeights.j0 k l2 t7016 t7032 true a0_0 l0_1 a1_0 l1_1) else ((laws_eqIntS.f k t7032 t7016).bind fun t7056 => (laws_FnExactBestWeights.j0 k l2 t7016 t7032 (!t7056) a0_0 l0_1 a1_0 l1_1)))))) else (some false)))) = some true := by rw [if_pos rfl] at H; exact H
       clear H
       have H := H1
       clear H1
       replace H := Option.bind_eq_some_iff.mp H
       obtain ⟨t7046, A390, H⟩ := H
       replace H : ((laws_eqIntS.f k t7029 t7046).bind fun t7049 => (if t7049 = true then ((laws_markMatroid.f k t7019 t7020 1).bind fun bt7050 => ((laws_markMatroid.f k t7024 t7025 bt7050.1).bind fun bt7052 => ((laws_markIntS.f k t7029 bt7052.1).bind fun bt7054 => (if bt7054.1 < 0 then (laws_FnExactBestWeights.j0 k l2 t7016 t7032 true a0_0 l0_1 a1_0 l1_1) else ((laws_eqIntS.f k t7032 t7016).bind fun t7056 => (laws_FnExactBestWeights.j0 k l2 t7016 t7032 (!t7056) a0_0 l0_1 a1_0 l1_1)))))) else (some false))) = some true := H
       have A39 := aQ A390
       clear A390
       replace H := Option.bind_eq_some_iff.mp H
       obtain ⟨t7049, A400, H⟩ := H
       replace H : (if t7049 = true then ((laws_markMatroid.f k t7019 t7020 1).bind fun bt7050 => ((laws_markMatroid.f k t7024 t7025 bt7050.1).bind fun bt7052 => ((laws_markIntS.f k t7029 bt7052.1).bind fun bt7054 => (if bt7054.1 < 0 then (laws_FnExactBestWeights.j0 k l2 t7016 t7032 true a0_0 l0_1 a1_0 l1_1) else ((laws_eqIntS.f k t7032 t7016).bind fun t7056 => (laws_FnExactBestWeights.j0 k l2 t7016 t7032 (!t7056) a0_0 l0_1 a1_0 l1_1)))))) else (some false)) = some true := H
       have A40 := aQ A400
       clear A400
       by_cases c41 : t7049 = true
       ·subst c41
        have H1 : ((laws_markMatroid.f k t7019 t7020 1).bind fun bt7050 => ((laws_markMatroid.f k t7024 t7025 bt7050.1).bind fun bt7052 => ((laws_markIntS.f k t7029 bt7052.1).bind fun bt7054 => (if bt7054.1 < 0 then (laws_FnExactBestWeights.j0 k l2 t7016 t7032 true a0_0 l0_1 a1_0 l1_1) else ((laws_eqIntS.f k t7032 t7016).bind fun t7056 => (laws_FnExactBestWeights.j0 k l2 t7016 t7032 (!t7056) a0_0 l0_1 a1_0 l1_1)))))) = some true := by rw [if_pos rfl] at H; exact H
        clear H
        have H := H1
        clear H1
        replace H := Option.bind_eq_some_iff.mp H
        obtain ⟨⟨t7050, t7051⟩, A420, H⟩ := H
        replace H : ((laws_markMatroid.f k t7024 t7025 t7050).bind fun bt7052 => ((laws_markIntS.f k t7029 bt7052.1).bind fun bt7054 => (if bt7054.1 < 0 then (laws_FnExactBestWeights.j0 k l2 t7016 t7032 true a0_0 l0_1 a1_0 l1_1) else ((laws_eqIntS.f k t7032 t7016).bind fun t7056 => (laws_FnExactBestWeights.j0 k l2 t7016 t7032 (!t7056) a0_0 l0_1 a1_0 l1_1))))) = some true := H
        have A42 := aQ A420
        clear A420
        replace H := Option.bind_eq_some_iff.mp H
        obtain ⟨⟨t7052, t7053⟩, A430, H⟩ := H
        replace H : ((laws_markIntS.f k t7029 t7052).bind fun bt7054 => (if bt7054.1 < 0 then (laws_FnExactBestWeights.j0 k l2 t7016 t7032 true a0_0 l0_1 a1_0 l1_1) else ((laws_eqIntS.f k t7032 t7016).bind fun t7056 => (laws_FnExactBestWeights.j0 k l2 t7016 t7032 (!t7056) a0_0 l0_1 a1_0 l1_1)))) = some true := H
        have A43 := aQ A430
        clear A430
        replace H := Option.bind_eq_some_iff.mp H
        obtain ⟨⟨t7054, t7055⟩, A440, H⟩ := H
        replace H : (if t7054 < 0 then (laws_FnExactBestWeights.j0 k l2 t7016 t7032 true a0_0 l0_1 a1_0 l1_1) else ((laws_eqIntS.f k t7032 t7016).bind fun t7056 => (laws_FnExactBestWeights.j0 k l2 t7016 t7032 (!t7056) a0_0 l0_1 a1_0 l1_1))) = some true := H
        have A44 := aQ A440
        clear A440
        have HC45 := aQ H
        clear H
        go_enter Try.func6, Try.ntmps6
        try go_wp2_with (first | ((with_reducible refine gate_dst (N := 3) rfl ?_); refine box_event ?hg (N := 3) ?hd (cs := #[.int .i64 a0_0, .slice A0_1 l0_1.length c0_1]) (t := 24) ?hr ?_; (case hd => rfl); (case hg => rfl); (case hr => first | (go_simp; done) | (go_simp; rfl)); intro gb7001 hg w46 hbox hb; have BK7001 := aQ (hbox); have GW7001 := aQ ((by rw [hg]; exact (below_size (pB HB.out)) : w.heap.size ≤ gb7001)); have GE7001 := aQ ((by rw [hg]; exact (below_size (pB HB.out)) : w.heap.size ≤ gb7001)); replace HB := aQ (below_step (pB HB.out) hb); clear hb hbox hg) | ((with_reducible refine gate_dst (N := 4) rfl ?_); refine box_event ?hg (N := 4) ?hd (cs := #[.int .i64 a1_0, .slice A1_1 l1_1.length c1_1]) (t := 24) ?hr ?_; (case hd => rfl); (case hg => rfl); (case hr => first | (go_simp; done) | (go_simp; rfl)); intro gb7002 hg w47 hbox hb; have BK7002 := aQ (hbox); have GW7002 := aQ ((by rw [hg]; exact (below_size (pB1 HB.out GE7001.out)) : w.heap.size ≤ gb7002)); have GE7002 := aQ ((by rw [hg]; exact (below_size (pB1 HB.out GE7001.out)) : w.heap.size ≤ gb7002)); replace HB := aQ (below_step (pB1 HB.out GE7001.out) hb); have NB7001_7002 := aQ ((by rw [hg]; exact Nat.ne_of_lt (blk_lt (g := gb7001) (o := .cells #[.int .i64 a0_0, .slice A0_1 l0_1.length c0_1] 24 (0, 0)) (pk BK7001.out)) : gb7001 ≠ gb7002)); have NB7002_7001 := aQ ((by rw [hg]; exact Nat.ne_of_gt (blk_lt (g := gb7001) (o := .cells #[.int .i64 a0_0, .slice A0_1 l0_1.length c0_1] 24 (0, 0)) (pk BK7001.out)) : gb7002 ≠ gb7001)); replace BK7001 := aQ (blk_below (g := gb7001) (o := .cells #[.int .i64 a0_0, .slice A0_1 l0_1.length c0_1] 24 (0, 0)) (pk BK7001.out) hb); clear hb hbox hg; have hnb48 := NB7001_7002.out; have hnc48 := NB7002_7001.out; have hcz49_0 := bc (v := (.int .i64 a0_0)) BK7001.out 0; have hcz49_1 := bc (v := (.slice A0_1 l0_1.length c0_1)) BK7001.out 1; have hfz49_0 := blk_frozen BK7001.out 0; have hfz49_1 := blk_frozen BK7001.out 1) | ((with_reducible refine gate_callee (f := 16) rfl ?_); refine goesL_ (some 22) rfl rfl Try.func16 (by kernel_rfl) rfl #[.agg #[.int .i64 a0_0, .slice A0_1 l0_1.length c0_1], .int .i64 1048576] rfl lm ?_; (with_reducible refine (laws_szMatroid.calls a0_0 _ _ l0_1 1048576 t7003 _ ?side1 ?side2 A7.out).mono ?_); (case side1 => exact pC (Kd.C_below HR0_1.out HB.out)); (case side2 => exact HC0_1.out); rintro e w50 ⟨rfl, hb⟩; refine ⟨_, rfl, ?_⟩; replace BK7001 := aQ (blk_below (g := gb7001) (o := .cells #[.int .i64 a0_0, .slice A0_1 l0_1.length c0_1] 24 (0, 0)) (pk BK7001.out) hb); replace BK7002 := aQ (blk_below (g := gb7002) (o := .cells #[.int .i64 a1_0, .slice A1_1 l1_1.length c1_1] 24 (0, 0)) (pk BK7002.out) hb); replace HB := aQ (below_step (pB2 HB.out GE7001.out GE7002.out) hb); (try clear hb); have hcz51_0 := bc (v := (.int .i64 a1_0)) BK7002.out 0; have hcz51_1 := bc (v := (.slice A1_1 l1_1.length c1_1)) BK7002.out 1; have hfz51_0 := blk_frozen BK7002.out 0; have hfz51_1 := blk_frozen BK7002.out 1) | ((with_reducible refine gate_callee (f := 16) rfl ?_); refine goesL_ (some 27) rfl rfl Try.func16 (by kernel_rfl) rfl #[.agg #[.int .i64 a1_0, .slice A1_1 l1_1.length c1_1], .int .i64 t7003] rfl lm ?_; (with_reducible refine (laws_szMatroid.calls a1_0 _ _ l1_1 t7003 t7004 _ ?side1 ?side2 A14.out).mono ?_); (case side1 => exact pC (Kd.C_below HR1_1.out HB.out)); (case side2 => exact HC1_1.out); rintro e w52 ⟨rfl, hb⟩; refine ⟨_, rfl, ?_⟩; replace BK7001 := aQ (blk_below (g := gb7001) (o := .cells #[.int .i64 a0_0, .slice A0_1 l0_1.length c0_1] 24 (0, 0)) (pk BK7001.out) hb); replace BK7002 := aQ (blk_below (g := gb7002) (o := .cells #[.int .i64 a1_0, .slice A1_1 l1_1.length c1_1] 24 (0, 0)) (pk BK7002.out) hb); replace HB := aQ (below_step (pB2 HB.out GE7001.out GE7002.out) hb); (try clear hb)))
        have n0_ := aQ (blk_drew BK7001.out)
        have n1_ := aQ (blk_drew BK7002.out)
        have n2_ := aQ (below_drew1 HB.out)
        clear BK7001
        clear BK7002
        clear HB
        have BK7001 := n0_
        have BK7002 := n1_
        have HB := n2_
        clear n0_ n1_ n2_
        refine start_ (n := 8) (S := fun w' => w'.cell? ⟨gb7001, 0, none⟩ = some (.int .i64 a0_0) ∧ w'.cell? ⟨gb7001, 1, none⟩ = some (.slice A0_1 l0_1.length c0_1) ∧ w'.cell? ⟨gb7002, 0, none⟩ = some (.int .i64 a1_0) ∧ w'.cell? ⟨gb7002, 1, none⟩ = some (.slice A1_1 l1_1.length c1_1)) (ds := []) #[false, false, false, false, false, false, false, false] (by kernel_rfl) rfl rfl ⟨(blk_cell BK7001.out 0).trans rfl, (blk_cell BK7001.out 1).trans rfl, (blk_cell BK7002.out 0).trans rfl, (blk_cell BK7002.out 1).trans rfl⟩ (fun hHeld => ?_); refine with_tabW laws_FnExactBestWeights.tab10 laws_FnExactBestWeights.bits10 (fun HT_ HW_ => ?_)
        generalize w52.drew = w53 at BK7001 BK7002 HB hHeld ⊢
        refine puA (i := 4) (N := some 34) HT_ (h := ?_)
        refine taA4 (i := 0) (N := some 30) HT_ HW_ hHeld (h := ?_)
        refine taA4 (i := 2) (N := some 32) HT_ HW_ hHeld (h := ?_)
        refine onA (i := 1) (N := some 31) HT_ (h := fun K hK => ?_)
        refine goes_ Try.func18 (by kernel_rfl) rfl #[.agg #[.int .i64 a0_0, .slice A0_1 l0_1.length c0_1]] (by rfl) rfl rfl lm ?_
        with_reducible refine (laws_toMatroid.calls k a0_0 _ _ l0_1 t7005 t7006 _ ?side1 ?side2 A23.out).mono ?_
        (case side1 => exact pC (Kd.C_below HR0_1.out HB.out))
        (case side2 => exact HC0_1.out)
        rintro e w54 ⟨v7007, rfl, ho0, hb⟩
        refine ⟨_, rfl, ?_⟩
        have n0_ := aQ (Kd.R_lower ho0 (below_size (pB2 HB.out GE7001.out GE7002.out)))
        have n1_ := aQ (blk_below (g := gb7001) (o := .cells #[.int .i64 a0_0, .slice A0_1 l0_1.length c0_1] 24 (0, 0)) (pk BK7001.out) hb)
        have n2_ := aQ (blk_below (g := gb7002) (o := .cells #[.int .i64 a1_0, .slice A1_1 l1_1.length c1_1] 24 (0, 0)) (pk BK7002.out) hb)
        have n3_ := aQ (below_step (pB2 HB.out GE7001.out GE7002.out) hb)
        clear BK7001
        clear BK7002
        clear HB
        have HO7008 := n0_
        have BK7001 := n1_
        have BK7002 := n2_
        have HB := n3_
        clear n0_ n1_ n2_ n3_
        (try clear hb)
        (try clear hb2)
        (try clear hk)
        (try clear hi)
        (try clear ho0)
        refine hK.out _ _ ⟨(blk_cell BK7001.out 0).trans rfl, (blk_cell BK7001.out 1).trans rfl, (blk_cell BK7002.out 0).trans rfl, (blk_cell BK7002.out 1).trans rfl⟩ (fun hHeld => ?_)
        clear hK K
        refine noA (h := ?_)
        refine onA (i := 3) (N := some 33) HT_ (h := fun K hK => ?_)
        refine goes_ Try.func18 (by kernel_rfl) rfl #[.agg #[.int .i64 a1_0, .slice A1_1 l1_1.length c1_1]] (by rfl) rfl rfl lm ?_
        with_reducible refine (laws_toMatroid.calls k a1_0 _ _ l1_1 t7009 t7010 _ ?side1 ?side2 A24.out).mono ?_
        (case side1 => exact pC (Kd.C_below HR1_1.out HB.out))
        (case side2 => exact HC1_1.out)
        rintro e w55 ⟨v7011, rfl, ho0, hb⟩
        refine ⟨_, rfl, ?_⟩
        have n0_ := aQ (Kd.R_elder' (pR HO7008.out) (Kd.R_base ho0) hb)
        have n1_ := aQ (Kd.R_lower (Kd.R_new' ho0 (Kd.R_lt (pR HO7008.out))) (below_size (pB2 HB.out GE7001.out GE7002.out)))
        have n2_ := aQ (blk_below (g := gb7001) (o := .cells #[.int .i64 a0_0, .slice A0_1 l0_1.length c0_1] 24 (0, 0)) (pk BK7001.out) hb)
        have n3_ := aQ (blk_below (g := gb7002) (o := .cells #[.int .i64 a1_0, .slice A1_1 l1_1.length c1_1] 24 (0, 0)) (pk BK7002.out) hb)
        have n4_ := aQ (below_step (pB2 HB.out GE7001.out GE7002.out) hb)
        clear HO7008
        clear BK7001
        clear BK7002
        clear HB
        have HO7008 := n0_
        have HO7012 := n1_
        have BK7001 := n2_
        have BK7002 := n3_
        have HB := n4_
        clear n0_ n1_ n2_ n3_ n4_
        (try clear hb)
        (try clear hb2)
        (try clear hk)
        (try clear hi)
        (try clear ho0)
        refine hK.out _ _ ⟨(blk_cell BK7001.out 0).trans rfl, (blk_cell BK7001.out 1).trans rfl, (blk_cell BK7002.out 0).trans rfl, (blk_cell BK7002.out 1).trans rfl⟩ (fun hHeld => ?_)
        clear hK K
        refine noA (h := ?_)
        refine onA (i := 5) (N := some 35) HT_ (h := fun K hK => ?_)
        refine goes_ Try.func31 (by kernel_rfl) rfl #[.slice A2 l2.length c2] (by rfl) rfl rfl lm ?_
        with_reducible refine (laws_toIntS.calls k _ _ l2 t7013 _ ?side1 ?side2 A25.out).mono ?_
        (case side1 => exact pC (Kd.C_below HR2.out HB.out))
        (case side2 => exact HC2.out)
        rintro e w56 ⟨v7014, rfl, ho0, hb⟩
        refine ⟨_, rfl, ?_⟩
        have n0_ := aQ (Kd.R_elder' (pR HO7008.out) (Kd.R_base ho0) hb)
        have n1_ := aQ (Kd.R_elder' (pR HO7012.out) (Kd.R_base ho0) hb)
        have n2_ := aQ (Kd.R_lower (Kd.R_new' (Kd.R_new' ho0 (Kd.R_lt (pR HO7008.out))) (Kd.R_lt (pR HO7012.out))) (below_size (pB2 HB.out GE7001.out GE7002.out)))
        have n3_ := aQ (blk_below (g := gb7001) (o := .cells #[.int .i64 a0_0, .slice A0_1 l0_1.length c0_1] 24 (0, 0)) (pk BK7001.out) hb)
        have n4_ := aQ (blk_below (g := gb7002) (o := .cells #[.int .i64 a1_0, .slice A1_1 l1_1.length c1_1] 24 (0, 0)) (pk BK7002.out) hb)
        have n5_ := aQ (below_step (pB2 HB.out GE7001.out GE7002.out) hb)
        clear HO7008
        clear HO7012
        clear BK7001
        clear BK7002
        clear HB
        have HO7008 := n0_
        have HO7012 := n1_
        have HO7015 := n2_
        have BK7001 := n3_
        have BK7002 := n4_
        have HB := n5_
        clear n0_ n1_ n2_ n3_ n4_ n5_
        (try clear hb)
        (try clear hb2)
        (try clear hk)
        (try clear hi)
        (try clear ho0)
        obtain ⟨Ao57, co57, eo57⟩ := Kd.R_slice HO7008.out
        (first | subst eo57 | (injection eo57 with f1_ f2_ f3_; have f4_ := f1_.symm; have f5_ := f3_.symm; clear f1_ f2_ f3_; subst f4_; subst f5_))
        obtain ⟨Ao58, co58, eo58⟩ := Kd.R_slice HO7012.out
        (first | subst eo58 | (injection eo58 with f1_ f2_ f3_; have f4_ := f1_.symm; have f5_ := f3_.symm; clear f1_ f2_ f3_; subst f4_; subst f5_))
        obtain ⟨Ao59, co59, eo59⟩ := Kd.R_slice HO7015.out
        (first | subst eo59 | (injection eo59 with f1_ f2_ f3_; have f4_ := f1_.symm; have f5_ := f3_.symm; clear f1_ f2_ f3_; subst f4_; subst f5_))
        refine hK.out _ _ ⟨(blk_cell BK7001.out 0).trans rfl, (blk_cell BK7001.out 1).trans rfl, (blk_cell BK7002.out 0).trans rfl, (blk_cell BK7002.out 1).trans rfl⟩ (fun hHeld => ?_)
        clear hK K
        refine noA (h := ?_)
        refine onA (i := 6) (N := some 36) HT_ (h := fun K hK => ?_)
        refine goes_ Try.func30 (by kernel_rfl) rfl #[.agg #[.int .i64 t7005, .slice Ao57 t7006.length co57], .agg #[.int .i64 t7009, .slice Ao58 t7010.length co58], .slice Ao59 t7013.length co59] (by rfl) rfl rfl lm ?_
        with_reducible refine (spec_BestWeights.calls k t7005 _ _ t7006 t7009 _ _ t7010 _ _ t7013 t7016 _ ?side1 ?side2 ?side3 ?side4 ?side5 ?side6 A26.out).mono ?_
        (case side1 => repeat (first | exact (Kd.R_reads' HO7008.out).2.2 | (with_reducible refine Kd.C_alloc ?_ _) | (with_reducible refine Kd.C_drewN ?_ _) | (with_reducible refine Kd.C_drew ?_)))
        (case side2 => exact (Kd.R_reads' HO7008.out).2.1)
        (case side3 => repeat (first | exact (Kd.R_reads' HO7012.out).2.2 | (with_reducible refine Kd.C_alloc ?_ _) | (with_reducible refine Kd.C_drewN ?_ _) | (with_reducible refine Kd.C_drew ?_)))
        (case side4 => exact (Kd.R_reads' HO7012.out).2.1)
        (case side5 => repeat (first | exact (Kd.R_reads' HO7015.out).2.2 | (with_reducible refine Kd.C_alloc ?_ _) | (with_reducible refine Kd.C_drewN ?_ _) | (with_reducible refine Kd.C_drew ?_)))
        (case side6 => exact (Kd.R_reads' HO7015.out).2.1)
        rintro e w60 ⟨v7017, rfl, ho0, hb⟩
        refine ⟨_, rfl, ?_⟩
        have n0_ := aQ (Kd.R_elder' (pR HO7008.out) (Kd.R_base ho0) hb)
        have n1_ := aQ (Kd.R_elder' (pR HO7012.out) (Kd.R_base ho0) hb)
        have n2_ := aQ (Kd.R_elder' (pR HO7015.out) (Kd.R_base ho0) hb)
        have n3_ := aQ (Kd.R_lower (Kd.R_new' (Kd.R_new' (Kd.R_new' ho0 (Kd.R_lt (pR HO7008.out))) (Kd.R_lt (pR HO7012.out))) (Kd.R_lt (pR HO7015.out))) (below_size (pB2 HB.out GE7001.out GE7002.out)))
        have n4_ := aQ (blk_below (g := gb7001) (o := .cells #[.int .i64 a0_0, .slice A0_1 l0_1.length c0_1] 24 (0, 0)) (pk BK7001.out) hb)
        have n5_ := aQ (blk_below (g := gb7002) (o := .cells #[.int .i64 a1_0, .slice A1_1 l1_1.length c1_1] 24 (0, 0)) (pk BK7002.out) hb)
        have n6_ := aQ (below_step (pB2 HB.out GE7001.out GE7002.out) hb)
        clear HO7008
        clear HO7012
        clear HO7015
        clear BK7001
        clear BK7002
        clear HB
        have HO7008 := n0_
        have HO7012 := n1_
        have HO7015 := n2_
        have HO7018 := n3_
        have BK7001 := n4_
        have BK7002 := n5_
        have HB := n6_
        clear n0_ n1_ n2_ n3_ n4_ n5_ n6_
        (try clear hb)
        (try clear hb2)
        (try clear hk)
        (try clear hi)
        (try clear ho0)
        refine hK.out _ _ ⟨(blk_cell BK7001.out 0).trans rfl, (blk_cell BK7001.out 1).trans rfl, (blk_cell BK7002.out 0).trans rfl, (blk_cell BK7002.out 1).trans rfl⟩ (fun hHeld => ?_)
        clear hK K
        refine noA (h := ?_)
        refine puA (i := 7) (N := some 8) HT_ (h := ?_)
        refine done_ (done_of HT_.out (by kernel_rfl)) ?_
        have hcz61_0 := bc (v := (.int .i64 a0_0)) BK7001.out 0
        have hcz61_1 := bc (v := (.slice A0_1 l0_1.length c0_1)) BK7001.out 1
        have hfz61_0 := blk_frozen BK7001.out 0
        have hfz61_1 := blk_frozen BK7001.out 1
        try go_wp2_with (first | ((with_reducible refine gate_callee (f := 18) rfl ?_); refine goesL_ (some 38) rfl rfl Try.func18 (by kernel_rfl) rfl #[.agg #[.int .i64 a0_0, .slice A0_1 l0_1.length c0_1]] rfl lm ?_; (with_reducible refine (laws_toMatroid.calls k a0_0 _ _ l0_1 t7019 t7020 _ ?side1 ?side2 A27.out).mono ?_); (case side1 => exact pC (Kd.C_below HR0_1.out HB.out)); (case side2 => exact HC0_1.out); rintro e w62 ⟨v7021, rfl, ho0, hb⟩; refine ⟨_, rfl, ?_⟩; have HO7022 := aQ (Kd.R_lower (Kd.R_new' (Kd.R_new' (Kd.R_new' (Kd.R_new' ho0 (Kd.R_lt (pR HO7008.out))) (Kd.R_lt (pR HO7012.out))) (Kd.R_lt (pR HO7015.out))) (Kd.R_lt (pR HO7018.out))) (below_size (pB2 HB.out GE7001.out GE7002.out))); replace HO7008 := aQ (Kd.R_elder' (pR HO7008.out) (Kd.R_base ho0) hb); replace HO7012 := aQ (Kd.R_elder' (pR HO7012.out) (Kd.R_base ho0) hb); replace HO7015 := aQ (Kd.R_elder' (pR HO7015.out) (Kd.R_base ho0) hb); replace HO7018 := aQ (Kd.R_elder' (pR HO7018.out) (Kd.R_base ho0) hb); replace BK7001 := aQ (blk_below (g := gb7001) (o := .cells #[.int .i64 a0_0, .slice A0_1 l0_1.length c0_1] 24 (0, 0)) (pk BK7001.out) hb); replace BK7002 := aQ (blk_below (g := gb7002) (o := .cells #[.int .i64 a1_0, .slice A1_1 l1_1.length c1_1] 24 (0, 0)) (pk BK7002.out) hb); replace HB := aQ (below_step (pB2 HB.out GE7001.out GE7002.out) hb); (try clear hb); (try clear ho0)) | ((with_reducible refine gate_dst (N := 9) rfl ?_); refine box_event ?hg (N := 9) ?hd (cs := #[.int .i64 0, .slice none 0 0]) (t := 26) ?hr ?_; (case hd => rfl); (case hg => rfl); (case hr => first | (go_simp; done) | (go_simp; rfl)); intro gb7023 hg w63 hbox hb; replace HO7008 := aQ (Kd.R_below (pR HO7008.out) hb); replace HO7012 := aQ (Kd.R_below (pR HO7012.out) hb); replace HO7015 := aQ (Kd.R_below (pR HO7015.out) hb); replace HO7018 := aQ (Kd.R_below (pR HO7018.out) hb); replace HO7022 := aQ (Kd.R_below (pR HO7022.out) hb); have BK7023 := aQ (hbox); have GW7023 := aQ ((by rw [hg]; exact (below_size (pB2 HB.out GE7001.out GE7002.out)) : w.heap.size ≤ gb7023)); have GE7023 := aQ ((by rw [hg]; exact (below_size (pB2 HB.out GE7001.out GE7002.out)) : w.heap.size ≤ gb7023)); replace HB := aQ (below_step (pB2 HB.out GE7001.out GE7002.out) hb); have NB7001_7023 := aQ ((by rw [hg]; exact Nat.ne_of_lt (blk_lt (g := gb7001) (o := .cells #[.int .i64 a0_0, .slice A0_1 l0_1.length c0_1] 24 (0, 0)) (pk BK7001.out)) : gb7001 ≠ gb7023)); have NB7023_7001 := aQ ((by rw [hg]; exact Nat.ne_of_gt (blk_lt (g := gb7001) (o := .cells #[.int .i64 a0_0, .slice A0_1 l0_1.length c0_1] 24 (0, 0)) (pk BK7001.out)) : gb7023 ≠ gb7001)); replace BK7001 := aQ (blk_below (g := gb7001) (o := .cells #[.int .i64 a0_0, .slice A0_1 l0_1.length c0_1] 24 (0, 0)) (pk BK7001.out) hb); have NB7002_7023 := aQ ((by rw [hg]; exact Nat.ne_of_lt (blk_lt (g := gb7002) (o := .cells #[.int .i64 a1_0, .slice A1_1 l1_1.length c1_1] 24 (0, 0)) (pk BK7002.out)) : gb7002 ≠ gb7023)); have NB7023_7002 := aQ ((by rw [hg]; exact Nat.ne_of_gt (blk_lt (g := gb7002) (o := .cells #[.int .i64 a1_0, .slice A1_1 l1_1.length c1_1] 24 (0, 0)) (pk BK7002.out)) : gb7023 ≠ gb7002)); replace BK7002 := aQ (blk_below (g := gb7002) (o := .cells #[.int .i64 a1_0, .slice A1_1 l1_1.length c1_1] 24 (0, 0)) (pk BK7002.out) hb); clear hb hbox hg; have hnb64 := NB7023_7001.out; have hnc64 := NB7001_7023.out; have hnb65 := NB7023_7002.out; have hnc65 := NB7002_7023.out; have hcz66_0 := bc (v := (.int .i64 0)) BK7023.out 0; have hcz66_1 := bc (v := (.slice none 0 0)) BK7023.out 1; have hfz66_0 := blk_frozen BK7023.out 0; have hfz66_1 := blk_frozen BK7023.out 1; obtain ⟨Ao67, co67, eo67⟩ := Kd.R_slice HO7022.out; subst eo67; have hcz68_0 := bc (v := (.int .i64 a1_0)) BK7002.out 0; have hcz68_1 := bc (v := (.slice A1_1 l1_1.length c1_1)) BK7002.out 1; have hfz68_0 := blk_frozen BK7002.out 0; have hfz68_1 := blk_frozen BK7002.out 1) | ((with_reducible refine gate_callee (f := 18) rfl ?_); refine goesL_ (some 40) rfl rfl Try.func18 (by kernel_rfl) rfl #[.agg #[.int .i64 a1_0, .slice A1_1 l1_1.length c1_1]] rfl lm ?_; (with_reducible refine (laws_toMatroid.calls k a1_0 _ _ l1_1 t7024 t7025 _ ?side1 ?side2 A28.out).mono ?_); (case side1 => exact Kd.C_below HR1_1.out (pB3 HB.out GE7001.out GE7002.out GE7023.out)); (case side2 => exact HC1_1.out); rintro e w69 ⟨v7026, rfl, ho0, hb⟩; refine ⟨_, rfl, ?_⟩; have HO7027 := aQ (Kd.R_lower (Kd.R_new' (Kd.R_new' (Kd.R_new' (Kd.R_new' (Kd.R_new' ho0 (Kd.R_lt (by (with_reducible repeat (first | apply Kd.R_alloc | apply Kd.R_drewN | apply Kd.R_drew)); exact (Kd.R_mono (Kd.R_far (p := ⟨gb7023, 1, none⟩) (Kd.R_far (p := ⟨gb7023, 0, none⟩) (Kd.R_types HO7008.out BK7023.out (by decide)) (fun _ hk => hk.2) (.int .i64 t7019)) (fun _ hk => hk.2) (.slice Ao67 t7020.length co67)) (fun _ h_ => h_.1))))) (Kd.R_lt (by (with_reducible repeat (first | apply Kd.R_alloc | apply Kd.R_drewN | apply Kd.R_drew)); exact (Kd.R_mono (Kd.R_far (p := ⟨gb7023, 1, none⟩) (Kd.R_far (p := ⟨gb7023, 0, none⟩) (Kd.R_types HO7012.out BK7023.out (by decide)) (fun _ hk => hk.2) (.int .i64 t7019)) (fun _ hk => hk.2) (.slice Ao67 t7020.length co67)) (fun _ h_ => h_.1))))) (Kd.R_lt (by (with_reducible repeat (first | apply Kd.R_alloc | apply Kd.R_drewN | apply Kd.R_drew)); exact (Kd.R_mono (Kd.R_far (p := ⟨gb7023, 1, none⟩) (Kd.R_far (p := ⟨gb7023, 0, none⟩) (Kd.R_types HO7015.out BK7023.out (by decide)) (fun _ hk => hk.2) (.int .i64 t7019)) (fun _ hk => hk.2) (.slice Ao67 t7020.length co67)) (fun _ h_ => h_.1))))) (Kd.R_lt (by (with_reducible repeat (first | apply Kd.R_alloc | apply Kd.R_drewN | apply Kd.R_drew)); exact (Kd.R_mono (Kd.R_far (p := ⟨gb7023, 1, none⟩) (Kd.R_far (p := ⟨gb7023, 0, none⟩) (Kd.R_types HO7018.out BK7023.out (by decide)) (fun _ hk => hk.2) (.int .i64 t7019)) (fun _ hk => hk.2) (.slice Ao67 t7020.length co67)) (fun _ h_ => h_.1))))) (Kd.R_lt (by (with_reducible repeat (first | apply Kd.R_alloc | apply Kd.R_drewN | apply Kd.R_drew)); exact (Kd.R_mono (Kd.R_far (p := ⟨gb7023, 1, none⟩) (Kd.R_far (p := ⟨gb7023, 0, none⟩) (Kd.R_types HO7022.out BK7023.out (by decide)) (fun _ hk => hk.2) (.int .i64 t7019)) (fun _ hk => hk.2) (.slice Ao67 t7020.length co67)) (fun _ h_ => h_.1))))) (below_size (pB3 HB.out GE7001.out GE7002.out GE7023.out))); replace HO7008 := aQ (Kd.R_elder' (by (with_reducible repeat (first | apply Kd.R_alloc | apply Kd.R_drewN | apply Kd.R_drew)); exact (Kd.R_mono (Kd.R_far (p := ⟨gb7023, 1, none⟩) (Kd.R_far (p := ⟨gb7023, 0, none⟩) (Kd.R_types HO7008.out BK7023.out (by decide)) (fun _ hk => hk.2) (.int .i64 t7019)) (fun _ hk => hk.2) (.slice Ao67 t7020.length co67)) (fun _ h_ => h_.1))) (Kd.R_base ho0) hb); replace HO7012 := aQ (Kd.R_elder' (by (with_reducible repeat (first | apply Kd.R_alloc | apply Kd.R_drewN | apply Kd.R_drew)); exact (Kd.R_mono (Kd.R_far (p := ⟨gb7023, 1, none⟩) (Kd.R_far (p := ⟨gb7023, 0, none⟩) (Kd.R_types HO7012.out BK7023.out (by decide)) (fun _ hk => hk.2) (.int .i64 t7019)) (fun _ hk => hk.2) (.slice Ao67 t7020.length co67)) (fun _ h_ => h_.1))) (Kd.R_base ho0) hb); replace HO7015 := aQ (Kd.R_elder' (by (with_reducible repeat (first | apply Kd.R_alloc | apply Kd.R_drewN | apply Kd.R_drew)); exact (Kd.R_mono (Kd.R_far (p := ⟨gb7023, 1, none⟩) (Kd.R_far (p := ⟨gb7023, 0, none⟩) (Kd.R_types HO7015.out BK7023.out (by decide)) (fun _ hk => hk.2) (.int .i64 t7019)) (fun _ hk => hk.2) (.slice Ao67 t7020.length co67)) (fun _ h_ => h_.1))) (Kd.R_base ho0) hb); replace HO7018 := aQ (Kd.R_elder' (by (with_reducible repeat (first | apply Kd.R_alloc | apply Kd.R_drewN | apply Kd.R_drew)); exact (Kd.R_mono (Kd.R_far (p := ⟨gb7023, 1, none⟩) (Kd.R_far (p := ⟨gb7023, 0, none⟩) (Kd.R_types HO7018.out BK7023.out (by decide)) (fun _ hk => hk.2) (.int .i64 t7019)) (fun _ hk => hk.2) (.slice Ao67 t7020.length co67)) (fun _ h_ => h_.1))) (Kd.R_base ho0) hb); replace HO7022 := aQ (Kd.R_elder' (by (with_reducible repeat (first | apply Kd.R_alloc | apply Kd.R_drewN | apply Kd.R_drew)); exact (Kd.R_mono (Kd.R_far (p := ⟨gb7023, 1, none⟩) (Kd.R_far (p := ⟨gb7023, 0, none⟩) (Kd.R_types HO7022.out BK7023.out (by decide)) (fun _ hk => hk.2) (.int .i64 t7019)) (fun _ hk => hk.2) (.slice Ao67 t7020.length co67)) (fun _ h_ => h_.1))) (Kd.R_base ho0) hb); replace BK7001 := aQ (blk_below (g := gb7001) (o := .cells #[.int .i64 a0_0, .slice A0_1 l0_1.length c0_1] 24 (0, 0)) (by (with_reducible repeat (first | refine blk_drewN ?_ _ | refine blk_drew ?_ | refine blk_alloc ?_ _)); refine blk_far ?_ NB7001_7023.out _; (with_reducible repeat (first | refine blk_drewN ?_ _ | refine blk_drew ?_ | refine blk_alloc ?_ _)); refine blk_far ?_ NB7001_7023.out _; (with_reducible repeat (first | refine blk_drewN ?_ _ | refine blk_drew ?_ | refine blk_alloc ?_ _)); exact BK7001.out) hb); replace BK7002 := aQ (blk_below (g := gb7002) (o := .cells #[.int .i64 a1_0, .slice A1_1 l1_1.length c1_1] 24 (0, 0)) (by (with_reducible repeat (first | refine blk_drewN ?_ _ | refine blk_drew ?_ | refine blk_alloc ?_ _)); refine blk_far ?_ NB7002_7023.out _; (with_reducible repeat (first | refine blk_drewN ?_ _ | refine blk_drew ?_ | refine blk_alloc ?_ _)); refine blk_far ?_ NB7002_7023.out _; (with_reducible repeat (first | refine blk_drewN ?_ _ | refine blk_drew ?_ | refine blk_alloc ?_ _)); exact BK7002.out) hb); replace BK7023 := aQ (blk_below (g := gb7023) (o := .cells #[.int .i64 t7019, .slice Ao67 t7020.length co67] 26 (0, 0)) (by (with_reducible repeat (first | refine blk_drewN ?_ _ | refine blk_drew ?_ | refine blk_alloc ?_ _)); refine blk_put (cs := #[.int .i64 t7019, .slice none 0 0]) ?_ 1 _ rfl; (with_reducible repeat (first | refine blk_drewN ?_ _ | refine blk_drew ?_ | refine blk_alloc ?_ _)); refine blk_put (cs := #[.int .i64 0, .slice none 0 0]) ?_ 0 _ rfl; (with_reducible repeat (first | refine blk_drewN ?_ _ | refine blk_drew ?_ | refine blk_alloc ?_ _)); exact BK7023.out) hb); replace HB := aQ (below_step (pB3 HB.out GE7001.out GE7002.out GE7023.out) hb); (try clear hb); (try clear hk); (try clear ho0)) | ((with_reducible refine gate_dst (N := 10) rfl ?_); refine box_event ?hg (N := 10) ?hd (cs := #[.int .i64 0, .slice none 0 0]) (t := 26) ?hr ?_; (case hd => rfl); (case hg => rfl); (case hr => first | (go_simp; done) | (go_simp; rfl)); intro gb7028 hg w70 hbox hb; replace HO7008 := aQ (Kd.R_below (pR HO7008.out) hb); replace HO7012 := aQ (Kd.R_below (pR HO7012.out) hb); replace HO7015 := aQ (Kd.R_below (pR HO7015.out) hb); replace HO7018 := aQ (Kd.R_below (pR HO7018.out) hb); replace HO7022 := aQ (Kd.R_below (pR HO7022.out) hb); replace HO7027 := aQ (Kd.R_below (pR HO7027.out) hb); have BK7028 := aQ (hbox); have GW7028 := aQ ((by rw [hg]; exact (below_size (pB3 HB.out GE7001.out GE7002.out GE7023.out)) : w.heap.size ≤ gb7028)); have GE7028 := aQ ((by rw [hg]; exact (below_size (pB3 HB.out GE7001.out GE7002.out GE7023.out)) : w.heap.size ≤ gb7028)); replace HB := aQ (below_step (pB3 HB.out GE7001.out GE7002.out GE7023.out) hb); have NB7001_7028 := aQ ((by rw [hg]; exact Nat.ne_of_lt (blk_lt (g := gb7001) (o := .cells #[.int .i64 a0_0, .slice A0_1 l0_1.length c0_1] 24 (0, 0)) (pk BK7001.out)) : gb7001 ≠ gb7028)); have NB7028_7001 := aQ ((by rw [hg]; exact Nat.ne_of_gt (blk_lt (g := gb7001) (o := .cells #[.int .i64 a0_0, .slice A0_1 l0_1.length c0_1] 24 (0, 0)) (pk BK7001.out)) : gb7028 ≠ gb7001)); replace BK7001 := aQ (blk_below (g := gb7001) (o := .cells #[.int .i64 a0_0, .slice A0_1 l0_1.length c0_1] 24 (0, 0)) (pk BK7001.out) hb); have NB7002_7028 := aQ ((by rw [hg]; exact Nat.ne_of_lt (blk_lt (g := gb7002) (o := .cells #[.int .i64 a1_0, .slice A1_1 l1_1.length c1_1] 24 (0, 0)) (pk BK7002.out)) : gb7002 ≠ gb7028)); have NB7028_7002 := aQ ((by rw [hg]; exact Nat.ne_of_gt (blk_lt (g := gb7002) (o := .cells #[.int .i64 a1_0, .slice A1_1 l1_1.length c1_1] 24 (0, 0)) (pk BK7002.out)) : gb7028 ≠ gb7002)); replace BK7002 := aQ (blk_below (g := gb7002) (o := .cells #[.int .i64 a1_0, .slice A1_1 l1_1.length c1_1] 24 (0, 0)) (pk BK7002.out) hb); have NB7023_7028 := aQ ((by rw [hg]; exact Nat.ne_of_lt (blk_lt (g := gb7023) (o := .cells #[.int .i64 t7019, .slice Ao67 t7020.length co67] 26 (0, 0)) (pk BK7023.out)) : gb7023 ≠ gb7028)); have NB7028_7023 := aQ ((by rw [hg]; exact Nat.ne_of_gt (blk_lt (g := gb7023) (o := .cells #[.int .i64 t7019, .slice Ao67 t7020.length co67] 26 (0, 0)) (pk BK7023.out)) : gb7028 ≠ gb7023)); replace BK7023 := aQ (blk_below (g := gb7023) (o := .cells #[.int .i64 t7019, .slice Ao67 t7020.length co67] 26 (0, 0)) (pk BK7023.out) hb); clear hb hbox hg; have hnb71 := NB7028_7001.out; have hnc71 := NB7001_7028.out; have hnb72 := NB7028_7002.out; have hnc72 := NB7002_7028.out; have hnb73 := NB7028_7023.out; have hnc73 := NB7023_7028.out; have hcz74_0 := bc (v := (.int .i64 0)) BK7028.out 0; have hcz74_1 := bc (v := (.slice none 0 0)) BK7028.out 1; have hfz74_0 := blk_frozen BK7028.out 0; have hfz74_1 := blk_frozen BK7028.out 1; obtain ⟨Ao75, co75, eo75⟩ := Kd.R_slice HO7027.out; subst eo75) | ((with_reducible refine gate_callee (f := 31) rfl ?_); refine goesL_ (some 42) rfl rfl Try.func31 (by kernel_rfl) rfl #[.slice A2 l2.length c2] rfl lm ?_; (with_reducible refine (laws_toIntS.calls k _ _ l2 t7029 _ ?side1 ?side2 A29.out).mono ?_); (case side1 => exact Kd.C_below HR2.out (pB4 HB.out GE7001.out GE7002.out GE7023.out GE7028.out)); (case side2 => exact HC2.out); rintro e w76 ⟨v7030, rfl, ho0, hb⟩; refine ⟨_, rfl, ?_⟩; have HO7031 := aQ (Kd.R_lower (Kd.R_new' (Kd.R_new' (Kd.R_new' (Kd.R_new' (Kd.R_new' (Kd.R_new' ho0 (Kd.R_lt (by (with_reducible repeat (first | apply Kd.R_alloc | apply Kd.R_drewN | apply Kd.R_drew)); exact (Kd.R_mono (Kd.R_far (p := ⟨gb7028, 1, none⟩) (Kd.R_far (p := ⟨gb7028, 0, none⟩) (Kd.R_types HO7008.out BK7028.out (by decide)) (fun _ hk => hk.2) (.int .i64 t7024)) (fun _ hk => hk.2) (.slice Ao75 t7025.length co75)) (fun _ h_ => h_.1))))) (Kd.R_lt (by (with_reducible repeat (first | apply Kd.R_alloc | apply Kd.R_drewN | apply Kd.R_drew)); exact (Kd.R_mono (Kd.R_far (p := ⟨gb7028, 1, none⟩) (Kd.R_far (p := ⟨gb7028, 0, none⟩) (Kd.R_types HO7012.out BK7028.out (by decide)) (fun _ hk => hk.2) (.int .i64 t7024)) (fun _ hk => hk.2) (.slice Ao75 t7025.length co75)) (fun _ h_ => h_.1))))) (Kd.R_lt (by (with_reducible repeat (first | apply Kd.R_alloc | apply Kd.R_drewN | apply Kd.R_drew)); exact (Kd.R_mono (Kd.R_far (p := ⟨gb7028, 1, none⟩) (Kd.R_far (p := ⟨gb7028, 0, none⟩) (Kd.R_types HO7015.out BK7028.out (by decide)) (fun _ hk => hk.2) (.int .i64 t7024)) (fun _ hk => hk.2) (.slice Ao75 t7025.length co75)) (fun _ h_ => h_.1))))) (Kd.R_lt (by (with_reducible repeat (first | apply Kd.R_alloc | apply Kd.R_drewN | apply Kd.R_drew)); exact (Kd.R_mono (Kd.R_far (p := ⟨gb7028, 1, none⟩) (Kd.R_far (p := ⟨gb7028, 0, none⟩) (Kd.R_types HO7018.out BK7028.out (by decide)) (fun _ hk => hk.2) (.int .i64 t7024)) (fun _ hk => hk.2) (.slice Ao75 t7025.length co75)) (fun _ h_ => h_.1))))) (Kd.R_lt (by (with_reducible repeat (first | apply Kd.R_alloc | apply Kd.R_drewN | apply Kd.R_drew)); exact (Kd.R_mono (Kd.R_far (p := ⟨gb7028, 1, none⟩) (Kd.R_far (p := ⟨gb7028, 0, none⟩) (Kd.R_types HO7022.out BK7028.out (by decide)) (fun _ hk => hk.2) (.int .i64 t7024)) (fun _ hk => hk.2) (.slice Ao75 t7025.length co75)) (fun _ h_ => h_.1))))) (Kd.R_lt (by (with_reducible repeat (first | apply Kd.R_alloc | apply Kd.R_drewN | apply Kd.R_drew)); exact (Kd.R_mono (Kd.R_far (p := ⟨gb7028, 1, none⟩) (Kd.R_far (p := ⟨gb7028, 0, none⟩) (Kd.R_types HO7027.out BK7028.out (by decide)) (fun _ hk => hk.2) (.int .i64 t7024)) (fun _ hk => hk.2) (.slice Ao75 t7025.length co75)) (fun _ h_ => h_.1))))) (below_size (pB4 HB.out GE7001.out GE7002.out GE7023.out GE7028.out))); replace HO7008 := aQ (Kd.R_elder' (by (with_reducible repeat (first | apply Kd.R_alloc | apply Kd.R_drewN | apply Kd.R_drew)); exact (Kd.R_mono (Kd.R_far (p := ⟨gb7028, 1, none⟩) (Kd.R_far (p := ⟨gb7028, 0, none⟩) (Kd.R_types HO7008.out BK7028.out (by decide)) (fun _ hk => hk.2) (.int .i64 t7024)) (fun _ hk => hk.2) (.slice Ao75 t7025.length co75)) (fun _ h_ => h_.1))) (Kd.R_base ho0) hb); replace HO7012 := aQ (Kd.R_elder' (by (with_reducible repeat (first | apply Kd.R_alloc | apply Kd.R_drewN | apply Kd.R_drew)); exact (Kd.R_mono (Kd.R_far (p := ⟨gb7028, 1, none⟩) (Kd.R_far (p := ⟨gb7028, 0, none⟩) (Kd.R_types HO7012.out BK7028.out (by decide)) (fun _ hk => hk.2) (.int .i64 t7024)) (fun _ hk => hk.2) (.slice Ao75 t7025.length co75)) (fun _ h_ => h_.1))) (Kd.R_base ho0) hb); replace HO7015 := aQ (Kd.R_elder' (by (with_reducible repeat (first | apply Kd.R_alloc | apply Kd.R_drewN | apply Kd.R_drew)); exact (Kd.R_mono (Kd.R_far (p := ⟨gb7028, 1, none⟩) (Kd.R_far (p := ⟨gb7028, 0, none⟩) (Kd.R_types HO7015.out BK7028.out (by decide)) (fun _ hk => hk.2) (.int .i64 t7024)) (fun _ hk => hk.2) (.slice Ao75 t7025.length co75)) (fun _ h_ => h_.1))) (Kd.R_base ho0) hb); replace HO7018 := aQ (Kd.R_elder' (by (with_reducible repeat (first | apply Kd.R_alloc | apply Kd.R_drewN | apply Kd.R_drew)); exact (Kd.R_mono (Kd.R_far (p := ⟨gb7028, 1, none⟩) (Kd.R_far (p := ⟨gb7028, 0, none⟩) (Kd.R_types HO7018.out BK7028.out (by decide)) (fun _ hk => hk.2) (.int .i64 t7024)) (fun _ hk => hk.2) (.slice Ao75 t7025.length co75)) (fun _ h_ => h_.1))) (Kd.R_base ho0) hb); replace HO7022 := aQ (Kd.R_elder' (by (with_reducible repeat (first | apply Kd.R_alloc | apply Kd.R_drewN | apply Kd.R_drew)); exact (Kd.R_mono (Kd.R_far (p := ⟨gb7028, 1, none⟩) (Kd.R_far (p := ⟨gb7028, 0, none⟩) (Kd.R_types HO7022.out BK7028.out (by decide)) (fun _ hk => hk.2) (.int .i64 t7024)) (fun _ hk => hk.2) (.slice Ao75 t7025.length co75)) (fun _ h_ => h_.1))) (Kd.R_base ho0) hb); replace HO7027 := aQ (Kd.R_elder' (by (with_reducible repeat (first | apply Kd.R_alloc | apply Kd.R_drewN | apply Kd.R_drew)); exact (Kd.R_mono (Kd.R_far (p := ⟨gb7028, 1, none⟩) (Kd.R_far (p := ⟨gb7028, 0, none⟩) (Kd.R_types HO7027.out BK7028.out (by decide)) (fun _ hk => hk.2) (.int .i64 t7024)) (fun _ hk => hk.2) (.slice Ao75 t7025.length co75)) (fun _ h_ => h_.1))) (Kd.R_base ho0) hb); replace BK7001 := aQ (blk_below (g := gb7001) (o := .cells #[.int .i64 a0_0, .slice A0_1 l0_1.length c0_1] 24 (0, 0)) (by (with_reducible repeat (first | refine blk_drewN ?_ _ | refine blk_drew ?_ | refine blk_alloc ?_ _)); refine blk_far ?_ NB7001_7028.out _; (with_reducible repeat (first | refine blk_drewN ?_ _ | refine blk_drew ?_ | refine blk_alloc ?_ _)); refine blk_far ?_ NB7001_7028.out _; (with_reducible repeat (first | refine blk_drewN ?_ _ | refine blk_drew ?_ | refine blk_alloc ?_ _)); exact BK7001.out) hb); replace BK7002 := aQ (blk_below (g := gb7002) (o := .cells #[.int .i64 a1_0, .slice A1_1 l1_1.length c1_1] 24 (0, 0)) (by (with_reducible repeat (first | refine blk_drewN ?_ _ | refine blk_drew ?_ | refine blk_alloc ?_ _)); refine blk_far ?_ NB7002_7028.out _; (with_reducible repeat (first | refine blk_drewN ?_ _ | refine blk_drew ?_ | refine blk_alloc ?_ _)); refine blk_far ?_ NB7002_7028.out _; (with_reducible repeat (first | refine blk_drewN ?_ _ | refine blk_drew ?_ | refine blk_alloc ?_ _)); exact BK7002.out) hb); replace BK7023 := aQ (blk_below (g := gb7023) (o := .cells #[.int .i64 t7019, .slice Ao67 t7020.length co67] 26 (0, 0)) (by (with_reducible repeat (first | refine blk_drewN ?_ _ | refine blk_drew ?_ | refine blk_alloc ?_ _)); refine blk_far ?_ NB7023_7028.out _; (with_reducible repeat (first | refine blk_drewN ?_ _ | refine blk_drew ?_ | refine blk_alloc ?_ _)); refine blk_far ?_ NB7023_7028.out _; (with_reducible repeat (first | refine blk_drewN ?_ _ | refine blk_drew ?_ | refine blk_alloc ?_ _)); exact BK7023.out) hb); replace BK7028 := aQ (blk_below (g := gb7028) (o := .cells #[.int .i64 t7024, .slice Ao75 t7025.length co75] 26 (0, 0)) (by (with_reducible repeat (first | refine blk_drewN ?_ _ | refine blk_drew ?_ | refine blk_alloc ?_ _)); refine blk_put (cs := #[.int .i64 t7024, .slice none 0 0]) ?_ 1 _ rfl; (with_reducible repeat (first | refine blk_drewN ?_ _ | refine blk_drew ?_ | refine blk_alloc ?_ _)); refine blk_put (cs := #[.int .i64 0, .slice none 0 0]) ?_ 0 _ rfl; (with_reducible repeat (first | refine blk_drewN ?_ _ | refine blk_drew ?_ | refine blk_alloc ?_ _)); exact BK7028.out) hb); replace HB := aQ (below_step (pB4 HB.out GE7001.out GE7002.out GE7023.out GE7028.out) hb); (try clear hb); (try clear hb2); (try clear hk); (try clear hi); (try clear ho0); have hcz77_0 := bc (v := (.int .i64 t7019)) BK7023.out 0; have hcz77_1 := bc (v := (.slice Ao67 t7020.length co67)) BK7023.out 1; have hfz77_0 := blk_frozen BK7023.out 0; have hfz77_1 := blk_frozen BK7023.out 1; have hcz78_0 := bc (v := (.int .i64 t7024)) BK7028.out 0; have hcz78_1 := bc (v := (.slice Ao75 t7025.length co75)) BK7028.out 1; have hfz78_0 := blk_frozen BK7028.out 0; have hfz78_1 := blk_frozen BK7028.out 1; obtain ⟨Ao79, co79, eo79⟩ := Kd.R_slice HO7031.out; subst eo79) | ((with_reducible refine gate_callee (f := 32) rfl ?_); refine goesL_ (some 46) rfl rfl Try.func32 (by kernel_rfl) rfl #[.agg #[.int .i64 t7019, .slice Ao67 t7020.length co67], .agg #[.int .i64 t7024, .slice Ao75 t7025.length co75], .slice Ao79 t7029.length co79] rfl lm ?_; (with_reducible refine (impl_BestWeights.calls k t7019 _ _ t7020 t7024 _ _ t7025 _ _ t7029 t7032 _ ?side1 ?side2 ?side3 ?side4 ?side5 ?side6 A30.out).mono ?_); (case side1 => repeat (first | exact (Kd.R_reads' HO7022.out).2.2 | (with_reducible refine Kd.C_alloc ?_ _) | (with_reducible refine Kd.C_drewN ?_ _) | (with_reducible refine Kd.C_drew ?_))); (case side2 => exact (Kd.R_reads' HO7022.out).2.1); (case side3 => repeat (first | exact (Kd.R_reads' HO7027.out).2.2 | (with_reducible refine Kd.C_alloc ?_ _) | (with_reducible refine Kd.C_drewN ?_ _) | (with_reducible refine Kd.C_drew ?_))); (case side4 => exact (Kd.R_reads' HO7027.out).2.1); (case side5 => repeat (first | exact (Kd.R_reads' HO7031.out).2.2 | (with_reducible refine Kd.C_alloc ?_ _) | (with_reducible refine Kd.C_drewN ?_ _) | (with_reducible refine Kd.C_drew ?_))); (case side6 => exact (Kd.R_reads' HO7031.out).2.1); rintro e w80 ⟨v7033, rfl, ho0, hb⟩; refine ⟨_, rfl, ?_⟩; have HO7034 := aQ (Kd.R_lower (Kd.R_new' (Kd.R_new' (Kd.R_new' (Kd.R_new' (Kd.R_new' (Kd.R_new' (Kd.R_new' ho0 (Kd.R_lt (pR HO7008.out))) (Kd.R_lt (pR HO7012.out))) (Kd.R_lt (pR HO7015.out))) (Kd.R_lt (pR HO7018.out))) (Kd.R_lt (pR HO7022.out))) (Kd.R_lt (pR HO7027.out))) (Kd.R_lt (pR HO7031.out))) (below_size (pB4 HB.out GE7001.out GE7002.out GE7023.out GE7028.out))); replace HO7008 := aQ (Kd.R_elder' (pR HO7008.out) (Kd.R_base ho0) hb); replace HO7012 := aQ (Kd.R_elder' (pR HO7012.out) (Kd.R_base ho0) hb); replace HO7015 := aQ (Kd.R_elder' (pR HO7015.out) (Kd.R_base ho0) hb); replace HO7018 := aQ (Kd.R_elder' (pR HO7018.out) (Kd.R_base ho0) hb); replace HO7022 := aQ (Kd.R_elder' (pR HO7022.out) (Kd.R_base ho0) hb); replace HO7027 := aQ (Kd.R_elder' (pR HO7027.out) (Kd.R_base ho0) hb); replace HO7031 := aQ (Kd.R_elder' (pR HO7031.out) (Kd.R_base ho0) hb); replace BK7001 := aQ (blk_below (g := gb7001) (o := .cells #[.int .i64 a0_0, .slice A0_1 l0_1.length c0_1] 24 (0, 0)) (pk BK7001.out) hb); replace BK7002 := aQ (blk_below (g := gb7002) (o := .cells #[.int .i64 a1_0, .slice A1_1 l1_1.length c1_1] 24 (0, 0)) (pk BK7002.out) hb); replace BK7023 := aQ (blk_below (g := gb7023) (o := .cells #[.int .i64 t7019, .slice Ao67 t7020.length co67] 26 (0, 0)) (pk BK7023.out) hb); replace BK7028 := aQ (blk_below (g := gb7028) (o := .cells #[.int .i64 t7024, .slice Ao75 t7025.length co75] 26 (0, 0)) (pk BK7028.out) hb); replace HB := aQ (below_step (pB4 HB.out GE7001.out GE7002.out GE7023.out GE7028.out) hb); (try clear hb); (try clear ho0); obtain ⟨Ao81, co81, eo81⟩ := Kd.R_slice HO7034.out; subst eo81; obtain ⟨Ao82, co82, eo82⟩ := Kd.R_slice HO7018.out; subst eo82) | ((with_reducible refine gate_callee (f := 25) rfl ?_); refine goesL_ (some 49) rfl rfl Try.func25 (by kernel_rfl) rfl #[.slice Ao81 t7032.length co81, .slice Ao82 t7016.length co82] rfl lm ?_; (with_reducible refine (laws_eqIntS.calls k _ _ t7032 _ _ t7016 true _ ?side1 ?side2 ?side3 ?side4 A31.out).mono ?_); (case side1 => repeat (first | exact (Kd.R_reads' HO7034.out).2.2 | (with_reducible refine Kd.C_alloc ?_ _) | (with_reducible refine Kd.C_drewN ?_ _) | (with_reducible refine Kd.C_drew ?_))); (case side2 => exact (Kd.R_reads' HO7034.out).2.1); (case side3 => repeat (first | exact (Kd.R_reads' HO7018.out).2.2 | (with_reducible refine Kd.C_alloc ?_ _) | (with_reducible refine Kd.C_drewN ?_ _) | (with_reducible refine Kd.C_drew ?_))); (case side4 => exact (Kd.R_reads' HO7018.out).2.1); rintro e w' ⟨rfl, ⟨nd, rfl⟩⟩; refine ⟨_, rfl, ?_⟩))
        (try (rw [drewN_self w80]; generalize hq_ : World.drewN w80 _ = w80; have n0_ : Aside0 (Kd.R (Kd.int .i64) 3 w80 w.heap.size (fun k_ => some k_ ≠ (.slice Ao58 t7010.length co58 : Value).ownBlock ∧ some k_ ≠ (.slice Ao59 t7013.length co59 : Value).ownBlock ∧ some k_ ≠ (.slice Ao82 t7016.length co82 : Value).ownBlock ∧ some k_ ≠ (.slice Ao67 t7020.length co67 : Value).ownBlock ∧ some k_ ≠ (.slice Ao75 t7025.length co75 : Value).ownBlock ∧ some k_ ≠ (.slice Ao79 t7029.length co79 : Value).ownBlock ∧ some k_ ≠ (.slice Ao81 t7032.length co81 : Value).ownBlock) (.slice Ao57 t7006.length co57) t7006) := ⟨by rw [← hq_]; exact (by (with_reducible repeat (first | apply Kd.R_alloc | apply Kd.R_drewN | apply Kd.R_drew)); exact Kd.R_mono HO7008.out (fun _ hk => ⟨hk.1.1.1.1.1.1.2, ⟨hk.1.1.1.1.1.2, ⟨hk.1.1.1.1.2, ⟨hk.1.1.1.2, ⟨hk.1.1.2, ⟨hk.1.2, hk.2⟩⟩⟩⟩⟩⟩))⟩; have n1_ : Aside0 (Kd.R (Kd.int .i64) 3 w80 w.heap.size (fun k_ => some k_ ≠ (.slice Ao57 t7006.length co57 : Value).ownBlock ∧ some k_ ≠ (.slice Ao59 t7013.length co59 : Value).ownBlock ∧ some k_ ≠ (.slice Ao82 t7016.length co82 : Value).ownBlock ∧ some k_ ≠ (.slice Ao67 t7020.length co67 : Value).ownBlock ∧ some k_ ≠ (.slice Ao75 t7025.length co75 : Value).ownBlock ∧ some k_ ≠ (.slice Ao79 t7029.length co79 : Value).ownBlock ∧ some k_ ≠ (.slice Ao81 t7032.length co81 : Value).ownBlock) (.slice Ao58 t7010.length co58) t7010) := ⟨by rw [← hq_]; exact (by (with_reducible repeat (first | apply Kd.R_alloc | apply Kd.R_drewN | apply Kd.R_drew)); exact Kd.R_mono HO7012.out (fun _ hk => ⟨hk.1.1.1.1.1.1.2, ⟨hk.1.1.1.1.1.2, ⟨hk.1.1.1.1.2, ⟨hk.1.1.1.2, ⟨hk.1.1.2, ⟨hk.1.2, hk.2⟩⟩⟩⟩⟩⟩))⟩; have n2_ : Aside0 (Kd.R (Kd.int .i64) 3 w80 w.heap.size (fun k_ => some k_ ≠ (.slice Ao57 t7006.length co57 : Value).ownBlock ∧ some k_ ≠ (.slice Ao58 t7010.length co58 : Value).ownBlock ∧ some k_ ≠ (.slice Ao82 t7016.length co82 : Value).ownBlock ∧ some k_ ≠ (.slice Ao67 t7020.length co67 : Value).ownBlock ∧ some k_ ≠ (.slice Ao75 t7025.length co75 : Value).ownBlock ∧ some k_ ≠ (.slice Ao79 t7029.length co79 : Value).ownBlock ∧ some k_ ≠ (.slice Ao81 t7032.length co81 : Value).ownBlock) (.slice Ao59 t7013.length co59) t7013) := ⟨by rw [← hq_]; exact (by (with_reducible repeat (first | apply Kd.R_alloc | apply Kd.R_drewN | apply Kd.R_drew)); exact Kd.R_mono HO7015.out (fun _ hk => ⟨hk.1.1.1.1.1.1.2, ⟨hk.1.1.1.1.1.2, ⟨hk.1.1.1.1.2, ⟨hk.1.1.1.2, ⟨hk.1.1.2, ⟨hk.1.2, hk.2⟩⟩⟩⟩⟩⟩))⟩; have n3_ : Aside0 (Kd.R (Kd.int .i64) 3 w80 w.heap.size (fun k_ => some k_ ≠ (.slice Ao57 t7006.length co57 : Value).ownBlock ∧ some k_ ≠ (.slice Ao58 t7010.length co58 : Value).ownBlock ∧ some k_ ≠ (.slice Ao59 t7013.length co59 : Value).ownBlock ∧ some k_ ≠ (.slice Ao67 t7020.length co67 : Value).ownBlock ∧ some k_ ≠ (.slice Ao75 t7025.length co75 : Value).ownBlock ∧ some k_ ≠ (.slice Ao79 t7029.length co79 : Value).ownBlock ∧ some k_ ≠ (.slice Ao81 t7032.length co81 : Value).ownBlock) (.slice Ao82 t7016.length co82) t7016) := ⟨by rw [← hq_]; exact (by (with_reducible repeat (first | apply Kd.R_alloc | apply Kd.R_drewN | apply Kd.R_drew)); exact Kd.R_mono HO7018.out (fun _ hk => ⟨hk.1.1.1.1.1.1.2, ⟨hk.1.1.1.1.1.2, ⟨hk.1.1.1.1.2, ⟨hk.1.1.1.2, ⟨hk.1.1.2, ⟨hk.1.2, hk.2⟩⟩⟩⟩⟩⟩))⟩; have n4_ : Aside0 (Kd.R (Kd.int .i64) 3 w80 w.heap.size (fun k_ => some k_ ≠ (.slice Ao57 t7006.length co57 : Value).ownBlock ∧ some k_ ≠ (.slice Ao58 t7010.length co58 : Value).ownBlock ∧ some k_ ≠ (.slice Ao59 t7013.length co59 : Value).ownBlock ∧ some k_ ≠ (.slice Ao82 t7016.length co82 : Value).ownBlock ∧ some k_ ≠ (.slice Ao75 t7025.length co75 : Value).ownBlock ∧ some k_ ≠ (.slice Ao79 t7029.length co79 : Value).ownBlock ∧ some k_ ≠ (.slice Ao81 t7032.length co81 : Value).ownBlock) (.slice Ao67 t7020.length co67) t7020) := ⟨by rw [← hq_]; exact (by (with_reducible repeat (first | apply Kd.R_alloc | apply Kd.R_drewN | apply Kd.R_drew)); exact Kd.R_mono HO7022.out (fun _ hk => ⟨hk.1.1.1.1.1.1.2, ⟨hk.1.1.1.1.1.2, ⟨hk.1.1.1.1.2, ⟨hk.1.1.1.2, ⟨hk.1.1.2, ⟨hk.1.2, hk.2⟩⟩⟩⟩⟩⟩))⟩; have n5_ : Aside0 (Kd.R (Kd.int .i64) 3 w80 w.heap.size (fun k_ => some k_ ≠ (.slice Ao57 t7006.length co57 : Value).ownBlock ∧ some k_ ≠ (.slice Ao58 t7010.length co58 : Value).ownBlock ∧ some k_ ≠ (.slice Ao59 t7013.length co59 : Value).ownBlock ∧ some k_ ≠ (.slice Ao82 t7016.length co82 : Value).ownBlock ∧ some k_ ≠ (.slice Ao67 t7020.length co67 : Value).ownBlock ∧ some k_ ≠ (.slice Ao79 t7029.length co79 : Value).ownBlock ∧ some k_ ≠ (.slice Ao81 t7032.length co81 : Value).ownBlock) (.slice Ao75 t7025.length co75) t7025) := ⟨by rw [← hq_]; exact (by (with_reducible repeat (first | apply Kd.R_alloc | apply Kd.R_drewN | apply Kd.R_drew)); exact Kd.R_mono HO7027.out (fun _ hk => ⟨hk.1.1.1.1.1.1.2, ⟨hk.1.1.1.1.1.2, ⟨hk.1.1.1.1.2, ⟨hk.1.1.1.2, ⟨hk.1.1.2, ⟨hk.1.2, hk.2⟩⟩⟩⟩⟩⟩))⟩; have n6_ : Aside0 (Kd.R (Kd.int .i64) 3 w80 w.heap.size (fun k_ => some k_ ≠ (.slice Ao57 t7006.length co57 : Value).ownBlock ∧ some k_ ≠ (.slice Ao58 t7010.length co58 : Value).ownBlock ∧ some k_ ≠ (.slice Ao59 t7013.length co59 : Value).ownBlock ∧ some k_ ≠ (.slice Ao82 t7016.length co82 : Value).ownBlock ∧ some k_ ≠ (.slice Ao67 t7020.length co67 : Value).ownBlock ∧ some k_ ≠ (.slice Ao75 t7025.length co75 : Value).ownBlock ∧ some k_ ≠ (.slice Ao81 t7032.length co81 : Value).ownBlock) (.slice Ao79 t7029.length co79) t7029) := ⟨by rw [← hq_]; exact (by (with_reducible repeat (first | apply Kd.R_alloc | apply Kd.R_drewN | apply Kd.R_drew)); exact Kd.R_mono HO7031.out (fun _ hk => ⟨hk.1.1.1.1.1.1.2, ⟨hk.1.1.1.1.1.2, ⟨hk.1.1.1.1.2, ⟨hk.1.1.1.2, ⟨hk.1.1.2, ⟨hk.1.2, hk.2⟩⟩⟩⟩⟩⟩))⟩; have n7_ : Aside0 (Kd.R (Kd.int .i64) 3 w80 w.heap.size (fun k_ => some k_ ≠ (.slice Ao57 t7006.length co57 : Value).ownBlock ∧ some k_ ≠ (.slice Ao58 t7010.length co58 : Value).ownBlock ∧ some k_ ≠ (.slice Ao59 t7013.length co59 : Value).ownBlock ∧ some k_ ≠ (.slice Ao82 t7016.length co82 : Value).ownBlock ∧ some k_ ≠ (.slice Ao67 t7020.length co67 : Value).ownBlock ∧ some k_ ≠ (.slice Ao75 t7025.length co75 : Value).ownBlock ∧ some k_ ≠ (.slice Ao79 t7029.length co79 : Value).ownBlock) (.slice Ao81 t7032.length co81) t7032) := ⟨by rw [← hq_]; exact (by (with_reducible repeat (first | apply Kd.R_alloc | apply Kd.R_drewN | apply Kd.R_drew)); exact Kd.R_mono HO7034.out (fun _ hk => ⟨hk.1.1.1.1.1.1.2, ⟨hk.1.1.1.1.1.2, ⟨hk.1.1.1.1.2, ⟨hk.1.1.1.2, ⟨hk.1.1.2, ⟨hk.1.2, hk.2⟩⟩⟩⟩⟩⟩))⟩; have n8_ : Aside0 (w80.heap[gb7001]? = some (.cells #[.int .i64 a0_0, .slice A0_1 l0_1.length c0_1] 24 (0, 0))) := ⟨by rw [← hq_]; exact (pk BK7001.out)⟩; have n9_ : Aside0 (w80.heap[gb7002]? = some (.cells #[.int .i64 a1_0, .slice A1_1 l1_1.length c1_1] 24 (0, 0))) := ⟨by rw [← hq_]; exact (pk BK7002.out)⟩; have n10_ : Aside0 (w80.heap[gb7023]? = some (.cells #[.int .i64 t7019, .slice Ao67 t7020.length co67] 26 (0, 0))) := ⟨by rw [← hq_]; exact (pk BK7023.out)⟩; have n11_ : Aside0 (w80.heap[gb7028]? = some (.cells #[.int .i64 t7024, .slice Ao75 t7025.length co75] 26 (0, 0))) := ⟨by rw [← hq_]; exact (pk BK7028.out)⟩; have n12_ : Aside0 (Below w.heap.size w w80) := ⟨by rw [← hq_]; exact (pB4 HB.out GE7001.out GE7002.out GE7023.out GE7028.out)⟩; clear HO7008 HO7012 HO7015 HO7018 HO7022 HO7027 HO7031 HO7034 BK7001 BK7002 BK7023 BK7028 HB hq_; have HO7008 := n0_; have HO7012 := n1_; have HO7015 := n2_; have HO7018 := n3_; have HO7022 := n4_; have HO7027 := n5_; have HO7031 := n6_; have HO7034 := n7_; have BK7001 := n8_; have BK7002 := n9_; have BK7023 := n10_; have BK7028 := n11_; have HB := n12_; clear n0_ n1_ n2_ n3_ n4_ n5_ n6_ n7_ n8_ n9_ n10_ n11_ n12_))
        have n0_ := aQ (Kd.R_drew HO7008.out)
        have n1_ := aQ (Kd.R_drew HO7012.out)
        have n2_ := aQ (Kd.R_drew HO7015.out)
        have n3_ := aQ (Kd.R_drew HO7018.out)
        have n4_ := aQ (Kd.R_drew HO7022.out)
        have n5_ := aQ (Kd.R_drew HO7027.out)
        have n6_ := aQ (Kd.R_drew HO7031.out)
        have n7_ := aQ (Kd.R_drew HO7034.out)
        have n8_ := aQ (blk_drew BK7001.out)
        have n9_ := aQ (blk_drew BK7002.out)
        have n10_ := aQ (blk_drew BK7023.out)
        have n11_ := aQ (blk_drew BK7028.out)
        have n12_ := aQ (below_drew1 HB.out)
        clear HO7008
        clear HO7012
        clear HO7015
        clear HO7018
        clear HO7022
        clear HO7027
        clear HO7031
        clear HO7034
        clear BK7001
        clear BK7002
        clear BK7023
        clear BK7028
        clear HB
        have HO7008 := n0_
        have HO7012 := n1_
        have HO7015 := n2_
        have HO7018 := n3_
        have HO7022 := n4_
        have HO7027 := n5_
        have HO7031 := n6_
        have HO7034 := n7_
        have BK7001 := n8_
        have BK7002 := n9_
        have BK7023 := n10_
        have BK7028 := n11_
        have HB := n12_
        clear n0_ n1_ n2_ n3_ n4_ n5_ n6_ n7_ n8_ n9_ n10_ n11_ n12_
        refine start_ (n := 5) (S := fun w' => w'.cell? ⟨gb7023, 0, none⟩ = some (.int .i64 t7019) ∧ w'.cell? ⟨gb7023, 1, none⟩ = some (.slice Ao67 t7020.length co67) ∧ w'.cell? ⟨gb7001, 0, none⟩ = some (.int .i64 a0_0) ∧ w'.cell? ⟨gb7001, 1, none⟩ = some (.slice A0_1 l0_1.length c0_1)) (ds := []) #[false, false, false, false, false] (by kernel_rfl) rfl rfl ⟨(blk_cell BK7023.out 0).trans rfl, (blk_cell BK7023.out 1).trans rfl, (blk_cell BK7001.out 0).trans rfl, (blk_cell BK7001.out 1).trans rfl⟩ (fun hHeld => ?_)
        generalize w80.drew = w83 at HO7008 HO7012 HO7015 HO7018 HO7022 HO7027 HO7031 HO7034 BK7001 BK7002 BK7023 BK7028 HB hHeld ⊢
        refine take_ (i := 0) (N := some 51) (v := ?_) (a' := ?_) #[true, false, false, false, false] rfl rfl (by kernel_rfl) (fun _ _ _ h => h) (Or.inl ⟨by rfl, ?_⟩) hHeld ?_ ?_
        rotate_left
        ·rintro w' ⟨s0, s1, s2, s3⟩
         go_simp
         with_reducible rfl
        rotate_left
        ·simp only [Act.put, List.setIfInBounds_toArray, List.set_cons_zero, List.set_cons_succ, i64_w, i32_w]
         rfl
        refine take_ (i := 1) (N := some 52) (v := ?_) (a' := ?_) #[true, true, false, false, false] rfl rfl (by kernel_rfl) (fun _ _ _ h => h) (Or.inl ⟨by rfl, ?_⟩) hHeld ?_ ?_
        rotate_left
        ·rintro w' ⟨s0, s1, s2, s3⟩
         go_simp
         with_reducible rfl
        rotate_left
        ·simp only [Act.put, List.setIfInBounds_toArray, List.set_cons_zero, List.set_cons_succ, i64_w, i32_w]
         rfl
        refine one_ (i := 2) (N := some 53) #[true, true, true, false, false] rfl rfl (by kernel_rfl) (by decide) (fun K hK => ?_)
        refine goes_ Try.func18 (by kernel_rfl) rfl #[.agg #[.int .i64 a0_0, .slice A0_1 l0_1.length c0_1]] (by rfl) rfl rfl lm ?_
        with_reducible refine (laws_toMatroid.calls k a0_0 _ _ l0_1 t7036 t7037 _ ?side1 ?side2 A33.out).mono ?_
        (case side1 => exact pC (Kd.C_below HR0_1.out HB.out))
        (case side2 => exact HC0_1.out)
        rintro e w84 ⟨v7038, rfl, ho0, hb⟩
        refine ⟨_, rfl, ?_⟩
        have n0_ := aQ (Kd.R_elder' (pR HO7008.out) (Kd.R_base ho0) hb)
        have n1_ := aQ (Kd.R_elder' (pR HO7012.out) (Kd.R_base ho0) hb)
        have n2_ := aQ (Kd.R_elder' (pR HO7015.out) (Kd.R_base ho0) hb)
        have n3_ := aQ (Kd.R_elder' (pR HO7018.out) (Kd.R_base ho0) hb)
        have n4_ := aQ (Kd.R_elder' (pR HO7022.out) (Kd.R_base ho0) hb)
        have n5_ := aQ (Kd.R_elder' (pR HO7027.out) (Kd.R_base ho0) hb)
        have n6_ := aQ (Kd.R_elder' (pR HO7031.out) (Kd.R_base ho0) hb)
        have n7_ := aQ (Kd.R_elder' (pR HO7034.out) (Kd.R_base ho0) hb)
        have n8_ := aQ (Kd.R_lower (Kd.R_new' (Kd.R_new' (Kd.R_new' (Kd.R_new' (Kd.R_new' (Kd.R_new' (Kd.R_new' (Kd.R_new' ho0 (Kd.R_lt (pR HO7008.out))) (Kd.R_lt (pR HO7012.out))) (Kd.R_lt (pR HO7015.out))) (Kd.R_lt (pR HO7018.out))) (Kd.R_lt (pR HO7022.out))) (Kd.R_lt (pR HO7027.out))) (Kd.R_lt (pR HO7031.out))) (Kd.R_lt (pR HO7034.out))) (below_size (pB4 HB.out GE7001.out GE7002.out GE7023.out GE7028.out)))
        have n9_ := aQ (blk_below (g := gb7001) (o := .cells #[.int .i64 a0_0, .slice A0_1 l0_1.length c0_1] 24 (0, 0)) (pk BK7001.out) hb)
        have n10_ := aQ (blk_below (g := gb7002) (o := .cells #[.int .i64 a1_0, .slice A1_1 l1_1.length c1_1] 24 (0, 0)) (pk BK7002.out) hb)
        have n11_ := aQ (blk_below (g := gb7023) (o := .cells #[.int .i64 t7019, .slice Ao67 t7020.length co67] 26 (0, 0)) (pk BK7023.out) hb)
        have n12_ := aQ (blk_below (g := gb7028) (o := .cells #[.int .i64 t7024, .slice Ao75 t7025.length co75] 26 (0, 0)) (pk BK7028.out) hb)
        have n13_ := aQ (below_step (pB4 HB.out GE7001.out GE7002.out GE7023.out GE7028.out) hb)
        clear HO7008
        clear HO7012
        clear HO7015
        clear HO7018
        clear HO7022
        clear HO7027
        clear HO7031
        clear HO7034
        clear BK7001
        clear BK7002
        clear BK7023
        clear BK7028
        clear HB
        have HO7008 := n0_
        have HO7012 := n1_
        have HO7015 := n2_
        have HO7018 := n3_
        have HO7022 := n4_
        have HO7027 := n5_
        have HO7031 := n6_
        have HO7034 := n7_
        have HO7039 := n8_
        have BK7001 := n9_
        have BK7002 := n10_
        have BK7023 := n11_
        have BK7028 := n12_
        have HB := n13_
        clear n0_ n1_ n2_ n3_ n4_ n5_ n6_ n7_ n8_ n9_ n10_ n11_ n12_ n13_
        (try clear hb)
        (try clear hb2)
        (try clear hk)
        (try clear hi)
        (try clear ho0)
        obtain ⟨Ao85, co85, eo85⟩ := Kd.R_slice HO7039.out
        (first | subst eo85 | (injection eo85 with f1_ f2_ f3_; have f4_ := f1_.symm; have f5_ := f3_.symm; clear f1_ f2_ f3_; subst f4_; subst f5_))
        refine hK.out _ _ ⟨(blk_cell BK7023.out 0).trans rfl, (blk_cell BK7023.out 1).trans rfl, (blk_cell BK7001.out 0).trans rfl, (blk_cell BK7001.out 1).trans rfl⟩ (fun hHeld => ?_)
        clear hK K
        refine noA (h := ?_)
        refine one_ (i := 3) (N := some 54) #[true, true, true, true, false] rfl rfl (by kernel_rfl) (by decide) (fun K hK => ?_)
        refine goes_ Try.func20 (by kernel_rfl) rfl #[.agg #[.int .i64 t7019, .slice Ao67 t7020.length co67], .agg #[.int .i64 t7036, .slice Ao85 t7037.length co85]] (by rfl) rfl rfl lm ?_
        with_reducible refine (laws_eqMatroid.calls k t7019 _ _ t7020 t7036 _ _ t7037 true _ ?side1 ?side2 ?side3 ?side4 A34.out).mono ?_
        (case side1 => repeat (first | exact (Kd.R_reads' HO7022.out).2.2 | (with_reducible refine Kd.C_alloc ?_ _) | (with_reducible refine Kd.C_drewN ?_ _) | (with_reducible refine Kd.C_drew ?_)))
        (case side2 => exact (Kd.R_reads' HO7022.out).2.1)
        (case side3 => repeat (first | exact (Kd.R_reads' HO7039.out).2.2 | (with_reducible refine Kd.C_alloc ?_ _) | (with_reducible refine Kd.C_drewN ?_ _) | (with_reducible refine Kd.C_drew ?_)))
        (case side4 => exact (Kd.R_reads' HO7039.out).2.1)
        rintro e w86 ⟨rfl, hb⟩
        refine ⟨_, rfl, ?_⟩
        have n0_ := aQ (Kd.R_below (pR HO7008.out) hb)
        have n1_ := aQ (Kd.R_below (pR HO7012.out) hb)
        have n2_ := aQ (Kd.R_below (pR HO7015.out) hb)
        have n3_ := aQ (Kd.R_below (pR HO7018.out) hb)
        have n4_ := aQ (Kd.R_below (pR HO7022.out) hb)
        have n5_ := aQ (Kd.R_below (pR HO7027.out) hb)
        have n6_ := aQ (Kd.R_below (pR HO7031.out) hb)
        have n7_ := aQ (Kd.R_below (pR HO7034.out) hb)
        have n8_ := aQ (Kd.R_below (pR HO7039.out) hb)
        have n9_ := aQ (blk_below (g := gb7001) (o := .cells #[.int .i64 a0_0, .slice A0_1 l0_1.length c0_1] 24 (0, 0)) (pk BK7001.out) hb)
        have n10_ := aQ (blk_below (g := gb7002) (o := .cells #[.int .i64 a1_0, .slice A1_1 l1_1.length c1_1] 24 (0, 0)) (pk BK7002.out) hb)
        have n11_ := aQ (blk_below (g := gb7023) (o := .cells #[.int .i64 t7019, .slice Ao67 t7020.length co67] 26 (0, 0)) (pk BK7023.out) hb)
        have n12_ := aQ (blk_below (g := gb7028) (o := .cells #[.int .i64 t7024, .slice Ao75 t7025.length co75] 26 (0, 0)) (pk BK7028.out) hb)
        have n13_ := aQ (below_step (pB4 HB.out GE7001.out GE7002.out GE7023.out GE7028.out) hb)
        clear HO7008
        clear HO7012
        clear HO7015
        clear HO7018
        clear HO7022
        clear HO7027
        clear HO7031
        clear HO7034
        clear HO7039
        clear BK7001
        clear BK7002
        clear BK7023
        clear BK7028
        clear HB
        have HO7008 := n0_
        have HO7012 := n1_
        have HO7015 := n2_
        have HO7018 := n3_
        have HO7022 := n4_
        have HO7027 := n5_
        have HO7031 := n6_
        have HO7034 := n7_
        have HO7039 := n8_
        have BK7001 := n9_
        have BK7002 := n10_
        have BK7023 := n11_
        have BK7028 := n12_
        have HB := n13_
        clear n0_ n1_ n2_ n3_ n4_ n5_ n6_ n7_ n8_ n9_ n10_ n11_ n12_ n13_
        (try clear hb)
        (try clear hb2)
        (try clear hk)
        (try clear hi)
        refine hK.out _ _ ⟨(blk_cell BK7023.out 0).trans rfl, (blk_cell BK7023.out 1).trans rfl, (blk_cell BK7001.out 0).trans rfl, (blk_cell BK7001.out 1).trans rfl⟩ (fun hHeld => ?_)
        clear hK K
        refine noA (h := ?_)
        refine puN (i := 4) (N := some 55) (h := ?_)
        refine done_ (by kernel_rfl) ?_
        try go_wp2
        have n0_ := aQ (Kd.R_drew HO7008.out)
        have n1_ := aQ (Kd.R_drew HO7012.out)
        have n2_ := aQ (Kd.R_drew HO7015.out)
        have n3_ := aQ (Kd.R_drew HO7018.out)
        have n4_ := aQ (Kd.R_drew HO7022.out)
        have n5_ := aQ (Kd.R_drew HO7027.out)
        have n6_ := aQ (Kd.R_drew HO7031.out)
        have n7_ := aQ (Kd.R_drew HO7034.out)
        have n8_ := aQ (Kd.R_drew HO7039.out)
        have n9_ := aQ (blk_drew BK7001.out)
        have n10_ := aQ (blk_drew BK7002.out)
        have n11_ := aQ (blk_drew BK7023.out)
        have n12_ := aQ (blk_drew BK7028.out)
        have n13_ := aQ (below_drew1 HB.out)
        clear HO7008
        clear HO7012
        clear HO7015
        clear HO7018
        clear HO7022
        clear HO7027
        clear HO7031
        clear HO7034
        clear HO7039
        clear BK7001
        clear BK7002
        clear BK7023
        clear BK7028
        clear HB
        have HO7008 := n0_
        have HO7012 := n1_
        have HO7015 := n2_
        have HO7018 := n3_
        have HO7022 := n4_
        have HO7027 := n5_
        have HO7031 := n6_
        have HO7034 := n7_
        have HO7039 := n8_
        have BK7001 := n9_
        have BK7002 := n10_
        have BK7023 := n11_
        have BK7028 := n12_
        have HB := n13_
        clear n0_ n1_ n2_ n3_ n4_ n5_ n6_ n7_ n8_ n9_ n10_ n11_ n12_ n13_
        refine start_ (n := 5) (S := fun w' => w'.cell? ⟨gb7028, 0, none⟩ = some (.int .i64 t7024) ∧ w'.cell? ⟨gb7028, 1, none⟩ = some (.slice Ao75 t7025.length co75) ∧ w'.cell? ⟨gb7002, 0, none⟩ = some (.int .i64 a1_0) ∧ w'.cell? ⟨gb7002, 1, none⟩ = some (.slice A1_1 l1_1.length c1_1)) (ds := []) #[false, false, false, false, false] (by kernel_rfl) rfl rfl ⟨(blk_cell BK7028.out 0).trans rfl, (blk_cell BK7028.out 1).trans rfl, (blk_cell BK7002.out 0).trans rfl, (blk_cell BK7002.out 1).trans rfl⟩ (fun hHeld => ?_)
        generalize w86.drew = w87 at HO7008 HO7012 HO7015 HO7018 HO7022 HO7027 HO7031 HO7034 HO7039 BK7001 BK7002 BK7023 BK7028 HB hHeld ⊢
        refine take_ (i := 0) (N := some 56) (v := ?_) (a' := ?_) #[true, false, false, false, false] rfl rfl (by kernel_rfl) (fun _ _ _ h => h) (Or.inl ⟨by rfl, ?_⟩) hHeld ?_ ?_
        rotate_left
        ·rintro w' ⟨s0, s1, s2, s3⟩
         go_simp
         with_reducible rfl
        rotate_left
        ·simp only [Act.put, List.setIfInBounds_toArray, List.set_cons_zero, List.set_cons_succ, i64_w, i32_w]
         rfl
        refine take_ (i := 1) (N := some 57) (v := ?_) (a' := ?_) #[true, true, false, false, false] rfl rfl (by kernel_rfl) (fun _ _ _ h => h) (Or.inl ⟨by rfl, ?_⟩) hHeld ?_ ?_
        rotate_left
        ·rintro w' ⟨s0, s1, s2, s3⟩
         go_simp
         with_reducible rfl
        rotate_left
        ·simp only [Act.put, List.setIfInBounds_toArray, List.set_cons_zero, List.set_cons_succ, i64_w, i32_w]
         rfl
        refine one_ (i := 2) (N := some 58) #[true, true, true, false, false] rfl rfl (by kernel_rfl) (by decide) (fun K hK => ?_)
        refine goes_ Try.func18 (by kernel_rfl) rfl #[.agg #[.int .i64 a1_0, .slice A1_1 l1_1.length c1_1]] (by rfl) rfl rfl lm ?_
        with_reducible refine (laws_toMatroid.calls k a1_0 _ _ l1_1 t7041 t7042 _ ?side1 ?side2 A36.out).mono ?_
        (case side1 => exact pC (Kd.C_below HR1_1.out HB.out))
        (case side2 => exact HC1_1.out)
        rintro e w88 ⟨v7043, rfl, ho0, hb⟩
        refine ⟨_, rfl, ?_⟩
        have n0_ := aQ (Kd.R_elder' (pR HO7008.out) (Kd.R_base ho0) hb)
        have n1_ := aQ (Kd.R_elder' (pR HO7012.out) (Kd.R_base ho0) hb)
        have n2_ := aQ (Kd.R_elder' (pR HO7015.out) (Kd.R_base ho0) hb)
        have n3_ := aQ (Kd.R_elder' (pR HO7018.out) (Kd.R_base ho0) hb)
        have n4_ := aQ (Kd.R_elder' (pR HO7022.out) (Kd.R_base ho0) hb)
        have n5_ := aQ (Kd.R_elder' (pR HO7027.out) (Kd.R_base ho0) hb)
        have n6_ := aQ (Kd.R_elder' (pR HO7031.out) (Kd.R_base ho0) hb)
        have n7_ := aQ (Kd.R_elder' (pR HO7034.out) (Kd.R_base ho0) hb)
        have n8_ := aQ (Kd.R_elder' (pR HO7039.out) (Kd.R_base ho0) hb)
        have n9_ := aQ (Kd.R_lower (Kd.R_new' (Kd.R_new' (Kd.R_new' (Kd.R_new' (Kd.R_new' (Kd.R_new' (Kd.R_new' (Kd.R_new' (Kd.R_new' ho0 (Kd.R_lt (pR HO7008.out))) (Kd.R_lt (pR HO7012.out))) (Kd.R_lt (pR HO7015.out))) (Kd.R_lt (pR HO7018.out))) (Kd.R_lt (pR HO7022.out))) (Kd.R_lt (pR HO7027.out))) (Kd.R_lt (pR HO7031.out))) (Kd.R_lt (pR HO7034.out))) (Kd.R_lt (pR HO7039.out))) (below_size (pB4 HB.out GE7001.out GE7002.out GE7023.out GE7028.out)))
        have n10_ := aQ (blk_below (g := gb7001) (o := .cells #[.int .i64 a0_0, .slice A0_1 l0_1.length c0_1] 24 (0, 0)) (pk BK7001.out) hb)
        have n11_ := aQ (blk_below (g := gb7002) (o := .cells #[.int .i64 a1_0, .slice A1_1 l1_1.length c1_1] 24 (0, 0)) (pk BK7002.out) hb)
        have n12_ := aQ (blk_below (g := gb7023) (o := .cells #[.int .i64 t7019, .slice Ao67 t7020.length co67] 26 (0, 0)) (pk BK7023.out) hb)
        have n13_ := aQ (blk_below (g := gb7028) (o := .cells #[.int .i64 t7024, .slice Ao75 t7025.length co75] 26 (0, 0)) (pk BK7028.out) hb)
        have n14_ := aQ (below_step (pB4 HB.out GE7001.out GE7002.out GE7023.out GE7028.out) hb)
        clear HO7008
        clear HO7012
        clear HO7015
        clear HO7018
        clear HO7022
        clear HO7027
        clear HO7031
        clear HO7034
        clear HO7039
        clear BK7001
        clear BK7002
        clear BK7023
        clear BK7028
        clear HB
        have HO7008 := n0_
        have HO7012 := n1_
        have HO7015 := n2_
        have HO7018 := n3_
        have HO7022 := n4_
        have HO7027 := n5_
        have HO7031 := n6_
        have HO7034 := n7_
        have HO7039 := n8_
        have HO7044 := n9_
        have BK7001 := n10_
        have BK7002 := n11_
        have BK7023 := n12_
        have BK7028 := n13_
        have HB := n14_
        clear n0_ n1_ n2_ n3_ n4_ n5_ n6_ n7_ n8_ n9_ n10_ n11_ n12_ n13_ n14_
        (try clear hb)
        (try clear hb2)
        (try clear hk)
        (try clear hi)
        (try clear ho0)
        obtain ⟨Ao89, co89, eo89⟩ := Kd.R_slice HO7044.out
        (first | subst eo89 | (injection eo89 with f1_ f2_ f3_; have f4_ := f1_.symm; have f5_ := f3_.symm; clear f1_ f2_ f3_; subst f4_; subst f5_))
        refine hK.out _ _ ⟨(blk_cell BK7028.out 0).trans rfl, (blk_cell BK7028.out 1).trans rfl, (blk_cell BK7002.out 0).trans rfl, (blk_cell BK7002.out 1).trans rfl⟩ (fun hHeld => ?_)
        clear hK K
        refine noA (h := ?_)
        refine one_ (i := 3) (N := some 59) #[true, true, true, true, false] rfl rfl (by kernel_rfl) (by decide) (fun K hK => ?_)
        refine goes_ Try.func20 (by kernel_rfl) rfl #[.agg #[.int .i64 t7024, .slice Ao75 t7025.length co75], .agg #[.int .i64 t7041, .slice Ao89 t7042.length co89]] (by rfl) rfl rfl lm ?_
        with_reducible refine (laws_eqMatroid.calls k t7024 _ _ t7025 t7041 _ _ t7042 true _ ?side1 ?side2 ?side3 ?side4 A37.out).mono ?_
        (case side1 => repeat (first | exact (Kd.R_reads' HO7027.out).2.2 | (with_reducible refine Kd.C_alloc ?_ _) | (with_reducible refine Kd.C_drewN ?_ _) | (with_reducible refine Kd.C_drew ?_)))
        (case side2 => exact (Kd.R_reads' HO7027.out).2.1)
        (case side3 => repeat (first | exact (Kd.R_reads' HO7044.out).2.2 | (with_reducible refine Kd.C_alloc ?_ _) | (with_reducible refine Kd.C_drewN ?_ _) | (with_reducible refine Kd.C_drew ?_)))
        (case side4 => exact (Kd.R_reads' HO7044.out).2.1)
        rintro e w90 ⟨rfl, hb⟩
        refine ⟨_, rfl, ?_⟩
        have n0_ := aQ (Kd.R_below (pR HO7008.out) hb)
        have n1_ := aQ (Kd.R_below (pR HO7012.out) hb)
        have n2_ := aQ (Kd.R_below (pR HO7015.out) hb)
        have n3_ := aQ (Kd.R_below (pR HO7018.out) hb)
        have n4_ := aQ (Kd.R_below (pR HO7022.out) hb)
        have n5_ := aQ (Kd.R_below (pR HO7027.out) hb)
        have n6_ := aQ (Kd.R_below (pR HO7031.out) hb)
        have n7_ := aQ (Kd.R_below (pR HO7034.out) hb)
        have n8_ := aQ (Kd.R_below (pR HO7039.out) hb)
        have n9_ := aQ (Kd.R_below (pR HO7044.out) hb)
        have n10_ := aQ (blk_below (g := gb7001) (o := .cells #[.int .i64 a0_0, .slice A0_1 l0_1.length c0_1] 24 (0, 0)) (pk BK7001.out) hb)
        have n11_ := aQ (blk_below (g := gb7002) (o := .cells #[.int .i64 a1_0, .slice A1_1 l1_1.length c1_1] 24 (0, 0)) (pk BK7002.out) hb)
        have n12_ := aQ (blk_below (g := gb7023) (o := .cells #[.int .i64 t7019, .slice Ao67 t7020.length co67] 26 (0, 0)) (pk BK7023.out) hb)
        have n13_ := aQ (blk_below (g := gb7028) (o := .cells #[.int .i64 t7024, .slice Ao75 t7025.length co75] 26 (0, 0)) (pk BK7028.out) hb)
        have n14_ := aQ (below_step (pB4 HB.out GE7001.out GE7002.out GE7023.out GE7028.out) hb)
        clear HO7008
        clear HO7012
        clear HO7015
        clear HO7018
        clear HO7022
        clear HO7027
        clear HO7031
        clear HO7034
        clear HO7039
        clear HO7044
        clear BK7001
        clear BK7002
        clear BK7023
        clear BK7028
        clear HB
        have HO7008 := n0_
        have HO7012 := n1_
        have HO7015 := n2_
        have HO7018 := n3_
        have HO7022 := n4_
        have HO7027 := n5_
        have HO7031 := n6_
        have HO7034 := n7_
        have HO7039 := n8_
        have HO7044 := n9_
        have BK7001 := n10_
        have BK7002 := n11_
        have BK7023 := n12_
        have BK7028 := n13_
        have HB := n14_
        clear n0_ n1_ n2_ n3_ n4_ n5_ n6_ n7_ n8_ n9_ n10_ n11_ n12_ n13_ n14_
        (try clear hb)
        (try clear hb2)
        (try clear hk)
        (try clear hi)
        refine hK.out _ _ ⟨(blk_cell BK7028.out 0).trans rfl, (blk_cell BK7028.out 1).trans rfl, (blk_cell BK7002.out 0).trans rfl, (blk_cell BK7002.out 1).trans rfl⟩ (fun hHeld => ?_)
        clear hK K
        refine noA (h := ?_)
        refine puN (i := 4) (N := some 60) (h := ?_)
        refine done_ (by kernel_rfl) ?_
        go_upto_region 27 with (first | ((with_reducible refine gate_callee (f := 31) rfl ?_); refine goesL_ (some 63) rfl rfl Try.func31 (by kernel_rfl) rfl #[.slice A2 l2.length c2] rfl lm ?_; (with_reducible refine (laws_toIntS.calls k _ _ l2 t7046 _ ?side1 ?side2 A39.out).mono ?_); (case side1 => exact pC (Kd.C_below HR2.out HB.out)); (case side2 => exact HC2.out); rintro e w91 ⟨v7047, rfl, ho0, hb⟩; refine ⟨_, rfl, ?_⟩; have HO7048 := aQ (Kd.R_lower (Kd.R_new' (Kd.R_new' (Kd.R_new' (Kd.R_new' (Kd.R_new' (Kd.R_new' (Kd.R_new' (Kd.R_new' (Kd.R_new' (Kd.R_new' ho0 (Kd.R_lt (pR HO7008.out))) (Kd.R_lt (pR HO7012.out))) (Kd.R_lt (pR HO7015.out))) (Kd.R_lt (pR HO7018.out))) (Kd.R_lt (pR HO7022.out))) (Kd.R_lt (pR HO7027.out))) (Kd.R_lt (pR HO7031.out))) (Kd.R_lt (pR HO7034.out))) (Kd.R_lt (pR HO7039.out))) (Kd.R_lt (pR HO7044.out))) (below_size (pB4 HB.out GE7001.out GE7002.out GE7023.out GE7028.out))); replace HO7008 := aQ (Kd.R_elder' (pR HO7008.out) (Kd.R_base ho0) hb); replace HO7012 := aQ (Kd.R_elder' (pR HO7012.out) (Kd.R_base ho0) hb); replace HO7015 := aQ (Kd.R_elder' (pR HO7015.out) (Kd.R_base ho0) hb); replace HO7018 := aQ (Kd.R_elder' (pR HO7018.out) (Kd.R_base ho0) hb); replace HO7022 := aQ (Kd.R_elder' (pR HO7022.out) (Kd.R_base ho0) hb); replace HO7027 := aQ (Kd.R_elder' (pR HO7027.out) (Kd.R_base ho0) hb); replace HO7031 := aQ (Kd.R_elder' (pR HO7031.out) (Kd.R_base ho0) hb); replace HO7034 := aQ (Kd.R_elder' (pR HO7034.out) (Kd.R_base ho0) hb); replace HO7039 := aQ (Kd.R_elder' (pR HO7039.out) (Kd.R_base ho0) hb); replace HO7044 := aQ (Kd.R_elder' (pR HO7044.out) (Kd.R_base ho0) hb); replace BK7001 := aQ (blk_below (g := gb7001) (o := .cells #[.int .i64 a0_0, .slice A0_1 l0_1.length c0_1] 24 (0, 0)) (pk BK7001.out) hb); replace BK7002 := aQ (blk_below (g := gb7002) (o := .cells #[.int .i64 a1_0, .slice A1_1 l1_1.length c1_1] 24 (0, 0)) (pk BK7002.out) hb); replace BK7023 := aQ (blk_below (g := gb7023) (o := .cells #[.int .i64 t7019, .slice Ao67 t7020.length co67] 26 (0, 0)) (pk BK7023.out) hb); replace BK7028 := aQ (blk_below (g := gb7028) (o := .cells #[.int .i64 t7024, .slice Ao75 t7025.length co75] 26 (0, 0)) (pk BK7028.out) hb); replace HB := aQ (below_step (pB4 HB.out GE7001.out GE7002.out GE7023.out GE7028.out) hb); (try clear hb); (try clear ho0); obtain ⟨Ao92, co92, eo92⟩ := Kd.R_slice HO7048.out; subst eo92) | ((with_reducible refine gate_callee (f := 25) rfl ?_); refine goesL_ (some 64) rfl rfl Try.func25 (by kernel_rfl) rfl #[.slice Ao79 t7029.length co79, .slice Ao92 t7046.length co92] rfl lm ?_; (with_reducible refine (laws_eqIntS.calls k _ _ t7029 _ _ t7046 true _ ?side1 ?side2 ?side3 ?side4 A40.out).mono ?_); (case side1 => repeat (first | exact (Kd.R_reads' HO7031.out).2.2 | (with_reducible refine Kd.C_alloc ?_ _) | (with_reducible refine Kd.C_drewN ?_ _) | (with_reducible refine Kd.C_drew ?_))); (case side2 => exact (Kd.R_reads' HO7031.out).2.1); (case side3 => repeat (first | exact (Kd.R_reads' HO7048.out).2.2 | (with_reducible refine Kd.C_alloc ?_ _) | (with_reducible refine Kd.C_drewN ?_ _) | (with_reducible refine Kd.C_drew ?_))); (case side4 => exact (Kd.R_reads' HO7048.out).2.1); rintro e w' ⟨rfl, ⟨nd, rfl⟩⟩; refine ⟨_, rfl, ?_⟩; have hcz93_0 := bc (v := (.int .i64 t7019)) BK7023.out 0; have hcz93_1 := bc (v := (.slice Ao67 t7020.length co67)) BK7023.out 1; have hfz93_0 := blk_frozen BK7023.out 0; have hfz93_1 := blk_frozen BK7023.out 1) | ((with_reducible refine gate_callee (f := 21) rfl ?_); refine goesL_ (some 68) rfl rfl Try.func21 (by kernel_rfl) rfl #[.agg #[.int .i64 t7019, .slice Ao67 t7020.length co67], .int .i64 1] rfl lm ?_; (with_reducible refine (laws_markMatroid.calls k t7019 (fun k_ => some k_ = (.slice Ao67 t7020.length co67 : Value).ownBlock) (.slice Ao67 t7020.length co67) t7020 1 t7050 t7051 w _ ?side1 ?side2 A42.out).mono ?_); (case side1 => repeat (first | (with_reducible first | exact HB.out | apply below_alloc | apply pw_below_drewN | apply below_drew1 | refine below_set ?_ GE7001.out | refine below_set ?_ GE7002.out | refine below_set ?_ GE7023.out | refine below_set ?_ GE7028.out) | exact HB.out)); (case side2 => exact Kd.R_tight rfl HO7022.out); rintro e w94 ⟨rfl, hy0, hb, hkp⟩; refine ⟨_, rfl, ?_⟩; replace BK7001 := aQ (blk_kept (by (with_reducible repeat (first | apply blk_drewN | apply blk_drew | apply blk_alloc)); exact BK7001.out) hkp (fun hs_ => (fun e_ => (Kd.R_ne HO7022.out BK7001.out (by decide)) e_) hs_)); replace BK7002 := aQ (blk_kept (by (with_reducible repeat (first | apply blk_drewN | apply blk_drew | apply blk_alloc)); exact BK7002.out) hkp (fun hs_ => (fun e_ => (Kd.R_ne HO7022.out BK7002.out (by decide)) e_) hs_)); replace HO7008 := aQ (Kd.R_mono (ok' := fun k_ => some k_ ≠ (.slice Ao58 t7010.length co58 : Value).ownBlock ∧ some k_ ≠ (.slice Ao59 t7013.length co59 : Value).ownBlock ∧ some k_ ≠ (.slice Ao82 t7016.length co82 : Value).ownBlock ∧ some k_ ≠ (.slice Ao67 t7020.length co67 : Value).ownBlock ∧ some k_ ≠ (.slice Ao75 t7025.length co75 : Value).ownBlock ∧ some k_ ≠ (.slice Ao79 t7029.length co79 : Value).ownBlock ∧ some k_ ≠ (.slice Ao81 t7032.length co81 : Value).ownBlock ∧ some k_ ≠ (.slice Ao85 t7037.length co85 : Value).ownBlock ∧ some k_ ≠ (.slice Ao89 t7042.length co89 : Value).ownBlock ∧ some k_ ≠ (.slice Ao92 t7046.length co92 : Value).ownBlock) (Kd.R_keptB (HO7008.out) hkp (fun k_ hk_ hs_ => by first | exact (hk_.1.1.1.1.1.1.2) hs_ | (have hs2_ : some k_ = _ := hs_; simp only [hs2_, ne_eq, not_true_eq_false, and_false, false_and] at hk_))) (fun k_ hk_ => by first | exact ⟨hk_.1.1.1.1.1.1.1.1.1.1.2, hk_.1.1.1.1.1.1.1.1.1.2, hk_.1.1.1.1.1.1.1.1.2, hk_.1.1.1.1.1.1.1.2, hk_.1.1.1.1.1.1.2, hk_.1.1.1.1.1.2, hk_.1.1.1.1.2, hk_.1.1.1.2, hk_.1.1.2, hk_.1.2⟩ | (simp only [ne_eq] at hk_; simp only [ne_eq, hk_, not_false_eq_true, and_self]))); replace HO7012 := aQ (Kd.R_mono (ok' := fun k_ => some k_ ≠ (.slice Ao57 t7006.length co57 : Value).ownBlock ∧ some k_ ≠ (.slice Ao59 t7013.length co59 : Value).ownBlock ∧ some k_ ≠ (.slice Ao82 t7016.length co82 : Value).ownBlock ∧ some k_ ≠ (.slice Ao67 t7020.length co67 : Value).ownBlock ∧ some k_ ≠ (.slice Ao75 t7025.length co75 : Value).ownBlock ∧ some k_ ≠ (.slice Ao79 t7029.length co79 : Value).ownBlock ∧ some k_ ≠ (.slice Ao81 t7032.length co81 : Value).ownBlock ∧ some k_ ≠ (.slice Ao85 t7037.length co85 : Value).ownBlock ∧ some k_ ≠ (.slice Ao89 t7042.length co89 : Value).ownBlock ∧ some k_ ≠ (.slice Ao92 t7046.length co92 : Value).ownBlock) (Kd.R_keptB (HO7012.out) hkp (fun k_ hk_ hs_ => by first | exact (hk_.1.1.1.1.1.1.2) hs_ | (have hs2_ : some k_ = _ := hs_; simp only [hs2_, ne_eq, not_true_eq_false, and_false, false_and] at hk_))) (fun k_ hk_ => by first | exact ⟨hk_.1.1.1.1.1.1.1.1.1.1.2, hk_.1.1.1.1.1.1.1.1.1.2, hk_.1.1.1.1.1.1.1.1.2, hk_.1.1.1.1.1.1.1.2, hk_.1.1.1.1.1.1.2, hk_.1.1.1.1.1.2, hk_.1.1.1.1.2, hk_.1.1.1.2, hk_.1.1.2, hk_.1.2⟩ | (simp only [ne_eq] at hk_; simp only [ne_eq, hk_, not_false_eq_true, and_self]))); replace HO7015 := aQ (Kd.R_mono (ok' := fun k_ => some k_ ≠ (.slice Ao57 t7006.length co57 : Value).ownBlock ∧ some k_ ≠ (.slice Ao58 t7010.length co58 : Value).ownBlock ∧ some k_ ≠ (.slice Ao82 t7016.length co82 : Value).ownBlock ∧ some k_ ≠ (.slice Ao67 t7020.length co67 : Value).ownBlock ∧ some k_ ≠ (.slice Ao75 t7025.length co75 : Value).ownBlock ∧ some k_ ≠ (.slice Ao79 t7029.length co79 : Value).ownBlock ∧ some k_ ≠ (.slice Ao81 t7032.length co81 : Value).ownBlock ∧ some k_ ≠ (.slice Ao85 t7037.length co85 : Value).ownBlock ∧ some k_ ≠ (.slice Ao89 t7042.length co89 : Value).ownBlock ∧ some k_ ≠ (.slice Ao92 t7046.length co92 : Value).ownBlock) (Kd.R_keptB (HO7015.out) hkp (fun k_ hk_ hs_ => by first | exact (hk_.1.1.1.1.1.1.2) hs_ | (have hs2_ : some k_ = _ := hs_; simp only [hs2_, ne_eq, not_true_eq_false, and_false, false_and] at hk_))) (fun k_ hk_ => by first | exact ⟨hk_.1.1.1.1.1.1.1.1.1.1.2, hk_.1.1.1.1.1.1.1.1.1.2, hk_.1.1.1.1.1.1.1.1.2, hk_.1.1.1.1.1.1.1.2, hk_.1.1.1.1.1.1.2, hk_.1.1.1.1.1.2, hk_.1.1.1.1.2, hk_.1.1.1.2, hk_.1.1.2, hk_.1.2⟩ | (simp only [ne_eq] at hk_; simp only [ne_eq, hk_, not_false_eq_true, and_self]))); replace HO7018 := aQ (Kd.R_mono (ok' := fun k_ => some k_ ≠ (.slice Ao57 t7006.length co57 : Value).ownBlock ∧ some k_ ≠ (.slice Ao58 t7010.length co58 : Value).ownBlock ∧ some k_ ≠ (.slice Ao59 t7013.length co59 : Value).ownBlock ∧ some k_ ≠ (.slice Ao67 t7020.length co67 : Value).ownBlock ∧ some k_ ≠ (.slice Ao75 t7025.length co75 : Value).ownBlock ∧ some k_ ≠ (.slice Ao79 t7029.length co79 : Value).ownBlock ∧ some k_ ≠ (.slice Ao81 t7032.length co81 : Value).ownBlock ∧ some k_ ≠ (.slice Ao85 t7037.length co85 : Value).ownBlock ∧ some k_ ≠ (.slice Ao89 t7042.length co89 : Value).ownBlock ∧ some k_ ≠ (.slice Ao92 t7046.length co92 : Value).ownBlock) (Kd.R_keptB (HO7018.out) hkp (fun k_ hk_ hs_ => by first | exact (hk_.1.1.1.1.1.1.2) hs_ | (have hs2_ : some k_ = _ := hs_; simp only [hs2_, ne_eq, not_true_eq_false, and_false, false_and] at hk_))) (fun k_ hk_ => by first | exact ⟨hk_.1.1.1.1.1.1.1.1.1.1.2, hk_.1.1.1.1.1.1.1.1.1.2, hk_.1.1.1.1.1.1.1.1.2, hk_.1.1.1.1.1.1.1.2, hk_.1.1.1.1.1.1.2, hk_.1.1.1.1.1.2, hk_.1.1.1.1.2, hk_.1.1.1.2, hk_.1.1.2, hk_.1.2⟩ | (simp only [ne_eq] at hk_; simp only [ne_eq, hk_, not_false_eq_true, and_self]))); replace BK7023 := aQ (blk_kept (by (with_reducible repeat (first | apply blk_drewN | apply blk_drew | apply blk_alloc)); exact BK7023.out) hkp (fun hs_ => (fun e_ => (Kd.R_ne HO7022.out BK7023.out (by decide)) e_) hs_)); replace HO7027 := aQ (Kd.R_mono (ok' := fun k_ => some k_ ≠ (.slice Ao57 t7006.length co57 : Value).ownBlock ∧ some k_ ≠ (.slice Ao58 t7010.length co58 : Value).ownBlock ∧ some k_ ≠ (.slice Ao59 t7013.length co59 : Value).ownBlock ∧ some k_ ≠ (.slice Ao82 t7016.length co82 : Value).ownBlock ∧ some k_ ≠ (.slice Ao67 t7020.length co67 : Value).ownBlock ∧ some k_ ≠ (.slice Ao79 t7029.length co79 : Value).ownBlock ∧ some k_ ≠ (.slice Ao81 t7032.length co81 : Value).ownBlock ∧ some k_ ≠ (.slice Ao85 t7037.length co85 : Value).ownBlock ∧ some k_ ≠ (.slice Ao89 t7042.length co89 : Value).ownBlock ∧ some k_ ≠ (.slice Ao92 t7046.length co92 : Value).ownBlock) (Kd.R_keptB (HO7027.out) hkp (fun k_ hk_ hs_ => by first | exact (hk_.1.1.1.1.1.2) hs_ | (have hs2_ : some k_ = _ := hs_; simp only [hs2_, ne_eq, not_true_eq_false, and_false, false_and] at hk_))) (fun k_ hk_ => by first | exact ⟨hk_.1.1.1.1.1.1.1.1.1.1.2, hk_.1.1.1.1.1.1.1.1.1.2, hk_.1.1.1.1.1.1.1.1.2, hk_.1.1.1.1.1.1.1.2, hk_.1.1.1.1.1.1.2, hk_.1.1.1.1.1.2, hk_.1.1.1.1.2, hk_.1.1.1.2, hk_.1.1.2, hk_.1.2⟩ | (simp only [ne_eq] at hk_; simp only [ne_eq, hk_, not_false_eq_true, and_self]))); replace BK7028 := aQ (blk_kept (by (with_reducible repeat (first | apply blk_drewN | apply blk_drew | apply blk_alloc)); exact BK7028.out) hkp (fun hs_ => (fun e_ => (Kd.R_ne HO7022.out BK7028.out (by decide)) e_) hs_)); replace HO7022 := aQ (Kd.R_reok rfl hy0 (fun k_ e_ => HO7022.out.1 k_ e_)); replace HO7031 := aQ (Kd.R_mono (ok' := fun k_ => some k_ ≠ (.slice Ao57 t7006.length co57 : Value).ownBlock ∧ some k_ ≠ (.slice Ao58 t7010.length co58 : Value).ownBlock ∧ some k_ ≠ (.slice Ao59 t7013.length co59 : Value).ownBlock ∧ some k_ ≠ (.slice Ao82 t7016.length co82 : Value).ownBlock ∧ some k_ ≠ (.slice Ao67 t7020.length co67 : Value).ownBlock ∧ some k_ ≠ (.slice Ao75 t7025.length co75 : Value).ownBlock ∧ some k_ ≠ (.slice Ao81 t7032.length co81 : Value).ownBlock ∧ some k_ ≠ (.slice Ao85 t7037.length co85 : Value).ownBlock ∧ some k_ ≠ (.slice Ao89 t7042.length co89 : Value).ownBlock ∧ some k_ ≠ (.slice Ao92 t7046.length co92 : Value).ownBlock) (Kd.R_keptB (HO7031.out) hkp (fun k_ hk_ hs_ => by first | exact (hk_.1.1.1.1.1.2) hs_ | (have hs2_ : some k_ = _ := hs_; simp only [hs2_, ne_eq, not_true_eq_false, and_false, false_and] at hk_))) (fun k_ hk_ => by first | exact ⟨hk_.1.1.1.1.1.1.1.1.1.1.2, hk_.1.1.1.1.1.1.1.1.1.2, hk_.1.1.1.1.1.1.1.1.2, hk_.1.1.1.1.1.1.1.2, hk_.1.1.1.1.1.1.2, hk_.1.1.1.1.1.2, hk_.1.1.1.1.2, hk_.1.1.1.2, hk_.1.1.2, hk_.1.2⟩ | (simp only [ne_eq] at hk_; simp only [ne_eq, hk_, not_false_eq_true, and_self]))); replace HO7034 := aQ (Kd.R_mono (ok' := fun k_ => some k_ ≠ (.slice Ao57 t7006.length co57 : Value).ownBlock ∧ some k_ ≠ (.slice Ao58 t7010.length co58 : Value).ownBlock ∧ some k_ ≠ (.slice Ao59 t7013.length co59 : Value).ownBlock ∧ some k_ ≠ (.slice Ao82 t7016.length co82 : Value).ownBlock ∧ some k_ ≠ (.slice Ao67 t7020.length co67 : Value).ownBlock ∧ some k_ ≠ (.slice Ao75 t7025.length co75 : Value).ownBlock ∧ some k_ ≠ (.slice Ao79 t7029.length co79 : Value).ownBlock ∧ some k_ ≠ (.slice Ao85 t7037.length co85 : Value).ownBlock ∧ some k_ ≠ (.slice Ao89 t7042.length co89 : Value).ownBlock ∧ some k_ ≠ (.slice Ao92 t7046.length co92 : Value).ownBlock) (Kd.R_keptB (HO7034.out) hkp (fun k_ hk_ hs_ => by first | exact (hk_.1.1.1.1.1.2) hs_ | (have hs2_ : some k_ = _ := hs_; simp only [hs2_, ne_eq, not_true_eq_false, and_false, false_and] at hk_))) (fun k_ hk_ => by first | exact ⟨hk_.1.1.1.1.1.1.1.1.1.1.2, hk_.1.1.1.1.1.1.1.1.1.2, hk_.1.1.1.1.1.1.1.1.2, hk_.1.1.1.1.1.1.1.2, hk_.1.1.1.1.1.1.2, hk_.1.1.1.1.1.2, hk_.1.1.1.1.2, hk_.1.1.1.2, hk_.1.1.2, hk_.1.2⟩ | (simp only [ne_eq] at hk_; simp only [ne_eq, hk_, not_false_eq_true, and_self]))); replace HO7039 := aQ (Kd.R_mono (ok' := fun k_ => some k_ ≠ (.slice Ao57 t7006.length co57 : Value).ownBlock ∧ some k_ ≠ (.slice Ao58 t7010.length co58 : Value).ownBlock ∧ some k_ ≠ (.slice Ao59 t7013.length co59 : Value).ownBlock ∧ some k_ ≠ (.slice Ao82 t7016.length co82 : Value).ownBlock ∧ some k_ ≠ (.slice Ao67 t7020.length co67 : Value).ownBlock ∧ some k_ ≠ (.slice Ao75 t7025.length co75 : Value).ownBlock ∧ some k_ ≠ (.slice Ao79 t7029.length co79 : Value).ownBlock ∧ some k_ ≠ (.slice Ao81 t7032.length co81 : Value).ownBlock ∧ some k_ ≠ (.slice Ao89 t7042.length co89 : Value).ownBlock ∧ some k_ ≠ (.slice Ao92 t7046.length co92 : Value).ownBlock) (Kd.R_keptB (HO7039.out) hkp (fun k_ hk_ hs_ => by first | exact (hk_.1.1.1.1.1.2) hs_ | (have hs2_ : some k_ = _ := hs_; simp only [hs2_, ne_eq, not_true_eq_false, and_false, false_and] at hk_))) (fun k_ hk_ => by first | exact ⟨hk_.1.1.1.1.1.1.1.1.1.1.2, hk_.1.1.1.1.1.1.1.1.1.2, hk_.1.1.1.1.1.1.1.1.2, hk_.1.1.1.1.1.1.1.2, hk_.1.1.1.1.1.1.2, hk_.1.1.1.1.1.2, hk_.1.1.1.1.2, hk_.1.1.1.2, hk_.1.1.2, hk_.1.2⟩ | (simp only [ne_eq] at hk_; simp only [ne_eq, hk_, not_false_eq_true, and_self]))); replace HO7044 := aQ (Kd.R_mono (ok' := fun k_ => some k_ ≠ (.slice Ao57 t7006.length co57 : Value).ownBlock ∧ some k_ ≠ (.slice Ao58 t7010.length co58 : Value).ownBlock ∧ some k_ ≠ (.slice Ao59 t7013.length co59 : Value).ownBlock ∧ some k_ ≠ (.slice Ao82 t7016.length co82 : Value).ownBlock ∧ some k_ ≠ (.slice Ao67 t7020.length co67 : Value).ownBlock ∧ some k_ ≠ (.slice Ao75 t7025.length co75 : Value).ownBlock ∧ some k_ ≠ (.slice Ao79 t7029.length co79 : Value).ownBlock ∧ some k_ ≠ (.slice Ao81 t7032.length co81 : Value).ownBlock ∧ some k_ ≠ (.slice Ao85 t7037.length co85 : Value).ownBlock ∧ some k_ ≠ (.slice Ao92 t7046.length co92 : Value).ownBlock) (Kd.R_keptB (HO7044.out) hkp (fun k_ hk_ hs_ => by first | exact (hk_.1.1.1.1.1.2) hs_ | (have hs2_ : some k_ = _ := hs_; simp only [hs2_, ne_eq, not_true_eq_false, and_false, false_and] at hk_))) (fun k_ hk_ => by first | exact ⟨hk_.1.1.1.1.1.1.1.1.1.1.2, hk_.1.1.1.1.1.1.1.1.1.2, hk_.1.1.1.1.1.1.1.1.2, hk_.1.1.1.1.1.1.1.2, hk_.1.1.1.1.1.1.2, hk_.1.1.1.1.1.2, hk_.1.1.1.1.2, hk_.1.1.1.2, hk_.1.1.2, hk_.1.2⟩ | (simp only [ne_eq] at hk_; simp only [ne_eq, hk_, not_false_eq_true, and_self]))); replace HO7048 := aQ (Kd.R_mono (ok' := fun k_ => some k_ ≠ (.slice Ao57 t7006.length co57 : Value).ownBlock ∧ some k_ ≠ (.slice Ao58 t7010.length co58 : Value).ownBlock ∧ some k_ ≠ (.slice Ao59 t7013.length co59 : Value).ownBlock ∧ some k_ ≠ (.slice Ao82 t7016.length co82 : Value).ownBlock ∧ some k_ ≠ (.slice Ao67 t7020.length co67 : Value).ownBlock ∧ some k_ ≠ (.slice Ao75 t7025.length co75 : Value).ownBlock ∧ some k_ ≠ (.slice Ao79 t7029.length co79 : Value).ownBlock ∧ some k_ ≠ (.slice Ao81 t7032.length co81 : Value).ownBlock ∧ some k_ ≠ (.slice Ao85 t7037.length co85 : Value).ownBlock ∧ some k_ ≠ (.slice Ao89 t7042.length co89 : Value).ownBlock) (Kd.R_keptB (HO7048.out) hkp (fun k_ hk_ hs_ => by first | exact (hk_.1.1.1.1.1.2) hs_ | (have hs2_ : some k_ = _ := hs_; simp only [hs2_, ne_eq, not_true_eq_false, and_false, false_and] at hk_))) (fun k_ hk_ => by first | exact ⟨hk_.1.1.1.1.1.1.1.1.1.1.2, hk_.1.1.1.1.1.1.1.1.1.2, hk_.1.1.1.1.1.1.1.1.2, hk_.1.1.1.1.1.1.1.2, hk_.1.1.1.1.1.1.2, hk_.1.1.1.1.1.2, hk_.1.1.1.1.2, hk_.1.1.1.2, hk_.1.1.2, hk_.1.2⟩ | (simp only [ne_eq] at hk_; simp only [ne_eq, hk_, not_false_eq_true, and_self]))); replace HB := aQ (hb); (try clear hb); (try clear hkp); (try clear hy0); have hcz95_0 := bc (v := (.int .i64 t7024)) BK7028.out 0; have hcz95_1 := bc (v := (.slice Ao75 t7025.length co75)) BK7028.out 1; have hfz95_0 := blk_frozen BK7028.out 0; have hfz95_1 := blk_frozen BK7028.out 1) | ((with_reducible refine gate_callee (f := 21) rfl ?_); refine goesL_ (some 71) rfl rfl Try.func21 (by kernel_rfl) rfl #[.agg #[.int .i64 t7024, .slice Ao75 t7025.length co75], .int .i64 t7050] rfl lm ?_; (with_reducible refine (laws_markMatroid.calls k t7024 (fun k_ => some k_ = (.slice Ao75 t7025.length co75 : Value).ownBlock) (.slice Ao75 t7025.length co75) t7025 t7050 t7052 t7053 w _ ?side1 ?side2 A43.out).mono ?_); (case side1 => repeat (first | (with_reducible first | exact HB.out | apply below_alloc | apply pw_below_drewN | apply below_drew1 | refine below_set ?_ GE7001.out | refine below_set ?_ GE7002.out | refine below_set ?_ GE7023.out | refine below_set ?_ GE7028.out) | exact HB.out)); (case side2 => exact Kd.R_tight rfl HO7027.out); rintro e w96 ⟨rfl, hy0, hb, hkp⟩; refine ⟨_, rfl, ?_⟩; replace BK7001 := aQ (blk_kept (by (with_reducible repeat (first | apply blk_drewN | apply blk_drew | apply blk_alloc)); exact BK7001.out) hkp (fun hs_ => (fun e_ => (Kd.R_ne HO7027.out BK7001.out (by decide)) e_) hs_)); replace BK7002 := aQ (blk_kept (by (with_reducible repeat (first | apply blk_drewN | apply blk_drew | apply blk_alloc)); exact BK7002.out) hkp (fun hs_ => (fun e_ => (Kd.R_ne HO7027.out BK7002.out (by decide)) e_) hs_)); replace HO7008 := aQ (Kd.R_mono (ok' := fun k_ => some k_ ≠ (.slice Ao58 t7010.length co58 : Value).ownBlock ∧ some k_ ≠ (.slice Ao59 t7013.length co59 : Value).ownBlock ∧ some k_ ≠ (.slice Ao82 t7016.length co82 : Value).ownBlock ∧ some k_ ≠ (.slice Ao67 t7020.length co67 : Value).ownBlock ∧ some k_ ≠ (.slice Ao75 t7025.length co75 : Value).ownBlock ∧ some k_ ≠ (.slice Ao79 t7029.length co79 : Value).ownBlock ∧ some k_ ≠ (.slice Ao81 t7032.length co81 : Value).ownBlock ∧ some k_ ≠ (.slice Ao85 t7037.length co85 : Value).ownBlock ∧ some k_ ≠ (.slice Ao89 t7042.length co89 : Value).ownBlock ∧ some k_ ≠ (.slice Ao92 t7046.length co92 : Value).ownBlock) (Kd.R_keptB (HO7008.out) hkp (fun k_ hk_ hs_ => by first | exact (hk_.2.2.2.2.1) hs_ | (have hs2_ : some k_ = _ := hs_; simp only [hs2_, ne_eq, not_true_eq_false, and_false, false_and] at hk_))) (fun k_ hk_ => by first | exact ⟨hk_.1.1, hk_.1.2.1, hk_.1.2.2.1, hk_.1.2.2.2.1, hk_.1.2.2.2.2.1, hk_.1.2.2.2.2.2.1, hk_.1.2.2.2.2.2.2.1, hk_.1.2.2.2.2.2.2.2.1, hk_.1.2.2.2.2.2.2.2.2.1, hk_.1.2.2.2.2.2.2.2.2.2⟩ | (simp only [ne_eq] at hk_; simp only [ne_eq, hk_, not_false_eq_true, and_self]))); replace HO7012 := aQ (Kd.R_mono (ok' := fun k_ => some k_ ≠ (.slice Ao57 t7006.length co57 : Value).ownBlock ∧ some k_ ≠ (.slice Ao59 t7013.length co59 : Value).ownBlock ∧ some k_ ≠ (.slice Ao82 t7016.length co82 : Value).ownBlock ∧ some k_ ≠ (.slice Ao67 t7020.length co67 : Value).ownBlock ∧ some k_ ≠ (.slice Ao75 t7025.length co75 : Value).ownBlock ∧ some k_ ≠ (.slice Ao79 t7029.length co79 : Value).ownBlock ∧ some k_ ≠ (.slice Ao81 t7032.length co81 : Value).ownBlock ∧ some k_ ≠ (.slice Ao85 t7037.length co85 : Value).ownBlock ∧ some k_ ≠ (.slice Ao89 t7042.length co89 : Value).ownBlock ∧ some k_ ≠ (.slice Ao92 t7046.length co92 : Value).ownBlock) (Kd.R_keptB (HO7012.out) hkp (fun k_ hk_ hs_ => by first | exact (hk_.2.2.2.2.1) hs_ | (have hs2_ : some k_ = _ := hs_; simp only [hs2_, ne_eq, not_true_eq_false, and_false, false_and] at hk_))) (fun k_ hk_ => by first | exact ⟨hk_.1.1, hk_.1.2.1, hk_.1.2.2.1, hk_.1.2.2.2.1, hk_.1.2.2.2.2.1, hk_.1.2.2.2.2.2.1, hk_.1.2.2.2.2.2.2.1, hk_.1.2.2.2.2.2.2.2.1, hk_.1.2.2.2.2.2.2.2.2.1, hk_.1.2.2.2.2.2.2.2.2.2⟩ | (simp only [ne_eq] at hk_; simp only [ne_eq, hk_, not_false_eq_true, and_self]))); replace HO7015 := aQ (Kd.R_mono (ok' := fun k_ => some k_ ≠ (.slice Ao57 t7006.length co57 : Value).ownBlock ∧ some k_ ≠ (.slice Ao58 t7010.length co58 : Value).ownBlock ∧ some k_ ≠ (.slice Ao82 t7016.length co82 : Value).ownBlock ∧ some k_ ≠ (.slice Ao67 t7020.length co67 : Value).ownBlock ∧ some k_ ≠ (.slice Ao75 t7025.length co75 : Value).ownBlock ∧ some k_ ≠ (.slice Ao79 t7029.length co79 : Value).ownBlock ∧ some k_ ≠ (.slice Ao81 t7032.length co81 : Value).ownBlock ∧ some k_ ≠ (.slice Ao85 t7037.length co85 : Value).ownBlock ∧ some k_ ≠ (.slice Ao89 t7042.length co89 : Value).ownBlock ∧ some k_ ≠ (.slice Ao92 t7046.length co92 : Value).ownBlock) (Kd.R_keptB (HO7015.out) hkp (fun k_ hk_ hs_ => by first | exact (hk_.2.2.2.2.1) hs_ | (have hs2_ : some k_ = _ := hs_; simp only [hs2_, ne_eq, not_true_eq_false, and_false, false_and] at hk_))) (fun k_ hk_ => by first | exact ⟨hk_.1.1, hk_.1.2.1, hk_.1.2.2.1, hk_.1.2.2.2.1, hk_.1.2.2.2.2.1, hk_.1.2.2.2.2.2.1, hk_.1.2.2.2.2.2.2.1, hk_.1.2.2.2.2.2.2.2.1, hk_.1.2.2.2.2.2.2.2.2.1, hk_.1.2.2.2.2.2.2.2.2.2⟩ | (simp only [ne_eq] at hk_; simp only [ne_eq, hk_, not_false_eq_true, and_self]))); replace HO7018 := aQ (Kd.R_mono (ok' := fun k_ => some k_ ≠ (.slice Ao57 t7006.length co57 : Value).ownBlock ∧ some k_ ≠ (.slice Ao58 t7010.length co58 : Value).ownBlock ∧ some k_ ≠ (.slice Ao59 t7013.length co59 : Value).ownBlock ∧ some k_ ≠ (.slice Ao67 t7020.length co67 : Value).ownBlock ∧ some k_ ≠ (.slice Ao75 t7025.length co75 : Value).ownBlock ∧ some k_ ≠ (.slice Ao79 t7029.length co79 : Value).ownBlock ∧ some k_ ≠ (.slice Ao81 t7032.length co81 : Value).ownBlock ∧ some k_ ≠ (.slice Ao85 t7037.length co85 : Value).ownBlock ∧ some k_ ≠ (.slice Ao89 t7042.length co89 : Value).ownBlock ∧ some k_ ≠ (.slice Ao92 t7046.length co92 : Value).ownBlock) (Kd.R_keptB (HO7018.out) hkp (fun k_ hk_ hs_ => by first | exact (hk_.2.2.2.2.1) hs_ | (have hs2_ : some k_ = _ := hs_; simp only [hs2_, ne_eq, not_true_eq_false, and_false, false_and] at hk_))) (fun k_ hk_ => by first | exact ⟨hk_.1.1, hk_.1.2.1, hk_.1.2.2.1, hk_.1.2.2.2.1, hk_.1.2.2.2.2.1, hk_.1.2.2.2.2.2.1, hk_.1.2.2.2.2.2.2.1, hk_.1.2.2.2.2.2.2.2.1, hk_.1.2.2.2.2.2.2.2.2.1, hk_.1.2.2.2.2.2.2.2.2.2⟩ | (simp only [ne_eq] at hk_; simp only [ne_eq, hk_, not_false_eq_true, and_self]))); replace HO7022 := aQ (Kd.R_mono (ok' := fun k_ => some k_ ≠ (.slice Ao57 t7006.length co57 : Value).ownBlock ∧ some k_ ≠ (.slice Ao58 t7010.length co58 : Value).ownBlock ∧ some k_ ≠ (.slice Ao59 t7013.length co59 : Value).ownBlock ∧ some k_ ≠ (.slice Ao82 t7016.length co82 : Value).ownBlock ∧ some k_ ≠ (.slice Ao75 t7025.length co75 : Value).ownBlock ∧ some k_ ≠ (.slice Ao79 t7029.length co79 : Value).ownBlock ∧ some k_ ≠ (.slice Ao81 t7032.length co81 : Value).ownBlock ∧ some k_ ≠ (.slice Ao85 t7037.length co85 : Value).ownBlock ∧ some k_ ≠ (.slice Ao89 t7042.length co89 : Value).ownBlock ∧ some k_ ≠ (.slice Ao92 t7046.length co92 : Value).ownBlock) (Kd.R_keptB (HO7022.out) hkp (fun k_ hk_ hs_ => by first | exact (hk_.1.1.1.1.1.2) hs_ | (have hs2_ : some k_ = _ := hs_; simp only [hs2_, ne_eq, not_true_eq_false, and_false, false_and] at hk_))) (fun k_ hk_ => by first | exact ⟨hk_.1.1.1.1.1.1.1.1.1.1.2, hk_.1.1.1.1.1.1.1.1.1.2, hk_.1.1.1.1.1.1.1.1.2, hk_.1.1.1.1.1.1.1.2, hk_.1.1.1.1.1.1.2, hk_.1.1.1.1.1.2, hk_.1.1.1.1.2, hk_.1.1.1.2, hk_.1.1.2, hk_.1.2⟩ | (simp only [ne_eq] at hk_; simp only [ne_eq, hk_, not_false_eq_true, and_self]))); replace BK7023 := aQ (blk_kept (by (with_reducible repeat (first | apply blk_drewN | apply blk_drew | apply blk_alloc)); exact BK7023.out) hkp (fun hs_ => (fun e_ => (Kd.R_ne HO7027.out BK7023.out (by decide)) e_) hs_)); replace BK7028 := aQ (blk_kept (by (with_reducible repeat (first | apply blk_drewN | apply blk_drew | apply blk_alloc)); exact BK7028.out) hkp (fun hs_ => (fun e_ => (Kd.R_ne HO7027.out BK7028.out (by decide)) e_) hs_)); replace HO7027 := aQ (Kd.R_reok rfl hy0 (fun k_ e_ => HO7027.out.1 k_ e_)); replace HO7031 := aQ (Kd.R_mono (ok' := fun k_ => some k_ ≠ (.slice Ao57 t7006.length co57 : Value).ownBlock ∧ some k_ ≠ (.slice Ao58 t7010.length co58 : Value).ownBlock ∧ some k_ ≠ (.slice Ao59 t7013.length co59 : Value).ownBlock ∧ some k_ ≠ (.slice Ao82 t7016.length co82 : Value).ownBlock ∧ some k_ ≠ (.slice Ao67 t7020.length co67 : Value).ownBlock ∧ some k_ ≠ (.slice Ao75 t7025.length co75 : Value).ownBlock ∧ some k_ ≠ (.slice Ao81 t7032.length co81 : Value).ownBlock ∧ some k_ ≠ (.slice Ao85 t7037.length co85 : Value).ownBlock ∧ some k_ ≠ (.slice Ao89 t7042.length co89 : Value).ownBlock ∧ some k_ ≠ (.slice Ao92 t7046.length co92 : Value).ownBlock) (Kd.R_keptB (HO7031.out) hkp (fun k_ hk_ hs_ => by first | exact (hk_.2.2.2.2.2.1) hs_ | (have hs2_ : some k_ = _ := hs_; simp only [hs2_, ne_eq, not_true_eq_false, and_false, false_and] at hk_))) (fun k_ hk_ => by first | exact ⟨hk_.1.1, hk_.1.2.1, hk_.1.2.2.1, hk_.1.2.2.2.1, hk_.1.2.2.2.2.1, hk_.1.2.2.2.2.2.1, hk_.1.2.2.2.2.2.2.1, hk_.1.2.2.2.2.2.2.2.1, hk_.1.2.2.2.2.2.2.2.2.1, hk_.1.2.2.2.2.2.2.2.2.2⟩ | (simp only [ne_eq] at hk_; simp only [ne_eq, hk_, not_false_eq_true, and_self]))); replace HO7034 := aQ (Kd.R_mono (ok' := fun k_ => some k_ ≠ (.slice Ao57 t7006.length co57 : Value).ownBlock ∧ some k_ ≠ (.slice Ao58 t7010.length co58 : Value).ownBlock ∧ some k_ ≠ (.slice Ao59 t7013.length co59 : Value).ownBlock ∧ some k_ ≠ (.slice Ao82 t7016.length co82 : Value).ownBlock ∧ some k_ ≠ (.slice Ao67 t7020.length co67 : Value).ownBlock ∧ some k_ ≠ (.slice Ao75 t7025.length co75 : Value).ownBlock ∧ some k_ ≠ (.slice Ao79 t7029.length co79 : Value).ownBlock ∧ some k_ ≠ (.slice Ao85 t7037.length co85 : Value).ownBlock ∧ some k_ ≠ (.slice Ao89 t7042.length co89 : Value).ownBlock ∧ some k_ ≠ (.slice Ao92 t7046.length co92 : Value).ownBlock) (Kd.R_keptB (HO7034.out) hkp (fun k_ hk_ hs_ => by first | exact (hk_.2.2.2.2.2.1) hs_ | (have hs2_ : some k_ = _ := hs_; simp only [hs2_, ne_eq, not_true_eq_false, and_false, false_and] at hk_))) (fun k_ hk_ => by first | exact ⟨hk_.1.1, hk_.1.2.1, hk_.1.2.2.1, hk_.1.2.2.2.1, hk_.1.2.2.2.2.1, hk_.1.2.2.2.2.2.1, hk_.1.2.2.2.2.2.2.1, hk_.1.2.2.2.2.2.2.2.1, hk_.1.2.2.2.2.2.2.2.2.1, hk_.1.2.2.2.2.2.2.2.2.2⟩ | (simp only [ne_eq] at hk_; simp only [ne_eq, hk_, not_false_eq_true, and_self]))); replace HO7039 := aQ (Kd.R_mono (ok' := fun k_ => some k_ ≠ (.slice Ao57 t7006.length co57 : Value).ownBlock ∧ some k_ ≠ (.slice Ao58 t7010.length co58 : Value).ownBlock ∧ some k_ ≠ (.slice Ao59 t7013.length co59 : Value).ownBlock ∧ some k_ ≠ (.slice Ao82 t7016.length co82 : Value).ownBlock ∧ some k_ ≠ (.slice Ao67 t7020.length co67 : Value).ownBlock ∧ some k_ ≠ (.slice Ao75 t7025.length co75 : Value).ownBlock ∧ some k_ ≠ (.slice Ao79 t7029.length co79 : Value).ownBlock ∧ some k_ ≠ (.slice Ao81 t7032.length co81 : Value).ownBlock ∧ some k_ ≠ (.slice Ao89 t7042.length co89 : Value).ownBlock ∧ some k_ ≠ (.slice Ao92 t7046.length co92 : Value).ownBlock) (Kd.R_keptB (HO7039.out) hkp (fun k_ hk_ hs_ => by first | exact (hk_.2.2.2.2.2.1) hs_ | (have hs2_ : some k_ = _ := hs_; simp only [hs2_, ne_eq, not_true_eq_false, and_false, false_and] at hk_))) (fun k_ hk_ => by first | exact ⟨hk_.1.1, hk_.1.2.1, hk_.1.2.2.1, hk_.1.2.2.2.1, hk_.1.2.2.2.2.1, hk_.1.2.2.2.2.2.1, hk_.1.2.2.2.2.2.2.1, hk_.1.2.2.2.2.2.2.2.1, hk_.1.2.2.2.2.2.2.2.2.1, hk_.1.2.2.2.2.2.2.2.2.2⟩ | (simp only [ne_eq] at hk_; simp only [ne_eq, hk_, not_false_eq_true, and_self]))); replace HO7044 := aQ (Kd.R_mono (ok' := fun k_ => some k_ ≠ (.slice Ao57 t7006.length co57 : Value).ownBlock ∧ some k_ ≠ (.slice Ao58 t7010.length co58 : Value).ownBlock ∧ some k_ ≠ (.slice Ao59 t7013.length co59 : Value).ownBlock ∧ some k_ ≠ (.slice Ao82 t7016.length co82 : Value).ownBlock ∧ some k_ ≠ (.slice Ao67 t7020.length co67 : Value).ownBlock ∧ some k_ ≠ (.slice Ao75 t7025.length co75 : Value).ownBlock ∧ some k_ ≠ (.slice Ao79 t7029.length co79 : Value).ownBlock ∧ some k_ ≠ (.slice Ao81 t7032.length co81 : Value).ownBlock ∧ some k_ ≠ (.slice Ao85 t7037.length co85 : Value).ownBlock ∧ some k_ ≠ (.slice Ao92 t7046.length co92 : Value).ownBlock) (Kd.R_keptB (HO7044.out) hkp (fun k_ hk_ hs_ => by first | exact (hk_.2.2.2.2.2.1) hs_ | (have hs2_ : some k_ = _ := hs_; simp only [hs2_, ne_eq, not_true_eq_false, and_false, false_and] at hk_))) (fun k_ hk_ => by first | exact ⟨hk_.1.1, hk_.1.2.1, hk_.1.2.2.1, hk_.1.2.2.2.1, hk_.1.2.2.2.2.1, hk_.1.2.2.2.2.2.1, hk_.1.2.2.2.2.2.2.1, hk_.1.2.2.2.2.2.2.2.1, hk_.1.2.2.2.2.2.2.2.2.1, hk_.1.2.2.2.2.2.2.2.2.2⟩ | (simp only [ne_eq] at hk_; simp only [ne_eq, hk_, not_false_eq_true, and_self]))); replace HO7048 := aQ (Kd.R_mono (ok' := fun k_ => some k_ ≠ (.slice Ao57 t7006.length co57 : Value).ownBlock ∧ some k_ ≠ (.slice Ao58 t7010.length co58 : Value).ownBlock ∧ some k_ ≠ (.slice Ao59 t7013.length co59 : Value).ownBlock ∧ some k_ ≠ (.slice Ao82 t7016.length co82 : Value).ownBlock ∧ some k_ ≠ (.slice Ao67 t7020.length co67 : Value).ownBlock ∧ some k_ ≠ (.slice Ao75 t7025.length co75 : Value).ownBlock ∧ some k_ ≠ (.slice Ao79 t7029.length co79 : Value).ownBlock ∧ some k_ ≠ (.slice Ao81 t7032.length co81 : Value).ownBlock ∧ some k_ ≠ (.slice Ao85 t7037.length co85 : Value).ownBlock ∧ some k_ ≠ (.slice Ao89 t7042.length co89 : Value).ownBlock) (Kd.R_keptB (HO7048.out) hkp (fun k_ hk_ hs_ => by first | exact (hk_.2.2.2.2.2.1) hs_ | (have hs2_ : some k_ = _ := hs_; simp only [hs2_, ne_eq, not_true_eq_false, and_false, false_and] at hk_))) (fun k_ hk_ => by first | exact ⟨hk_.1.1, hk_.1.2.1, hk_.1.2.2.1, hk_.1.2.2.2.1, hk_.1.2.2.2.2.1, hk_.1.2.2.2.2.2.1, hk_.1.2.2.2.2.2.2.1, hk_.1.2.2.2.2.2.2.2.1, hk_.1.2.2.2.2.2.2.2.2.1, hk_.1.2.2.2.2.2.2.2.2.2⟩ | (simp only [ne_eq] at hk_; simp only [ne_eq, hk_, not_false_eq_true, and_self]))); replace HB := aQ (hb); (try clear hb); (try clear hkp); (try clear hy0)) | ((with_reducible refine gate_callee (f := 26) rfl ?_); refine goesL_ (some 74) rfl rfl Try.func26 (by kernel_rfl) rfl #[.slice Ao79 t7029.length co79, .int .i64 t7052] rfl lm ?_; (with_reducible refine (laws_markIntS.calls k (fun k_ => some k_ = (.slice Ao79 t7029.length co79 : Value).ownBlock) (.slice Ao79 t7029.length co79) t7029 t7052 t7054 t7055 w _ ?side1 ?side2 A44.out).mono ?_); (case side1 => repeat (first | (with_reducible first | exact HB.out | apply below_alloc | apply pw_below_drewN | apply below_drew1 | refine below_set ?_ GE7001.out | refine below_set ?_ GE7002.out | refine below_set ?_ GE7023.out | refine below_set ?_ GE7028.out) | exact HB.out)); (case side2 => exact Kd.R_tight rfl HO7031.out); rintro e w97 ⟨rfl, hy0, hb, hkp⟩; refine ⟨_, rfl, ?_⟩; replace BK7001 := aQ (blk_kept (by (with_reducible repeat (first | apply blk_drewN | apply blk_drew | apply blk_alloc)); exact BK7001.out) hkp (fun hs_ => (fun e_ => (Kd.R_ne HO7031.out BK7001.out (by decide)) e_) hs_)); replace BK7002 := aQ (blk_kept (by (with_reducible repeat (first | apply blk_drewN | apply blk_drew | apply blk_alloc)); exact BK7002.out) hkp (fun hs_ => (fun e_ => (Kd.R_ne HO7031.out BK7002.out (by decide)) e_) hs_)); replace HO7008 := aQ (Kd.R_mono (ok' := fun k_ => some k_ ≠ (.slice Ao58 t7010.length co58 : Value).ownBlock ∧ some k_ ≠ (.slice Ao59 t7013.length co59 : Value).ownBlock ∧ some k_ ≠ (.slice Ao82 t7016.length co82 : Value).ownBlock ∧ some k_ ≠ (.slice Ao67 t7020.length co67 : Value).ownBlock ∧ some k_ ≠ (.slice Ao75 t7025.length co75 : Value).ownBlock ∧ some k_ ≠ (.slice Ao79 t7029.length co79 : Value).ownBlock ∧ some k_ ≠ (.slice Ao81 t7032.length co81 : Value).ownBlock ∧ some k_ ≠ (.slice Ao85 t7037.length co85 : Value).ownBlock ∧ some k_ ≠ (.slice Ao89 t7042.length co89 : Value).ownBlock ∧ some k_ ≠ (.slice Ao92 t7046.length co92 : Value).ownBlock) (Kd.R_keptB (HO7008.out) hkp (fun k_ hk_ hs_ => by first | exact (hk_.2.2.2.2.2.1) hs_ | (have hs2_ : some k_ = _ := hs_; simp only [hs2_, ne_eq, not_true_eq_false, and_false, false_and] at hk_))) (fun k_ hk_ => by first | exact ⟨hk_.1.1, hk_.1.2.1, hk_.1.2.2.1, hk_.1.2.2.2.1, hk_.1.2.2.2.2.1, hk_.1.2.2.2.2.2.1, hk_.1.2.2.2.2.2.2.1, hk_.1.2.2.2.2.2.2.2.1, hk_.1.2.2.2.2.2.2.2.2.1, hk_.1.2.2.2.2.2.2.2.2.2⟩ | (simp only [ne_eq] at hk_; simp only [ne_eq, hk_, not_false_eq_true, and_self]))); replace HO7012 := aQ (Kd.R_mono (ok' := fun k_ => some k_ ≠ (.slice Ao57 t7006.length co57 : Value).ownBlock ∧ some k_ ≠ (.slice Ao59 t7013.length co59 : Value).ownBlock ∧ some k_ ≠ (.slice Ao82 t7016.length co82 : Value).ownBlock ∧ some k_ ≠ (.slice Ao67 t7020.length co67 : Value).ownBlock ∧ some k_ ≠ (.slice Ao75 t7025.length co75 : Value).ownBlock ∧ some k_ ≠ (.slice Ao79 t7029.length co79 : Value).ownBlock ∧ some k_ ≠ (.slice Ao81 t7032.length co81 : Value).ownBlock ∧ some k_ ≠ (.slice Ao85 t7037.length co85 : Value).ownBlock ∧ some k_ ≠ (.slice Ao89 t7042.length co89 : Value).ownBlock ∧ some k_ ≠ (.slice Ao92 t7046.length co92 : Value).ownBlock) (Kd.R_keptB (HO7012.out) hkp (fun k_ hk_ hs_ => by first | exact (hk_.2.2.2.2.2.1) hs_ | (have hs2_ : some k_ = _ := hs_; simp only [hs2_, ne_eq, not_true_eq_false, and_false, false_and] at hk_))) (fun k_ hk_ => by first | exact ⟨hk_.1.1, hk_.1.2.1, hk_.1.2.2.1, hk_.1.2.2.2.1, hk_.1.2.2.2.2.1, hk_.1.2.2.2.2.2.1, hk_.1.2.2.2.2.2.2.1, hk_.1.2.2.2.2.2.2.2.1, hk_.1.2.2.2.2.2.2.2.2.1, hk_.1.2.2.2.2.2.2.2.2.2⟩ | (simp only [ne_eq] at hk_; simp only [ne_eq, hk_, not_false_eq_true, and_self]))); replace HO7015 := aQ (Kd.R_mono (ok' := fun k_ => some k_ ≠ (.slice Ao57 t7006.length co57 : Value).ownBlock ∧ some k_ ≠ (.slice Ao58 t7010.length co58 : Value).ownBlock ∧ some k_ ≠ (.slice Ao82 t7016.length co82 : Value).ownBlock ∧ some k_ ≠ (.slice Ao67 t7020.length co67 : Value).ownBlock ∧ some k_ ≠ (.slice Ao75 t7025.length co75 : Value).ownBlock ∧ some k_ ≠ (.slice Ao79 t7029.length co79 : Value).ownBlock ∧ some k_ ≠ (.slice Ao81 t7032.length co81 : Value).ownBlock ∧ some k_ ≠ (.slice Ao85 t7037.length co85 : Value).ownBlock ∧ some k_ ≠ (.slice Ao89 t7042.length co89 : Value).ownBlock ∧ some k_ ≠ (.slice Ao92 t7046.length co92 : Value).ownBlock) (Kd.R_keptB (HO7015.out) hkp (fun k_ hk_ hs_ => by first | exact (hk_.2.2.2.2.2.1) hs_ | (have hs2_ : some k_ = _ := hs_; simp only [hs2_, ne_eq, not_true_eq_false, and_false, false_and] at hk_))) (fun k_ hk_ => by first | exact ⟨hk_.1.1, hk_.1.2.1, hk_.1.2.2.1, hk_.1.2.2.2.1, hk_.1.2.2.2.2.1, hk_.1.2.2.2.2.2.1, hk_.1.2.2.2.2.2.2.1, hk_.1.2.2.2.2.2.2.2.1, hk_.1.2.2.2.2.2.2.2.2.1, hk_.1.2.2.2.2.2.2.2.2.2⟩ | (simp only [ne_eq] at hk_; simp only [ne_eq, hk_, not_false_eq_true, and_self]))); replace HO7018 := aQ (Kd.R_mono (ok' := fun k_ => some k_ ≠ (.slice Ao57 t7006.length co57 : Value).ownBlock ∧ some k_ ≠ (.slice Ao58 t7010.length co58 : Value).ownBlock ∧ some k_ ≠ (.slice Ao59 t7013.length co59 : Value).ownBlock ∧ some k_ ≠ (.slice Ao67 t7020.length co67 : Value).ownBlock ∧ some k_ ≠ (.slice Ao75 t7025.length co75 : Value).ownBlock ∧ some k_ ≠ (.slice Ao79 t7029.length co79 : Value).ownBlock ∧ some k_ ≠ (.slice Ao81 t7032.length co81 : Value).ownBlock ∧ some k_ ≠ (.slice Ao85 t7037.length co85 : Value).ownBlock ∧ some k_ ≠ (.slice Ao89 t7042.length co89 : Value).ownBlock ∧ some k_ ≠ (.slice Ao92 t7046.length co92 : Value).ownBlock) (Kd.R_keptB (HO7018.out) hkp (fun k_ hk_ hs_ => by first | exact (hk_.2.2.2.2.2.1) hs_ | (have hs2_ : some k_ = _ := hs_; simp only [hs2_, ne_eq, not_true_eq_false, and_false, false_and] at hk_))) (fun k_ hk_ => by first | exact ⟨hk_.1.1, hk_.1.2.1, hk_.1.2.2.1, hk_.1.2.2.2.1, hk_.1.2.2.2.2.1, hk_.1.2.2.2.2.2.1, hk_.1.2.2.2.2.2.2.1, hk_.1.2.2.2.2.2.2.2.1, hk_.1.2.2.2.2.2.2.2.2.1, hk_.1.2.2.2.2.2.2.2.2.2⟩ | (simp only [ne_eq] at hk_; simp only [ne_eq, hk_, not_false_eq_true, and_self]))); replace HO7022 := aQ (Kd.R_mono (ok' := fun k_ => some k_ ≠ (.slice Ao57 t7006.length co57 : Value).ownBlock ∧ some k_ ≠ (.slice Ao58 t7010.length co58 : Value).ownBlock ∧ some k_ ≠ (.slice Ao59 t7013.length co59 : Value).ownBlock ∧ some k_ ≠ (.slice Ao82 t7016.length co82 : Value).ownBlock ∧ some k_ ≠ (.slice Ao75 t7025.length co75 : Value).ownBlock ∧ some k_ ≠ (.slice Ao79 t7029.length co79 : Value).ownBlock ∧ some k_ ≠ (.slice Ao81 t7032.length co81 : Value).ownBlock ∧ some k_ ≠ (.slice Ao85 t7037.length co85 : Value).ownBlock ∧ some k_ ≠ (.slice Ao89 t7042.length co89 : Value).ownBlock ∧ some k_ ≠ (.slice Ao92 t7046.length co92 : Value).ownBlock) (Kd.R_keptB (HO7022.out) hkp (fun k_ hk_ hs_ => by first | exact (hk_.2.2.2.2.2.1) hs_ | (have hs2_ : some k_ = _ := hs_; simp only [hs2_, ne_eq, not_true_eq_false, and_false, false_and] at hk_))) (fun k_ hk_ => by first | exact ⟨hk_.1.1, hk_.1.2.1, hk_.1.2.2.1, hk_.1.2.2.2.1, hk_.1.2.2.2.2.1, hk_.1.2.2.2.2.2.1, hk_.1.2.2.2.2.2.2.1, hk_.1.2.2.2.2.2.2.2.1, hk_.1.2.2.2.2.2.2.2.2.1, hk_.1.2.2.2.2.2.2.2.2.2⟩ | (simp only [ne_eq] at hk_; simp only [ne_eq, hk_, not_false_eq_true, and_self]))); replace BK7023 := aQ (blk_kept (by (with_reducible repeat (first | apply blk_drewN | apply blk_drew | apply blk_alloc)); exact BK7023.out) hkp (fun hs_ => (fun e_ => (Kd.R_ne HO7031.out BK7023.out (by decide)) e_) hs_)); replace HO7027 := aQ (Kd.R_mono (ok' := fun k_ => some k_ ≠ (.slice Ao57 t7006.length co57 : Value).ownBlock ∧ some k_ ≠ (.slice Ao58 t7010.length co58 : Value).ownBlock ∧ some k_ ≠ (.slice Ao59 t7013.length co59 : Value).ownBlock ∧ some k_ ≠ (.slice Ao82 t7016.length co82 : Value).ownBlock ∧ some k_ ≠ (.slice Ao67 t7020.length co67 : Value).ownBlock ∧ some k_ ≠ (.slice Ao79 t7029.length co79 : Value).ownBlock ∧ some k_ ≠ (.slice Ao81 t7032.length co81 : Value).ownBlock ∧ some k_ ≠ (.slice Ao85 t7037.length co85 : Value).ownBlock ∧ some k_ ≠ (.slice Ao89 t7042.length co89 : Value).ownBlock ∧ some k_ ≠ (.slice Ao92 t7046.length co92 : Value).ownBlock) (Kd.R_keptB (HO7027.out) hkp (fun k_ hk_ hs_ => by first | exact (hk_.2.2.2.2.2.1) hs_ | (have hs2_ : some k_ = _ := hs_; simp only [hs2_, ne_eq, not_true_eq_false, and_false, false_and] at hk_))) (fun k_ hk_ => by first | exact ⟨hk_.1.1, hk_.1.2.1, hk_.1.2.2.1, hk_.1.2.2.2.1, hk_.1.2.2.2.2.1, hk_.1.2.2.2.2.2.1, hk_.1.2.2.2.2.2.2.1, hk_.1.2.2.2.2.2.2.2.1, hk_.1.2.2.2.2.2.2.2.2.1, hk_.1.2.2.2.2.2.2.2.2.2⟩ | (simp only [ne_eq] at hk_; simp only [ne_eq, hk_, not_false_eq_true, and_self]))); replace BK7028 := aQ (blk_kept (by (with_reducible repeat (first | apply blk_drewN | apply blk_drew | apply blk_alloc)); exact BK7028.out) hkp (fun hs_ => (fun e_ => (Kd.R_ne HO7031.out BK7028.out (by decide)) e_) hs_)); replace HO7031 := aQ (Kd.R_reok rfl hy0 (fun k_ e_ => HO7031.out.1 k_ e_)); replace HO7034 := aQ (Kd.R_mono (ok' := fun k_ => some k_ ≠ (.slice Ao57 t7006.length co57 : Value).ownBlock ∧ some k_ ≠ (.slice Ao58 t7010.length co58 : Value).ownBlock ∧ some k_ ≠ (.slice Ao59 t7013.length co59 : Value).ownBlock ∧ some k_ ≠ (.slice Ao82 t7016.length co82 : Value).ownBlock ∧ some k_ ≠ (.slice Ao67 t7020.length co67 : Value).ownBlock ∧ some k_ ≠ (.slice Ao75 t7025.length co75 : Value).ownBlock ∧ some k_ ≠ (.slice Ao79 t7029.length co79 : Value).ownBlock ∧ some k_ ≠ (.slice Ao85 t7037.length co85 : Value).ownBlock ∧ some k_ ≠ (.slice Ao89 t7042.length co89 : Value).ownBlock ∧ some k_ ≠ (.slice Ao92 t7046.length co92 : Value).ownBlock) (Kd.R_keptB (HO7034.out) hkp (fun k_ hk_ hs_ => by first | exact (hk_.2.2.2.2.2.2.1) hs_ | (have hs2_ : some k_ = _ := hs_; simp only [hs2_, ne_eq, not_true_eq_false, and_false, false_and] at hk_))) (fun k_ hk_ => by first | exact ⟨hk_.1.1, hk_.1.2.1, hk_.1.2.2.1, hk_.1.2.2.2.1, hk_.1.2.2.2.2.1, hk_.1.2.2.2.2.2.1, hk_.1.2.2.2.2.2.2.1, hk_.1.2.2.2.2.2.2.2.1, hk_.1.2.2.2.2.2.2.2.2.1, hk_.1.2.2.2.2.2.2.2.2.2⟩ | (simp only [ne_eq] at hk_; simp only [ne_eq, hk_, not_false_eq_true, and_self]))); replace HO7039 := aQ (Kd.R_mono (ok' := fun k_ => some k_ ≠ (.slice Ao57 t7006.length co57 : Value).ownBlock ∧ some k_ ≠ (.slice Ao58 t7010.length co58 : Value).ownBlock ∧ some k_ ≠ (.slice Ao59 t7013.length co59 : Value).ownBlock ∧ some k_ ≠ (.slice Ao82 t7016.length co82 : Value).ownBlock ∧ some k_ ≠ (.slice Ao67 t7020.length co67 : Value).ownBlock ∧ some k_ ≠ (.slice Ao75 t7025.length co75 : Value).ownBlock ∧ some k_ ≠ (.slice Ao79 t7029.length co79 : Value).ownBlock ∧ some k_ ≠ (.slice Ao81 t7032.length co81 : Value).ownBlock ∧ some k_ ≠ (.slice Ao89 t7042.length co89 : Value).ownBlock ∧ some k_ ≠ (.slice Ao92 t7046.length co92 : Value).ownBlock) (Kd.R_keptB (HO7039.out) hkp (fun k_ hk_ hs_ => by first | exact (hk_.2.2.2.2.2.2.1) hs_ | (have hs2_ : some k_ = _ := hs_; simp only [hs2_, ne_eq, not_true_eq_false, and_false, false_and] at hk_))) (fun k_ hk_ => by first | exact ⟨hk_.1.1, hk_.1.2.1, hk_.1.2.2.1, hk_.1.2.2.2.1, hk_.1.2.2.2.2.1, hk_.1.2.2.2.2.2.1, hk_.1.2.2.2.2.2.2.1, hk_.1.2.2.2.2.2.2.2.1, hk_.1.2.2.2.2.2.2.2.2.1, hk_.1.2.2.2.2.2.2.2.2.2⟩ | (simp only [ne_eq] at hk_; simp only [ne_eq, hk_, not_false_eq_true, and_self]))); replace HO7044 := aQ (Kd.R_mono (ok' := fun k_ => some k_ ≠ (.slice Ao57 t7006.length co57 : Value).ownBlock ∧ some k_ ≠ (.slice Ao58 t7010.length co58 : Value).ownBlock ∧ some k_ ≠ (.slice Ao59 t7013.length co59 : Value).ownBlock ∧ some k_ ≠ (.slice Ao82 t7016.length co82 : Value).ownBlock ∧ some k_ ≠ (.slice Ao67 t7020.length co67 : Value).ownBlock ∧ some k_ ≠ (.slice Ao75 t7025.length co75 : Value).ownBlock ∧ some k_ ≠ (.slice Ao79 t7029.length co79 : Value).ownBlock ∧ some k_ ≠ (.slice Ao81 t7032.length co81 : Value).ownBlock ∧ some k_ ≠ (.slice Ao85 t7037.length co85 : Value).ownBlock ∧ some k_ ≠ (.slice Ao92 t7046.length co92 : Value).ownBlock) (Kd.R_keptB (HO7044.out) hkp (fun k_ hk_ hs_ => by first | exact (hk_.2.2.2.2.2.2.1) hs_ | (have hs2_ : some k_ = _ := hs_; simp only [hs2_, ne_eq, not_true_eq_false, and_false, false_and] at hk_))) (fun k_ hk_ => by first | exact ⟨hk_.1.1, hk_.1.2.1, hk_.1.2.2.1, hk_.1.2.2.2.1, hk_.1.2.2.2.2.1, hk_.1.2.2.2.2.2.1, hk_.1.2.2.2.2.2.2.1, hk_.1.2.2.2.2.2.2.2.1, hk_.1.2.2.2.2.2.2.2.2.1, hk_.1.2.2.2.2.2.2.2.2.2⟩ | (simp only [ne_eq] at hk_; simp only [ne_eq, hk_, not_false_eq_true, and_self]))); replace HO7048 := aQ (Kd.R_mono (ok' := fun k_ => some k_ ≠ (.slice Ao57 t7006.length co57 : Value).ownBlock ∧ some k_ ≠ (.slice Ao58 t7010.length co58 : Value).ownBlock ∧ some k_ ≠ (.slice Ao59 t7013.length co59 : Value).ownBlock ∧ some k_ ≠ (.slice Ao82 t7016.length co82 : Value).ownBlock ∧ some k_ ≠ (.slice Ao67 t7020.length co67 : Value).ownBlock ∧ some k_ ≠ (.slice Ao75 t7025.length co75 : Value).ownBlock ∧ some k_ ≠ (.slice Ao79 t7029.length co79 : Value).ownBlock ∧ some k_ ≠ (.slice Ao81 t7032.length co81 : Value).ownBlock ∧ some k_ ≠ (.slice Ao85 t7037.length co85 : Value).ownBlock ∧ some k_ ≠ (.slice Ao89 t7042.length co89 : Value).ownBlock) (Kd.R_keptB (HO7048.out) hkp (fun k_ hk_ hs_ => by first | exact (hk_.2.2.2.2.2.2.1) hs_ | (have hs2_ : some k_ = _ := hs_; simp only [hs2_, ne_eq, not_true_eq_false, and_false, false_and] at hk_))) (fun k_ hk_ => by first | exact ⟨hk_.1.1, hk_.1.2.1, hk_.1.2.2.1, hk_.1.2.2.2.1, hk_.1.2.2.2.2.1, hk_.1.2.2.2.2.2.1, hk_.1.2.2.2.2.2.2.1, hk_.1.2.2.2.2.2.2.2.1, hk_.1.2.2.2.2.2.2.2.2.1, hk_.1.2.2.2.2.2.2.2.2.2⟩ | (simp only [ne_eq] at hk_; simp only [ne_eq, hk_, not_false_eq_true, and_self]))); replace HB := aQ (hb); (try clear hb); (try clear hkp); (try clear hy0)))
        (try simp only [Act.put, List.setIfInBounds_toArray, List.set_cons_zero, List.set_cons_succ])
        go_cut [82] (fun v82 wc => ∃ (kq : Nat) (x82_44 : Bool), v82 = .bool x82_44 ∧ Aside0 (laws_FnExactBestWeights.j0 kq l2 t7016 t7032 x82_44 a0_0 l0_1 a1_0 l1_1 = some true) ∧ Aside0 (kq ≤ k) ∧ Aside0 (Kd.R (Kd.int .i64) 3 wc w.heap.size (fun k_ => some k_ ≠ ((.slice Ao81 t7032.length co81) : Value).ownBlock ∧ some k_ ≠ ((.slice Ao67 t7020.length co67) : Value).ownBlock ∧ some k_ ≠ ((.slice Ao75 t7025.length co75) : Value).ownBlock) (.slice Ao82 t7016.length co82) t7016) ∧ Aside0 (Kd.R (Kd.int .i64) 3 wc w.heap.size (fun k_ => some k_ ≠ ((.slice Ao82 t7016.length co82) : Value).ownBlock ∧ some k_ ≠ ((.slice Ao67 t7020.length co67) : Value).ownBlock ∧ some k_ ≠ ((.slice Ao75 t7025.length co75) : Value).ownBlock) (.slice Ao81 t7032.length co81) t7032) ∧ Aside0 (Kd.R (Kd.int .i64) 3 wc w.heap.size (fun k_ => some k_ ≠ ((.slice Ao82 t7016.length co82) : Value).ownBlock ∧ some k_ ≠ ((.slice Ao81 t7032.length co81) : Value).ownBlock ∧ some k_ ≠ ((.slice Ao75 t7025.length co75) : Value).ownBlock) (.slice Ao67 t7020.length co67) t7051) ∧ Aside0 (Kd.R (Kd.int .i64) 3 wc w.heap.size (fun k_ => some k_ ≠ ((.slice Ao82 t7016.length co82) : Value).ownBlock ∧ some k_ ≠ ((.slice Ao81 t7032.length co81) : Value).ownBlock ∧ some k_ ≠ ((.slice Ao67 t7020.length co67) : Value).ownBlock) (.slice Ao75 t7025.length co75) t7053) ∧ Aside0 (wc.heap[gb7001]? = some (.cells #[.int .i64 a0_0, (.slice A0_1 l0_1.length c0_1)] 24 (0, 0))) ∧ Aside0 (wc.heap[gb7002]? = some (.cells #[.int .i64 a1_0, (.slice A1_1 l1_1.length c1_1)] 24 (0, 0))) ∧ Aside0 (wc.heap[gb7023]? = some (.cells #[.int .i64 t7019, (.slice Ao67 t7020.length co67)] 26 (0, 0))) ∧ Aside0 (wc.heap[gb7028]? = some (.cells #[.int .i64 t7024, (.slice Ao75 t7025.length co75)] 26 (0, 0))) ∧ Aside0 (Below w.heap.size w wc))
        case first =>
         have H := HC45.out
         clear HC45
         by_cases c98 : t7054 < 0
         ·rw [if_pos c98] at H
          have c98b0 : decide (t7054 < 0) = true := decide_eq_true c98
          clear c98
          (first | rw [c98b0] | (simp only [i64_w, i32_w]; rw [c98b0]) | skip)
          have H' := aQ H
          clear H
          go_wp2
          go_meet
          case rel => exact ⟨_, (true), rs_, H', ⟨by first | omega | exact Nat.le_refl _⟩, ⟨by (with_reducible repeat (first | apply Kd.R_alloc | apply Kd.R_drewN | apply Kd.R_drew)); exact Kd.R_mono HO7018.out (fun _ hk => ⟨hk.2.2.2.2.2.2.1, ⟨hk.2.2.2.1, hk.2.2.2.2.1⟩⟩)⟩, ⟨by (with_reducible repeat (first | apply Kd.R_alloc | apply Kd.R_drewN | apply Kd.R_drew)); exact Kd.R_mono HO7034.out (fun _ hk => ⟨hk.2.2.2.1, ⟨hk.2.2.2.2.1, hk.2.2.2.2.2.1⟩⟩)⟩, ⟨by (with_reducible repeat (first | apply Kd.R_alloc | apply Kd.R_drewN | apply Kd.R_drew)); exact Kd.R_mono HO7022.out (fun _ hk => ⟨hk.2.2.2.1, ⟨hk.2.2.2.2.2.2.1, hk.2.2.2.2.1⟩⟩)⟩, ⟨by (with_reducible repeat (first | apply Kd.R_alloc | apply Kd.R_drewN | apply Kd.R_drew)); exact Kd.R_mono HO7027.out (fun _ hk => ⟨hk.2.2.2.1, ⟨hk.2.2.2.2.2.2.1, hk.2.2.2.2.1⟩⟩)⟩, ⟨pk BK7001.out⟩, ⟨pk BK7002.out⟩, ⟨pk BK7023.out⟩, ⟨pk BK7028.out⟩, ⟨pB4 HB.out GE7001.out GE7002.out GE7023.out GE7028.out⟩⟩
         ·rw [if_neg c98] at H
          have c98b0 : decide (t7054 < 0) = false := decide_eq_false c98
          clear c98
          (first | rw [c98b0] | (simp only [i64_w, i32_w]; rw [c98b0]) | skip)
          replace H := Option.bind_eq_some_iff.mp H
          obtain ⟨t7056, A990, H⟩ := H
          replace H : (laws_FnExactBestWeights.j0 k l2 t7016 t7032 (!t7056) a0_0 l0_1 a1_0 l1_1) = some true := H
          have A99 := aQ A990
          clear A990
          have H' := aQ H
          clear H
          go_wp2_with (first | (go_at_call 25; (with_reducible refine (laws_eqIntS.calls k _ _ t7032 _ _ t7016 t7056 _ ?side1 ?side2 ?side3 ?side4 A99.out).mono ?_); (case side1 => repeat (first | exact (Kd.R_reads' HO7034.out).2.2 | (with_reducible refine Kd.C_alloc ?_ _) | (with_reducible refine Kd.C_drewN ?_ _) | (with_reducible refine Kd.C_drew ?_))); (case side2 => exact (Kd.R_reads' HO7034.out).2.1); (case side3 => repeat (first | exact (Kd.R_reads' HO7018.out).2.2 | (with_reducible refine Kd.C_alloc ?_ _) | (with_reducible refine Kd.C_drewN ?_ _) | (with_reducible refine Kd.C_drew ?_))); (case side4 => exact (Kd.R_reads' HO7018.out).2.1); rintro e w' ⟨rfl, ⟨nd, rfl⟩⟩))
          go_meet
          case rel => exact ⟨_, (!t7056), rs_, H', ⟨by first | omega | exact Nat.le_refl _⟩, ⟨by (with_reducible repeat (first | apply Kd.R_alloc | apply Kd.R_drewN | apply Kd.R_drew)); exact Kd.R_mono HO7018.out (fun _ hk => ⟨hk.2.2.2.2.2.2.1, ⟨hk.2.2.2.1, hk.2.2.2.2.1⟩⟩)⟩, ⟨by (with_reducible repeat (first | apply Kd.R_alloc | apply Kd.R_drewN | apply Kd.R_drew)); exact Kd.R_mono HO7034.out (fun _ hk => ⟨hk.2.2.2.1, ⟨hk.2.2.2.2.1, hk.2.2.2.2.2.1⟩⟩)⟩, ⟨by (with_reducible repeat (first | apply Kd.R_alloc | apply Kd.R_drewN | apply Kd.R_drew)); exact Kd.R_mono HO7022.out (fun _ hk => ⟨hk.2.2.2.1, ⟨hk.2.2.2.2.2.2.1, hk.2.2.2.2.1⟩⟩)⟩, ⟨by (with_reducible repeat (first | apply Kd.R_alloc | apply Kd.R_drewN | apply Kd.R_drew)); exact Kd.R_mono HO7027.out (fun _ hk => ⟨hk.2.2.2.1, ⟨hk.2.2.2.2.2.2.1, hk.2.2.2.2.1⟩⟩)⟩, ⟨pk BK7001.out⟩, ⟨pk BK7002.out⟩, ⟨pk BK7023.out⟩, ⟨pk BK7028.out⟩, ⟨pB4 HB.out GE7001.out GE7002.out GE7023.out GE7028.out⟩⟩
        case rest =>
         clear HC45
         try clear c1
         try clear c2
         try clear p2
         try clear c3
         try clear c6
         try clear c7
         try clear c9
         try clear c18
         try clear c20
         try clear c21
         try clear c25
         try clear c26
         try clear c30
         try clear c31
         try clear c32
         try clear c64
         try clear c65
         try clear c71
         try clear c72
         try clear c73
         try clear c98
         try clear c98b0
         try clear hcz61_0
         try clear hcz61_1
         try clear hcz66_0
         try clear hcz66_1
         try clear hcz68_0
         try clear hcz68_1
         try clear hcz74_0
         try clear hcz74_1
         try clear hcz77_0
         try clear hcz77_1
         try clear hcz78_0
         try clear hcz78_1
         try clear hcz93_0
         try clear hcz93_1
         try clear hcz95_0
         try clear hcz95_1
         try clear hfz61_0
         try clear hfz61_1
         try clear hfz66_0
         try clear hfz66_1
         try clear hfz68_0
         try clear hfz68_1
         try clear hfz74_0
         try clear hfz74_1
         try clear hfz77_0
         try clear hfz77_1
         try clear hfz78_0
         try clear hfz78_1
         try clear hfz93_0
         try clear hfz93_1
         try clear hfz95_0
         try clear hfz95_1
         obtain ⟨kq, x82_44, rfl, HA, HJ44, HO_8, HO_12, HO_7024001, HO_7029001, BK7001, BK7002, BK7023, BK7028, HB⟩ := hcut
         have hl7024001_44 := (Kd.R_reads' HO_7024001.out).1
         rw [hl7024001_44] at HO_7024001
         (try simp only [hl7024001_44])
         (try simp only [hl7024001_44] at BK7001)
         (try simp only [hl7024001_44] at BK7002)
         (try simp only [hl7024001_44] at BK7023)
         (try simp only [hl7024001_44] at BK7028)
         (try simp only [hl7024001_44] at HO_8)
         (try simp only [hl7024001_44] at HO_12)
         (try simp only [hl7024001_44] at HO_7029001)
         have hl7029001_44 := (Kd.R_reads' HO_7029001.out).1
         rw [hl7029001_44] at HO_7029001
         (try simp only [hl7029001_44])
         (try simp only [hl7029001_44] at BK7001)
         (try simp only [hl7029001_44] at BK7002)
         (try simp only [hl7029001_44] at BK7023)
         (try simp only [hl7029001_44] at BK7028)
         (try simp only [hl7029001_44] at HO_8)
         (try simp only [hl7029001_44] at HO_12)
         (try simp only [hl7029001_44] at HO_7024001)
         cases kq with
         | zero => exact absurd HA.out (by simp [laws_FnExactBestWeights.j0])
         | succ kj44 =>
          have H := HA.out
          clear HA
          simp only [laws_FnExactBestWeights.j0] at H
          by_cases c100 : x82_44 = true
          ·subst c100
           have H1 : (some false) = some true := by rw [if_pos rfl] at H; exact H
           clear H
           have H := H1
           clear H1
           exact absurd (Option.some.inj H) (by decide)
          ·replace c100 := Bool.eq_false_iff.mpr c100
           subst c100
           have H1 : ((laws_markIntS.f kj44 t7032 1).bind fun bt7057 => ((laws_heldIntS.f kj44 bt7057.2 1).bind fun t7059 => (if t7059 < 0 then (some false) else (if t7059 = bt7057.1 then ((laws_toMatroid.f kj44 a0_0 l0_1).bind fun bt7060 => ((laws_toMatroid.f kj44 a1_0 l1_1).bind fun bt7064 => ((laws_toIntS.f kj44 l2).bind fun t7068 => ((impl_BestWeights.f kj44 bt7060.1 bt7060.2 bt7064.1 bt7064.2 t7068).bind fun t7071 => ((laws_eqIntS.f kj44 t7071 t7016).bind fun t7074 => (if t7074 = true then ((laws_heldIntS.f kj44 bt7057.2 1).bind fun t7075 => (if t7075 < 0 then (some false) else (if t7075 = bt7057.1 then (some true) else (some false)))) else (some false))))))) else (some false))))) = some true := by rw [if_neg (show ¬ (false = true) by decide)] at H; exact H
           clear H
           have H := H1
           clear H1
           replace H := Option.bind_eq_some_iff.mp H
           obtain ⟨⟨t7057, t7058⟩, A1010, H⟩ := H
           replace H : ((laws_heldIntS.f kj44 t7058 1).bind fun t7059 => (if t7059 < 0 then (some false) else (if t7059 = t7057 then ((laws_toMatroid.f kj44 a0_0 l0_1).bind fun bt7060 => ((laws_toMatroid.f kj44 a1_0 l1_1).bind fun bt7064 => ((laws_toIntS.f kj44 l2).bind fun t7068 => ((impl_BestWeights.f kj44 bt7060.1 bt7060.2 bt7064.1 bt7064.2 t7068).bind fun t7071 => ((laws_eqIntS.f kj44 t7071 t7016).bind fun t7074 => (if t7074 = true then ((laws_heldIntS.f kj44 t7058 1).bind fun t7075 => (if t7075 < 0 then (some false) else (if t7075 = t7057 then (some true) else (some false)))) else (some false))))))) else (some false)))) = some true := H
           have A101 := aQ A1010
           clear A1010
           replace H := Option.bind_eq_some_iff.mp H
           obtain ⟨t7059, A1020, H⟩ := H
           replace H : (if t7059 < 0 then (some false) else (if t7059 = t7057 then ((laws_toMatroid.f kj44 a0_0 l0_1).bind fun bt7060 => ((laws_toMatroid.f kj44 a1_0 l1_1).bind fun bt7064 => ((laws_toIntS.f kj44 l2).bind fun t7068 => ((impl_BestWeights.f kj44 bt7060.1 bt7060.2 bt7064.1 bt7064.2 t7068).bind fun t7071 => ((laws_eqIntS.f kj44 t7071 t7016).bind fun t7074 => (if t7074 = true then ((laws_heldIntS.f kj44 t7058 1).bind fun t7075 => (if t7075 < 0 then (some false) else (if t7075 = t7057 then (some true) else (some false)))) else (some false))))))) else (some false))) = some true := H
           have A102 := aQ A1020
           clear A1020
           by_cases c103 : t7059 < 0
           ·rw [if_pos c103] at H
            have c103b0 : decide (t7059 < 0) = true := decide_eq_true c103
            clear c103
            exact absurd (Option.some.inj H) (by decide)
           ·rw [if_neg c103] at H
            have c103b0 : decide (t7059 < 0) = false := decide_eq_false c103
            clear c103
            by_cases c105 : t7059 = t7057
            ·rw [if_pos c105] at H
             have c105b0 : (t7059 == t7057) = true := beq_iff_eq.mpr c105
             have c105b1 : (t7059 != t7057) = false := bne_eq_false_iff_eq.mpr c105
             clear c105
             replace H := Option.bind_eq_some_iff.mp H
             obtain ⟨⟨t7060, t7061⟩, A1060, H⟩ := H
             replace H : ((laws_toMatroid.f kj44 a1_0 l1_1).bind fun bt7064 => ((laws_toIntS.f kj44 l2).bind fun t7068 => ((impl_BestWeights.f kj44 t7060 t7061 bt7064.1 bt7064.2 t7068).bind fun t7071 => ((laws_eqIntS.f kj44 t7071 t7016).bind fun t7074 => (if t7074 = true then ((laws_heldIntS.f kj44 t7058 1).bind fun t7075 => (if t7075 < 0 then (some false) else (if t7075 = t7057 then (some true) else (some false)))) else (some false)))))) = some true := H
             have A106 := aQ A1060
             clear A1060
             replace H := Option.bind_eq_some_iff.mp H
             obtain ⟨⟨t7064, t7065⟩, A1070, H⟩ := H
             replace H : ((laws_toIntS.f kj44 l2).bind fun t7068 => ((impl_BestWeights.f kj44 t7060 t7061 t7064 t7065 t7068).bind fun t7071 => ((laws_eqIntS.f kj44 t7071 t7016).bind fun t7074 => (if t7074 = true then ((laws_heldIntS.f kj44 t7058 1).bind fun t7075 => (if t7075 < 0 then (some false) else (if t7075 = t7057 then (some true) else (some false)))) else (some false))))) = some true := H
             have A107 := aQ A1070
             clear A1070
             replace H := Option.bind_eq_some_iff.mp H
             obtain ⟨t7068, A1080, H⟩ := H
             replace H : ((impl_BestWeights.f kj44 t7060 t7061 t7064 t7065 t7068).bind fun t7071 => ((laws_eqIntS.f kj44 t7071 t7016).bind fun t7074 => (if t7074 = true then ((laws_heldIntS.f kj44 t7058 1).bind fun t7075 => (if t7075 < 0 then (some false) else (if t7075 = t7057 then (some true) else (some false)))) else (some false)))) = some true := H
             have A108 := aQ A1080
             clear A1080
             replace H := Option.bind_eq_some_iff.mp H
             obtain ⟨t7071, A1090, H⟩ := H
             replace H : ((laws_eqIntS.f kj44 t7071 t7016).bind fun t7074 => (if t7074 = true then ((laws_heldIntS.f kj44 t7058 1).bind fun t7075 => (if t7075 < 0 then (some false) else (if t7075 = t7057 then (some true) else (some false)))) else (some false))) = some true := H
             have A109 := aQ A1090
             clear A1090
             replace H := Option.bind_eq_some_iff.mp H
             obtain ⟨t7074, A1100, H⟩ := H
             replace H : (if t7074 = true then ((laws_heldIntS.f kj44 t7058 1).bind fun t7075 => (if t7075 < 0 then (some false) else (if t7075 = t7057 then (some true) else (some false)))) else (some false)) = some true := H
             have A110 := aQ A1100
             clear A1100
             by_cases c111 : t7074 = true
             ·subst c111
              have H1 : ((laws_heldIntS.f kj44 t7058 1).bind fun t7075 => (if t7075 < 0 then (some false) else (if t7075 = t7057 then (some true) else (some false)))) = some true := by rw [if_pos rfl] at H; exact H
              clear H
              have H := H1
              clear H1
              replace H := Option.bind_eq_some_iff.mp H
              obtain ⟨t7075, A1120, H⟩ := H
              replace H : (if t7075 < 0 then (some false) else (if t7075 = t7057 then (some true) else (some false))) = some true := H
              have A112 := aQ A1120
              clear A1120
              by_cases c113 : t7075 < 0
              ·rw [if_pos c113] at H
               have c113b0 : decide (t7075 < 0) = true := decide_eq_true c113
               clear c113
               exact absurd (Option.some.inj H) (by decide)
              ·rw [if_neg c113] at H
               have c113b0 : decide (t7075 < 0) = false := decide_eq_false c113
               clear c113
               by_cases c124 : t7075 = t7057
               ·rw [if_pos c124] at H
                have c124b0 : (t7075 == t7057) = true := beq_iff_eq.mpr c124
                have c124b1 : (t7075 != t7057) = false := bne_eq_false_iff_eq.mpr c124
                clear c124
                clear H
                try go_wp2_with (first | ((with_reducible refine gate_callee (f := 26) rfl ?_); refine goesL_ (some 85) rfl rfl Try.func26 (by kernel_rfl) rfl #[.slice Ao81 t7032.length co81, .int .i64 1] rfl lm ?_; (with_reducible refine (laws_markIntS.calls kj44 (fun k_ => some k_ = (.slice Ao81 t7032.length co81 : Value).ownBlock) (.slice Ao81 t7032.length co81) t7032 1 t7057 t7058 w _ ?side1 ?side2 A101.out).mono ?_); (case side1 => repeat (first | (with_reducible first | exact HB.out | apply below_alloc | apply pw_below_drewN | apply below_drew1 | refine below_set ?_ GE7001.out | refine below_set ?_ GE7002.out | refine below_set ?_ GE7023.out | refine below_set ?_ GE7028.out) | exact HB.out)); (case side2 => exact Kd.R_tight rfl HO_12.out); rintro e w125 ⟨rfl, hy0, hb, hkp⟩; refine ⟨_, rfl, ?_⟩; replace HO_8 := aQ (Kd.R_mono (ok' := fun k_ => some k_ ≠ (.slice Ao81 t7032.length co81 : Value).ownBlock ∧ some k_ ≠ (.slice Ao67 t7051.length co67 : Value).ownBlock ∧ some k_ ≠ (.slice Ao75 t7053.length co75 : Value).ownBlock) (Kd.R_keptB (HO_8.out) hkp (fun k_ hk_ hs_ => by first | exact (hk_.1) hs_ | (have hs2_ : some k_ = _ := hs_; simp only [hs2_, ne_eq, not_true_eq_false, and_false, false_and] at hk_))) (fun k_ hk_ => by first | exact ⟨hk_.1.1, hk_.1.2.1, hk_.1.2.2⟩ | (simp only [ne_eq] at hk_; simp only [ne_eq, hk_, not_false_eq_true, and_self]))); replace HO_7024001 := aQ (Kd.R_mono (ok' := fun k_ => some k_ ≠ (.slice Ao82 t7016.length co82 : Value).ownBlock ∧ some k_ ≠ (.slice Ao81 t7032.length co81 : Value).ownBlock ∧ some k_ ≠ (.slice Ao75 t7053.length co75 : Value).ownBlock) (Kd.R_keptB (HO_7024001.out) hkp (fun k_ hk_ hs_ => by first | exact (hk_.2.1) hs_ | (have hs2_ : some k_ = _ := hs_; simp only [hs2_, ne_eq, not_true_eq_false, and_false, false_and] at hk_))) (fun k_ hk_ => by first | exact ⟨hk_.1.1, hk_.1.2.1, hk_.1.2.2⟩ | (simp only [ne_eq] at hk_; simp only [ne_eq, hk_, not_false_eq_true, and_self]))); replace HO_7029001 := aQ (Kd.R_mono (ok' := fun k_ => some k_ ≠ (.slice Ao82 t7016.length co82 : Value).ownBlock ∧ some k_ ≠ (.slice Ao81 t7032.length co81 : Value).ownBlock ∧ some k_ ≠ (.slice Ao67 t7051.length co67 : Value).ownBlock) (Kd.R_keptB (HO_7029001.out) hkp (fun k_ hk_ hs_ => by first | exact (hk_.2.1) hs_ | (have hs2_ : some k_ = _ := hs_; simp only [hs2_, ne_eq, not_true_eq_false, and_false, false_and] at hk_))) (fun k_ hk_ => by first | exact ⟨hk_.1.1, hk_.1.2.1, hk_.1.2.2⟩ | (simp only [ne_eq] at hk_; simp only [ne_eq, hk_, not_false_eq_true, and_self]))); replace BK7001 := aQ (blk_kept (by (with_reducible repeat (first | apply blk_drewN | apply blk_drew | apply blk_alloc)); exact BK7001.out) hkp (fun hs_ => (fun e_ => (Kd.R_ne HO_12.out BK7001.out (by decide)) e_) hs_)); replace BK7002 := aQ (blk_kept (by (with_reducible repeat (first | apply blk_drewN | apply blk_drew | apply blk_alloc)); exact BK7002.out) hkp (fun hs_ => (fun e_ => (Kd.R_ne HO_12.out BK7002.out (by decide)) e_) hs_)); replace BK7023 := aQ (blk_kept (by (with_reducible repeat (first | apply blk_drewN | apply blk_drew | apply blk_alloc)); exact BK7023.out) hkp (fun hs_ => (fun e_ => (Kd.R_ne HO_12.out BK7023.out (by decide)) e_) hs_)); replace BK7028 := aQ (blk_kept (by (with_reducible repeat (first | apply blk_drewN | apply blk_drew | apply blk_alloc)); exact BK7028.out) hkp (fun hs_ => (fun e_ => (Kd.R_ne HO_12.out BK7028.out (by decide)) e_) hs_)); replace HO_12 := aQ (Kd.R_reok rfl hy0 (fun k_ e_ => HO_12.out.1 k_ e_)); replace HB := aQ (hb); (try clear hb); (try clear hkp); (try clear hy0)) | ((with_reducible refine gate_callee (f := 27) rfl ?_); refine goesL_ (some 88) rfl rfl Try.func27 (by kernel_rfl) rfl #[.slice Ao81 t7058.length co81, .int .i64 1] rfl (by (try simp only [List.map_toArray, List.map_cons, List.map_nil]); first | done | (rw [show t7058.length = t7032.length from (Kd.R_reads' HO_12.out).1.symm] <;> rfl) | rfl | (simp only [List.length_drop, List.length_take]; rfl)) ?_; (with_reducible refine (laws_heldIntS.calls kj44 _ _ t7058 1 t7059 _ ?side1 ?side2 A102.out).mono ?_); (case side1 => repeat (first | exact (Kd.R_reads' HO_12.out).2.2 | (with_reducible refine Kd.C_alloc ?_ _) | (with_reducible refine Kd.C_drewN ?_ _) | (with_reducible refine Kd.C_drew ?_))); (case side2 => rw [show t7058.length = t7032.length from (Kd.R_reads' HO_12.out).1.symm]; exact (Kd.R_reads' HO_12.out).2.1); rintro e w' ⟨rfl, ⟨nd, rfl⟩⟩; refine ⟨_, rfl, ?_⟩))
                (try (rw [drewN_self w125]; generalize hq_ : World.drewN w125 _ = w125; have n0_ : Aside0 (Kd.R (Kd.int .i64) 3 w125 w.heap.size (fun k_ => some k_ ≠ (.slice Ao67 t7051.length co67 : Value).ownBlock ∧ some k_ ≠ (.slice Ao75 t7053.length co75 : Value).ownBlock ∧ some k_ ≠ (.slice Ao82 t7016.length co82 : Value).ownBlock) (.slice Ao81 t7032.length co81) t7058) := ⟨by rw [← hq_]; exact (by (with_reducible repeat (first | apply Kd.R_alloc | apply Kd.R_drewN | apply Kd.R_drew)); exact Kd.R_mono HO_12.out (fun _ hk => ⟨hk.2.1, ⟨hk.2.2, hk.1⟩⟩))⟩; have n1_ : Aside0 (Kd.R (Kd.int .i64) 3 w125 w.heap.size (fun k_ => some k_ ≠ (.slice Ao81 t7032.length co81 : Value).ownBlock ∧ some k_ ≠ (.slice Ao75 t7053.length co75 : Value).ownBlock ∧ some k_ ≠ (.slice Ao82 t7016.length co82 : Value).ownBlock) (.slice Ao67 t7051.length co67) t7051) := ⟨by rw [← hq_]; exact (by (with_reducible repeat (first | apply Kd.R_alloc | apply Kd.R_drewN | apply Kd.R_drew)); exact Kd.R_mono HO_7024001.out (fun _ hk => ⟨hk.2.1, ⟨hk.2.2, hk.1⟩⟩))⟩; have n2_ : Aside0 (Kd.R (Kd.int .i64) 3 w125 w.heap.size (fun k_ => some k_ ≠ (.slice Ao81 t7032.length co81 : Value).ownBlock ∧ some k_ ≠ (.slice Ao67 t7051.length co67 : Value).ownBlock ∧ some k_ ≠ (.slice Ao82 t7016.length co82 : Value).ownBlock) (.slice Ao75 t7053.length co75) t7053) := ⟨by rw [← hq_]; exact (by (with_reducible repeat (first | apply Kd.R_alloc | apply Kd.R_drewN | apply Kd.R_drew)); exact Kd.R_mono HO_7029001.out (fun _ hk => ⟨hk.2.1, ⟨hk.2.2, hk.1⟩⟩))⟩; have n3_ : Aside0 (Kd.R (Kd.int .i64) 3 w125 w.heap.size (fun k_ => some k_ ≠ (.slice Ao81 t7032.length co81 : Value).ownBlock ∧ some k_ ≠ (.slice Ao67 t7051.length co67 : Value).ownBlock ∧ some k_ ≠ (.slice Ao75 t7053.length co75 : Value).ownBlock) (.slice Ao82 t7016.length co82) t7016) := ⟨by rw [← hq_]; exact (pR HO_8.out)⟩; have n4_ : Aside0 (w125.heap[gb7001]? = some (.cells #[.int .i64 a0_0, .slice A0_1 l0_1.length c0_1] 24 (0, 0))) := ⟨by rw [← hq_]; exact (pk BK7001.out)⟩; have n5_ : Aside0 (w125.heap[gb7002]? = some (.cells #[.int .i64 a1_0, .slice A1_1 l1_1.length c1_1] 24 (0, 0))) := ⟨by rw [← hq_]; exact (pk BK7002.out)⟩; have n6_ : Aside0 (w125.heap[gb7023]? = some (.cells #[.int .i64 t7019, .slice Ao67 t7051.length co67] 26 (0, 0))) := ⟨by rw [← hq_]; exact (pk BK7023.out)⟩; have n7_ : Aside0 (w125.heap[gb7028]? = some (.cells #[.int .i64 t7024, .slice Ao75 t7053.length co75] 26 (0, 0))) := ⟨by rw [← hq_]; exact (pk BK7028.out)⟩; have n8_ : Aside0 (Below w.heap.size w w125) := ⟨by rw [← hq_]; exact (pB4 HB.out GE7001.out GE7002.out GE7023.out GE7028.out)⟩; clear HO_12 HO_7024001 HO_7029001 HO_8 BK7001 BK7002 BK7023 BK7028 HB hq_; have HO_12 := n0_; have HO_7024001 := n1_; have HO_7029001 := n2_; have HO_8 := n3_; have BK7001 := n4_; have BK7002 := n5_; have BK7023 := n6_; have BK7028 := n7_; have HB := n8_; clear n0_ n1_ n2_ n3_ n4_ n5_ n6_ n7_ n8_))
                have n0_ := aQ (Kd.R_drew HO_8.out)
                have n1_ := aQ (Kd.R_drew HO_12.out)
                have n2_ := aQ (Kd.R_drew HO_7024001.out)
                have n3_ := aQ (Kd.R_drew HO_7029001.out)
                have n4_ := aQ (blk_drew BK7001.out)
                have n5_ := aQ (blk_drew BK7002.out)
                have n6_ := aQ (blk_drew BK7023.out)
                have n7_ := aQ (blk_drew BK7028.out)
                have n8_ := aQ (below_drew1 HB.out)
                clear HO_8
                clear HO_12
                clear HO_7024001
                clear HO_7029001
                clear BK7001
                clear BK7002
                clear BK7023
                clear BK7028
                clear HB
                have HO_8 := n0_
                have HO_12 := n1_
                have HO_7024001 := n2_
                have HO_7029001 := n3_
                have BK7001 := n4_
                have BK7002 := n5_
                have BK7023 := n6_
                have BK7028 := n7_
                have HB := n8_
                clear n0_ n1_ n2_ n3_ n4_ n5_ n6_ n7_ n8_
                refine start_ (n := 8) (S := fun w' => w'.cell? ⟨gb7001, 0, none⟩ = some (.int .i64 a0_0) ∧ w'.cell? ⟨gb7001, 1, none⟩ = some (.slice A0_1 l0_1.length c0_1) ∧ w'.cell? ⟨gb7002, 0, none⟩ = some (.int .i64 a1_0) ∧ w'.cell? ⟨gb7002, 1, none⟩ = some (.slice A1_1 l1_1.length c1_1)) (ds := []) #[false, false, false, false, false, false, false, false] (by kernel_rfl) rfl rfl ⟨(blk_cell BK7001.out 0).trans rfl, (blk_cell BK7001.out 1).trans rfl, (blk_cell BK7002.out 0).trans rfl, (blk_cell BK7002.out 1).trans rfl⟩ (fun hHeld => ?_); refine with_tabW laws_FnExactBestWeights.tab37 laws_FnExactBestWeights.bits37 (fun HT_ HW_ => ?_)
                generalize w125.drew = w126 at HO_8 HO_12 HO_7024001 HO_7029001 BK7001 BK7002 BK7023 BK7028 HB hHeld ⊢
                refine puA (i := 4) (N := some 98) HT_ (h := ?_)
                refine taA4 (i := 0) (N := some 94) HT_ HW_ hHeld (h := ?_)
                refine taA4 (i := 2) (N := some 96) HT_ HW_ hHeld (h := ?_)
                refine onA (i := 1) (N := some 95) HT_ (h := fun K hK => ?_)
                refine goes_ Try.func18 (by kernel_rfl) rfl #[.agg #[.int .i64 a0_0, .slice A0_1 l0_1.length c0_1]] (by rfl) rfl rfl lm ?_
                with_reducible refine (laws_toMatroid.calls kj44 a0_0 _ _ l0_1 t7060 t7061 _ ?side1 ?side2 A106.out).mono ?_
                (case side1 => exact pC (Kd.C_below HR0_1.out HB.out))
                (case side2 => exact HC0_1.out)
                rintro e w127 ⟨v7062, rfl, ho0, hb⟩
                refine ⟨_, rfl, ?_⟩
                have n0_ := aQ (Kd.R_elder' (pR HO_8.out) (Kd.R_base ho0) hb)
                have n1_ := aQ (Kd.R_elder' (pR HO_12.out) (Kd.R_base ho0) hb)
                have n2_ := aQ (Kd.R_elder' (pR HO_7024001.out) (Kd.R_base ho0) hb)
                have n3_ := aQ (Kd.R_elder' (pR HO_7029001.out) (Kd.R_base ho0) hb)
                have n4_ := aQ (Kd.R_lower (Kd.R_new' (Kd.R_new' (Kd.R_new' (Kd.R_new' ho0 (Kd.R_lt (pR HO_8.out))) (Kd.R_lt (pR HO_12.out))) (Kd.R_lt (pR HO_7024001.out))) (Kd.R_lt (pR HO_7029001.out))) (below_size (pB4 HB.out GE7001.out GE7002.out GE7023.out GE7028.out)))
                have n5_ := aQ (blk_below (g := gb7001) (o := .cells #[.int .i64 a0_0, .slice A0_1 l0_1.length c0_1] 24 (0, 0)) (pk BK7001.out) hb)
                have n6_ := aQ (blk_below (g := gb7002) (o := .cells #[.int .i64 a1_0, .slice A1_1 l1_1.length c1_1] 24 (0, 0)) (pk BK7002.out) hb)
                have n7_ := aQ (blk_below (g := gb7023) (o := .cells #[.int .i64 t7019, .slice Ao67 t7051.length co67] 26 (0, 0)) (pk BK7023.out) hb)
                have n8_ := aQ (blk_below (g := gb7028) (o := .cells #[.int .i64 t7024, .slice Ao75 t7053.length co75] 26 (0, 0)) (pk BK7028.out) hb)
                have n9_ := aQ (below_step (pB4 HB.out GE7001.out GE7002.out GE7023.out GE7028.out) hb)
                clear HO_8
                clear HO_12
                clear HO_7024001
                clear HO_7029001
                clear BK7001
                clear BK7002
                clear BK7023
                clear BK7028
                clear HB
                have HO_8 := n0_
                have HO_12 := n1_
                have HO_7024001 := n2_
                have HO_7029001 := n3_
                have HO7063 := n4_
                have BK7001 := n5_
                have BK7002 := n6_
                have BK7023 := n7_
                have BK7028 := n8_
                have HB := n9_
                clear n0_ n1_ n2_ n3_ n4_ n5_ n6_ n7_ n8_ n9_
                (try clear hb)
                (try clear hb2)
                (try clear hk)
                (try clear hi)
                (try clear ho0)
                refine hK.out _ _ ⟨(blk_cell BK7001.out 0).trans rfl, (blk_cell BK7001.out 1).trans rfl, (blk_cell BK7002.out 0).trans rfl, (blk_cell BK7002.out 1).trans rfl⟩ (fun hHeld => ?_)
                clear hK K
                refine noA (h := ?_)
                refine onA (i := 3) (N := some 97) HT_ (h := fun K hK => ?_)
                refine goes_ Try.func18 (by kernel_rfl) rfl #[.agg #[.int .i64 a1_0, .slice A1_1 l1_1.length c1_1]] (by rfl) rfl rfl lm ?_
                with_reducible refine (laws_toMatroid.calls kj44 a1_0 _ _ l1_1 t7064 t7065 _ ?side1 ?side2 A107.out).mono ?_
                (case side1 => exact pC (Kd.C_below HR1_1.out HB.out))
                (case side2 => exact HC1_1.out)
                rintro e w128 ⟨v7066, rfl, ho0, hb⟩
                refine ⟨_, rfl, ?_⟩
                have n0_ := aQ (Kd.R_elder' (pR HO_8.out) (Kd.R_base ho0) hb)
                have n1_ := aQ (Kd.R_elder' (pR HO_12.out) (Kd.R_base ho0) hb)
                have n2_ := aQ (Kd.R_elder' (pR HO_7024001.out) (Kd.R_base ho0) hb)
                have n3_ := aQ (Kd.R_elder' (pR HO_7029001.out) (Kd.R_base ho0) hb)
                have n4_ := aQ (Kd.R_elder' (pR HO7063.out) (Kd.R_base ho0) hb)
                have n5_ := aQ (Kd.R_lower (Kd.R_new' (Kd.R_new' (Kd.R_new' (Kd.R_new' (Kd.R_new' ho0 (Kd.R_lt (pR HO_8.out))) (Kd.R_lt (pR HO_12.out))) (Kd.R_lt (pR HO_7024001.out))) (Kd.R_lt (pR HO_7029001.out))) (Kd.R_lt (pR HO7063.out))) (below_size (pB4 HB.out GE7001.out GE7002.out GE7023.out GE7028.out)))
                have n6_ := aQ (blk_below (g := gb7001) (o := .cells #[.int .i64 a0_0, .slice A0_1 l0_1.length c0_1] 24 (0, 0)) (pk BK7001.out) hb)
                have n7_ := aQ (blk_below (g := gb7002) (o := .cells #[.int .i64 a1_0, .slice A1_1 l1_1.length c1_1] 24 (0, 0)) (pk BK7002.out) hb)
                have n8_ := aQ (blk_below (g := gb7023) (o := .cells #[.int .i64 t7019, .slice Ao67 t7051.length co67] 26 (0, 0)) (pk BK7023.out) hb)
                have n9_ := aQ (blk_below (g := gb7028) (o := .cells #[.int .i64 t7024, .slice Ao75 t7053.length co75] 26 (0, 0)) (pk BK7028.out) hb)
                have n10_ := aQ (below_step (pB4 HB.out GE7001.out GE7002.out GE7023.out GE7028.out) hb)
                clear HO_8
                clear HO_12
                clear HO_7024001
                clear HO_7029001
                clear HO7063
                clear BK7001
                clear BK7002
                clear BK7023
                clear BK7028
                clear HB
                have HO_8 := n0_
                have HO_12 := n1_
                have HO_7024001 := n2_
                have HO_7029001 := n3_
                have HO7063 := n4_
                have HO7067 := n5_
                have BK7001 := n6_
                have BK7002 := n7_
                have BK7023 := n8_
                have BK7028 := n9_
                have HB := n10_
                clear n0_ n1_ n2_ n3_ n4_ n5_ n6_ n7_ n8_ n9_ n10_
                (try clear hb)
                (try clear hb2)
                (try clear hk)
                (try clear hi)
                (try clear ho0)
                refine hK.out _ _ ⟨(blk_cell BK7001.out 0).trans rfl, (blk_cell BK7001.out 1).trans rfl, (blk_cell BK7002.out 0).trans rfl, (blk_cell BK7002.out 1).trans rfl⟩ (fun hHeld => ?_)
                clear hK K
                refine noA (h := ?_)
                refine onA (i := 5) (N := some 99) HT_ (h := fun K hK => ?_)
                refine goes_ Try.func31 (by kernel_rfl) rfl #[.slice A2 l2.length c2] (by rfl) rfl rfl lm ?_
                with_reducible refine (laws_toIntS.calls kj44 _ _ l2 t7068 _ ?side1 ?side2 A108.out).mono ?_
                (case side1 => exact pC (Kd.C_below HR2.out HB.out))
                (case side2 => exact HC2.out)
                rintro e w129 ⟨v7069, rfl, ho0, hb⟩
                refine ⟨_, rfl, ?_⟩
                have n0_ := aQ (Kd.R_elder' (pR HO_8.out) (Kd.R_base ho0) hb)
                have n1_ := aQ (Kd.R_elder' (pR HO_12.out) (Kd.R_base ho0) hb)
                have n2_ := aQ (Kd.R_elder' (pR HO_7024001.out) (Kd.R_base ho0) hb)
                have n3_ := aQ (Kd.R_elder' (pR HO_7029001.out) (Kd.R_base ho0) hb)
                have n4_ := aQ (Kd.R_elder' (pR HO7063.out) (Kd.R_base ho0) hb)
                have n5_ := aQ (Kd.R_elder' (pR HO7067.out) (Kd.R_base ho0) hb)
                have n6_ := aQ (Kd.R_lower (Kd.R_new' (Kd.R_new' (Kd.R_new' (Kd.R_new' (Kd.R_new' (Kd.R_new' ho0 (Kd.R_lt (pR HO_8.out))) (Kd.R_lt (pR HO_12.out))) (Kd.R_lt (pR HO_7024001.out))) (Kd.R_lt (pR HO_7029001.out))) (Kd.R_lt (pR HO7063.out))) (Kd.R_lt (pR HO7067.out))) (below_size (pB4 HB.out GE7001.out GE7002.out GE7023.out GE7028.out)))
                have n7_ := aQ (blk_below (g := gb7001) (o := .cells #[.int .i64 a0_0, .slice A0_1 l0_1.length c0_1] 24 (0, 0)) (pk BK7001.out) hb)
                have n8_ := aQ (blk_below (g := gb7002) (o := .cells #[.int .i64 a1_0, .slice A1_1 l1_1.length c1_1] 24 (0, 0)) (pk BK7002.out) hb)
                have n9_ := aQ (blk_below (g := gb7023) (o := .cells #[.int .i64 t7019, .slice Ao67 t7051.length co67] 26 (0, 0)) (pk BK7023.out) hb)
                have n10_ := aQ (blk_below (g := gb7028) (o := .cells #[.int .i64 t7024, .slice Ao75 t7053.length co75] 26 (0, 0)) (pk BK7028.out) hb)
                have n11_ := aQ (below_step (pB4 HB.out GE7001.out GE7002.out GE7023.out GE7028.out) hb)
                clear HO_8
                clear HO_12
                clear HO_7024001
                clear HO_7029001
                clear HO7063
                clear HO7067
                clear BK7001
                clear BK7002
                clear BK7023
                clear BK7028
                clear HB
                have HO_8 := n0_
                have HO_12 := n1_
                have HO_7024001 := n2_
                have HO_7029001 := n3_
                have HO7063 := n4_
                have HO7067 := n5_
                have HO7070 := n6_
                have BK7001 := n7_
                have BK7002 := n8_
                have BK7023 := n9_
                have BK7028 := n10_
                have HB := n11_
                clear n0_ n1_ n2_ n3_ n4_ n5_ n6_ n7_ n8_ n9_ n10_ n11_
                (try clear hb)
                (try clear hb2)
                (try clear hk)
                (try clear hi)
                (try clear ho0)
                obtain ⟨Ao130, co130, eo130⟩ := Kd.R_slice HO7063.out
                (first | subst eo130 | (injection eo130 with f1_ f2_ f3_; have f4_ := f1_.symm; have f5_ := f3_.symm; clear f1_ f2_ f3_; subst f4_; subst f5_))
                obtain ⟨Ao131, co131, eo131⟩ := Kd.R_slice HO7067.out
                (first | subst eo131 | (injection eo131 with f1_ f2_ f3_; have f4_ := f1_.symm; have f5_ := f3_.symm; clear f1_ f2_ f3_; subst f4_; subst f5_))
                obtain ⟨Ao132, co132, eo132⟩ := Kd.R_slice HO7070.out
                (first | subst eo132 | (injection eo132 with f1_ f2_ f3_; have f4_ := f1_.symm; have f5_ := f3_.symm; clear f1_ f2_ f3_; subst f4_; subst f5_))
                refine hK.out _ _ ⟨(blk_cell BK7001.out 0).trans rfl, (blk_cell BK7001.out 1).trans rfl, (blk_cell BK7002.out 0).trans rfl, (blk_cell BK7002.out 1).trans rfl⟩ (fun hHeld => ?_)
                clear hK K
                refine noA (h := ?_)
                refine onA (i := 6) (N := some 100) HT_ (h := fun K hK => ?_)
                refine goes_ Try.func32 (by kernel_rfl) rfl #[.agg #[.int .i64 t7060, .slice Ao130 t7061.length co130], .agg #[.int .i64 t7064, .slice Ao131 t7065.length co131], .slice Ao132 t7068.length co132] (by rfl) rfl rfl lm ?_
                with_reducible refine (impl_BestWeights.calls kj44 t7060 _ _ t7061 t7064 _ _ t7065 _ _ t7068 t7071 _ ?side1 ?side2 ?side3 ?side4 ?side5 ?side6 A109.out).mono ?_
                (case side1 => repeat (first | exact (Kd.R_reads' HO7063.out).2.2 | (with_reducible refine Kd.C_alloc ?_ _) | (with_reducible refine Kd.C_drewN ?_ _) | (with_reducible refine Kd.C_drew ?_)))
                (case side2 => exact (Kd.R_reads' HO7063.out).2.1)
                (case side3 => repeat (first | exact (Kd.R_reads' HO7067.out).2.2 | (with_reducible refine Kd.C_alloc ?_ _) | (with_reducible refine Kd.C_drewN ?_ _) | (with_reducible refine Kd.C_drew ?_)))
                (case side4 => exact (Kd.R_reads' HO7067.out).2.1)
                (case side5 => repeat (first | exact (Kd.R_reads' HO7070.out).2.2 | (with_reducible refine Kd.C_alloc ?_ _) | (with_reducible refine Kd.C_drewN ?_ _) | (with_reducible refine Kd.C_drew ?_)))
                (case side6 => exact (Kd.R_reads' HO7070.out).2.1)
                rintro e w133 ⟨v7072, rfl, ho0, hb⟩
                refine ⟨_, rfl, ?_⟩
                have n0_ := aQ (Kd.R_elder' (pR HO_8.out) (Kd.R_base ho0) hb)
                have n1_ := aQ (Kd.R_elder' (pR HO_12.out) (Kd.R_base ho0) hb)
                have n2_ := aQ (Kd.R_elder' (pR HO_7024001.out) (Kd.R_base ho0) hb)
                have n3_ := aQ (Kd.R_elder' (pR HO_7029001.out) (Kd.R_base ho0) hb)
                have n4_ := aQ (Kd.R_elder' (pR HO7063.out) (Kd.R_base ho0) hb)
                have n5_ := aQ (Kd.R_elder' (pR HO7067.out) (Kd.R_base ho0) hb)
                have n6_ := aQ (Kd.R_elder' (pR HO7070.out) (Kd.R_base ho0) hb)
                have n7_ := aQ (Kd.R_lower (Kd.R_new' (Kd.R_new' (Kd.R_new' (Kd.R_new' (Kd.R_new' (Kd.R_new' (Kd.R_new' ho0 (Kd.R_lt (pR HO_8.out))) (Kd.R_lt (pR HO_12.out))) (Kd.R_lt (pR HO_7024001.out))) (Kd.R_lt (pR HO_7029001.out))) (Kd.R_lt (pR HO7063.out))) (Kd.R_lt (pR HO7067.out))) (Kd.R_lt (pR HO7070.out))) (below_size (pB4 HB.out GE7001.out GE7002.out GE7023.out GE7028.out)))
                have n8_ := aQ (blk_below (g := gb7001) (o := .cells #[.int .i64 a0_0, .slice A0_1 l0_1.length c0_1] 24 (0, 0)) (pk BK7001.out) hb)
                have n9_ := aQ (blk_below (g := gb7002) (o := .cells #[.int .i64 a1_0, .slice A1_1 l1_1.length c1_1] 24 (0, 0)) (pk BK7002.out) hb)
                have n10_ := aQ (blk_below (g := gb7023) (o := .cells #[.int .i64 t7019, .slice Ao67 t7051.length co67] 26 (0, 0)) (pk BK7023.out) hb)
                have n11_ := aQ (blk_below (g := gb7028) (o := .cells #[.int .i64 t7024, .slice Ao75 t7053.length co75] 26 (0, 0)) (pk BK7028.out) hb)
                have n12_ := aQ (below_step (pB4 HB.out GE7001.out GE7002.out GE7023.out GE7028.out) hb)
                clear HO_8
                clear HO_12
                clear HO_7024001
                clear HO_7029001
                clear HO7063
                clear HO7067
                clear HO7070
                clear BK7001
                clear BK7002
                clear BK7023
                clear BK7028
                clear HB
                have HO_8 := n0_
                have HO_12 := n1_
                have HO_7024001 := n2_
                have HO_7029001 := n3_
                have HO7063 := n4_
                have HO7067 := n5_
                have HO7070 := n6_
                have HO7073 := n7_
                have BK7001 := n8_
                have BK7002 := n9_
                have BK7023 := n10_
                have BK7028 := n11_
                have HB := n12_
                clear n0_ n1_ n2_ n3_ n4_ n5_ n6_ n7_ n8_ n9_ n10_ n11_ n12_
                (try clear hb)
                (try clear hb2)
                (try clear hk)
                (try clear hi)
                (try clear ho0)
                refine hK.out _ _ ⟨(blk_cell BK7001.out 0).trans rfl, (blk_cell BK7001.out 1).trans rfl, (blk_cell BK7002.out 0).trans rfl, (blk_cell BK7002.out 1).trans rfl⟩ (fun hHeld => ?_)
                clear hK K
                refine noA (h := ?_)
                refine puA (i := 7) (N := some 16) HT_ (h := ?_)
                refine done_ (done_of HT_.out (by kernel_rfl)) ?_
                obtain ⟨Ao134, co134, eo134⟩ := Kd.R_slice HO7073.out
                subst eo134
                try go_wp2_with (first | ((with_reducible refine gate_callee (f := 25) rfl ?_); refine goesL_ (some 103) rfl rfl Try.func25 (by kernel_rfl) rfl #[.slice Ao134 t7071.length co134, .slice Ao82 t7016.length co82] rfl lm ?_; (with_reducible refine (laws_eqIntS.calls kj44 _ _ t7071 _ _ t7016 true _ ?side1 ?side2 ?side3 ?side4 A110.out).mono ?_); (case side1 => repeat (first | exact (Kd.R_reads' HO7073.out).2.2 | (with_reducible refine Kd.C_alloc ?_ _) | (with_reducible refine Kd.C_drewN ?_ _) | (with_reducible refine Kd.C_drew ?_))); (case side2 => exact (Kd.R_reads' HO7073.out).2.1); (case side3 => repeat (first | exact (Kd.R_reads' HO_8.out).2.2 | (with_reducible refine Kd.C_alloc ?_ _) | (with_reducible refine Kd.C_drewN ?_ _) | (with_reducible refine Kd.C_drew ?_))); (case side4 => exact (Kd.R_reads' HO_8.out).2.1); rintro e w' ⟨rfl, ⟨nd, rfl⟩⟩; refine ⟨_, rfl, ?_⟩) | ((with_reducible refine gate_callee (f := 27) rfl ?_); refine goesL_ (some 107) rfl rfl Try.func27 (by kernel_rfl) rfl #[.slice Ao81 t7058.length co81, .int .i64 1] rfl (by (try simp only [List.map_toArray, List.map_cons, List.map_nil]); first | done | (rw [show t7058.length = t7032.length from (Kd.R_reads' HO_12.out).1.symm] <;> rfl) | rfl | (simp only [List.length_drop, List.length_take]; rfl)) ?_; (with_reducible refine (laws_heldIntS.calls kj44 _ _ t7058 1 t7075 _ ?side1 ?side2 A112.out).mono ?_); (case side1 => repeat (first | exact (Kd.R_reads' HO_12.out).2.2 | (with_reducible refine Kd.C_alloc ?_ _) | (with_reducible refine Kd.C_drewN ?_ _) | (with_reducible refine Kd.C_drew ?_))); (case side2 => rw [show t7058.length = t7032.length from (Kd.R_reads' HO_12.out).1.symm]; exact (Kd.R_reads' HO_12.out).2.1); rintro e w' ⟨rfl, ⟨nd, rfl⟩⟩; refine ⟨_, rfl, ?_⟩))
                go_ret
                exact ⟨re_, pB4 HB.out GE7001.out GE7002.out GE7023.out GE7028.out⟩
               ·rw [if_neg c124] at H
                have c124b0 : (t7075 == t7057) = false := beq_eq_false_iff_ne.mpr c124
                have c124b1 : (t7075 != t7057) = true := bne_iff_ne.mpr c124
                exact absurd (Option.some.inj H) (by decide)
             ·replace c111 := Bool.eq_false_iff.mpr c111
              subst c111
              have H1 : (some false) = some true := by rw [if_neg (show ¬ (false = true) by decide)] at H; exact H
              clear H
              have H := H1
              clear H1
              exact absurd (Option.some.inj H) (by decide)
            ·rw [if_neg c105] at H
             have c105b0 : (t7059 == t7057) = false := beq_eq_false_iff_ne.mpr c105
             have c105b1 : (t7059 != t7057) = true := bne_iff_ne.mpr c105
             exact absurd (Option.some.inj H) (by decide)
       ·replace c41 := Bool.eq_false_iff.mpr c41
        subst c41
        have H1 : (some false) = some true := by rw [if_neg (show ¬ (false = true) by decide)] at H; exact H
        clear H
        have H := H1
        clear H1
        exact absurd (Option.some.inj H) (by decide)
      ·replace c38 := Bool.eq_false_iff.mpr c38
       subst c38
       have H1 : (some false) = some true := by rw [if_neg (show ¬ (false = true) by decide)] at H; exact H
       clear H
       have H := H1
       clear H1
       exact absurd (Option.some.inj H) (by decide)
     ·replace c35 := Bool.eq_false_iff.mpr c35
      subst c35
      have H1 : (some false) = some true := by rw [if_neg (show ¬ (false = true) by decide)] at H; exact H
      clear H
      have H := H1
      clear H1
      exact absurd (Option.some.inj H) (by decide)
    ·replace c32 := Bool.eq_false_iff.mpr c32
     subst c32
     have H1 : (some false) = some true := by rw [if_neg (show ¬ (false = true) by decide)] at H; exact H
     clear H
     have H := H1
     clear H1
     exact absurd (Option.some.inj H) (by decide)
end Go.Proofs.Ytagncnjllpebjaa.A
