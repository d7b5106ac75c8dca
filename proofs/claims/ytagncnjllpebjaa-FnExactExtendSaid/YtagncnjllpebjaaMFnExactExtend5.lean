/- Machine side of the law FnExactExtend: Go functions as Lean functions, and proofs that calls come to what these tell. Conditions: those in each theorem. -/
import Derived.Test.YtagncnjllpebjaaMFnExactExtend0
import Derived.Test.YtagncnjllpebjaaMFnExactExtend1
import Derived.Test.YtagncnjllpebjaaMFnExactExtend4
namespace Go.Proofs.Ytagncnjllpebjaa.A
open Go.RowKit Go.Proofs.YtagncnjllpebjaaW.PrintWords Go.Proofs.YtagncnjllpebjaaW.PrintLast Go.Proofs.YtagncnjllpebjaaW.PrintMore
attribute [local go_sem] max2_int min2_int max_two min_two max_three min_three max_four min_four
set_option linter.unusedVariables false
set_option linter.unusedSimpArgs false
/-! ### spec_l17Cut: function 124 -/
mutual
def spec_l17Cut.l0 : Nat → List Int → List Int → Int → Int → List Int → Option (Bool)
 | 0, _, _, _, _, _ => none
 | k + 1, x1, x2, x7, x125002000, x125002001 => if x7 < (x2.length : Int) then (spec_l17Cut.l1 k x1 x2 x7 0 x125002000 x125002001) else (some true)
def spec_l17Cut.l1 : Nat → List Int → List Int → Int → Int → Int → List Int → Option (Bool)
 | 0, _, _, _, _, _, _ => none
 | k + 1, x1, x2, x7, x8, x125002000, x125002001 => if x8 < (x1.length : Int) then (if 0 ≤ x8 then (if 0 ≤ x7 then (if x7 < (x2.length : Int) then (if (Go.bits .and .i64 (rd x1 x8) (rd x2 x7)) = (rd x2 x7) then ((spec_HasSet.f k x2 (rd x1 x8)).bind fun t125006 => (if t125006 = true then (spec_l17Cut.l1 k x1 x2 x7 (wrap64 (x8 + 1)) x125002000 x125002001) else (some false))) else (spec_l17Cut.l1 k x1 x2 x7 (wrap64 (x8 + 1)) x125002000 x125002001)) else (none)) else (none)) else (none)) else (spec_l17Cut.l2 k x1 x2 x7 0 x125002000 x125002001)
def spec_l17Cut.l2 : Nat → List Int → List Int → Int → Int → Int → List Int → Option (Bool)
 | 0, _, _, _, _, _, _ => none
 | k + 1, x1, x2, x7, x9, x125002000, x125002001 => if x9 < x7 then (if 0 ≤ x7 then (if x7 < (x2.length : Int) then (if 0 ≤ x9 then (if x9 < (x2.length : Int) then ((spec_l17Modular.f k x125002000 x125002001 (rd x2 x7) (rd x2 x9)).bind fun t125009 => (if t125009 = true then ((spec_HasSet.f k x2 (Go.bits .and .i64 (rd x2 x7) (rd x2 x9))).bind fun t125012 => (if t125012 = true then (spec_l17Cut.l2 k x1 x2 x7 (wrap64 (x9 + 1)) x125002000 x125002001) else (some false))) else (spec_l17Cut.l2 k x1 x2 x7 (wrap64 (x9 + 1)) x125002000 x125002001))) else (none)) else (none)) else (none)) else (none)) else (spec_l17Cut.l0 k x1 x2 (wrap64 (x7 + 1)) x125002000 x125002001)
end
def spec_l17Cut.f (k : Nat) (a0_0 : Int) (l0_1 : List Int) (l1 : List Int) (l2 : List Int) : Option (Bool) := spec_l17Cut.l0 k l1 l2 0 a0_0 l0_1
theorem spec_l17Cut.mono_l : ∀ k, (∀ y0 y1 y2 y3 y4, LeO (spec_l17Cut.l0 k y0 y1 y2 y3 y4) (spec_l17Cut.l0 (k + 1) y0 y1 y2 y3 y4)) ∧ (∀ y0 y1 y2 y3 y4 y5, LeO (spec_l17Cut.l1 k y0 y1 y2 y3 y4 y5) (spec_l17Cut.l1 (k + 1) y0 y1 y2 y3 y4 y5)) ∧ (∀ y0 y1 y2 y3 y4 y5, LeO (spec_l17Cut.l2 k y0 y1 y2 y3 y4 y5) (spec_l17Cut.l2 (k + 1) y0 y1 y2 y3 y4 y5))
 | 0 => ⟨fun _ _ _ _ _ r h => by simp [spec_l17Cut.l0] at h, fun _ _ _ _ _ _ r h => by simp [spec_l17Cut.l1] at h, fun _ _ _ _ _ _ r h => by simp [spec_l17Cut.l2] at h⟩
 | k + 1 => by
  obtain ⟨ih0, ih1, ih2⟩ := spec_l17Cut.mono_l k
  refine ⟨?_, ?_, ?_⟩
  ·intro y0 y1 y2 y3 y4
   unfold spec_l17Cut.l0
   repeat' first
   | (with_reducible exact ih0 _ _ _ _ _)
   | (with_reducible exact ih1 _ _ _ _ _ _)
   | (with_reducible exact ih2 _ _ _ _ _ _)
   | (with_reducible exact spec_HasSet.mono _ _ _)
   | (with_reducible exact spec_l17Modular.mono _ _ _ _ _)
   | (with_reducible exact LeO.refl _)
   | (with_reducible exact LeO.none _)
   | (with_reducible refine LeO.ite ?_ ?_)
   | (with_reducible refine LeO.bind ?_ (fun _ => ?_))
   | exact ih0 _ _ _ _ _
   | exact ih1 _ _ _ _ _ _
   | exact ih2 _ _ _ _ _ _
   | exact spec_HasSet.mono _ _ _
   | exact spec_l17Modular.mono _ _ _ _ _
   | exact LeO.none _
   | refine LeO.ite ?_ ?_
   | refine LeO.bind ?_ (fun _ => ?_)
  ·intro y0 y1 y2 y3 y4 y5
   unfold spec_l17Cut.l1
   repeat' first
   | (with_reducible exact ih0 _ _ _ _ _)
   | (with_reducible exact ih1 _ _ _ _ _ _)
   | (with_reducible exact ih2 _ _ _ _ _ _)
   | (with_reducible exact spec_HasSet.mono _ _ _)
   | (with_reducible exact spec_l17Modular.mono _ _ _ _ _)
   | (with_reducible exact LeO.refl _)
   | (with_reducible exact LeO.none _)
   | (with_reducible refine LeO.ite ?_ ?_)
   | (with_reducible refine LeO.bind ?_ (fun _ => ?_))
   | exact ih0 _ _ _ _ _
   | exact ih1 _ _ _ _ _ _
   | exact ih2 _ _ _ _ _ _
   | exact spec_HasSet.mono _ _ _
   | exact spec_l17Modular.mono _ _ _ _ _
   | exact LeO.none _
   | refine LeO.ite ?_ ?_
   | refine LeO.bind ?_ (fun _ => ?_)
  ·intro y0 y1 y2 y3 y4 y5
   unfold spec_l17Cut.l2
   repeat' first
   | (with_reducible exact ih0 _ _ _ _ _)
   | (with_reducible exact ih1 _ _ _ _ _ _)
   | (with_reducible exact ih2 _ _ _ _ _ _)
   | (with_reducible exact spec_HasSet.mono _ _ _)
   | (with_reducible exact spec_l17Modular.mono _ _ _ _ _)
   | (with_reducible exact LeO.refl _)
   | (with_reducible exact LeO.none _)
   | (with_reducible refine LeO.ite ?_ ?_)
   | (with_reducible refine LeO.bind ?_ (fun _ => ?_))
   | exact ih0 _ _ _ _ _
   | exact ih1 _ _ _ _ _ _
   | exact ih2 _ _ _ _ _ _
   | exact spec_HasSet.mono _ _ _
   | exact spec_l17Modular.mono _ _ _ _ _
   | exact LeO.none _
   | refine LeO.ite ?_ ?_
   | refine LeO.bind ?_ (fun _ => ?_)
theorem spec_l17Cut.mono : ∀ a0 a1 a2 a3 k, LeO (spec_l17Cut.f k a0 a1 a2 a3) (spec_l17Cut.f (k + 1) a0 a1 a2 a3) := by
 intro a0 a1 a2 a3 k
 obtain ⟨ih0, ih1, ih2⟩ := spec_l17Cut.mono_l k
 unfold spec_l17Cut.f
 repeat' first
   | (with_reducible exact ih0 _ _ _ _ _)
   | (with_reducible exact ih1 _ _ _ _ _ _)
   | (with_reducible exact ih2 _ _ _ _ _ _)
   | (with_reducible exact spec_HasSet.mono _ _ _)
   | (with_reducible exact spec_l17Modular.mono _ _ _ _ _)
   | (with_reducible exact LeO.refl _)
   | (with_reducible exact LeO.none _)
   | (with_reducible refine LeO.ite ?_ ?_)
   | (with_reducible refine LeO.bind ?_ (fun _ => ?_))
   | exact ih0 _ _ _ _ _
   | exact ih1 _ _ _ _ _ _
   | exact ih2 _ _ _ _ _ _
   | exact spec_HasSet.mono _ _ _
   | exact spec_l17Modular.mono _ _ _ _ _
   | exact LeO.none _
   | refine LeO.ite ?_ ?_
   | refine LeO.bind ?_ (fun _ => ?_)
def spec_l17Cut.T7 : Bool × List (List Nat × List Nat) := (true, [([], []), ([], []), ([0, 1], [0, 1]), ([2], [2]), ([], []), ([], []), ([4, 5], [4, 5]), ([6], [6]), ([3, 7], [3, 7]), ([], []), ([], []), ([9, 10], [9, 10]), ([11], [11]), ([8, 12], [8, 12]), ([13], [13]), ([14], [14]), ([14], [14]), ([14], [14]), ([16, 17, 14], [14, 16, 17]), ([18, 14], [14, 18]), ([15, 19, 14, 14], [14, 15, 19]), ([20, 14], [14, 20]), ([14, 21], [14, 21])])
def spec_l17Cut.B7 : List Nat := [0, 0, 3, 7, 0, 0, 48, 112, 255, 0, 0, 1536, 3584, 8191, 16383, 32767, 32767, 32767, 229375, 491519, 1048575, 2097151, 4194303]
theorem spec_l17Cut.tab7 : rtab .any (opsOf Try.f124 7) = spec_l17Cut.T7 := by kernel_rfl
theorem spec_l17Cut.bits7 : waitsOk spec_l17Cut.T7.2 spec_l17Cut.B7 = true := by kernel_rfl
def spec_l17Cut.T12 : Bool × List (List Nat × List Nat) := (true, [([], []), ([], []), ([], []), ([1, 2], [1, 2]), ([3], [3]), ([], []), ([], []), ([5, 6], [5, 6]), ([7], [7]), ([0, 4, 8], [0, 4, 8]), ([9, 9], [9]), ([10], [10]), ([10], [10]), ([10], [10]), ([12, 13, 10], [10, 12, 13]), ([14, 10], [10, 14]), ([10], [10]), ([10], [10]), ([16, 17, 10], [10, 16, 17]), ([18, 10], [10, 18]), ([15, 19, 10], [10, 15, 19]), ([11, 20, 10, 10], [10, 11, 20]), ([21, 10], [10, 21]), ([10, 22], [10, 22])])
def spec_l17Cut.B12 : List Nat := [0, 0, 0, 6, 14, 0, 0, 96, 224, 511, 1023, 2047, 2047, 2047, 14335, 30719, 2047, 2047, 198655, 460799, 1046527, 2097151, 4194303, 8388607]
theorem spec_l17Cut.tab12 : rtab .any (opsOf Try.f124 12) = spec_l17Cut.T12 := by kernel_rfl
theorem spec_l17Cut.bits12 : waitsOk spec_l17Cut.T12.2 spec_l17Cut.B12 = true := by kernel_rfl
set_option maxHeartbeats 8000000 in
set_option maxRecDepth 100000 in
theorem spec_l17Cut.calls (k : Nat) (a0_0 : Int) (A0_1 : Option Addr) (c0_1 : Nat) (l0_1 : List Int) (A1 : Option Addr) (c1 : Nat) (l1 : List Int) (A2 : Option Addr) (c2 : Nat) (l2 : List Int) (r : Bool) (w : World) (hr0_1 : Kd.C (Kd.int .i64) w A0_1 l0_1.length l0_1) (hc0_1 : l0_1.length ≤ c0_1) (hr1 : Kd.C (Kd.int .i64) w A1 l1.length l1) (hc1 : l1.length ≤ c1) (hr2 : Kd.C (Kd.int .i64) w A2 l2.length l2) (hc2 : l2.length ≤ c2) (h : spec_l17Cut.f k a0_0 l0_1 l1 l2 = some r) :
  Calls Try.prog 124 #[.agg #[.int .i64 a0_0, .slice A0_1 l0_1.length c0_1], .slice A1 l1.length c1, .slice A2 l2.length c2] w fun e w' => e = .returned (.bool r) ∧ Below w.heap.size w w' := by
 have hu26 := Try.underlying26
 have HR0_1 := aQ hr0_1
 have HC0_1 := aQ hc0_1
 clear hr0_1 hc0_1
 have HR1 := aQ hr1
 have HC1 := aQ hc1
 clear hr1 hc1
 have HR2 := aQ hr2
 have HC2 := aQ hc2
 clear hr2 hc2
 have HB := aQ (Below.refl w.heap.size w)
 have H : (spec_l17Cut.l0 k l1 l2 0 a0_0 l0_1) = some r := h
 clear h
 have H' := aQ H
 clear H
 go_enter Try.func124, Try.ntmps124
 go_wp2_with (first | ((with_reducible refine gate_dst (N := 3) rfl ?_); refine box_event ?hg (N := 3) ?hd (cs := #[.int .i64 a0_0, .slice A0_1 l0_1.length c0_1]) (t := 26) ?hr ?_; (case hd => rfl); (case hg => rfl); (case hr => first | (go_simp; done) | (go_simp; rfl)); intro gb125001 hg w4 hbox hb; have BK125001 := aQ (hbox); have GW125001 := aQ ((by rw [hg]; exact (below_size (pB HB.out)) : w.heap.size ≤ gb125001)); have GE125001 := aQ ((by rw [hg]; exact (below_size (pB HB.out)) : w.heap.size ≤ gb125001)); replace HB := aQ (below_step (pB HB.out) hb); clear hb hbox hg))
 go_loopg [7] k (fun kq v7 w' => ∃ (x7_1 : Int), v7 = .int .i64 x7_1 ∧ Aside0 (spec_l17Cut.l0 kq l1 l2 x7_1 a0_0 l0_1 = some r) ∧ Aside0 (kq ≤ k) ∧ Aside0 (w'.heap[gb125001]? = some (.cells #[.int .i64 a0_0, (.slice A0_1 l0_1.length c0_1)] 26 (0, 0))) ∧ Aside0 (Below w.heap.size w w'))
 case atStart => exact ⟨(0), rs_, H', ⟨Nat.le_refl _⟩, ⟨pk BK125001.out⟩, ⟨pB1 HB.out GE125001.out⟩⟩
 case round =>
  clear H'
  try clear c1
  try clear c2
  try clear p2
  obtain ⟨x7_1, rfl, HA, HK1, BK125001, HB⟩ := hrel
  cases gk with
  | zero => exact absurd HA.out (by simp [spec_l17Cut.l0])
  | succ k1 =>
   have H := HA.out
   clear HA
   simp only [spec_l17Cut.l0] at H
   by_cases c5 : x7_1 < (l2.length : Int)
   ·rw [if_pos c5] at H
    have c5b0 : decide (x7_1 < (l2.length : Int)) = true := decide_eq_true c5
    clear c5
    have H' := aQ H
    clear H
    go_wp2
    go_loopg [8] k1 (fun kq v8 w' => ∃ (x8_2 : Int), v8 = .int .i64 x8_2 ∧ Aside0 (spec_l17Cut.l1 kq l1 l2 x7_1 x8_2 a0_0 l0_1 = some r) ∧ Aside0 (kq ≤ k1) ∧ Aside0 (w'.heap[gb125001]? = some (.cells #[.int .i64 a0_0, (.slice A0_1 l0_1.length c0_1)] 26 (0, 0))) ∧ Aside0 (Below w.heap.size w w'))
    case atStart => exact ⟨(0), rs_, H', ⟨Nat.le_refl _⟩, ⟨pk BK125001.out⟩, ⟨pB1 HB.out GE125001.out⟩⟩
    case round =>
     clear H'
     try clear c1
     try clear c2
     try clear p2
     try clear c5
     try clear c5b0
     try clear p2
     obtain ⟨x8_2, rfl, HA, HK2, BK125001, HB⟩ := hrel
     cases gk with
     | zero => exact absurd HA.out (by simp [spec_l17Cut.l1])
     | succ k2 =>
      have H := HA.out
      clear HA
      simp only [spec_l17Cut.l1] at H
      by_cases c6 : x8_2 < (l1.length : Int)
      ·rw [if_pos c6] at H
       have c6b0 : decide (x8_2 < (l1.length : Int)) = true := decide_eq_true c6
       clear c6
       by_cases c7 : 0 ≤ x8_2
       ·rw [if_pos c7] at H
        have c7b0 : decide (0 ≤ x8_2) = true := decide_eq_true c7
        clear c7
        by_cases c8 : 0 ≤ x7_1
        ·rw [if_pos c8] at H
         have c8b0 : decide (0 ≤ x7_1) = true := decide_eq_true c8
         clear c8
         by_cases c9 : x7_1 < (l2.length : Int)
         ·rw [if_pos c9] at H
          have c9b0 : decide (x7_1 < (l2.length : Int)) = true := decide_eq_true c9
          clear c9
          by_cases c10 : (Go.bits .and .i64 (rd l1 x8_2) (rd l2 x7_1)) = (rd l2 x7_1)
          ·rw [if_pos c10] at H
           have c10b0 : ((Go.bits .and .i64 (rd l1 x8_2) (rd l2 x7_1)) == (rd l2 x7_1)) = true := beq_iff_eq.mpr c10
           have c10b1 : ((Go.bits .and .i64 (rd l1 x8_2) (rd l2 x7_1)) != (rd l2 x7_1)) = false := bne_eq_false_iff_eq.mpr c10
           clear c10
           replace H := Option.bind_eq_some_iff.mp H
           obtain ⟨t125006, A110, H⟩ := H
           replace H : (if t125006 = true then (spec_l17Cut.l1 k2 l1 l2 x7_1 (wrap64 (x8_2 + 1)) a0_0 l0_1) else (some false)) = some r := H
           have A11 := aQ A110
           clear A110
           by_cases c12 : t125006 = true
           ·subst c12
            have H1 : (spec_l17Cut.l1 k2 l1 l2 x7_1 (wrap64 (x8_2 + 1)) a0_0 l0_1) = some r := by rw [if_pos rfl] at H; exact H
            clear H
            have H := H1
            clear H1
            have H' := aQ H
            clear H
            try go_wp2
            have n0_ := aQ (blk_drew BK125001.out)
            have n1_ := aQ (below_drew1 HB.out)
            clear BK125001
            clear HB
            have BK125001 := n0_
            have HB := n1_
            clear n0_ n1_
            have p125002 : 0 ≤ (x8_2 : Int) := of_decide_eq_true as_
            have q125002 : x8_2 < (l1.length : Int) := of_decide_eq_true as_
            obtain ⟨ad125002, e125002, hx125002_0⟩ := Kd.at_int HR1.out x8_2 p125002 q125002
            have hw125002_0 := hx125002_0
            cases e125002
            replace hx125002_0 := (HB.out.cell (World.block_lt_of_cell? w _ hx125002_0)).trans hx125002_0
            replace p125002 := eq_true p125002
            replace q125002 := eq_true q125002
            have p125003 : 0 ≤ (x7_1 : Int) := of_decide_eq_true as_
            have q125003 : x7_1 < (l2.length : Int) := of_decide_eq_true as_
            obtain ⟨ad125003, e125003, hx125003_0⟩ := Kd.at_int HR2.out x7_1 p125003 q125003
            have hw125003_0 := hx125003_0
            cases e125003
            replace hx125003_0 := (HB.out.cell (World.block_lt_of_cell? w _ hx125003_0)).trans hx125003_0
            replace p125003 := eq_true p125003
            replace q125003 := eq_true q125003
            have p125004 : 0 ≤ (x7_1 : Int) := of_decide_eq_true as_
            have q125004 : x7_1 < (l2.length : Int) := of_decide_eq_true as_
            obtain ⟨ad125004, e125004, hx125004_0⟩ := Kd.at_int HR2.out x7_1 p125004 q125004
            have hw125004_0 := hx125004_0
            obtain rfl : ad125003 = ad125004 := (by injection e125004)
            replace hx125004_0 := (HB.out.cell (World.block_lt_of_cell? w _ hx125004_0)).trans hx125004_0
            replace p125004 := eq_true p125004
            replace q125004 := eq_true q125004
            have p125005 : 0 ≤ (x8_2 : Int) := of_decide_eq_true as_
            have q125005 : x8_2 < (l1.length : Int) := of_decide_eq_true as_
            obtain ⟨ad125005, e125005, hx125005_0⟩ := Kd.at_int HR1.out x8_2 p125005 q125005
            have hw125005_0 := hx125005_0
            obtain rfl : ad125002 = ad125005 := (by injection e125005)
            replace hx125005_0 := (HB.out.cell (World.block_lt_of_cell? w _ hx125005_0)).trans hx125005_0
            replace p125005 := eq_true p125005
            replace q125005 := eq_true q125005
            refine start_ (n := 23) (S := fun w' => w'.cell? (ad125002.add (x8_2).toNat) = some (.int .i64 (rd l1 x8_2)) ∧ w'.cell? (ad125003.add (x7_1).toNat) = some (.int .i64 (rd l2 x7_1)) ∧ w'.cell? (ad125003.add (x7_1).toNat) = some (.int .i64 (rd l2 x7_1)) ∧ w'.cell? (ad125002.add (x8_2).toNat) = some (.int .i64 (rd l1 x8_2))) (ds := []) #[false, false, false, false, false, false, false, false, false, false, false, false, false, false, false, false, false, false, false, false, false, false, false] (by kernel_rfl) rfl rfl ⟨((HB.out.cell (World.block_lt_of_cell? w _ hw125002_0)).trans hw125002_0), ((HB.out.cell (World.block_lt_of_cell? w _ hw125003_0)).trans hw125003_0), ((HB.out.cell (World.block_lt_of_cell? w _ hw125004_0)).trans hw125004_0), ((HB.out.cell (World.block_lt_of_cell? w _ hw125005_0)).trans hw125005_0)⟩ (fun hHeld => ?_); refine with_tabW spec_l17Cut.tab7 spec_l17Cut.bits7 (fun HT_ HW_ => ?_)
            generalize wr.drew = w13 at BK125001 HB hx125002_0 hx125003_0 hx125004_0 hx125005_0 hHeld ⊢
            refine puA (i := 0) (N := some 22) HT_ (h := ?_)
            refine puA (i := 1) (N := some 23) HT_ (h := ?_)
            refine puA (i := 2) (N := some 24) HT_ (h := ?_)
            refine puA (i := 4) (N := some 26) HT_ (h := ?_)
            refine puA (i := 5) (N := some 27) HT_ (h := ?_)
            refine puA (i := 6) (N := some 28) HT_ (h := ?_)
            refine puA (i := 9) (N := some 31) HT_ (h := ?_)
            refine puA (i := 10) (N := some 32) HT_ (h := ?_)
            refine puA (i := 11) (N := some 33) HT_ (h := ?_)
            refine taA4 (i := 3) (N := some 25) HT_ HW_ hHeld (h := ?_)
            refine taA4 (i := 7) (N := some 29) HT_ HW_ hHeld (h := ?_)
            refine puA (i := 8) (N := some 30) HT_ (h := ?_)
            refine taA4 (i := 12) (N := some 34) HT_ HW_ hHeld (h := ?_)
            refine puA (i := 13) (N := some 35) HT_ (h := ?_)
            refine puA (i := 14) (N := some 36) HT_ (h := ?_)
            refine puA (i := 15) (N := some 37) HT_ (h := ?_)
            refine puA (i := 16) (N := some 38) HT_ (h := ?_)
            refine puA (i := 17) (N := some 39) HT_ (h := ?_)
            refine puA (i := 18) (N := some 40) HT_ (h := ?_)
            refine taA4 (i := 19) (N := some 41) HT_ HW_ hHeld (h := ?_)
            refine onA (i := 20) (N := some 42) HT_ (h := fun K hK => ?_)
            refine goes_ Try.func90 (by kernel_rfl) rfl #[.slice (some ad125003) l2.length c2, .int .i64 (rd l1 x8_2)] (by rfl) rfl rfl lm ?_
            with_reducible refine (spec_HasSet.calls k2 _ _ l2 (rd l1 x8_2) true _ ?side1 ?side2 A11.out).mono ?_
            (case side1 => exact pC (Kd.C_below HR2.out HB.out))
            (case side2 => exact HC2.out)
            rintro e w' ⟨rfl, ⟨nd, rfl⟩⟩
            refine ⟨_, rfl, ?_⟩
            refine hK.out _ _ ⟨((HB.out.cell (World.block_lt_of_cell? w _ hw125002_0)).trans hw125002_0), ((HB.out.cell (World.block_lt_of_cell? w _ hw125003_0)).trans hw125003_0), ((HB.out.cell (World.block_lt_of_cell? w _ hw125004_0)).trans hw125004_0), ((HB.out.cell (World.block_lt_of_cell? w _ hw125005_0)).trans hw125005_0)⟩ (fun hHeld => ?_)
            clear hK K
            refine noA (h := ?_)
            refine puA (i := 21) (N := some 43) HT_ (h := ?_)
            refine puA (i := 22) (N := some 44) HT_ (h := ?_)
            refine done_ (done_of HT_.out (by kernel_rfl)) ?_
            try go_wp2
            go_roundg k2
            case measure => have := HK1.out; have := HK2.out; omega
            case rel => exact ⟨(wrap64 (x8_2 + 1)), rs_, H', ⟨by have := HK1.out; have := HK2.out; omega⟩, ⟨pk BK125001.out⟩, ⟨pB1 HB.out GE125001.out⟩⟩
           ·replace c12 := Bool.eq_false_iff.mpr c12
            subst c12
            have H1 : (some false) = some r := by rw [if_neg (show ¬ (false = true) by decide)] at H; exact H
            clear H
            have H := H1
            clear H1
            obtain rfl := Option.some.inj H
            try go_wp2
            have n0_ := aQ (blk_drew BK125001.out)
            have n1_ := aQ (below_drew1 HB.out)
            clear BK125001
            clear HB
            have BK125001 := n0_
            have HB := n1_
            clear n0_ n1_
            have p125002 : 0 ≤ (x8_2 : Int) := of_decide_eq_true as_
            have q125002 : x8_2 < (l1.length : Int) := of_decide_eq_true as_
            obtain ⟨ad125002, e125002, hx125002_0⟩ := Kd.at_int HR1.out x8_2 p125002 q125002
            have hw125002_0 := hx125002_0
            cases e125002
            replace hx125002_0 := (HB.out.cell (World.block_lt_of_cell? w _ hx125002_0)).trans hx125002_0
            replace p125002 := eq_true p125002
            replace q125002 := eq_true q125002
            have p125003 : 0 ≤ (x7_1 : Int) := of_decide_eq_true as_
            have q125003 : x7_1 < (l2.length : Int) := of_decide_eq_true as_
            obtain ⟨ad125003, e125003, hx125003_0⟩ := Kd.at_int HR2.out x7_1 p125003 q125003
            have hw125003_0 := hx125003_0
            cases e125003
            replace hx125003_0 := (HB.out.cell (World.block_lt_of_cell? w _ hx125003_0)).trans hx125003_0
            replace p125003 := eq_true p125003
            replace q125003 := eq_true q125003
            have p125004 : 0 ≤ (x7_1 : Int) := of_decide_eq_true as_
            have q125004 : x7_1 < (l2.length : Int) := of_decide_eq_true as_
            obtain ⟨ad125004, e125004, hx125004_0⟩ := Kd.at_int HR2.out x7_1 p125004 q125004
            have hw125004_0 := hx125004_0
            obtain rfl : ad125003 = ad125004 := (by injection e125004)
            replace hx125004_0 := (HB.out.cell (World.block_lt_of_cell? w _ hx125004_0)).trans hx125004_0
            replace p125004 := eq_true p125004
            replace q125004 := eq_true q125004
            have p125005 : 0 ≤ (x8_2 : Int) := of_decide_eq_true as_
            have q125005 : x8_2 < (l1.length : Int) := of_decide_eq_true as_
            obtain ⟨ad125005, e125005, hx125005_0⟩ := Kd.at_int HR1.out x8_2 p125005 q125005
            have hw125005_0 := hx125005_0
            obtain rfl : ad125002 = ad125005 := (by injection e125005)
            replace hx125005_0 := (HB.out.cell (World.block_lt_of_cell? w _ hx125005_0)).trans hx125005_0
            replace p125005 := eq_true p125005
            replace q125005 := eq_true q125005
            refine start_ (n := 23) (S := fun w' => w'.cell? (ad125002.add (x8_2).toNat) = some (.int .i64 (rd l1 x8_2)) ∧ w'.cell? (ad125003.add (x7_1).toNat) = some (.int .i64 (rd l2 x7_1)) ∧ w'.cell? (ad125003.add (x7_1).toNat) = some (.int .i64 (rd l2 x7_1)) ∧ w'.cell? (ad125002.add (x8_2).toNat) = some (.int .i64 (rd l1 x8_2))) (ds := []) #[false, false, false, false, false, false, false, false, false, false, false, false, false, false, false, false, false, false, false, false, false, false, false] (by kernel_rfl) rfl rfl ⟨((HB.out.cell (World.block_lt_of_cell? w _ hw125002_0)).trans hw125002_0), ((HB.out.cell (World.block_lt_of_cell? w _ hw125003_0)).trans hw125003_0), ((HB.out.cell (World.block_lt_of_cell? w _ hw125004_0)).trans hw125004_0), ((HB.out.cell (World.block_lt_of_cell? w _ hw125005_0)).trans hw125005_0)⟩ (fun hHeld => ?_); refine with_tabW spec_l17Cut.tab7 spec_l17Cut.bits7 (fun HT_ HW_ => ?_)
            generalize wr.drew = w14 at BK125001 HB hx125002_0 hx125003_0 hx125004_0 hx125005_0 hHeld ⊢
            refine puA (i := 0) (N := some 22) HT_ (h := ?_)
            refine puA (i := 1) (N := some 23) HT_ (h := ?_)
            refine puA (i := 2) (N := some 24) HT_ (h := ?_)
            refine puA (i := 4) (N := some 26) HT_ (h := ?_)
            refine puA (i := 5) (N := some 27) HT_ (h := ?_)
            refine puA (i := 6) (N := some 28) HT_ (h := ?_)
            refine puA (i := 9) (N := some 31) HT_ (h := ?_)
            refine puA (i := 10) (N := some 32) HT_ (h := ?_)
            refine puA (i := 11) (N := some 33) HT_ (h := ?_)
            refine taA4 (i := 3) (N := some 25) HT_ HW_ hHeld (h := ?_)
            refine taA4 (i := 7) (N := some 29) HT_ HW_ hHeld (h := ?_)
            refine puA (i := 8) (N := some 30) HT_ (h := ?_)
            refine taA4 (i := 12) (N := some 34) HT_ HW_ hHeld (h := ?_)
            refine puA (i := 13) (N := some 35) HT_ (h := ?_)
            refine puA (i := 14) (N := some 36) HT_ (h := ?_)
            refine puA (i := 15) (N := some 37) HT_ (h := ?_)
            refine puA (i := 16) (N := some 38) HT_ (h := ?_)
            refine puA (i := 17) (N := some 39) HT_ (h := ?_)
            refine puA (i := 18) (N := some 40) HT_ (h := ?_)
            refine taA4 (i := 19) (N := some 41) HT_ HW_ hHeld (h := ?_)
            refine onA (i := 20) (N := some 42) HT_ (h := fun K hK => ?_)
            refine goes_ Try.func90 (by kernel_rfl) rfl #[.slice (some ad125003) l2.length c2, .int .i64 (rd l1 x8_2)] (by rfl) rfl rfl lm ?_
            with_reducible refine (spec_HasSet.calls k2 _ _ l2 (rd l1 x8_2) false _ ?side1 ?side2 A11.out).mono ?_
            (case side1 => exact pC (Kd.C_below HR2.out HB.out))
            (case side2 => exact HC2.out)
            rintro e w' ⟨rfl, ⟨nd, rfl⟩⟩
            refine ⟨_, rfl, ?_⟩
            refine hK.out _ _ ⟨((HB.out.cell (World.block_lt_of_cell? w _ hw125002_0)).trans hw125002_0), ((HB.out.cell (World.block_lt_of_cell? w _ hw125003_0)).trans hw125003_0), ((HB.out.cell (World.block_lt_of_cell? w _ hw125004_0)).trans hw125004_0), ((HB.out.cell (World.block_lt_of_cell? w _ hw125005_0)).trans hw125005_0)⟩ (fun hHeld => ?_)
            clear hK K
            refine noA (h := ?_)
            refine puA (i := 21) (N := some 43) HT_ (h := ?_)
            refine puA (i := 22) (N := some 44) HT_ (h := ?_)
            refine done_ (done_of HT_.out (by kernel_rfl)) ?_
            try go_wp2
            go_ret
            exact ⟨re_, pB1 HB.out GE125001.out⟩
          ·rw [if_neg c10] at H
           have c10b0 : ((Go.bits .and .i64 (rd l1 x8_2) (rd l2 x7_1)) == (rd l2 x7_1)) = false := beq_eq_false_iff_ne.mpr c10
           have c10b1 : ((Go.bits .and .i64 (rd l1 x8_2) (rd l2 x7_1)) != (rd l2 x7_1)) = true := bne_iff_ne.mpr c10
           have H' := aQ H
           clear H
           try go_wp2
           have n0_ := aQ (blk_drew BK125001.out)
           have n1_ := aQ (below_drew1 HB.out)
           clear BK125001
           clear HB
           have BK125001 := n0_
           have HB := n1_
           clear n0_ n1_
           have p125002 : 0 ≤ (x8_2 : Int) := of_decide_eq_true as_
           have q125002 : x8_2 < (l1.length : Int) := of_decide_eq_true as_
           obtain ⟨ad125002, e125002, hx125002_0⟩ := Kd.at_int HR1.out x8_2 p125002 q125002
           have hw125002_0 := hx125002_0
           cases e125002
           replace hx125002_0 := (HB.out.cell (World.block_lt_of_cell? w _ hx125002_0)).trans hx125002_0
           replace p125002 := eq_true p125002
           replace q125002 := eq_true q125002
           have p125003 : 0 ≤ (x7_1 : Int) := of_decide_eq_true as_
           have q125003 : x7_1 < (l2.length : Int) := of_decide_eq_true as_
           obtain ⟨ad125003, e125003, hx125003_0⟩ := Kd.at_int HR2.out x7_1 p125003 q125003
           have hw125003_0 := hx125003_0
           cases e125003
           replace hx125003_0 := (HB.out.cell (World.block_lt_of_cell? w _ hx125003_0)).trans hx125003_0
           replace p125003 := eq_true p125003
           replace q125003 := eq_true q125003
           have p125004 : 0 ≤ (x7_1 : Int) := of_decide_eq_true as_
           have q125004 : x7_1 < (l2.length : Int) := of_decide_eq_true as_
           obtain ⟨ad125004, e125004, hx125004_0⟩ := Kd.at_int HR2.out x7_1 p125004 q125004
           have hw125004_0 := hx125004_0
           obtain rfl : ad125003 = ad125004 := (by injection e125004)
           replace hx125004_0 := (HB.out.cell (World.block_lt_of_cell? w _ hx125004_0)).trans hx125004_0
           replace p125004 := eq_true p125004
           replace q125004 := eq_true q125004
           refine start_ (n := 23) (S := fun w' => w'.cell? (ad125002.add (x8_2).toNat) = some (.int .i64 (rd l1 x8_2)) ∧ w'.cell? (ad125003.add (x7_1).toNat) = some (.int .i64 (rd l2 x7_1)) ∧ w'.cell? (ad125003.add (x7_1).toNat) = some (.int .i64 (rd l2 x7_1))) (ds := []) #[false, false, false, false, false, false, false, false, false, false, false, false, false, false, false, false, false, false, false, false, false, false, false] (by kernel_rfl) rfl rfl ⟨((HB.out.cell (World.block_lt_of_cell? w _ hw125002_0)).trans hw125002_0), ((HB.out.cell (World.block_lt_of_cell? w _ hw125003_0)).trans hw125003_0), ((HB.out.cell (World.block_lt_of_cell? w _ hw125004_0)).trans hw125004_0)⟩ (fun hHeld => ?_); refine with_tabW spec_l17Cut.tab7 spec_l17Cut.bits7 (fun HT_ HW_ => ?_)
           generalize wr.drew = w15 at BK125001 HB hx125002_0 hx125003_0 hx125004_0 hHeld ⊢
           refine puA (i := 0) (N := some 22) HT_ (h := ?_)
           refine puA (i := 1) (N := some 23) HT_ (h := ?_)
           refine puA (i := 2) (N := some 24) HT_ (h := ?_)
           refine puA (i := 4) (N := some 26) HT_ (h := ?_)
           refine puA (i := 5) (N := some 27) HT_ (h := ?_)
           refine puA (i := 6) (N := some 28) HT_ (h := ?_)
           refine puA (i := 9) (N := some 31) HT_ (h := ?_)
           refine puA (i := 10) (N := some 32) HT_ (h := ?_)
           refine puA (i := 11) (N := some 33) HT_ (h := ?_)
           refine taA3 (i := 3) (N := some 25) HT_ HW_ hHeld (h := ?_)
           refine taA3 (i := 7) (N := some 29) HT_ HW_ hHeld (h := ?_)
           refine puA (i := 8) (N := some 30) HT_ (h := ?_)
           refine taA3 (i := 12) (N := some 34) HT_ HW_ hHeld (h := ?_)
           refine puA (i := 13) (N := some 35) HT_ (h := ?_)
           refine puA (i := 14) (N := some 36) HT_ (h := ?_)
           refine puU (i := 15) (N := some 37) HT_ (h := ?_)
           refine puU (i := 16) (N := some 38) HT_ (h := ?_)
           refine puU (i := 17) (N := some 39) HT_ (h := ?_)
           refine puU (i := 18) (N := some 40) HT_ (h := ?_)
           refine puU (i := 19) (N := some 41) HT_ (h := ?_)
           refine puU (i := 20) (N := some 42) HT_ (h := ?_)
           refine puU (i := 21) (N := some 43) HT_ (h := ?_)
           refine puA (i := 22) (N := some 44) HT_ (h := ?_)
           refine done_ (done_of HT_.out (by kernel_rfl)) ?_
           try go_wp2
           go_roundg k2
           case measure => have := HK1.out; have := HK2.out; omega
           case rel => exact ⟨(wrap64 (x8_2 + 1)), rs_, H', ⟨by have := HK1.out; have := HK2.out; omega⟩, ⟨pk BK125001.out⟩, ⟨pB1 HB.out GE125001.out⟩⟩
         ·rw [if_neg c9] at H
          exact absurd H (by simp)
        ·rw [if_neg c8] at H
         exact absurd H (by simp)
       ·rw [if_neg c7] at H
        exact absurd H (by simp)
      ·rw [if_neg c6] at H
       have c6b0 : decide (x8_2 < (l1.length : Int)) = false := decide_eq_false c6
       clear c6
       have H' := aQ H
       clear H
       go_wp2
       go_loopg [9] k2 (fun kq v9 w' => ∃ (x9_3 : Int), v9 = .int .i64 x9_3 ∧ Aside0 (spec_l17Cut.l2 kq l1 l2 x7_1 x9_3 a0_0 l0_1 = some r) ∧ Aside0 (kq ≤ k2) ∧ Aside0 (w'.heap[gb125001]? = some (.cells #[.int .i64 a0_0, (.slice A0_1 l0_1.length c0_1)] 26 (0, 0))) ∧ Aside0 (Below w.heap.size w w'))
       case atStart => exact ⟨(0), rs_, H', ⟨Nat.le_refl _⟩, ⟨pk BK125001.out⟩, ⟨pB1 HB.out GE125001.out⟩⟩
       case round =>
        clear H'
        try clear c1
        try clear p1
        try clear q1
        try clear hx1
        try clear c2
        try clear p2
        try clear c6
        try clear c6b0
        try clear p6
        try clear c7
        try clear c8
        try clear c9
        try clear c10
        try clear c10b0
        try clear c10b1
        try clear c12
        try clear p12
        try clear q12
        try clear hx12
        try clear hx125002_0
        try clear hx125003_0
        try clear hx125004_0
        try clear hx125005_0
        try clear p125002
        try clear p125003
        try clear p125004
        try clear p125005
        try clear q125002
        try clear q125003
        try clear q125004
        try clear q125005
        obtain ⟨x9_3, rfl, HA, HK3, BK125001, HB⟩ := hrel
        cases gk with
        | zero => exact absurd HA.out (by simp [spec_l17Cut.l2])
        | succ k3 =>
         have H := HA.out
         clear HA
         simp only [spec_l17Cut.l2] at H
         by_cases c16 : x9_3 < x7_1
         ·rw [if_pos c16] at H
          have c16b0 : decide (x9_3 < x7_1) = true := decide_eq_true c16
          clear c16
          by_cases c17 : 0 ≤ x7_1
          ·rw [if_pos c17] at H
           have c17b0 : decide (0 ≤ x7_1) = true := decide_eq_true c17
           clear c17
           by_cases c18 : x7_1 < (l2.length : Int)
           ·rw [if_pos c18] at H
            have c18b0 : decide (x7_1 < (l2.length : Int)) = true := decide_eq_true c18
            clear c18
            by_cases c19 : 0 ≤ x9_3
            ·rw [if_pos c19] at H
             have c19b0 : decide (0 ≤ x9_3) = true := decide_eq_true c19
             clear c19
             by_cases c20 : x9_3 < (l2.length : Int)
             ·rw [if_pos c20] at H
              have c20b0 : decide (x9_3 < (l2.length : Int)) = true := decide_eq_true c20
              clear c20
              replace H := Option.bind_eq_some_iff.mp H
              obtain ⟨t125009, A210, H⟩ := H
              replace H : (if t125009 = true then ((spec_HasSet.f k3 l2 (Go.bits .and .i64 (rd l2 x7_1) (rd l2 x9_3))).bind fun t125012 => (if t125012 = true then (spec_l17Cut.l2 k3 l1 l2 x7_1 (wrap64 (x9_3 + 1)) a0_0 l0_1) else (some false))) else (spec_l17Cut.l2 k3 l1 l2 x7_1 (wrap64 (x9_3 + 1)) a0_0 l0_1)) = some r := H
              have A21 := aQ A210
              clear A210
              by_cases c22 : t125009 = true
              ·subst c22
               have H1 : ((spec_HasSet.f k3 l2 (Go.bits .and .i64 (rd l2 x7_1) (rd l2 x9_3))).bind fun t125012 => (if t125012 = true then (spec_l17Cut.l2 k3 l1 l2 x7_1 (wrap64 (x9_3 + 1)) a0_0 l0_1) else (some false))) = some r := by rw [if_pos rfl] at H; exact H
               clear H
               have H := H1
               clear H1
               replace H := Option.bind_eq_some_iff.mp H
               obtain ⟨t125012, A230, H⟩ := H
               replace H : (if t125012 = true then (spec_l17Cut.l2 k3 l1 l2 x7_1 (wrap64 (x9_3 + 1)) a0_0 l0_1) else (some false)) = some r := H
               have A23 := aQ A230
               clear A230
               by_cases c24 : t125012 = true
               ·subst c24
                have H1 : (spec_l17Cut.l2 k3 l1 l2 x7_1 (wrap64 (x9_3 + 1)) a0_0 l0_1) = some r := by rw [if_pos rfl] at H; exact H
                clear H
                have H := H1
                clear H1
                have H' := aQ H
                clear H
                try go_wp2
                have n0_ := aQ (blk_drew BK125001.out)
                have n1_ := aQ (below_drew1 HB.out)
                clear BK125001
                clear HB
                have BK125001 := n0_
                have HB := n1_
                clear n0_ n1_
                have p125007 : 0 ≤ (x7_1 : Int) := of_decide_eq_true as_
                have q125007 : x7_1 < (l2.length : Int) := of_decide_eq_true as_
                obtain ⟨ad125007, e125007, hx125007_0⟩ := Kd.at_int HR2.out x7_1 p125007 q125007
                have hw125007_0 := hx125007_0
                cases e125007
                replace hx125007_0 := (HB.out.cell (World.block_lt_of_cell? w _ hx125007_0)).trans hx125007_0
                replace p125007 := eq_true p125007
                replace q125007 := eq_true q125007
                have p125008 : 0 ≤ (x9_3 : Int) := of_decide_eq_true as_
                have q125008 : x9_3 < (l2.length : Int) := of_decide_eq_true as_
                obtain ⟨ad125008, e125008, hx125008_0⟩ := Kd.at_int HR2.out x9_3 p125008 q125008
                have hw125008_0 := hx125008_0
                obtain rfl : ad125007 = ad125008 := (by injection e125008)
                replace hx125008_0 := (HB.out.cell (World.block_lt_of_cell? w _ hx125008_0)).trans hx125008_0
                replace p125008 := eq_true p125008
                replace q125008 := eq_true q125008
                have p125010 : 0 ≤ (x7_1 : Int) := of_decide_eq_true as_
                have q125010 : x7_1 < (l2.length : Int) := of_decide_eq_true as_
                obtain ⟨ad125010, e125010, hx125010_0⟩ := Kd.at_int HR2.out x7_1 p125010 q125010
                have hw125010_0 := hx125010_0
                obtain rfl : ad125007 = ad125010 := (by injection e125010)
                replace hx125010_0 := (HB.out.cell (World.block_lt_of_cell? w _ hx125010_0)).trans hx125010_0
                replace p125010 := eq_true p125010
                replace q125010 := eq_true q125010
                have p125011 : 0 ≤ (x9_3 : Int) := of_decide_eq_true as_
                have q125011 : x9_3 < (l2.length : Int) := of_decide_eq_true as_
                obtain ⟨ad125011, e125011, hx125011_0⟩ := Kd.at_int HR2.out x9_3 p125011 q125011
                have hw125011_0 := hx125011_0
                obtain rfl : ad125007 = ad125011 := (by injection e125011)
                replace hx125011_0 := (HB.out.cell (World.block_lt_of_cell? w _ hx125011_0)).trans hx125011_0
                replace p125011 := eq_true p125011
                replace q125011 := eq_true q125011
                refine start_ (n := 24) (S := fun w' => w'.cell? ⟨gb125001, 0, none⟩ = some (.int .i64 a0_0) ∧ w'.cell? ⟨gb125001, 1, none⟩ = some (.slice A0_1 l0_1.length c0_1) ∧ w'.cell? (ad125007.add (x7_1).toNat) = some (.int .i64 (rd l2 x7_1)) ∧ w'.cell? (ad125007.add (x9_3).toNat) = some (.int .i64 (rd l2 x9_3)) ∧ w'.cell? (ad125007.add (x7_1).toNat) = some (.int .i64 (rd l2 x7_1)) ∧ w'.cell? (ad125007.add (x9_3).toNat) = some (.int .i64 (rd l2 x9_3))) (ds := []) #[false, false, false, false, false, false, false, false, false, false, false, false, false, false, false, false, false, false, false, false, false, false, false, false] (by kernel_rfl) rfl rfl ⟨(blk_cell BK125001.out 0).trans rfl, (blk_cell BK125001.out 1).trans rfl, ((HB.out.cell (World.block_lt_of_cell? w _ hw125007_0)).trans hw125007_0), ((HB.out.cell (World.block_lt_of_cell? w _ hw125008_0)).trans hw125008_0), ((HB.out.cell (World.block_lt_of_cell? w _ hw125010_0)).trans hw125010_0), ((HB.out.cell (World.block_lt_of_cell? w _ hw125011_0)).trans hw125011_0)⟩ (fun hHeld => ?_); refine with_tabW spec_l17Cut.tab12 spec_l17Cut.bits12 (fun HT_ HW_ => ?_)
                generalize wr.drew = w25 at BK125001 HB hx125007_0 hx125008_0 hx125010_0 hx125011_0 hHeld ⊢
                refine puA (i := 1) (N := some 51) HT_ (h := ?_)
                refine puA (i := 2) (N := some 52) HT_ (h := ?_)
                refine puA (i := 3) (N := some 53) HT_ (h := ?_)
                refine puA (i := 5) (N := some 55) HT_ (h := ?_)
                refine puA (i := 6) (N := some 56) HT_ (h := ?_)
                refine puA (i := 7) (N := some 57) HT_ (h := ?_)
                refine taA6 (i := 0) (N := some 50) HT_ HW_ hHeld (h := ?_)
                refine taA6 (i := 4) (N := some 54) HT_ HW_ hHeld (h := ?_)
                refine taA6 (i := 8) (N := some 58) HT_ HW_ hHeld (h := ?_)
                refine onA (i := 9) (N := some 59) HT_ (h := fun K hK => ?_)
                refine goes_ Try.func165 (by kernel_rfl) rfl #[.agg #[.int .i64 a0_0, .slice A0_1 l0_1.length c0_1], .int .i64 (rd l2 x7_1), .int .i64 (rd l2 x9_3)] (by rfl) rfl rfl lm ?_
                with_reducible refine (spec_l17Modular.calls k3 a0_0 _ _ l0_1 (rd l2 x7_1) (rd l2 x9_3) true _ ?side1 ?side2 A21.out).mono ?_
                (case side1 => exact pC (Kd.C_below HR0_1.out HB.out))
                (case side2 => exact HC0_1.out)
                rintro e w26 ⟨rfl, hb⟩
                refine ⟨_, rfl, ?_⟩
                have n0_ := aQ (blk_below (g := gb125001) (o := .cells #[.int .i64 a0_0, .slice A0_1 l0_1.length c0_1] 26 (0, 0)) (pk BK125001.out) hb)
                have n1_ := aQ (below_step (pB1 HB.out GE125001.out) hb)
                clear BK125001
                clear HB
                have BK125001 := n0_
                have HB := n1_
                clear n0_ n1_
                (try clear hb)
                (try clear hb2)
                (try clear hk)
                (try clear hi)
                refine hK.out _ _ ⟨(blk_cell BK125001.out 0).trans rfl, (blk_cell BK125001.out 1).trans rfl, ((HB.out.cell (World.block_lt_of_cell? w _ hw125007_0)).trans hw125007_0), ((HB.out.cell (World.block_lt_of_cell? w _ hw125008_0)).trans hw125008_0), ((HB.out.cell (World.block_lt_of_cell? w _ hw125010_0)).trans hw125010_0), ((HB.out.cell (World.block_lt_of_cell? w _ hw125011_0)).trans hw125011_0)⟩ (fun hHeld => ?_)
                clear hK K
                refine noA (h := ?_)
                refine puA (i := 10) (N := some 60) HT_ (h := ?_)
                refine puA (i := 11) (N := some 61) HT_ (h := ?_)
                refine puA (i := 12) (N := some 62) HT_ (h := ?_)
                refine puA (i := 13) (N := some 63) HT_ (h := ?_)
                refine puA (i := 14) (N := some 64) HT_ (h := ?_)
                refine puA (i := 16) (N := some 66) HT_ (h := ?_)
                refine puA (i := 17) (N := some 67) HT_ (h := ?_)
                refine puA (i := 18) (N := some 68) HT_ (h := ?_)
                refine taA6 (i := 15) (N := some 65) HT_ HW_ hHeld (h := ?_)
                refine taA6 (i := 19) (N := some 69) HT_ HW_ hHeld (h := ?_)
                refine puA (i := 20) (N := some 70) HT_ (h := ?_)
                refine onA (i := 21) (N := some 71) HT_ (h := fun K hK => ?_)
                refine goes_ Try.func90 (by kernel_rfl) rfl #[.slice (some ad125007) l2.length c2, .int .i64 (Go.bits .and .i64 (rd l2 x7_1) (rd l2 x9_3))] (by rfl) rfl rfl lm ?_
                with_reducible refine (spec_HasSet.calls k3 _ _ l2 (Go.bits .and .i64 (rd l2 x7_1) (rd l2 x9_3)) true _ ?side1 ?side2 A23.out).mono ?_
                (case side1 => exact pC (Kd.C_below HR2.out HB.out))
                (case side2 => exact HC2.out)
                rintro e w' ⟨rfl, ⟨nd, rfl⟩⟩
                refine ⟨_, rfl, ?_⟩
                refine hK.out _ _ ⟨(blk_cell BK125001.out 0).trans rfl, (blk_cell BK125001.out 1).trans rfl, ((HB.out.cell (World.block_lt_of_cell? w _ hw125007_0)).trans hw125007_0), ((HB.out.cell (World.block_lt_of_cell? w _ hw125008_0)).trans hw125008_0), ((HB.out.cell (World.block_lt_of_cell? w _ hw125010_0)).trans hw125010_0), ((HB.out.cell (World.block_lt_of_cell? w _ hw125011_0)).trans hw125011_0)⟩ (fun hHeld => ?_)
                clear hK K
                refine noA (h := ?_)
                refine puA (i := 22) (N := some 72) HT_ (h := ?_)
                refine puA (i := 23) (N := some 73) HT_ (h := ?_)
                refine done_ (done_of HT_.out (by kernel_rfl)) ?_
                try go_wp2
                go_roundg k3
                case measure => have := HK1.out; have := HK2.out; have := HK3.out; omega
                case rel => exact ⟨(wrap64 (x9_3 + 1)), rs_, H', ⟨by have := HK1.out; have := HK2.out; have := HK3.out; omega⟩, ⟨pk BK125001.out⟩, ⟨pB1 HB.out GE125001.out⟩⟩
               ·replace c24 := Bool.eq_false_iff.mpr c24
                subst c24
                have H1 : (some false) = some r := by rw [if_neg (show ¬ (false = true) by decide)] at H; exact H
                clear H
                have H := H1
                clear H1
                obtain rfl := Option.some.inj H
                try go_wp2
                have n0_ := aQ (blk_drew BK125001.out)
                have n1_ := aQ (below_drew1 HB.out)
                clear BK125001
                clear HB
                have BK125001 := n0_
                have HB := n1_
                clear n0_ n1_
                have p125007 : 0 ≤ (x7_1 : Int) := of_decide_eq_true as_
                have q125007 : x7_1 < (l2.length : Int) := of_decide_eq_true as_
                obtain ⟨ad125007, e125007, hx125007_0⟩ := Kd.at_int HR2.out x7_1 p125007 q125007
                have hw125007_0 := hx125007_0
                cases e125007
                replace hx125007_0 := (HB.out.cell (World.block_lt_of_cell? w _ hx125007_0)).trans hx125007_0
                replace p125007 := eq_true p125007
                replace q125007 := eq_true q125007
                have p125008 : 0 ≤ (x9_3 : Int) := of_decide_eq_true as_
                have q125008 : x9_3 < (l2.length : Int) := of_decide_eq_true as_
                obtain ⟨ad125008, e125008, hx125008_0⟩ := Kd.at_int HR2.out x9_3 p125008 q125008
                have hw125008_0 := hx125008_0
                obtain rfl : ad125007 = ad125008 := (by injection e125008)
                replace hx125008_0 := (HB.out.cell (World.block_lt_of_cell? w _ hx125008_0)).trans hx125008_0
                replace p125008 := eq_true p125008
                replace q125008 := eq_true q125008
                have p125010 : 0 ≤ (x7_1 : Int) := of_decide_eq_true as_
                have q125010 : x7_1 < (l2.length : Int) := of_decide_eq_true as_
                obtain ⟨ad125010, e125010, hx125010_0⟩ := Kd.at_int HR2.out x7_1 p125010 q125010
                have hw125010_0 := hx125010_0
                obtain rfl : ad125007 = ad125010 := (by injection e125010)
                replace hx125010_0 := (HB.out.cell (World.block_lt_of_cell? w _ hx125010_0)).trans hx125010_0
                replace p125010 := eq_true p125010
                replace q125010 := eq_true q125010
                have p125011 : 0 ≤ (x9_3 : Int) := of_decide_eq_true as_
                have q125011 : x9_3 < (l2.length : Int) := of_decide_eq_true as_
                obtain ⟨ad125011, e125011, hx125011_0⟩ := Kd.at_int HR2.out x9_3 p125011 q125011
                have hw125011_0 := hx125011_0
                obtain rfl : ad125007 = ad125011 := (by injection e125011)
                replace hx125011_0 := (HB.out.cell (World.block_lt_of_cell? w _ hx125011_0)).trans hx125011_0
                replace p125011 := eq_true p125011
                replace q125011 := eq_true q125011
                refine start_ (n := 24) (S := fun w' => w'.cell? ⟨gb125001, 0, none⟩ = some (.int .i64 a0_0) ∧ w'.cell? ⟨gb125001, 1, none⟩ = some (.slice A0_1 l0_1.length c0_1) ∧ w'.cell? (ad125007.add (x7_1).toNat) = some (.int .i64 (rd l2 x7_1)) ∧ w'.cell? (ad125007.add (x9_3).toNat) = some (.int .i64 (rd l2 x9_3)) ∧ w'.cell? (ad125007.add (x7_1).toNat) = some (.int .i64 (rd l2 x7_1)) ∧ w'.cell? (ad125007.add (x9_3).toNat) = some (.int .i64 (rd l2 x9_3))) (ds := []) #[false, false, false, false, false, false, false, false, false, false, false, false, false, false, false, false, false, false, false, false, false, false, false, false] (by kernel_rfl) rfl rfl ⟨(blk_cell BK125001.out 0).trans rfl, (blk_cell BK125001.out 1).trans rfl, ((HB.out.cell (World.block_lt_of_cell? w _ hw125007_0)).trans hw125007_0), ((HB.out.cell (World.block_lt_of_cell? w _ hw125008_0)).trans hw125008_0), ((HB.out.cell (World.block_lt_of_cell? w _ hw125010_0)).trans hw125010_0), ((HB.out.cell (World.block_lt_of_cell? w _ hw125011_0)).trans hw125011_0)⟩ (fun hHeld => ?_); refine with_tabW spec_l17Cut.tab12 spec_l17Cut.bits12 (fun HT_ HW_ => ?_)
                generalize wr.drew = w27 at BK125001 HB hx125007_0 hx125008_0 hx125010_0 hx125011_0 hHeld ⊢
                refine puA (i := 1) (N := some 51) HT_ (h := ?_)
                refine puA (i := 2) (N := some 52) HT_ (h := ?_)
                refine puA (i := 3) (N := some 53) HT_ (h := ?_)
                refine puA (i := 5) (N := some 55) HT_ (h := ?_)
                refine puA (i := 6) (N := some 56) HT_ (h := ?_)
                refine puA (i := 7) (N := some 57) HT_ (h := ?_)
                refine taA6 (i := 0) (N := some 50) HT_ HW_ hHeld (h := ?_)
                refine taA6 (i := 4) (N := some 54) HT_ HW_ hHeld (h := ?_)
                refine taA6 (i := 8) (N := some 58) HT_ HW_ hHeld (h := ?_)
                refine onA (i := 9) (N := some 59) HT_ (h := fun K hK => ?_)
                refine goes_ Try.func165 (by kernel_rfl) rfl #[.agg #[.int .i64 a0_0, .slice A0_1 l0_1.length c0_1], .int .i64 (rd l2 x7_1), .int .i64 (rd l2 x9_3)] (by rfl) rfl rfl lm ?_
                with_reducible refine (spec_l17Modular.calls k3 a0_0 _ _ l0_1 (rd l2 x7_1) (rd l2 x9_3) true _ ?side1 ?side2 A21.out).mono ?_
                (case side1 => exact pC (Kd.C_below HR0_1.out HB.out))
                (case side2 => exact HC0_1.out)
                rintro e w28 ⟨rfl, hb⟩
                refine ⟨_, rfl, ?_⟩
                have n0_ := aQ (blk_below (g := gb125001) (o := .cells #[.int .i64 a0_0, .slice A0_1 l0_1.length c0_1] 26 (0, 0)) (pk BK125001.out) hb)
                have n1_ := aQ (below_step (pB1 HB.out GE125001.out) hb)
                clear BK125001
                clear HB
                have BK125001 := n0_
                have HB := n1_
                clear n0_ n1_
                (try clear hb)
                (try clear hb2)
                (try clear hk)
                (try clear hi)
                refine hK.out _ _ ⟨(blk_cell BK125001.out 0).trans rfl, (blk_cell BK125001.out 1).trans rfl, ((HB.out.cell (World.block_lt_of_cell? w _ hw125007_0)).trans hw125007_0), ((HB.out.cell (World.block_lt_of_cell? w _ hw125008_0)).trans hw125008_0), ((HB.out.cell (World.block_lt_of_cell? w _ hw125010_0)).trans hw125010_0), ((HB.out.cell (World.block_lt_of_cell? w _ hw125011_0)).trans hw125011_0)⟩ (fun hHeld => ?_)
                clear hK K
                refine noA (h := ?_)
                refine puA (i := 10) (N := some 60) HT_ (h := ?_)
                refine puA (i := 11) (N := some 61) HT_ (h := ?_)
                refine puA (i := 12) (N := some 62) HT_ (h := ?_)
                refine puA (i := 13) (N := some 63) HT_ (h := ?_)
                refine puA (i := 14) (N := some 64) HT_ (h := ?_)
                refine puA (i := 16) (N := some 66) HT_ (h := ?_)
                refine puA (i := 17) (N := some 67) HT_ (h := ?_)
                refine puA (i := 18) (N := some 68) HT_ (h := ?_)
                refine taA6 (i := 15) (N := some 65) HT_ HW_ hHeld (h := ?_)
                refine taA6 (i := 19) (N := some 69) HT_ HW_ hHeld (h := ?_)
                refine puA (i := 20) (N := some 70) HT_ (h := ?_)
                refine onA (i := 21) (N := some 71) HT_ (h := fun K hK => ?_)
                refine goes_ Try.func90 (by kernel_rfl) rfl #[.slice (some ad125007) l2.length c2, .int .i64 (Go.bits .and .i64 (rd l2 x7_1) (rd l2 x9_3))] (by rfl) rfl rfl lm ?_
                with_reducible refine (spec_HasSet.calls k3 _ _ l2 (Go.bits .and .i64 (rd l2 x7_1) (rd l2 x9_3)) false _ ?side1 ?side2 A23.out).mono ?_
                (case side1 => exact pC (Kd.C_below HR2.out HB.out))
                (case side2 => exact HC2.out)
                rintro e w' ⟨rfl, ⟨nd, rfl⟩⟩
                refine ⟨_, rfl, ?_⟩
                refine hK.out _ _ ⟨(blk_cell BK125001.out 0).trans rfl, (blk_cell BK125001.out 1).trans rfl, ((HB.out.cell (World.block_lt_of_cell? w _ hw125007_0)).trans hw125007_0), ((HB.out.cell (World.block_lt_of_cell? w _ hw125008_0)).trans hw125008_0), ((HB.out.cell (World.block_lt_of_cell? w _ hw125010_0)).trans hw125010_0), ((HB.out.cell (World.block_lt_of_cell? w _ hw125011_0)).trans hw125011_0)⟩ (fun hHeld => ?_)
                clear hK K
                refine noA (h := ?_)
                refine puA (i := 22) (N := some 72) HT_ (h := ?_)
                refine puA (i := 23) (N := some 73) HT_ (h := ?_)
                refine done_ (done_of HT_.out (by kernel_rfl)) ?_
                try go_wp2
                go_ret
                exact ⟨re_, pB1 HB.out GE125001.out⟩
              ·replace c22 := Bool.eq_false_iff.mpr c22
               subst c22
               have H1 : (spec_l17Cut.l2 k3 l1 l2 x7_1 (wrap64 (x9_3 + 1)) a0_0 l0_1) = some r := by rw [if_neg (show ¬ (false = true) by decide)] at H; exact H
               clear H
               have H := H1
               clear H1
               have H' := aQ H
               clear H
               try go_wp2
               have n0_ := aQ (blk_drew BK125001.out)
               have n1_ := aQ (below_drew1 HB.out)
               clear BK125001
               clear HB
               have BK125001 := n0_
               have HB := n1_
               clear n0_ n1_
               have p125007 : 0 ≤ (x7_1 : Int) := of_decide_eq_true as_
               have q125007 : x7_1 < (l2.length : Int) := of_decide_eq_true as_
               obtain ⟨ad125007, e125007, hx125007_0⟩ := Kd.at_int HR2.out x7_1 p125007 q125007
               have hw125007_0 := hx125007_0
               cases e125007
               replace hx125007_0 := (HB.out.cell (World.block_lt_of_cell? w _ hx125007_0)).trans hx125007_0
               replace p125007 := eq_true p125007
               replace q125007 := eq_true q125007
               have p125008 : 0 ≤ (x9_3 : Int) := of_decide_eq_true as_
               have q125008 : x9_3 < (l2.length : Int) := of_decide_eq_true as_
               obtain ⟨ad125008, e125008, hx125008_0⟩ := Kd.at_int HR2.out x9_3 p125008 q125008
               have hw125008_0 := hx125008_0
               obtain rfl : ad125007 = ad125008 := (by injection e125008)
               replace hx125008_0 := (HB.out.cell (World.block_lt_of_cell? w _ hx125008_0)).trans hx125008_0
               replace p125008 := eq_true p125008
               replace q125008 := eq_true q125008
               refine start_ (n := 24) (S := fun w' => w'.cell? ⟨gb125001, 0, none⟩ = some (.int .i64 a0_0) ∧ w'.cell? ⟨gb125001, 1, none⟩ = some (.slice A0_1 l0_1.length c0_1) ∧ w'.cell? (ad125007.add (x7_1).toNat) = some (.int .i64 (rd l2 x7_1)) ∧ w'.cell? (ad125007.add (x9_3).toNat) = some (.int .i64 (rd l2 x9_3))) (ds := []) #[false, false, false, false, false, false, false, false, false, false, false, false, false, false, false, false, false, false, false, false, false, false, false, false] (by kernel_rfl) rfl rfl ⟨(blk_cell BK125001.out 0).trans rfl, (blk_cell BK125001.out 1).trans rfl, ((HB.out.cell (World.block_lt_of_cell? w _ hw125007_0)).trans hw125007_0), ((HB.out.cell (World.block_lt_of_cell? w _ hw125008_0)).trans hw125008_0)⟩ (fun hHeld => ?_); refine with_tabW spec_l17Cut.tab12 spec_l17Cut.bits12 (fun HT_ HW_ => ?_)
               generalize wr.drew = w29 at BK125001 HB hx125007_0 hx125008_0 hHeld ⊢
               refine puA (i := 1) (N := some 51) HT_ (h := ?_)
               refine puA (i := 2) (N := some 52) HT_ (h := ?_)
               refine puA (i := 3) (N := some 53) HT_ (h := ?_)
               refine puA (i := 5) (N := some 55) HT_ (h := ?_)
               refine puA (i := 6) (N := some 56) HT_ (h := ?_)
               refine puA (i := 7) (N := some 57) HT_ (h := ?_)
               refine taA4 (i := 0) (N := some 50) HT_ HW_ hHeld (h := ?_)
               refine taA4 (i := 4) (N := some 54) HT_ HW_ hHeld (h := ?_)
               refine taA4 (i := 8) (N := some 58) HT_ HW_ hHeld (h := ?_)
               refine onA (i := 9) (N := some 59) HT_ (h := fun K hK => ?_)
               refine goes_ Try.func165 (by kernel_rfl) rfl #[.agg #[.int .i64 a0_0, .slice A0_1 l0_1.length c0_1], .int .i64 (rd l2 x7_1), .int .i64 (rd l2 x9_3)] (by rfl) rfl rfl lm ?_
               with_reducible refine (spec_l17Modular.calls k3 a0_0 _ _ l0_1 (rd l2 x7_1) (rd l2 x9_3) false _ ?side1 ?side2 A21.out).mono ?_
               (case side1 => exact pC (Kd.C_below HR0_1.out HB.out))
               (case side2 => exact HC0_1.out)
               rintro e w30 ⟨rfl, hb⟩
               refine ⟨_, rfl, ?_⟩
               have n0_ := aQ (blk_below (g := gb125001) (o := .cells #[.int .i64 a0_0, .slice A0_1 l0_1.length c0_1] 26 (0, 0)) (pk BK125001.out) hb)
               have n1_ := aQ (below_step (pB1 HB.out GE125001.out) hb)
               clear BK125001
               clear HB
               have BK125001 := n0_
               have HB := n1_
               clear n0_ n1_
               (try clear hb)
               (try clear hb2)
               (try clear hk)
               (try clear hi)
               refine hK.out _ _ ⟨(blk_cell BK125001.out 0).trans rfl, (blk_cell BK125001.out 1).trans rfl, ((HB.out.cell (World.block_lt_of_cell? w _ hw125007_0)).trans hw125007_0), ((HB.out.cell (World.block_lt_of_cell? w _ hw125008_0)).trans hw125008_0)⟩ (fun hHeld => ?_)
               clear hK K
               refine noA (h := ?_)
               refine puA (i := 10) (N := some 60) HT_ (h := ?_)
               refine puU (i := 11) (N := some 61) HT_ (h := ?_)
               refine puU (i := 12) (N := some 62) HT_ (h := ?_)
               refine puU (i := 13) (N := some 63) HT_ (h := ?_)
               refine puU (i := 14) (N := some 64) HT_ (h := ?_)
               refine puU (i := 15) (N := some 65) HT_ (h := ?_)
               refine puU (i := 16) (N := some 66) HT_ (h := ?_)
               refine puU (i := 17) (N := some 67) HT_ (h := ?_)
               refine puU (i := 18) (N := some 68) HT_ (h := ?_)
               refine puU (i := 19) (N := some 69) HT_ (h := ?_)
               refine puU (i := 20) (N := some 70) HT_ (h := ?_)
               refine puU (i := 21) (N := some 71) HT_ (h := ?_)
               refine puU (i := 22) (N := some 72) HT_ (h := ?_)
               refine puA (i := 23) (N := some 73) HT_ (h := ?_)
               refine done_ (done_of HT_.out (by kernel_rfl)) ?_
               try go_wp2
               go_roundg k3
               case measure => have := HK1.out; have := HK2.out; have := HK3.out; omega
               case rel => exact ⟨(wrap64 (x9_3 + 1)), rs_, H', ⟨by have := HK1.out; have := HK2.out; have := HK3.out; omega⟩, ⟨pk BK125001.out⟩, ⟨pB1 HB.out GE125001.out⟩⟩
             ·rw [if_neg c20] at H
              exact absurd H (by simp)
            ·rw [if_neg c19] at H
             exact absurd H (by simp)
           ·rw [if_neg c18] at H
            exact absurd H (by simp)
          ·rw [if_neg c17] at H
           exact absurd H (by simp)
         ·rw [if_neg c16] at H
          have c16b0 : decide (x9_3 < x7_1) = false := decide_eq_false c16
          clear c16
          have H' := aQ H
          clear H
          go_wp2
          go_roundg k3
          case measure => have := HK1.out; have := HK2.out; have := HK3.out; omega
          case rel => exact ⟨(wrap64 (x7_1 + 1)), rs_, H', ⟨by have := HK1.out; have := HK2.out; have := HK3.out; omega⟩, ⟨pk BK125001.out⟩, ⟨pB1 HB.out GE125001.out⟩⟩
   ·rw [if_neg c5] at H
    have c5b0 : decide (x7_1 < (l2.length : Int)) = false := decide_eq_false c5
    clear c5
    obtain rfl := Option.some.inj H
    go_wp2
    go_ret
    exact ⟨re_, pB1 HB.out GE125001.out⟩
/-! ### spec_IsModularCut: function 88 -/
def spec_IsModularCut.l0 : Nat → List Int → List Int → Int → Int → List Int → Option (Bool)
 | 0, _, _, _, _, _ => none
 | k + 1, x1, x5, x6, x89002000, x89002001 => if x6 < (x1.length : Int) then (if 0 ≤ x6 then ((spec_HasSet.f k x5 (rd x1 x6)).bind fun t89006 => (if t89006 = true then (spec_IsModularCut.l0 k x1 x5 (wrap64 (x6 + 1)) x89002000 x89002001) else (some false))) else (none)) else ((spec_IsMatroid.f k x89002000 x89002001).bind fun t89007 => (if t89007 = true then ((spec_IsFamily.f k x89002000 x1).bind fun t89008 => (if t89008 = true then ((spec_l17Cut.f k x89002000 x89002001 x5 x1).bind fun t89009 => (some t89009)) else (some false))) else (some false)))
def spec_IsModularCut.f (k : Nat) (a0_0 : Int) (l0_1 : List Int) (l1 : List Int) : Option (Bool) := (spec_Flats.f k a0_0 l0_1).bind fun t89002 => (spec_IsModularCut.l0 k l1 t89002 0 a0_0 l0_1)
theorem spec_IsModularCut.mono_l : ∀ k, (∀ y0 y1 y2 y3 y4, LeO (spec_IsModularCut.l0 k y0 y1 y2 y3 y4) (spec_IsModularCut.l0 (k + 1) y0 y1 y2 y3 y4))
 | 0 => fun _ _ _ _ _ r h => by simp [spec_IsModularCut.l0] at h
 | k + 1 => by
  have ih0 := spec_IsModularCut.mono_l k
  ·intro y0 y1 y2 y3 y4
   unfold spec_IsModularCut.l0
   repeat' first
   | (with_reducible exact ih0 _ _ _ _ _)
   | (with_reducible exact spec_Flats.mono _ _ _)
   | (with_reducible exact spec_HasSet.mono _ _ _)
   | (with_reducible exact spec_IsFamily.mono _ _ _)
   | (with_reducible exact spec_IsMatroid.mono _ _ _)
   | (with_reducible exact spec_l17Cut.mono _ _ _ _ _)
   | (with_reducible exact LeO.refl _)
   | (with_reducible exact LeO.none _)
   | (with_reducible refine LeO.ite ?_ ?_)
   | (with_reducible refine LeO.bind ?_ (fun _ => ?_))
   | exact ih0 _ _ _ _ _
   | exact spec_Flats.mono _ _ _
   | exact spec_HasSet.mono _ _ _
   | exact spec_IsFamily.mono _ _ _
   | exact spec_IsMatroid.mono _ _ _
   | exact spec_l17Cut.mono _ _ _ _ _
   | exact LeO.none _
   | refine LeO.ite ?_ ?_
   | refine LeO.bind ?_ (fun _ => ?_)
theorem spec_IsModularCut.mono : ∀ a0 a1 a2 k, LeO (spec_IsModularCut.f k a0 a1 a2) (spec_IsModularCut.f (k + 1) a0 a1 a2) := by
 intro a0 a1 a2 k
 have ih0 := spec_IsModularCut.mono_l k
 unfold spec_IsModularCut.f
 repeat' first
   | (with_reducible exact ih0 _ _ _ _ _)
   | (with_reducible exact spec_Flats.mono _ _ _)
   | (with_reducible exact spec_HasSet.mono _ _ _)
   | (with_reducible exact spec_IsFamily.mono _ _ _)
   | (with_reducible exact spec_IsMatroid.mono _ _ _)
   | (with_reducible exact spec_l17Cut.mono _ _ _ _ _)
   | (with_reducible exact LeO.refl _)
   | (with_reducible exact LeO.none _)
   | (with_reducible refine LeO.ite ?_ ?_)
   | (with_reducible refine LeO.bind ?_ (fun _ => ?_))
   | exact ih0 _ _ _ _ _
   | exact spec_Flats.mono _ _ _
   | exact spec_HasSet.mono _ _ _
   | exact spec_IsFamily.mono _ _ _
   | exact spec_IsMatroid.mono _ _ _
   | exact spec_l17Cut.mono _ _ _ _ _
   | exact LeO.none _
   | refine LeO.ite ?_ ?_
   | refine LeO.bind ?_ (fun _ => ?_)
set_option maxHeartbeats 8000000 in
set_option maxRecDepth 100000 in
theorem spec_IsModularCut.calls (k : Nat) (a0_0 : Int) (A0_1 : Option Addr) (c0_1 : Nat) (l0_1 : List Int) (A1 : Option Addr) (c1 : Nat) (l1 : List Int) (r : Bool) (w : World) (hr0_1 : Kd.C (Kd.int .i64) w A0_1 l0_1.length l0_1) (hc0_1 : l0_1.length ≤ c0_1) (hr1 : Kd.C (Kd.int .i64) w A1 l1.length l1) (hc1 : l1.length ≤ c1) (h : spec_IsModularCut.f k a0_0 l0_1 l1 = some r) :
  Calls Try.prog 88 #[.agg #[.int .i64 a0_0, .slice A0_1 l0_1.length c0_1], .slice A1 l1.length c1] w fun e w' => e = .returned (.bool r) ∧ Below w.heap.size w w' := by
 have hu26 := Try.underlying26
 have HR0_1 := aQ hr0_1
 have HC0_1 := aQ hc0_1
 clear hr0_1 hc0_1
 have HR1 := aQ hr1
 have HC1 := aQ hc1
 clear hr1 hc1
 have HB := aQ (Below.refl w.heap.size w)
 have H : ((spec_Flats.f k a0_0 l0_1).bind fun t89002 => (spec_IsModularCut.l0 k l1 t89002 0 a0_0 l0_1)) = some r := h
 clear h
 replace H := Option.bind_eq_some_iff.mp H
 obtain ⟨t89002, A30, H⟩ := H
 replace H : (spec_IsModularCut.l0 k l1 t89002 0 a0_0 l0_1) = some r := H
 have A3 := aQ A30
 clear A30
 have H' := aQ H
 clear H
 go_enter Try.func88, Try.ntmps88
 go_wp2_with (first | ((with_reducible refine gate_dst (N := 2) rfl ?_); refine box_event ?hg (N := 2) ?hd (cs := #[.int .i64 a0_0, .slice A0_1 l0_1.length c0_1]) (t := 26) ?hr ?_; (case hd => rfl); (case hg => rfl); (case hr => first | (go_simp; done) | (go_simp; rfl)); intro gb89001 hg w4 hbox hb; have BK89001 := aQ (hbox); have GW89001 := aQ ((by rw [hg]; exact (below_size (pB HB.out)) : w.heap.size ≤ gb89001)); have GE89001 := aQ ((by rw [hg]; exact (below_size (pB HB.out)) : w.heap.size ≤ gb89001)); replace HB := aQ (below_step (pB HB.out) hb); clear hb hbox hg; have hcz5_0 := bc (v := (.int .i64 a0_0)) BK89001.out 0; have hcz5_1 := bc (v := (.slice A0_1 l0_1.length c0_1)) BK89001.out 1; have hfz5_0 := blk_frozen BK89001.out 0; have hfz5_1 := blk_frozen BK89001.out 1) | ((with_reducible refine gate_callee (f := 123) rfl ?_); refine goesL_ (some 8) rfl rfl Try.func123 (by kernel_rfl) rfl #[.agg #[.int .i64 a0_0, .slice A0_1 l0_1.length c0_1]] rfl lm ?_; (with_reducible refine (spec_Flats.calls k a0_0 _ _ l0_1 t89002 _ ?side1 ?side2 A3.out).mono ?_); (case side1 => exact pC (Kd.C_below HR0_1.out HB.out)); (case side2 => exact HC0_1.out); rintro e w6 ⟨v89003, rfl, ho0, hb⟩; refine ⟨_, rfl, ?_⟩; have HO89004 := aQ (Kd.R_lower ho0 (below_size (pB1 HB.out GE89001.out))); replace BK89001 := aQ (blk_below (g := gb89001) (o := .cells #[.int .i64 a0_0, .slice A0_1 l0_1.length c0_1] 26 (0, 0)) (pk BK89001.out) hb); replace HB := aQ (below_step (pB1 HB.out GE89001.out) hb); (try clear hb); (try clear ho0)))
 go_loopg [6] k (fun kq v6 w' => ∃ (x6_1 : Int), v6 = .int .i64 x6_1 ∧ Aside0 (spec_IsModularCut.l0 kq l1 t89002 x6_1 a0_0 l0_1 = some r) ∧ Aside0 (kq ≤ k) ∧ Aside0 (Kd.R (Kd.int .i64) 3 w' w.heap.size (fun _ => True) v89003 t89002) ∧ Aside0 (w'.heap[gb89001]? = some (.cells #[.int .i64 a0_0, (.slice A0_1 l0_1.length c0_1)] 26 (0, 0))) ∧ Aside0 (Below w.heap.size w w'))
 case atStart => exact ⟨(0), rs_, H', ⟨Nat.le_refl _⟩, ⟨pR HO89004.out⟩, ⟨pk BK89001.out⟩, ⟨pB1 HB.out GE89001.out⟩⟩
 case round =>
  clear H'
  try clear c1
  try clear p2
  try clear hcz5_0
  try clear hcz5_1
  try clear hfz5_0
  try clear hfz5_1
  obtain ⟨x6_1, rfl, HA, HK1, HO_5, BK89001, HB⟩ := hrel
  cases gk with
  | zero => exact absurd HA.out (by simp [spec_IsModularCut.l0])
  | succ k1 =>
   have H := HA.out
   clear HA
   simp only [spec_IsModularCut.l0] at H
   by_cases c7 : x6_1 < (l1.length : Int)
   ·rw [if_pos c7] at H
    have c7b0 : decide (x6_1 < (l1.length : Int)) = true := decide_eq_true c7
    clear c7
    by_cases c8 : 0 ≤ x6_1
    ·rw [if_pos c8] at H
     have c8b0 : decide (0 ≤ x6_1) = true := decide_eq_true c8
     clear c8
     replace H := Option.bind_eq_some_iff.mp H
     obtain ⟨t89006, A90, H⟩ := H
     replace H : (if t89006 = true then (spec_IsModularCut.l0 k1 l1 t89002 (wrap64 (x6_1 + 1)) a0_0 l0_1) else (some false)) = some r := H
     have A9 := aQ A90
     clear A90
     by_cases c10 : t89006 = true
     ·subst c10
      have H1 : (spec_IsModularCut.l0 k1 l1 t89002 (wrap64 (x6_1 + 1)) a0_0 l0_1) = some r := by rw [if_pos rfl] at H; exact H
      clear H
      have H := H1
      clear H1
      have H' := aQ H
      clear H
      have p89005 : 0 ≤ (x6_1 : Int) := of_decide_eq_true as_
      have q89005 : x6_1 < (l1.length : Int) := of_decide_eq_true as_
      obtain ⟨ad89005, e89005, hx89005_0⟩ := Kd.at_int HR1.out x6_1 p89005 q89005
      cases e89005
      replace hx89005_0 := (HB.out.cell (World.block_lt_of_cell? w _ hx89005_0)).trans hx89005_0
      replace p89005 := eq_true p89005
      replace q89005 := eq_true q89005
      obtain ⟨Ao11, co11, eo11⟩ := Kd.R_slice HO_5.out
      subst eo11
      go_wp2_with (first | ((with_reducible refine gate_callee (f := 90) rfl ?_); refine goesL_ (some 20) rfl rfl Try.func90 (by kernel_rfl) rfl #[.slice Ao11 t89002.length co11, .int .i64 (rd l1 x6_1)] rfl lm ?_; (with_reducible refine (spec_HasSet.calls k1 _ _ t89002 (rd l1 x6_1) true _ ?side1 ?side2 A9.out).mono ?_); (case side1 => repeat (first | exact (Kd.R_reads' HO_5.out).2.2 | (with_reducible refine Kd.C_alloc ?_ _) | (with_reducible refine Kd.C_drewN ?_ _) | (with_reducible refine Kd.C_drew ?_))); (case side2 => exact (Kd.R_reads' HO_5.out).2.1); rintro e w' ⟨rfl, ⟨nd, rfl⟩⟩; refine ⟨_, rfl, ?_⟩))
      go_roundg k1
      case measure => have := HK1.out; omega
      case rel => exact ⟨(wrap64 (x6_1 + 1)), rs_, H', ⟨by have := HK1.out; omega⟩, ⟨pR HO_5.out⟩, ⟨pk BK89001.out⟩, ⟨pB1 HB.out GE89001.out⟩⟩
     ·replace c10 := Bool.eq_false_iff.mpr c10
      subst c10
      have H1 : (some false) = some r := by rw [if_neg (show ¬ (false = true) by decide)] at H; exact H
      clear H
      have H := H1
      clear H1
      obtain rfl := Option.some.inj H
      have p89005 : 0 ≤ (x6_1 : Int) := of_decide_eq_true as_
      have q89005 : x6_1 < (l1.length : Int) := of_decide_eq_true as_
      obtain ⟨ad89005, e89005, hx89005_0⟩ := Kd.at_int HR1.out x6_1 p89005 q89005
      cases e89005
      replace hx89005_0 := (HB.out.cell (World.block_lt_of_cell? w _ hx89005_0)).trans hx89005_0
      replace p89005 := eq_true p89005
      replace q89005 := eq_true q89005
      obtain ⟨Ao12, co12, eo12⟩ := Kd.R_slice HO_5.out
      subst eo12
      go_wp2_with (first | ((with_reducible refine gate_callee (f := 90) rfl ?_); refine goesL_ (some 20) rfl rfl Try.func90 (by kernel_rfl) rfl #[.slice Ao12 t89002.length co12, .int .i64 (rd l1 x6_1)] rfl lm ?_; (with_reducible refine (spec_HasSet.calls k1 _ _ t89002 (rd l1 x6_1) false _ ?side1 ?side2 A9.out).mono ?_); (case side1 => repeat (first | exact (Kd.R_reads' HO_5.out).2.2 | (with_reducible refine Kd.C_alloc ?_ _) | (with_reducible refine Kd.C_drewN ?_ _) | (with_reducible refine Kd.C_drew ?_))); (case side2 => exact (Kd.R_reads' HO_5.out).2.1); rintro e w' ⟨rfl, ⟨nd, rfl⟩⟩; refine ⟨_, rfl, ?_⟩))
      go_ret
      exact ⟨re_, pB1 HB.out GE89001.out⟩
    ·rw [if_neg c8] at H
     exact absurd H (by simp)
   ·rw [if_neg c7] at H
    have c7b0 : decide (x6_1 < (l1.length : Int)) = false := decide_eq_false c7
    clear c7
    replace H := Option.bind_eq_some_iff.mp H
    obtain ⟨t89007, A130, H⟩ := H
    replace H : (if t89007 = true then ((spec_IsFamily.f k1 a0_0 l1).bind fun t89008 => (if t89008 = true then ((spec_l17Cut.f k1 a0_0 l0_1 t89002 l1).bind fun t89009 => (some t89009)) else (some false))) else (some false)) = some r := H
    have A13 := aQ A130
    clear A130
    by_cases c14 : t89007 = true
    ·subst c14
     have H1 : ((spec_IsFamily.f k1 a0_0 l1).bind fun t89008 => (if t89008 = true then ((spec_l17Cut.f k1 a0_0 l0_1 t89002 l1).bind fun t89009 => (some t89009)) else (some false))) = some r := by rw [if_pos rfl] at H; exact H
     clear H
     have H := H1
     clear H1
     replace H := Option.bind_eq_some_iff.mp H
     obtain ⟨t89008, A150, H⟩ := H
     replace H : (if t89008 = true then ((spec_l17Cut.f k1 a0_0 l0_1 t89002 l1).bind fun t89009 => (some t89009)) else (some false)) = some r := H
     have A15 := aQ A150
     clear A150
     by_cases c16 : t89008 = true
     ·subst c16
      have H1 : ((spec_l17Cut.f k1 a0_0 l0_1 t89002 l1).bind fun t89009 => (some t89009)) = some r := by rw [if_pos rfl] at H; exact H
      clear H
      have H := H1
      clear H1
      replace H := Option.bind_eq_some_iff.mp H
      obtain ⟨t89009, A170, H⟩ := H
      replace H : (some t89009) = some r := H
      have A17 := aQ A170
      clear A170
      obtain rfl := Option.some.inj H
      have hcz18_0 := bc (v := (.int .i64 a0_0)) BK89001.out 0
      have hcz18_1 := bc (v := (.slice A0_1 l0_1.length c0_1)) BK89001.out 1
      have hfz18_0 := blk_frozen BK89001.out 0
      have hfz18_1 := blk_frozen BK89001.out 1
      go_wp2_with (first | ((with_reducible refine gate_callee (f := 74) rfl ?_); refine goesL_ (some 23) rfl rfl Try.func74 (by kernel_rfl) rfl #[.agg #[.int .i64 a0_0, .slice A0_1 l0_1.length c0_1]] rfl lm ?_; (with_reducible refine (spec_IsMatroid.calls k1 a0_0 _ _ l0_1 true _ ?side1 ?side2 A13.out).mono ?_); (case side1 => exact pC (Kd.C_below HR0_1.out HB.out)); (case side2 => exact HC0_1.out); rintro e w19 ⟨rfl, hb⟩; refine ⟨_, rfl, ?_⟩; replace HO_5 := aQ (Kd.R_below (pR HO_5.out) hb); replace BK89001 := aQ (blk_below (g := gb89001) (o := .cells #[.int .i64 a0_0, .slice A0_1 l0_1.length c0_1] 26 (0, 0)) (pk BK89001.out) hb); replace HB := aQ (below_step (pB1 HB.out GE89001.out) hb); (try clear hb); have hcz20_0 := bc (v := (.int .i64 a0_0)) BK89001.out 0; have hcz20_1 := bc (v := (.slice A0_1 l0_1.length c0_1)) BK89001.out 1; have hfz20_0 := blk_frozen BK89001.out 0; have hfz20_1 := blk_frozen BK89001.out 1) | (go_at_call 138; (with_reducible refine (spec_IsFamily.calls k1 a0_0 _ _ l1 true _ ?side1 ?side2 A15.out).mono ?_); (case side1 => exact pC (Kd.C_below HR1.out HB.out)); (case side2 => exact HC1.out); rintro e w' ⟨rfl, ⟨nd, rfl⟩⟩; obtain ⟨Ao21, co21, eo21⟩ := Kd.R_slice HO_5.out; subst eo21) | (go_at_call 124; (with_reducible refine (spec_l17Cut.calls k1 a0_0 _ _ l0_1 _ _ t89002 _ _ l1 t89009 _ ?side1 ?side2 ?side3 ?side4 ?side5 ?side6 A17.out).mono ?_); (case side1 => repeat (first | exact (Kd.C_below HR0_1.out (pB1 HB.out GE89001.out)) | (with_reducible refine Kd.C_alloc ?_ _) | (with_reducible refine Kd.C_drewN ?_ _) | (with_reducible refine Kd.C_drew ?_))); (case side2 => exact HC0_1.out); (case side3 => repeat (first | exact (Kd.R_reads' HO_5.out).2.2 | (with_reducible refine Kd.C_alloc ?_ _) | (with_reducible refine Kd.C_drewN ?_ _) | (with_reducible refine Kd.C_drew ?_))); (case side4 => exact (Kd.R_reads' HO_5.out).2.1); (case side5 => repeat (first | exact (Kd.C_below HR1.out (pB1 HB.out GE89001.out)) | (with_reducible refine Kd.C_alloc ?_ _) | (with_reducible refine Kd.C_drewN ?_ _) | (with_reducible refine Kd.C_drew ?_))); (case side6 => exact HC1.out); rintro e w22 ⟨rfl, hb⟩; replace HO_5 := aQ (Kd.R_below (pR HO_5.out) hb); replace BK89001 := aQ (blk_below (g := gb89001) (o := .cells #[.int .i64 a0_0, .slice A0_1 l0_1.length c0_1] 26 (0, 0)) (pk BK89001.out) hb); replace HB := aQ (below_step (pB1 HB.out GE89001.out) hb); (try clear hb)))
      go_ret
      exact ⟨re_, pB1 HB.out GE89001.out⟩
     ·replace c16 := Bool.eq_false_iff.mpr c16
      subst c16
      have H1 : (some false) = some r := by rw [if_neg (show ¬ (false = true) by decide)] at H; exact H
      clear H
      have H := H1
      clear H1
      obtain rfl := Option.some.inj H
      have hcz23_0 := bc (v := (.int .i64 a0_0)) BK89001.out 0
      have hcz23_1 := bc (v := (.slice A0_1 l0_1.length c0_1)) BK89001.out 1
      have hfz23_0 := blk_frozen BK89001.out 0
      have hfz23_1 := blk_frozen BK89001.out 1
      go_wp2_with (first | ((with_reducible refine gate_callee (f := 74) rfl ?_); refine goesL_ (some 23) rfl rfl Try.func74 (by kernel_rfl) rfl #[.agg #[.int .i64 a0_0, .slice A0_1 l0_1.length c0_1]] rfl lm ?_; (with_reducible refine (spec_IsMatroid.calls k1 a0_0 _ _ l0_1 true _ ?side1 ?side2 A13.out).mono ?_); (case side1 => exact pC (Kd.C_below HR0_1.out HB.out)); (case side2 => exact HC0_1.out); rintro e w24 ⟨rfl, hb⟩; refine ⟨_, rfl, ?_⟩; replace HO_5 := aQ (Kd.R_below (pR HO_5.out) hb); replace BK89001 := aQ (blk_below (g := gb89001) (o := .cells #[.int .i64 a0_0, .slice A0_1 l0_1.length c0_1] 26 (0, 0)) (pk BK89001.out) hb); replace HB := aQ (below_step (pB1 HB.out GE89001.out) hb); (try clear hb); have hcz25_0 := bc (v := (.int .i64 a0_0)) BK89001.out 0; have hcz25_1 := bc (v := (.slice A0_1 l0_1.length c0_1)) BK89001.out 1; have hfz25_0 := blk_frozen BK89001.out 0; have hfz25_1 := blk_frozen BK89001.out 1) | (go_at_call 138; (with_reducible refine (spec_IsFamily.calls k1 a0_0 _ _ l1 false _ ?side1 ?side2 A15.out).mono ?_); (case side1 => exact pC (Kd.C_below HR1.out HB.out)); (case side2 => exact HC1.out); rintro e w' ⟨rfl, ⟨nd, rfl⟩⟩))
      go_ret
      exact ⟨re_, pB1 HB.out GE89001.out⟩
    ·replace c14 := Bool.eq_false_iff.mpr c14
     subst c14
     have H1 : (some false) = some r := by rw [if_neg (show ¬ (false = true) by decide)] at H; exact H
     clear H
     have H := H1
     clear H1
     obtain rfl := Option.some.inj H
     have hcz26_0 := bc (v := (.int .i64 a0_0)) BK89001.out 0
     have hcz26_1 := bc (v := (.slice A0_1 l0_1.length c0_1)) BK89001.out 1
     have hfz26_0 := blk_frozen BK89001.out 0
     have hfz26_1 := blk_frozen BK89001.out 1
     go_wp2_with (first | ((with_reducible refine gate_callee (f := 74) rfl ?_); refine goesL_ (some 23) rfl rfl Try.func74 (by kernel_rfl) rfl #[.agg #[.int .i64 a0_0, .slice A0_1 l0_1.length c0_1]] rfl lm ?_; (with_reducible refine (spec_IsMatroid.calls k1 a0_0 _ _ l0_1 false _ ?side1 ?side2 A13.out).mono ?_); (case side1 => exact pC (Kd.C_below HR0_1.out HB.out)); (case side2 => exact HC0_1.out); rintro e w27 ⟨rfl, hb⟩; refine ⟨_, rfl, ?_⟩; replace HO_5 := aQ (Kd.R_below (pR HO_5.out) hb); replace BK89001 := aQ (blk_below (g := gb89001) (o := .cells #[.int .i64 a0_0, .slice A0_1 l0_1.length c0_1] 26 (0, 0)) (pk BK89001.out) hb); replace HB := aQ (below_step (pB1 HB.out GE89001.out) hb); (try clear hb)))
     go_ret
     exact ⟨re_, pB1 HB.out GE89001.out⟩
end Go.Proofs.Ytagncnjllpebjaa.A
