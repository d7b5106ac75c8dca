/- Machine side of the law FnExactBestWeights: Go functions as Lean functions, and proofs that calls come to what these tell. Conditions: those in each theorem. -/
import Derived.Test.YtagncnjllpebjaaMFnExactBestWeights0
import Derived.Test.YtagncnjllpebjaaMFnExactBestWeightsq0
import Derived.Test.YtagncnjllpebjaaMFnExactBestWeights1
import Derived.Test.YtagncnjllpebjaaMFnExactBestWeights2
import Derived.Test.YtagncnjllpebjaaMFnExactBestWeights3
namespace Go.Proofs.Ytagncnjllpebjaa.A
open Go.RowKit Go.Proofs.YtagncnjllpebjaaW.PrintWords Go.Proofs.YtagncnjllpebjaaW.PrintLast Go.Proofs.YtagncnjllpebjaaW.PrintMore
attribute [local go_sem] max2_int min2_int max_two min_two max_three min_three max_four min_four
set_option linter.unusedVariables false
set_option linter.unusedSimpArgs false
/-! ### spec_BestWeights: function 30 -/
def spec_BestWeights.l0 : Nat → List Int → List Int → Int → Int → List Int → Int → List Int → Option (List Int)
 | 0, _, _, _, _, _, _, _ => none
 | k + 1, x2, x7, x8, x31002000, x31002001, x31003000, x31003001 => if x8 ≤ x31002000 then ((spec_BestCommon.f k x31002000 x31002001 x31003000 x31003001 x2 x8).bind fun bt31006 => (if bt31006.2 = true then ((spec_WeightOf.f k x2 bt31006.1).bind fun t31008 => (if x7.length < 17592186044416 then (spec_BestWeights.l0 k x2 (x7 ++ [t31008]) (wrap64 (x8 + 1)) x31002000 x31002001 x31003000 x31003001) else (none))) else (some x7))) else (some x7)
def spec_BestWeights.f (k : Nat) (a0_0 : Int) (l0_1 : List Int) (a1_0 : Int) (l1_1 : List Int) (l2 : List Int) : Option (List Int) := spec_BestWeights.l0 k l2 (([] : List Int)) 0 a0_0 l0_1 a1_0 l1_1
theorem spec_BestWeights.mono_l : ∀ k, (∀ y0 y1 y2 y3 y4 y5 y6, LeO (spec_BestWeights.l0 k y0 y1 y2 y3 y4 y5 y6) (spec_BestWeights.l0 (k + 1) y0 y1 y2 y3 y4 y5 y6))
 | 0 => fun _ _ _ _ _ _ _ r h => by simp [spec_BestWeights.l0] at h
 | k + 1 => by
  have ih0 := spec_BestWeights.mono_l k
  ·intro y0 y1 y2 y3 y4 y5 y6
   unfold spec_BestWeights.l0
   repeat' first
   | (with_reducible exact ih0 _ _ _ _ _ _ _)
   | (with_reducible exact spec_BestCommon.mono _ _ _ _ _ _ _)
   | (with_reducible exact spec_WeightOf.mono _ _ _)
   | (with_reducible exact LeO.refl _)
   | (with_reducible exact LeO.none _)
   | (with_reducible refine LeO.ite ?_ ?_)
   | (with_reducible refine LeO.bind ?_ (fun _ => ?_))
   | exact ih0 _ _ _ _ _ _ _
   | exact spec_BestCommon.mono _ _ _ _ _ _ _
   | exact spec_WeightOf.mono _ _ _
   | exact LeO.none _
   | refine LeO.ite ?_ ?_
   | refine LeO.bind ?_ (fun _ => ?_)
theorem spec_BestWeights.mono : ∀ a0 a1 a2 a3 a4 k, LeO (spec_BestWeights.f k a0 a1 a2 a3 a4) (spec_BestWeights.f (k + 1) a0 a1 a2 a3 a4) := by
 intro a0 a1 a2 a3 a4 k
 have ih0 := spec_BestWeights.mono_l k
 unfold spec_BestWeights.f
 repeat' first
   | (with_reducible exact ih0 _ _ _ _ _ _ _)
   | (with_reducible exact spec_BestCommon.mono _ _ _ _ _ _ _)
   | (with_reducible exact spec_WeightOf.mono _ _ _)
   | (with_reducible exact LeO.refl _)
   | (with_reducible exact LeO.none _)
   | (with_reducible refine LeO.ite ?_ ?_)
   | (with_reducible refine LeO.bind ?_ (fun _ => ?_))
   | exact ih0 _ _ _ _ _ _ _
   | exact spec_BestCommon.mono _ _ _ _ _ _ _
   | exact spec_WeightOf.mono _ _ _
   | exact LeO.none _
   | refine LeO.ite ?_ ?_
   | refine LeO.bind ?_ (fun _ => ?_)
set_option maxHeartbeats 8000000 in
set_option maxRecDepth 100000 in
theorem spec_BestWeights.calls (k : Nat) (a0_0 : Int) (A0_1 : Option Addr) (c0_1 : Nat) (l0_1 : List Int) (a1_0 : Int) (A1_1 : Option Addr) (c1_1 : Nat) (l1_1 : List Int) (A2 : Option Addr) (c2 : Nat) (l2 : List Int) (r : List Int) (w : World) (hr0_1 : Kd.C (Kd.int .i64) w A0_1 l0_1.length l0_1) (hc0_1 : l0_1.length ≤ c0_1) (hr1_1 : Kd.C (Kd.int .i64) w A1_1 l1_1.length l1_1) (hc1_1 : l1_1.length ≤ c1_1) (hr2 : Kd.C (Kd.int .i64) w A2 l2.length l2) (hc2 : l2.length ≤ c2) (h : spec_BestWeights.f k a0_0 l0_1 a1_0 l1_1 l2 = some r) :
  Calls Try.prog 30 #[.agg #[.int .i64 a0_0, .slice A0_1 l0_1.length c0_1], .agg #[.int .i64 a1_0, .slice A1_1 l1_1.length c1_1], .slice A2 l2.length c2] w fun e w' => ∃ v0_ : Value, e = .returned (v0_) ∧ Kd.R (Kd.int .i64) 3 w' w.heap.size (fun _ => True) v0_ r ∧ Below w.heap.size w w' := by
 have hu26 := Try.underlying26
 have HR0_1 := aQ hr0_1
 have HC0_1 := aQ hc0_1
 clear hr0_1 hc0_1
 have HR1_1 := aQ hr1_1
 have HC1_1 := aQ hc1_1
 clear hr1_1 hc1_1
 have HR2 := aQ hr2
 have HC2 := aQ hc2
 clear hr2 hc2
 have HB := aQ (Below.refl w.heap.size w)
 have H : (spec_BestWeights.l0 k l2 (([] : List Int)) 0 a0_0 l0_1 a1_0 l1_1) = some r := h
 clear h
 obtain ⟨y31003, hy31003⟩ : ∃ y_ : List Int, y_ = (([] : List Int)) := ⟨_, rfl⟩
 replace H : (spec_BestWeights.l0 k l2 y31003 0 a0_0 l0_1 a1_0 l1_1) = some r := by first | (rw [hy31003]; with_reducible exact H) | (have H2_ := (Option.bind_some _ _).symm.trans H; rw [hy31003]; with_reducible exact H2_) | (have H2_ := (Option.bind_some _ _).symm.trans H; with_reducible exact H2_) | with_reducible exact H | (rw [hy31003]; exact H) | exact H
 have Ny31003 := aQ hy31003
 clear hy31003
 have H' := aQ H
 clear H
 go_enter Try.func30, Try.ntmps30
 go_wp2_with (first | ((with_reducible refine gate_dst (N := 3) rfl ?_); refine box_event ?hg (N := 3) ?hd (cs := #[.int .i64 a0_0, .slice A0_1 l0_1.length c0_1]) (t := 26) ?hr ?_; (case hd => rfl); (case hg => rfl); (case hr => first | (go_simp; done) | (go_simp; rfl)); intro gb31001 hg w4 hbox hb; have BK31001 := aQ (hbox); have GW31001 := aQ ((by rw [hg]; exact (below_size (pB HB.out)) : w.heap.size ≤ gb31001)); have GE31001 := aQ ((by rw [hg]; exact (below_size (pB HB.out)) : w.heap.size ≤ gb31001)); replace HB := aQ (below_step (pB HB.out) hb); clear hb hbox hg) | ((with_reducible refine gate_dst (N := 4) rfl ?_); refine box_event ?hg (N := 4) ?hd (cs := #[.int .i64 a1_0, .slice A1_1 l1_1.length c1_1]) (t := 26) ?hr ?_; (case hd => rfl); (case hg => rfl); (case hr => first | (go_simp; done) | (go_simp; rfl)); intro gb31002 hg w5 hbox hb; have BK31002 := aQ (hbox); have GW31002 := aQ ((by rw [hg]; exact (below_size (pB1 HB.out GE31001.out)) : w.heap.size ≤ gb31002)); have GE31002 := aQ ((by rw [hg]; exact (below_size (pB1 HB.out GE31001.out)) : w.heap.size ≤ gb31002)); replace HB := aQ (below_step (pB1 HB.out GE31001.out) hb); have NB31001_31002 := aQ ((by rw [hg]; exact Nat.ne_of_lt (blk_lt (g := gb31001) (o := .cells #[.int .i64 a0_0, .slice A0_1 l0_1.length c0_1] 26 (0, 0)) (pk BK31001.out)) : gb31001 ≠ gb31002)); have NB31002_31001 := aQ ((by rw [hg]; exact Nat.ne_of_gt (blk_lt (g := gb31001) (o := .cells #[.int .i64 a0_0, .slice A0_1 l0_1.length c0_1] 26 (0, 0)) (pk BK31001.out)) : gb31002 ≠ gb31001)); replace BK31001 := aQ (blk_below (g := gb31001) (o := .cells #[.int .i64 a0_0, .slice A0_1 l0_1.length c0_1] 26 (0, 0)) (pk BK31001.out) hb); clear hb hbox hg) | ((with_reducible refine gate_dst (N := 11) rfl ?_); refine Kd.R_lit (Kd.int .i64) _ 3 ?hg (N := 11) ?hd (xs := ([] : List Int)) (inner := []) (ok := fun _ => True) (okp := fun _ => True) ?hr ?hp (fun _ hk => hk) trivial (Below.refl _ _) (Nat.le_refl _) (by simp) ?_; (case hd => rfl); (case hg => rfl); (case hr => first | (go_simp; done) | (go_simp; rfl)); (case hp => exact (Reps.none _ _)); intro v31004 w6 ho7 hb hg_ hnew_; clear hg_ hnew_; (first | rw [← Ny31003.out] at ho7 | (simp only [Int.reduceToNat] at ho7; rw [← Ny31003.out] at ho7)); have HO31005 := aQ (Kd.R_lower ho7 (below_size (pB2 HB.out GE31001.out GE31002.out))); replace BK31001 := aQ (blk_below (g := gb31001) (o := .cells #[.int .i64 a0_0, .slice A0_1 l0_1.length c0_1] 26 (0, 0)) (pk BK31001.out) hb); replace BK31002 := aQ (blk_below (g := gb31002) (o := .cells #[.int .i64 a1_0, .slice A1_1 l1_1.length c1_1] 26 (0, 0)) (pk BK31002.out) hb); replace HB := aQ (below_step (pB2 HB.out GE31001.out GE31002.out) hb); clear hb ho7))
 go_loopg [7, 8] k (fun kq v7 v8 w' => ∃ (x7_1 : List Int) (x8_1 : Int), v8 = .int .i64 x8_1 ∧ Aside0 (spec_BestWeights.l0 kq l2 x7_1 x8_1 a0_0 l0_1 a1_0 l1_1 = some r) ∧ Aside0 (kq ≤ k) ∧ Aside0 (Kd.R (Kd.int .i64) 3 w' w.heap.size (fun _ => True) v7 x7_1) ∧ Aside0 (w'.heap[gb31001]? = some (.cells #[.int .i64 a0_0, (.slice A0_1 l0_1.length c0_1)] 26 (0, 0))) ∧ Aside0 (w'.heap[gb31002]? = some (.cells #[.int .i64 a1_0, (.slice A1_1 l1_1.length c1_1)] 26 (0, 0))) ∧ Aside0 (Below w.heap.size w w'))
 case atStart => exact ⟨(y31003), (0), rs_, H', ⟨Nat.le_refl _⟩, ⟨pR HO31005.out⟩, ⟨pk BK31001.out⟩, ⟨pk BK31002.out⟩, ⟨pB2 HB.out GE31001.out GE31002.out⟩⟩
 case round =>
  clear H'
  try clear c1
  try clear c2
  try clear p2
  try clear c3
  obtain ⟨x7_1, x8_1, rfl, HA, HK1, HO_7, BK31001, BK31002, HB⟩ := hrel
  cases gk with
  | zero => exact absurd HA.out (by simp [spec_BestWeights.l0])
  | succ k1 =>
   have H := HA.out
   clear HA
   simp only [spec_BestWeights.l0] at H
   by_cases c8 : x8_1 ≤ a0_0
   ·rw [if_pos c8] at H
    have c8b0 : decide (x8_1 ≤ a0_0) = true := decide_eq_true c8
    clear c8
    replace H := Option.bind_eq_some_iff.mp H
    obtain ⟨⟨t31006, t31007⟩, A90, H⟩ := H
    replace H : (if t31007 = true then ((spec_WeightOf.f k1 l2 t31006).bind fun t31008 => (if x7_1.length < 17592186044416 then (spec_BestWeights.l0 k1 l2 (x7_1 ++ [t31008]) (wrap64 (x8_1 + 1)) a0_0 l0_1 a1_0 l1_1) else (none))) else (some x7_1)) = some r := H
    have A9 := aQ A90
    clear A90
    by_cases c10 : t31007 = true
    ·subst c10
     have H1 : ((spec_WeightOf.f k1 l2 t31006).bind fun t31008 => (if x7_1.length < 17592186044416 then (spec_BestWeights.l0 k1 l2 (x7_1 ++ [t31008]) (wrap64 (x8_1 + 1)) a0_0 l0_1 a1_0 l1_1) else (none))) = some r := by rw [if_pos rfl] at H; exact H
     clear H
     have H := H1
     clear H1
     replace H := Option.bind_eq_some_iff.mp H
     obtain ⟨t31008, A110, H⟩ := H
     replace H : (if x7_1.length < 17592186044416 then (spec_BestWeights.l0 k1 l2 (x7_1 ++ [t31008]) (wrap64 (x8_1 + 1)) a0_0 l0_1 a1_0 l1_1) else (none)) = some r := H
     have A11 := aQ A110
     clear A110
     by_cases c12 : x7_1.length < 17592186044416
     ·rw [if_pos c12] at H
      have LMc12 := aQ c12
      clear c12
      obtain ⟨y31009, hy31009⟩ : ∃ y_ : List Int, y_ = (x7_1 ++ [t31008]) := ⟨_, rfl⟩
      replace H : (spec_BestWeights.l0 k1 l2 y31009 (wrap64 (x8_1 + 1)) a0_0 l0_1 a1_0 l1_1) = some r := by first | (rw [hy31009]; with_reducible exact H) | (have H2_ := (Option.bind_some _ _).symm.trans H; rw [hy31009]; with_reducible exact H2_) | (have H2_ := (Option.bind_some _ _).symm.trans H; with_reducible exact H2_) | with_reducible exact H | (rw [hy31009]; exact H) | exact H
      have Ny31009 := aQ hy31009
      clear hy31009
      have H' := aQ H
      clear H
      have hnb13 := NB31001_31002.out
      have hnc13 := NB31002_31001.out
      have hcz14_0 := bc (v := (.int .i64 a0_0)) BK31001.out 0
      have hcz14_1 := bc (v := (.slice A0_1 l0_1.length c0_1)) BK31001.out 1
      have hfz14_0 := blk_frozen BK31001.out 0
      have hfz14_1 := blk_frozen BK31001.out 1
      have hcz15_0 := bc (v := (.int .i64 a1_0)) BK31002.out 0
      have hcz15_1 := bc (v := (.slice A1_1 l1_1.length c1_1)) BK31002.out 1
      have hfz15_0 := blk_frozen BK31002.out 0
      have hfz15_1 := blk_frozen BK31002.out 1
      go_wp2_with (first | ((with_reducible refine gate_callee (f := 78) rfl ?_); refine goesL_ (some 23) rfl rfl Try.func78 (by kernel_rfl) rfl #[.agg #[.int .i64 a0_0, .slice A0_1 l0_1.length c0_1], .agg #[.int .i64 a1_0, .slice A1_1 l1_1.length c1_1], .slice A2 l2.length c2, .int .i64 x8_1] rfl lm ?_; (with_reducible refine (spec_BestCommon.calls k1 a0_0 _ _ l0_1 a1_0 _ _ l1_1 _ _ l2 x8_1 t31006 true _ ?side1 ?side2 ?side3 ?side4 ?side5 ?side6 A9.out).mono ?_); (case side1 => exact pC (Kd.C_below HR0_1.out HB.out)); (case side2 => exact HC0_1.out); (case side3 => exact pC (Kd.C_below HR1_1.out HB.out)); (case side4 => exact HC1_1.out); (case side5 => exact pC (Kd.C_below HR2.out HB.out)); (case side6 => exact HC2.out); rintro e w16 ⟨rfl, hb⟩; refine ⟨_, rfl, ?_⟩; replace HO_7 := aQ (Kd.R_below (pR HO_7.out) hb); replace BK31001 := aQ (blk_below (g := gb31001) (o := .cells #[.int .i64 a0_0, .slice A0_1 l0_1.length c0_1] 26 (0, 0)) (pk BK31001.out) hb); replace BK31002 := aQ (blk_below (g := gb31002) (o := .cells #[.int .i64 a1_0, .slice A1_1 l1_1.length c1_1] 26 (0, 0)) (pk BK31002.out) hb); replace HB := aQ (below_step (pB2 HB.out GE31001.out GE31002.out) hb); (try clear hb)) | ((with_reducible refine gate_callee (f := 79) rfl ?_); refine goesL_ (some 32) rfl rfl Try.func79 (by kernel_rfl) rfl #[.slice A2 l2.length c2, .int .i64 t31006] rfl lm ?_; (with_reducible refine (spec_WeightOf.calls k1 _ _ l2 t31006 t31008 _ ?side1 ?side2 A11.out).mono ?_); (case side1 => exact pC (Kd.C_below HR2.out HB.out)); (case side2 => exact HC2.out); rintro e w' ⟨rfl, ⟨nd, rfl⟩⟩; refine ⟨_, rfl, ?_⟩) | ((with_reducible refine gate_builtin (b := .append) (xs := #[.tmp 29, .tmp 33]) rfl ?_); at_builtin; refine Kd.R_append (Kd.int .i64) (w0 := w) w.heap.size rfl (.tmp 29) (.tmp 33) 22 3 (.int .i64 0) 8 rfl Try.underlying22 info3 rfl (by decide) (by omega) u7 x7_1 t31008 [.int .i64 t31008] (fun _ => True) (fun _ => False) rfl rfl ?aP (fun _ hk => hk.elim) ?aF ?aO ?aB ?aS ?aL ?_; (case aP => exact rfl); (case aB => exact (pB2 HB.out GE31001.out GE31002.out)); (case aF => exact (fun _ _ => trivial)); (case aO => exact (pR HO_7.out)); (case aS => exact (below_size (pB2 HB.out GE31001.out GE31002.out))); (case aL => have := LMc12.out; omega); intro v31010 w17 ho hb hg hat; rw [← Ny31009.out] at ho; replace BK31001 := aQ (blk_grown (g := gb31001) (o := .cells #[.int .i64 a0_0, .slice A0_1 l0_1.length c0_1] 26 (0, 0)) (pk BK31001.out) hg (Kd.R_ne HO_7.out BK31001.out (by decide))); replace BK31002 := aQ (blk_grown (g := gb31002) (o := .cells #[.int .i64 a1_0, .slice A1_1 l1_1.length c1_1] 26 (0, 0)) (pk BK31002.out) hg (Kd.R_ne HO_7.out BK31002.out (by decide))); replace HB := aQ (hb); have HO31011 := aQ (ho); clear HO_7; clear ho hb hg hat))
      go_roundg k1
      case measure => have := HK1.out; omega
      case rel => exact ⟨(y31009), (wrap64 (x8_1 + 1)), rs_, H', ⟨by have := HK1.out; omega⟩, ⟨pR HO31011.out⟩, ⟨pk BK31001.out⟩, ⟨pk BK31002.out⟩, ⟨pB2 HB.out GE31001.out GE31002.out⟩⟩
     ·rw [if_neg c12] at H
      exact absurd H (by simp)
    ·replace c10 := Bool.eq_false_iff.mpr c10
     subst c10
     have H1 : (some x7_1) = some r := by rw [if_neg (show ¬ (false = true) by decide)] at H; exact H
     clear H
     have H := H1
     clear H1
     obtain rfl := Option.some.inj H
     have hnb18 := NB31001_31002.out
     have hnc18 := NB31002_31001.out
     have hcz19_0 := bc (v := (.int .i64 a0_0)) BK31001.out 0
     have hcz19_1 := bc (v := (.slice A0_1 l0_1.length c0_1)) BK31001.out 1
     have hfz19_0 := blk_frozen BK31001.out 0
     have hfz19_1 := blk_frozen BK31001.out 1
     have hcz20_0 := bc (v := (.int .i64 a1_0)) BK31002.out 0
     have hcz20_1 := bc (v := (.slice A1_1 l1_1.length c1_1)) BK31002.out 1
     have hfz20_0 := blk_frozen BK31002.out 0
     have hfz20_1 := blk_frozen BK31002.out 1
     go_wp2_with (first | ((with_reducible refine gate_callee (f := 78) rfl ?_); refine goesL_ (some 23) rfl rfl Try.func78 (by kernel_rfl) rfl #[.agg #[.int .i64 a0_0, .slice A0_1 l0_1.length c0_1], .agg #[.int .i64 a1_0, .slice A1_1 l1_1.length c1_1], .slice A2 l2.length c2, .int .i64 x8_1] rfl lm ?_; (with_reducible refine (spec_BestCommon.calls k1 a0_0 _ _ l0_1 a1_0 _ _ l1_1 _ _ l2 x8_1 t31006 false _ ?side1 ?side2 ?side3 ?side4 ?side5 ?side6 A9.out).mono ?_); (case side1 => exact pC (Kd.C_below HR0_1.out HB.out)); (case side2 => exact HC0_1.out); (case side3 => exact pC (Kd.C_below HR1_1.out HB.out)); (case side4 => exact HC1_1.out); (case side5 => exact pC (Kd.C_below HR2.out HB.out)); (case side6 => exact HC2.out); rintro e w21 ⟨rfl, hb⟩; refine ⟨_, rfl, ?_⟩; replace HO_7 := aQ (Kd.R_below (pR HO_7.out) hb); replace BK31001 := aQ (blk_below (g := gb31001) (o := .cells #[.int .i64 a0_0, .slice A0_1 l0_1.length c0_1] 26 (0, 0)) (pk BK31001.out) hb); replace BK31002 := aQ (blk_below (g := gb31002) (o := .cells #[.int .i64 a1_0, .slice A1_1 l1_1.length c1_1] 26 (0, 0)) (pk BK31002.out) hb); replace HB := aQ (below_step (pB2 HB.out GE31001.out GE31002.out) hb); (try clear hb)))
     go_ret
     exact ⟨_, by first | rfl | (simp [errW_none, errW_some] <;> rfl) | (simp [*, errW_none, errW_some] <;> rfl), by (with_reducible repeat (first | apply Kd.R_alloc | apply Kd.R_drewN | apply Kd.R_drew)); exact HO_7.out, pB2 HB.out GE31001.out GE31002.out⟩
   ·rw [if_neg c8] at H
    have c8b0 : decide (x8_1 ≤ a0_0) = false := decide_eq_false c8
    clear c8
    obtain rfl := Option.some.inj H
    have hnb22 := NB31001_31002.out
    have hnc22 := NB31002_31001.out
    have hcz23_0 := bc (v := (.int .i64 a0_0)) BK31001.out 0
    have hcz23_1 := bc (v := (.slice A0_1 l0_1.length c0_1)) BK31001.out 1
    have hfz23_0 := blk_frozen BK31001.out 0
    have hfz23_1 := blk_frozen BK31001.out 1
    go_wp2
    go_ret
    exact ⟨_, by first | rfl | (simp [errW_none, errW_some] <;> rfl) | (simp [*, errW_none, errW_some] <;> rfl), by (with_reducible repeat (first | apply Kd.R_alloc | apply Kd.R_drewN | apply Kd.R_drew)); exact HO_7.out, pB2 HB.out GE31001.out GE31002.out⟩
/-! ### impl_WeightOf: function 81 -/
def impl_WeightOf.l0 : Nat → List Int → Int → List Int → Int → Int → Option (Int)
 | 0, _, _, _, _, _ => none
 | k + 1, x0, x5, x9, x10, x11 => if x11 < x10 then (if 0 ≤ x11 then (if x11 < (x9.length : Int) then (if (rd x9 x11) < (x0.length : Int) then (if 0 ≤ (rd x9 x11) then (impl_WeightOf.l0 k x0 (wrap64 (x5 + (rd x0 (rd x9 x11)))) x9 x10 (wrap64 (x11 + 1))) else (none)) else (impl_WeightOf.l0 k x0 x5 x9 x10 (wrap64 (x11 + 1)))) else (none)) else (none)) else (some x5)
def impl_WeightOf.f (k : Nat) (l0 : List Int) (a1 : Int) : Option (Int) := (impl_ElementsOf.f k a1).bind fun t82001 => (impl_WeightOf.l0 k l0 0 t82001 (t82001.length : Int) 0)
theorem impl_WeightOf.mono_l : ∀ k, (∀ y0 y1 y2 y3 y4, LeO (impl_WeightOf.l0 k y0 y1 y2 y3 y4) (impl_WeightOf.l0 (k + 1) y0 y1 y2 y3 y4))
 | 0 => fun _ _ _ _ _ r h => by simp [impl_WeightOf.l0] at h
 | k + 1 => by
  have ih0 := impl_WeightOf.mono_l k
  ·intro y0 y1 y2 y3 y4
   unfold impl_WeightOf.l0
   repeat' first
   | (with_reducible exact ih0 _ _ _ _ _)
   | (with_reducible exact impl_ElementsOf.mono _ _)
   | (with_reducible exact LeO.refl _)
   | (with_reducible exact LeO.none _)
   | (with_reducible refine LeO.ite ?_ ?_)
   | (with_reducible refine LeO.bind ?_ (fun _ => ?_))
   | exact ih0 _ _ _ _ _
   | exact impl_ElementsOf.mono _ _
   | exact LeO.none _
   | refine LeO.ite ?_ ?_
   | refine LeO.bind ?_ (fun _ => ?_)
theorem impl_WeightOf.mono : ∀ a0 a1 k, LeO (impl_WeightOf.f k a0 a1) (impl_WeightOf.f (k + 1) a0 a1) := by
 intro a0 a1 k
 have ih0 := impl_WeightOf.mono_l k
 unfold impl_WeightOf.f
 repeat' first
   | (with_reducible exact ih0 _ _ _ _ _)
   | (with_reducible exact impl_ElementsOf.mono _ _)
   | (with_reducible exact LeO.refl _)
   | (with_reducible exact LeO.none _)
   | (with_reducible refine LeO.ite ?_ ?_)
   | (with_reducible refine LeO.bind ?_ (fun _ => ?_))
   | exact ih0 _ _ _ _ _
   | exact impl_ElementsOf.mono _ _
   | exact LeO.none _
   | refine LeO.ite ?_ ?_
   | refine LeO.bind ?_ (fun _ => ?_)
set_option maxHeartbeats 8000000 in
set_option maxRecDepth 100000 in
theorem impl_WeightOf.calls (k : Nat) (A0 : Option Addr) (c0 : Nat) (l0 : List Int) (a1 : Int) (r : Int) (w : World) (hr0 : Kd.C (Kd.int .i64) w A0 l0.length l0) (hc0 : l0.length ≤ c0) (h : impl_WeightOf.f k l0 a1 = some r) :
  Calls Try.prog 81 #[.slice A0 l0.length c0, .int .i64 a1] w fun e w' => e = .returned (.int .i64 r) ∧ Below w.heap.size w w' := by
 have HR0 := aQ hr0
 have HC0 := aQ hc0
 clear hr0 hc0
 have HB := aQ (Below.refl w.heap.size w)
 have H : ((impl_ElementsOf.f k a1).bind fun t82001 => (impl_WeightOf.l0 k l0 0 t82001 (t82001.length : Int) 0)) = some r := h
 clear h
 replace H := Option.bind_eq_some_iff.mp H
 obtain ⟨t82001, A30, H⟩ := H
 replace H : (impl_WeightOf.l0 k l0 0 t82001 (t82001.length : Int) 0) = some r := H
 have A3 := aQ A30
 clear A30
 have H' := aQ H
 clear H
 go_enter Try.func81, Try.ntmps81
 go_wp2_with (first | ((with_reducible refine gate_callee (f := 146) rfl ?_); refine goesL_ (some 9) rfl rfl Try.func146 (by kernel_rfl) rfl #[.int .i64 a1] rfl lm ?_; (with_reducible refine (impl_ElementsOf.calls k a1 t82001 _ A3.out).mono ?_); rintro e w4 ⟨v82002, rfl, ho0, hb⟩; refine ⟨_, rfl, ?_⟩; have HO82003 := aQ (Kd.R_lower ho0 (below_size (pB HB.out))); replace HB := aQ (below_step (pB HB.out) hb); (try clear hb); (try clear ho0); obtain ⟨Ao5, co5, eo5⟩ := Kd.R_slice HO82003.out; subst eo5))
 go_loopg [5, 11] k (fun kq v5 v11 w' => ∃ (x5_1 : Int) (x11_1 : Int), v5 = .int .i64 x5_1 ∧ v11 = .int .i64 x11_1 ∧ Aside0 (impl_WeightOf.l0 kq l0 x5_1 t82001 (t82001.length : Int) x11_1 = some r) ∧ Aside0 (kq ≤ k) ∧ Aside0 (Kd.R (Kd.int .i64) 3 w' w.heap.size (fun _ => True) (.slice Ao5 t82001.length co5) t82001) ∧ Aside0 (Below w.heap.size w w'))
 case atStart => exact ⟨(0), (0), rs_, rs_, H', ⟨Nat.le_refl _⟩, ⟨pR HO82003.out⟩, ⟨pB HB.out⟩⟩
 case round =>
  clear H'
  try clear c1
  try clear p2
  obtain ⟨x5_1, x11_1, rfl, rfl, HA, HK1, HO_9, HB⟩ := hrel
  cases gk with
  | zero => exact absurd HA.out (by simp [impl_WeightOf.l0])
  | succ k1 =>
   have H := HA.out
   clear HA
   simp only [impl_WeightOf.l0] at H
   by_cases c6 : x11_1 < (t82001.length : Int)
   ·rw [if_pos c6] at H
    have c6b0 : decide (x11_1 < (t82001.length : Int)) = true := decide_eq_true c6
    clear c6
    by_cases c7 : 0 ≤ x11_1
    ·rw [if_pos c7] at H
     have c7b0 : decide (0 ≤ x11_1) = true := decide_eq_true c7
     clear c7
     by_cases c8 : x11_1 < (t82001.length : Int)
     ·rw [if_pos c8] at H
      have c8b0 : decide (x11_1 < (t82001.length : Int)) = true := decide_eq_true c8
      clear c8
      by_cases c9 : (rd t82001 x11_1) < (l0.length : Int)
      ·rw [if_pos c9] at H
       have c9b0 : decide ((rd t82001 x11_1) < (l0.length : Int)) = true := decide_eq_true c9
       clear c9
       by_cases c10 : 0 ≤ (rd t82001 x11_1)
       ·rw [if_pos c10] at H
        have c10b0 : decide (0 ≤ (rd t82001 x11_1)) = true := decide_eq_true c10
        clear c10
        have H' := aQ H
        clear H
        have p82004 : 0 ≤ (x11_1 : Int) := of_decide_eq_true as_
        have q82004 : x11_1 < (t82001.length : Int) := of_decide_eq_true as_
        obtain ⟨ad82004, e82004, hx82004_0⟩ := Kd.at_int (Kd.R_reads' HO_9.out).2.2 x11_1 p82004 q82004
        cases e82004
        replace p82004 := eq_true p82004
        replace q82004 := eq_true q82004
        have p82005 : 0 ≤ ((rd t82001 x11_1) : Int) := of_decide_eq_true as_
        have q82005 : (rd t82001 x11_1) < (l0.length : Int) := of_decide_eq_true as_
        obtain ⟨ad82005, e82005, hx82005_0⟩ := Kd.at_int HR0.out (rd t82001 x11_1) p82005 q82005
        cases e82005
        replace hx82005_0 := (HB.out.cell (World.block_lt_of_cell? w _ hx82005_0)).trans hx82005_0
        replace p82005 := eq_true p82005
        replace q82005 := eq_true q82005
        go_wp2
        go_roundg k1
        case measure => have := HK1.out; omega
        case rel => exact ⟨(wrap64 (x5_1 + (rd l0 (rd t82001 x11_1)))), (wrap64 (x11_1 + 1)), rs_, rs_, H', ⟨by have := HK1.out; omega⟩, ⟨pR HO_9.out⟩, ⟨pB HB.out⟩⟩
       ·rw [if_neg c10] at H
        exact absurd H (by simp)
      ·rw [if_neg c9] at H
       have c9b0 : decide ((rd t82001 x11_1) < (l0.length : Int)) = false := decide_eq_false c9
       clear c9
       have H' := aQ H
       clear H
       have p82004 : 0 ≤ (x11_1 : Int) := of_decide_eq_true as_
       have q82004 : x11_1 < (t82001.length : Int) := of_decide_eq_true as_
       obtain ⟨ad82004, e82004, hx82004_0⟩ := Kd.at_int (Kd.R_reads' HO_9.out).2.2 x11_1 p82004 q82004
       cases e82004
       replace p82004 := eq_true p82004
       replace q82004 := eq_true q82004
       go_wp2
       go_roundg k1
       case measure => have := HK1.out; omega
       case rel => exact ⟨(x5_1), (wrap64 (x11_1 + 1)), rs_, rs_, H', ⟨by have := HK1.out; omega⟩, ⟨pR HO_9.out⟩, ⟨pB HB.out⟩⟩
     ·rw [if_neg c8] at H
      exact absurd H (by simp)
    ·rw [if_neg c7] at H
     exact absurd H (by simp)
   ·rw [if_neg c6] at H
    have c6b0 : decide (x11_1 < (t82001.length : Int)) = false := decide_eq_false c6
    clear c6
    obtain rfl := Option.some.inj H
    go_wp2
    go_ret
    exact ⟨re_, pB HB.out⟩
/-! ### impl_AreWeights: function 144 -/
def impl_AreWeights.l0 : Nat → Int → List Int → List Int → Int → Int → Option (Bool)
 | 0, _, _, _, _, _ => none
 | k + 1, x0, x1, x7, x8, x9 => if x9 < x8 then (if 0 ≤ x9 then (if x9 < (x7.length : Int) then (if (rd x7 x9) < (-1000) then (some false) else (if (rd x7 x9) > 1000 then (some false) else (impl_AreWeights.l0 k x0 x1 x7 x8 (wrap64 (x9 + 1))))) else (none)) else (none)) else ((impl_isSize.f x0).bind fun t145002 => (if t145002 = true then (some ((x1.length : Int) == x0)) else (some false)))
def impl_AreWeights.f (k : Nat) (a0 : Int) (l1 : List Int) : Option (Bool) := impl_AreWeights.l0 k a0 l1 l1 (l1.length : Int) 0
theorem impl_AreWeights.mono_l : ∀ k, (∀ y0 y1 y2 y3 y4, LeO (impl_AreWeights.l0 k y0 y1 y2 y3 y4) (impl_AreWeights.l0 (k + 1) y0 y1 y2 y3 y4))
 | 0 => fun _ _ _ _ _ r h => by simp [impl_AreWeights.l0] at h
 | k + 1 => by
  have ih0 := impl_AreWeights.mono_l k
  ·intro y0 y1 y2 y3 y4
   unfold impl_AreWeights.l0
   repeat' first
   | (with_reducible exact ih0 _ _ _ _ _)
   | (with_reducible exact LeO.refl _)
   | (with_reducible exact LeO.none _)
   | (with_reducible refine LeO.ite ?_ ?_)
   | (with_reducible refine LeO.bind ?_ (fun _ => ?_))
   | exact ih0 _ _ _ _ _
   | exact LeO.none _
   | refine LeO.ite ?_ ?_
   | refine LeO.bind ?_ (fun _ => ?_)
theorem impl_AreWeights.mono : ∀ a0 a1 k, LeO (impl_AreWeights.f k a0 a1) (impl_AreWeights.f (k + 1) a0 a1) := by
 intro a0 a1 k
 have ih0 := impl_AreWeights.mono_l k
 unfold impl_AreWeights.f
 repeat' first
   | (with_reducible exact ih0 _ _ _ _ _)
   | (with_reducible exact LeO.refl _)
   | (with_reducible exact LeO.none _)
   | (with_reducible refine LeO.ite ?_ ?_)
   | (with_reducible refine LeO.bind ?_ (fun _ => ?_))
   | exact ih0 _ _ _ _ _
   | exact LeO.none _
   | refine LeO.ite ?_ ?_
   | refine LeO.bind ?_ (fun _ => ?_)
set_option maxHeartbeats 8000000 in
set_option maxRecDepth 100000 in
theorem impl_AreWeights.calls (k : Nat) (a0 : Int) (A1 : Option Addr) (c1 : Nat) (l1 : List Int) (r : Bool) (w : World) (hr1 : Kd.C (Kd.int .i64) w A1 l1.length l1) (hc1 : l1.length ≤ c1) (h : impl_AreWeights.f k a0 l1 = some r) :
  Calls Try.prog 144 #[.int .i64 a0, .slice A1 l1.length c1] w fun e w' => e = .returned (.bool r) ∧ Drawn0 w w' := by
 have HR1 := aQ hr1
 have HC1 := aQ hc1
 clear hr1 hc1
 have H : (impl_AreWeights.l0 k a0 l1 l1 (l1.length : Int) 0) = some r := h
 clear h
 have H' := aQ H
 clear H
 go_enter Try.func144, Try.ntmps144
 go_wp2
 go_loopg [9] k (fun kq v9 w' => ∃ (x9_1 : Int), v9 = .int .i64 x9_1 ∧ Aside0 (impl_AreWeights.l0 kq a0 l1 l1 (l1.length : Int) x9_1 = some r) ∧ Aside0 (kq ≤ k) ∧ Drawn0 w w')
 case atStart => exact ⟨(0), rs_, H', ⟨Nat.le_refl _⟩, rd_⟩
 case round =>
  clear H'
  try clear c1
  try clear p2
  obtain ⟨x9_1, rfl, HA, HK1, ⟨m1, rfl⟩⟩ := hrel
  cases gk with
  | zero => exact absurd HA.out (by simp [impl_AreWeights.l0])
  | succ k1 =>
   have H := HA.out
   clear HA
   simp only [impl_AreWeights.l0] at H
   by_cases c3 : x9_1 < (l1.length : Int)
   ·rw [if_pos c3] at H
    have c3b0 : decide (x9_1 < (l1.length : Int)) = true := decide_eq_true c3
    clear c3
    by_cases c4 : 0 ≤ x9_1
    ·rw [if_pos c4] at H
     have c4b0 : decide (0 ≤ x9_1) = true := decide_eq_true c4
     clear c4
     by_cases c5 : x9_1 < (l1.length : Int)
     ·rw [if_pos c5] at H
      have c5b0 : decide (x9_1 < (l1.length : Int)) = true := decide_eq_true c5
      clear c5
      by_cases c6 : (rd l1 x9_1) < (-1000)
      ·rw [if_pos c6] at H
       have c6b0 : decide ((rd l1 x9_1) < (-1000)) = true := decide_eq_true c6
       clear c6
       obtain rfl := Option.some.inj H
       have p145001 : 0 ≤ (x9_1 : Int) := of_decide_eq_true as_
       have q145001 : x9_1 < (l1.length : Int) := of_decide_eq_true as_
       obtain ⟨ad145001, e145001, hx145001_0⟩ := Kd.at_int HR1.out x9_1 p145001 q145001
       cases e145001
       replace p145001 := eq_true p145001
       replace q145001 := eq_true q145001
       go_wp2
       go_ret
       exact ⟨rs_, rd_⟩
      ·rw [if_neg c6] at H
       have c6b0 : decide ((rd l1 x9_1) < (-1000)) = false := decide_eq_false c6
       clear c6
       by_cases c7 : (rd l1 x9_1) > 1000
       ·rw [if_pos c7] at H
        have c7b0 : decide (1000 < (rd l1 x9_1)) = true := decide_eq_true c7
        clear c7
        obtain rfl := Option.some.inj H
        have p145001 : 0 ≤ (x9_1 : Int) := of_decide_eq_true as_
        have q145001 : x9_1 < (l1.length : Int) := of_decide_eq_true as_
        obtain ⟨ad145001, e145001, hx145001_0⟩ := Kd.at_int HR1.out x9_1 p145001 q145001
        cases e145001
        replace p145001 := eq_true p145001
        replace q145001 := eq_true q145001
        go_wp2
        go_ret
        exact ⟨rs_, rd_⟩
       ·rw [if_neg c7] at H
        have c7b0 : decide (1000 < (rd l1 x9_1)) = false := decide_eq_false c7
        clear c7
        have H' := aQ H
        clear H
        have p145001 : 0 ≤ (x9_1 : Int) := of_decide_eq_true as_
        have q145001 : x9_1 < (l1.length : Int) := of_decide_eq_true as_
        obtain ⟨ad145001, e145001, hx145001_0⟩ := Kd.at_int HR1.out x9_1 p145001 q145001
        cases e145001
        replace p145001 := eq_true p145001
        replace q145001 := eq_true q145001
        go_wp2
        go_roundg k1
        case measure => have := HK1.out; omega
        case rel => exact ⟨(wrap64 (x9_1 + 1)), rs_, H', ⟨by have := HK1.out; omega⟩, rd_⟩
     ·rw [if_neg c5] at H
      exact absurd H (by simp)
    ·rw [if_neg c4] at H
     exact absurd H (by simp)
   ·rw [if_neg c3] at H
    have c3b0 : decide (x9_1 < (l1.length : Int)) = false := decide_eq_false c3
    clear c3
    replace H := Option.bind_eq_some_iff.mp H
    obtain ⟨t145002, A80, H⟩ := H
    replace H : (if t145002 = true then (some ((l1.length : Int) == a0)) else (some false)) = some r := H
    have A8 := aQ A80
    clear A80
    by_cases c9 : t145002 = true
    ·subst c9
     have H1 : (some ((l1.length : Int) == a0)) = some r := by rw [if_pos rfl] at H; exact H
     clear H
     have H := H1
     clear H1
     obtain rfl := Option.some.inj H
     go_wp2_with (first | ((with_reducible refine gate_callee (f := 151) rfl ?_); refine goesL_ (some 21) rfl rfl Try.func151 (by kernel_rfl) rfl #[.int .i64 a0] rfl lm ?_; (with_reducible refine (impl_isSize.calls a0 true _ A8.out).mono ?_); rintro e w' ⟨rfl, ⟨nd, rfl⟩⟩; refine ⟨_, rfl, ?_⟩))
     go_ret
     exact ⟨rs_, rd_⟩
    ·replace c9 := Bool.eq_false_iff.mpr c9
     subst c9
     have H1 : (some false) = some r := by rw [if_neg (show ¬ (false = true) by decide)] at H; exact H
     clear H
     have H := H1
     clear H1
     obtain rfl := Option.some.inj H
     go_wp2_with (first | ((with_reducible refine gate_callee (f := 151) rfl ?_); refine goesL_ (some 21) rfl rfl Try.func151 (by kernel_rfl) rfl #[.int .i64 a0] rfl lm ?_; (with_reducible refine (impl_isSize.calls a0 false _ A8.out).mono ?_); rintro e w' ⟨rfl, ⟨nd, rfl⟩⟩; refine ⟨_, rfl, ?_⟩))
     go_ret
     exact ⟨rs_, rd_⟩
end Go.Proofs.Ytagncnjllpebjaa.A
namespace Go.Proofs.Ytagncnjllpebjaa.A
open Go.RowKit Go.Proofs.YtagncnjllpebjaaW.PrintWords Go.Proofs.YtagncnjllpebjaaW.PrintLast Go.Proofs.YtagncnjllpebjaaW.PrintMore Go.Proofs.Ytagncnjllpebjaa.Z
attribute [local go_sem] max2_int min2_int max_two min_two max_three min_three max_four min_four
set_option linter.unusedVariables false
set_option linter.unusedSimpArgs false
/-! ### impl_commonSets: function 145 (by hand) -/
def impl_commonSets.c (k : Nat) (n : Int) (l : List Int) (n' : Int) (l' : List Int) (s : Int) : Option Bool := (impl_independent.f k n l s).bind fun t => if t = true then impl_independent.f k n' l' s else some false
theorem impl_commonSets.c_mono (n : Int) (l : List Int) (n' : Int) (l' : List Int) (s : Int) (k : Nat) : LeO (impl_commonSets.c k n l n' l' s) (impl_commonSets.c (k + 1) n l n' l' s) := by
 unfold impl_commonSets.c
 exact LeO.bind (impl_independent.mono _ _ _ _) (fun t => LeO.ite (impl_independent.mono _ _ _ _) (LeO.refl _))
set_option maxHeartbeats 4000000 in
set_option maxRecDepth 100000 in
theorem commonSets1_walk (k : Nat) (n : Int) (A : Option Addr) (c : Nat) (l : List Int) (n' : Int) (A' : Option Addr) (c' : Nat) (l' : List Int) (s : Int) (b : Bool) (gm gn : Nat) (w : World)
  (hr : Kd.C (Kd.int .i64) w A l.length l) (hc : l.length ≤ c) (hr' : Kd.C (Kd.int .i64) w A' l'.length l') (hc' : l'.length ≤ c')
  (hm : w.heap[gm]? = some (.cells #[.int .i64 n, .slice A l.length c] 26 (0, 0))) (hn : w.heap[gn]? = some (.cells #[.int .i64 n', .slice A' l'.length c'] 26 (0, 0))) (h : impl_commonSets.c k n l n' l' s = some b) :
  Calls Try.prog 173 #[.int .i64 s, .pointer (some ⟨gm, 0, none⟩), .pointer (some ⟨gn, 0, none⟩)] w fun e w' => e = .returned (.bool b) ∧ Below w.heap.size w w' := by
 unfold impl_commonSets.c at h
 obtain ⟨t, hT, h⟩ := Option.bind_eq_some_iff.1 h
 have hu := Try.underlying26
 have hcm0 : w.cell? ⟨gm, 0, none⟩ = some (.int .i64 n) := (blk_cell hm 0).trans rfl
 have hcm1 : w.cell? ⟨gm, 1, none⟩ = some (.slice A l.length c) := (blk_cell hm 1).trans rfl
 have hcn0 : w.cell? ⟨gn, 0, none⟩ = some (.int .i64 n') := (blk_cell hn 0).trans rfl
 have hcn1 : w.cell? ⟨gn, 1, none⟩ = some (.slice A' l'.length c') := (blk_cell hn 1).trans rfl
 have HT := Lib.hid hT
 have HR := Lib.hid hr
 have HC := Lib.hid hc
 have HR2 := Lib.hid hr'
 have HC2 := Lib.hid hc'
 have BN := Lib.hid hn
 clear hm hn hr hc hr' hc' hT
 by_cases c3 : t = true
 ·subst c3
  rw [if_pos rfl] at h
  have HU := Lib.hid h
  clear h
  go_enter Try.func173, Try.ntmps173
  go_wp2_with (first | (go_at_call 65; (with_reducible refine (impl_independent.calls k n _ _ l s true _ ?side1 ?side2 HT.out).mono ?_); (case side1 => exact HR.out); (case side2 => exact HC.out); rintro e w1_ ⟨rfl, hb⟩; have HB := aQ hb; have zn0 : w1_.cell? ⟨gn, 0, none⟩ = some (.int .i64 n') := (blk_cell (blk_below BN.out hb) 0).trans rfl; have zn1 : w1_.cell? ⟨gn, 1, none⟩ = some (.slice A' l'.length c') := (blk_cell (blk_below BN.out hb) 1).trans rfl; clear hb) | (go_at_call 65; (with_reducible refine (impl_independent.calls k n' _ _ l' s b _ ?side1 ?side2 HU.out).mono ?_); (case side1 => exact (Kd.C_below HR2.out HB.out)); (case side2 => exact HC2.out); rintro e w2_ ⟨rfl, hb⟩; have HB2 := aQ (below_step HB.out hb); clear hb))
  go_ret
  exact ⟨rs_, HB2.out⟩
 ·have c4 := Bool.eq_false_iff.mpr c3
  subst c4
  clear c3
  rw [if_neg (by decide)] at h
  simp only [Option.some.injEq] at h
  subst h
  go_enter Try.func173, Try.ntmps173
  go_wp2_with (first | (go_at_call 65; (with_reducible refine (impl_independent.calls k n _ _ l s false _ ?side1 ?side2 HT.out).mono ?_); (case side1 => exact HR.out); (case side2 => exact HC.out); rintro e w1_ ⟨rfl, hb⟩; have HB := aQ hb; clear hb))
  go_ret
  exact ⟨rs_, HB.out⟩
def impl_commonSets.f (k : Nat) (a0_0 : Int) (l0_1 : List Int) (a1_0 : Int) (l1_1 : List Int) : Option (List Int) := (impl_FullSet.f a0_0).bind fun m => if 0 ≤ m ∧ m ≤ 1000 then setsO (fun s => impl_commonSets.c k a0_0 l0_1 a1_0 l1_1 s) m else none
theorem impl_commonSets.mono : ∀ a0 a1 a2 a3 k, LeO (impl_commonSets.f k a0 a1 a2 a3) (impl_commonSets.f (k + 1) a0 a1 a2 a3) := by
 intro a0 a1 a2 a3 k
 unfold impl_commonSets.f
 exact (LeO.bind (LeO.refl _) (fun m => LeO.ite (LeO_setsO (fun s => impl_commonSets.c_mono a0 a1 a2 a3 s k) m) (LeO.none _)))
set_option maxHeartbeats 4000000 in
set_option maxRecDepth 100000 in
theorem impl_commonSets.calls (k : Nat) (a0_0 : Int) (A0_1 : Option Addr) (c0_1 : Nat) (l0_1 : List Int) (a1_0 : Int) (A1_1 : Option Addr) (c1_1 : Nat) (l1_1 : List Int) (r : List Int) (w : World) (hr0_1 : Kd.C (Kd.int .i64) w A0_1 l0_1.length l0_1) (hc0_1 : l0_1.length ≤ c0_1) (hr1_1 : Kd.C (Kd.int .i64) w A1_1 l1_1.length l1_1) (hc1_1 : l1_1.length ≤ c1_1) (h : impl_commonSets.f k a0_0 l0_1 a1_0 l1_1 = some r) :
  Calls Try.prog 145 #[.agg #[.int .i64 a0_0, .slice A0_1 l0_1.length c0_1], .agg #[.int .i64 a1_0, .slice A1_1 l1_1.length c1_1]] w fun e w' => ∃ v0_ : Value, e = .returned (v0_) ∧ Kd.R (Kd.int .i64) 3 w' w.heap.size (fun _ => True) v0_ r ∧ Below w.heap.size w w' := by
 have hu := Try.underlying26
 have HR := aQ hr0_1
 have HC := aQ hc0_1
 have HR2 := aQ hr1_1
 have HC2 := aQ hc1_1
 have HB := aQ (Below.refl w.heap.size w)
 clear hr0_1 hc0_1 hr1_1 hc1_1
 have EG := aQ (show ∀ args w, (callFunc 173 args).run Try.prog w = .ok (.enter 173 args) w from runs_of Try.func173 (by kernel_rfl) rfl)
 unfold impl_commonSets.f at h
 obtain ⟨m, hF, h⟩ := Option.bind_eq_some_iff.1 h
 by_cases hm : 0 ≤ m ∧ m ≤ 1000
 ·rw [if_pos hm] at h
  have HF := aQ hF
  have HM := aQ hm
  have HS := Lib.hid h
  clear hF hm h
  go_enter Try.func145, Try.ntmps145
  go_wp2_with (first | ((with_reducible refine gate_dst (N := 2) rfl ?_); refine box_event ?hg (N := 2) ?hd (cs := #[.int .i64 a0_0, .slice A0_1 l0_1.length c0_1]) (t := 26) ?hr ?_; (case hd => rfl); (case hg => rfl); (case hr => first | (go_simp; done) | (go_simp; rfl)); intro gm hg w1_ hbox hb; have n_HB := aQ (below_step (pB HB.out) hb); have n_GBM := aQ ((by rw [hg]; exact below_size (pB HB.out)) : w.heap.size ≤ gm); clear HB; have HB := n_HB; have GBM := n_GBM; have BM := aQ hbox; clear n_HB n_GBM; clear hb hbox hg; have zBM0 : w1_.cell? ⟨gm, 0, none⟩ = some (.int .i64 a0_0) := (blk_cell BM.out 0).trans rfl; have zBM1 : w1_.cell? ⟨gm, 1, none⟩ = some (.slice A0_1 l0_1.length c0_1) := (blk_cell BM.out 1).trans rfl) | ((with_reducible refine gate_dst (N := 3) rfl ?_); refine box_event ?hg (N := 3) ?hd (cs := #[.int .i64 a1_0, .slice A1_1 l1_1.length c1_1]) (t := 26) ?hr ?_; (case hd => rfl); (case hg => rfl); (case hr => first | (go_simp; done) | (go_simp; rfl)); intro gn hg w1_ hbox hb; have n_BM := aQ (blk_below (g := gm) (o := .cells #[.int .i64 a0_0, .slice A0_1 l0_1.length c0_1] 26 (0, 0)) (pk BM.out) hb); have n_NBMBN := aQ ((by rw [hg]; exact Nat.ne_of_lt (blk_lt (g := gm) (o := .cells #[.int .i64 a0_0, .slice A0_1 l0_1.length c0_1] 26 (0, 0)) (pk BM.out))) : gm ≠ gn); have n_HB := aQ (below_step (pB HB.out) hb); have n_GBN := aQ ((by rw [hg]; exact below_size (pB HB.out)) : w.heap.size ≤ gn); clear BM; clear HB; have HB := n_HB; have GBN := n_GBN; have BN := aQ hbox; have BM := n_BM; have NBMBN := n_NBMBN; clear n_HB n_GBN n_BM n_NBMBN; clear hb hbox hg; have zBM0 : w1_.cell? ⟨gm, 0, none⟩ = some (.int .i64 a0_0) := (blk_cell BM.out 0).trans rfl; have zBM1 : w1_.cell? ⟨gm, 1, none⟩ = some (.slice A0_1 l0_1.length c0_1) := (blk_cell BM.out 1).trans rfl; have zBN0 : w1_.cell? ⟨gn, 0, none⟩ = some (.int .i64 a1_0) := (blk_cell BN.out 0).trans rfl; have zBN1 : w1_.cell? ⟨gn, 1, none⟩ = some (.slice A1_1 l1_1.length c1_1) := (blk_cell BN.out 1).trans rfl))
  refine (setsOf_walk (fun s => impl_commonSets.c k a0_0 l0_1 a1_0 l1_1 s) 173 _ EG.out a0_0 m r _ HF.out HM.out.1 HM.out.2 HS.out (fun W x b hb hg => calls_of_args (by simp) (commonSets1_walk k a0_0 A0_1 c0_1 l0_1 a1_0 A1_1 c1_1 l1_1 x b gm gn W (Kd.C_below (Kd.C_below HR.out HB.out) hb) HC.out (Kd.C_below (Kd.C_below HR2.out HB.out) hb) HC2.out (blk_below BM.out hb) (blk_below BN.out hb) hg))).mono ?_
  rintro e w9_ ⟨v_, rfl, ho_, hb⟩
  have HO := aQ (Kd.R_lower ho_ (below_size (pB HB.out)))
  have n_HB := aQ (below_step (pB HB.out) hb)
  clear HB ho_ hb
  have HB := n_HB
  clear n_HB
  obtain ⟨AO, cO, eO⟩ := Kd.R_slice HO.out
  subst eO
  go_wp2
  go_ret
  exact ⟨_, rs_, by (with_reducible repeat (first | apply Kd.R_alloc | apply Kd.R_drewN | apply Kd.R_drew)); exact HO.out, (pB HB.out)⟩
 ·rw [if_neg hm] at h; cases h
end Go.Proofs.Ytagncnjllpebjaa.A
namespace Go.Proofs.Ytagncnjllpebjaa.A
open Go.RowKit Go.Proofs.YtagncnjllpebjaaW.PrintWords Go.Proofs.YtagncnjllpebjaaW.PrintLast Go.Proofs.YtagncnjllpebjaaW.PrintMore
attribute [local go_sem] max2_int min2_int max_two min_two max_three min_three max_four min_four
set_option linter.unusedVariables false
set_option linter.unusedSimpArgs false
/-! ### impl_BestCommon: function 80 -/
mutual
def impl_BestCommon.j0 : Nat → List Int → Int → Bool → Int → List Int → Int → List Int → Option (Int × Bool)
 | 0, _, _, _, _, _, _, _ => none
 | k + 1, x2, x3, x23, x81002000, x81002001, x81003000, x81003001 => if x23 = true then (some (0, false)) else ((impl_commonSets.f k x81002000 x81002001 x81003000 x81003001).bind fun t81005 => (impl_BestCommon.l0 k x2 x3 (-1) t81005 (t81005.length : Int) 0))
def impl_BestCommon.l0 : Nat → List Int → Int → Int → List Int → Int → Int → Option (Int × Bool)
 | 0, _, _, _, _, _, _ => none
 | k + 1, x2, x3, x10, x26, x27, x28 => if x28 < x27 then (if 0 ≤ x28 then (if x28 < (x26.length : Int) then ((impl_CountOf.f (rd x26 x28)).bind fun t81009 => (if t81009 = x3 then (if x10 < 0 then (impl_BestCommon.l0 k x2 x3 (rd x26 x28) x26 x27 (wrap64 (x28 + 1))) else ((impl_WeightOf.f k x2 (rd x26 x28)).bind fun t81010 => ((impl_WeightOf.f k x2 x10).bind fun t81011 => (if t81010 > t81011 then (impl_BestCommon.l0 k x2 x3 (rd x26 x28) x26 x27 (wrap64 (x28 + 1))) else (impl_BestCommon.l0 k x2 x3 x10 x26 x27 (wrap64 (x28 + 1))))))) else (impl_BestCommon.l0 k x2 x3 x10 x26 x27 (wrap64 (x28 + 1))))) else (none)) else (none)) else (if x10 < 0 then (some (0, false)) else (some (x10, true)))
end
def impl_BestCommon.f (k : Nat) (a0_0 : Int) (l0_1 : List Int) (a1_0 : Int) (l1_1 : List Int) (l2 : List Int) (a3 : Int) : Option (Int × Bool) := (impl_together.f k a0_0 l0_1 a1_0 l1_1).bind fun t81003 => (if t81003 = true then ((impl_AreWeights.f k a0_0 l2).bind fun t81004 => (impl_BestCommon.j0 k l2 a3 (!t81004) a0_0 l0_1 a1_0 l1_1)) else (impl_BestCommon.j0 k l2 a3 true a0_0 l0_1 a1_0 l1_1))
theorem impl_BestCommon.mono_l : ∀ k, (∀ y0 y1 y2 y3 y4 y5 y6, LeO (impl_BestCommon.j0 k y0 y1 y2 y3 y4 y5 y6) (impl_BestCommon.j0 (k + 1) y0 y1 y2 y3 y4 y5 y6)) ∧ (∀ y0 y1 y2 y3 y4 y5, LeO (impl_BestCommon.l0 k y0 y1 y2 y3 y4 y5) (impl_BestCommon.l0 (k + 1) y0 y1 y2 y3 y4 y5))
 | 0 => ⟨fun _ _ _ _ _ _ _ r h => by simp [impl_BestCommon.j0] at h, fun _ _ _ _ _ _ r h => by simp [impl_BestCommon.l0] at h⟩
 | k + 1 => by
  obtain ⟨ih0, ih1⟩ := impl_BestCommon.mono_l k
  refine ⟨?_, ?_⟩
  ·intro y0 y1 y2 y3 y4 y5 y6
   unfold impl_BestCommon.j0
   repeat' first
   | (with_reducible exact ih0 _ _ _ _ _ _ _)
   | (with_reducible exact ih1 _ _ _ _ _ _)
   | (with_reducible exact impl_AreWeights.mono _ _ _)
   | (with_reducible exact impl_WeightOf.mono _ _ _)
   | (with_reducible exact impl_commonSets.mono _ _ _ _ _)
   | (with_reducible exact impl_together.mono _ _ _ _ _)
   | (with_reducible exact LeO.refl _)
   | (with_reducible exact LeO.none _)
   | (with_reducible refine LeO.ite ?_ ?_)
   | (with_reducible refine LeO.bind ?_ (fun _ => ?_))
   | exact ih0 _ _ _ _ _ _ _
   | exact ih1 _ _ _ _ _ _
   | exact impl_AreWeights.mono _ _ _
   | exact impl_WeightOf.mono _ _ _
   | exact impl_commonSets.mono _ _ _ _ _
   | exact impl_together.mono _ _ _ _ _
   | exact LeO.none _
   | refine LeO.ite ?_ ?_
   | refine LeO.bind ?_ (fun _ => ?_)
  ·intro y0 y1 y2 y3 y4 y5
   unfold impl_BestCommon.l0
   repeat' first
   | (with_reducible exact ih0 _ _ _ _ _ _ _)
   | (with_reducible exact ih1 _ _ _ _ _ _)
   | (with_reducible exact impl_AreWeights.mono _ _ _)
   | (with_reducible exact impl_WeightOf.mono _ _ _)
   | (with_reducible exact impl_commonSets.mono _ _ _ _ _)
   | (with_reducible exact impl_together.mono _ _ _ _ _)
   | (with_reducible exact LeO.refl _)
   | (with_reducible exact LeO.none _)
   | (with_reducible refine LeO.ite ?_ ?_)
   | (with_reducible refine LeO.bind ?_ (fun _ => ?_))
   | exact ih0 _ _ _ _ _ _ _
   | exact ih1 _ _ _ _ _ _
   | exact impl_AreWeights.mono _ _ _
   | exact impl_WeightOf.mono _ _ _
   | exact impl_commonSets.mono _ _ _ _ _
   | exact impl_together.mono _ _ _ _ _
   | exact LeO.none _
   | refine LeO.ite ?_ ?_
   | refine LeO.bind ?_ (fun _ => ?_)
theorem impl_BestCommon.mono : ∀ a0 a1 a2 a3 a4 a5 k, LeO (impl_BestCommon.f k a0 a1 a2 a3 a4 a5) (impl_BestCommon.f (k + 1) a0 a1 a2 a3 a4 a5) := by
 intro a0 a1 a2 a3 a4 a5 k
 obtain ⟨ih0, ih1⟩ := impl_BestCommon.mono_l k
 unfold impl_BestCommon.f
 repeat' first
   | (with_reducible exact ih0 _ _ _ _ _ _ _)
   | (with_reducible exact ih1 _ _ _ _ _ _)
   | (with_reducible exact impl_AreWeights.mono _ _ _)
   | (with_reducible exact impl_WeightOf.mono _ _ _)
   | (with_reducible exact impl_commonSets.mono _ _ _ _ _)
   | (with_reducible exact impl_together.mono _ _ _ _ _)
   | (with_reducible exact LeO.refl _)
   | (with_reducible exact LeO.none _)
   | (with_reducible refine LeO.ite ?_ ?_)
   | (with_reducible refine LeO.bind ?_ (fun _ => ?_))
   | exact ih0 _ _ _ _ _ _ _
   | exact ih1 _ _ _ _ _ _
   | exact impl_AreWeights.mono _ _ _
   | exact impl_WeightOf.mono _ _ _
   | exact impl_commonSets.mono _ _ _ _ _
   | exact impl_together.mono _ _ _ _ _
   | exact LeO.none _
   | refine LeO.ite ?_ ?_
   | refine LeO.bind ?_ (fun _ => ?_)
set_option maxHeartbeats 8000000 in
set_option maxRecDepth 100000 in
theorem impl_BestCommon.calls (k : Nat) (a0_0 : Int) (A0_1 : Option Addr) (c0_1 : Nat) (l0_1 : List Int) (a1_0 : Int) (A1_1 : Option Addr) (c1_1 : Nat) (l1_1 : List Int) (A2 : Option Addr) (c2 : Nat) (l2 : List Int) (a3 : Int) (r1 : Int) (r2 : Bool) (w : World) (hr0_1 : Kd.C (Kd.int .i64) w A0_1 l0_1.length l0_1) (hc0_1 : l0_1.length ≤ c0_1) (hr1_1 : Kd.C (Kd.int .i64) w A1_1 l1_1.length l1_1) (hc1_1 : l1_1.length ≤ c1_1) (hr2 : Kd.C (Kd.int .i64) w A2 l2.length l2) (hc2 : l2.length ≤ c2) (h : impl_BestCommon.f k a0_0 l0_1 a1_0 l1_1 l2 a3 = some (r1, r2)) :
  Calls Try.prog 80 #[.agg #[.int .i64 a0_0, .slice A0_1 l0_1.length c0_1], .agg #[.int .i64 a1_0, .slice A1_1 l1_1.length c1_1], .slice A2 l2.length c2, .int .i64 a3] w fun e w' => e = .returned (.tuple #[.int .i64 r1, .bool r2]) ∧ Below w.heap.size w w' := by
 have hu26 := Try.underlying26
 have HR0_1 := aQ hr0_1
 have HC0_1 := aQ hc0_1
 clear hr0_1 hc0_1
 have HR1_1 := aQ hr1_1
 have HC1_1 := aQ hc1_1
 clear hr1_1 hc1_1
 have HR2 := aQ hr2
 have HC2 := aQ hc2
 clear hr2 hc2
 have HB := aQ (Below.refl w.heap.size w)
 have H : ((impl_together.f k a0_0 l0_1 a1_0 l1_1).bind fun t81003 => (if t81003 = true then ((impl_AreWeights.f k a0_0 l2).bind fun t81004 => (impl_BestCommon.j0 k l2 a3 (!t81004) a0_0 l0_1 a1_0 l1_1)) else (impl_BestCommon.j0 k l2 a3 true a0_0 l0_1 a1_0 l1_1))) = some (r1, r2) := h
 clear h
 have HC5 := aQ H
 clear H
 go_enter Try.func80, Try.ntmps80
 go_upto_region 1 with (first | ((with_reducible refine gate_dst (N := 4) rfl ?_); refine box_event ?hg (N := 4) ?hd (cs := #[.int .i64 a0_0, .slice A0_1 l0_1.length c0_1]) (t := 26) ?hr ?_; (case hd => rfl); (case hg => rfl); (case hr => first | (go_simp; done) | (go_simp; rfl)); intro gb81001 hg w6 hbox hb; have BK81001 := aQ (hbox); have GW81001 := aQ ((by rw [hg]; exact (below_size (pB HB.out)) : w.heap.size ≤ gb81001)); have GE81001 := aQ ((by rw [hg]; exact (below_size (pB HB.out)) : w.heap.size ≤ gb81001)); replace HB := aQ (below_step (pB HB.out) hb); clear hb hbox hg) | ((with_reducible refine gate_dst (N := 5) rfl ?_); refine box_event ?hg (N := 5) ?hd (cs := #[.int .i64 a1_0, .slice A1_1 l1_1.length c1_1]) (t := 26) ?hr ?_; (case hd => rfl); (case hg => rfl); (case hr => first | (go_simp; done) | (go_simp; rfl)); intro gb81002 hg w7 hbox hb; have BK81002 := aQ (hbox); have GW81002 := aQ ((by rw [hg]; exact (below_size (pB1 HB.out GE81001.out)) : w.heap.size ≤ gb81002)); have GE81002 := aQ ((by rw [hg]; exact (below_size (pB1 HB.out GE81001.out)) : w.heap.size ≤ gb81002)); replace HB := aQ (below_step (pB1 HB.out GE81001.out) hb); have NB81001_81002 := aQ ((by rw [hg]; exact Nat.ne_of_lt (blk_lt (g := gb81001) (o := .cells #[.int .i64 a0_0, .slice A0_1 l0_1.length c0_1] 26 (0, 0)) (pk BK81001.out)) : gb81001 ≠ gb81002)); have NB81002_81001 := aQ ((by rw [hg]; exact Nat.ne_of_gt (blk_lt (g := gb81001) (o := .cells #[.int .i64 a0_0, .slice A0_1 l0_1.length c0_1] 26 (0, 0)) (pk BK81001.out)) : gb81002 ≠ gb81001)); replace BK81001 := aQ (blk_below (g := gb81001) (o := .cells #[.int .i64 a0_0, .slice A0_1 l0_1.length c0_1] 26 (0, 0)) (pk BK81001.out) hb); clear hb hbox hg))
 (try simp only [Act.put, List.setIfInBounds_toArray, List.set_cons_zero, List.set_cons_succ])
 go_cut [23] (fun v23 wc => ∃ (kq : Nat) (x23_4 : Bool), v23 = .bool x23_4 ∧ Aside0 (impl_BestCommon.j0 kq l2 a3 x23_4 a0_0 l0_1 a1_0 l1_1 = some (r1, r2)) ∧ Aside0 (kq ≤ k) ∧ Aside0 (wc.heap[gb81001]? = some (.cells #[.int .i64 a0_0, (.slice A0_1 l0_1.length c0_1)] 26 (0, 0))) ∧ Aside0 (wc.heap[gb81002]? = some (.cells #[.int .i64 a1_0, (.slice A1_1 l1_1.length c1_1)] 26 (0, 0))) ∧ Aside0 (Below w.heap.size w wc))
 case first =>
  have H := HC5.out
  clear HC5
  replace H := Option.bind_eq_some_iff.mp H
  obtain ⟨t81003, A80, H⟩ := H
  replace H : (if t81003 = true then ((impl_AreWeights.f k a0_0 l2).bind fun t81004 => (impl_BestCommon.j0 k l2 a3 (!t81004) a0_0 l0_1 a1_0 l1_1)) else (impl_BestCommon.j0 k l2 a3 true a0_0 l0_1 a1_0 l1_1)) = some (r1, r2) := H
  have A8 := aQ A80
  clear A80
  by_cases c9 : t81003 = true
  ·subst c9
   have H1 : ((impl_AreWeights.f k a0_0 l2).bind fun t81004 => (impl_BestCommon.j0 k l2 a3 (!t81004) a0_0 l0_1 a1_0 l1_1)) = some (r1, r2) := by rw [if_pos rfl] at H; exact H
   clear H
   have H := H1
   clear H1
   replace H := Option.bind_eq_some_iff.mp H
   obtain ⟨t81004, A100, H⟩ := H
   replace H : (impl_BestCommon.j0 k l2 a3 (!t81004) a0_0 l0_1 a1_0 l1_1) = some (r1, r2) := H
   have A10 := aQ A100
   clear A100
   have H' := aQ H
   clear H
   have hnb11 := NB81001_81002.out
   have hnc11 := NB81002_81001.out
   have hcz12_0 := bc (v := (.int .i64 a0_0)) BK81001.out 0
   have hcz12_1 := bc (v := (.slice A0_1 l0_1.length c0_1)) BK81001.out 1
   have hfz12_0 := blk_frozen BK81001.out 0
   have hfz12_1 := blk_frozen BK81001.out 1
   have hcz13_0 := bc (v := (.int .i64 a1_0)) BK81002.out 0
   have hcz13_1 := bc (v := (.slice A1_1 l1_1.length c1_1)) BK81002.out 1
   have hfz13_0 := blk_frozen BK81002.out 0
   have hfz13_1 := blk_frozen BK81002.out 1
   go_wp2_with (first | ((with_reducible refine gate_callee (f := 136) rfl ?_); refine goesL_ (some 15) rfl rfl Try.func136 (by kernel_rfl) rfl #[.agg #[.int .i64 a0_0, .slice A0_1 l0_1.length c0_1], .agg #[.int .i64 a1_0, .slice A1_1 l1_1.length c1_1]] rfl lm ?_; (with_reducible refine (impl_together.calls k a0_0 _ _ l0_1 a1_0 _ _ l1_1 true _ ?side1 ?side2 ?side3 ?side4 A8.out).mono ?_); (case side1 => exact pC (Kd.C_below HR0_1.out HB.out)); (case side2 => exact HC0_1.out); (case side3 => exact pC (Kd.C_below HR1_1.out HB.out)); (case side4 => exact HC1_1.out); rintro e w14 ⟨rfl, hb⟩; refine ⟨_, rfl, ?_⟩; replace BK81001 := aQ (blk_below (g := gb81001) (o := .cells #[.int .i64 a0_0, .slice A0_1 l0_1.length c0_1] 26 (0, 0)) (pk BK81001.out) hb); replace BK81002 := aQ (blk_below (g := gb81002) (o := .cells #[.int .i64 a1_0, .slice A1_1 l1_1.length c1_1] 26 (0, 0)) (pk BK81002.out) hb); replace HB := aQ (below_step (pB2 HB.out GE81001.out GE81002.out) hb); (try clear hb); have hcz15_0 := bc (v := (.int .i64 a0_0)) BK81001.out 0; have hcz15_1 := bc (v := (.slice A0_1 l0_1.length c0_1)) BK81001.out 1; have hfz15_0 := blk_frozen BK81001.out 0; have hfz15_1 := blk_frozen BK81001.out 1) | (go_at_call 144; (with_reducible refine (impl_AreWeights.calls k a0_0 _ _ l2 t81004 _ ?side1 ?side2 A10.out).mono ?_); (case side1 => exact pC (Kd.C_below HR2.out HB.out)); (case side2 => exact HC2.out); rintro e w' ⟨rfl, ⟨nd, rfl⟩⟩))
   go_meet
   case rel => exact ⟨_, (!t81004), rs_, H', ⟨by first | omega | exact Nat.le_refl _⟩, ⟨pk BK81001.out⟩, ⟨pk BK81002.out⟩, ⟨pB2 HB.out GE81001.out GE81002.out⟩⟩
  ·replace c9 := Bool.eq_false_iff.mpr c9
   subst c9
   have H1 : (impl_BestCommon.j0 k l2 a3 true a0_0 l0_1 a1_0 l1_1) = some (r1, r2) := by rw [if_neg (show ¬ (false = true) by decide)] at H; exact H
   clear H
   have H := H1
   clear H1
   have H' := aQ H
   clear H
   have hnb16 := NB81001_81002.out
   have hnc16 := NB81002_81001.out
   have hcz17_0 := bc (v := (.int .i64 a0_0)) BK81001.out 0
   have hcz17_1 := bc (v := (.slice A0_1 l0_1.length c0_1)) BK81001.out 1
   have hfz17_0 := blk_frozen BK81001.out 0
   have hfz17_1 := blk_frozen BK81001.out 1
   have hcz18_0 := bc (v := (.int .i64 a1_0)) BK81002.out 0
   have hcz18_1 := bc (v := (.slice A1_1 l1_1.length c1_1)) BK81002.out 1
   have hfz18_0 := blk_frozen BK81002.out 0
   have hfz18_1 := blk_frozen BK81002.out 1
   go_wp2_with (first | ((with_reducible refine gate_callee (f := 136) rfl ?_); refine goesL_ (some 15) rfl rfl Try.func136 (by kernel_rfl) rfl #[.agg #[.int .i64 a0_0, .slice A0_1 l0_1.length c0_1], .agg #[.int .i64 a1_0, .slice A1_1 l1_1.length c1_1]] rfl lm ?_; (with_reducible refine (impl_together.calls k a0_0 _ _ l0_1 a1_0 _ _ l1_1 false _ ?side1 ?side2 ?side3 ?side4 A8.out).mono ?_); (case side1 => exact pC (Kd.C_below HR0_1.out HB.out)); (case side2 => exact HC0_1.out); (case side3 => exact pC (Kd.C_below HR1_1.out HB.out)); (case side4 => exact HC1_1.out); rintro e w19 ⟨rfl, hb⟩; refine ⟨_, rfl, ?_⟩; replace BK81001 := aQ (blk_below (g := gb81001) (o := .cells #[.int .i64 a0_0, .slice A0_1 l0_1.length c0_1] 26 (0, 0)) (pk BK81001.out) hb); replace BK81002 := aQ (blk_below (g := gb81002) (o := .cells #[.int .i64 a1_0, .slice A1_1 l1_1.length c1_1] 26 (0, 0)) (pk BK81002.out) hb); replace HB := aQ (below_step (pB2 HB.out GE81001.out GE81002.out) hb); (try clear hb)))
   go_meet
   case rel => exact ⟨_, (true), rs_, H', ⟨by first | omega | exact Nat.le_refl _⟩, ⟨pk BK81001.out⟩, ⟨pk BK81002.out⟩, ⟨pB2 HB.out GE81001.out GE81002.out⟩⟩
 case rest =>
  clear HC5
  try clear c1
  try clear c2
  try clear p2
  try clear c8
  try clear c9
  try clear c11
  try clear c13
  try clear c16
  try clear hcz12_0
  try clear hcz12_1
  try clear hcz13_0
  try clear hcz13_1
  try clear hcz15_0
  try clear hcz15_1
  try clear hcz17_0
  try clear hcz17_1
  try clear hcz18_0
  try clear hcz18_1
  try clear hfz12_0
  try clear hfz12_1
  try clear hfz13_0
  try clear hfz13_1
  try clear hfz15_0
  try clear hfz15_1
  try clear hfz17_0
  try clear hfz17_1
  try clear hfz18_0
  try clear hfz18_1
  obtain ⟨kq, x23_4, rfl, HA, HJ4, BK81001, BK81002, HB⟩ := hcut
  cases kq with
  | zero => exact absurd HA.out (by simp [impl_BestCommon.j0])
  | succ kj4 =>
   have H := HA.out
   clear HA
   simp only [impl_BestCommon.j0] at H
   by_cases c20 : x23_4 = true
   ·subst c20
    have H1 : (some (0, false)) = some (r1, r2) := by rw [if_pos rfl] at H; exact H
    clear H
    have H := H1
    clear H1
    simp only [Option.some.injEq, Prod.mk.injEq] at H
    obtain ⟨rfl, rfl⟩ := H
    go_wp2
    go_ret2
    exact ⟨re_, pB2 HB.out GE81001.out GE81002.out⟩
   ·replace c20 := Bool.eq_false_iff.mpr c20
    subst c20
    have H1 : ((impl_commonSets.f kj4 a0_0 l0_1 a1_0 l1_1).bind fun t81005 => (impl_BestCommon.l0 kj4 l2 a3 (-1) t81005 (t81005.length : Int) 0)) = some (r1, r2) := by rw [if_neg (show ¬ (false = true) by decide)] at H; exact H
    clear H
    have H := H1
    clear H1
    replace H := Option.bind_eq_some_iff.mp H
    obtain ⟨t81005, A210, H⟩ := H
    replace H : (impl_BestCommon.l0 kj4 l2 a3 (-1) t81005 (t81005.length : Int) 0) = some (r1, r2) := H
    have A21 := aQ A210
    clear A210
    have H' := aQ H
    clear H
    have hnb22 := NB81001_81002.out
    have hnc22 := NB81002_81001.out
    have hcz23_0 := bc (v := (.int .i64 a0_0)) BK81001.out 0
    have hcz23_1 := bc (v := (.slice A0_1 l0_1.length c0_1)) BK81001.out 1
    have hfz23_0 := blk_frozen BK81001.out 0
    have hfz23_1 := blk_frozen BK81001.out 1
    have hcz24_0 := bc (v := (.int .i64 a1_0)) BK81002.out 0
    have hcz24_1 := bc (v := (.slice A1_1 l1_1.length c1_1)) BK81002.out 1
    have hfz24_0 := blk_frozen BK81002.out 0
    have hfz24_1 := blk_frozen BK81002.out 1
    go_wp2_with (first | ((with_reducible refine gate_callee (f := 145) rfl ?_); refine goesL_ (some 26) rfl rfl Try.func145 (by kernel_rfl) rfl #[.agg #[.int .i64 a0_0, .slice A0_1 l0_1.length c0_1], .agg #[.int .i64 a1_0, .slice A1_1 l1_1.length c1_1]] rfl lm ?_; (with_reducible refine (impl_commonSets.calls kj4 a0_0 _ _ l0_1 a1_0 _ _ l1_1 t81005 _ ?side1 ?side2 ?side3 ?side4 A21.out).mono ?_); (case side1 => exact pC (Kd.C_below HR0_1.out HB.out)); (case side2 => exact HC0_1.out); (case side3 => exact pC (Kd.C_below HR1_1.out HB.out)); (case side4 => exact HC1_1.out); rintro e w25 ⟨v81006, rfl, ho0, hb⟩; refine ⟨_, rfl, ?_⟩; have HO81007 := aQ (Kd.R_lower ho0 (below_size (pB2 HB.out GE81001.out GE81002.out))); replace BK81001 := aQ (blk_below (g := gb81001) (o := .cells #[.int .i64 a0_0, .slice A0_1 l0_1.length c0_1] 26 (0, 0)) (pk BK81001.out) hb); replace BK81002 := aQ (blk_below (g := gb81002) (o := .cells #[.int .i64 a1_0, .slice A1_1 l1_1.length c1_1] 26 (0, 0)) (pk BK81002.out) hb); replace HB := aQ (below_step (pB2 HB.out GE81001.out GE81002.out) hb); (try clear hb); (try clear ho0); obtain ⟨Ao26, co26, eo26⟩ := Kd.R_slice HO81007.out; subst eo26))
    go_loopg [10, 28] kj4 (fun kq v10 v28 w' => ∃ (x10_2 : Int) (x28_2 : Int), v10 = .int .i64 x10_2 ∧ v28 = .int .i64 x28_2 ∧ Aside0 (impl_BestCommon.l0 kq l2 a3 x10_2 t81005 (t81005.length : Int) x28_2 = some (r1, r2)) ∧ Aside0 (kq ≤ kj4) ∧ Aside0 (Kd.R (Kd.int .i64) 3 w' w.heap.size (fun _ => True) (.slice Ao26 t81005.length co26) t81005) ∧ Aside0 (w'.heap[gb81001]? = some (.cells #[.int .i64 a0_0, (.slice A0_1 l0_1.length c0_1)] 26 (0, 0))) ∧ Aside0 (w'.heap[gb81002]? = some (.cells #[.int .i64 a1_0, (.slice A1_1 l1_1.length c1_1)] 26 (0, 0))) ∧ Aside0 (Below w.heap.size w w'))
    case atStart => exact ⟨((-1)), (0), rs_, rs_, H', ⟨Nat.le_refl _⟩, ⟨pR HO81007.out⟩, ⟨pk BK81001.out⟩, ⟨pk BK81002.out⟩, ⟨pB2 HB.out GE81001.out GE81002.out⟩⟩
    case round =>
     clear H'
     try clear c1
     try clear c2
     try clear p2
     try clear c8
     try clear c9
     try clear c11
     try clear c13
     try clear c14
     try clear c16
     try clear c20
     try clear c22
     try clear hcz12_0
     try clear hcz12_1
     try clear hcz13_0
     try clear hcz13_1
     try clear hcz15_0
     try clear hcz15_1
     try clear hcz17_0
     try clear hcz17_1
     try clear hcz18_0
     try clear hcz18_1
     try clear hcz23_0
     try clear hcz23_1
     try clear hcz24_0
     try clear hcz24_1
     try clear hfz12_0
     try clear hfz12_1
     try clear hfz13_0
     try clear hfz13_1
     try clear hfz15_0
     try clear hfz15_1
     try clear hfz17_0
     try clear hfz17_1
     try clear hfz18_0
     try clear hfz18_1
     try clear hfz23_0
     try clear hfz23_1
     try clear hfz24_0
     try clear hfz24_1
     try clear p2
     obtain ⟨x10_2, x28_2, rfl, rfl, HA, HK2, HO_26, BK81001, BK81002, HB⟩ := hrel
     cases gk with
     | zero => exact absurd HA.out (by simp [impl_BestCommon.l0])
     | succ k2 =>
      have H := HA.out
      clear HA
      simp only [impl_BestCommon.l0] at H
      by_cases c27 : x28_2 < (t81005.length : Int)
      ·rw [if_pos c27] at H
       have c27b0 : decide (x28_2 < (t81005.length : Int)) = true := decide_eq_true c27
       clear c27
       by_cases c28 : 0 ≤ x28_2
       ·rw [if_pos c28] at H
        have c28b0 : decide (0 ≤ x28_2) = true := decide_eq_true c28
        clear c28
        by_cases c29 : x28_2 < (t81005.length : Int)
        ·rw [if_pos c29] at H
         have c29b0 : decide (x28_2 < (t81005.length : Int)) = true := decide_eq_true c29
         clear c29
         replace H := Option.bind_eq_some_iff.mp H
         obtain ⟨t81009, A300, H⟩ := H
         replace H : (if t81009 = a3 then (if x10_2 < 0 then (impl_BestCommon.l0 k2 l2 a3 (rd t81005 x28_2) t81005 (t81005.length : Int) (wrap64 (x28_2 + 1))) else ((impl_WeightOf.f k2 l2 (rd t81005 x28_2)).bind fun t81010 => ((impl_WeightOf.f k2 l2 x10_2).bind fun t81011 => (if t81010 > t81011 then (impl_BestCommon.l0 k2 l2 a3 (rd t81005 x28_2) t81005 (t81005.length : Int) (wrap64 (x28_2 + 1))) else (impl_BestCommon.l0 k2 l2 a3 x10_2 t81005 (t81005.length : Int) (wrap64 (x28_2 + 1))))))) else (impl_BestCommon.l0 k2 l2 a3 x10_2 t81005 (t81005.length : Int) (wrap64 (x28_2 + 1)))) = some (r1, r2) := H
         have A30 := aQ A300
         clear A300
         by_cases c31 : t81009 = a3
         ·rw [if_pos c31] at H
          have c31b0 : (t81009 == a3) = true := beq_iff_eq.mpr c31
          have c31b1 : (t81009 != a3) = false := bne_eq_false_iff_eq.mpr c31
          clear c31
          by_cases c32 : x10_2 < 0
          ·rw [if_pos c32] at H
           have c32b0 : decide (x10_2 < 0) = true := decide_eq_true c32
           clear c32
           have H' := aQ H
           clear H
           have p81008 : 0 ≤ (x28_2 : Int) := of_decide_eq_true as_
           have q81008 : x28_2 < (t81005.length : Int) := of_decide_eq_true as_
           obtain ⟨ad81008, e81008, hx81008_0⟩ := Kd.at_int (Kd.R_reads' HO_26.out).2.2 x28_2 p81008 q81008
           cases e81008
           replace p81008 := eq_true p81008
           replace q81008 := eq_true q81008
           go_wp2_with (first | ((with_reducible refine gate_callee (f := 64) rfl ?_); refine goesL_ (some 33) rfl rfl Try.func64 (by kernel_rfl) rfl #[.int .i64 (rd t81005 x28_2)] rfl lm ?_; (with_reducible refine (impl_CountOf.calls (rd t81005 x28_2) t81009 _ A30.out).mono ?_); rintro e w' ⟨rfl, ⟨nd, rfl⟩⟩; refine ⟨_, rfl, ?_⟩))
           go_roundg k2
           case measure => have := HJ4.out; have := HK2.out; omega
           case rel => exact ⟨(rd t81005 x28_2), (wrap64 (x28_2 + 1)), rs_, rs_, H', ⟨by have := HJ4.out; have := HK2.out; omega⟩, ⟨pR HO_26.out⟩, ⟨pk BK81001.out⟩, ⟨pk BK81002.out⟩, ⟨pB2 HB.out GE81001.out GE81002.out⟩⟩
          ·rw [if_neg c32] at H
           have c32b0 : decide (x10_2 < 0) = false := decide_eq_false c32
           clear c32
           replace H := Option.bind_eq_some_iff.mp H
           obtain ⟨t81010, A330, H⟩ := H
           replace H : ((impl_WeightOf.f k2 l2 x10_2).bind fun t81011 => (if t81010 > t81011 then (impl_BestCommon.l0 k2 l2 a3 (rd t81005 x28_2) t81005 (t81005.length : Int) (wrap64 (x28_2 + 1))) else (impl_BestCommon.l0 k2 l2 a3 x10_2 t81005 (t81005.length : Int) (wrap64 (x28_2 + 1))))) = some (r1, r2) := H
           have A33 := aQ A330
           clear A330
           replace H := Option.bind_eq_some_iff.mp H
           obtain ⟨t81011, A340, H⟩ := H
           replace H : (if t81010 > t81011 then (impl_BestCommon.l0 k2 l2 a3 (rd t81005 x28_2) t81005 (t81005.length : Int) (wrap64 (x28_2 + 1))) else (impl_BestCommon.l0 k2 l2 a3 x10_2 t81005 (t81005.length : Int) (wrap64 (x28_2 + 1)))) = some (r1, r2) := H
           have A34 := aQ A340
           clear A340
           by_cases c35 : t81010 > t81011
           ·rw [if_pos c35] at H
            have c35b0 : decide (t81011 < t81010) = true := decide_eq_true c35
            clear c35
            have H' := aQ H
            clear H
            have p81008 : 0 ≤ (x28_2 : Int) := of_decide_eq_true as_
            have q81008 : x28_2 < (t81005.length : Int) := of_decide_eq_true as_
            obtain ⟨ad81008, e81008, hx81008_0⟩ := Kd.at_int (Kd.R_reads' HO_26.out).2.2 x28_2 p81008 q81008
            cases e81008
            replace p81008 := eq_true p81008
            replace q81008 := eq_true q81008
            go_wp2_with (first | ((with_reducible refine gate_callee (f := 64) rfl ?_); refine goesL_ (some 33) rfl rfl Try.func64 (by kernel_rfl) rfl #[.int .i64 (rd t81005 x28_2)] rfl lm ?_; (with_reducible refine (impl_CountOf.calls (rd t81005 x28_2) t81009 _ A30.out).mono ?_); rintro e w' ⟨rfl, ⟨nd, rfl⟩⟩; refine ⟨_, rfl, ?_⟩) | (go_at_call 81; (with_reducible refine (impl_WeightOf.calls k2 _ _ l2 (rd t81005 x28_2) t81010 _ ?side1 ?side2 A33.out).mono ?_); (case side1 => repeat (first | exact (Kd.C_below HR2.out (pB2 HB.out GE81001.out GE81002.out)) | (with_reducible refine Kd.C_alloc ?_ _) | (with_reducible refine Kd.C_drewN ?_ _) | (with_reducible refine Kd.C_drew ?_))); (case side2 => exact HC2.out); rintro e w36 ⟨rfl, hb⟩; replace HO_26 := aQ (Kd.R_below (pR HO_26.out) hb); replace BK81001 := aQ (blk_below (g := gb81001) (o := .cells #[.int .i64 a0_0, .slice A0_1 l0_1.length c0_1] 26 (0, 0)) (pk BK81001.out) hb); replace BK81002 := aQ (blk_below (g := gb81002) (o := .cells #[.int .i64 a1_0, .slice A1_1 l1_1.length c1_1] 26 (0, 0)) (pk BK81002.out) hb); replace HB := aQ (below_step (pB2 HB.out GE81001.out GE81002.out) hb); (try clear hb)) | (go_at_call 81; (with_reducible refine (impl_WeightOf.calls k2 _ _ l2 x10_2 t81011 _ ?side1 ?side2 A34.out).mono ?_); (case side1 => exact pC (Kd.C_below HR2.out HB.out)); (case side2 => exact HC2.out); rintro e w37 ⟨rfl, hb⟩; replace HO_26 := aQ (Kd.R_below (pR HO_26.out) hb); replace BK81001 := aQ (blk_below (g := gb81001) (o := .cells #[.int .i64 a0_0, .slice A0_1 l0_1.length c0_1] 26 (0, 0)) (pk BK81001.out) hb); replace BK81002 := aQ (blk_below (g := gb81002) (o := .cells #[.int .i64 a1_0, .slice A1_1 l1_1.length c1_1] 26 (0, 0)) (pk BK81002.out) hb); replace HB := aQ (below_step (pB2 HB.out GE81001.out GE81002.out) hb); (try clear hb)))
            go_roundg k2
            case measure => have := HJ4.out; have := HK2.out; omega
            case rel => exact ⟨(rd t81005 x28_2), (wrap64 (x28_2 + 1)), rs_, rs_, H', ⟨by have := HJ4.out; have := HK2.out; omega⟩, ⟨pR HO_26.out⟩, ⟨pk BK81001.out⟩, ⟨pk BK81002.out⟩, ⟨pB2 HB.out GE81001.out GE81002.out⟩⟩
           ·rw [if_neg c35] at H
            have c35b0 : decide (t81011 < t81010) = false := decide_eq_false c35
            clear c35
            have H' := aQ H
            clear H
            have p81008 : 0 ≤ (x28_2 : Int) := of_decide_eq_true as_
            have q81008 : x28_2 < (t81005.length : Int) := of_decide_eq_true as_
            obtain ⟨ad81008, e81008, hx81008_0⟩ := Kd.at_int (Kd.R_reads' HO_26.out).2.2 x28_2 p81008 q81008
            cases e81008
            replace p81008 := eq_true p81008
            replace q81008 := eq_true q81008
            go_wp2_with (first | ((with_reducible refine gate_callee (f := 64) rfl ?_); refine goesL_ (some 33) rfl rfl Try.func64 (by kernel_rfl) rfl #[.int .i64 (rd t81005 x28_2)] rfl lm ?_; (with_reducible refine (impl_CountOf.calls (rd t81005 x28_2) t81009 _ A30.out).mono ?_); rintro e w' ⟨rfl, ⟨nd, rfl⟩⟩; refine ⟨_, rfl, ?_⟩) | (go_at_call 81; (with_reducible refine (impl_WeightOf.calls k2 _ _ l2 (rd t81005 x28_2) t81010 _ ?side1 ?side2 A33.out).mono ?_); (case side1 => repeat (first | exact (Kd.C_below HR2.out (pB2 HB.out GE81001.out GE81002.out)) | (with_reducible refine Kd.C_alloc ?_ _) | (with_reducible refine Kd.C_drewN ?_ _) | (with_reducible refine Kd.C_drew ?_))); (case side2 => exact HC2.out); rintro e w38 ⟨rfl, hb⟩; replace HO_26 := aQ (Kd.R_below (pR HO_26.out) hb); replace BK81001 := aQ (blk_below (g := gb81001) (o := .cells #[.int .i64 a0_0, .slice A0_1 l0_1.length c0_1] 26 (0, 0)) (pk BK81001.out) hb); replace BK81002 := aQ (blk_below (g := gb81002) (o := .cells #[.int .i64 a1_0, .slice A1_1 l1_1.length c1_1] 26 (0, 0)) (pk BK81002.out) hb); replace HB := aQ (below_step (pB2 HB.out GE81001.out GE81002.out) hb); (try clear hb)) | (go_at_call 81; (with_reducible refine (impl_WeightOf.calls k2 _ _ l2 x10_2 t81011 _ ?side1 ?side2 A34.out).mono ?_); (case side1 => exact pC (Kd.C_below HR2.out HB.out)); (case side2 => exact HC2.out); rintro e w39 ⟨rfl, hb⟩; replace HO_26 := aQ (Kd.R_below (pR HO_26.out) hb); replace BK81001 := aQ (blk_below (g := gb81001) (o := .cells #[.int .i64 a0_0, .slice A0_1 l0_1.length c0_1] 26 (0, 0)) (pk BK81001.out) hb); replace BK81002 := aQ (blk_below (g := gb81002) (o := .cells #[.int .i64 a1_0, .slice A1_1 l1_1.length c1_1] 26 (0, 0)) (pk BK81002.out) hb); replace HB := aQ (below_step (pB2 HB.out GE81001.out GE81002.out) hb); (try clear hb)))
            go_roundg k2
            case measure => have := HJ4.out; have := HK2.out; omega
            case rel => exact ⟨(x10_2), (wrap64 (x28_2 + 1)), rs_, rs_, H', ⟨by have := HJ4.out; have := HK2.out; omega⟩, ⟨pR HO_26.out⟩, ⟨pk BK81001.out⟩, ⟨pk BK81002.out⟩, ⟨pB2 HB.out GE81001.out GE81002.out⟩⟩
         ·rw [if_neg c31] at H
          have c31b0 : (t81009 == a3) = false := beq_eq_false_iff_ne.mpr c31
          have c31b1 : (t81009 != a3) = true := bne_iff_ne.mpr c31
          have H' := aQ H
          clear H
          have p81008 : 0 ≤ (x28_2 : Int) := of_decide_eq_true as_
          have q81008 : x28_2 < (t81005.length : Int) := of_decide_eq_true as_
          obtain ⟨ad81008, e81008, hx81008_0⟩ := Kd.at_int (Kd.R_reads' HO_26.out).2.2 x28_2 p81008 q81008
          cases e81008
          replace p81008 := eq_true p81008
          replace q81008 := eq_true q81008
          go_wp2_with (first | ((with_reducible refine gate_callee (f := 64) rfl ?_); refine goesL_ (some 33) rfl rfl Try.func64 (by kernel_rfl) rfl #[.int .i64 (rd t81005 x28_2)] rfl lm ?_; (with_reducible refine (impl_CountOf.calls (rd t81005 x28_2) t81009 _ A30.out).mono ?_); rintro e w' ⟨rfl, ⟨nd, rfl⟩⟩; refine ⟨_, rfl, ?_⟩))
          go_roundg k2
          case measure => have := HJ4.out; have := HK2.out; omega
          case rel => exact ⟨(x10_2), (wrap64 (x28_2 + 1)), rs_, rs_, H', ⟨by have := HJ4.out; have := HK2.out; omega⟩, ⟨pR HO_26.out⟩, ⟨pk BK81001.out⟩, ⟨pk BK81002.out⟩, ⟨pB2 HB.out GE81001.out GE81002.out⟩⟩
        ·rw [if_neg c29] at H
         exact absurd H (by simp)
       ·rw [if_neg c28] at H
        exact absurd H (by simp)
      ·rw [if_neg c27] at H
       have c27b0 : decide (x28_2 < (t81005.length : Int)) = false := decide_eq_false c27
       clear c27
       by_cases c40 : x10_2 < 0
       ·rw [if_pos c40] at H
        have c40b0 : decide (x10_2 < 0) = true := decide_eq_true c40
        clear c40
        simp only [Option.some.injEq, Prod.mk.injEq] at H
        obtain ⟨rfl, rfl⟩ := H
        go_wp2
        go_ret2
        exact ⟨re_, pB2 HB.out GE81001.out GE81002.out⟩
       ·rw [if_neg c40] at H
        have c40b0 : decide (x10_2 < 0) = false := decide_eq_false c40
        clear c40
        simp only [Option.some.injEq, Prod.mk.injEq] at H
        obtain ⟨rfl, rfl⟩ := H
        go_wp2
        go_ret2
        exact ⟨re_, pB2 HB.out GE81001.out GE81002.out⟩
/-! ### impl_BestWeights: function 32 -/
def impl_BestWeights.l0 : Nat → List Int → List Int → Int → Int → List Int → Int → List Int → Option (List Int)
 | 0, _, _, _, _, _, _, _ => none
 | k + 1, x2, x7, x8, x33002000, x33002001, x33003000, x33003001 => (impl_BestCommon.f k x33002000 x33002001 x33003000 x33003001 x2 x8).bind fun bt33006 => (if bt33006.2 = true then ((impl_WeightOf.f k x2 bt33006.1).bind fun t33008 => (if x7.length < 17592186044416 then (impl_BestWeights.l0 k x2 (x7 ++ [t33008]) (wrap64 (x8 + 1)) x33002000 x33002001 x33003000 x33003001) else (none))) else (some x7))
def impl_BestWeights.f (k : Nat) (a0_0 : Int) (l0_1 : List Int) (a1_0 : Int) (l1_1 : List Int) (l2 : List Int) : Option (List Int) := impl_BestWeights.l0 k l2 (([] : List Int)) 0 a0_0 l0_1 a1_0 l1_1
theorem impl_BestWeights.mono_l : ∀ k, (∀ y0 y1 y2 y3 y4 y5 y6, LeO (impl_BestWeights.l0 k y0 y1 y2 y3 y4 y5 y6) (impl_BestWeights.l0 (k + 1) y0 y1 y2 y3 y4 y5 y6))
 | 0 => fun _ _ _ _ _ _ _ r h => by simp [impl_BestWeights.l0] at h
 | k + 1 => by
  have ih0 := impl_BestWeights.mono_l k
  ·intro y0 y1 y2 y3 y4 y5 y6
   unfold impl_BestWeights.l0
   repeat' first
   | (with_reducible exact ih0 _ _ _ _ _ _ _)
   | (with_reducible exact impl_BestCommon.mono _ _ _ _ _ _ _)
   | (with_reducible exact impl_WeightOf.mono _ _ _)
   | (with_reducible exact LeO.refl _)
   | (with_reducible exact LeO.none _)
   | (with_reducible refine LeO.ite ?_ ?_)
   | (with_reducible refine LeO.bind ?_ (fun _ => ?_))
   | exact ih0 _ _ _ _ _ _ _
   | exact impl_BestCommon.mono _ _ _ _ _ _ _
   | exact impl_WeightOf.mono _ _ _
   | exact LeO.none _
   | refine LeO.ite ?_ ?_
   | refine LeO.bind ?_ (fun _ => ?_)
theorem impl_BestWeights.mono : ∀ a0 a1 a2 a3 a4 k, LeO (impl_BestWeights.f k a0 a1 a2 a3 a4) (impl_BestWeights.f (k + 1) a0 a1 a2 a3 a4) := by
 intro a0 a1 a2 a3 a4 k
 have ih0 := impl_BestWeights.mono_l k
 unfold impl_BestWeights.f
 repeat' first
   | (with_reducible exact ih0 _ _ _ _ _ _ _)
   | (with_reducible exact impl_BestCommon.mono _ _ _ _ _ _ _)
   | (with_reducible exact impl_WeightOf.mono _ _ _)
   | (with_reducible exact LeO.refl _)
   | (with_reducible exact LeO.none _)
   | (with_reducible refine LeO.ite ?_ ?_)
   | (with_reducible refine LeO.bind ?_ (fun _ => ?_))
   | exact ih0 _ _ _ _ _ _ _
   | exact impl_BestCommon.mono _ _ _ _ _ _ _
   | exact impl_WeightOf.mono _ _ _
   | exact LeO.none _
   | refine LeO.ite ?_ ?_
   | refine LeO.bind ?_ (fun _ => ?_)
set_option maxHeartbeats 8000000 in
set_option maxRecDepth 100000 in
theorem impl_BestWeights.calls (k : Nat) (a0_0 : Int) (A0_1 : Option Addr) (c0_1 : Nat) (l0_1 : List Int) (a1_0 : Int) (A1_1 : Option Addr) (c1_1 : Nat) (l1_1 : List Int) (A2 : Option Addr) (c2 : Nat) (l2 : List Int) (r : List Int) (w : World) (hr0_1 : Kd.C (Kd.int .i64) w A0_1 l0_1.length l0_1) (hc0_1 : l0_1.length ≤ c0_1) (hr1_1 : Kd.C (Kd.int .i64) w A1_1 l1_1.length l1_1) (hc1_1 : l1_1.length ≤ c1_1) (hr2 : Kd.C (Kd.int .i64) w A2 l2.length l2) (hc2 : l2.length ≤ c2) (h : impl_BestWeights.f k a0_0 l0_1 a1_0 l1_1 l2 = some r) :
  Calls Try.prog 32 #[.agg #[.int .i64 a0_0, .slice A0_1 l0_1.length c0_1], .agg #[.int .i64 a1_0, .slice A1_1 l1_1.length c1_1], .slice A2 l2.length c2] w fun e w' => ∃ v0_ : Value, e = .returned (v0_) ∧ Kd.R (Kd.int .i64) 3 w' w.heap.size (fun _ => True) v0_ r ∧ Below w.heap.size w w' := by
 have hu26 := Try.underlying26
 have HR0_1 := aQ hr0_1
 have HC0_1 := aQ hc0_1
 clear hr0_1 hc0_1
 have HR1_1 := aQ hr1_1
 have HC1_1 := aQ hc1_1
 clear hr1_1 hc1_1
 have HR2 := aQ hr2
 have HC2 := aQ hc2
 clear hr2 hc2
 have HB := aQ (Below.refl w.heap.size w)
 have H : (impl_BestWeights.l0 k l2 (([] : List Int)) 0 a0_0 l0_1 a1_0 l1_1) = some r := h
 clear h
 obtain ⟨y33003, hy33003⟩ : ∃ y_ : List Int, y_ = (([] : List Int)) := ⟨_, rfl⟩
 replace H : (impl_BestWeights.l0 k l2 y33003 0 a0_0 l0_1 a1_0 l1_1) = some r := by first | (rw [hy33003]; with_reducible exact H) | (have H2_ := (Option.bind_some _ _).symm.trans H; rw [hy33003]; with_reducible exact H2_) | (have H2_ := (Option.bind_some _ _).symm.trans H; with_reducible exact H2_) | with_reducible exact H | (rw [hy33003]; exact H) | exact H
 have Ny33003 := aQ hy33003
 clear hy33003
 have H' := aQ H
 clear H
 go_enter Try.func32, Try.ntmps32
 go_wp2_with (first | ((with_reducible refine gate_dst (N := 3) rfl ?_); refine box_event ?hg (N := 3) ?hd (cs := #[.int .i64 a0_0, .slice A0_1 l0_1.length c0_1]) (t := 26) ?hr ?_; (case hd => rfl); (case hg => rfl); (case hr => first | (go_simp; done) | (go_simp; rfl)); intro gb33001 hg w4 hbox hb; have BK33001 := aQ (hbox); have GW33001 := aQ ((by rw [hg]; exact (below_size (pB HB.out)) : w.heap.size ≤ gb33001)); have GE33001 := aQ ((by rw [hg]; exact (below_size (pB HB.out)) : w.heap.size ≤ gb33001)); replace HB := aQ (below_step (pB HB.out) hb); clear hb hbox hg) | ((with_reducible refine gate_dst (N := 4) rfl ?_); refine box_event ?hg (N := 4) ?hd (cs := #[.int .i64 a1_0, .slice A1_1 l1_1.length c1_1]) (t := 26) ?hr ?_; (case hd => rfl); (case hg => rfl); (case hr => first | (go_simp; done) | (go_simp; rfl)); intro gb33002 hg w5 hbox hb; have BK33002 := aQ (hbox); have GW33002 := aQ ((by rw [hg]; exact (below_size (pB1 HB.out GE33001.out)) : w.heap.size ≤ gb33002)); have GE33002 := aQ ((by rw [hg]; exact (below_size (pB1 HB.out GE33001.out)) : w.heap.size ≤ gb33002)); replace HB := aQ (below_step (pB1 HB.out GE33001.out) hb); have NB33001_33002 := aQ ((by rw [hg]; exact Nat.ne_of_lt (blk_lt (g := gb33001) (o := .cells #[.int .i64 a0_0, .slice A0_1 l0_1.length c0_1] 26 (0, 0)) (pk BK33001.out)) : gb33001 ≠ gb33002)); have NB33002_33001 := aQ ((by rw [hg]; exact Nat.ne_of_gt (blk_lt (g := gb33001) (o := .cells #[.int .i64 a0_0, .slice A0_1 l0_1.length c0_1] 26 (0, 0)) (pk BK33001.out)) : gb33002 ≠ gb33001)); replace BK33001 := aQ (blk_below (g := gb33001) (o := .cells #[.int .i64 a0_0, .slice A0_1 l0_1.length c0_1] 26 (0, 0)) (pk BK33001.out) hb); clear hb hbox hg) | ((with_reducible refine gate_dst (N := 11) rfl ?_); refine Kd.R_lit (Kd.int .i64) _ 3 ?hg (N := 11) ?hd (xs := ([] : List Int)) (inner := []) (ok := fun _ => True) (okp := fun _ => True) ?hr ?hp (fun _ hk => hk) trivial (Below.refl _ _) (Nat.le_refl _) (by simp) ?_; (case hd => rfl); (case hg => rfl); (case hr => first | (go_simp; done) | (go_simp; rfl)); (case hp => exact (Reps.none _ _)); intro v33004 w6 ho7 hb hg_ hnew_; clear hg_ hnew_; (first | rw [← Ny33003.out] at ho7 | (simp only [Int.reduceToNat] at ho7; rw [← Ny33003.out] at ho7)); have HO33005 := aQ (Kd.R_lower ho7 (below_size (pB2 HB.out GE33001.out GE33002.out))); replace BK33001 := aQ (blk_below (g := gb33001) (o := .cells #[.int .i64 a0_0, .slice A0_1 l0_1.length c0_1] 26 (0, 0)) (pk BK33001.out) hb); replace BK33002 := aQ (blk_below (g := gb33002) (o := .cells #[.int .i64 a1_0, .slice A1_1 l1_1.length c1_1] 26 (0, 0)) (pk BK33002.out) hb); replace HB := aQ (below_step (pB2 HB.out GE33001.out GE33002.out) hb); clear hb ho7))
 go_loopg [7, 8] k (fun kq v7 v8 w' => ∃ (x7_1 : List Int) (x8_1 : Int), v8 = .int .i64 x8_1 ∧ Aside0 (impl_BestWeights.l0 kq l2 x7_1 x8_1 a0_0 l0_1 a1_0 l1_1 = some r) ∧ Aside0 (kq ≤ k) ∧ Aside0 (Kd.R (Kd.int .i64) 3 w' w.heap.size (fun _ => True) v7 x7_1) ∧ Aside0 (w'.heap[gb33001]? = some (.cells #[.int .i64 a0_0, (.slice A0_1 l0_1.length c0_1)] 26 (0, 0))) ∧ Aside0 (w'.heap[gb33002]? = some (.cells #[.int .i64 a1_0, (.slice A1_1 l1_1.length c1_1)] 26 (0, 0))) ∧ Aside0 (Below w.heap.size w w'))
 case atStart => exact ⟨(y33003), (0), rs_, H', ⟨Nat.le_refl _⟩, ⟨pR HO33005.out⟩, ⟨pk BK33001.out⟩, ⟨pk BK33002.out⟩, ⟨pB2 HB.out GE33001.out GE33002.out⟩⟩
 case round =>
  clear H'
  try clear c1
  try clear c2
  try clear p2
  try clear c3
  obtain ⟨x7_1, x8_1, rfl, HA, HK1, HO_7, BK33001, BK33002, HB⟩ := hrel
  cases gk with
  | zero => exact absurd HA.out (by simp [impl_BestWeights.l0])
  | succ k1 =>
   have H := HA.out
   clear HA
   simp only [impl_BestWeights.l0] at H
   replace H := Option.bind_eq_some_iff.mp H
   obtain ⟨⟨t33006, t33007⟩, A80, H⟩ := H
   replace H : (if t33007 = true then ((impl_WeightOf.f k1 l2 t33006).bind fun t33008 => (if x7_1.length < 17592186044416 then (impl_BestWeights.l0 k1 l2 (x7_1 ++ [t33008]) (wrap64 (x8_1 + 1)) a0_0 l0_1 a1_0 l1_1) else (none))) else (some x7_1)) = some r := H
   have A8 := aQ A80
   clear A80
   by_cases c9 : t33007 = true
   ·subst c9
    have H1 : ((impl_WeightOf.f k1 l2 t33006).bind fun t33008 => (if x7_1.length < 17592186044416 then (impl_BestWeights.l0 k1 l2 (x7_1 ++ [t33008]) (wrap64 (x8_1 + 1)) a0_0 l0_1 a1_0 l1_1) else (none))) = some r := by rw [if_pos rfl] at H; exact H
    clear H
    have H := H1
    clear H1
    replace H := Option.bind_eq_some_iff.mp H
    obtain ⟨t33008, A100, H⟩ := H
    replace H : (if x7_1.length < 17592186044416 then (impl_BestWeights.l0 k1 l2 (x7_1 ++ [t33008]) (wrap64 (x8_1 + 1)) a0_0 l0_1 a1_0 l1_1) else (none)) = some r := H
    have A10 := aQ A100
    clear A100
    by_cases c11 : x7_1.length < 17592186044416
    ·rw [if_pos c11] at H
     have LMc11 := aQ c11
     clear c11
     obtain ⟨y33009, hy33009⟩ : ∃ y_ : List Int, y_ = (x7_1 ++ [t33008]) := ⟨_, rfl⟩
     replace H : (impl_BestWeights.l0 k1 l2 y33009 (wrap64 (x8_1 + 1)) a0_0 l0_1 a1_0 l1_1) = some r := by first | (rw [hy33009]; with_reducible exact H) | (have H2_ := (Option.bind_some _ _).symm.trans H; rw [hy33009]; with_reducible exact H2_) | (have H2_ := (Option.bind_some _ _).symm.trans H; with_reducible exact H2_) | with_reducible exact H | (rw [hy33009]; exact H) | exact H
     have Ny33009 := aQ hy33009
     clear hy33009
     have H' := aQ H
     clear H
     have hnb12 := NB33001_33002.out
     have hnc12 := NB33002_33001.out
     have hcz13_0 := bc (v := (.int .i64 a0_0)) BK33001.out 0
     have hcz13_1 := bc (v := (.slice A0_1 l0_1.length c0_1)) BK33001.out 1
     have hfz13_0 := blk_frozen BK33001.out 0
     have hfz13_1 := blk_frozen BK33001.out 1
     have hcz14_0 := bc (v := (.int .i64 a1_0)) BK33002.out 0
     have hcz14_1 := bc (v := (.slice A1_1 l1_1.length c1_1)) BK33002.out 1
     have hfz14_0 := blk_frozen BK33002.out 0
     have hfz14_1 := blk_frozen BK33002.out 1
     go_wp2_with (first | ((with_reducible refine gate_callee (f := 80) rfl ?_); refine goesL_ (some 19) rfl rfl Try.func80 (by kernel_rfl) rfl #[.agg #[.int .i64 a0_0, .slice A0_1 l0_1.length c0_1], .agg #[.int .i64 a1_0, .slice A1_1 l1_1.length c1_1], .slice A2 l2.length c2, .int .i64 x8_1] rfl lm ?_; (with_reducible refine (impl_BestCommon.calls k1 a0_0 _ _ l0_1 a1_0 _ _ l1_1 _ _ l2 x8_1 t33006 true _ ?side1 ?side2 ?side3 ?side4 ?side5 ?side6 A8.out).mono ?_); (case side1 => exact pC (Kd.C_below HR0_1.out HB.out)); (case side2 => exact HC0_1.out); (case side3 => exact pC (Kd.C_below HR1_1.out HB.out)); (case side4 => exact HC1_1.out); (case side5 => exact pC (Kd.C_below HR2.out HB.out)); (case side6 => exact HC2.out); rintro e w15 ⟨rfl, hb⟩; refine ⟨_, rfl, ?_⟩; replace HO_7 := aQ (Kd.R_below (pR HO_7.out) hb); replace BK33001 := aQ (blk_below (g := gb33001) (o := .cells #[.int .i64 a0_0, .slice A0_1 l0_1.length c0_1] 26 (0, 0)) (pk BK33001.out) hb); replace BK33002 := aQ (blk_below (g := gb33002) (o := .cells #[.int .i64 a1_0, .slice A1_1 l1_1.length c1_1] 26 (0, 0)) (pk BK33002.out) hb); replace HB := aQ (below_step (pB2 HB.out GE33001.out GE33002.out) hb); (try clear hb)) | ((with_reducible refine gate_callee (f := 81) rfl ?_); refine goesL_ (some 28) rfl rfl Try.func81 (by kernel_rfl) rfl #[.slice A2 l2.length c2, .int .i64 t33006] rfl lm ?_; (with_reducible refine (impl_WeightOf.calls k1 _ _ l2 t33006 t33008 _ ?side1 ?side2 A10.out).mono ?_); (case side1 => exact pC (Kd.C_below HR2.out HB.out)); (case side2 => exact HC2.out); rintro e w16 ⟨rfl, hb⟩; refine ⟨_, rfl, ?_⟩; replace HO_7 := aQ (Kd.R_below (pR HO_7.out) hb); replace BK33001 := aQ (blk_below (g := gb33001) (o := .cells #[.int .i64 a0_0, .slice A0_1 l0_1.length c0_1] 26 (0, 0)) (pk BK33001.out) hb); replace BK33002 := aQ (blk_below (g := gb33002) (o := .cells #[.int .i64 a1_0, .slice A1_1 l1_1.length c1_1] 26 (0, 0)) (pk BK33002.out) hb); replace HB := aQ (below_step (pB2 HB.out GE33001.out GE33002.out) hb); (try clear hb)) | ((with_reducible refine gate_builtin (b := .append) (xs := #[.tmp 25, .tmp 29]) rfl ?_); at_builtin; refine Kd.R_append (Kd.int .i64) (w0 := w) w.heap.size rfl (.tmp 25) (.tmp 29) 22 3 (.int .i64 0) 8 rfl Try.underlying22 info3 rfl (by decide) (by omega) u7 x7_1 t33008 [.int .i64 t33008] (fun _ => True) (fun _ => False) rfl rfl ?aP (fun _ hk => hk.elim) ?aF ?aO ?aB ?aS ?aL ?_; (case aP => exact rfl); (case aB => exact (pB2 HB.out GE33001.out GE33002.out)); (case aF => exact (fun _ _ => trivial)); (case aO => exact (pR HO_7.out)); (case aS => exact (below_size (pB2 HB.out GE33001.out GE33002.out))); (case aL => have := LMc11.out; omega); intro v33010 w17 ho hb hg hat; rw [← Ny33009.out] at ho; replace BK33001 := aQ (blk_grown (g := gb33001) (o := .cells #[.int .i64 a0_0, .slice A0_1 l0_1.length c0_1] 26 (0, 0)) (pk BK33001.out) hg (Kd.R_ne HO_7.out BK33001.out (by decide))); replace BK33002 := aQ (blk_grown (g := gb33002) (o := .cells #[.int .i64 a1_0, .slice A1_1 l1_1.length c1_1] 26 (0, 0)) (pk BK33002.out) hg (Kd.R_ne HO_7.out BK33002.out (by decide))); replace HB := aQ (hb); have HO33011 := aQ (ho); clear HO_7; clear ho hb hg hat))
     go_roundg k1
     case measure => have := HK1.out; omega
     case rel => exact ⟨(y33009), (wrap64 (x8_1 + 1)), rs_, H', ⟨by have := HK1.out; omega⟩, ⟨pR HO33011.out⟩, ⟨pk BK33001.out⟩, ⟨pk BK33002.out⟩, ⟨pB2 HB.out GE33001.out GE33002.out⟩⟩
    ·rw [if_neg c11] at H
     exact absurd H (by simp)
   ·replace c9 := Bool.eq_false_iff.mpr c9
    subst c9
    have H1 : (some x7_1) = some r := by rw [if_neg (show ¬ (false = true) by decide)] at H; exact H
    clear H
    have H := H1
    clear H1
    obtain rfl := Option.some.inj H
    have hnb18 := NB33001_33002.out
    have hnc18 := NB33002_33001.out
    have hcz19_0 := bc (v := (.int .i64 a0_0)) BK33001.out 0
    have hcz19_1 := bc (v := (.slice A0_1 l0_1.length c0_1)) BK33001.out 1
    have hfz19_0 := blk_frozen BK33001.out 0
    have hfz19_1 := blk_frozen BK33001.out 1
    have hcz20_0 := bc (v := (.int .i64 a1_0)) BK33002.out 0
    have hcz20_1 := bc (v := (.slice A1_1 l1_1.length c1_1)) BK33002.out 1
    have hfz20_0 := blk_frozen BK33002.out 0
    have hfz20_1 := blk_frozen BK33002.out 1
    go_wp2_with (first | ((with_reducible refine gate_callee (f := 80) rfl ?_); refine goesL_ (some 19) rfl rfl Try.func80 (by kernel_rfl) rfl #[.agg #[.int .i64 a0_0, .slice A0_1 l0_1.length c0_1], .agg #[.int .i64 a1_0, .slice A1_1 l1_1.length c1_1], .slice A2 l2.length c2, .int .i64 x8_1] rfl lm ?_; (with_reducible refine (impl_BestCommon.calls k1 a0_0 _ _ l0_1 a1_0 _ _ l1_1 _ _ l2 x8_1 t33006 false _ ?side1 ?side2 ?side3 ?side4 ?side5 ?side6 A8.out).mono ?_); (case side1 => exact pC (Kd.C_below HR0_1.out HB.out)); (case side2 => exact HC0_1.out); (case side3 => exact pC (Kd.C_below HR1_1.out HB.out)); (case side4 => exact HC1_1.out); (case side5 => exact pC (Kd.C_below HR2.out HB.out)); (case side6 => exact HC2.out); rintro e w21 ⟨rfl, hb⟩; refine ⟨_, rfl, ?_⟩; replace HO_7 := aQ (Kd.R_below (pR HO_7.out) hb); replace BK33001 := aQ (blk_below (g := gb33001) (o := .cells #[.int .i64 a0_0, .slice A0_1 l0_1.length c0_1] 26 (0, 0)) (pk BK33001.out) hb); replace BK33002 := aQ (blk_below (g := gb33002) (o := .cells #[.int .i64 a1_0, .slice A1_1 l1_1.length c1_1] 26 (0, 0)) (pk BK33002.out) hb); replace HB := aQ (below_step (pB2 HB.out GE33001.out GE33002.out) hb); (try clear hb)))
    go_ret
    exact ⟨_, by first | rfl | (simp [errW_none, errW_some] <;> rfl) | (simp [*, errW_none, errW_some] <;> rfl), by (with_reducible repeat (first | apply Kd.R_alloc | apply Kd.R_drewN | apply Kd.R_drew)); exact HO_7.out, pB2 HB.out GE33001.out GE33002.out⟩
end Go.Proofs.Ytagncnjllpebjaa.A
