/- The machine side of the law FnExactIsSplit, laid by a program of this work over the kit's print and contracts by hand: Go functions as Lean functions, and proofs that calls come to what these tell. Conditions: those in each theorem. -/
import Derived.Test.YtinoamehdhgpgaaMFnExactIsSplit0
import Derived.Test.YtinoamehdhgpgaaMFnExactIsSplit2
import Derived.Test.YtinoamehdhgpgaaMFnExactIsSplit3
namespace Go.Proofs.Ytinoamehdhgpgaa.A
open Go.RowKit Go.Proofs.YtinoamehdhgpgaaW.PrintWords Go.Proofs.YtinoamehdhgpgaaW.PrintLast Go.Proofs.YtinoamehdhgpgaaW.PrintMore
attribute [local go_sem] max2_int min2_int max_two min_two max_three min_three max_four min_four   -- for this text's walks alone
set_option linter.unusedVariables false
set_option linter.unusedSimpArgs false

/-! ### impl_isBestOf: function 162 -/
def impl_isBestOf.l0 : Nat → List Int → Int → List Int → Int → Int → Option (Bool)
 | 0, _, _, _, _, _ => none
 | k + 1, x1, x2, x10, x11, x12 => if x12 < x11 then (if 0 ≤ x12 then (if x12 < (x10.length : Int) then ((impl_CountOf.f (rd x10 x12)).bind fun t163006 => ((impl_CountOf.f x2).bind fun t163007 => (if t163006 = t163007 then ((impl_WeightOf.f k x1 (rd x10 x12)).bind fun t163008 => ((impl_WeightOf.f k x1 x2).bind fun t163009 => (if t163008 > t163009 then (some false) else (impl_isBestOf.l0 k x1 x2 x10 x11 (wrap64 (x12 + 1)))))) else (impl_isBestOf.l0 k x1 x2 x10 x11 (wrap64 (x12 + 1)))))) else (none)) else (none)) else (some true)
def impl_isBestOf.f (k : Nat) (a0_0 : Int) (l0_1 : List Int) (l1 : List Int) (a2 : Int) : Option (Bool) := (impl_IndependentSets.f k a0_0 l0_1).bind fun t163002 => (impl_isBestOf.l0 k l1 a2 t163002 (t163002.length : Int) 0)
theorem impl_isBestOf.mono_l : ∀ k, (∀ y0 y1 y2 y3 y4, LeO (impl_isBestOf.l0 k y0 y1 y2 y3 y4) (impl_isBestOf.l0 (k + 1) y0 y1 y2 y3 y4))
 | 0 => fun _ _ _ _ _ r h => by simp [impl_isBestOf.l0] at h
 | k + 1 => by
  have ih0 := impl_isBestOf.mono_l k
  ·intro y0 y1 y2 y3 y4
   unfold impl_isBestOf.l0
   repeat' first
   | (with_reducible exact ih0 _ _ _ _ _)
   | (with_reducible exact impl_IndependentSets.mono _ _ _)
   | (with_reducible exact impl_WeightOf.mono _ _ _)
   | (with_reducible exact LeO.refl _)
   | (with_reducible exact LeO.none _)
   | (with_reducible refine LeO.ite ?_ ?_)
   | (with_reducible refine LeO.bind ?_ (fun _ => ?_))
   | exact ih0 _ _ _ _ _
   | exact impl_IndependentSets.mono _ _ _
   | exact impl_WeightOf.mono _ _ _
   | exact LeO.none _
   | refine LeO.ite ?_ ?_
   | refine LeO.bind ?_ (fun _ => ?_)
theorem impl_isBestOf.mono : ∀ a0 a1 a2 a3 k, LeO (impl_isBestOf.f k a0 a1 a2 a3) (impl_isBestOf.f (k + 1) a0 a1 a2 a3) := by
 intro a0 a1 a2 a3 k
 have ih0 := impl_isBestOf.mono_l k
 unfold impl_isBestOf.f
 repeat' first
   | (with_reducible exact ih0 _ _ _ _ _)
   | (with_reducible exact impl_IndependentSets.mono _ _ _)
   | (with_reducible exact impl_WeightOf.mono _ _ _)
   | (with_reducible exact LeO.refl _)
   | (with_reducible exact LeO.none _)
   | (with_reducible refine LeO.ite ?_ ?_)
   | (with_reducible refine LeO.bind ?_ (fun _ => ?_))
   | exact ih0 _ _ _ _ _
   | exact impl_IndependentSets.mono _ _ _
   | exact impl_WeightOf.mono _ _ _
   | exact LeO.none _
   | refine LeO.ite ?_ ?_
   | refine LeO.bind ?_ (fun _ => ?_)
set_option maxHeartbeats 8000000 in
set_option maxRecDepth 100000 in
theorem impl_isBestOf.calls (k : Nat) (a0_0 : Int) (A0_1 : Option Addr) (c0_1 : Nat) (l0_1 : List Int) (A1 : Option Addr) (c1 : Nat) (l1 : List Int) (a2 : Int) (r : Bool) (w : World) (hr0_1 : Kd.C (Kd.int .i64) w A0_1 l0_1.length l0_1) (hc0_1 : l0_1.length ≤ c0_1) (hr1 : Kd.C (Kd.int .i64) w A1 l1.length l1) (hc1 : l1.length ≤ c1) (h : impl_isBestOf.f k a0_0 l0_1 l1 a2 = some r) :
  Calls Try.prog 162 #[.agg #[.int .i64 a0_0, .slice A0_1 l0_1.length c0_1], .slice A1 l1.length c1, .int .i64 a2] w fun e w' => e = .returned (.bool r) ∧ Below w.heap.size w w' := by
 have hu28 := Try.underlying28
 have HR0_1 := aQ hr0_1
 have HC0_1 := aQ hc0_1
 clear hr0_1 hc0_1
 have HR1 := aQ hr1
 have HC1 := aQ hc1
 clear hr1 hc1
 have HB := aQ (Below.refl w.heap.size w)
 have H : ((impl_IndependentSets.f k a0_0 l0_1).bind fun t163002 => (impl_isBestOf.l0 k l1 a2 t163002 (t163002.length : Int) 0)) = some r := h
 clear h
 replace H := Option.bind_eq_some_iff.mp H
 obtain ⟨t163002, A40, H⟩ := H
 replace H : (impl_isBestOf.l0 k l1 a2 t163002 (t163002.length : Int) 0) = some r := H
 have A4 := aQ A40
 clear A40
 have H' := aQ H
 clear H
 go_enter Try.func162, Try.ntmps162
 go_wp2_with (first | ((with_reducible refine gate_dst (N := 3) rfl ?_); refine box_event ?hg (N := 3) ?hd (cs := #[.int .i64 a0_0, .slice A0_1 l0_1.length c0_1]) (t := 28) ?hr ?_; (case hd => rfl); (case hg => rfl); (case hr => first | (go_simp; done) | (go_simp; rfl)); intro gb163001 hg w5 hbox hb; have BK163001 := aQ (hbox); have GW163001 := aQ ((by rw [hg]; exact (below_size (pB HB.out)) : w.heap.size ≤ gb163001)); have GE163001 := aQ ((by rw [hg]; exact (below_size (pB HB.out)) : w.heap.size ≤ gb163001)); replace HB := aQ (below_step (pB HB.out) hb); clear hb hbox hg; have hcz6_0 := bc (v := (.int .i64 a0_0)) BK163001.out 0; have hcz6_1 := bc (v := (.slice A0_1 l0_1.length c0_1)) BK163001.out 1; have hfz6_0 := blk_frozen BK163001.out 0; have hfz6_1 := blk_frozen BK163001.out 1) | ((with_reducible refine gate_callee (f := 160) rfl ?_); refine goesL_ (some 10) rfl rfl Try.func160 (by kernel_rfl) rfl #[.agg #[.int .i64 a0_0, .slice A0_1 l0_1.length c0_1]] rfl lm ?_; (with_reducible refine (impl_IndependentSets.calls k a0_0 _ _ l0_1 t163002 _ ?side1 ?side2 A4.out).mono ?_); (case side1 => exact pC (Kd.C_below HR0_1.out HB.out)); (case side2 => exact HC0_1.out); rintro e w7 ⟨v163003, rfl, ho0, hb⟩; refine ⟨_, rfl, ?_⟩; have HO163004 := aQ (Kd.R_lower ho0 (below_size (pB1 HB.out GE163001.out))); replace BK163001 := aQ (blk_below (g := gb163001) (o := .cells #[.int .i64 a0_0, .slice A0_1 l0_1.length c0_1] 28 (0, 0)) (pk BK163001.out) hb); replace HB := aQ (below_step (pB1 HB.out GE163001.out) hb); (try clear hb); (try clear ho0); obtain ⟨Ao8, co8, eo8⟩ := Kd.R_slice HO163004.out; subst eo8))
 go_loopg [12] k (fun kq v12 w' => ∃ (x12_1 : Int), v12 = .int .i64 x12_1 ∧ Aside0 (impl_isBestOf.l0 kq l1 a2 t163002 (t163002.length : Int) x12_1 = some r) ∧ Aside0 (kq ≤ k) ∧ Aside0 (Kd.R (Kd.int .i64) 3 w' w.heap.size (fun _ => True) (.slice Ao8 t163002.length co8) t163002) ∧ Aside0 (w'.heap[gb163001]? = some (.cells #[.int .i64 a0_0, (.slice A0_1 l0_1.length c0_1)] 28 (0, 0))) ∧ Aside0 (Below w.heap.size w w'))
 case atStart => exact ⟨(0), rs_, H', ⟨Nat.le_refl _⟩, ⟨pR HO163004.out⟩, ⟨pk BK163001.out⟩, ⟨pB1 HB.out GE163001.out⟩⟩
 case round =>
  clear H'
  try clear c1
  try clear p2
  try clear hcz6_0
  try clear hcz6_1
  try clear hfz6_0
  try clear hfz6_1
  obtain ⟨x12_1, rfl, HA, HK1, HO_10, BK163001, HB⟩ := hrel
  cases gk with
  | zero => exact absurd HA.out (by simp [impl_isBestOf.l0])
  | succ k1 =>
   have H := HA.out
   clear HA
   simp only [impl_isBestOf.l0] at H
   by_cases c9 : x12_1 < (t163002.length : Int)
   ·rw [if_pos c9] at H
    have c9b0 : decide (x12_1 < (t163002.length : Int)) = true := decide_eq_true c9
    clear c9
    by_cases c10 : 0 ≤ x12_1
    ·rw [if_pos c10] at H
     have c10b0 : decide (0 ≤ x12_1) = true := decide_eq_true c10
     clear c10
     by_cases c11 : x12_1 < (t163002.length : Int)
     ·rw [if_pos c11] at H
      have c11b0 : decide (x12_1 < (t163002.length : Int)) = true := decide_eq_true c11
      clear c11
      replace H := Option.bind_eq_some_iff.mp H
      obtain ⟨t163006, A120, H⟩ := H
      replace H : ((impl_CountOf.f a2).bind fun t163007 => (if t163006 = t163007 then ((impl_WeightOf.f k1 l1 (rd t163002 x12_1)).bind fun t163008 => ((impl_WeightOf.f k1 l1 a2).bind fun t163009 => (if t163008 > t163009 then (some false) else (impl_isBestOf.l0 k1 l1 a2 t163002 (t163002.length : Int) (wrap64 (x12_1 + 1)))))) else (impl_isBestOf.l0 k1 l1 a2 t163002 (t163002.length : Int) (wrap64 (x12_1 + 1))))) = some r := H
      have A12 := aQ A120
      clear A120
      replace H := Option.bind_eq_some_iff.mp H
      obtain ⟨t163007, A130, H⟩ := H
      replace H : (if t163006 = t163007 then ((impl_WeightOf.f k1 l1 (rd t163002 x12_1)).bind fun t163008 => ((impl_WeightOf.f k1 l1 a2).bind fun t163009 => (if t163008 > t163009 then (some false) else (impl_isBestOf.l0 k1 l1 a2 t163002 (t163002.length : Int) (wrap64 (x12_1 + 1)))))) else (impl_isBestOf.l0 k1 l1 a2 t163002 (t163002.length : Int) (wrap64 (x12_1 + 1)))) = some r := H
      have A13 := aQ A130
      clear A130
      by_cases c14 : t163006 = t163007
      ·rw [if_pos c14] at H
       have c14b0 : (t163006 == t163007) = true := beq_iff_eq.mpr c14
       have c14b1 : (t163006 != t163007) = false := bne_eq_false_iff_eq.mpr c14
       clear c14
       replace H := Option.bind_eq_some_iff.mp H
       obtain ⟨t163008, A150, H⟩ := H
       replace H : ((impl_WeightOf.f k1 l1 a2).bind fun t163009 => (if t163008 > t163009 then (some false) else (impl_isBestOf.l0 k1 l1 a2 t163002 (t163002.length : Int) (wrap64 (x12_1 + 1))))) = some r := H
       have A15 := aQ A150
       clear A150
       replace H := Option.bind_eq_some_iff.mp H
       obtain ⟨t163009, A160, H⟩ := H
       replace H : (if t163008 > t163009 then (some false) else (impl_isBestOf.l0 k1 l1 a2 t163002 (t163002.length : Int) (wrap64 (x12_1 + 1)))) = some r := H
       have A16 := aQ A160
       clear A160
       by_cases c17 : t163008 > t163009
       ·rw [if_pos c17] at H
        have c17b0 : decide (t163009 < t163008) = true := decide_eq_true c17
        clear c17
        obtain rfl := Option.some.inj H
        have p163005 : 0 ≤ (x12_1 : Int) := of_decide_eq_true as_
        have q163005 : x12_1 < (t163002.length : Int) := of_decide_eq_true as_
        obtain ⟨ad163005, e163005, hx163005_0⟩ := Kd.at_int (Kd.R_reads' HO_10.out).2.2 x12_1 p163005 q163005
        cases e163005
        replace p163005 := eq_true p163005
        replace q163005 := eq_true q163005
        go_wp2_with (first | ((with_reducible refine gate_callee (f := 120) rfl ?_); refine goesL_ (some 17) rfl rfl Try.func120 (by kernel_rfl) rfl #[.int .i64 (rd t163002 x12_1)] rfl lm ?_; (with_reducible refine (impl_CountOf.calls (rd t163002 x12_1) t163006 _ A12.out).mono ?_); rintro e w' ⟨rfl, ⟨nd, rfl⟩⟩; refine ⟨_, rfl, ?_⟩) | ((with_reducible refine gate_callee (f := 120) rfl ?_); refine goesL_ (some 19) rfl rfl Try.func120 (by kernel_rfl) rfl #[.int .i64 a2] rfl lm ?_; (with_reducible refine (impl_CountOf.calls a2 t163007 _ A13.out).mono ?_); rintro e w' ⟨rfl, ⟨nd, rfl⟩⟩; refine ⟨_, rfl, ?_⟩) | (go_at_call 137; (with_reducible refine (impl_WeightOf.calls k1 _ _ l1 (rd t163002 x12_1) t163008 _ ?side1 ?side2 A15.out).mono ?_); (case side1 => repeat (first | exact (Kd.C_below HR1.out (pB1 HB.out GE163001.out)) | (with_reducible refine Kd.C_alloc ?_ _) | (with_reducible refine Kd.C_drewN ?_ _) | (with_reducible refine Kd.C_drew ?_))); (case side2 => exact HC1.out); rintro e w18 ⟨rfl, hb⟩; replace HO_10 := aQ (Kd.R_below (pR HO_10.out) hb); replace BK163001 := aQ (blk_below (g := gb163001) (o := .cells #[.int .i64 a0_0, .slice A0_1 l0_1.length c0_1] 28 (0, 0)) (pk BK163001.out) hb); replace HB := aQ (below_step (pB1 HB.out GE163001.out) hb); (try clear hb)) | (go_at_call 137; (with_reducible refine (impl_WeightOf.calls k1 _ _ l1 a2 t163009 _ ?side1 ?side2 A16.out).mono ?_); (case side1 => exact pC (Kd.C_below HR1.out HB.out)); (case side2 => exact HC1.out); rintro e w19 ⟨rfl, hb⟩; replace HO_10 := aQ (Kd.R_below (pR HO_10.out) hb); replace BK163001 := aQ (blk_below (g := gb163001) (o := .cells #[.int .i64 a0_0, .slice A0_1 l0_1.length c0_1] 28 (0, 0)) (pk BK163001.out) hb); replace HB := aQ (below_step (pB1 HB.out GE163001.out) hb); (try clear hb)))
        go_ret
        exact ⟨re_, pB1 HB.out GE163001.out⟩
       ·rw [if_neg c17] at H
        have c17b0 : decide (t163009 < t163008) = false := decide_eq_false c17
        clear c17
        have H' := aQ H
        clear H
        have p163005 : 0 ≤ (x12_1 : Int) := of_decide_eq_true as_
        have q163005 : x12_1 < (t163002.length : Int) := of_decide_eq_true as_
        obtain ⟨ad163005, e163005, hx163005_0⟩ := Kd.at_int (Kd.R_reads' HO_10.out).2.2 x12_1 p163005 q163005
        cases e163005
        replace p163005 := eq_true p163005
        replace q163005 := eq_true q163005
        go_wp2_with (first | ((with_reducible refine gate_callee (f := 120) rfl ?_); refine goesL_ (some 17) rfl rfl Try.func120 (by kernel_rfl) rfl #[.int .i64 (rd t163002 x12_1)] rfl lm ?_; (with_reducible refine (impl_CountOf.calls (rd t163002 x12_1) t163006 _ A12.out).mono ?_); rintro e w' ⟨rfl, ⟨nd, rfl⟩⟩; refine ⟨_, rfl, ?_⟩) | ((with_reducible refine gate_callee (f := 120) rfl ?_); refine goesL_ (some 19) rfl rfl Try.func120 (by kernel_rfl) rfl #[.int .i64 a2] rfl lm ?_; (with_reducible refine (impl_CountOf.calls a2 t163007 _ A13.out).mono ?_); rintro e w' ⟨rfl, ⟨nd, rfl⟩⟩; refine ⟨_, rfl, ?_⟩) | (go_at_call 137; (with_reducible refine (impl_WeightOf.calls k1 _ _ l1 (rd t163002 x12_1) t163008 _ ?side1 ?side2 A15.out).mono ?_); (case side1 => repeat (first | exact (Kd.C_below HR1.out (pB1 HB.out GE163001.out)) | (with_reducible refine Kd.C_alloc ?_ _) | (with_reducible refine Kd.C_drewN ?_ _) | (with_reducible refine Kd.C_drew ?_))); (case side2 => exact HC1.out); rintro e w20 ⟨rfl, hb⟩; replace HO_10 := aQ (Kd.R_below (pR HO_10.out) hb); replace BK163001 := aQ (blk_below (g := gb163001) (o := .cells #[.int .i64 a0_0, .slice A0_1 l0_1.length c0_1] 28 (0, 0)) (pk BK163001.out) hb); replace HB := aQ (below_step (pB1 HB.out GE163001.out) hb); (try clear hb)) | (go_at_call 137; (with_reducible refine (impl_WeightOf.calls k1 _ _ l1 a2 t163009 _ ?side1 ?side2 A16.out).mono ?_); (case side1 => exact pC (Kd.C_below HR1.out HB.out)); (case side2 => exact HC1.out); rintro e w21 ⟨rfl, hb⟩; replace HO_10 := aQ (Kd.R_below (pR HO_10.out) hb); replace BK163001 := aQ (blk_below (g := gb163001) (o := .cells #[.int .i64 a0_0, .slice A0_1 l0_1.length c0_1] 28 (0, 0)) (pk BK163001.out) hb); replace HB := aQ (below_step (pB1 HB.out GE163001.out) hb); (try clear hb)))
        go_roundg k1
        case measure => have := HK1.out; omega
        case rel => exact ⟨(wrap64 (x12_1 + 1)), rs_, H', ⟨by have := HK1.out; omega⟩, ⟨pR HO_10.out⟩, ⟨pk BK163001.out⟩, ⟨pB1 HB.out GE163001.out⟩⟩
      ·rw [if_neg c14] at H
       have c14b0 : (t163006 == t163007) = false := beq_eq_false_iff_ne.mpr c14
       have c14b1 : (t163006 != t163007) = true := bne_iff_ne.mpr c14
       have H' := aQ H
       clear H
       have p163005 : 0 ≤ (x12_1 : Int) := of_decide_eq_true as_
       have q163005 : x12_1 < (t163002.length : Int) := of_decide_eq_true as_
       obtain ⟨ad163005, e163005, hx163005_0⟩ := Kd.at_int (Kd.R_reads' HO_10.out).2.2 x12_1 p163005 q163005
       cases e163005
       replace p163005 := eq_true p163005
       replace q163005 := eq_true q163005
       go_wp2_with (first | ((with_reducible refine gate_callee (f := 120) rfl ?_); refine goesL_ (some 17) rfl rfl Try.func120 (by kernel_rfl) rfl #[.int .i64 (rd t163002 x12_1)] rfl lm ?_; (with_reducible refine (impl_CountOf.calls (rd t163002 x12_1) t163006 _ A12.out).mono ?_); rintro e w' ⟨rfl, ⟨nd, rfl⟩⟩; refine ⟨_, rfl, ?_⟩) | ((with_reducible refine gate_callee (f := 120) rfl ?_); refine goesL_ (some 19) rfl rfl Try.func120 (by kernel_rfl) rfl #[.int .i64 a2] rfl lm ?_; (with_reducible refine (impl_CountOf.calls a2 t163007 _ A13.out).mono ?_); rintro e w' ⟨rfl, ⟨nd, rfl⟩⟩; refine ⟨_, rfl, ?_⟩))
       go_roundg k1
       case measure => have := HK1.out; omega
       case rel => exact ⟨(wrap64 (x12_1 + 1)), rs_, H', ⟨by have := HK1.out; omega⟩, ⟨pR HO_10.out⟩, ⟨pk BK163001.out⟩, ⟨pB1 HB.out GE163001.out⟩⟩
     ·rw [if_neg c11] at H
      exact absurd H (by simp)
    ·rw [if_neg c10] at H
     exact absurd H (by simp)
   ·rw [if_neg c9] at H
    have c9b0 : decide (x12_1 < (t163002.length : Int)) = false := decide_eq_false c9
    clear c9
    obtain rfl := Option.some.inj H
    go_wp2
    go_ret
    exact ⟨re_, pB1 HB.out GE163001.out⟩
/-! ### impl_IsSplit: function 67 -/
def impl_IsSplit.f (k : Nat) (a0_0 : Int) (l0_1 : List Int) (a1_0 : Int) (l1_1 : List Int) (l2 : List Int) (l3 : List Int) (a4 : Int) : Option (Bool) := (impl_IsCommon.f k a0_0 l0_1 a1_0 l1_1 a4).bind fun t68003 => (if t68003 = true then ((impl_AreWeights.f k a0_0 l2).bind fun t68004 => (if t68004 = true then ((impl_AreWeights.f k a0_0 l3).bind fun t68005 => (if t68005 = true then ((impl_isBestOf.f k a0_0 l0_1 l2 a4).bind fun t68006 => (if t68006 = true then ((impl_isBestOf.f k a1_0 l1_1 l3 a4).bind fun t68007 => (some t68007)) else (some false))) else (some false))) else (some false))) else (some false))
theorem impl_IsSplit.mono : ∀ a0 a1 a2 a3 a4 a5 a6 k, LeO (impl_IsSplit.f k a0 a1 a2 a3 a4 a5 a6) (impl_IsSplit.f (k + 1) a0 a1 a2 a3 a4 a5 a6) := by
 intro a0 a1 a2 a3 a4 a5 a6 k
 unfold impl_IsSplit.f
 repeat' first
   | (with_reducible exact impl_AreWeights.mono _ _ _)
   | (with_reducible exact impl_IsCommon.mono _ _ _ _ _ _)
   | (with_reducible exact impl_isBestOf.mono _ _ _ _ _)
   | (with_reducible exact LeO.refl _)
   | (with_reducible exact LeO.none _)
   | (with_reducible refine LeO.ite ?_ ?_)
   | (with_reducible refine LeO.bind ?_ (fun _ => ?_))
   | exact impl_AreWeights.mono _ _ _
   | exact impl_IsCommon.mono _ _ _ _ _ _
   | exact impl_isBestOf.mono _ _ _ _ _
   | exact LeO.none _
   | refine LeO.ite ?_ ?_
   | refine LeO.bind ?_ (fun _ => ?_)
set_option maxHeartbeats 8000000 in
set_option maxRecDepth 100000 in
theorem impl_IsSplit.calls (k : Nat) (a0_0 : Int) (A0_1 : Option Addr) (c0_1 : Nat) (l0_1 : List Int) (a1_0 : Int) (A1_1 : Option Addr) (c1_1 : Nat) (l1_1 : List Int) (A2 : Option Addr) (c2 : Nat) (l2 : List Int) (A3 : Option Addr) (c3 : Nat) (l3 : List Int) (a4 : Int) (r : Bool) (w : World) (hr0_1 : Kd.C (Kd.int .i64) w A0_1 l0_1.length l0_1) (hc0_1 : l0_1.length ≤ c0_1) (hr1_1 : Kd.C (Kd.int .i64) w A1_1 l1_1.length l1_1) (hc1_1 : l1_1.length ≤ c1_1) (hr2 : Kd.C (Kd.int .i64) w A2 l2.length l2) (hc2 : l2.length ≤ c2) (hr3 : Kd.C (Kd.int .i64) w A3 l3.length l3) (hc3 : l3.length ≤ c3) (h : impl_IsSplit.f k a0_0 l0_1 a1_0 l1_1 l2 l3 a4 = some r) :
  Calls Try.prog 67 #[.agg #[.int .i64 a0_0, .slice A0_1 l0_1.length c0_1], .agg #[.int .i64 a1_0, .slice A1_1 l1_1.length c1_1], .slice A2 l2.length c2, .slice A3 l3.length c3, .int .i64 a4] w fun e w' => e = .returned (.bool r) ∧ Below w.heap.size w w' := by
 have hu28 := Try.underlying28
 have HR0_1 := aQ hr0_1
 have HC0_1 := aQ hc0_1
 clear hr0_1 hc0_1
 have HR1_1 := aQ hr1_1
 have HC1_1 := aQ hc1_1
 clear hr1_1 hc1_1
 have HR2 := aQ hr2
 have HC2 := aQ hc2
 clear hr2 hc2
 have HR3 := aQ hr3
 have HC3 := aQ hc3
 clear hr3 hc3
 have HB := aQ (Below.refl w.heap.size w)
 have H : ((impl_IsCommon.f k a0_0 l0_1 a1_0 l1_1 a4).bind fun t68003 => (if t68003 = true then ((impl_AreWeights.f k a0_0 l2).bind fun t68004 => (if t68004 = true then ((impl_AreWeights.f k a0_0 l3).bind fun t68005 => (if t68005 = true then ((impl_isBestOf.f k a0_0 l0_1 l2 a4).bind fun t68006 => (if t68006 = true then ((impl_isBestOf.f k a1_0 l1_1 l3 a4).bind fun t68007 => (some t68007)) else (some false))) else (some false))) else (some false))) else (some false))) = some r := h
 clear h
 replace H := Option.bind_eq_some_iff.mp H
 obtain ⟨t68003, A60, H⟩ := H
 replace H : (if t68003 = true then ((impl_AreWeights.f k a0_0 l2).bind fun t68004 => (if t68004 = true then ((impl_AreWeights.f k a0_0 l3).bind fun t68005 => (if t68005 = true then ((impl_isBestOf.f k a0_0 l0_1 l2 a4).bind fun t68006 => (if t68006 = true then ((impl_isBestOf.f k a1_0 l1_1 l3 a4).bind fun t68007 => (some t68007)) else (some false))) else (some false))) else (some false))) else (some false)) = some r := H
 have A6 := aQ A60
 clear A60
 by_cases c7 : t68003 = true
 ·subst c7
  have H1 : ((impl_AreWeights.f k a0_0 l2).bind fun t68004 => (if t68004 = true then ((impl_AreWeights.f k a0_0 l3).bind fun t68005 => (if t68005 = true then ((impl_isBestOf.f k a0_0 l0_1 l2 a4).bind fun t68006 => (if t68006 = true then ((impl_isBestOf.f k a1_0 l1_1 l3 a4).bind fun t68007 => (some t68007)) else (some false))) else (some false))) else (some false))) = some r := by rw [if_pos rfl] at H; exact H
  clear H
  have H := H1
  clear H1
  replace H := Option.bind_eq_some_iff.mp H
  obtain ⟨t68004, A80, H⟩ := H
  replace H : (if t68004 = true then ((impl_AreWeights.f k a0_0 l3).bind fun t68005 => (if t68005 = true then ((impl_isBestOf.f k a0_0 l0_1 l2 a4).bind fun t68006 => (if t68006 = true then ((impl_isBestOf.f k a1_0 l1_1 l3 a4).bind fun t68007 => (some t68007)) else (some false))) else (some false))) else (some false)) = some r := H
  have A8 := aQ A80
  clear A80
  by_cases c9 : t68004 = true
  ·subst c9
   have H1 : ((impl_AreWeights.f k a0_0 l3).bind fun t68005 => (if t68005 = true then ((impl_isBestOf.f k a0_0 l0_1 l2 a4).bind fun t68006 => (if t68006 = true then ((impl_isBestOf.f k a1_0 l1_1 l3 a4).bind fun t68007 => (some t68007)) else (some false))) else (some false))) = some r := by rw [if_pos rfl] at H; exact H
   clear H
   have H := H1
   clear H1
   replace H := Option.bind_eq_some_iff.mp H
   obtain ⟨t68005, A100, H⟩ := H
   replace H : (if t68005 = true then ((impl_isBestOf.f k a0_0 l0_1 l2 a4).bind fun t68006 => (if t68006 = true then ((impl_isBestOf.f k a1_0 l1_1 l3 a4).bind fun t68007 => (some t68007)) else (some false))) else (some false)) = some r := H
   have A10 := aQ A100
   clear A100
   by_cases c11 : t68005 = true
   ·subst c11
    have H1 : ((impl_isBestOf.f k a0_0 l0_1 l2 a4).bind fun t68006 => (if t68006 = true then ((impl_isBestOf.f k a1_0 l1_1 l3 a4).bind fun t68007 => (some t68007)) else (some false))) = some r := by rw [if_pos rfl] at H; exact H
    clear H
    have H := H1
    clear H1
    replace H := Option.bind_eq_some_iff.mp H
    obtain ⟨t68006, A120, H⟩ := H
    replace H : (if t68006 = true then ((impl_isBestOf.f k a1_0 l1_1 l3 a4).bind fun t68007 => (some t68007)) else (some false)) = some r := H
    have A12 := aQ A120
    clear A120
    by_cases c13 : t68006 = true
    ·subst c13
     have H1 : ((impl_isBestOf.f k a1_0 l1_1 l3 a4).bind fun t68007 => (some t68007)) = some r := by rw [if_pos rfl] at H; exact H
     clear H
     have H := H1
     clear H1
     replace H := Option.bind_eq_some_iff.mp H
     obtain ⟨t68007, A140, H⟩ := H
     replace H : (some t68007) = some r := H
     have A14 := aQ A140
     clear A140
     obtain rfl := Option.some.inj H
     go_enter Try.func67, Try.ntmps67
     go_wp2_with (first | ((with_reducible refine gate_dst (N := 5) rfl ?_); refine box_event ?hg (N := 5) ?hd (cs := #[.int .i64 a0_0, .slice A0_1 l0_1.length c0_1]) (t := 28) ?hr ?_; (case hd => rfl); (case hg => rfl); (case hr => first | (go_simp; done) | (go_simp; rfl)); intro gb68001 hg w15 hbox hb; have BK68001 := aQ (hbox); have GW68001 := aQ ((by rw [hg]; exact (below_size (pB HB.out)) : w.heap.size ≤ gb68001)); have GE68001 := aQ ((by rw [hg]; exact (below_size (pB HB.out)) : w.heap.size ≤ gb68001)); replace HB := aQ (below_step (pB HB.out) hb); clear hb hbox hg) | ((with_reducible refine gate_dst (N := 6) rfl ?_); refine box_event ?hg (N := 6) ?hd (cs := #[.int .i64 a1_0, .slice A1_1 l1_1.length c1_1]) (t := 28) ?hr ?_; (case hd => rfl); (case hg => rfl); (case hr => first | (go_simp; done) | (go_simp; rfl)); intro gb68002 hg w16 hbox hb; have BK68002 := aQ (hbox); have GW68002 := aQ ((by rw [hg]; exact (below_size (pB1 HB.out GE68001.out)) : w.heap.size ≤ gb68002)); have GE68002 := aQ ((by rw [hg]; exact (below_size (pB1 HB.out GE68001.out)) : w.heap.size ≤ gb68002)); replace HB := aQ (below_step (pB1 HB.out GE68001.out) hb); have NB68001_68002 := aQ ((by rw [hg]; exact Nat.ne_of_lt (blk_lt (g := gb68001) (o := .cells #[.int .i64 a0_0, .slice A0_1 l0_1.length c0_1] 28 (0, 0)) (pk BK68001.out)) : gb68001 ≠ gb68002)); have NB68002_68001 := aQ ((by rw [hg]; exact Nat.ne_of_gt (blk_lt (g := gb68001) (o := .cells #[.int .i64 a0_0, .slice A0_1 l0_1.length c0_1] 28 (0, 0)) (pk BK68001.out)) : gb68002 ≠ gb68001)); replace BK68001 := aQ (blk_below (g := gb68001) (o := .cells #[.int .i64 a0_0, .slice A0_1 l0_1.length c0_1] 28 (0, 0)) (pk BK68001.out) hb); clear hb hbox hg; have hnb17 := NB68001_68002.out; have hnc17 := NB68002_68001.out; have hcz18_0 := bc (v := (.int .i64 a0_0)) BK68001.out 0; have hcz18_1 := bc (v := (.slice A0_1 l0_1.length c0_1)) BK68001.out 1; have hfz18_0 := blk_frozen BK68001.out 0; have hfz18_1 := blk_frozen BK68001.out 1; have hcz19_0 := bc (v := (.int .i64 a1_0)) BK68002.out 0; have hcz19_1 := bc (v := (.slice A1_1 l1_1.length c1_1)) BK68002.out 1; have hfz19_0 := blk_frozen BK68002.out 0; have hfz19_1 := blk_frozen BK68002.out 1) | ((with_reducible refine gate_callee (f := 145) rfl ?_); refine goesL_ (some 14) rfl rfl Try.func145 (by kernel_rfl) rfl #[.agg #[.int .i64 a0_0, .slice A0_1 l0_1.length c0_1], .agg #[.int .i64 a1_0, .slice A1_1 l1_1.length c1_1], .int .i64 a4] rfl lm ?_; (with_reducible refine (impl_IsCommon.calls k a0_0 _ _ l0_1 a1_0 _ _ l1_1 a4 true _ ?side1 ?side2 ?side3 ?side4 A6.out).mono ?_); (case side1 => exact pC (Kd.C_below HR0_1.out HB.out)); (case side2 => exact HC0_1.out); (case side3 => exact pC (Kd.C_below HR1_1.out HB.out)); (case side4 => exact HC1_1.out); rintro e w20 ⟨rfl, hb⟩; refine ⟨_, rfl, ?_⟩; replace BK68001 := aQ (blk_below (g := gb68001) (o := .cells #[.int .i64 a0_0, .slice A0_1 l0_1.length c0_1] 28 (0, 0)) (pk BK68001.out) hb); replace BK68002 := aQ (blk_below (g := gb68002) (o := .cells #[.int .i64 a1_0, .slice A1_1 l1_1.length c1_1] 28 (0, 0)) (pk BK68002.out) hb); replace HB := aQ (below_step (pB2 HB.out GE68001.out GE68002.out) hb); (try clear hb); have hcz21_0 := bc (v := (.int .i64 a0_0)) BK68001.out 0; have hcz21_1 := bc (v := (.slice A0_1 l0_1.length c0_1)) BK68001.out 1; have hfz21_0 := blk_frozen BK68001.out 0; have hfz21_1 := blk_frozen BK68001.out 1) | (go_at_call 133; (with_reducible refine (impl_AreWeights.calls k a0_0 _ _ l2 true _ ?side1 ?side2 A8.out).mono ?_); (case side1 => exact pC (Kd.C_below HR2.out HB.out)); (case side2 => exact HC2.out); rintro e w' ⟨rfl, ⟨nd, rfl⟩⟩) | (go_at_call 133; (with_reducible refine (impl_AreWeights.calls k a0_0 _ _ l3 true _ ?side1 ?side2 A10.out).mono ?_); (case side1 => repeat (first | exact (Kd.C_below HR3.out (pB2 HB.out GE68001.out GE68002.out)) | (with_reducible refine Kd.C_alloc ?_ _) | (with_reducible refine Kd.C_drewN ?_ _) | (with_reducible refine Kd.C_drew ?_))); (case side2 => exact HC3.out); rintro e w' ⟨rfl, ⟨nd, rfl⟩⟩) | (go_at_call 162; (with_reducible refine (impl_isBestOf.calls k a0_0 _ _ l0_1 _ _ l2 a4 true _ ?side1 ?side2 ?side3 ?side4 A12.out).mono ?_); (case side1 => repeat (first | exact (Kd.C_below HR0_1.out (pB2 HB.out GE68001.out GE68002.out)) | (with_reducible refine Kd.C_alloc ?_ _) | (with_reducible refine Kd.C_drewN ?_ _) | (with_reducible refine Kd.C_drew ?_))); (case side2 => exact HC0_1.out); (case side3 => repeat (first | exact (Kd.C_below HR2.out (pB2 HB.out GE68001.out GE68002.out)) | (with_reducible refine Kd.C_alloc ?_ _) | (with_reducible refine Kd.C_drewN ?_ _) | (with_reducible refine Kd.C_drew ?_))); (case side4 => exact HC2.out); rintro e w22 ⟨rfl, hb⟩; replace BK68001 := aQ (blk_below (g := gb68001) (o := .cells #[.int .i64 a0_0, .slice A0_1 l0_1.length c0_1] 28 (0, 0)) (pk BK68001.out) hb); replace BK68002 := aQ (blk_below (g := gb68002) (o := .cells #[.int .i64 a1_0, .slice A1_1 l1_1.length c1_1] 28 (0, 0)) (pk BK68002.out) hb); replace HB := aQ (below_step (pB2 HB.out GE68001.out GE68002.out) hb); (try clear hb); have hcz23_0 := bc (v := (.int .i64 a1_0)) BK68002.out 0; have hcz23_1 := bc (v := (.slice A1_1 l1_1.length c1_1)) BK68002.out 1; have hfz23_0 := blk_frozen BK68002.out 0; have hfz23_1 := blk_frozen BK68002.out 1) | (go_at_call 162; (with_reducible refine (impl_isBestOf.calls k a1_0 _ _ l1_1 _ _ l3 a4 t68007 _ ?side1 ?side2 ?side3 ?side4 A14.out).mono ?_); (case side1 => exact pC (Kd.C_below HR1_1.out HB.out)); (case side2 => exact HC1_1.out); (case side3 => exact pC (Kd.C_below HR3.out HB.out)); (case side4 => exact HC3.out); rintro e w24 ⟨rfl, hb⟩; replace BK68001 := aQ (blk_below (g := gb68001) (o := .cells #[.int .i64 a0_0, .slice A0_1 l0_1.length c0_1] 28 (0, 0)) (pk BK68001.out) hb); replace BK68002 := aQ (blk_below (g := gb68002) (o := .cells #[.int .i64 a1_0, .slice A1_1 l1_1.length c1_1] 28 (0, 0)) (pk BK68002.out) hb); replace HB := aQ (below_step (pB2 HB.out GE68001.out GE68002.out) hb); (try clear hb)))
     go_ret
     exact ⟨re_, pB2 HB.out GE68001.out GE68002.out⟩
    ·replace c13 := Bool.eq_false_iff.mpr c13
     subst c13
     have H1 : (some false) = some r := by rw [if_neg (show ¬ (false = true) by decide)] at H; exact H
     clear H
     have H := H1
     clear H1
     obtain rfl := Option.some.inj H
     go_enter Try.func67, Try.ntmps67
     go_wp2_with (first | ((with_reducible refine gate_dst (N := 5) rfl ?_); refine box_event ?hg (N := 5) ?hd (cs := #[.int .i64 a0_0, .slice A0_1 l0_1.length c0_1]) (t := 28) ?hr ?_; (case hd => rfl); (case hg => rfl); (case hr => first | (go_simp; done) | (go_simp; rfl)); intro gb68001 hg w25 hbox hb; have BK68001 := aQ (hbox); have GW68001 := aQ ((by rw [hg]; exact (below_size (pB HB.out)) : w.heap.size ≤ gb68001)); have GE68001 := aQ ((by rw [hg]; exact (below_size (pB HB.out)) : w.heap.size ≤ gb68001)); replace HB := aQ (below_step (pB HB.out) hb); clear hb hbox hg) | ((with_reducible refine gate_dst (N := 6) rfl ?_); refine box_event ?hg (N := 6) ?hd (cs := #[.int .i64 a1_0, .slice A1_1 l1_1.length c1_1]) (t := 28) ?hr ?_; (case hd => rfl); (case hg => rfl); (case hr => first | (go_simp; done) | (go_simp; rfl)); intro gb68002 hg w26 hbox hb; have BK68002 := aQ (hbox); have GW68002 := aQ ((by rw [hg]; exact (below_size (pB1 HB.out GE68001.out)) : w.heap.size ≤ gb68002)); have GE68002 := aQ ((by rw [hg]; exact (below_size (pB1 HB.out GE68001.out)) : w.heap.size ≤ gb68002)); replace HB := aQ (below_step (pB1 HB.out GE68001.out) hb); have NB68001_68002 := aQ ((by rw [hg]; exact Nat.ne_of_lt (blk_lt (g := gb68001) (o := .cells #[.int .i64 a0_0, .slice A0_1 l0_1.length c0_1] 28 (0, 0)) (pk BK68001.out)) : gb68001 ≠ gb68002)); have NB68002_68001 := aQ ((by rw [hg]; exact Nat.ne_of_gt (blk_lt (g := gb68001) (o := .cells #[.int .i64 a0_0, .slice A0_1 l0_1.length c0_1] 28 (0, 0)) (pk BK68001.out)) : gb68002 ≠ gb68001)); replace BK68001 := aQ (blk_below (g := gb68001) (o := .cells #[.int .i64 a0_0, .slice A0_1 l0_1.length c0_1] 28 (0, 0)) (pk BK68001.out) hb); clear hb hbox hg; have hnb27 := NB68001_68002.out; have hnc27 := NB68002_68001.out; have hcz28_0 := bc (v := (.int .i64 a0_0)) BK68001.out 0; have hcz28_1 := bc (v := (.slice A0_1 l0_1.length c0_1)) BK68001.out 1; have hfz28_0 := blk_frozen BK68001.out 0; have hfz28_1 := blk_frozen BK68001.out 1; have hcz29_0 := bc (v := (.int .i64 a1_0)) BK68002.out 0; have hcz29_1 := bc (v := (.slice A1_1 l1_1.length c1_1)) BK68002.out 1; have hfz29_0 := blk_frozen BK68002.out 0; have hfz29_1 := blk_frozen BK68002.out 1) | ((with_reducible refine gate_callee (f := 145) rfl ?_); refine goesL_ (some 14) rfl rfl Try.func145 (by kernel_rfl) rfl #[.agg #[.int .i64 a0_0, .slice A0_1 l0_1.length c0_1], .agg #[.int .i64 a1_0, .slice A1_1 l1_1.length c1_1], .int .i64 a4] rfl lm ?_; (with_reducible refine (impl_IsCommon.calls k a0_0 _ _ l0_1 a1_0 _ _ l1_1 a4 true _ ?side1 ?side2 ?side3 ?side4 A6.out).mono ?_); (case side1 => exact pC (Kd.C_below HR0_1.out HB.out)); (case side2 => exact HC0_1.out); (case side3 => exact pC (Kd.C_below HR1_1.out HB.out)); (case side4 => exact HC1_1.out); rintro e w30 ⟨rfl, hb⟩; refine ⟨_, rfl, ?_⟩; replace BK68001 := aQ (blk_below (g := gb68001) (o := .cells #[.int .i64 a0_0, .slice A0_1 l0_1.length c0_1] 28 (0, 0)) (pk BK68001.out) hb); replace BK68002 := aQ (blk_below (g := gb68002) (o := .cells #[.int .i64 a1_0, .slice A1_1 l1_1.length c1_1] 28 (0, 0)) (pk BK68002.out) hb); replace HB := aQ (below_step (pB2 HB.out GE68001.out GE68002.out) hb); (try clear hb); have hcz31_0 := bc (v := (.int .i64 a0_0)) BK68001.out 0; have hcz31_1 := bc (v := (.slice A0_1 l0_1.length c0_1)) BK68001.out 1; have hfz31_0 := blk_frozen BK68001.out 0; have hfz31_1 := blk_frozen BK68001.out 1) | (go_at_call 133; (with_reducible refine (impl_AreWeights.calls k a0_0 _ _ l2 true _ ?side1 ?side2 A8.out).mono ?_); (case side1 => exact pC (Kd.C_below HR2.out HB.out)); (case side2 => exact HC2.out); rintro e w' ⟨rfl, ⟨nd, rfl⟩⟩) | (go_at_call 133; (with_reducible refine (impl_AreWeights.calls k a0_0 _ _ l3 true _ ?side1 ?side2 A10.out).mono ?_); (case side1 => repeat (first | exact (Kd.C_below HR3.out (pB2 HB.out GE68001.out GE68002.out)) | (with_reducible refine Kd.C_alloc ?_ _) | (with_reducible refine Kd.C_drewN ?_ _) | (with_reducible refine Kd.C_drew ?_))); (case side2 => exact HC3.out); rintro e w' ⟨rfl, ⟨nd, rfl⟩⟩) | (go_at_call 162; (with_reducible refine (impl_isBestOf.calls k a0_0 _ _ l0_1 _ _ l2 a4 false _ ?side1 ?side2 ?side3 ?side4 A12.out).mono ?_); (case side1 => repeat (first | exact (Kd.C_below HR0_1.out (pB2 HB.out GE68001.out GE68002.out)) | (with_reducible refine Kd.C_alloc ?_ _) | (with_reducible refine Kd.C_drewN ?_ _) | (with_reducible refine Kd.C_drew ?_))); (case side2 => exact HC0_1.out); (case side3 => repeat (first | exact (Kd.C_below HR2.out (pB2 HB.out GE68001.out GE68002.out)) | (with_reducible refine Kd.C_alloc ?_ _) | (with_reducible refine Kd.C_drewN ?_ _) | (with_reducible refine Kd.C_drew ?_))); (case side4 => exact HC2.out); rintro e w32 ⟨rfl, hb⟩; replace BK68001 := aQ (blk_below (g := gb68001) (o := .cells #[.int .i64 a0_0, .slice A0_1 l0_1.length c0_1] 28 (0, 0)) (pk BK68001.out) hb); replace BK68002 := aQ (blk_below (g := gb68002) (o := .cells #[.int .i64 a1_0, .slice A1_1 l1_1.length c1_1] 28 (0, 0)) (pk BK68002.out) hb); replace HB := aQ (below_step (pB2 HB.out GE68001.out GE68002.out) hb); (try clear hb)))
     go_ret
     exact ⟨re_, pB2 HB.out GE68001.out GE68002.out⟩
   ·replace c11 := Bool.eq_false_iff.mpr c11
    subst c11
    have H1 : (some false) = some r := by rw [if_neg (show ¬ (false = true) by decide)] at H; exact H
    clear H
    have H := H1
    clear H1
    obtain rfl := Option.some.inj H
    go_enter Try.func67, Try.ntmps67
    go_wp2_with (first | ((with_reducible refine gate_dst (N := 5) rfl ?_); refine box_event ?hg (N := 5) ?hd (cs := #[.int .i64 a0_0, .slice A0_1 l0_1.length c0_1]) (t := 28) ?hr ?_; (case hd => rfl); (case hg => rfl); (case hr => first | (go_simp; done) | (go_simp; rfl)); intro gb68001 hg w33 hbox hb; have BK68001 := aQ (hbox); have GW68001 := aQ ((by rw [hg]; exact (below_size (pB HB.out)) : w.heap.size ≤ gb68001)); have GE68001 := aQ ((by rw [hg]; exact (below_size (pB HB.out)) : w.heap.size ≤ gb68001)); replace HB := aQ (below_step (pB HB.out) hb); clear hb hbox hg) | ((with_reducible refine gate_dst (N := 6) rfl ?_); refine box_event ?hg (N := 6) ?hd (cs := #[.int .i64 a1_0, .slice A1_1 l1_1.length c1_1]) (t := 28) ?hr ?_; (case hd => rfl); (case hg => rfl); (case hr => first | (go_simp; done) | (go_simp; rfl)); intro gb68002 hg w34 hbox hb; have BK68002 := aQ (hbox); have GW68002 := aQ ((by rw [hg]; exact (below_size (pB1 HB.out GE68001.out)) : w.heap.size ≤ gb68002)); have GE68002 := aQ ((by rw [hg]; exact (below_size (pB1 HB.out GE68001.out)) : w.heap.size ≤ gb68002)); replace HB := aQ (below_step (pB1 HB.out GE68001.out) hb); have NB68001_68002 := aQ ((by rw [hg]; exact Nat.ne_of_lt (blk_lt (g := gb68001) (o := .cells #[.int .i64 a0_0, .slice A0_1 l0_1.length c0_1] 28 (0, 0)) (pk BK68001.out)) : gb68001 ≠ gb68002)); have NB68002_68001 := aQ ((by rw [hg]; exact Nat.ne_of_gt (blk_lt (g := gb68001) (o := .cells #[.int .i64 a0_0, .slice A0_1 l0_1.length c0_1] 28 (0, 0)) (pk BK68001.out)) : gb68002 ≠ gb68001)); replace BK68001 := aQ (blk_below (g := gb68001) (o := .cells #[.int .i64 a0_0, .slice A0_1 l0_1.length c0_1] 28 (0, 0)) (pk BK68001.out) hb); clear hb hbox hg; have hnb35 := NB68001_68002.out; have hnc35 := NB68002_68001.out; have hcz36_0 := bc (v := (.int .i64 a0_0)) BK68001.out 0; have hcz36_1 := bc (v := (.slice A0_1 l0_1.length c0_1)) BK68001.out 1; have hfz36_0 := blk_frozen BK68001.out 0; have hfz36_1 := blk_frozen BK68001.out 1; have hcz37_0 := bc (v := (.int .i64 a1_0)) BK68002.out 0; have hcz37_1 := bc (v := (.slice A1_1 l1_1.length c1_1)) BK68002.out 1; have hfz37_0 := blk_frozen BK68002.out 0; have hfz37_1 := blk_frozen BK68002.out 1) | ((with_reducible refine gate_callee (f := 145) rfl ?_); refine goesL_ (some 14) rfl rfl Try.func145 (by kernel_rfl) rfl #[.agg #[.int .i64 a0_0, .slice A0_1 l0_1.length c0_1], .agg #[.int .i64 a1_0, .slice A1_1 l1_1.length c1_1], .int .i64 a4] rfl lm ?_; (with_reducible refine (impl_IsCommon.calls k a0_0 _ _ l0_1 a1_0 _ _ l1_1 a4 true _ ?side1 ?side2 ?side3 ?side4 A6.out).mono ?_); (case side1 => exact pC (Kd.C_below HR0_1.out HB.out)); (case side2 => exact HC0_1.out); (case side3 => exact pC (Kd.C_below HR1_1.out HB.out)); (case side4 => exact HC1_1.out); rintro e w38 ⟨rfl, hb⟩; refine ⟨_, rfl, ?_⟩; replace BK68001 := aQ (blk_below (g := gb68001) (o := .cells #[.int .i64 a0_0, .slice A0_1 l0_1.length c0_1] 28 (0, 0)) (pk BK68001.out) hb); replace BK68002 := aQ (blk_below (g := gb68002) (o := .cells #[.int .i64 a1_0, .slice A1_1 l1_1.length c1_1] 28 (0, 0)) (pk BK68002.out) hb); replace HB := aQ (below_step (pB2 HB.out GE68001.out GE68002.out) hb); (try clear hb); have hcz39_0 := bc (v := (.int .i64 a0_0)) BK68001.out 0; have hcz39_1 := bc (v := (.slice A0_1 l0_1.length c0_1)) BK68001.out 1; have hfz39_0 := blk_frozen BK68001.out 0; have hfz39_1 := blk_frozen BK68001.out 1) | (go_at_call 133; (with_reducible refine (impl_AreWeights.calls k a0_0 _ _ l2 true _ ?side1 ?side2 A8.out).mono ?_); (case side1 => exact pC (Kd.C_below HR2.out HB.out)); (case side2 => exact HC2.out); rintro e w' ⟨rfl, ⟨nd, rfl⟩⟩) | (go_at_call 133; (with_reducible refine (impl_AreWeights.calls k a0_0 _ _ l3 false _ ?side1 ?side2 A10.out).mono ?_); (case side1 => repeat (first | exact (Kd.C_below HR3.out (pB2 HB.out GE68001.out GE68002.out)) | (with_reducible refine Kd.C_alloc ?_ _) | (with_reducible refine Kd.C_drewN ?_ _) | (with_reducible refine Kd.C_drew ?_))); (case side2 => exact HC3.out); rintro e w' ⟨rfl, ⟨nd, rfl⟩⟩))
    go_ret
    exact ⟨re_, pB2 HB.out GE68001.out GE68002.out⟩
  ·replace c9 := Bool.eq_false_iff.mpr c9
   subst c9
   have H1 : (some false) = some r := by rw [if_neg (show ¬ (false = true) by decide)] at H; exact H
   clear H
   have H := H1
   clear H1
   obtain rfl := Option.some.inj H
   go_enter Try.func67, Try.ntmps67
   go_wp2_with (first | ((with_reducible refine gate_dst (N := 5) rfl ?_); refine box_event ?hg (N := 5) ?hd (cs := #[.int .i64 a0_0, .slice A0_1 l0_1.length c0_1]) (t := 28) ?hr ?_; (case hd => rfl); (case hg => rfl); (case hr => first | (go_simp; done) | (go_simp; rfl)); intro gb68001 hg w40 hbox hb; have BK68001 := aQ (hbox); have GW68001 := aQ ((by rw [hg]; exact (below_size (pB HB.out)) : w.heap.size ≤ gb68001)); have GE68001 := aQ ((by rw [hg]; exact (below_size (pB HB.out)) : w.heap.size ≤ gb68001)); replace HB := aQ (below_step (pB HB.out) hb); clear hb hbox hg) | ((with_reducible refine gate_dst (N := 6) rfl ?_); refine box_event ?hg (N := 6) ?hd (cs := #[.int .i64 a1_0, .slice A1_1 l1_1.length c1_1]) (t := 28) ?hr ?_; (case hd => rfl); (case hg => rfl); (case hr => first | (go_simp; done) | (go_simp; rfl)); intro gb68002 hg w41 hbox hb; have BK68002 := aQ (hbox); have GW68002 := aQ ((by rw [hg]; exact (below_size (pB1 HB.out GE68001.out)) : w.heap.size ≤ gb68002)); have GE68002 := aQ ((by rw [hg]; exact (below_size (pB1 HB.out GE68001.out)) : w.heap.size ≤ gb68002)); replace HB := aQ (below_step (pB1 HB.out GE68001.out) hb); have NB68001_68002 := aQ ((by rw [hg]; exact Nat.ne_of_lt (blk_lt (g := gb68001) (o := .cells #[.int .i64 a0_0, .slice A0_1 l0_1.length c0_1] 28 (0, 0)) (pk BK68001.out)) : gb68001 ≠ gb68002)); have NB68002_68001 := aQ ((by rw [hg]; exact Nat.ne_of_gt (blk_lt (g := gb68001) (o := .cells #[.int .i64 a0_0, .slice A0_1 l0_1.length c0_1] 28 (0, 0)) (pk BK68001.out)) : gb68002 ≠ gb68001)); replace BK68001 := aQ (blk_below (g := gb68001) (o := .cells #[.int .i64 a0_0, .slice A0_1 l0_1.length c0_1] 28 (0, 0)) (pk BK68001.out) hb); clear hb hbox hg; have hnb42 := NB68001_68002.out; have hnc42 := NB68002_68001.out; have hcz43_0 := bc (v := (.int .i64 a0_0)) BK68001.out 0; have hcz43_1 := bc (v := (.slice A0_1 l0_1.length c0_1)) BK68001.out 1; have hfz43_0 := blk_frozen BK68001.out 0; have hfz43_1 := blk_frozen BK68001.out 1; have hcz44_0 := bc (v := (.int .i64 a1_0)) BK68002.out 0; have hcz44_1 := bc (v := (.slice A1_1 l1_1.length c1_1)) BK68002.out 1; have hfz44_0 := blk_frozen BK68002.out 0; have hfz44_1 := blk_frozen BK68002.out 1) | ((with_reducible refine gate_callee (f := 145) rfl ?_); refine goesL_ (some 14) rfl rfl Try.func145 (by kernel_rfl) rfl #[.agg #[.int .i64 a0_0, .slice A0_1 l0_1.length c0_1], .agg #[.int .i64 a1_0, .slice A1_1 l1_1.length c1_1], .int .i64 a4] rfl lm ?_; (with_reducible refine (impl_IsCommon.calls k a0_0 _ _ l0_1 a1_0 _ _ l1_1 a4 true _ ?side1 ?side2 ?side3 ?side4 A6.out).mono ?_); (case side1 => exact pC (Kd.C_below HR0_1.out HB.out)); (case side2 => exact HC0_1.out); (case side3 => exact pC (Kd.C_below HR1_1.out HB.out)); (case side4 => exact HC1_1.out); rintro e w45 ⟨rfl, hb⟩; refine ⟨_, rfl, ?_⟩; replace BK68001 := aQ (blk_below (g := gb68001) (o := .cells #[.int .i64 a0_0, .slice A0_1 l0_1.length c0_1] 28 (0, 0)) (pk BK68001.out) hb); replace BK68002 := aQ (blk_below (g := gb68002) (o := .cells #[.int .i64 a1_0, .slice A1_1 l1_1.length c1_1] 28 (0, 0)) (pk BK68002.out) hb); replace HB := aQ (below_step (pB2 HB.out GE68001.out GE68002.out) hb); (try clear hb); have hcz46_0 := bc (v := (.int .i64 a0_0)) BK68001.out 0; have hcz46_1 := bc (v := (.slice A0_1 l0_1.length c0_1)) BK68001.out 1; have hfz46_0 := blk_frozen BK68001.out 0; have hfz46_1 := blk_frozen BK68001.out 1) | (go_at_call 133; (with_reducible refine (impl_AreWeights.calls k a0_0 _ _ l2 false _ ?side1 ?side2 A8.out).mono ?_); (case side1 => exact pC (Kd.C_below HR2.out HB.out)); (case side2 => exact HC2.out); rintro e w' ⟨rfl, ⟨nd, rfl⟩⟩))
   go_ret
   exact ⟨re_, pB2 HB.out GE68001.out GE68002.out⟩
 ·replace c7 := Bool.eq_false_iff.mpr c7
  subst c7
  have H1 : (some false) = some r := by rw [if_neg (show ¬ (false = true) by decide)] at H; exact H
  clear H
  have H := H1
  clear H1
  obtain rfl := Option.some.inj H
  go_enter Try.func67, Try.ntmps67
  go_wp2_with (first | ((with_reducible refine gate_dst (N := 5) rfl ?_); refine box_event ?hg (N := 5) ?hd (cs := #[.int .i64 a0_0, .slice A0_1 l0_1.length c0_1]) (t := 28) ?hr ?_; (case hd => rfl); (case hg => rfl); (case hr => first | (go_simp; done) | (go_simp; rfl)); intro gb68001 hg w47 hbox hb; have BK68001 := aQ (hbox); have GW68001 := aQ ((by rw [hg]; exact (below_size (pB HB.out)) : w.heap.size ≤ gb68001)); have GE68001 := aQ ((by rw [hg]; exact (below_size (pB HB.out)) : w.heap.size ≤ gb68001)); replace HB := aQ (below_step (pB HB.out) hb); clear hb hbox hg) | ((with_reducible refine gate_dst (N := 6) rfl ?_); refine box_event ?hg (N := 6) ?hd (cs := #[.int .i64 a1_0, .slice A1_1 l1_1.length c1_1]) (t := 28) ?hr ?_; (case hd => rfl); (case hg => rfl); (case hr => first | (go_simp; done) | (go_simp; rfl)); intro gb68002 hg w48 hbox hb; have BK68002 := aQ (hbox); have GW68002 := aQ ((by rw [hg]; exact (below_size (pB1 HB.out GE68001.out)) : w.heap.size ≤ gb68002)); have GE68002 := aQ ((by rw [hg]; exact (below_size (pB1 HB.out GE68001.out)) : w.heap.size ≤ gb68002)); replace HB := aQ (below_step (pB1 HB.out GE68001.out) hb); have NB68001_68002 := aQ ((by rw [hg]; exact Nat.ne_of_lt (blk_lt (g := gb68001) (o := .cells #[.int .i64 a0_0, .slice A0_1 l0_1.length c0_1] 28 (0, 0)) (pk BK68001.out)) : gb68001 ≠ gb68002)); have NB68002_68001 := aQ ((by rw [hg]; exact Nat.ne_of_gt (blk_lt (g := gb68001) (o := .cells #[.int .i64 a0_0, .slice A0_1 l0_1.length c0_1] 28 (0, 0)) (pk BK68001.out)) : gb68002 ≠ gb68001)); replace BK68001 := aQ (blk_below (g := gb68001) (o := .cells #[.int .i64 a0_0, .slice A0_1 l0_1.length c0_1] 28 (0, 0)) (pk BK68001.out) hb); clear hb hbox hg; have hnb49 := NB68001_68002.out; have hnc49 := NB68002_68001.out; have hcz50_0 := bc (v := (.int .i64 a0_0)) BK68001.out 0; have hcz50_1 := bc (v := (.slice A0_1 l0_1.length c0_1)) BK68001.out 1; have hfz50_0 := blk_frozen BK68001.out 0; have hfz50_1 := blk_frozen BK68001.out 1; have hcz51_0 := bc (v := (.int .i64 a1_0)) BK68002.out 0; have hcz51_1 := bc (v := (.slice A1_1 l1_1.length c1_1)) BK68002.out 1; have hfz51_0 := blk_frozen BK68002.out 0; have hfz51_1 := blk_frozen BK68002.out 1) | ((with_reducible refine gate_callee (f := 145) rfl ?_); refine goesL_ (some 14) rfl rfl Try.func145 (by kernel_rfl) rfl #[.agg #[.int .i64 a0_0, .slice A0_1 l0_1.length c0_1], .agg #[.int .i64 a1_0, .slice A1_1 l1_1.length c1_1], .int .i64 a4] rfl lm ?_; (with_reducible refine (impl_IsCommon.calls k a0_0 _ _ l0_1 a1_0 _ _ l1_1 a4 false _ ?side1 ?side2 ?side3 ?side4 A6.out).mono ?_); (case side1 => exact pC (Kd.C_below HR0_1.out HB.out)); (case side2 => exact HC0_1.out); (case side3 => exact pC (Kd.C_below HR1_1.out HB.out)); (case side4 => exact HC1_1.out); rintro e w52 ⟨rfl, hb⟩; refine ⟨_, rfl, ?_⟩; replace BK68001 := aQ (blk_below (g := gb68001) (o := .cells #[.int .i64 a0_0, .slice A0_1 l0_1.length c0_1] 28 (0, 0)) (pk BK68001.out) hb); replace BK68002 := aQ (blk_below (g := gb68002) (o := .cells #[.int .i64 a1_0, .slice A1_1 l1_1.length c1_1] 28 (0, 0)) (pk BK68002.out) hb); replace HB := aQ (below_step (pB2 HB.out GE68001.out GE68002.out) hb); (try clear hb)))
  go_ret
  exact ⟨re_, pB2 HB.out GE68001.out GE68002.out⟩
end Go.Proofs.Ytinoamehdhgpgaa.A
