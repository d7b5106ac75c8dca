/- Machine side of the law FnExactAllCuts: Go functions as Lean functions, and proofs that calls come to what these tell. Conditions: those in each theorem. -/
import Derived.Test.YtbdloopelidneaaMFnExactAllCuts0
import Derived.Test.YtbdloopelidneaaMFnExactAllCuts1
namespace Go.Proofs.Ytbdloopelidneaa.A
open Go.RowKit Go.Proofs.YtbdloopelidneaaW.PrintWords Go.Proofs.YtbdloopelidneaaW.PrintLast Go.Proofs.YtbdloopelidneaaW.PrintMore
attribute [local go_sem] max2_int min2_int max_two min_two max_three min_three max_four min_four
set_option linter.unusedVariables false
set_option linter.unusedSimpArgs false
/-! ### spec_l7Flats: function 28 -/
def spec_l7Flats.l0 : Nat → List Int → Int → Int → List Int → Option (List Int)
 | 0, _, _, _, _ => none
 | k + 1, x3, x4, x29002000, x29002001 => (spec_FullSet.f x29002000).bind fun t29005 => (if x4 ≤ t29005 then ((spec_l5Closure.f k x29002000 x29002001 x4).bind fun t29006 => (if t29006 = x4 then (if x3.length < 17592186044416 then (spec_l7Flats.l0 k (x3 ++ [x4]) (wrap64 (x4 + 1)) x29002000 x29002001) else (none)) else (spec_l7Flats.l0 k x3 (wrap64 (x4 + 1)) x29002000 x29002001))) else (some x3))
def spec_l7Flats.f (k : Nat) (a0_0 : Int) (l0_1 : List Int) : Option (List Int) := spec_l7Flats.l0 k (([] : List Int)) 0 a0_0 l0_1
theorem spec_l7Flats.mono_l : ∀ k, (∀ y0 y1 y2 y3, LeO (spec_l7Flats.l0 k y0 y1 y2 y3) (spec_l7Flats.l0 (k + 1) y0 y1 y2 y3))
 | 0 => fun _ _ _ _ r h => by simp [spec_l7Flats.l0] at h
 | k + 1 => by
  have ih0 := spec_l7Flats.mono_l k
  ·intro y0 y1 y2 y3
   unfold spec_l7Flats.l0
   repeat' first
   | (with_reducible exact ih0 _ _ _ _)
   | (with_reducible exact spec_l5Closure.mono _ _ _ _)
   | (with_reducible exact LeO.refl _)
   | (with_reducible exact LeO.none _)
   | (with_reducible refine LeO.ite ?_ ?_)
   | (with_reducible refine LeO.bind ?_ (fun _ => ?_))
   | exact ih0 _ _ _ _
   | exact spec_l5Closure.mono _ _ _ _
   | exact LeO.none _
   | refine LeO.ite ?_ ?_
   | refine LeO.bind ?_ (fun _ => ?_)
theorem spec_l7Flats.mono : ∀ a0 a1 k, LeO (spec_l7Flats.f k a0 a1) (spec_l7Flats.f (k + 1) a0 a1) := by
 intro a0 a1 k
 have ih0 := spec_l7Flats.mono_l k
 unfold spec_l7Flats.f
 repeat' first
   | (with_reducible exact ih0 _ _ _ _)
   | (with_reducible exact spec_l5Closure.mono _ _ _ _)
   | (with_reducible exact LeO.refl _)
   | (with_reducible exact LeO.none _)
   | (with_reducible refine LeO.ite ?_ ?_)
   | (with_reducible refine LeO.bind ?_ (fun _ => ?_))
   | exact ih0 _ _ _ _
   | exact spec_l5Closure.mono _ _ _ _
   | exact LeO.none _
   | refine LeO.ite ?_ ?_
   | refine LeO.bind ?_ (fun _ => ?_)
set_option maxHeartbeats 8000000 in
set_option maxRecDepth 100000 in
theorem spec_l7Flats.calls (k : Nat) (a0_0 : Int) (A0_1 : Option Addr) (c0_1 : Nat) (l0_1 : List Int) (r : List Int) (w : World) (hr0_1 : Kd.C (Kd.int .i64) w A0_1 l0_1.length l0_1) (hc0_1 : l0_1.length ≤ c0_1) (h : spec_l7Flats.f k a0_0 l0_1 = some r) :
  Calls Try.prog 28 #[.agg #[.int .i64 a0_0, .slice A0_1 l0_1.length c0_1]] w fun e w' => ∃ v0_ : Value, e = .returned (v0_) ∧ Kd.R (Kd.int .i64) 3 w' w.heap.size (fun _ => True) v0_ r ∧ Below w.heap.size w w' := by
 have hu28 := Try.underlying28
 have HR0_1 := aQ hr0_1
 have HC0_1 := aQ hc0_1
 clear hr0_1 hc0_1
 have HB := aQ (Below.refl w.heap.size w)
 have H : (spec_l7Flats.l0 k (([] : List Int)) 0 a0_0 l0_1) = some r := h
 clear h
 obtain ⟨y29002, hy29002⟩ : ∃ y_ : List Int, y_ = (([] : List Int)) := ⟨_, rfl⟩
 replace H : (spec_l7Flats.l0 k y29002 0 a0_0 l0_1) = some r := by first | (rw [hy29002]; with_reducible exact H) | (have H2_ := (Option.bind_some _ _).symm.trans H; rw [hy29002]; with_reducible exact H2_) | (have H2_ := (Option.bind_some _ _).symm.trans H; with_reducible exact H2_) | with_reducible exact H | (rw [hy29002]; exact H) | exact H
 have Ny29002 := aQ hy29002
 clear hy29002
 have H' := aQ H
 clear H
 go_enter Try.func28, Try.ntmps28
 go_wp2_with (first | ((with_reducible refine gate_dst (N := 1) rfl ?_); refine box_event ?hg (N := 1) ?hd (cs := #[.int .i64 a0_0, .slice A0_1 l0_1.length c0_1]) (t := 28) ?hr ?_; (case hd => rfl); (case hg => rfl); (case hr => first | (go_simp; done) | (go_simp; rfl)); intro gb29001 hg w2 hbox hb; have BK29001 := aQ (hbox); have GW29001 := aQ ((by rw [hg]; exact (below_size (pB HB.out)) : w.heap.size ≤ gb29001)); have GE29001 := aQ ((by rw [hg]; exact (below_size (pB HB.out)) : w.heap.size ≤ gb29001)); replace HB := aQ (below_step (pB HB.out) hb); clear hb hbox hg) | ((with_reducible refine gate_dst (N := 5) rfl ?_); refine Kd.R_lit (Kd.int .i64) _ 3 ?hg (N := 5) ?hd (xs := ([] : List Int)) (inner := []) (ok := fun _ => True) (okp := fun _ => True) ?hr ?hp (fun _ hk => hk) trivial (Below.refl _ _) (Nat.le_refl _) (by simp) ?_; (case hd => rfl); (case hg => rfl); (case hr => first | (go_simp; done) | (go_simp; rfl)); (case hp => exact (Reps.none _ _)); intro v29003 w3 ho4 hb hg_ hnew_; clear hg_ hnew_; (first | rw [← Ny29002.out] at ho4 | (simp only [Int.reduceToNat] at ho4; rw [← Ny29002.out] at ho4)); have HO29004 := aQ (Kd.R_lower ho4 (below_size (pB1 HB.out GE29001.out))); replace BK29001 := aQ (blk_below (g := gb29001) (o := .cells #[.int .i64 a0_0, .slice A0_1 l0_1.length c0_1] 28 (0, 0)) (pk BK29001.out) hb); replace HB := aQ (below_step (pB1 HB.out GE29001.out) hb); clear hb ho4))
 go_loopg [3, 4] k (fun kq v3 v4 w' => ∃ (x3_1 : List Int) (x4_1 : Int), v4 = .int .i64 x4_1 ∧ Aside0 (spec_l7Flats.l0 kq x3_1 x4_1 a0_0 l0_1 = some r) ∧ Aside0 (kq ≤ k) ∧ Aside0 (Kd.R (Kd.int .i64) 3 w' w.heap.size (fun _ => True) v3 x3_1) ∧ Aside0 (w'.heap[gb29001]? = some (.cells #[.int .i64 a0_0, (.slice A0_1 l0_1.length c0_1)] 28 (0, 0))) ∧ Aside0 (Below w.heap.size w w'))
 case atStart => exact ⟨(y29002), (0), rs_, H', ⟨Nat.le_refl _⟩, ⟨pR HO29004.out⟩, ⟨pk BK29001.out⟩, ⟨pB1 HB.out GE29001.out⟩⟩
 case round =>
  clear H'
  try clear c2
  try clear p2
  obtain ⟨x3_1, x4_1, rfl, HA, HK1, HO_3, BK29001, HB⟩ := hrel
  cases gk with
  | zero => exact absurd HA.out (by simp [spec_l7Flats.l0])
  | succ k1 =>
   have H := HA.out
   clear HA
   simp only [spec_l7Flats.l0] at H
   replace H := Option.bind_eq_some_iff.mp H
   obtain ⟨t29005, A50, H⟩ := H
   replace H : (if x4_1 ≤ t29005 then ((spec_l5Closure.f k1 a0_0 l0_1 x4_1).bind fun t29006 => (if t29006 = x4_1 then (if x3_1.length < 17592186044416 then (spec_l7Flats.l0 k1 (x3_1 ++ [x4_1]) (wrap64 (x4_1 + 1)) a0_0 l0_1) else (none)) else (spec_l7Flats.l0 k1 x3_1 (wrap64 (x4_1 + 1)) a0_0 l0_1))) else (some x3_1)) = some r := H
   have A5 := aQ A50
   clear A50
   by_cases c6 : x4_1 ≤ t29005
   ·rw [if_pos c6] at H
    have c6b0 : decide (x4_1 ≤ t29005) = true := decide_eq_true c6
    clear c6
    replace H := Option.bind_eq_some_iff.mp H
    obtain ⟨t29006, A70, H⟩ := H
    replace H : (if t29006 = x4_1 then (if x3_1.length < 17592186044416 then (spec_l7Flats.l0 k1 (x3_1 ++ [x4_1]) (wrap64 (x4_1 + 1)) a0_0 l0_1) else (none)) else (spec_l7Flats.l0 k1 x3_1 (wrap64 (x4_1 + 1)) a0_0 l0_1)) = some r := H
    have A7 := aQ A70
    clear A70
    by_cases c8 : t29006 = x4_1
    ·rw [if_pos c8] at H
     have c8b0 : (t29006 == x4_1) = true := beq_iff_eq.mpr c8
     have c8b1 : (t29006 != x4_1) = false := bne_eq_false_iff_eq.mpr c8
     clear c8
     by_cases c9 : x3_1.length < 17592186044416
     ·rw [if_pos c9] at H
      have LMc9 := aQ c9
      clear c9
      obtain ⟨y29007, hy29007⟩ : ∃ y_ : List Int, y_ = (x3_1 ++ [x4_1]) := ⟨_, rfl⟩
      replace H : (spec_l7Flats.l0 k1 y29007 (wrap64 (x4_1 + 1)) a0_0 l0_1) = some r := by first | (rw [hy29007]; with_reducible exact H) | (have H2_ := (Option.bind_some _ _).symm.trans H; rw [hy29007]; with_reducible exact H2_) | (have H2_ := (Option.bind_some _ _).symm.trans H; with_reducible exact H2_) | with_reducible exact H | (rw [hy29007]; exact H) | exact H
      have Ny29007 := aQ hy29007
      clear hy29007
      have H' := aQ H
      clear H
      have hcz10_0 := bc (v := (.int .i64 a0_0)) BK29001.out 0
      have hcz10_1 := bc (v := (.slice A0_1 l0_1.length c0_1)) BK29001.out 1
      have hfz10_0 := blk_frozen BK29001.out 0
      have hfz10_1 := blk_frozen BK29001.out 1
      go_wp2_with (first | ((with_reducible refine gate_callee (f := 42) rfl ?_); refine goesL_ (some 9) rfl rfl Try.func42 (by kernel_rfl) rfl #[.int .i64 a0_0] rfl lm ?_; (with_reducible refine (spec_FullSet.calls a0_0 t29005 _ A5.out).mono ?_); rintro e w' ⟨rfl, ⟨nd, rfl⟩⟩; refine ⟨_, rfl, ?_⟩) | ((with_reducible refine gate_callee (f := 43) rfl ?_); refine goesL_ (some 15) rfl rfl Try.func43 (by kernel_rfl) rfl #[.agg #[.int .i64 a0_0, .slice A0_1 l0_1.length c0_1], .int .i64 x4_1] rfl lm ?_; (with_reducible refine (spec_l5Closure.calls k1 a0_0 _ _ l0_1 x4_1 t29006 _ ?side1 ?side2 A7.out).mono ?_); (case side1 => repeat (first | exact (Kd.C_below HR0_1.out (pB1 HB.out GE29001.out)) | (with_reducible refine Kd.C_alloc ?_ _) | (with_reducible refine Kd.C_drewN ?_ _) | (with_reducible refine Kd.C_drew ?_))); (case side2 => exact HC0_1.out); rintro e w11 ⟨rfl, hb⟩; refine ⟨_, rfl, ?_⟩; replace HO_3 := aQ (Kd.R_below (pR HO_3.out) hb); replace BK29001 := aQ (blk_below (g := gb29001) (o := .cells #[.int .i64 a0_0, .slice A0_1 l0_1.length c0_1] 28 (0, 0)) (pk BK29001.out) hb); replace HB := aQ (below_step (pB1 HB.out GE29001.out) hb); (try clear hb)) | ((with_reducible refine gate_builtin (b := .append) (xs := #[.tmp 18, .tmp 20]) rfl ?_); at_builtin; refine Kd.R_append (Kd.int .i64) (w0 := w) w.heap.size rfl (.tmp 18) (.tmp 20) 22 3 (.int .i64 0) 8 rfl Try.underlying22 info3 rfl (by decide) (by omega) u3 x3_1 x4_1 [.int .i64 x4_1] (fun _ => True) (fun _ => False) rfl rfl ?aP (fun _ hk => hk.elim) ?aF ?aO ?aB ?aS ?aL ?_; (case aP => exact rfl); (case aB => exact (pB1 HB.out GE29001.out)); (case aF => exact (fun _ _ => trivial)); (case aO => exact (pR HO_3.out)); (case aS => exact (below_size (pB1 HB.out GE29001.out))); (case aL => have := LMc9.out; omega); intro v29008 w12 ho hb hg hat; rw [← Ny29007.out] at ho; replace BK29001 := aQ (blk_grown (g := gb29001) (o := .cells #[.int .i64 a0_0, .slice A0_1 l0_1.length c0_1] 28 (0, 0)) (pk BK29001.out) hg (Kd.R_ne HO_3.out BK29001.out (by decide))); replace HB := aQ (hb); have HO29009 := aQ (ho); clear HO_3; clear ho hb hg hat))
      go_roundg k1
      case measure => have := HK1.out; omega
      case rel => exact ⟨(y29007), (wrap64 (x4_1 + 1)), rs_, H', ⟨by have := HK1.out; omega⟩, ⟨pR HO29009.out⟩, ⟨pk BK29001.out⟩, ⟨pB1 HB.out GE29001.out⟩⟩
     ·rw [if_neg c9] at H
      exact absurd H (by simp)
    ·rw [if_neg c8] at H
     have c8b0 : (t29006 == x4_1) = false := beq_eq_false_iff_ne.mpr c8
     have c8b1 : (t29006 != x4_1) = true := bne_iff_ne.mpr c8
     have H' := aQ H
     clear H
     have hcz13_0 := bc (v := (.int .i64 a0_0)) BK29001.out 0
     have hcz13_1 := bc (v := (.slice A0_1 l0_1.length c0_1)) BK29001.out 1
     have hfz13_0 := blk_frozen BK29001.out 0
     have hfz13_1 := blk_frozen BK29001.out 1
     go_wp2_with (first | ((with_reducible refine gate_callee (f := 42) rfl ?_); refine goesL_ (some 9) rfl rfl Try.func42 (by kernel_rfl) rfl #[.int .i64 a0_0] rfl lm ?_; (with_reducible refine (spec_FullSet.calls a0_0 t29005 _ A5.out).mono ?_); rintro e w' ⟨rfl, ⟨nd, rfl⟩⟩; refine ⟨_, rfl, ?_⟩) | ((with_reducible refine gate_callee (f := 43) rfl ?_); refine goesL_ (some 15) rfl rfl Try.func43 (by kernel_rfl) rfl #[.agg #[.int .i64 a0_0, .slice A0_1 l0_1.length c0_1], .int .i64 x4_1] rfl lm ?_; (with_reducible refine (spec_l5Closure.calls k1 a0_0 _ _ l0_1 x4_1 t29006 _ ?side1 ?side2 A7.out).mono ?_); (case side1 => repeat (first | exact (Kd.C_below HR0_1.out (pB1 HB.out GE29001.out)) | (with_reducible refine Kd.C_alloc ?_ _) | (with_reducible refine Kd.C_drewN ?_ _) | (with_reducible refine Kd.C_drew ?_))); (case side2 => exact HC0_1.out); rintro e w14 ⟨rfl, hb⟩; refine ⟨_, rfl, ?_⟩; replace HO_3 := aQ (Kd.R_below (pR HO_3.out) hb); replace BK29001 := aQ (blk_below (g := gb29001) (o := .cells #[.int .i64 a0_0, .slice A0_1 l0_1.length c0_1] 28 (0, 0)) (pk BK29001.out) hb); replace HB := aQ (below_step (pB1 HB.out GE29001.out) hb); (try clear hb)))
     go_roundg k1
     case measure => have := HK1.out; omega
     case rel => exact ⟨(x3_1), (wrap64 (x4_1 + 1)), rs_, H', ⟨by have := HK1.out; omega⟩, ⟨pR HO_3.out⟩, ⟨pk BK29001.out⟩, ⟨pB1 HB.out GE29001.out⟩⟩
   ·rw [if_neg c6] at H
    have c6b0 : decide (x4_1 ≤ t29005) = false := decide_eq_false c6
    clear c6
    obtain rfl := Option.some.inj H
    have hcz15_0 := bc (v := (.int .i64 a0_0)) BK29001.out 0
    have hcz15_1 := bc (v := (.slice A0_1 l0_1.length c0_1)) BK29001.out 1
    have hfz15_0 := blk_frozen BK29001.out 0
    have hfz15_1 := blk_frozen BK29001.out 1
    go_wp2_with (first | ((with_reducible refine gate_callee (f := 42) rfl ?_); refine goesL_ (some 9) rfl rfl Try.func42 (by kernel_rfl) rfl #[.int .i64 a0_0] rfl lm ?_; (with_reducible refine (spec_FullSet.calls a0_0 t29005 _ A5.out).mono ?_); rintro e w' ⟨rfl, ⟨nd, rfl⟩⟩; refine ⟨_, rfl, ?_⟩))
    go_ret
    exact ⟨_, by first | rfl | (simp [errW_none, errW_some] <;> rfl) | (simp [*, errW_none, errW_some] <;> rfl), by (with_reducible repeat (first | apply Kd.R_alloc | apply Kd.R_drewN | apply Kd.R_drew)); exact HO_3.out, pB1 HB.out GE29001.out⟩
/-! ### spec_Flats: function 14 -/
def spec_Flats.f (k : Nat) (a0_0 : Int) (l0_1 : List Int) : Option (List Int) := (spec_IsMatroid.f k a0_0 l0_1).bind fun t15002 => (if t15002 = true then ((spec_l7Flats.f k a0_0 l0_1).bind fun t15003 => (some t15003)) else (some (([] : List Int))))
theorem spec_Flats.mono : ∀ a0 a1 k, LeO (spec_Flats.f k a0 a1) (spec_Flats.f (k + 1) a0 a1) := by
 intro a0 a1 k
 unfold spec_Flats.f
 repeat' first
   | (with_reducible exact spec_IsMatroid.mono _ _ _)
   | (with_reducible exact spec_l7Flats.mono _ _ _)
   | (with_reducible exact LeO.refl _)
   | (with_reducible exact LeO.none _)
   | (with_reducible refine LeO.ite ?_ ?_)
   | (with_reducible refine LeO.bind ?_ (fun _ => ?_))
   | exact spec_IsMatroid.mono _ _ _
   | exact spec_l7Flats.mono _ _ _
   | exact LeO.none _
   | refine LeO.ite ?_ ?_
   | refine LeO.bind ?_ (fun _ => ?_)
set_option maxHeartbeats 8000000 in
set_option maxRecDepth 100000 in
theorem spec_Flats.calls (k : Nat) (a0_0 : Int) (A0_1 : Option Addr) (c0_1 : Nat) (l0_1 : List Int) (r : List Int) (w : World) (hr0_1 : Kd.C (Kd.int .i64) w A0_1 l0_1.length l0_1) (hc0_1 : l0_1.length ≤ c0_1) (h : spec_Flats.f k a0_0 l0_1 = some r) :
  Calls Try.prog 14 #[.agg #[.int .i64 a0_0, .slice A0_1 l0_1.length c0_1]] w fun e w' => ∃ v0_ : Value, e = .returned (v0_) ∧ Kd.R (Kd.int .i64) 3 w' w.heap.size (fun _ => True) v0_ r ∧ Below w.heap.size w w' := by
 have hu28 := Try.underlying28
 have HR0_1 := aQ hr0_1
 have HC0_1 := aQ hc0_1
 clear hr0_1 hc0_1
 have HB := aQ (Below.refl w.heap.size w)
 have H : ((spec_IsMatroid.f k a0_0 l0_1).bind fun t15002 => (if t15002 = true then ((spec_l7Flats.f k a0_0 l0_1).bind fun t15003 => (some t15003)) else (some (([] : List Int))))) = some r := h
 clear h
 replace H := Option.bind_eq_some_iff.mp H
 obtain ⟨t15002, A20, H⟩ := H
 replace H : (if t15002 = true then ((spec_l7Flats.f k a0_0 l0_1).bind fun t15003 => (some t15003)) else (some (([] : List Int)))) = some r := H
 have A2 := aQ A20
 clear A20
 by_cases c3 : t15002 = true
 ·subst c3
  have H1 : ((spec_l7Flats.f k a0_0 l0_1).bind fun t15003 => (some t15003)) = some r := by rw [if_pos rfl] at H; exact H
  clear H
  have H := H1
  clear H1
  replace H := Option.bind_eq_some_iff.mp H
  obtain ⟨t15003, A40, H⟩ := H
  replace H : (some t15003) = some r := H
  have A4 := aQ A40
  clear A40
  obtain rfl := Option.some.inj H
  go_enter Try.func14, Try.ntmps14
  go_wp2_with (first | ((with_reducible refine gate_dst (N := 1) rfl ?_); refine box_event ?hg (N := 1) ?hd (cs := #[.int .i64 a0_0, .slice A0_1 l0_1.length c0_1]) (t := 28) ?hr ?_; (case hd => rfl); (case hg => rfl); (case hr => first | (go_simp; done) | (go_simp; rfl)); intro gb15001 hg w5 hbox hb; have BK15001 := aQ (hbox); have GW15001 := aQ ((by rw [hg]; exact (below_size (pB HB.out)) : w.heap.size ≤ gb15001)); have GE15001 := aQ ((by rw [hg]; exact (below_size (pB HB.out)) : w.heap.size ≤ gb15001)); replace HB := aQ (below_step (pB HB.out) hb); clear hb hbox hg; have hcz6_0 := bc (v := (.int .i64 a0_0)) BK15001.out 0; have hcz6_1 := bc (v := (.slice A0_1 l0_1.length c0_1)) BK15001.out 1; have hfz6_0 := blk_frozen BK15001.out 0; have hfz6_1 := blk_frozen BK15001.out 1) | ((with_reducible refine gate_callee (f := 15) rfl ?_); refine goesL_ (some 4) rfl rfl Try.func15 (by kernel_rfl) rfl #[.agg #[.int .i64 a0_0, .slice A0_1 l0_1.length c0_1]] rfl lm ?_; (with_reducible refine (spec_IsMatroid.calls k a0_0 _ _ l0_1 true _ ?side1 ?side2 A2.out).mono ?_); (case side1 => exact pC (Kd.C_below HR0_1.out HB.out)); (case side2 => exact HC0_1.out); rintro e w7 ⟨rfl, hb⟩; refine ⟨_, rfl, ?_⟩; replace BK15001 := aQ (blk_below (g := gb15001) (o := .cells #[.int .i64 a0_0, .slice A0_1 l0_1.length c0_1] 28 (0, 0)) (pk BK15001.out) hb); replace HB := aQ (below_step (pB1 HB.out GE15001.out) hb); (try clear hb); have hcz8_0 := bc (v := (.int .i64 a0_0)) BK15001.out 0; have hcz8_1 := bc (v := (.slice A0_1 l0_1.length c0_1)) BK15001.out 1; have hfz8_0 := blk_frozen BK15001.out 0; have hfz8_1 := blk_frozen BK15001.out 1) | ((with_reducible refine gate_callee (f := 28) rfl ?_); refine goesL_ (some 8) rfl rfl Try.func28 (by kernel_rfl) rfl #[.agg #[.int .i64 a0_0, .slice A0_1 l0_1.length c0_1]] rfl lm ?_; (with_reducible refine (spec_l7Flats.calls k a0_0 _ _ l0_1 t15003 _ ?side1 ?side2 A4.out).mono ?_); (case side1 => exact pC (Kd.C_below HR0_1.out HB.out)); (case side2 => exact HC0_1.out); rintro e w9 ⟨v15004, rfl, ho0, hb⟩; refine ⟨_, rfl, ?_⟩; have HO15005 := aQ (Kd.R_lower ho0 (below_size (pB1 HB.out GE15001.out))); replace BK15001 := aQ (blk_below (g := gb15001) (o := .cells #[.int .i64 a0_0, .slice A0_1 l0_1.length c0_1] 28 (0, 0)) (pk BK15001.out) hb); replace HB := aQ (below_step (pB1 HB.out GE15001.out) hb); (try clear hb); (try clear ho0)))
  go_ret
  exact ⟨_, by first | rfl | (simp [errW_none, errW_some] <;> rfl) | (simp [*, errW_none, errW_some] <;> rfl), by (with_reducible repeat (first | apply Kd.R_alloc | apply Kd.R_drewN | apply Kd.R_drew)); exact HO15005.out, pB1 HB.out GE15001.out⟩
 ·replace c3 := Bool.eq_false_iff.mpr c3
  subst c3
  have H1 : (some (([] : List Int))) = some r := by rw [if_neg (show ¬ (false = true) by decide)] at H; exact H
  clear H
  have H := H1
  clear H1
  obtain ⟨y15006, hy15006⟩ : ∃ y_ : List Int, y_ = (([] : List Int)) := ⟨_, rfl⟩
  replace H : (some y15006) = some r := by first | (rw [hy15006]; with_reducible exact H) | (have H2_ := (Option.bind_some _ _).symm.trans H; rw [hy15006]; with_reducible exact H2_) | (have H2_ := (Option.bind_some _ _).symm.trans H; with_reducible exact H2_) | with_reducible exact H | (rw [hy15006]; exact H) | exact H
  have Ny15006 := aQ hy15006
  clear hy15006
  obtain rfl := Option.some.inj H
  go_enter Try.func14, Try.ntmps14
  go_wp2_with (first | ((with_reducible refine gate_dst (N := 1) rfl ?_); refine box_event ?hg (N := 1) ?hd (cs := #[.int .i64 a0_0, .slice A0_1 l0_1.length c0_1]) (t := 28) ?hr ?_; (case hd => rfl); (case hg => rfl); (case hr => first | (go_simp; done) | (go_simp; rfl)); intro gb15001 hg w10 hbox hb; have BK15001 := aQ (hbox); have GW15001 := aQ ((by rw [hg]; exact (below_size (pB HB.out)) : w.heap.size ≤ gb15001)); have GE15001 := aQ ((by rw [hg]; exact (below_size (pB HB.out)) : w.heap.size ≤ gb15001)); replace HB := aQ (below_step (pB HB.out) hb); clear hb hbox hg; have hcz11_0 := bc (v := (.int .i64 a0_0)) BK15001.out 0; have hcz11_1 := bc (v := (.slice A0_1 l0_1.length c0_1)) BK15001.out 1; have hfz11_0 := blk_frozen BK15001.out 0; have hfz11_1 := blk_frozen BK15001.out 1) | ((with_reducible refine gate_callee (f := 15) rfl ?_); refine goesL_ (some 4) rfl rfl Try.func15 (by kernel_rfl) rfl #[.agg #[.int .i64 a0_0, .slice A0_1 l0_1.length c0_1]] rfl lm ?_; (with_reducible refine (spec_IsMatroid.calls k a0_0 _ _ l0_1 false _ ?side1 ?side2 A2.out).mono ?_); (case side1 => exact pC (Kd.C_below HR0_1.out HB.out)); (case side2 => exact HC0_1.out); rintro e w12 ⟨rfl, hb⟩; refine ⟨_, rfl, ?_⟩; replace BK15001 := aQ (blk_below (g := gb15001) (o := .cells #[.int .i64 a0_0, .slice A0_1 l0_1.length c0_1] 28 (0, 0)) (pk BK15001.out) hb); replace HB := aQ (below_step (pB1 HB.out GE15001.out) hb); (try clear hb)) | ((with_reducible refine gate_dst (N := 6) rfl ?_); refine Kd.R_lit (Kd.int .i64) _ 3 ?hg (N := 6) ?hd (xs := ([] : List Int)) (inner := []) (ok := fun _ => True) (okp := fun _ => True) ?hr ?hp (fun _ hk => hk) trivial (Below.refl _ _) (Nat.le_refl _) (by simp) ?_; (case hd => rfl); (case hg => rfl); (case hr => first | (go_simp; done) | (go_simp; rfl)); (case hp => exact (Reps.none _ _)); intro v15007 w13 ho14 hb hg_ hnew_; clear hg_ hnew_; (first | rw [← Ny15006.out] at ho14 | (simp only [Int.reduceToNat] at ho14; rw [← Ny15006.out] at ho14)); have HO15008 := aQ (Kd.R_lower ho14 (below_size (pB1 HB.out GE15001.out))); replace BK15001 := aQ (blk_below (g := gb15001) (o := .cells #[.int .i64 a0_0, .slice A0_1 l0_1.length c0_1] 28 (0, 0)) (pk BK15001.out) hb); replace HB := aQ (below_step (pB1 HB.out GE15001.out) hb); clear hb ho14))
  go_ret
  exact ⟨_, by first | rfl | (simp [errW_none, errW_some] <;> rfl) | (simp [*, errW_none, errW_some] <;> rfl), by (with_reducible repeat (first | apply Kd.R_alloc | apply Kd.R_drewN | apply Kd.R_drew)); exact HO15008.out, pB1 HB.out GE15001.out⟩
/-! ### spec_l17Modular: function 32 -/
def spec_l17Modular.f (k : Nat) (a0_0 : Int) (l0_1 : List Int) (a1 : Int) (a2 : Int) : Option (Bool) := (spec_l5Rank.f k a0_0 l0_1 a1).bind fun t33002 => ((spec_l5Rank.f k a0_0 l0_1 a2).bind fun t33003 => ((spec_l5Rank.f k a0_0 l0_1 (Go.bits .and .i64 a1 a2)).bind fun t33004 => ((spec_l5Rank.f k a0_0 l0_1 (Go.bits .or .i64 a1 a2)).bind fun t33005 => (some ((wrap64 (t33002 + t33003)) == (wrap64 (t33004 + t33005)))))))
theorem spec_l17Modular.mono : ∀ a0 a1 a2 a3 k, LeO (spec_l17Modular.f k a0 a1 a2 a3) (spec_l17Modular.f (k + 1) a0 a1 a2 a3) := by
 intro a0 a1 a2 a3 k
 unfold spec_l17Modular.f
 repeat' first
   | (with_reducible exact spec_l5Rank.mono _ _ _ _)
   | (with_reducible exact LeO.refl _)
   | (with_reducible exact LeO.none _)
   | (with_reducible refine LeO.ite ?_ ?_)
   | (with_reducible refine LeO.bind ?_ (fun _ => ?_))
   | exact spec_l5Rank.mono _ _ _ _
   | exact LeO.none _
   | refine LeO.ite ?_ ?_
   | refine LeO.bind ?_ (fun _ => ?_)
def spec_l17Modular.T1 : Bool × List (List Nat × List Nat) := (true, [([], []), ([], []), ([0, 1], [0, 1]), ([], []), ([], []), ([3, 4, 2], [3, 4]), ([2, 5], [2, 5]), ([], []), ([], []), ([], []), ([8, 9], [8, 9]), ([7, 10, 5], [7, 10]), ([], []), ([], []), ([], []), ([13, 14], [13, 14]), ([12, 15, 11], [12, 15]), ([11, 16], [11, 16]), ([6, 17], [6, 17]), ([18, 16, 0, 1, 2, 3, 4, 5, 6, 7, 8, 9, 10, 11, 12, 13, 14, 15, 16, 17, 18], [18])])
def spec_l17Modular.B1 : List Nat := [0, 0, 3, 0, 0, 31, 63, 0, 0, 0, 768, 1983, 0, 0, 0, 24576, 65471, 131007, 262143, 524287]
theorem spec_l17Modular.tab1 : rtab .any (opsOf Try.f32 1) = spec_l17Modular.T1 := by kernel_rfl
theorem spec_l17Modular.bits1 : waitsOk spec_l17Modular.T1.2 spec_l17Modular.B1 = true := by kernel_rfl
set_option maxHeartbeats 8000000 in
set_option maxRecDepth 100000 in
theorem spec_l17Modular.calls (k : Nat) (a0_0 : Int) (A0_1 : Option Addr) (c0_1 : Nat) (l0_1 : List Int) (a1 : Int) (a2 : Int) (r : Bool) (w : World) (hr0_1 : Kd.C (Kd.int .i64) w A0_1 l0_1.length l0_1) (hc0_1 : l0_1.length ≤ c0_1) (h : spec_l17Modular.f k a0_0 l0_1 a1 a2 = some r) :
  Calls Try.prog 32 #[.agg #[.int .i64 a0_0, .slice A0_1 l0_1.length c0_1], .int .i64 a1, .int .i64 a2] w fun e w' => e = .returned (.bool r) ∧ Below w.heap.size w w' := by
 have hu28 := Try.underlying28
 have HR0_1 := aQ hr0_1
 have HC0_1 := aQ hc0_1
 clear hr0_1 hc0_1
 have HB := aQ (Below.refl w.heap.size w)
 have H : ((spec_l5Rank.f k a0_0 l0_1 a1).bind fun t33002 => ((spec_l5Rank.f k a0_0 l0_1 a2).bind fun t33003 => ((spec_l5Rank.f k a0_0 l0_1 (Go.bits .and .i64 a1 a2)).bind fun t33004 => ((spec_l5Rank.f k a0_0 l0_1 (Go.bits .or .i64 a1 a2)).bind fun t33005 => (some ((wrap64 (t33002 + t33003)) == (wrap64 (t33004 + t33005)))))))) = some r := h
 clear h
 replace H := Option.bind_eq_some_iff.mp H
 obtain ⟨t33002, A40, H⟩ := H
 replace H : ((spec_l5Rank.f k a0_0 l0_1 a2).bind fun t33003 => ((spec_l5Rank.f k a0_0 l0_1 (Go.bits .and .i64 a1 a2)).bind fun t33004 => ((spec_l5Rank.f k a0_0 l0_1 (Go.bits .or .i64 a1 a2)).bind fun t33005 => (some ((wrap64 (t33002 + t33003)) == (wrap64 (t33004 + t33005))))))) = some r := H
 have A4 := aQ A40
 clear A40
 replace H := Option.bind_eq_some_iff.mp H
 obtain ⟨t33003, A50, H⟩ := H
 replace H : ((spec_l5Rank.f k a0_0 l0_1 (Go.bits .and .i64 a1 a2)).bind fun t33004 => ((spec_l5Rank.f k a0_0 l0_1 (Go.bits .or .i64 a1 a2)).bind fun t33005 => (some ((wrap64 (t33002 + t33003)) == (wrap64 (t33004 + t33005)))))) = some r := H
 have A5 := aQ A50
 clear A50
 replace H := Option.bind_eq_some_iff.mp H
 obtain ⟨t33004, A60, H⟩ := H
 replace H : ((spec_l5Rank.f k a0_0 l0_1 (Go.bits .or .i64 a1 a2)).bind fun t33005 => (some ((wrap64 (t33002 + t33003)) == (wrap64 (t33004 + t33005))))) = some r := H
 have A6 := aQ A60
 clear A60
 replace H := Option.bind_eq_some_iff.mp H
 obtain ⟨t33005, A70, H⟩ := H
 replace H : (some ((wrap64 (t33002 + t33003)) == (wrap64 (t33004 + t33005)))) = some r := H
 have A7 := aQ A70
 clear A70
 obtain rfl := Option.some.inj H
 go_enter Try.func32, Try.ntmps32
 try go_wp2_with (first | ((with_reducible refine gate_dst (N := 3) rfl ?_); refine box_event ?hg (N := 3) ?hd (cs := #[.int .i64 a0_0, .slice A0_1 l0_1.length c0_1]) (t := 28) ?hr ?_; (case hd => rfl); (case hg => rfl); (case hr => first | (go_simp; done) | (go_simp; rfl)); intro gb33001 hg w8 hbox hb; have BK33001 := aQ (hbox); have GW33001 := aQ ((by rw [hg]; exact (below_size (pB HB.out)) : w.heap.size ≤ gb33001)); have GE33001 := aQ ((by rw [hg]; exact (below_size (pB HB.out)) : w.heap.size ≤ gb33001)); replace HB := aQ (below_step (pB HB.out) hb); clear hb hbox hg))
 have n0_ := aQ (blk_drew BK33001.out)
 have n1_ := aQ (below_drew1 HB.out)
 clear BK33001
 clear HB
 have BK33001 := n0_
 have HB := n1_
 clear n0_ n1_
 refine start_ (n := 20) (S := fun w' => w'.cell? ⟨gb33001, 0, none⟩ = some (.int .i64 a0_0) ∧ w'.cell? ⟨gb33001, 1, none⟩ = some (.slice A0_1 l0_1.length c0_1)) (ds := []) #[false, false, false, false, false, false, false, false, false, false, false, false, false, false, false, false, false, false, false, false] (by kernel_rfl) rfl rfl ⟨(blk_cell BK33001.out 0).trans rfl, (blk_cell BK33001.out 1).trans rfl⟩ (fun hHeld => ?_); refine with_tabW spec_l17Modular.tab1 spec_l17Modular.bits1 (fun HT_ HW_ => ?_)
 generalize w8.drew = w9 at BK33001 HB hHeld ⊢
 refine pure_ (i := 1) (N := some 8) (v := ?_) (a' := ?_) #[false, true, false, false, false, false, false, false, false, false, false, false, false, false, false, false, false, false, false, false] rfl rfl (any_of HT_.out (by kernel_rfl)) (fun _ _ _ h => h) (Or.inl ⟨by rfl, ?_⟩) ?_ ?_
 rotate_left
 ·intro w'
  go_simp
  with_reducible rfl
 rotate_left
 ·simp only [Act.put, List.setIfInBounds_toArray, List.set_cons_zero, List.set_cons_succ, i64_w, i32_w]
  rfl
 refine pure_ (i := 4) (N := some 11) (v := ?_) (a' := ?_) #[false, true, false, false, true, false, false, false, false, false, false, false, false, false, false, false, false, false, false, false] rfl rfl (any_of HT_.out (by kernel_rfl)) (fun _ _ _ h => h) (Or.inl ⟨by rfl, ?_⟩) ?_ ?_
 rotate_left
 ·intro w'
  go_simp
  with_reducible rfl
 rotate_left
 ·simp only [Act.put, List.setIfInBounds_toArray, List.set_cons_zero, List.set_cons_succ, i64_w, i32_w]
  rfl
 refine pure_ (i := 8) (N := some 15) (v := ?_) (a' := ?_) #[false, true, false, false, true, false, false, false, true, false, false, false, false, false, false, false, false, false, false, false] rfl rfl (any_of HT_.out (by kernel_rfl)) (fun _ _ _ h => h) (Or.inl ⟨by rfl, ?_⟩) ?_ ?_
 rotate_left
 ·intro w'
  go_simp
  with_reducible rfl
 rotate_left
 ·simp only [Act.put, List.setIfInBounds_toArray, List.set_cons_zero, List.set_cons_succ, i64_w, i32_w]
  rfl
 refine pure_ (i := 9) (N := some 16) (v := ?_) (a' := ?_) #[false, true, false, false, true, false, false, false, true, true, false, false, false, false, false, false, false, false, false, false] rfl rfl (any_of HT_.out (by kernel_rfl)) (fun _ _ _ h => h) (Or.inl ⟨by rfl, ?_⟩) ?_ ?_
 rotate_left
 ·intro w'
  go_simp
  with_reducible rfl
 rotate_left
 ·simp only [Act.put, List.setIfInBounds_toArray, List.set_cons_zero, List.set_cons_succ, i64_w, i32_w]
  rfl
 refine pure_ (i := 10) (N := some 17) (v := ?_) (a' := ?_) #[false, true, false, false, true, false, false, false, true, true, true, false, false, false, false, false, false, false, false, false] rfl rfl (any_of HT_.out (by kernel_rfl)) (fun _ _ _ h => h) (Or.inl ⟨by rfl, ?_⟩) ?_ ?_
 rotate_left
 ·intro w'
  go_simp
  with_reducible rfl
 rotate_left
 ·simp only [Act.put, List.setIfInBounds_toArray, List.set_cons_zero, List.set_cons_succ, i64_w, i32_w]
  rfl
 refine pure_ (i := 13) (N := some 20) (v := ?_) (a' := ?_) #[false, true, false, false, true, false, false, false, true, true, true, false, false, true, false, false, false, false, false, false] rfl rfl (any_of HT_.out (by kernel_rfl)) (fun _ _ _ h => h) (Or.inl ⟨by rfl, ?_⟩) ?_ ?_
 rotate_left
 ·intro w'
  go_simp
  with_reducible rfl
 rotate_left
 ·simp only [Act.put, List.setIfInBounds_toArray, List.set_cons_zero, List.set_cons_succ, i64_w, i32_w]
  rfl
 refine pure_ (i := 14) (N := some 21) (v := ?_) (a' := ?_) #[false, true, false, false, true, false, false, false, true, true, true, false, false, true, true, false, false, false, false, false] rfl rfl (any_of HT_.out (by kernel_rfl)) (fun _ _ _ h => h) (Or.inl ⟨by rfl, ?_⟩) ?_ ?_
 rotate_left
 ·intro w'
  go_simp
  with_reducible rfl
 rotate_left
 ·simp only [Act.put, List.setIfInBounds_toArray, List.set_cons_zero, List.set_cons_succ, i64_w, i32_w]
  rfl
 refine pure_ (i := 15) (N := some 22) (v := ?_) (a' := ?_) #[false, true, false, false, true, false, false, false, true, true, true, false, false, true, true, true, false, false, false, false] rfl rfl (any_of HT_.out (by kernel_rfl)) (fun _ _ _ h => h) (Or.inl ⟨by rfl, ?_⟩) ?_ ?_
 rotate_left
 ·intro w'
  go_simp
  with_reducible rfl
 rotate_left
 ·simp only [Act.put, List.setIfInBounds_toArray, List.set_cons_zero, List.set_cons_succ, i64_w, i32_w]
  rfl
 refine take_ (i := 0) (N := some 7) (v := ?_) (a' := ?_) #[true, true, false, false, true, false, false, false, true, true, true, false, false, true, true, true, false, false, false, false] rfl rfl (take_ofW HT_.out HW_.out (by kernel_rfl)) (fun _ _ _ h => h) (Or.inl ⟨by rfl, ?_⟩) hHeld ?_ ?_
 rotate_left
 ·rintro w' ⟨s0, s1⟩
  go_simp
  with_reducible rfl
 rotate_left
 ·simp only [Act.put, List.setIfInBounds_toArray, List.set_cons_zero, List.set_cons_succ, i64_w, i32_w]
  rfl
 refine take_ (i := 3) (N := some 10) (v := ?_) (a' := ?_) #[true, true, false, true, true, false, false, false, true, true, true, false, false, true, true, true, false, false, false, false] rfl rfl (take_ofW HT_.out HW_.out (by kernel_rfl)) (fun _ _ _ h => h) (Or.inl ⟨by rfl, ?_⟩) hHeld ?_ ?_
 rotate_left
 ·rintro w' ⟨s0, s1⟩
  go_simp
  with_reducible rfl
 rotate_left
 ·simp only [Act.put, List.setIfInBounds_toArray, List.set_cons_zero, List.set_cons_succ, i64_w, i32_w]
  rfl
 refine take_ (i := 7) (N := some 14) (v := ?_) (a' := ?_) #[true, true, false, true, true, false, false, true, true, true, true, false, false, true, true, true, false, false, false, false] rfl rfl (take_ofW HT_.out HW_.out (by kernel_rfl)) (fun _ _ _ h => h) (Or.inl ⟨by rfl, ?_⟩) hHeld ?_ ?_
 rotate_left
 ·rintro w' ⟨s0, s1⟩
  go_simp
  with_reducible rfl
 rotate_left
 ·simp only [Act.put, List.setIfInBounds_toArray, List.set_cons_zero, List.set_cons_succ, i64_w, i32_w]
  rfl
 refine take_ (i := 12) (N := some 19) (v := ?_) (a' := ?_) #[true, true, false, true, true, false, false, true, true, true, true, false, true, true, true, true, false, false, false, false] rfl rfl (take_ofW HT_.out HW_.out (by kernel_rfl)) (fun _ _ _ h => h) (Or.inl ⟨by rfl, ?_⟩) hHeld ?_ ?_
 rotate_left
 ·rintro w' ⟨s0, s1⟩
  go_simp
  with_reducible rfl
 rotate_left
 ·simp only [Act.put, List.setIfInBounds_toArray, List.set_cons_zero, List.set_cons_succ, i64_w, i32_w]
  rfl
 refine one_ (i := 2) (N := some 9) #[true, true, true, true, true, false, false, true, true, true, true, false, true, true, true, true, false, false, false, false] rfl rfl (one_of HT_.out (by kernel_rfl)) (by decide) (fun K hK => ?_)
 refine goes_ Try.func47 (by kernel_rfl) rfl #[.agg #[.int .i64 a0_0, .slice A0_1 l0_1.length c0_1], .int .i64 a1] (by rfl) rfl rfl lm ?_
 with_reducible refine (spec_l5Rank.calls k a0_0 _ _ l0_1 a1 t33002 _ ?side1 ?side2 A4.out).mono ?_
 (case side1 => exact pC (Kd.C_below HR0_1.out HB.out))
 (case side2 => exact HC0_1.out)
 rintro e w10 ⟨rfl, hb⟩
 refine ⟨_, rfl, ?_⟩
 have n0_ := aQ (blk_below (g := gb33001) (o := .cells #[.int .i64 a0_0, .slice A0_1 l0_1.length c0_1] 28 (0, 0)) (pk BK33001.out) hb)
 have n1_ := aQ (below_step (pB1 HB.out GE33001.out) hb)
 clear BK33001
 clear HB
 have BK33001 := n0_
 have HB := n1_
 clear n0_ n1_
 (try clear hb)
 (try clear hb2)
 (try clear hk)
 (try clear hi)
 refine hK.out _ _ ⟨(blk_cell BK33001.out 0).trans rfl, (blk_cell BK33001.out 1).trans rfl⟩ (fun hHeld => ?_)
 clear hK K
 refine norm_ (a' := ?_) ?_ ?_
 rotate_left
 ·show Act.put _ (some 9) _ = _
  simp only [Act.put, List.setIfInBounds_toArray, List.set_cons_zero, List.set_cons_succ, i64_w, i32_w]
  rfl
 refine one_ (i := 5) (N := some 12) #[true, true, true, true, true, true, false, true, true, true, true, false, true, true, true, true, false, false, false, false] rfl rfl (one_of HT_.out (by kernel_rfl)) (by decide) (fun K hK => ?_)
 refine goes_ Try.func47 (by kernel_rfl) rfl #[.agg #[.int .i64 a0_0, .slice A0_1 l0_1.length c0_1], .int .i64 a2] (by rfl) rfl rfl lm ?_
 with_reducible refine (spec_l5Rank.calls k a0_0 _ _ l0_1 a2 t33003 _ ?side1 ?side2 A5.out).mono ?_
 (case side1 => exact pC (Kd.C_below HR0_1.out HB.out))
 (case side2 => exact HC0_1.out)
 rintro e w11 ⟨rfl, hb⟩
 refine ⟨_, rfl, ?_⟩
 have n0_ := aQ (blk_below (g := gb33001) (o := .cells #[.int .i64 a0_0, .slice A0_1 l0_1.length c0_1] 28 (0, 0)) (pk BK33001.out) hb)
 have n1_ := aQ (below_step (pB1 HB.out GE33001.out) hb)
 clear BK33001
 clear HB
 have BK33001 := n0_
 have HB := n1_
 clear n0_ n1_
 (try clear hb)
 (try clear hb2)
 (try clear hk)
 (try clear hi)
 refine hK.out _ _ ⟨(blk_cell BK33001.out 0).trans rfl, (blk_cell BK33001.out 1).trans rfl⟩ (fun hHeld => ?_)
 clear hK K
 refine norm_ (a' := ?_) ?_ ?_
 rotate_left
 ·show Act.put _ (some 12) _ = _
  simp only [Act.put, List.setIfInBounds_toArray, List.set_cons_zero, List.set_cons_succ, i64_w, i32_w]
  rfl
 refine pure_ (i := 6) (N := some 13) (v := ?_) (a' := ?_) #[true, true, true, true, true, true, true, true, true, true, true, false, true, true, true, true, false, false, false, false] rfl rfl (any_of HT_.out (by kernel_rfl)) (fun _ _ _ h => h) (Or.inl ⟨by rfl, ?_⟩) ?_ ?_
 rotate_left
 ·intro w'
  go_simp
  with_reducible rfl
 rotate_left
 ·simp only [Act.put, List.setIfInBounds_toArray, List.set_cons_zero, List.set_cons_succ, i64_w, i32_w]
  rfl
 refine one_ (i := 11) (N := some 18) #[true, true, true, true, true, true, true, true, true, true, true, true, true, true, true, true, false, false, false, false] rfl rfl (one_of HT_.out (by kernel_rfl)) (by decide) (fun K hK => ?_)
 refine goes_ Try.func47 (by kernel_rfl) rfl #[.agg #[.int .i64 a0_0, .slice A0_1 l0_1.length c0_1], .int .i64 (Go.bits .and .i64 a1 a2)] (by rfl) rfl rfl lm ?_
 with_reducible refine (spec_l5Rank.calls k a0_0 _ _ l0_1 (Go.bits .and .i64 a1 a2) t33004 _ ?side1 ?side2 A6.out).mono ?_
 (case side1 => exact pC (Kd.C_below HR0_1.out HB.out))
 (case side2 => exact HC0_1.out)
 rintro e w12 ⟨rfl, hb⟩
 refine ⟨_, rfl, ?_⟩
 have n0_ := aQ (blk_below (g := gb33001) (o := .cells #[.int .i64 a0_0, .slice A0_1 l0_1.length c0_1] 28 (0, 0)) (pk BK33001.out) hb)
 have n1_ := aQ (below_step (pB1 HB.out GE33001.out) hb)
 clear BK33001
 clear HB
 have BK33001 := n0_
 have HB := n1_
 clear n0_ n1_
 (try clear hb)
 (try clear hb2)
 (try clear hk)
 (try clear hi)
 refine hK.out _ _ ⟨(blk_cell BK33001.out 0).trans rfl, (blk_cell BK33001.out 1).trans rfl⟩ (fun hHeld => ?_)
 clear hK K
 refine norm_ (a' := ?_) ?_ ?_
 rotate_left
 ·show Act.put _ (some 18) _ = _
  simp only [Act.put, List.setIfInBounds_toArray, List.set_cons_zero, List.set_cons_succ, i64_w, i32_w]
  rfl
 refine one_ (i := 16) (N := some 23) #[true, true, true, true, true, true, true, true, true, true, true, true, true, true, true, true, true, false, false, false] rfl rfl (one_of HT_.out (by kernel_rfl)) (by decide) (fun K hK => ?_)
 refine goes_ Try.func47 (by kernel_rfl) rfl #[.agg #[.int .i64 a0_0, .slice A0_1 l0_1.length c0_1], .int .i64 (Go.bits .or .i64 a1 a2)] (by rfl) rfl rfl lm ?_
 with_reducible refine (spec_l5Rank.calls k a0_0 _ _ l0_1 (Go.bits .or .i64 a1 a2) t33005 _ ?side1 ?side2 A7.out).mono ?_
 (case side1 => exact pC (Kd.C_below HR0_1.out HB.out))
 (case side2 => exact HC0_1.out)
 rintro e w13 ⟨rfl, hb⟩
 refine ⟨_, rfl, ?_⟩
 have n0_ := aQ (blk_below (g := gb33001) (o := .cells #[.int .i64 a0_0, .slice A0_1 l0_1.length c0_1] 28 (0, 0)) (pk BK33001.out) hb)
 have n1_ := aQ (below_step (pB1 HB.out GE33001.out) hb)
 clear BK33001
 clear HB
 have BK33001 := n0_
 have HB := n1_
 clear n0_ n1_
 (try clear hb)
 (try clear hb2)
 (try clear hk)
 (try clear hi)
 refine hK.out _ _ ⟨(blk_cell BK33001.out 0).trans rfl, (blk_cell BK33001.out 1).trans rfl⟩ (fun hHeld => ?_)
 clear hK K
 refine norm_ (a' := ?_) ?_ ?_
 rotate_left
 ·show Act.put _ (some 23) _ = _
  simp only [Act.put, List.setIfInBounds_toArray, List.set_cons_zero, List.set_cons_succ, i64_w, i32_w]
  rfl
 refine pure_ (i := 17) (N := some 24) (v := ?_) (a' := ?_) #[true, true, true, true, true, true, true, true, true, true, true, true, true, true, true, true, true, true, false, false] rfl rfl (any_of HT_.out (by kernel_rfl)) (fun _ _ _ h => h) (Or.inl ⟨by rfl, ?_⟩) ?_ ?_
 rotate_left
 ·intro w'
  go_simp
  with_reducible rfl
 rotate_left
 ·simp only [Act.put, List.setIfInBounds_toArray, List.set_cons_zero, List.set_cons_succ, i64_w, i32_w]
  rfl
 refine pure_ (i := 18) (N := some 25) (v := ?_) (a' := ?_) #[true, true, true, true, true, true, true, true, true, true, true, true, true, true, true, true, true, true, true, false] rfl rfl (any_of HT_.out (by kernel_rfl)) (fun _ _ _ h => h) (Or.inl ⟨by rfl, ?_⟩) ?_ ?_
 rotate_left
 ·intro w'
  go_simp
  with_reducible rfl
 rotate_left
 ·simp only [Act.put, List.setIfInBounds_toArray, List.set_cons_zero, List.set_cons_succ, i64_w, i32_w]
  rfl
 refine pure_ (i := 19) (N := some 6) (v := ?_) (a' := ?_) #[true, true, true, true, true, true, true, true, true, true, true, true, true, true, true, true, true, true, true, true] rfl rfl (any_of HT_.out (by kernel_rfl)) (fun _ _ _ h => h) (Or.inl ⟨by rfl, ?_⟩) ?_ ?_
 rotate_left
 ·intro w'
  go_simp
  with_reducible rfl
 rotate_left
 ·simp only [Act.put, List.setIfInBounds_toArray, List.set_cons_zero, List.set_cons_succ, i64_w, i32_w]
  rfl
 refine done_ (done_of HT_.out (by kernel_rfl)) ?_
 try go_wp2
 go_ret
 exact ⟨re_, pB1 HB.out GE33001.out⟩
end Go.Proofs.Ytbdloopelidneaa.A
