/- Machine side of the law FnExactExtend: Go functions as Lean functions, and proofs that calls come to what these tell. Conditions: those in each theorem. -/
import Derived.Test.YtagncnjllpebjaaMFnExactExtend0
import Derived.Test.YtagncnjllpebjaaMFnExactExtend1
import Derived.Test.YtagncnjllpebjaaMFnExactExtend3
namespace Go.Proofs.Ytagncnjllpebjaa.A
open Go.RowKit Go.Proofs.YtagncnjllpebjaaW.PrintWords Go.Proofs.YtagncnjllpebjaaW.PrintLast Go.Proofs.YtagncnjllpebjaaW.PrintMore
attribute [local go_sem] max2_int min2_int max_two min_two max_three min_three max_four min_four
set_option linter.unusedVariables false
set_option linter.unusedSimpArgs false
/-! ### spec_l7Flats: function 164 -/
def spec_l7Flats.l0 : Nat → List Int → Int → Int → List Int → Option (List Int)
 | 0, _, _, _, _ => none
 | k + 1, x3, x4, x165002000, x165002001 => (spec_FullSet.f x165002000).bind fun t165005 => (if x4 ≤ t165005 then ((spec_l5Closure.f k x165002000 x165002001 x4).bind fun t165006 => (if t165006 = x4 then (if x3.length < 17592186044416 then (spec_l7Flats.l0 k (x3 ++ [x4]) (wrap64 (x4 + 1)) x165002000 x165002001) else (none)) else (spec_l7Flats.l0 k x3 (wrap64 (x4 + 1)) x165002000 x165002001))) else (some x3))
def spec_l7Flats.f (k : Nat) (a0_0 : Int) (l0_1 : List Int) : Option (List Int) := spec_l7Flats.l0 k (([] : List Int)) 0 a0_0 l0_1
theorem spec_l7Flats.mono_l : ∀ k, (∀ y0 y1 y2 y3, LeO (spec_l7Flats.l0 k y0 y1 y2 y3) (spec_l7Flats.l0 (k + 1) y0 y1 y2 y3))
 | 0 => fun _ _ _ _ r h => by simp [spec_l7Flats.l0] at h
 | k + 1 => by
  have ih0 := spec_l7Flats.mono_l k
  ·intro y0 y1 y2 y3
   unfold spec_l7Flats.l0
   repeat' first
   | (with_reducible exact ih0 _ _ _ _)
   | (with_reducible exact spec_l5Closure.mono _ _ _ _)
   | (with_reducible exact LeO.refl _)
   | (with_reducible exact LeO.none _)
   | (with_reducible refine LeO.ite ?_ ?_)
   | (with_reducible refine LeO.bind ?_ (fun _ => ?_))
   | exact ih0 _ _ _ _
   | exact spec_l5Closure.mono _ _ _ _
   | exact LeO.none _
   | refine LeO.ite ?_ ?_
   | refine LeO.bind ?_ (fun _ => ?_)
theorem spec_l7Flats.mono : ∀ a0 a1 k, LeO (spec_l7Flats.f k a0 a1) (spec_l7Flats.f (k + 1) a0 a1) := by
 intro a0 a1 k
 have ih0 := spec_l7Flats.mono_l k
 unfold spec_l7Flats.f
 repeat' first
   | (with_reducible exact ih0 _ _ _ _)
   | (with_reducible exact spec_l5Closure.mono _ _ _ _)
   | (with_reducible exact LeO.refl _)
   | (with_reducible exact LeO.none _)
   | (with_reducible refine LeO.ite ?_ ?_)
   | (with_reducible refine LeO.bind ?_ (fun _ => ?_))
   | exact ih0 _ _ _ _
   | exact spec_l5Closure.mono _ _ _ _
   | exact LeO.none _
   | refine LeO.ite ?_ ?_
   | refine LeO.bind ?_ (fun _ => ?_)
set_option maxHeartbeats 8000000 in
set_option maxRecDepth 100000 in
theorem spec_l7Flats.calls (k : Nat) (a0_0 : Int) (A0_1 : Option Addr) (c0_1 : Nat) (l0_1 : List Int) (r : List Int) (w : World) (hr0_1 : Kd.C (Kd.int .i64) w A0_1 l0_1.length l0_1) (hc0_1 : l0_1.length ≤ c0_1) (h : spec_l7Flats.f k a0_0 l0_1 = some r) :
  Calls Try.prog 164 #[.agg #[.int .i64 a0_0, .slice A0_1 l0_1.length c0_1]] w fun e w' => ∃ v0_ : Value, e = .returned (v0_) ∧ Kd.R (Kd.int .i64) 3 w' w.heap.size (fun _ => True) v0_ r ∧ Below w.heap.size w w' := by
 have hu26 := Try.underlying26
 have HR0_1 := aQ hr0_1
 have HC0_1 := aQ hc0_1
 clear hr0_1 hc0_1
 have HB := aQ (Below.refl w.heap.size w)
 have H : (spec_l7Flats.l0 k (([] : List Int)) 0 a0_0 l0_1) = some r := h
 clear h
 obtain ⟨y165002, hy165002⟩ : ∃ y_ : List Int, y_ = (([] : List Int)) := ⟨_, rfl⟩
 replace H : (spec_l7Flats.l0 k y165002 0 a0_0 l0_1) = some r := by first | (rw [hy165002]; with_reducible exact H) | (have H2_ := (Option.bind_some _ _).symm.trans H; rw [hy165002]; with_reducible exact H2_) | (have H2_ := (Option.bind_some _ _).symm.trans H; with_reducible exact H2_) | with_reducible exact H | (rw [hy165002]; exact H) | exact H
 have Ny165002 := aQ hy165002
 clear hy165002
 have H' := aQ H
 clear H
 go_enter Try.func164, Try.ntmps164
 go_wp2_with (first | ((with_reducible refine gate_dst (N := 1) rfl ?_); refine box_event ?hg (N := 1) ?hd (cs := #[.int .i64 a0_0, .slice A0_1 l0_1.length c0_1]) (t := 26) ?hr ?_; (case hd => rfl); (case hg => rfl); (case hr => first | (go_simp; done) | (go_simp; rfl)); intro gb165001 hg w2 hbox hb; have BK165001 := aQ (hbox); have GW165001 := aQ ((by rw [hg]; exact (below_size (pB HB.out)) : w.heap.size ≤ gb165001)); have GE165001 := aQ ((by rw [hg]; exact (below_size (pB HB.out)) : w.heap.size ≤ gb165001)); replace HB := aQ (below_step (pB HB.out) hb); clear hb hbox hg) | ((with_reducible refine gate_dst (N := 5) rfl ?_); refine Kd.R_lit (Kd.int .i64) _ 3 ?hg (N := 5) ?hd (xs := ([] : List Int)) (inner := []) (ok := fun _ => True) (okp := fun _ => True) ?hr ?hp (fun _ hk => hk) trivial (Below.refl _ _) (Nat.le_refl _) (by simp) ?_; (case hd => rfl); (case hg => rfl); (case hr => first | (go_simp; done) | (go_simp; rfl)); (case hp => exact (Reps.none _ _)); intro v165003 w3 ho4 hb hg_ hnew_; clear hg_ hnew_; (first | rw [← Ny165002.out] at ho4 | (simp only [Int.reduceToNat] at ho4; rw [← Ny165002.out] at ho4)); have HO165004 := aQ (Kd.R_lower ho4 (below_size (pB1 HB.out GE165001.out))); replace BK165001 := aQ (blk_below (g := gb165001) (o := .cells #[.int .i64 a0_0, .slice A0_1 l0_1.length c0_1] 26 (0, 0)) (pk BK165001.out) hb); replace HB := aQ (below_step (pB1 HB.out GE165001.out) hb); clear hb ho4))
 go_loopg [3, 4] k (fun kq v3 v4 w' => ∃ (x3_1 : List Int) (x4_1 : Int), v4 = .int .i64 x4_1 ∧ Aside0 (spec_l7Flats.l0 kq x3_1 x4_1 a0_0 l0_1 = some r) ∧ Aside0 (kq ≤ k) ∧ Aside0 (Kd.R (Kd.int .i64) 3 w' w.heap.size (fun _ => True) v3 x3_1) ∧ Aside0 (w'.heap[gb165001]? = some (.cells #[.int .i64 a0_0, (.slice A0_1 l0_1.length c0_1)] 26 (0, 0))) ∧ Aside0 (Below w.heap.size w w'))
 case atStart => exact ⟨(y165002), (0), rs_, H', ⟨Nat.le_refl _⟩, ⟨pR HO165004.out⟩, ⟨pk BK165001.out⟩, ⟨pB1 HB.out GE165001.out⟩⟩
 case round =>
  clear H'
  try clear c1
  try clear p2
  obtain ⟨x3_1, x4_1, rfl, HA, HK1, HO_3, BK165001, HB⟩ := hrel
  cases gk with
  | zero => exact absurd HA.out (by simp [spec_l7Flats.l0])
  | succ k1 =>
   have H := HA.out
   clear HA
   simp only [spec_l7Flats.l0] at H
   replace H := Option.bind_eq_some_iff.mp H
   obtain ⟨t165005, A50, H⟩ := H
   replace H : (if x4_1 ≤ t165005 then ((spec_l5Closure.f k1 a0_0 l0_1 x4_1).bind fun t165006 => (if t165006 = x4_1 then (if x3_1.length < 17592186044416 then (spec_l7Flats.l0 k1 (x3_1 ++ [x4_1]) (wrap64 (x4_1 + 1)) a0_0 l0_1) else (none)) else (spec_l7Flats.l0 k1 x3_1 (wrap64 (x4_1 + 1)) a0_0 l0_1))) else (some x3_1)) = some r := H
   have A5 := aQ A50
   clear A50
   by_cases c6 : x4_1 ≤ t165005
   ·rw [if_pos c6] at H
    have c6b0 : decide (x4_1 ≤ t165005) = true := decide_eq_true c6
    clear c6
    replace H := Option.bind_eq_some_iff.mp H
    obtain ⟨t165006, A70, H⟩ := H
    replace H : (if t165006 = x4_1 then (if x3_1.length < 17592186044416 then (spec_l7Flats.l0 k1 (x3_1 ++ [x4_1]) (wrap64 (x4_1 + 1)) a0_0 l0_1) else (none)) else (spec_l7Flats.l0 k1 x3_1 (wrap64 (x4_1 + 1)) a0_0 l0_1)) = some r := H
    have A7 := aQ A70
    clear A70
    by_cases c8 : t165006 = x4_1
    ·rw [if_pos c8] at H
     have c8b0 : (t165006 == x4_1) = true := beq_iff_eq.mpr c8
     have c8b1 : (t165006 != x4_1) = false := bne_eq_false_iff_eq.mpr c8
     clear c8
     by_cases c9 : x3_1.length < 17592186044416
     ·rw [if_pos c9] at H
      have LMc9 := aQ c9
      clear c9
      obtain ⟨y165007, hy165007⟩ : ∃ y_ : List Int, y_ = (x3_1 ++ [x4_1]) := ⟨_, rfl⟩
      replace H : (spec_l7Flats.l0 k1 y165007 (wrap64 (x4_1 + 1)) a0_0 l0_1) = some r := by first | (rw [hy165007]; with_reducible exact H) | (have H2_ := (Option.bind_some _ _).symm.trans H; rw [hy165007]; with_reducible exact H2_) | (have H2_ := (Option.bind_some _ _).symm.trans H; with_reducible exact H2_) | with_reducible exact H | (rw [hy165007]; exact H) | exact H
      have Ny165007 := aQ hy165007
      clear hy165007
      have H' := aQ H
      clear H
      have hcz10_0 := bc (v := (.int .i64 a0_0)) BK165001.out 0
      have hcz10_1 := bc (v := (.slice A0_1 l0_1.length c0_1)) BK165001.out 1
      have hfz10_0 := blk_frozen BK165001.out 0
      have hfz10_1 := blk_frozen BK165001.out 1
      go_wp2_with (first | ((with_reducible refine gate_callee (f := 57) rfl ?_); refine goesL_ (some 9) rfl rfl Try.func57 (by kernel_rfl) rfl #[.int .i64 a0_0] rfl lm ?_; (with_reducible refine (spec_FullSet.calls a0_0 t165005 _ A5.out).mono ?_); rintro e w' ⟨rfl, ⟨nd, rfl⟩⟩; refine ⟨_, rfl, ?_⟩) | ((with_reducible refine gate_callee (f := 91) rfl ?_); refine goesL_ (some 15) rfl rfl Try.func91 (by kernel_rfl) rfl #[.agg #[.int .i64 a0_0, .slice A0_1 l0_1.length c0_1], .int .i64 x4_1] rfl lm ?_; (with_reducible refine (spec_l5Closure.calls k1 a0_0 _ _ l0_1 x4_1 t165006 _ ?side1 ?side2 A7.out).mono ?_); (case side1 => repeat (first | exact (Kd.C_below HR0_1.out (pB1 HB.out GE165001.out)) | (with_reducible refine Kd.C_alloc ?_ _) | (with_reducible refine Kd.C_drewN ?_ _) | (with_reducible refine Kd.C_drew ?_))); (case side2 => exact HC0_1.out); rintro e w11 ⟨rfl, hb⟩; refine ⟨_, rfl, ?_⟩; replace HO_3 := aQ (Kd.R_below (pR HO_3.out) hb); replace BK165001 := aQ (blk_below (g := gb165001) (o := .cells #[.int .i64 a0_0, .slice A0_1 l0_1.length c0_1] 26 (0, 0)) (pk BK165001.out) hb); replace HB := aQ (below_step (pB1 HB.out GE165001.out) hb); (try clear hb)) | ((with_reducible refine gate_builtin (b := .append) (xs := #[.tmp 18, .tmp 20]) rfl ?_); at_builtin; refine Kd.R_append (Kd.int .i64) (w0 := w) w.heap.size rfl (.tmp 18) (.tmp 20) 22 3 (.int .i64 0) 8 rfl Try.underlying22 info3 rfl (by decide) (by omega) u3 x3_1 x4_1 [.int .i64 x4_1] (fun _ => True) (fun _ => False) rfl rfl ?aP (fun _ hk => hk.elim) ?aF ?aO ?aB ?aS ?aL ?_; (case aP => exact rfl); (case aB => exact (pB1 HB.out GE165001.out)); (case aF => exact (fun _ _ => trivial)); (case aO => exact (pR HO_3.out)); (case aS => exact (below_size (pB1 HB.out GE165001.out))); (case aL => have := LMc9.out; omega); intro v165008 w12 ho hb hg hat; rw [← Ny165007.out] at ho; replace BK165001 := aQ (blk_grown (g := gb165001) (o := .cells #[.int .i64 a0_0, .slice A0_1 l0_1.length c0_1] 26 (0, 0)) (pk BK165001.out) hg (Kd.R_ne HO_3.out BK165001.out (by decide))); replace HB := aQ (hb); have HO165009 := aQ (ho); clear HO_3; clear ho hb hg hat))
      go_roundg k1
      case measure => have := HK1.out; omega
      case rel => exact ⟨(y165007), (wrap64 (x4_1 + 1)), rs_, H', ⟨by have := HK1.out; omega⟩, ⟨pR HO165009.out⟩, ⟨pk BK165001.out⟩, ⟨pB1 HB.out GE165001.out⟩⟩
     ·rw [if_neg c9] at H
      exact absurd H (by simp)
    ·rw [if_neg c8] at H
     have c8b0 : (t165006 == x4_1) = false := beq_eq_false_iff_ne.mpr c8
     have c8b1 : (t165006 != x4_1) = true := bne_iff_ne.mpr c8
     have H' := aQ H
     clear H
     have hcz13_0 := bc (v := (.int .i64 a0_0)) BK165001.out 0
     have hcz13_1 := bc (v := (.slice A0_1 l0_1.length c0_1)) BK165001.out 1
     have hfz13_0 := blk_frozen BK165001.out 0
     have hfz13_1 := blk_frozen BK165001.out 1
     go_wp2_with (first | ((with_reducible refine gate_callee (f := 57) rfl ?_); refine goesL_ (some 9) rfl rfl Try.func57 (by kernel_rfl) rfl #[.int .i64 a0_0] rfl lm ?_; (with_reducible refine (spec_FullSet.calls a0_0 t165005 _ A5.out).mono ?_); rintro e w' ⟨rfl, ⟨nd, rfl⟩⟩; refine ⟨_, rfl, ?_⟩) | ((with_reducible refine gate_callee (f := 91) rfl ?_); refine goesL_ (some 15) rfl rfl Try.func91 (by kernel_rfl) rfl #[.agg #[.int .i64 a0_0, .slice A0_1 l0_1.length c0_1], .int .i64 x4_1] rfl lm ?_; (with_reducible refine (spec_l5Closure.calls k1 a0_0 _ _ l0_1 x4_1 t165006 _ ?side1 ?side2 A7.out).mono ?_); (case side1 => repeat (first | exact (Kd.C_below HR0_1.out (pB1 HB.out GE165001.out)) | (with_reducible refine Kd.C_alloc ?_ _) | (with_reducible refine Kd.C_drewN ?_ _) | (with_reducible refine Kd.C_drew ?_))); (case side2 => exact HC0_1.out); rintro e w14 ⟨rfl, hb⟩; refine ⟨_, rfl, ?_⟩; replace HO_3 := aQ (Kd.R_below (pR HO_3.out) hb); replace BK165001 := aQ (blk_below (g := gb165001) (o := .cells #[.int .i64 a0_0, .slice A0_1 l0_1.length c0_1] 26 (0, 0)) (pk BK165001.out) hb); replace HB := aQ (below_step (pB1 HB.out GE165001.out) hb); (try clear hb)))
     go_roundg k1
     case measure => have := HK1.out; omega
     case rel => exact ⟨(x3_1), (wrap64 (x4_1 + 1)), rs_, H', ⟨by have := HK1.out; omega⟩, ⟨pR HO_3.out⟩, ⟨pk BK165001.out⟩, ⟨pB1 HB.out GE165001.out⟩⟩
   ·rw [if_neg c6] at H
    have c6b0 : decide (x4_1 ≤ t165005) = false := decide_eq_false c6
    clear c6
    obtain rfl := Option.some.inj H
    have hcz15_0 := bc (v := (.int .i64 a0_0)) BK165001.out 0
    have hcz15_1 := bc (v := (.slice A0_1 l0_1.length c0_1)) BK165001.out 1
    have hfz15_0 := blk_frozen BK165001.out 0
    have hfz15_1 := blk_frozen BK165001.out 1
    go_wp2_with (first | ((with_reducible refine gate_callee (f := 57) rfl ?_); refine goesL_ (some 9) rfl rfl Try.func57 (by kernel_rfl) rfl #[.int .i64 a0_0] rfl lm ?_; (with_reducible refine (spec_FullSet.calls a0_0 t165005 _ A5.out).mono ?_); rintro e w' ⟨rfl, ⟨nd, rfl⟩⟩; refine ⟨_, rfl, ?_⟩))
    go_ret
    exact ⟨_, by first | rfl | (simp [errW_none, errW_some] <;> rfl) | (simp [*, errW_none, errW_some] <;> rfl), by (with_reducible repeat (first | apply Kd.R_alloc | apply Kd.R_drewN | apply Kd.R_drew)); exact HO_3.out, pB1 HB.out GE165001.out⟩
/-! ### spec_Flats: function 123 -/
def spec_Flats.f (k : Nat) (a0_0 : Int) (l0_1 : List Int) : Option (List Int) := (spec_IsMatroid.f k a0_0 l0_1).bind fun t124002 => (if t124002 = true then ((spec_l7Flats.f k a0_0 l0_1).bind fun t124003 => (some t124003)) else (some (([] : List Int))))
theorem spec_Flats.mono : ∀ a0 a1 k, LeO (spec_Flats.f k a0 a1) (spec_Flats.f (k + 1) a0 a1) := by
 intro a0 a1 k
 unfold spec_Flats.f
 repeat' first
   | (with_reducible exact spec_IsMatroid.mono _ _ _)
   | (with_reducible exact spec_l7Flats.mono _ _ _)
   | (with_reducible exact LeO.refl _)
   | (with_reducible exact LeO.none _)
   | (with_reducible refine LeO.ite ?_ ?_)
   | (with_reducible refine LeO.bind ?_ (fun _ => ?_))
   | exact spec_IsMatroid.mono _ _ _
   | exact spec_l7Flats.mono _ _ _
   | exact LeO.none _
   | refine LeO.ite ?_ ?_
   | refine LeO.bind ?_ (fun _ => ?_)
set_option maxHeartbeats 8000000 in
set_option maxRecDepth 100000 in
theorem spec_Flats.calls (k : Nat) (a0_0 : Int) (A0_1 : Option Addr) (c0_1 : Nat) (l0_1 : List Int) (r : List Int) (w : World) (hr0_1 : Kd.C (Kd.int .i64) w A0_1 l0_1.length l0_1) (hc0_1 : l0_1.length ≤ c0_1) (h : spec_Flats.f k a0_0 l0_1 = some r) :
  Calls Try.prog 123 #[.agg #[.int .i64 a0_0, .slice A0_1 l0_1.length c0_1]] w fun e w' => ∃ v0_ : Value, e = .returned (v0_) ∧ Kd.R (Kd.int .i64) 3 w' w.heap.size (fun _ => True) v0_ r ∧ Below w.heap.size w w' := by
 have hu26 := Try.underlying26
 have HR0_1 := aQ hr0_1
 have HC0_1 := aQ hc0_1
 clear hr0_1 hc0_1
 have HB := aQ (Below.refl w.heap.size w)
 have H : ((spec_IsMatroid.f k a0_0 l0_1).bind fun t124002 => (if t124002 = true then ((spec_l7Flats.f k a0_0 l0_1).bind fun t124003 => (some t124003)) else (some (([] : List Int))))) = some r := h
 clear h
 replace H := Option.bind_eq_some_iff.mp H
 obtain ⟨t124002, A20, H⟩ := H
 replace H : (if t124002 = true then ((spec_l7Flats.f k a0_0 l0_1).bind fun t124003 => (some t124003)) else (some (([] : List Int)))) = some r := H
 have A2 := aQ A20
 clear A20
 by_cases c3 : t124002 = true
 ·subst c3
  have H1 : ((spec_l7Flats.f k a0_0 l0_1).bind fun t124003 => (some t124003)) = some r := by rw [if_pos rfl] at H; exact H
  clear H
  have H := H1
  clear H1
  replace H := Option.bind_eq_some_iff.mp H
  obtain ⟨t124003, A40, H⟩ := H
  replace H : (some t124003) = some r := H
  have A4 := aQ A40
  clear A40
  obtain rfl := Option.some.inj H
  go_enter Try.func123, Try.ntmps123
  go_wp2_with (first | ((with_reducible refine gate_dst (N := 1) rfl ?_); refine box_event ?hg (N := 1) ?hd (cs := #[.int .i64 a0_0, .slice A0_1 l0_1.length c0_1]) (t := 26) ?hr ?_; (case hd => rfl); (case hg => rfl); (case hr => first | (go_simp; done) | (go_simp; rfl)); intro gb124001 hg w5 hbox hb; have BK124001 := aQ (hbox); have GW124001 := aQ ((by rw [hg]; exact (below_size (pB HB.out)) : w.heap.size ≤ gb124001)); have GE124001 := aQ ((by rw [hg]; exact (below_size (pB HB.out)) : w.heap.size ≤ gb124001)); replace HB := aQ (below_step (pB HB.out) hb); clear hb hbox hg; have hcz6_0 := bc (v := (.int .i64 a0_0)) BK124001.out 0; have hcz6_1 := bc (v := (.slice A0_1 l0_1.length c0_1)) BK124001.out 1; have hfz6_0 := blk_frozen BK124001.out 0; have hfz6_1 := blk_frozen BK124001.out 1) | ((with_reducible refine gate_callee (f := 74) rfl ?_); refine goesL_ (some 4) rfl rfl Try.func74 (by kernel_rfl) rfl #[.agg #[.int .i64 a0_0, .slice A0_1 l0_1.length c0_1]] rfl lm ?_; (with_reducible refine (spec_IsMatroid.calls k a0_0 _ _ l0_1 true _ ?side1 ?side2 A2.out).mono ?_); (case side1 => exact pC (Kd.C_below HR0_1.out HB.out)); (case side2 => exact HC0_1.out); rintro e w7 ⟨rfl, hb⟩; refine ⟨_, rfl, ?_⟩; replace BK124001 := aQ (blk_below (g := gb124001) (o := .cells #[.int .i64 a0_0, .slice A0_1 l0_1.length c0_1] 26 (0, 0)) (pk BK124001.out) hb); replace HB := aQ (below_step (pB1 HB.out GE124001.out) hb); (try clear hb); have hcz8_0 := bc (v := (.int .i64 a0_0)) BK124001.out 0; have hcz8_1 := bc (v := (.slice A0_1 l0_1.length c0_1)) BK124001.out 1; have hfz8_0 := blk_frozen BK124001.out 0; have hfz8_1 := blk_frozen BK124001.out 1) | ((with_reducible refine gate_callee (f := 164) rfl ?_); refine goesL_ (some 8) rfl rfl Try.func164 (by kernel_rfl) rfl #[.agg #[.int .i64 a0_0, .slice A0_1 l0_1.length c0_1]] rfl lm ?_; (with_reducible refine (spec_l7Flats.calls k a0_0 _ _ l0_1 t124003 _ ?side1 ?side2 A4.out).mono ?_); (case side1 => exact pC (Kd.C_below HR0_1.out HB.out)); (case side2 => exact HC0_1.out); rintro e w9 ⟨v124004, rfl, ho0, hb⟩; refine ⟨_, rfl, ?_⟩; have HO124005 := aQ (Kd.R_lower ho0 (below_size (pB1 HB.out GE124001.out))); replace BK124001 := aQ (blk_below (g := gb124001) (o := .cells #[.int .i64 a0_0, .slice A0_1 l0_1.length c0_1] 26 (0, 0)) (pk BK124001.out) hb); replace HB := aQ (below_step (pB1 HB.out GE124001.out) hb); (try clear hb); (try clear ho0)))
  go_ret
  exact ⟨_, by first | rfl | (simp [errW_none, errW_some] <;> rfl) | (simp [*, errW_none, errW_some] <;> rfl), by (with_reducible repeat (first | apply Kd.R_alloc | apply Kd.R_drewN | apply Kd.R_drew)); exact HO124005.out, pB1 HB.out GE124001.out⟩
 ·replace c3 := Bool.eq_false_iff.mpr c3
  subst c3
  have H1 : (some (([] : List Int))) = some r := by rw [if_neg (show ¬ (false = true) by decide)] at H; exact H
  clear H
  have H := H1
  clear H1
  obtain ⟨y124006, hy124006⟩ : ∃ y_ : List Int, y_ = (([] : List Int)) := ⟨_, rfl⟩
  replace H : (some y124006) = some r := by first | (rw [hy124006]; with_reducible exact H) | (have H2_ := (Option.bind_some _ _).symm.trans H; rw [hy124006]; with_reducible exact H2_) | (have H2_ := (Option.bind_some _ _).symm.trans H; with_reducible exact H2_) | with_reducible exact H | (rw [hy124006]; exact H) | exact H
  have Ny124006 := aQ hy124006
  clear hy124006
  obtain rfl := Option.some.inj H
  go_enter Try.func123, Try.ntmps123
  go_wp2_with (first | ((with_reducible refine gate_dst (N := 1) rfl ?_); refine box_event ?hg (N := 1) ?hd (cs := #[.int .i64 a0_0, .slice A0_1 l0_1.length c0_1]) (t := 26) ?hr ?_; (case hd => rfl); (case hg => rfl); (case hr => first | (go_simp; done) | (go_simp; rfl)); intro gb124001 hg w10 hbox hb; have BK124001 := aQ (hbox); have GW124001 := aQ ((by rw [hg]; exact (below_size (pB HB.out)) : w.heap.size ≤ gb124001)); have GE124001 := aQ ((by rw [hg]; exact (below_size (pB HB.out)) : w.heap.size ≤ gb124001)); replace HB := aQ (below_step (pB HB.out) hb); clear hb hbox hg; have hcz11_0 := bc (v := (.int .i64 a0_0)) BK124001.out 0; have hcz11_1 := bc (v := (.slice A0_1 l0_1.length c0_1)) BK124001.out 1; have hfz11_0 := blk_frozen BK124001.out 0; have hfz11_1 := blk_frozen BK124001.out 1) | ((with_reducible refine gate_callee (f := 74) rfl ?_); refine goesL_ (some 4) rfl rfl Try.func74 (by kernel_rfl) rfl #[.agg #[.int .i64 a0_0, .slice A0_1 l0_1.length c0_1]] rfl lm ?_; (with_reducible refine (spec_IsMatroid.calls k a0_0 _ _ l0_1 false _ ?side1 ?side2 A2.out).mono ?_); (case side1 => exact pC (Kd.C_below HR0_1.out HB.out)); (case side2 => exact HC0_1.out); rintro e w12 ⟨rfl, hb⟩; refine ⟨_, rfl, ?_⟩; replace BK124001 := aQ (blk_below (g := gb124001) (o := .cells #[.int .i64 a0_0, .slice A0_1 l0_1.length c0_1] 26 (0, 0)) (pk BK124001.out) hb); replace HB := aQ (below_step (pB1 HB.out GE124001.out) hb); (try clear hb)) | ((with_reducible refine gate_dst (N := 6) rfl ?_); refine Kd.R_lit (Kd.int .i64) _ 3 ?hg (N := 6) ?hd (xs := ([] : List Int)) (inner := []) (ok := fun _ => True) (okp := fun _ => True) ?hr ?hp (fun _ hk => hk) trivial (Below.refl _ _) (Nat.le_refl _) (by simp) ?_; (case hd => rfl); (case hg => rfl); (case hr => first | (go_simp; done) | (go_simp; rfl)); (case hp => exact (Reps.none _ _)); intro v124007 w13 ho14 hb hg_ hnew_; clear hg_ hnew_; (first | rw [← Ny124006.out] at ho14 | (simp only [Int.reduceToNat] at ho14; rw [← Ny124006.out] at ho14)); have HO124008 := aQ (Kd.R_lower ho14 (below_size (pB1 HB.out GE124001.out))); replace BK124001 := aQ (blk_below (g := gb124001) (o := .cells #[.int .i64 a0_0, .slice A0_1 l0_1.length c0_1] 26 (0, 0)) (pk BK124001.out) hb); replace HB := aQ (below_step (pB1 HB.out GE124001.out) hb); clear hb ho14))
  go_ret
  exact ⟨_, by first | rfl | (simp [errW_none, errW_some] <;> rfl) | (simp [*, errW_none, errW_some] <;> rfl), by (with_reducible repeat (first | apply Kd.R_alloc | apply Kd.R_drewN | apply Kd.R_drew)); exact HO124008.out, pB1 HB.out GE124001.out⟩
/-! ### spec_l17Modular: function 165 -/
def spec_l17Modular.f (k : Nat) (a0_0 : Int) (l0_1 : List Int) (a1 : Int) (a2 : Int) : Option (Bool) := (spec_l5Rank.f k a0_0 l0_1 a1).bind fun t166002 => ((spec_l5Rank.f k a0_0 l0_1 a2).bind fun t166003 => ((spec_l5Rank.f k a0_0 l0_1 (Go.bits .and .i64 a1 a2)).bind fun t166004 => ((spec_l5Rank.f k a0_0 l0_1 (Go.bits .or .i64 a1 a2)).bind fun t166005 => (some ((wrap64 (t166002 + t166003)) == (wrap64 (t166004 + t166005)))))))
theorem spec_l17Modular.mono : ∀ a0 a1 a2 a3 k, LeO (spec_l17Modular.f k a0 a1 a2 a3) (spec_l17Modular.f (k + 1) a0 a1 a2 a3) := by
 intro a0 a1 a2 a3 k
 unfold spec_l17Modular.f
 repeat' first
   | (with_reducible exact spec_l5Rank.mono _ _ _ _)
   | (with_reducible exact LeO.refl _)
   | (with_reducible exact LeO.none _)
   | (with_reducible refine LeO.ite ?_ ?_)
   | (with_reducible refine LeO.bind ?_ (fun _ => ?_))
   | exact spec_l5Rank.mono _ _ _ _
   | exact LeO.none _
   | refine LeO.ite ?_ ?_
   | refine LeO.bind ?_ (fun _ => ?_)
def spec_l17Modular.T1 : Bool × List (List Nat × List Nat) := (true, [([], []), ([], []), ([0, 1], [0, 1]), ([], []), ([], []), ([3, 4, 2], [3, 4]), ([2, 5], [2, 5]), ([], []), ([], []), ([], []), ([8, 9], [8, 9]), ([7, 10, 5], [7, 10]), ([], []), ([], []), ([], []), ([13, 14], [13, 14]), ([12, 15, 11], [12, 15]), ([11, 16], [11, 16]), ([6, 17], [6, 17]), ([18, 16, 0, 1, 2, 3, 4, 5, 6, 7, 8, 9, 10, 11, 12, 13, 14, 15, 16, 17, 18], [18])])
def spec_l17Modular.B1 : List Nat := [0, 0, 3, 0, 0, 31, 63, 0, 0, 0, 768, 1983, 0, 0, 0, 24576, 65471, 131007, 262143, 524287]
theorem spec_l17Modular.tab1 : rtab .any (opsOf Try.f165 1) = spec_l17Modular.T1 := by kernel_rfl
theorem spec_l17Modular.bits1 : waitsOk spec_l17Modular.T1.2 spec_l17Modular.B1 = true := by kernel_rfl
set_option maxHeartbeats 8000000 in
set_option maxRecDepth 100000 in
theorem spec_l17Modular.calls (k : Nat) (a0_0 : Int) (A0_1 : Option Addr) (c0_1 : Nat) (l0_1 : List Int) (a1 : Int) (a2 : Int) (r : Bool) (w : World) (hr0_1 : Kd.C (Kd.int .i64) w A0_1 l0_1.length l0_1) (hc0_1 : l0_1.length ≤ c0_1) (h : spec_l17Modular.f k a0_0 l0_1 a1 a2 = some r) :
  Calls Try.prog 165 #[.agg #[.int .i64 a0_0, .slice A0_1 l0_1.length c0_1], .int .i64 a1, .int .i64 a2] w fun e w' => e = .returned (.bool r) ∧ Below w.heap.size w w' := by
 have hu26 := Try.underlying26
 have HR0_1 := aQ hr0_1
 have HC0_1 := aQ hc0_1
 clear hr0_1 hc0_1
 have HB := aQ (Below.refl w.heap.size w)
 have H : ((spec_l5Rank.f k a0_0 l0_1 a1).bind fun t166002 => ((spec_l5Rank.f k a0_0 l0_1 a2).bind fun t166003 => ((spec_l5Rank.f k a0_0 l0_1 (Go.bits .and .i64 a1 a2)).bind fun t166004 => ((spec_l5Rank.f k a0_0 l0_1 (Go.bits .or .i64 a1 a2)).bind fun t166005 => (some ((wrap64 (t166002 + t166003)) == (wrap64 (t166004 + t166005)))))))) = some r := h
 clear h
 replace H := Option.bind_eq_some_iff.mp H
 obtain ⟨t166002, A40, H⟩ := H
 replace H : ((spec_l5Rank.f k a0_0 l0_1 a2).bind fun t166003 => ((spec_l5Rank.f k a0_0 l0_1 (Go.bits .and .i64 a1 a2)).bind fun t166004 => ((spec_l5Rank.f k a0_0 l0_1 (Go.bits .or .i64 a1 a2)).bind fun t166005 => (some ((wrap64 (t166002 + t166003)) == (wrap64 (t166004 + t166005))))))) = some r := H
 have A4 := aQ A40
 clear A40
 replace H := Option.bind_eq_some_iff.mp H
 obtain ⟨t166003, A50, H⟩ := H
 replace H : ((spec_l5Rank.f k a0_0 l0_1 (Go.bits .and .i64 a1 a2)).bind fun t166004 => ((spec_l5Rank.f k a0_0 l0_1 (Go.bits .or .i64 a1 a2)).bind fun t166005 => (some ((wrap64 (t166002 + t166003)) == (wrap64 (t166004 + t166005)))))) = some r := H
 have A5 := aQ A50
 clear A50
 replace H := Option.bind_eq_some_iff.mp H
 obtain ⟨t166004, A60, H⟩ := H
 replace H : ((spec_l5Rank.f k a0_0 l0_1 (Go.bits .or .i64 a1 a2)).bind fun t166005 => (some ((wrap64 (t166002 + t166003)) == (wrap64 (t166004 + t166005))))) = some r := H
 have A6 := aQ A60
 clear A60
 replace H := Option.bind_eq_some_iff.mp H
 obtain ⟨t166005, A70, H⟩ := H
 replace H : (some ((wrap64 (t166002 + t166003)) == (wrap64 (t166004 + t166005)))) = some r := H
 have A7 := aQ A70
 clear A70
 obtain rfl := Option.some.inj H
 go_enter Try.func165, Try.ntmps165
 try go_wp2_with (first | ((with_reducible refine gate_dst (N := 3) rfl ?_); refine box_event ?hg (N := 3) ?hd (cs := #[.int .i64 a0_0, .slice A0_1 l0_1.length c0_1]) (t := 26) ?hr ?_; (case hd => rfl); (case hg => rfl); (case hr => first | (go_simp; done) | (go_simp; rfl)); intro gb166001 hg w8 hbox hb; have BK166001 := aQ (hbox); have GW166001 := aQ ((by rw [hg]; exact (below_size (pB HB.out)) : w.heap.size ≤ gb166001)); have GE166001 := aQ ((by rw [hg]; exact (below_size (pB HB.out)) : w.heap.size ≤ gb166001)); replace HB := aQ (below_step (pB HB.out) hb); clear hb hbox hg))
 have n0_ := aQ (blk_drew BK166001.out)
 have n1_ := aQ (below_drew1 HB.out)
 clear BK166001
 clear HB
 have BK166001 := n0_
 have HB := n1_
 clear n0_ n1_
 refine start_ (n := 20) (S := fun w' => w'.cell? ⟨gb166001, 0, none⟩ = some (.int .i64 a0_0) ∧ w'.cell? ⟨gb166001, 1, none⟩ = some (.slice A0_1 l0_1.length c0_1)) (ds := []) #[false, false, false, false, false, false, false, false, false, false, false, false, false, false, false, false, false, false, false, false] (by kernel_rfl) rfl rfl ⟨(blk_cell BK166001.out 0).trans rfl, (blk_cell BK166001.out 1).trans rfl⟩ (fun hHeld => ?_); refine with_tabW spec_l17Modular.tab1 spec_l17Modular.bits1 (fun HT_ HW_ => ?_)
 generalize w8.drew = w9 at BK166001 HB hHeld ⊢
 refine puA (i := 1) (N := some 8) HT_ (h := ?_)
 refine puA (i := 4) (N := some 11) HT_ (h := ?_)
 refine puA (i := 8) (N := some 15) HT_ (h := ?_)
 refine puA (i := 9) (N := some 16) HT_ (h := ?_)
 refine puA (i := 10) (N := some 17) HT_ (h := ?_)
 refine puA (i := 13) (N := some 20) HT_ (h := ?_)
 refine puA (i := 14) (N := some 21) HT_ (h := ?_)
 refine puA (i := 15) (N := some 22) HT_ (h := ?_)
 refine taA2 (i := 0) (N := some 7) HT_ HW_ hHeld (h := ?_)
 refine taA2 (i := 3) (N := some 10) HT_ HW_ hHeld (h := ?_)
 refine taA2 (i := 7) (N := some 14) HT_ HW_ hHeld (h := ?_)
 refine taA2 (i := 12) (N := some 19) HT_ HW_ hHeld (h := ?_)
 refine onA (i := 2) (N := some 9) HT_ (h := fun K hK => ?_)
 refine goes_ Try.func59 (by kernel_rfl) rfl #[.agg #[.int .i64 a0_0, .slice A0_1 l0_1.length c0_1], .int .i64 a1] (by rfl) rfl rfl lm ?_
 with_reducible refine (spec_l5Rank.calls k a0_0 _ _ l0_1 a1 t166002 _ ?side1 ?side2 A4.out).mono ?_
 (case side1 => exact pC (Kd.C_below HR0_1.out HB.out))
 (case side2 => exact HC0_1.out)
 rintro e w10 ⟨rfl, hb⟩
 refine ⟨_, rfl, ?_⟩
 have n0_ := aQ (blk_below (g := gb166001) (o := .cells #[.int .i64 a0_0, .slice A0_1 l0_1.length c0_1] 26 (0, 0)) (pk BK166001.out) hb)
 have n1_ := aQ (below_step (pB1 HB.out GE166001.out) hb)
 clear BK166001
 clear HB
 have BK166001 := n0_
 have HB := n1_
 clear n0_ n1_
 (try clear hb)
 (try clear hb2)
 (try clear hk)
 (try clear hi)
 refine hK.out _ _ ⟨(blk_cell BK166001.out 0).trans rfl, (blk_cell BK166001.out 1).trans rfl⟩ (fun hHeld => ?_)
 clear hK K
 refine noA (h := ?_)
 refine onA (i := 5) (N := some 12) HT_ (h := fun K hK => ?_)
 refine goes_ Try.func59 (by kernel_rfl) rfl #[.agg #[.int .i64 a0_0, .slice A0_1 l0_1.length c0_1], .int .i64 a2] (by rfl) rfl rfl lm ?_
 with_reducible refine (spec_l5Rank.calls k a0_0 _ _ l0_1 a2 t166003 _ ?side1 ?side2 A5.out).mono ?_
 (case side1 => exact pC (Kd.C_below HR0_1.out HB.out))
 (case side2 => exact HC0_1.out)
 rintro e w11 ⟨rfl, hb⟩
 refine ⟨_, rfl, ?_⟩
 have n0_ := aQ (blk_below (g := gb166001) (o := .cells #[.int .i64 a0_0, .slice A0_1 l0_1.length c0_1] 26 (0, 0)) (pk BK166001.out) hb)
 have n1_ := aQ (below_step (pB1 HB.out GE166001.out) hb)
 clear BK166001
 clear HB
 have BK166001 := n0_
 have HB := n1_
 clear n0_ n1_
 (try clear hb)
 (try clear hb2)
 (try clear hk)
 (try clear hi)
 refine hK.out _ _ ⟨(blk_cell BK166001.out 0).trans rfl, (blk_cell BK166001.out 1).trans rfl⟩ (fun hHeld => ?_)
 clear hK K
 refine noA (h := ?_)
 refine puA (i := 6) (N := some 13) HT_ (h := ?_)
 refine onA (i := 11) (N := some 18) HT_ (h := fun K hK => ?_)
 refine goes_ Try.func59 (by kernel_rfl) rfl #[.agg #[.int .i64 a0_0, .slice A0_1 l0_1.length c0_1], .int .i64 (Go.bits .and .i64 a1 a2)] (by rfl) rfl rfl lm ?_
 with_reducible refine (spec_l5Rank.calls k a0_0 _ _ l0_1 (Go.bits .and .i64 a1 a2) t166004 _ ?side1 ?side2 A6.out).mono ?_
 (case side1 => exact pC (Kd.C_below HR0_1.out HB.out))
 (case side2 => exact HC0_1.out)
 rintro e w12 ⟨rfl, hb⟩
 refine ⟨_, rfl, ?_⟩
 have n0_ := aQ (blk_below (g := gb166001) (o := .cells #[.int .i64 a0_0, .slice A0_1 l0_1.length c0_1] 26 (0, 0)) (pk BK166001.out) hb)
 have n1_ := aQ (below_step (pB1 HB.out GE166001.out) hb)
 clear BK166001
 clear HB
 have BK166001 := n0_
 have HB := n1_
 clear n0_ n1_
 (try clear hb)
 (try clear hb2)
 (try clear hk)
 (try clear hi)
 refine hK.out _ _ ⟨(blk_cell BK166001.out 0).trans rfl, (blk_cell BK166001.out 1).trans rfl⟩ (fun hHeld => ?_)
 clear hK K
 refine noA (h := ?_)
 refine onA (i := 16) (N := some 23) HT_ (h := fun K hK => ?_)
 refine goes_ Try.func59 (by kernel_rfl) rfl #[.agg #[.int .i64 a0_0, .slice A0_1 l0_1.length c0_1], .int .i64 (Go.bits .or .i64 a1 a2)] (by rfl) rfl rfl lm ?_
 with_reducible refine (spec_l5Rank.calls k a0_0 _ _ l0_1 (Go.bits .or .i64 a1 a2) t166005 _ ?side1 ?side2 A7.out).mono ?_
 (case side1 => exact pC (Kd.C_below HR0_1.out HB.out))
 (case side2 => exact HC0_1.out)
 rintro e w13 ⟨rfl, hb⟩
 refine ⟨_, rfl, ?_⟩
 have n0_ := aQ (blk_below (g := gb166001) (o := .cells #[.int .i64 a0_0, .slice A0_1 l0_1.length c0_1] 26 (0, 0)) (pk BK166001.out) hb)
 have n1_ := aQ (below_step (pB1 HB.out GE166001.out) hb)
 clear BK166001
 clear HB
 have BK166001 := n0_
 have HB := n1_
 clear n0_ n1_
 (try clear hb)
 (try clear hb2)
 (try clear hk)
 (try clear hi)
 refine hK.out _ _ ⟨(blk_cell BK166001.out 0).trans rfl, (blk_cell BK166001.out 1).trans rfl⟩ (fun hHeld => ?_)
 clear hK K
 refine noA (h := ?_)
 refine puA (i := 17) (N := some 24) HT_ (h := ?_)
 refine puA (i := 18) (N := some 25) HT_ (h := ?_)
 refine puA (i := 19) (N := some 6) HT_ (h := ?_)
 refine done_ (done_of HT_.out (by kernel_rfl)) ?_
 try go_wp2
 go_ret
 exact ⟨re_, pB1 HB.out GE166001.out⟩
end Go.Proofs.Ytagncnjllpebjaa.A
