/- The machine side of the law FnExactRelax, laid by a program of this work over the kit's print and contracts by hand: Go functions as Lean functions, and proofs that calls come to what these tell. Conditions: those in each theorem. -/
import Derived.Test.YtinoamehdhgpgaaMFnExactRelaxwRepsOne
import Derived.Test.YtinoamehdhgpgaaMFnExactRelax0
import Derived.Test.YtinoamehdhgpgaaMFnExactRelax2
import Derived.Test.YtinoamehdhgpgaaMFnExactRelax3
import Derived.Test.YtinoamehdhgpgaaMFnExactRelax4
import Derived.Test.YtinoamehdhgpgaaMFnExactRelax5
namespace Go.Proofs.Ytinoamehdhgpgaa.A
open Go.RowKit Go.Proofs.YtinoamehdhgpgaaW.PrintWords Go.Proofs.YtinoamehdhgpgaaW.PrintLast Go.Proofs.YtinoamehdhgpgaaW.PrintMore
attribute [local go_sem] max2_int min2_int max_two min_two max_three min_three max_four min_four   -- for this text's walks alone
set_option linter.unusedVariables false
set_option linter.unusedSimpArgs false

/-! ### impl_FlatsOfRank: function 257 -/
def impl_FlatsOfRank.l0 : Nat → Int → List Int → List Int → Int → Int → Int → List Int → Option (List Int)
 | 0, _, _, _, _, _, _, _ => none
 | k + 1, x1, x5, x10, x11, x12, x258002000, x258002001 => if x12 < x11 then (if 0 ≤ x12 then (if x12 < (x10.length : Int) then ((impl_rankIn.f k x258002000 x258002001 (rd x10 x12)).bind fun t258009 => (if t258009 = x1 then (if x5.length < 17592186044416 then (impl_FlatsOfRank.l0 k x1 (x5 ++ [rd x10 x12]) x10 x11 (wrap64 (x12 + 1)) x258002000 x258002001) else (none)) else (impl_FlatsOfRank.l0 k x1 x5 x10 x11 (wrap64 (x12 + 1)) x258002000 x258002001))) else (none)) else (none)) else (some x5)
def impl_FlatsOfRank.f (k : Nat) (a0_0 : Int) (l0_1 : List Int) (a1 : Int) : Option (List Int) := (impl_Flats.f k a0_0 l0_1).bind fun t258005 => (impl_FlatsOfRank.l0 k a1 (([] : List Int)) t258005 (t258005.length : Int) 0 a0_0 l0_1)
theorem impl_FlatsOfRank.mono_l : ∀ k, (∀ y0 y1 y2 y3 y4 y5 y6, LeO (impl_FlatsOfRank.l0 k y0 y1 y2 y3 y4 y5 y6) (impl_FlatsOfRank.l0 (k + 1) y0 y1 y2 y3 y4 y5 y6))
 | 0 => fun _ _ _ _ _ _ _ r h => by simp [impl_FlatsOfRank.l0] at h
 | k + 1 => by
  have ih0 := impl_FlatsOfRank.mono_l k
  ·intro y0 y1 y2 y3 y4 y5 y6
   unfold impl_FlatsOfRank.l0
   repeat' first
   | (with_reducible exact ih0 _ _ _ _ _ _ _)
   | (with_reducible exact impl_Flats.mono _ _ _)
   | (with_reducible exact impl_rankIn.mono _ _ _ _)
   | (with_reducible exact LeO.refl _)
   | (with_reducible exact LeO.none _)
   | (with_reducible refine LeO.ite ?_ ?_)
   | (with_reducible refine LeO.bind ?_ (fun _ => ?_))
   | exact ih0 _ _ _ _ _ _ _
   | exact impl_Flats.mono _ _ _
   | exact impl_rankIn.mono _ _ _ _
   | exact LeO.none _
   | refine LeO.ite ?_ ?_
   | refine LeO.bind ?_ (fun _ => ?_)
theorem impl_FlatsOfRank.mono : ∀ a0 a1 a2 k, LeO (impl_FlatsOfRank.f k a0 a1 a2) (impl_FlatsOfRank.f (k + 1) a0 a1 a2) := by
 intro a0 a1 a2 k
 have ih0 := impl_FlatsOfRank.mono_l k
 unfold impl_FlatsOfRank.f
 repeat' first
   | (with_reducible exact ih0 _ _ _ _ _ _ _)
   | (with_reducible exact impl_Flats.mono _ _ _)
   | (with_reducible exact impl_rankIn.mono _ _ _ _)
   | (with_reducible exact LeO.refl _)
   | (with_reducible exact LeO.none _)
   | (with_reducible refine LeO.ite ?_ ?_)
   | (with_reducible refine LeO.bind ?_ (fun _ => ?_))
   | exact ih0 _ _ _ _ _ _ _
   | exact impl_Flats.mono _ _ _
   | exact impl_rankIn.mono _ _ _ _
   | exact LeO.none _
   | refine LeO.ite ?_ ?_
   | refine LeO.bind ?_ (fun _ => ?_)
set_option maxHeartbeats 8000000 in
set_option maxRecDepth 100000 in
theorem impl_FlatsOfRank.calls (k : Nat) (a0_0 : Int) (A0_1 : Option Addr) (c0_1 : Nat) (l0_1 : List Int) (a1 : Int) (r : List Int) (w : World) (hr0_1 : Kd.C (Kd.int .i64) w A0_1 l0_1.length l0_1) (hc0_1 : l0_1.length ≤ c0_1) (h : impl_FlatsOfRank.f k a0_0 l0_1 a1 = some r) :
  Calls Try.prog 257 #[.agg #[.int .i64 a0_0, .slice A0_1 l0_1.length c0_1], .int .i64 a1] w fun e w' => ∃ v0_ : Value, e = .returned (v0_) ∧ Kd.R (Kd.int .i64) 3 w' w.heap.size (fun _ => True) v0_ r ∧ Below w.heap.size w w' := by
 have hu28 := Try.underlying28
 have HR0_1 := aQ hr0_1
 have HC0_1 := aQ hc0_1
 clear hr0_1 hc0_1
 have HB := aQ (Below.refl w.heap.size w)
 have H : ((impl_Flats.f k a0_0 l0_1).bind fun t258005 => (impl_FlatsOfRank.l0 k a1 (([] : List Int)) t258005 (t258005.length : Int) 0 a0_0 l0_1)) = some r := h
 clear h
 obtain ⟨y258002, hy258002⟩ : ∃ y_ : List Int, y_ = (([] : List Int)) := ⟨_, rfl⟩
 replace H : ((impl_Flats.f k a0_0 l0_1).bind fun t258005 => (impl_FlatsOfRank.l0 k a1 y258002 t258005 (t258005.length : Int) 0 a0_0 l0_1)) = some r := by first | (rw [hy258002]; with_reducible exact H) | (have H2_ := (Option.bind_some _ _).symm.trans H; rw [hy258002]; with_reducible exact H2_) | (have H2_ := (Option.bind_some _ _).symm.trans H; with_reducible exact H2_) | with_reducible exact H | (rw [hy258002]; exact H) | exact H
 have Ny258002 := aQ hy258002
 clear hy258002
 replace H := Option.bind_eq_some_iff.mp H
 obtain ⟨t258005, A30, H⟩ := H
 replace H : (impl_FlatsOfRank.l0 k a1 y258002 t258005 (t258005.length : Int) 0 a0_0 l0_1) = some r := H
 have A3 := aQ A30
 clear A30
 have H' := aQ H
 clear H
 go_enter Try.func257, Try.ntmps257
 go_wp2_with (first | ((with_reducible refine gate_dst (N := 2) rfl ?_); refine box_event ?hg (N := 2) ?hd (cs := #[.int .i64 a0_0, .slice A0_1 l0_1.length c0_1]) (t := 28) ?hr ?_; (case hd => rfl); (case hg => rfl); (case hr => first | (go_simp; done) | (go_simp; rfl)); intro gb258001 hg w4 hbox hb; have BK258001 := aQ (hbox); have GW258001 := aQ ((by rw [hg]; exact (below_size (pB HB.out)) : w.heap.size ≤ gb258001)); have GE258001 := aQ ((by rw [hg]; exact (below_size (pB HB.out)) : w.heap.size ≤ gb258001)); replace HB := aQ (below_step (pB HB.out) hb); clear hb hbox hg) | ((with_reducible refine gate_dst (N := 8) rfl ?_); refine Kd.R_lit (Kd.int .i64) _ 3 ?hg (N := 8) ?hd (xs := ([] : List Int)) (inner := []) (ok := fun _ => True) (okp := fun _ => True) ?hr ?hp (fun _ hk => hk) trivial (Below.refl _ _) (Nat.le_refl _) (by simp) ?_; (case hd => rfl); (case hg => rfl); (case hr => first | (go_simp; done) | (go_simp; rfl)); (case hp => exact (Reps.none _ _)); intro v258003 w5 ho6 hb hg_ hnew_; clear hg_ hnew_; (first | rw [← Ny258002.out] at ho6 | (simp only [Int.reduceToNat] at ho6; rw [← Ny258002.out] at ho6)); have HO258004 := aQ (Kd.R_lower ho6 (below_size (pB1 HB.out GE258001.out))); replace BK258001 := aQ (blk_below (g := gb258001) (o := .cells #[.int .i64 a0_0, .slice A0_1 l0_1.length c0_1] 28 (0, 0)) (pk BK258001.out) hb); replace HB := aQ (below_step (pB1 HB.out GE258001.out) hb); clear hb ho6; have hcz7_0 := bc (v := (.int .i64 a0_0)) BK258001.out 0; have hcz7_1 := bc (v := (.slice A0_1 l0_1.length c0_1)) BK258001.out 1; have hfz7_0 := blk_frozen BK258001.out 0; have hfz7_1 := blk_frozen BK258001.out 1) | ((with_reducible refine gate_callee (f := 214) rfl ?_); refine goesL_ (some 10) rfl rfl Try.func214 (by kernel_rfl) rfl #[.agg #[.int .i64 a0_0, .slice A0_1 l0_1.length c0_1]] rfl lm ?_; (with_reducible refine (impl_Flats.calls k a0_0 _ _ l0_1 t258005 _ ?side1 ?side2 A3.out).mono ?_); (case side1 => exact pC (Kd.C_below HR0_1.out HB.out)); (case side2 => exact HC0_1.out); rintro e w8 ⟨v258006, rfl, ho0, hb⟩; refine ⟨_, rfl, ?_⟩; have HO258007 := aQ (Kd.R_lower (Kd.R_new' ho0 (Kd.R_lt (pR HO258004.out))) (below_size (pB1 HB.out GE258001.out))); replace HO258004 := aQ (Kd.R_elder' (pR HO258004.out) (Kd.R_base ho0) hb); replace BK258001 := aQ (blk_below (g := gb258001) (o := .cells #[.int .i64 a0_0, .slice A0_1 l0_1.length c0_1] 28 (0, 0)) (pk BK258001.out) hb); replace HB := aQ (below_step (pB1 HB.out GE258001.out) hb); (try clear hb); (try clear ho0); obtain ⟨Ao9, co9, eo9⟩ := Kd.R_slice HO258007.out; subst eo9))
 go_loopg [5, 12] k (fun kq v5 v12 w' => ∃ (x5_1 : List Int) (x12_1 : Int), v12 = .int .i64 x12_1 ∧ Aside0 (impl_FlatsOfRank.l0 kq a1 x5_1 t258005 (t258005.length : Int) x12_1 a0_0 l0_1 = some r) ∧ Aside0 (kq ≤ k) ∧ Aside0 (Kd.R (Kd.int .i64) 3 w' w.heap.size (fun k_ => some k_ ≠ ((.slice Ao9 t258005.length co9) : Value).ownBlock) v5 x5_1) ∧ Aside0 (Kd.R (Kd.int .i64) 3 w' w.heap.size (fun k_ => some k_ ≠ (v5 : Value).ownBlock) (.slice Ao9 t258005.length co9) t258005) ∧ Aside0 (w'.heap[gb258001]? = some (.cells #[.int .i64 a0_0, (.slice A0_1 l0_1.length c0_1)] 28 (0, 0))) ∧ Aside0 (Below w.heap.size w w'))
 case atStart => exact ⟨(y258002), (0), rs_, H', ⟨Nat.le_refl _⟩, ⟨by (with_reducible repeat (first | apply Kd.R_alloc | apply Kd.R_drewN | apply Kd.R_drew)); exact Kd.R_mono HO258004.out (fun _ hk => hk.2)⟩, ⟨by (with_reducible repeat (first | apply Kd.R_alloc | apply Kd.R_drewN | apply Kd.R_drew)); exact Kd.R_mono HO258007.out (fun _ hk => hk.2)⟩, ⟨pk BK258001.out⟩, ⟨pB1 HB.out GE258001.out⟩⟩
 case round =>
  clear H'
  try clear c2
  try clear p2
  try clear hcz7_0
  try clear hcz7_1
  try clear hfz7_0
  try clear hfz7_1
  obtain ⟨x5_1, x12_1, rfl, HA, HK1, HO_5, HO_10, BK258001, HB⟩ := hrel
  cases gk with
  | zero => exact absurd HA.out (by simp [impl_FlatsOfRank.l0])
  | succ k1 =>
   have H := HA.out
   clear HA
   simp only [impl_FlatsOfRank.l0] at H
   by_cases c10 : x12_1 < (t258005.length : Int)
   ·rw [if_pos c10] at H
    have c10b0 : decide (x12_1 < (t258005.length : Int)) = true := decide_eq_true c10
    clear c10
    by_cases c11 : 0 ≤ x12_1
    ·rw [if_pos c11] at H
     have c11b0 : decide (0 ≤ x12_1) = true := decide_eq_true c11
     clear c11
     by_cases c12 : x12_1 < (t258005.length : Int)
     ·rw [if_pos c12] at H
      have c12b0 : decide (x12_1 < (t258005.length : Int)) = true := decide_eq_true c12
      clear c12
      replace H := Option.bind_eq_some_iff.mp H
      obtain ⟨t258009, A130, H⟩ := H
      replace H : (if t258009 = a1 then (if x5_1.length < 17592186044416 then (impl_FlatsOfRank.l0 k1 a1 (x5_1 ++ [rd t258005 x12_1]) t258005 (t258005.length : Int) (wrap64 (x12_1 + 1)) a0_0 l0_1) else (none)) else (impl_FlatsOfRank.l0 k1 a1 x5_1 t258005 (t258005.length : Int) (wrap64 (x12_1 + 1)) a0_0 l0_1)) = some r := H
      have A13 := aQ A130
      clear A130
      by_cases c14 : t258009 = a1
      ·rw [if_pos c14] at H
       have c14b0 : (t258009 == a1) = true := beq_iff_eq.mpr c14
       have c14b1 : (t258009 != a1) = false := bne_eq_false_iff_eq.mpr c14
       clear c14
       by_cases c15 : x5_1.length < 17592186044416
       ·rw [if_pos c15] at H
        have LMc15 := aQ c15
        clear c15
        obtain ⟨y258010, hy258010⟩ : ∃ y_ : List Int, y_ = (x5_1 ++ [rd t258005 x12_1]) := ⟨_, rfl⟩
        replace H : (impl_FlatsOfRank.l0 k1 a1 y258010 t258005 (t258005.length : Int) (wrap64 (x12_1 + 1)) a0_0 l0_1) = some r := by first | (rw [hy258010]; with_reducible exact H) | (have H2_ := (Option.bind_some _ _).symm.trans H; rw [hy258010]; with_reducible exact H2_) | (have H2_ := (Option.bind_some _ _).symm.trans H; with_reducible exact H2_) | with_reducible exact H | (rw [hy258010]; exact H) | exact H
        have Ny258010 := aQ hy258010
        clear hy258010
        have H' := aQ H
        clear H
        have p258008 : 0 ≤ (x12_1 : Int) := of_decide_eq_true as_
        have q258008 : x12_1 < (t258005.length : Int) := of_decide_eq_true as_
        obtain ⟨ad258008, e258008, hx258008_0⟩ := Kd.at_int (Kd.R_reads' HO_10.out).2.2 x12_1 p258008 q258008
        cases e258008
        replace p258008 := eq_true p258008
        replace q258008 := eq_true q258008
        have hcz16_0 := bc (v := (.int .i64 a0_0)) BK258001.out 0
        have hcz16_1 := bc (v := (.slice A0_1 l0_1.length c0_1)) BK258001.out 1
        have hfz16_0 := blk_frozen BK258001.out 0
        have hfz16_1 := blk_frozen BK258001.out 1
        go_wp2_with (first | ((with_reducible refine gate_callee (f := 123) rfl ?_); refine goesL_ (some 18) rfl rfl Try.func123 (by kernel_rfl) rfl #[.agg #[.int .i64 a0_0, .slice A0_1 l0_1.length c0_1], .int .i64 (rd t258005 x12_1)] rfl lm ?_; (with_reducible refine (impl_rankIn.calls k1 a0_0 _ _ l0_1 (rd t258005 x12_1) t258009 _ ?side1 ?side2 A13.out).mono ?_); (case side1 => exact pC (Kd.C_below HR0_1.out HB.out)); (case side2 => exact HC0_1.out); rintro e w17 ⟨rfl, hb⟩; refine ⟨_, rfl, ?_⟩; replace HO_5 := aQ (Kd.R_below (pR HO_5.out) hb); replace HO_10 := aQ (Kd.R_below (pR HO_10.out) hb); replace BK258001 := aQ (blk_below (g := gb258001) (o := .cells #[.int .i64 a0_0, .slice A0_1 l0_1.length c0_1] 28 (0, 0)) (pk BK258001.out) hb); replace HB := aQ (below_step (pB1 HB.out GE258001.out) hb); (try clear hb)) | ((with_reducible refine gate_builtin (b := .append) (xs := #[.tmp 21, .tmp 23]) rfl ?_); at_builtin; refine Kd.R_append (Kd.int .i64) (w0 := w) w.heap.size rfl (.tmp 21) (.tmp 23) 22 3 (.int .i64 0) 8 rfl Try.underlying22 info3 rfl (by decide) (by omega) u5 x5_1 (rd t258005 x12_1) [.int .i64 (rd t258005 x12_1)] (fun k_ => some k_ ≠ (.slice (some ad258008) t258005.length co9 : Value).ownBlock) (fun _ => False) rfl rfl ?aP (fun _ hk => hk.elim) ?aF ?aO ?aB ?aS ?aL ?_; (case aP => exact rfl); (case aB => exact (pB1 HB.out GE258001.out)); (case aF => exact (fun k_ hk => Kd.fresh' (Kd.R_lt (pR HO_10.out)) k_ hk)); (case aO => exact (pR HO_5.out)); (case aS => exact (below_size (pB1 HB.out GE258001.out))); (case aL => have := LMc15.out; omega); intro v258011 w18 ho hb hg hat; rw [← Ny258010.out] at ho; replace HO_10 := aQ (Kd.R_after (ok := (fun _ => True)) (by (with_reducible repeat (first | apply Kd.R_alloc | apply Kd.R_drewN | apply Kd.R_drew)); exact Kd.R_mono HO_10.out (fun _ hk => ⟨trivial, hk⟩)) hg hat); replace BK258001 := aQ (blk_grown (g := gb258001) (o := .cells #[.int .i64 a0_0, .slice A0_1 l0_1.length c0_1] 28 (0, 0)) (pk BK258001.out) hg (Kd.R_ne HO_5.out BK258001.out (by decide))); replace HB := aQ (hb); have HO258012 := aQ (ho); clear HO_5; clear ho hb hg hat))
        go_roundg k1
        case measure => have := HK1.out; omega
        case rel => exact ⟨(y258010), (wrap64 (x12_1 + 1)), rs_, H', ⟨by have := HK1.out; omega⟩, ⟨pR HO258012.out⟩, ⟨by (with_reducible repeat (first | apply Kd.R_alloc | apply Kd.R_drewN | apply Kd.R_drew)); exact Kd.R_mono HO_10.out (fun _ hk => hk.2)⟩, ⟨pk BK258001.out⟩, ⟨pB1 HB.out GE258001.out⟩⟩
       ·rw [if_neg c15] at H
        exact absurd H (by simp)
      ·rw [if_neg c14] at H
       have c14b0 : (t258009 == a1) = false := beq_eq_false_iff_ne.mpr c14
       have c14b1 : (t258009 != a1) = true := bne_iff_ne.mpr c14
       have H' := aQ H
       clear H
       have p258008 : 0 ≤ (x12_1 : Int) := of_decide_eq_true as_
       have q258008 : x12_1 < (t258005.length : Int) := of_decide_eq_true as_
       obtain ⟨ad258008, e258008, hx258008_0⟩ := Kd.at_int (Kd.R_reads' HO_10.out).2.2 x12_1 p258008 q258008
       cases e258008
       replace p258008 := eq_true p258008
       replace q258008 := eq_true q258008
       have hcz19_0 := bc (v := (.int .i64 a0_0)) BK258001.out 0
       have hcz19_1 := bc (v := (.slice A0_1 l0_1.length c0_1)) BK258001.out 1
       have hfz19_0 := blk_frozen BK258001.out 0
       have hfz19_1 := blk_frozen BK258001.out 1
       go_wp2_with (first | ((with_reducible refine gate_callee (f := 123) rfl ?_); refine goesL_ (some 18) rfl rfl Try.func123 (by kernel_rfl) rfl #[.agg #[.int .i64 a0_0, .slice A0_1 l0_1.length c0_1], .int .i64 (rd t258005 x12_1)] rfl lm ?_; (with_reducible refine (impl_rankIn.calls k1 a0_0 _ _ l0_1 (rd t258005 x12_1) t258009 _ ?side1 ?side2 A13.out).mono ?_); (case side1 => exact pC (Kd.C_below HR0_1.out HB.out)); (case side2 => exact HC0_1.out); rintro e w20 ⟨rfl, hb⟩; refine ⟨_, rfl, ?_⟩; replace HO_5 := aQ (Kd.R_below (pR HO_5.out) hb); replace HO_10 := aQ (Kd.R_below (pR HO_10.out) hb); replace BK258001 := aQ (blk_below (g := gb258001) (o := .cells #[.int .i64 a0_0, .slice A0_1 l0_1.length c0_1] 28 (0, 0)) (pk BK258001.out) hb); replace HB := aQ (below_step (pB1 HB.out GE258001.out) hb); (try clear hb)))
       go_roundg k1
       case measure => have := HK1.out; omega
       case rel => exact ⟨(x5_1), (wrap64 (x12_1 + 1)), rs_, H', ⟨by have := HK1.out; omega⟩, ⟨pR HO_5.out⟩, ⟨pR HO_10.out⟩, ⟨pk BK258001.out⟩, ⟨pB1 HB.out GE258001.out⟩⟩
     ·rw [if_neg c12] at H
      exact absurd H (by simp)
    ·rw [if_neg c11] at H
     exact absurd H (by simp)
   ·rw [if_neg c10] at H
    have c10b0 : decide (x12_1 < (t258005.length : Int)) = false := decide_eq_false c10
    clear c10
    obtain rfl := Option.some.inj H
    go_wp2
    go_ret
    exact ⟨_, by first | rfl | (simp [errW_none, errW_some] <;> rfl) | (simp [*, errW_none, errW_some] <;> rfl), by (with_reducible repeat (first | apply Kd.R_alloc | apply Kd.R_drewN | apply Kd.R_drew)); exact Kd.R_mono HO_5.out (fun _ hk => trivial), pB1 HB.out GE258001.out⟩
/-! ### impl_Hyperplanes: function 212 -/
def impl_Hyperplanes.f (k : Nat) (a0_0 : Int) (l0_1 : List Int) : Option (List Int) := (impl_RankOfMatroid.f k a0_0 l0_1).bind fun t213002 => ((impl_FlatsOfRank.f k a0_0 l0_1 (wrap64 (t213002 - 1))).bind fun t213003 => (some t213003))
theorem impl_Hyperplanes.mono : ∀ a0 a1 k, LeO (impl_Hyperplanes.f k a0 a1) (impl_Hyperplanes.f (k + 1) a0 a1) := by
 intro a0 a1 k
 unfold impl_Hyperplanes.f
 repeat' first
   | (with_reducible exact impl_FlatsOfRank.mono _ _ _ _)
   | (with_reducible exact impl_RankOfMatroid.mono _ _ _)
   | (with_reducible exact LeO.refl _)
   | (with_reducible exact LeO.none _)
   | (with_reducible refine LeO.ite ?_ ?_)
   | (with_reducible refine LeO.bind ?_ (fun _ => ?_))
   | exact impl_FlatsOfRank.mono _ _ _ _
   | exact impl_RankOfMatroid.mono _ _ _
   | exact LeO.none _
   | refine LeO.ite ?_ ?_
   | refine LeO.bind ?_ (fun _ => ?_)
set_option maxHeartbeats 8000000 in
set_option maxRecDepth 100000 in
theorem impl_Hyperplanes.calls (k : Nat) (a0_0 : Int) (A0_1 : Option Addr) (c0_1 : Nat) (l0_1 : List Int) (r : List Int) (w : World) (hr0_1 : Kd.C (Kd.int .i64) w A0_1 l0_1.length l0_1) (hc0_1 : l0_1.length ≤ c0_1) (h : impl_Hyperplanes.f k a0_0 l0_1 = some r) :
  Calls Try.prog 212 #[.agg #[.int .i64 a0_0, .slice A0_1 l0_1.length c0_1]] w fun e w' => ∃ v0_ : Value, e = .returned (v0_) ∧ Kd.R (Kd.int .i64) 3 w' w.heap.size (fun _ => True) v0_ r ∧ Below w.heap.size w w' := by
 have hu28 := Try.underlying28
 have HR0_1 := aQ hr0_1
 have HC0_1 := aQ hc0_1
 clear hr0_1 hc0_1
 have HB := aQ (Below.refl w.heap.size w)
 have H : ((impl_RankOfMatroid.f k a0_0 l0_1).bind fun t213002 => ((impl_FlatsOfRank.f k a0_0 l0_1 (wrap64 (t213002 - 1))).bind fun t213003 => (some t213003))) = some r := h
 clear h
 replace H := Option.bind_eq_some_iff.mp H
 obtain ⟨t213002, A20, H⟩ := H
 replace H : ((impl_FlatsOfRank.f k a0_0 l0_1 (wrap64 (t213002 - 1))).bind fun t213003 => (some t213003)) = some r := H
 have A2 := aQ A20
 clear A20
 replace H := Option.bind_eq_some_iff.mp H
 obtain ⟨t213003, A30, H⟩ := H
 replace H : (some t213003) = some r := H
 have A3 := aQ A30
 clear A30
 obtain rfl := Option.some.inj H
 go_enter Try.func212, Try.ntmps212
 try go_wp2_with (first | ((with_reducible refine gate_dst (N := 1) rfl ?_); refine box_event ?hg (N := 1) ?hd (cs := #[.int .i64 a0_0, .slice A0_1 l0_1.length c0_1]) (t := 28) ?hr ?_; (case hd => rfl); (case hg => rfl); (case hr => first | (go_simp; done) | (go_simp; rfl)); intro gb213001 hg w4 hbox hb; have BK213001 := aQ (hbox); have GW213001 := aQ ((by rw [hg]; exact (below_size (pB HB.out)) : w.heap.size ≤ gb213001)); have GE213001 := aQ ((by rw [hg]; exact (below_size (pB HB.out)) : w.heap.size ≤ gb213001)); replace HB := aQ (below_step (pB HB.out) hb); clear hb hbox hg))
 have n0_ := aQ (blk_drew BK213001.out)
 have n1_ := aQ (below_drew1 HB.out)
 clear BK213001
 clear HB
 have BK213001 := n0_
 have HB := n1_
 clear n0_ n1_
 refine start_ (n := 6) (S := fun w' => w'.cell? ⟨gb213001, 0, none⟩ = some (.int .i64 a0_0) ∧ w'.cell? ⟨gb213001, 1, none⟩ = some (.slice A0_1 l0_1.length c0_1)) (ds := []) #[false, false, false, false, false, false] (by kernel_rfl) rfl rfl ⟨(blk_cell BK213001.out 0).trans rfl, (blk_cell BK213001.out 1).trans rfl⟩ (fun hHeld => ?_)
 generalize w4.drew = w5 at BK213001 HB hHeld ⊢
 refine take_ (i := 0) (N := some 3) (v := ?_) (a' := ?_) #[true, false, false, false, false, false] rfl rfl (by kernel_rfl) (fun _ _ _ h => h) (Or.inl ⟨by rfl, ?_⟩) hHeld ?_ ?_
 rotate_left
 ·rintro w' ⟨s0, s1⟩
  go_simp
  with_reducible rfl
 rotate_left
 ·simp only [Act.put, List.setIfInBounds_toArray, List.set_cons_zero, List.set_cons_succ, i64_w, i32_w]
  rfl
 refine take_ (i := 1) (N := some 4) (v := ?_) (a' := ?_) #[true, true, false, false, false, false] rfl rfl (by kernel_rfl) (fun _ _ _ h => h) (Or.inl ⟨by rfl, ?_⟩) hHeld ?_ ?_
 rotate_left
 ·rintro w' ⟨s0, s1⟩
  go_simp
  with_reducible rfl
 rotate_left
 ·simp only [Act.put, List.setIfInBounds_toArray, List.set_cons_zero, List.set_cons_succ, i64_w, i32_w]
  rfl
 refine one_ (i := 2) (N := some 5) #[true, true, true, false, false, false] rfl rfl (by kernel_rfl) (by decide) (fun K hK => ?_)
 refine goes_ Try.func112 (by kernel_rfl) rfl #[.agg #[.int .i64 a0_0, .slice A0_1 l0_1.length c0_1]] (by rfl) rfl rfl lm ?_
 with_reducible refine (impl_RankOfMatroid.calls k a0_0 _ _ l0_1 t213002 _ ?side1 ?side2 A2.out).mono ?_
 (case side1 => exact pC (Kd.C_below HR0_1.out HB.out))
 (case side2 => exact HC0_1.out)
 rintro e w6 ⟨rfl, hb⟩
 refine ⟨_, rfl, ?_⟩
 have n0_ := aQ (blk_below (g := gb213001) (o := .cells #[.int .i64 a0_0, .slice A0_1 l0_1.length c0_1] 28 (0, 0)) (pk BK213001.out) hb)
 have n1_ := aQ (below_step (pB1 HB.out GE213001.out) hb)
 clear BK213001
 clear HB
 have BK213001 := n0_
 have HB := n1_
 clear n0_ n1_
 (try clear hb)
 (try clear hb2)
 (try clear hk)
 (try clear hi)
 refine hK.out _ _ ⟨(blk_cell BK213001.out 0).trans rfl, (blk_cell BK213001.out 1).trans rfl⟩ (fun hHeld => ?_)
 clear hK K
 refine norm_ (a' := ?_) ?_ ?_
 rotate_left
 ·show Act.put _ (some 5) _ = _
  simp only [Act.put, List.setIfInBounds_toArray, List.set_cons_zero, List.set_cons_succ, i64_w, i32_w]
  rfl
 refine pure_ (i := 3) (N := some 6) (v := ?_) (a' := ?_) #[true, true, true, true, false, false] rfl rfl (by kernel_rfl) (fun _ _ _ h => h) (Or.inl ⟨by rfl, ?_⟩) ?_ ?_
 rotate_left
 ·intro w'
  go_simp
  with_reducible rfl
 rotate_left
 ·simp only [Act.put, List.setIfInBounds_toArray, List.set_cons_zero, List.set_cons_succ, i64_w, i32_w]
  rfl
 refine one_ (i := 4) (N := some 7) #[true, true, true, true, true, false] rfl rfl (by kernel_rfl) (by decide) (fun K hK => ?_)
 refine goes_ Try.func257 (by kernel_rfl) rfl #[.agg #[.int .i64 a0_0, .slice A0_1 l0_1.length c0_1], .int .i64 (wrap64 (t213002 - 1))] (by rfl) rfl rfl lm ?_
 with_reducible refine (impl_FlatsOfRank.calls k a0_0 _ _ l0_1 (wrap64 (t213002 - 1)) t213003 _ ?side1 ?side2 A3.out).mono ?_
 (case side1 => exact pC (Kd.C_below HR0_1.out HB.out))
 (case side2 => exact HC0_1.out)
 rintro e w7 ⟨v213004, rfl, ho0, hb⟩
 refine ⟨_, rfl, ?_⟩
 have n0_ := aQ (Kd.R_lower ho0 (below_size (pB1 HB.out GE213001.out)))
 have n1_ := aQ (blk_below (g := gb213001) (o := .cells #[.int .i64 a0_0, .slice A0_1 l0_1.length c0_1] 28 (0, 0)) (pk BK213001.out) hb)
 have n2_ := aQ (below_step (pB1 HB.out GE213001.out) hb)
 clear BK213001
 clear HB
 have HO213005 := n0_
 have BK213001 := n1_
 have HB := n2_
 clear n0_ n1_ n2_
 (try clear hb)
 (try clear hb2)
 (try clear hk)
 (try clear hi)
 (try clear ho0)
 refine hK.out _ _ ⟨(blk_cell BK213001.out 0).trans rfl, (blk_cell BK213001.out 1).trans rfl⟩ (fun hHeld => ?_)
 clear hK K
 refine norm_ (a' := ?_) ?_ ?_
 rotate_left
 ·show Act.put _ (some 7) _ = _
  simp only [Act.put, List.setIfInBounds_toArray, List.set_cons_zero, List.set_cons_succ, i64_w, i32_w]
  rfl
 refine pure_ (i := 5) (N := some 2) (v := ?_) (a' := ?_) #[true, true, true, true, true, true] rfl rfl (by kernel_rfl) (fun _ _ _ h => h) (Or.inl ⟨by rfl, ?_⟩) ?_ ?_
 rotate_left
 ·intro w'
  go_simp
  with_reducible rfl
 rotate_left
 ·simp only [Act.put, List.setIfInBounds_toArray, List.set_cons_zero, List.set_cons_succ, i64_w, i32_w]
  rfl
 refine done_ (by kernel_rfl) ?_
 try go_wp2
 go_ret
 exact ⟨_, by first | rfl | (simp [errW_none, errW_some] <;> rfl) | (simp [*, errW_none, errW_some] <;> rfl), by (with_reducible repeat (first | apply Kd.R_alloc | apply Kd.R_drewN | apply Kd.R_drew)); exact HO213005.out, pB1 HB.out GE213001.out⟩
/-! ### impl_IsRelaxable: function 101 -/
def impl_IsRelaxable.f (k : Nat) (a0_0 : Int) (l0_1 : List Int) (a1 : Int) : Option (Bool) := (impl_IsMatroid.f k a0_0 l0_1).bind fun t102002 => (if t102002 = true then ((impl_Circuits.f k a0_0 l0_1).bind fun t102003 => ((impl_HasSet.f k t102003 a1).bind fun t102006 => (if t102006 = true then ((impl_Hyperplanes.f k a0_0 l0_1).bind fun t102007 => ((impl_HasSet.f k t102007 a1).bind fun t102010 => (some t102010))) else (some false)))) else (some false))
theorem impl_IsRelaxable.mono : ∀ a0 a1 a2 k, LeO (impl_IsRelaxable.f k a0 a1 a2) (impl_IsRelaxable.f (k + 1) a0 a1 a2) := by
 intro a0 a1 a2 k
 unfold impl_IsRelaxable.f
 repeat' first
   | (with_reducible exact impl_Circuits.mono _ _ _)
   | (with_reducible exact impl_HasSet.mono _ _ _)
   | (with_reducible exact impl_Hyperplanes.mono _ _ _)
   | (with_reducible exact impl_IsMatroid.mono _ _ _)
   | (with_reducible exact LeO.refl _)
   | (with_reducible exact LeO.none _)
   | (with_reducible refine LeO.ite ?_ ?_)
   | (with_reducible refine LeO.bind ?_ (fun _ => ?_))
   | exact impl_Circuits.mono _ _ _
   | exact impl_HasSet.mono _ _ _
   | exact impl_Hyperplanes.mono _ _ _
   | exact impl_IsMatroid.mono _ _ _
   | exact LeO.none _
   | refine LeO.ite ?_ ?_
   | refine LeO.bind ?_ (fun _ => ?_)
set_option maxHeartbeats 8000000 in
set_option maxRecDepth 100000 in
theorem impl_IsRelaxable.calls (k : Nat) (a0_0 : Int) (A0_1 : Option Addr) (c0_1 : Nat) (l0_1 : List Int) (a1 : Int) (r : Bool) (w : World) (hr0_1 : Kd.C (Kd.int .i64) w A0_1 l0_1.length l0_1) (hc0_1 : l0_1.length ≤ c0_1) (h : impl_IsRelaxable.f k a0_0 l0_1 a1 = some r) :
  Calls Try.prog 101 #[.agg #[.int .i64 a0_0, .slice A0_1 l0_1.length c0_1], .int .i64 a1] w fun e w' => e = .returned (.bool r) ∧ Below w.heap.size w w' := by
 have hu28 := Try.underlying28
 have HR0_1 := aQ hr0_1
 have HC0_1 := aQ hc0_1
 clear hr0_1 hc0_1
 have HB := aQ (Below.refl w.heap.size w)
 have H : ((impl_IsMatroid.f k a0_0 l0_1).bind fun t102002 => (if t102002 = true then ((impl_Circuits.f k a0_0 l0_1).bind fun t102003 => ((impl_HasSet.f k t102003 a1).bind fun t102006 => (if t102006 = true then ((impl_Hyperplanes.f k a0_0 l0_1).bind fun t102007 => ((impl_HasSet.f k t102007 a1).bind fun t102010 => (some t102010))) else (some false)))) else (some false))) = some r := h
 clear h
 replace H := Option.bind_eq_some_iff.mp H
 obtain ⟨t102002, A30, H⟩ := H
 replace H : (if t102002 = true then ((impl_Circuits.f k a0_0 l0_1).bind fun t102003 => ((impl_HasSet.f k t102003 a1).bind fun t102006 => (if t102006 = true then ((impl_Hyperplanes.f k a0_0 l0_1).bind fun t102007 => ((impl_HasSet.f k t102007 a1).bind fun t102010 => (some t102010))) else (some false)))) else (some false)) = some r := H
 have A3 := aQ A30
 clear A30
 by_cases c4 : t102002 = true
 ·subst c4
  have H1 : ((impl_Circuits.f k a0_0 l0_1).bind fun t102003 => ((impl_HasSet.f k t102003 a1).bind fun t102006 => (if t102006 = true then ((impl_Hyperplanes.f k a0_0 l0_1).bind fun t102007 => ((impl_HasSet.f k t102007 a1).bind fun t102010 => (some t102010))) else (some false)))) = some r := by rw [if_pos rfl] at H; exact H
  clear H
  have H := H1
  clear H1
  replace H := Option.bind_eq_some_iff.mp H
  obtain ⟨t102003, A50, H⟩ := H
  replace H : ((impl_HasSet.f k t102003 a1).bind fun t102006 => (if t102006 = true then ((impl_Hyperplanes.f k a0_0 l0_1).bind fun t102007 => ((impl_HasSet.f k t102007 a1).bind fun t102010 => (some t102010))) else (some false))) = some r := H
  have A5 := aQ A50
  clear A50
  replace H := Option.bind_eq_some_iff.mp H
  obtain ⟨t102006, A60, H⟩ := H
  replace H : (if t102006 = true then ((impl_Hyperplanes.f k a0_0 l0_1).bind fun t102007 => ((impl_HasSet.f k t102007 a1).bind fun t102010 => (some t102010))) else (some false)) = some r := H
  have A6 := aQ A60
  clear A60
  by_cases c7 : t102006 = true
  ·subst c7
   have H1 : ((impl_Hyperplanes.f k a0_0 l0_1).bind fun t102007 => ((impl_HasSet.f k t102007 a1).bind fun t102010 => (some t102010))) = some r := by rw [if_pos rfl] at H; exact H
   clear H
   have H := H1
   clear H1
   replace H := Option.bind_eq_some_iff.mp H
   obtain ⟨t102007, A80, H⟩ := H
   replace H : ((impl_HasSet.f k t102007 a1).bind fun t102010 => (some t102010)) = some r := H
   have A8 := aQ A80
   clear A80
   replace H := Option.bind_eq_some_iff.mp H
   obtain ⟨t102010, A90, H⟩ := H
   replace H : (some t102010) = some r := H
   have A9 := aQ A90
   clear A90
   obtain rfl := Option.some.inj H
   go_enter Try.func101, Try.ntmps101
   go_wp2_with (first | ((with_reducible refine gate_dst (N := 2) rfl ?_); refine box_event ?hg (N := 2) ?hd (cs := #[.int .i64 a0_0, .slice A0_1 l0_1.length c0_1]) (t := 28) ?hr ?_; (case hd => rfl); (case hg => rfl); (case hr => first | (go_simp; done) | (go_simp; rfl)); intro gb102001 hg w10 hbox hb; have BK102001 := aQ (hbox); have GW102001 := aQ ((by rw [hg]; exact (below_size (pB HB.out)) : w.heap.size ≤ gb102001)); have GE102001 := aQ ((by rw [hg]; exact (below_size (pB HB.out)) : w.heap.size ≤ gb102001)); replace HB := aQ (below_step (pB HB.out) hb); clear hb hbox hg; have hcz11_0 := bc (v := (.int .i64 a0_0)) BK102001.out 0; have hcz11_1 := bc (v := (.slice A0_1 l0_1.length c0_1)) BK102001.out 1; have hfz11_0 := blk_frozen BK102001.out 0; have hfz11_1 := blk_frozen BK102001.out 1) | ((with_reducible refine gate_callee (f := 132) rfl ?_); refine goesL_ (some 6) rfl rfl Try.func132 (by kernel_rfl) rfl #[.agg #[.int .i64 a0_0, .slice A0_1 l0_1.length c0_1]] rfl lm ?_; (with_reducible refine (impl_IsMatroid.calls k a0_0 _ _ l0_1 true _ ?side1 ?side2 A3.out).mono ?_); (case side1 => exact pC (Kd.C_below HR0_1.out HB.out)); (case side2 => exact HC0_1.out); rintro e w12 ⟨rfl, hb⟩; refine ⟨_, rfl, ?_⟩; replace BK102001 := aQ (blk_below (g := gb102001) (o := .cells #[.int .i64 a0_0, .slice A0_1 l0_1.length c0_1] 28 (0, 0)) (pk BK102001.out) hb); replace HB := aQ (below_step (pB1 HB.out GE102001.out) hb); (try clear hb); have hcz13_0 := bc (v := (.int .i64 a0_0)) BK102001.out 0; have hcz13_1 := bc (v := (.slice A0_1 l0_1.length c0_1)) BK102001.out 1; have hfz13_0 := blk_frozen BK102001.out 0; have hfz13_1 := blk_frozen BK102001.out 1) | (go_at_call 208; (with_reducible refine (impl_Circuits.calls k a0_0 _ _ l0_1 t102003 _ ?side1 ?side2 A5.out).mono ?_); (case side1 => exact pC (Kd.C_below HR0_1.out HB.out)); (case side2 => exact HC0_1.out); rintro e w14 ⟨v102004, rfl, ho0, hb⟩; have HO102005 := aQ (Kd.R_lower ho0 (below_size (pB1 HB.out GE102001.out))); replace BK102001 := aQ (blk_below (g := gb102001) (o := .cells #[.int .i64 a0_0, .slice A0_1 l0_1.length c0_1] 28 (0, 0)) (pk BK102001.out) hb); replace HB := aQ (below_step (pB1 HB.out GE102001.out) hb); (try clear hb); (try clear ho0); obtain ⟨Ao15, co15, eo15⟩ := Kd.R_slice HO102005.out; subst eo15) | (go_at_call 157; (with_reducible refine (impl_HasSet.calls k _ _ t102003 a1 true _ ?side1 ?side2 A6.out).mono ?_); (case side1 => repeat (first | exact (Kd.R_reads' HO102005.out).2.2 | (with_reducible refine Kd.C_alloc ?_ _) | (with_reducible refine Kd.C_drewN ?_ _) | (with_reducible refine Kd.C_drew ?_))); (case side2 => exact (Kd.R_reads' HO102005.out).2.1); rintro e w' ⟨rfl, ⟨nd, rfl⟩⟩; have hcz16_0 := bc (v := (.int .i64 a0_0)) BK102001.out 0; have hcz16_1 := bc (v := (.slice A0_1 l0_1.length c0_1)) BK102001.out 1; have hfz16_0 := blk_frozen BK102001.out 0; have hfz16_1 := blk_frozen BK102001.out 1) | (go_at_call 212; (with_reducible refine (impl_Hyperplanes.calls k a0_0 _ _ l0_1 t102007 _ ?side1 ?side2 A8.out).mono ?_); (case side1 => repeat (first | exact (Kd.C_below HR0_1.out (pB1 HB.out GE102001.out)) | (with_reducible refine Kd.C_alloc ?_ _) | (with_reducible refine Kd.C_drewN ?_ _) | (with_reducible refine Kd.C_drew ?_))); (case side2 => exact HC0_1.out); rintro e w17 ⟨v102008, rfl, ho0, hb⟩; have HO102009 := aQ (Kd.R_lower (Kd.R_new' ho0 (Kd.R_lt (pR HO102005.out))) (below_size (pB1 HB.out GE102001.out))); replace HO102005 := aQ (Kd.R_elder' (pR HO102005.out) (Kd.R_base ho0) hb); replace BK102001 := aQ (blk_below (g := gb102001) (o := .cells #[.int .i64 a0_0, .slice A0_1 l0_1.length c0_1] 28 (0, 0)) (pk BK102001.out) hb); replace HB := aQ (below_step (pB1 HB.out GE102001.out) hb); (try clear hb); (try clear ho0); obtain ⟨Ao18, co18, eo18⟩ := Kd.R_slice HO102009.out; subst eo18) | (go_at_call 157; (with_reducible refine (impl_HasSet.calls k _ _ t102007 a1 t102010 _ ?side1 ?side2 A9.out).mono ?_); (case side1 => repeat (first | exact (Kd.R_reads' HO102009.out).2.2 | (with_reducible refine Kd.C_alloc ?_ _) | (with_reducible refine Kd.C_drewN ?_ _) | (with_reducible refine Kd.C_drew ?_))); (case side2 => exact (Kd.R_reads' HO102009.out).2.1); rintro e w' ⟨rfl, ⟨nd, rfl⟩⟩))
   go_ret
   exact ⟨re_, pB1 HB.out GE102001.out⟩
  ·replace c7 := Bool.eq_false_iff.mpr c7
   subst c7
   have H1 : (some false) = some r := by rw [if_neg (show ¬ (false = true) by decide)] at H; exact H
   clear H
   have H := H1
   clear H1
   obtain rfl := Option.some.inj H
   go_enter Try.func101, Try.ntmps101
   go_wp2_with (first | ((with_reducible refine gate_dst (N := 2) rfl ?_); refine box_event ?hg (N := 2) ?hd (cs := #[.int .i64 a0_0, .slice A0_1 l0_1.length c0_1]) (t := 28) ?hr ?_; (case hd => rfl); (case hg => rfl); (case hr => first | (go_simp; done) | (go_simp; rfl)); intro gb102001 hg w19 hbox hb; have BK102001 := aQ (hbox); have GW102001 := aQ ((by rw [hg]; exact (below_size (pB HB.out)) : w.heap.size ≤ gb102001)); have GE102001 := aQ ((by rw [hg]; exact (below_size (pB HB.out)) : w.heap.size ≤ gb102001)); replace HB := aQ (below_step (pB HB.out) hb); clear hb hbox hg; have hcz20_0 := bc (v := (.int .i64 a0_0)) BK102001.out 0; have hcz20_1 := bc (v := (.slice A0_1 l0_1.length c0_1)) BK102001.out 1; have hfz20_0 := blk_frozen BK102001.out 0; have hfz20_1 := blk_frozen BK102001.out 1) | ((with_reducible refine gate_callee (f := 132) rfl ?_); refine goesL_ (some 6) rfl rfl Try.func132 (by kernel_rfl) rfl #[.agg #[.int .i64 a0_0, .slice A0_1 l0_1.length c0_1]] rfl lm ?_; (with_reducible refine (impl_IsMatroid.calls k a0_0 _ _ l0_1 true _ ?side1 ?side2 A3.out).mono ?_); (case side1 => exact pC (Kd.C_below HR0_1.out HB.out)); (case side2 => exact HC0_1.out); rintro e w21 ⟨rfl, hb⟩; refine ⟨_, rfl, ?_⟩; replace BK102001 := aQ (blk_below (g := gb102001) (o := .cells #[.int .i64 a0_0, .slice A0_1 l0_1.length c0_1] 28 (0, 0)) (pk BK102001.out) hb); replace HB := aQ (below_step (pB1 HB.out GE102001.out) hb); (try clear hb); have hcz22_0 := bc (v := (.int .i64 a0_0)) BK102001.out 0; have hcz22_1 := bc (v := (.slice A0_1 l0_1.length c0_1)) BK102001.out 1; have hfz22_0 := blk_frozen BK102001.out 0; have hfz22_1 := blk_frozen BK102001.out 1) | (go_at_call 208; (with_reducible refine (impl_Circuits.calls k a0_0 _ _ l0_1 t102003 _ ?side1 ?side2 A5.out).mono ?_); (case side1 => exact pC (Kd.C_below HR0_1.out HB.out)); (case side2 => exact HC0_1.out); rintro e w23 ⟨v102004, rfl, ho0, hb⟩; have HO102005 := aQ (Kd.R_lower ho0 (below_size (pB1 HB.out GE102001.out))); replace BK102001 := aQ (blk_below (g := gb102001) (o := .cells #[.int .i64 a0_0, .slice A0_1 l0_1.length c0_1] 28 (0, 0)) (pk BK102001.out) hb); replace HB := aQ (below_step (pB1 HB.out GE102001.out) hb); (try clear hb); (try clear ho0); obtain ⟨Ao24, co24, eo24⟩ := Kd.R_slice HO102005.out; subst eo24) | (go_at_call 157; (with_reducible refine (impl_HasSet.calls k _ _ t102003 a1 false _ ?side1 ?side2 A6.out).mono ?_); (case side1 => repeat (first | exact (Kd.R_reads' HO102005.out).2.2 | (with_reducible refine Kd.C_alloc ?_ _) | (with_reducible refine Kd.C_drewN ?_ _) | (with_reducible refine Kd.C_drew ?_))); (case side2 => exact (Kd.R_reads' HO102005.out).2.1); rintro e w' ⟨rfl, ⟨nd, rfl⟩⟩))
   go_ret
   exact ⟨re_, pB1 HB.out GE102001.out⟩
 ·replace c4 := Bool.eq_false_iff.mpr c4
  subst c4
  have H1 : (some false) = some r := by rw [if_neg (show ¬ (false = true) by decide)] at H; exact H
  clear H
  have H := H1
  clear H1
  obtain rfl := Option.some.inj H
  go_enter Try.func101, Try.ntmps101
  go_wp2_with (first | ((with_reducible refine gate_dst (N := 2) rfl ?_); refine box_event ?hg (N := 2) ?hd (cs := #[.int .i64 a0_0, .slice A0_1 l0_1.length c0_1]) (t := 28) ?hr ?_; (case hd => rfl); (case hg => rfl); (case hr => first | (go_simp; done) | (go_simp; rfl)); intro gb102001 hg w25 hbox hb; have BK102001 := aQ (hbox); have GW102001 := aQ ((by rw [hg]; exact (below_size (pB HB.out)) : w.heap.size ≤ gb102001)); have GE102001 := aQ ((by rw [hg]; exact (below_size (pB HB.out)) : w.heap.size ≤ gb102001)); replace HB := aQ (below_step (pB HB.out) hb); clear hb hbox hg; have hcz26_0 := bc (v := (.int .i64 a0_0)) BK102001.out 0; have hcz26_1 := bc (v := (.slice A0_1 l0_1.length c0_1)) BK102001.out 1; have hfz26_0 := blk_frozen BK102001.out 0; have hfz26_1 := blk_frozen BK102001.out 1) | ((with_reducible refine gate_callee (f := 132) rfl ?_); refine goesL_ (some 6) rfl rfl Try.func132 (by kernel_rfl) rfl #[.agg #[.int .i64 a0_0, .slice A0_1 l0_1.length c0_1]] rfl lm ?_; (with_reducible refine (impl_IsMatroid.calls k a0_0 _ _ l0_1 false _ ?side1 ?side2 A3.out).mono ?_); (case side1 => exact pC (Kd.C_below HR0_1.out HB.out)); (case side2 => exact HC0_1.out); rintro e w27 ⟨rfl, hb⟩; refine ⟨_, rfl, ?_⟩; replace BK102001 := aQ (blk_below (g := gb102001) (o := .cells #[.int .i64 a0_0, .slice A0_1 l0_1.length c0_1] 28 (0, 0)) (pk BK102001.out) hb); replace HB := aQ (below_step (pB1 HB.out GE102001.out) hb); (try clear hb)))
  go_ret
  exact ⟨re_, pB1 HB.out GE102001.out⟩
/-! ### spec_Relax: function 107 -/
def spec_Relax.f (k : Nat) (a0_0 : Int) (l0_1 : List Int) (a1 : Int) : Option (Int × List Int × Bool) := (spec_IsRelaxable.f k a0_0 l0_1 a1).bind fun t108003 => (if t108003 = true then ((some (([] : List Int) : List Int)).bind fun y108004 => (if y108004.length + l0_1.length < 17592186044416 then ((some (y108004 ++ l0_1 : List Int)).bind fun y108007 => ((some (([a1] : List Int) : List Int)).bind fun y108010 => (if y108007.length + y108010.length < 17592186044416 then ((spec_SortSets.f k (y108007 ++ y108010)).bind fun t108016 => (some (a0_0, t108016, true))) else (none)))) else (none))) else (some (0, ([] : List Int), false)))
theorem spec_Relax.mono : ∀ a0 a1 a2 k, LeO (spec_Relax.f k a0 a1 a2) (spec_Relax.f (k + 1) a0 a1 a2) := by
 intro a0 a1 a2 k
 unfold spec_Relax.f
 repeat' first
   | (with_reducible exact spec_IsRelaxable.mono _ _ _ _)
   | (with_reducible exact spec_SortSets.mono _ _)
   | (with_reducible exact LeO.refl _)
   | (with_reducible exact LeO.none _)
   | (with_reducible refine LeO.ite ?_ ?_)
   | (with_reducible refine LeO.bind ?_ (fun _ => ?_))
   | exact spec_IsRelaxable.mono _ _ _ _
   | exact spec_SortSets.mono _ _
   | exact LeO.none _
   | refine LeO.ite ?_ ?_
   | refine LeO.bind ?_ (fun _ => ?_)
def spec_Relax.T3 : Bool × List (List Nat × List Nat) := (true, [([], []), ([0], [0]), ([], []), ([], []), ([3], [3]), ([2, 4], [2, 4]), ([], []), ([6], [6]), ([5, 7, 5], [5, 7]), ([8, 8], [8]), ([1, 9], [1, 9]), ([10, 9, 0, 1, 2, 3, 4, 5, 6, 7, 8, 9, 10], [10]), ([11, 0, 1, 2, 3, 4, 5, 6, 7, 8, 9, 10, 11], [])])
def spec_Relax.B3 : List Nat := [0, 1, 0, 0, 8, 28, 0, 64, 252, 508, 1023, 2047, 4095]
theorem spec_Relax.tab3 : rtab .any (opsOf Try.f107 3) = spec_Relax.T3 := by kernel_rfl
theorem spec_Relax.bits3 : waitsOk spec_Relax.T3.2 spec_Relax.B3 = true := by kernel_rfl
set_option maxHeartbeats 8000000 in
set_option maxRecDepth 100000 in
theorem spec_Relax.calls (k : Nat) (a0_0 : Int) (A0_1 : Option Addr) (c0_1 : Nat) (l0_1 : List Int) (a1 : Int) (r1 : Int) (r2 : List Int) (r3 : Bool) (w : World) (hr0_1 : Kd.C (Kd.int .i64) w A0_1 l0_1.length l0_1) (hc0_1 : l0_1.length ≤ c0_1) (h : spec_Relax.f k a0_0 l0_1 a1 = some (r1, r2, r3)) :
  Calls Try.prog 107 #[.agg #[.int .i64 a0_0, .slice A0_1 l0_1.length c0_1], .int .i64 a1] w fun e w' => ∃ v1_ : Value, e = .returned (.tuple #[.agg #[.int .i64 r1, v1_], .bool r3]) ∧ Kd.R (Kd.int .i64) 3 w' w.heap.size (fun _ => True) v1_ r2 ∧ Below w.heap.size w w' := by
 have hu28 := Try.underlying28
 have HR0_1 := aQ hr0_1
 have HC0_1 := aQ hc0_1
 clear hr0_1 hc0_1
 have HB := aQ (Below.refl w.heap.size w)
 have H : ((spec_IsRelaxable.f k a0_0 l0_1 a1).bind fun t108003 => (if t108003 = true then ((some (([] : List Int) : List Int)).bind fun y108004 => (if y108004.length + l0_1.length < 17592186044416 then ((some (y108004 ++ l0_1 : List Int)).bind fun y108007 => ((some (([a1] : List Int) : List Int)).bind fun y108010 => (if y108007.length + y108010.length < 17592186044416 then ((spec_SortSets.f k (y108007 ++ y108010)).bind fun t108016 => (some (a0_0, t108016, true))) else (none)))) else (none))) else (some (0, ([] : List Int), false)))) = some (r1, r2, r3) := h
 clear h
 replace H := Option.bind_eq_some_iff.mp H
 obtain ⟨t108003, A30, H⟩ := H
 replace H : (if t108003 = true then ((some (([] : List Int) : List Int)).bind fun y108004 => (if y108004.length + l0_1.length < 17592186044416 then ((some (y108004 ++ l0_1 : List Int)).bind fun y108007 => ((some (([a1] : List Int) : List Int)).bind fun y108010 => (if y108007.length + y108010.length < 17592186044416 then ((spec_SortSets.f k (y108007 ++ y108010)).bind fun t108016 => (some (a0_0, t108016, true))) else (none)))) else (none))) else (some (0, ([] : List Int), false))) = some (r1, r2, r3) := H
 have A3 := aQ A30
 clear A30
 by_cases c4 : t108003 = true
 ·subst c4
  have H1 : ((some (([] : List Int) : List Int)).bind fun y108004 => (if y108004.length + l0_1.length < 17592186044416 then ((some (y108004 ++ l0_1 : List Int)).bind fun y108007 => ((some (([a1] : List Int) : List Int)).bind fun y108010 => (if y108007.length + y108010.length < 17592186044416 then ((spec_SortSets.f k (y108007 ++ y108010)).bind fun t108016 => (some (a0_0, t108016, true))) else (none)))) else (none))) = some (r1, r2, r3) := by rw [if_pos rfl] at H; exact H
  clear H
  have H := H1
  clear H1
  obtain ⟨y108004, hy108004⟩ : ∃ y_ : List Int, y_ = (([] : List Int)) := ⟨_, rfl⟩
  replace H : (if y108004.length + l0_1.length < 17592186044416 then ((some (y108004 ++ l0_1 : List Int)).bind fun y108007 => ((some (([a1] : List Int) : List Int)).bind fun y108010 => (if y108007.length + y108010.length < 17592186044416 then ((spec_SortSets.f k (y108007 ++ y108010)).bind fun t108016 => (some (a0_0, t108016, true))) else (none)))) else (none)) = some (r1, r2, r3) := by first | (rw [hy108004]; with_reducible exact H) | (have H2_ := (Option.bind_some _ _).symm.trans H; rw [hy108004]; with_reducible exact H2_) | (have H2_ := (Option.bind_some _ _).symm.trans H; with_reducible exact H2_) | with_reducible exact H | (rw [hy108004]; exact H) | exact H
  have Ny108004 := aQ hy108004
  clear hy108004
  by_cases c5 : y108004.length + l0_1.length < 17592186044416
  ·rw [if_pos c5] at H
   have LMc5 := aQ c5
   clear c5
   obtain ⟨y108007, hy108007⟩ : ∃ y_ : List Int, y_ = (y108004 ++ l0_1) := ⟨_, rfl⟩
   replace H : ((some (([a1] : List Int) : List Int)).bind fun y108010 => (if y108007.length + y108010.length < 17592186044416 then ((spec_SortSets.f k (y108007 ++ y108010)).bind fun t108016 => (some (a0_0, t108016, true))) else (none))) = some (r1, r2, r3) := by first | (rw [hy108007]; with_reducible exact H) | (have H2_ := (Option.bind_some _ _).symm.trans H; rw [hy108007]; with_reducible exact H2_) | (have H2_ := (Option.bind_some _ _).symm.trans H; with_reducible exact H2_) | with_reducible exact H | (rw [hy108007]; exact H) | exact H
   have Ny108007 := aQ hy108007
   clear hy108007
   obtain ⟨y108010, hy108010⟩ : ∃ y_ : List Int, y_ = (([a1] : List Int)) := ⟨_, rfl⟩
   replace H : (if y108007.length + y108010.length < 17592186044416 then ((spec_SortSets.f k (y108007 ++ y108010)).bind fun t108016 => (some (a0_0, t108016, true))) else (none)) = some (r1, r2, r3) := by first | (rw [hy108010]; with_reducible exact H) | (have H2_ := (Option.bind_some _ _).symm.trans H; rw [hy108010]; with_reducible exact H2_) | (have H2_ := (Option.bind_some _ _).symm.trans H; with_reducible exact H2_) | with_reducible exact H | (rw [hy108010]; exact H) | exact H
   have Ny108010 := aQ hy108010
   clear hy108010
   by_cases c6 : y108007.length + y108010.length < 17592186044416
   ·rw [if_pos c6] at H
    have LMc6 := aQ c6
    clear c6
    obtain ⟨y108013, hy108013⟩ : ∃ y_ : List Int, y_ = (y108007 ++ y108010) := ⟨_, rfl⟩
    replace H : ((spec_SortSets.f k y108013).bind fun t108016 => (some (a0_0, t108016, true))) = some (r1, r2, r3) := by first | (rw [hy108013]; with_reducible exact H) | (have H2_ := (Option.bind_some _ _).symm.trans H; rw [hy108013]; with_reducible exact H2_) | (have H2_ := (Option.bind_some _ _).symm.trans H; with_reducible exact H2_) | with_reducible exact H | (rw [hy108013]; exact H) | exact H
    have Ny108013 := aQ hy108013
    clear hy108013
    replace H := Option.bind_eq_some_iff.mp H
    obtain ⟨t108016, A70, H⟩ := H
    replace H : (some (a0_0, t108016, true)) = some (r1, r2, r3) := H
    have A7 := aQ A70
    clear A70
    simp only [Option.some.injEq, Prod.mk.injEq] at H
    obtain ⟨rfl, rfl, rfl⟩ := H
    go_enter Try.func107, Try.ntmps107
    try go_wp2_with (first | ((with_reducible refine gate_dst (N := 2) rfl ?_); refine box_event ?hg (N := 2) ?hd (cs := #[.int .i64 a0_0, .slice A0_1 l0_1.length c0_1]) (t := 28) ?hr ?_; (case hd => rfl); (case hg => rfl); (case hr => first | (go_simp; done) | (go_simp; rfl)); intro gb108001 hg w8 hbox hb; have BK108001 := aQ (hbox); have GW108001 := aQ ((by rw [hg]; exact (below_size (pB HB.out)) : w.heap.size ≤ gb108001)); have GE108001 := aQ ((by rw [hg]; exact (below_size (pB HB.out)) : w.heap.size ≤ gb108001)); replace HB := aQ (below_step (pB HB.out) hb); clear hb hbox hg) | ((with_reducible refine gate_dst (N := 4) rfl ?_); refine box_event ?hg (N := 4) ?hd (cs := #[.int .i64 0, .slice none 0 0]) (t := 28) ?hr ?_; (case hd => rfl); (case hg => rfl); (case hr => first | (go_simp; done) | (go_simp; rfl)); intro gb108002 hg w9 hbox hb; have BK108002 := aQ (hbox); have GW108002 := aQ ((by rw [hg]; exact (below_size (pB1 HB.out GE108001.out)) : w.heap.size ≤ gb108002)); have GE108002 := aQ ((by rw [hg]; exact (below_size (pB1 HB.out GE108001.out)) : w.heap.size ≤ gb108002)); replace HB := aQ (below_step (pB1 HB.out GE108001.out) hb); have NB108001_108002 := aQ ((by rw [hg]; exact Nat.ne_of_lt (blk_lt (g := gb108001) (o := .cells #[.int .i64 a0_0, .slice A0_1 l0_1.length c0_1] 28 (0, 0)) (pk BK108001.out)) : gb108001 ≠ gb108002)); have NB108002_108001 := aQ ((by rw [hg]; exact Nat.ne_of_gt (blk_lt (g := gb108001) (o := .cells #[.int .i64 a0_0, .slice A0_1 l0_1.length c0_1] 28 (0, 0)) (pk BK108001.out)) : gb108002 ≠ gb108001)); replace BK108001 := aQ (blk_below (g := gb108001) (o := .cells #[.int .i64 a0_0, .slice A0_1 l0_1.length c0_1] 28 (0, 0)) (pk BK108001.out) hb); clear hb hbox hg; have hnb10 := NB108001_108002.out; have hnc10 := NB108002_108001.out; have hcz11_0 := bc (v := (.int .i64 a0_0)) BK108001.out 0; have hcz11_1 := bc (v := (.slice A0_1 l0_1.length c0_1)) BK108001.out 1; have hfz11_0 := blk_frozen BK108001.out 0; have hfz11_1 := blk_frozen BK108001.out 1) | ((with_reducible refine gate_callee (f := 100) rfl ?_); refine goesL_ (some 8) rfl rfl Try.func100 (by kernel_rfl) rfl #[.agg #[.int .i64 a0_0, .slice A0_1 l0_1.length c0_1], .int .i64 a1] rfl lm ?_; (with_reducible refine (spec_IsRelaxable.calls k a0_0 _ _ l0_1 a1 true _ ?side1 ?side2 A3.out).mono ?_); (case side1 => exact pC (Kd.C_below HR0_1.out HB.out)); (case side2 => exact HC0_1.out); rintro e w12 ⟨rfl, hb⟩; refine ⟨_, rfl, ?_⟩; replace BK108001 := aQ (blk_below (g := gb108001) (o := .cells #[.int .i64 a0_0, .slice A0_1 l0_1.length c0_1] 28 (0, 0)) (pk BK108001.out) hb); replace BK108002 := aQ (blk_below (g := gb108002) (o := .cells #[.int .i64 0, .slice none 0 0] 28 (0, 0)) (pk BK108002.out) hb); replace HB := aQ (below_step (pB2 HB.out GE108001.out GE108002.out) hb); (try clear hb)))
    have n0_ := aQ (blk_drew BK108001.out)
    have n1_ := aQ (blk_drew BK108002.out)
    have n2_ := aQ (below_drew1 HB.out)
    clear BK108001
    clear BK108002
    clear HB
    have BK108001 := n0_
    have BK108002 := n1_
    have HB := n2_
    clear n0_ n1_ n2_
    refine start_ (n := 13) (S := fun w' => w'.cell? ⟨gb108001, 0, none⟩ = some (.int .i64 a0_0) ∧ w'.cell? ⟨gb108001, 1, none⟩ = some (.slice A0_1 l0_1.length c0_1)) (ds := []) #[false, false, false, false, false, false, false, false, false, false, false, false, false] (by kernel_rfl) rfl rfl ⟨(blk_cell BK108001.out 0).trans rfl, (blk_cell BK108001.out 1).trans rfl⟩ (fun hHeld => ?_); refine with_tabW spec_Relax.tab3 spec_Relax.bits3 (fun HT_ HW_ => ?_)
    generalize w12.drew = w13 at BK108001 BK108002 HB hHeld ⊢
    refine pure_ (i := 0) (N := some 11) (v := ?_) (a' := ?_) #[true, false, false, false, false, false, false, false, false, false, false, false, false] rfl rfl (any_of HT_.out (by kernel_rfl)) (fun _ _ _ h => h) (Or.inl ⟨by rfl, ?_⟩) ?_ ?_
    rotate_left
    ·intro w'
     go_simp
     with_reducible rfl
    rotate_left
    ·simp only [Act.put, List.setIfInBounds_toArray, List.set_cons_zero, List.set_cons_succ, i64_w, i32_w]
     rfl
    refine pure_ (i := 3) (N := some 14) (v := ?_) (a' := ?_) #[true, false, false, true, false, false, false, false, false, false, false, false, false] rfl rfl (any_of HT_.out (by kernel_rfl)) (fun _ _ _ h => h) (Or.inl ⟨by rfl, ?_⟩) ?_ ?_
    rotate_left
    ·intro w'
     go_simp
     with_reducible rfl
    rotate_left
    ·simp only [Act.put, List.setIfInBounds_toArray, List.set_cons_zero, List.set_cons_succ, i64_w, i32_w]
     rfl
    refine pure_ (i := 6) (N := some 17) (v := ?_) (a' := ?_) #[true, false, false, true, false, false, true, false, false, false, false, false, false] rfl rfl (any_of HT_.out (by kernel_rfl)) (fun _ _ _ h => h) (Or.inl ⟨by rfl, ?_⟩) ?_ ?_
    rotate_left
    ·intro w'
     go_simp
     with_reducible rfl
    rotate_left
    ·simp only [Act.put, List.setIfInBounds_toArray, List.set_cons_zero, List.set_cons_succ, i64_w, i32_w]
     rfl
    refine take_ (i := 1) (N := some 12) (v := ?_) (a' := ?_) #[true, true, false, true, false, false, true, false, false, false, false, false, false] rfl rfl (take_ofW HT_.out HW_.out (by kernel_rfl)) (fun _ _ _ h => h) (Or.inl ⟨by rfl, ?_⟩) hHeld ?_ ?_
    rotate_left
    ·rintro w' ⟨s0, s1⟩
     go_simp
     with_reducible rfl
    rotate_left
    ·simp only [Act.put, List.setIfInBounds_toArray, List.set_cons_zero, List.set_cons_succ, i64_w, i32_w]
     rfl
    refine take_ (i := 4) (N := some 15) (v := ?_) (a' := ?_) #[true, true, false, true, true, false, true, false, false, false, false, false, false] rfl rfl (take_ofW HT_.out HW_.out (by kernel_rfl)) (fun _ _ _ h => h) (Or.inl ⟨by rfl, ?_⟩) hHeld ?_ ?_
    rotate_left
    ·rintro w' ⟨s0, s1⟩
     go_simp
     with_reducible rfl
    rotate_left
    ·simp only [Act.put, List.setIfInBounds_toArray, List.set_cons_zero, List.set_cons_succ, i64_w, i32_w]
     rfl
    refine join_ (σ := Value × Value × Value) 5 #[true, true, true, true, true, true, true, true, false, false, false, false, false] (fun s_ => [(13, s_.1), (16, s_.2.1), (18, s_.2.2)]) (fun s_ w' => (w'.cell? ⟨gb108001, 0, none⟩ = some (.int .i64 a0_0) ∧ w'.cell? ⟨gb108001, 1, none⟩ = some (.slice A0_1 l0_1.length c0_1)) ∧ (Kd.R (Kd.int .i64) 3 w' w.heap.size (fun k_ => some k_ ≠ (s_.2.2 : Value).ownBlock) s_.2.1 y108007) ∧ (Kd.R (Kd.int .i64) 3 w' w.heap.size (fun k_ => some k_ ≠ (s_.2.1 : Value).ownBlock) s_.2.2 y108010) ∧ (w'.heap[gb108001]? = some (.cells #[.int .i64 a0_0, .slice A0_1 l0_1.length c0_1] 28 (0, 0))) ∧ (w'.heap[gb108002]? = some (.cells #[.int .i64 0, .slice none 0 0] 28 (0, 0))) ∧ (Below w.heap.size w w')) ?_ ?_
    rotate_left
    ·intro hCont
     refine two_ (i := 2) (j := 7) (Ni := some 13) (Nj := some 18) #[true, true, true, true, true, false, true, false, false, false, false, false, false] #[true, true, false, true, true, false, true, true, false, false, false, false, false] rfl rfl rfl rfl (two_of HT_.out (by kernel_rfl)) (by decide) (by decide) (fun K hK => ?_) (fun K hK => ?_)
     ·skip
      refine Kd.R_lit_step (Kd.int .i64) _ 3 ?hg (N := 13) ?hd (xs := ([] : List Int)) (inner := []) (ok := fun _ => True) (okp := fun _ => True) ?hr ?hp (fun _ hk => hk) trivial (Below.refl _ _) (Nat.le_refl _) (by simp) ?_; (case hd => rfl); (case hg => rfl); (case hr => first | (go_simp; done) | (go_simp; rfl)); (case hp => exact (Reps.none _ _))
      intro v108005 w14 ho15 hb hg_ hnew_
      clear hg_ hnew_
      (first | rw [← Ny108004.out] at ho15 | (simp only [Int.reduceToNat] at ho15; rw [← Ny108004.out] at ho15))
      have n0_ := aQ (Kd.R_lower ho15 (below_size (pB2 HB.out GE108001.out GE108002.out)))
      have n1_ := aQ (blk_below (g := gb108001) (o := .cells #[.int .i64 a0_0, .slice A0_1 l0_1.length c0_1] 28 (0, 0)) (pk BK108001.out) hb)
      have n2_ := aQ (blk_below (g := gb108002) (o := .cells #[.int .i64 0, .slice none 0 0] 28 (0, 0)) (pk BK108002.out) hb)
      have n3_ := aQ (below_step (pB2 HB.out GE108001.out GE108002.out) hb)
      clear BK108001
      clear BK108002
      clear HB
      have HO108006 := n0_
      have BK108001 := n1_
      have BK108002 := n2_
      have HB := n3_
      clear n0_ n1_ n2_ n3_
      clear hb ho15
      refine hK.out _ _ ⟨(blk_cell BK108001.out 0).trans rfl, (blk_cell BK108001.out 1).trans rfl⟩ (fun hHeld => ?_)
      clear hK K
      refine norm_ (a' := ?_) ?_ ?_
      rotate_left
      ·show Act.put _ (some 13) _ = _
       simp only [Act.put, List.setIfInBounds_toArray, List.set_cons_zero, List.set_cons_succ, i64_w, i32_w]
       rfl
      refine two_ (i := 5) (j := 7) (Ni := some 16) (Nj := some 18) #[true, true, true, true, true, true, true, false, false, false, false, false, false] #[true, true, true, true, true, false, true, true, false, false, false, false, false] rfl rfl rfl rfl (two_of HT_.out (by kernel_rfl)) (by decide) (by decide) (fun K hK => ?_) (fun K hK => ?_)
      ·skip
       refine Kd.R_append_rows_step (Kd.int .i64) (w0 := w) w.heap.size (by rfl) (.tmp 13) (.tmp 15) 22 3 (.int .i64 0) 8 rfl Try.underlying22 info3 rfl (by decide) (by omega) v108005 y108004 l0_1 _ _ _ (fun _ => True) (fun _ => False) rfl rfl ?aO ?aR (fun _ _ h => h) (fun _ h => h.elim) ?aF ?aB ?aS ?aL ?_
       (case aR => exact pC (Kd.C_below HR0_1.out HB.out))
       (case aB => exact (pB2 HB.out GE108001.out GE108002.out))
       (case aF => exact (fun _ _ => trivial))
       (case aO => exact (pR HO108006.out))
       (case aS => exact (below_size (pB2 HB.out GE108001.out GE108002.out)))
       (case aL => have := LMc5.out; omega)
       intro v108008 w16 ho hb hg hat
       rw [← Ny108007.out] at ho
       have n0_ := aQ (blk_grown (g := gb108001) (o := .cells #[.int .i64 a0_0, .slice A0_1 l0_1.length c0_1] 28 (0, 0)) (pk BK108001.out) hg (Kd.R_ne HO108006.out BK108001.out (by decide)))
       have n1_ := aQ (blk_grown (g := gb108002) (o := .cells #[.int .i64 0, .slice none 0 0] 28 (0, 0)) (pk BK108002.out) hg (Kd.R_ne HO108006.out BK108002.out (by decide)))
       have n2_ := aQ (hb)
       have n3_ := aQ (ho)
       clear BK108001
       clear BK108002
       clear HB
       clear HO108006
       have BK108001 := n0_
       have BK108002 := n1_
       have HB := n2_
       have HO108009 := n3_
       clear n0_ n1_ n2_ n3_
       clear ho hb hg hat
       refine hK.out _ _ ⟨(blk_cell BK108001.out 0).trans rfl, (blk_cell BK108001.out 1).trans rfl⟩ (fun hHeld => ?_)
       clear hK K
       refine norm_ (a' := ?_) ?_ ?_
       rotate_left
       ·show Act.put _ (some 16) _ = _
        simp only [Act.put, List.setIfInBounds_toArray, List.set_cons_zero, List.set_cons_succ, i64_w, i32_w]
        rfl
       refine one_ (i := 7) (N := some 18) #[true, true, true, true, true, true, true, true, false, false, false, false, false] rfl rfl (one_of HT_.out (by kernel_rfl)) (by decide) (fun K hK => ?_)
       refine Kd.R_lit_step (Kd.int .i64) _ 3 ?hg (N := 18) ?hd (xs := ([a1] : List Int)) (inner := [.int .i64 a1]) (ok := fun _ => True) (okp := fun _ => True) ?hr ?hp (fun _ hk => hk) trivial (Below.refl _ _) (Nat.le_refl _) (by simp) ?_; (case hd => rfl); (case hg => rfl); (case hr => first | (go_simp; done) | (go_simp; rfl)); (case hp => exact (Reps.one (show Kd.M (Kd.int .i64) _ _ _ a1 [.int .i64 a1] from rfl) (Reps.none _ _)))
       intro v108011 w17 ho18 hb hg_ hnew_
       clear hg_ hnew_
       (first | rw [← Ny108010.out] at ho18 | (simp only [Int.reduceToNat] at ho18; rw [← Ny108010.out] at ho18))
       have n0_ := aQ (Kd.R_elder' (pR HO108009.out) (Kd.R_base ho18) hb)
       have n1_ := aQ (Kd.R_lower (Kd.R_new' ho18 (Kd.R_lt (pR HO108009.out))) (below_size (pB2 HB.out GE108001.out GE108002.out)))
       have n2_ := aQ (blk_below (g := gb108001) (o := .cells #[.int .i64 a0_0, .slice A0_1 l0_1.length c0_1] 28 (0, 0)) (pk BK108001.out) hb)
       have n3_ := aQ (blk_below (g := gb108002) (o := .cells #[.int .i64 0, .slice none 0 0] 28 (0, 0)) (pk BK108002.out) hb)
       have n4_ := aQ (below_step (pB2 HB.out GE108001.out GE108002.out) hb)
       clear HO108009
       clear BK108001
       clear BK108002
       clear HB
       have HO108009 := n0_
       have HO108012 := n1_
       have BK108001 := n2_
       have BK108002 := n3_
       have HB := n4_
       clear n0_ n1_ n2_ n3_ n4_
       clear hb ho18
       refine hK.out _ _ ⟨(blk_cell BK108001.out 0).trans rfl, (blk_cell BK108001.out 1).trans rfl⟩ (fun hHeld => ?_)
       clear hK K
       refine norm_ (a' := ?_) ?_ ?_
       rotate_left
       ·show Act.put _ (some 18) _ = _
        simp only [Act.put, List.setIfInBounds_toArray, List.set_cons_zero, List.set_cons_succ, i64_w, i32_w]
        rfl
       exact norm_ (by simp only [putAll, Act.put, List.setIfInBounds_toArray, List.set_cons_zero, List.set_cons_succ]) (hCont (v108005, v108008, v108011) _ ⟨hHeld, (by (with_reducible repeat (first | apply Kd.R_alloc | apply Kd.R_drewN | apply Kd.R_drew)); exact Kd.R_mono HO108009.out (fun _ hk => hk.2)), (by (with_reducible repeat (first | apply Kd.R_alloc | apply Kd.R_drewN | apply Kd.R_drew)); exact Kd.R_mono HO108012.out (fun _ hk => hk.2)), (pk BK108001.out), (pk BK108002.out), (pB2 HB.out GE108001.out GE108002.out)⟩)
      ·skip
       refine Kd.R_lit_step (Kd.int .i64) _ 3 ?hg (N := 18) ?hd (xs := ([a1] : List Int)) (inner := [.int .i64 a1]) (ok := fun _ => True) (okp := fun _ => True) ?hr ?hp (fun _ hk => hk) trivial (Below.refl _ _) (Nat.le_refl _) (by simp) ?_; (case hd => rfl); (case hg => rfl); (case hr => first | (go_simp; done) | (go_simp; rfl)); (case hp => exact (Reps.one (show Kd.M (Kd.int .i64) _ _ _ a1 [.int .i64 a1] from rfl) (Reps.none _ _)))
       intro v108011 w16 ho17 hb hg_ hnew_
       clear hg_ hnew_
       (first | rw [← Ny108010.out] at ho17 | (simp only [Int.reduceToNat] at ho17; rw [← Ny108010.out] at ho17))
       have n0_ := aQ (Kd.R_elder' (pR HO108006.out) (Kd.R_base ho17) hb)
       have n1_ := aQ (Kd.R_lower (Kd.R_new' ho17 (Kd.R_lt (pR HO108006.out))) (below_size (pB2 HB.out GE108001.out GE108002.out)))
       have n2_ := aQ (blk_below (g := gb108001) (o := .cells #[.int .i64 a0_0, .slice A0_1 l0_1.length c0_1] 28 (0, 0)) (pk BK108001.out) hb)
       have n3_ := aQ (blk_below (g := gb108002) (o := .cells #[.int .i64 0, .slice none 0 0] 28 (0, 0)) (pk BK108002.out) hb)
       have n4_ := aQ (below_step (pB2 HB.out GE108001.out GE108002.out) hb)
       clear HO108006
       clear BK108001
       clear BK108002
       clear HB
       have HO108006 := n0_
       have HO108012 := n1_
       have BK108001 := n2_
       have BK108002 := n3_
       have HB := n4_
       clear n0_ n1_ n2_ n3_ n4_
       clear hb ho17
       refine hK.out _ _ ⟨(blk_cell BK108001.out 0).trans rfl, (blk_cell BK108001.out 1).trans rfl⟩ (fun hHeld => ?_)
       clear hK K
       refine norm_ (a' := ?_) ?_ ?_
       rotate_left
       ·show Act.put _ (some 18) _ = _
        simp only [Act.put, List.setIfInBounds_toArray, List.set_cons_zero, List.set_cons_succ, i64_w, i32_w]
        rfl
       refine one_ (i := 5) (N := some 16) #[true, true, true, true, true, true, true, true, false, false, false, false, false] rfl rfl (one_of HT_.out (by kernel_rfl)) (by decide) (fun K hK => ?_)
       refine Kd.R_append_rows_step (Kd.int .i64) (w0 := w) w.heap.size (by rfl) (.tmp 13) (.tmp 15) 22 3 (.int .i64 0) 8 rfl Try.underlying22 info3 rfl (by decide) (by omega) v108005 y108004 l0_1 _ _ _ (fun k_ => some k_ ≠ (v108011 : Value).ownBlock) (fun _ => False) rfl rfl ?aO ?aR (fun _ _ h => h) (fun _ h => h.elim) ?aF ?aB ?aS ?aL ?_
       (case aR => exact pC (Kd.C_below HR0_1.out HB.out))
       (case aB => exact (pB2 HB.out GE108001.out GE108002.out))
       (case aF => exact (fun k_ hk => Kd.fresh' (Kd.R_lt (pR HO108012.out)) k_ hk))
       (case aO => exact (by (with_reducible repeat (first | apply Kd.R_alloc | apply Kd.R_drewN | apply Kd.R_drew)); exact Kd.R_mono HO108006.out (fun _ hk => hk.2)))
       (case aS => exact (below_size (pB2 HB.out GE108001.out GE108002.out)))
       (case aL => have := LMc5.out; omega)
       intro v108008 w18 ho hb hg hat
       rw [← Ny108007.out] at ho
       have n0_ := aQ (blk_grown (g := gb108001) (o := .cells #[.int .i64 a0_0, .slice A0_1 l0_1.length c0_1] 28 (0, 0)) (pk BK108001.out) hg (Kd.R_ne HO108006.out BK108001.out (by decide)))
       have n1_ := aQ (blk_grown (g := gb108002) (o := .cells #[.int .i64 0, .slice none 0 0] 28 (0, 0)) (pk BK108002.out) hg (Kd.R_ne HO108006.out BK108002.out (by decide)))
       have n2_ := aQ (Kd.R_after (ok := (fun _ => True)) (pR HO108012.out) hg hat)
       have n3_ := aQ (hb)
       have n4_ := aQ (ho)
       clear BK108001
       clear BK108002
       clear HO108012
       clear HB
       clear HO108006
       have BK108001 := n0_
       have BK108002 := n1_
       have HO108012 := n2_
       have HB := n3_
       have HO108009 := n4_
       clear n0_ n1_ n2_ n3_ n4_
       clear ho hb hg hat
       refine hK.out _ _ ⟨(blk_cell BK108001.out 0).trans rfl, (blk_cell BK108001.out 1).trans rfl⟩ (fun hHeld => ?_)
       clear hK K
       refine norm_ (a' := ?_) ?_ ?_
       rotate_left
       ·show Act.put _ (some 16) _ = _
        simp only [Act.put, List.setIfInBounds_toArray, List.set_cons_zero, List.set_cons_succ, i64_w, i32_w]
        rfl
       exact norm_ (by simp only [putAll, Act.put, List.setIfInBounds_toArray, List.set_cons_zero, List.set_cons_succ]) (hCont (v108005, v108008, v108011) _ ⟨hHeld, (pR HO108009.out), (by (with_reducible repeat (first | apply Kd.R_alloc | apply Kd.R_drewN | apply Kd.R_drew)); exact Kd.R_mono HO108012.out (fun _ hk => hk.2)), (pk BK108001.out), (pk BK108002.out), (pB2 HB.out GE108001.out GE108002.out)⟩)
     ·skip
      refine Kd.R_lit_step (Kd.int .i64) _ 3 ?hg (N := 18) ?hd (xs := ([a1] : List Int)) (inner := [.int .i64 a1]) (ok := fun _ => True) (okp := fun _ => True) ?hr ?hp (fun _ hk => hk) trivial (Below.refl _ _) (Nat.le_refl _) (by simp) ?_; (case hd => rfl); (case hg => rfl); (case hr => first | (go_simp; done) | (go_simp; rfl)); (case hp => exact (Reps.one (show Kd.M (Kd.int .i64) _ _ _ a1 [.int .i64 a1] from rfl) (Reps.none _ _)))
      intro v108011 w14 ho15 hb hg_ hnew_
      clear hg_ hnew_
      (first | rw [← Ny108010.out] at ho15 | (simp only [Int.reduceToNat] at ho15; rw [← Ny108010.out] at ho15))
      have n0_ := aQ (Kd.R_lower ho15 (below_size (pB2 HB.out GE108001.out GE108002.out)))
      have n1_ := aQ (blk_below (g := gb108001) (o := .cells #[.int .i64 a0_0, .slice A0_1 l0_1.length c0_1] 28 (0, 0)) (pk BK108001.out) hb)
      have n2_ := aQ (blk_below (g := gb108002) (o := .cells #[.int .i64 0, .slice none 0 0] 28 (0, 0)) (pk BK108002.out) hb)
      have n3_ := aQ (below_step (pB2 HB.out GE108001.out GE108002.out) hb)
      clear BK108001
      clear BK108002
      clear HB
      have HO108012 := n0_
      have BK108001 := n1_
      have BK108002 := n2_
      have HB := n3_
      clear n0_ n1_ n2_ n3_
      clear hb ho15
      refine hK.out _ _ ⟨(blk_cell BK108001.out 0).trans rfl, (blk_cell BK108001.out 1).trans rfl⟩ (fun hHeld => ?_)
      clear hK K
      refine norm_ (a' := ?_) ?_ ?_
      rotate_left
      ·show Act.put _ (some 18) _ = _
       simp only [Act.put, List.setIfInBounds_toArray, List.set_cons_zero, List.set_cons_succ, i64_w, i32_w]
       rfl
      refine one_ (i := 2) (N := some 13) #[true, true, true, true, true, false, true, true, false, false, false, false, false] rfl rfl (one_of HT_.out (by kernel_rfl)) (by decide) (fun K hK => ?_)
      refine Kd.R_lit_step (Kd.int .i64) _ 3 ?hg (N := 13) ?hd (xs := ([] : List Int)) (inner := []) (ok := fun _ => True) (okp := fun _ => True) ?hr ?hp (fun _ hk => hk) trivial (Below.refl _ _) (Nat.le_refl _) (by simp) ?_; (case hd => rfl); (case hg => rfl); (case hr => first | (go_simp; done) | (go_simp; rfl)); (case hp => exact (Reps.none _ _))
      intro v108005 w16 ho17 hb hg_ hnew_
      clear hg_ hnew_
      (first | rw [← Ny108004.out] at ho17 | (simp only [Int.reduceToNat] at ho17; rw [← Ny108004.out] at ho17))
      have n0_ := aQ (Kd.R_elder' (pR HO108012.out) (Kd.R_base ho17) hb)
      have n1_ := aQ (Kd.R_lower (Kd.R_new' ho17 (Kd.R_lt (pR HO108012.out))) (below_size (pB2 HB.out GE108001.out GE108002.out)))
      have n2_ := aQ (blk_below (g := gb108001) (o := .cells #[.int .i64 a0_0, .slice A0_1 l0_1.length c0_1] 28 (0, 0)) (pk BK108001.out) hb)
      have n3_ := aQ (blk_below (g := gb108002) (o := .cells #[.int .i64 0, .slice none 0 0] 28 (0, 0)) (pk BK108002.out) hb)
      have n4_ := aQ (below_step (pB2 HB.out GE108001.out GE108002.out) hb)
      clear HO108012
      clear BK108001
      clear BK108002
      clear HB
      have HO108012 := n0_
      have HO108006 := n1_
      have BK108001 := n2_
      have BK108002 := n3_
      have HB := n4_
      clear n0_ n1_ n2_ n3_ n4_
      clear hb ho17
      refine hK.out _ _ ⟨(blk_cell BK108001.out 0).trans rfl, (blk_cell BK108001.out 1).trans rfl⟩ (fun hHeld => ?_)
      clear hK K
      refine norm_ (a' := ?_) ?_ ?_
      rotate_left
      ·show Act.put _ (some 13) _ = _
       simp only [Act.put, List.setIfInBounds_toArray, List.set_cons_zero, List.set_cons_succ, i64_w, i32_w]
       rfl
      refine one_ (i := 5) (N := some 16) #[true, true, true, true, true, true, true, true, false, false, false, false, false] rfl rfl (one_of HT_.out (by kernel_rfl)) (by decide) (fun K hK => ?_)
      refine Kd.R_append_rows_step (Kd.int .i64) (w0 := w) w.heap.size (by rfl) (.tmp 13) (.tmp 15) 22 3 (.int .i64 0) 8 rfl Try.underlying22 info3 rfl (by decide) (by omega) v108005 y108004 l0_1 _ _ _ (fun k_ => some k_ ≠ (v108011 : Value).ownBlock) (fun _ => False) rfl rfl ?aO ?aR (fun _ _ h => h) (fun _ h => h.elim) ?aF ?aB ?aS ?aL ?_
      (case aR => exact pC (Kd.C_below HR0_1.out HB.out))
      (case aB => exact (pB2 HB.out GE108001.out GE108002.out))
      (case aF => exact (fun k_ hk => Kd.fresh' (Kd.R_lt (pR HO108012.out)) k_ hk))
      (case aO => exact (by (with_reducible repeat (first | apply Kd.R_alloc | apply Kd.R_drewN | apply Kd.R_drew)); exact Kd.R_mono HO108006.out (fun _ hk => hk.2)))
      (case aS => exact (below_size (pB2 HB.out GE108001.out GE108002.out)))
      (case aL => have := LMc5.out; omega)
      intro v108008 w18 ho hb hg hat
      rw [← Ny108007.out] at ho
      have n0_ := aQ (blk_grown (g := gb108001) (o := .cells #[.int .i64 a0_0, .slice A0_1 l0_1.length c0_1] 28 (0, 0)) (pk BK108001.out) hg (Kd.R_ne HO108006.out BK108001.out (by decide)))
      have n1_ := aQ (blk_grown (g := gb108002) (o := .cells #[.int .i64 0, .slice none 0 0] 28 (0, 0)) (pk BK108002.out) hg (Kd.R_ne HO108006.out BK108002.out (by decide)))
      have n2_ := aQ (Kd.R_after (ok := (fun _ => True)) (pR HO108012.out) hg hat)
      have n3_ := aQ (hb)
      have n4_ := aQ (ho)
      clear BK108001
      clear BK108002
      clear HO108012
      clear HB
      clear HO108006
      have BK108001 := n0_
      have BK108002 := n1_
      have HO108012 := n2_
      have HB := n3_
      have HO108009 := n4_
      clear n0_ n1_ n2_ n3_ n4_
      clear ho hb hg hat
      refine hK.out _ _ ⟨(blk_cell BK108001.out 0).trans rfl, (blk_cell BK108001.out 1).trans rfl⟩ (fun hHeld => ?_)
      clear hK K
      refine norm_ (a' := ?_) ?_ ?_
      rotate_left
      ·show Act.put _ (some 16) _ = _
       simp only [Act.put, List.setIfInBounds_toArray, List.set_cons_zero, List.set_cons_succ, i64_w, i32_w]
       rfl
      exact norm_ (by simp only [putAll, Act.put, List.setIfInBounds_toArray, List.set_cons_zero, List.set_cons_succ]) (hCont (v108005, v108008, v108011) _ ⟨hHeld, (pR HO108009.out), (by (with_reducible repeat (first | apply Kd.R_alloc | apply Kd.R_drewN | apply Kd.R_drew)); exact Kd.R_mono HO108012.out (fun _ hk => hk.2)), (pk BK108001.out), (pk BK108002.out), (pB2 HB.out GE108001.out GE108002.out)⟩)
    rintro ⟨v108005, v108008, v108011⟩ w19 ⟨hS_, h0_, h1_, h2_, h3_, h4_⟩
    have n0_ : Aside0 (Kd.R (Kd.int .i64) 3 w19 w.heap.size (fun k_ => some k_ ≠ (v108011 : Value).ownBlock) v108008 y108007) := ⟨h0_⟩
    have n1_ : Aside0 (Kd.R (Kd.int .i64) 3 w19 w.heap.size (fun k_ => some k_ ≠ (v108008 : Value).ownBlock) v108011 y108010) := ⟨h1_⟩
    have n2_ : Aside0 (w19.heap[gb108001]? = some (.cells #[.int .i64 a0_0, .slice A0_1 l0_1.length c0_1] 28 (0, 0))) := ⟨h2_⟩
    have n3_ : Aside0 (w19.heap[gb108002]? = some (.cells #[.int .i64 0, .slice none 0 0] 28 (0, 0))) := ⟨h3_⟩
    have n4_ : Aside0 (Below w.heap.size w w19) := ⟨h4_⟩
    clear BK108001
    clear BK108002
    clear HB
    clear h0_ h1_ h2_ h3_ h4_
    have HO108009 := n0_
    have HO108012 := n1_
    have BK108001 := n2_
    have BK108002 := n3_
    have HB := n4_
    clear n0_ n1_ n2_ n3_ n4_
    have hHeld : w19.cell? ⟨gb108001, 0, none⟩ = some (.int .i64 a0_0) ∧ w19.cell? ⟨gb108001, 1, none⟩ = some (.slice A0_1 l0_1.length c0_1) := hS_
    obtain ⟨Ao21, co21, eo21⟩ := Kd.R_slice HO108012.out
    (first | subst eo21 | (injection eo21 with f1_ f2_ f3_; have f4_ := f1_.symm; have f5_ := f3_.symm; clear f1_ f2_ f3_; subst f4_; subst f5_))
    refine norm_ (a' := ?_) ?_ ?_
    rotate_left
    ·simp only [putAll, Act.put, List.setIfInBounds_toArray, List.set_cons_zero, List.set_cons_succ]
     rfl
    refine one_ (i := 8) (N := some 19) #[true, true, true, true, true, true, true, true, true, false, false, false, false] rfl rfl (one_of HT_.out (by kernel_rfl)) (by decide) (fun K hK => ?_)
    refine Kd.R_append_rows_step (Kd.int .i64) (w0 := w) w.heap.size (by rfl) (.tmp 16) (.tmp 18) 22 3 (.int .i64 0) 8 rfl Try.underlying22 info3 rfl (by decide) (by omega) v108008 y108007 y108010 _ _ _ (fun k_ => some k_ ≠ (.slice Ao21 y108010.length co21 : Value).ownBlock) (fun _ => False) rfl rfl ?aO ?aR (fun _ _ h => h) (fun _ h => h.elim) ?aF ?aB ?aS ?aL ?_
    (case aR => repeat (first | exact (Kd.R_reads' HO108012.out).2.2 | (with_reducible refine Kd.C_alloc ?_ _) | (with_reducible refine Kd.C_drewN ?_ _) | (with_reducible refine Kd.C_drew ?_)))
    (case aB => exact (pB2 HB.out GE108001.out GE108002.out))
    (case aF => exact (fun k_ hk => Kd.fresh' (Kd.R_lt (pR HO108012.out)) k_ hk))
    (case aO => exact (pR HO108009.out))
    (case aS => exact (below_size (pB2 HB.out GE108001.out GE108002.out)))
    (case aL => have := LMc6.out; omega)
    intro v108014 w20 ho hb hg hat
    rw [← Ny108013.out] at ho
    have n0_ := aQ (blk_grown (g := gb108001) (o := .cells #[.int .i64 a0_0, .slice A0_1 l0_1.length c0_1] 28 (0, 0)) (pk BK108001.out) hg (Kd.R_ne HO108009.out BK108001.out (by decide)))
    have n1_ := aQ (blk_grown (g := gb108002) (o := .cells #[.int .i64 0, .slice none 0 0] 28 (0, 0)) (pk BK108002.out) hg (Kd.R_ne HO108009.out BK108002.out (by decide)))
    have n2_ := aQ (Kd.R_after (ok := (fun _ => True)) (by (with_reducible repeat (first | apply Kd.R_alloc | apply Kd.R_drewN | apply Kd.R_drew)); exact Kd.R_mono HO108012.out (fun _ hk => ⟨trivial, hk⟩)) hg hat)
    have n3_ := aQ (hb)
    have n4_ := aQ (ho)
    clear BK108001
    clear BK108002
    clear HO108012
    clear HB
    clear HO108009
    have BK108001 := n0_
    have BK108002 := n1_
    have HO108012 := n2_
    have HB := n3_
    have HO108015 := n4_
    clear n0_ n1_ n2_ n3_ n4_
    clear ho hb hg hat
    obtain ⟨Ao22, co22, eo22⟩ := Kd.R_slice HO108015.out
    (first | subst eo22 | (injection eo22 with f1_ f2_ f3_; have f4_ := f1_.symm; have f5_ := f3_.symm; clear f1_ f2_ f3_; subst f4_; subst f5_))
    refine hK.out _ _ ⟨(blk_cell BK108001.out 0).trans rfl, (blk_cell BK108001.out 1).trans rfl⟩ (fun hHeld => ?_)
    clear hK K
    refine norm_ (a' := ?_) ?_ ?_
    rotate_left
    ·show Act.put _ (some 19) _ = _
     simp only [Act.put, List.setIfInBounds_toArray, List.set_cons_zero, List.set_cons_succ, i64_w, i32_w]
     rfl
    refine one_ (i := 9) (N := some 20) #[true, true, true, true, true, true, true, true, true, true, false, false, false] rfl rfl (one_of HT_.out (by kernel_rfl)) (by decide) (fun K hK => ?_)
    refine goes_ Try.func168 (by kernel_rfl) rfl #[.slice Ao22 y108013.length co22] (by rfl) rfl rfl lm ?_
    with_reducible refine (spec_SortSets.calls k _ _ y108013 t108016 _ ?side1 ?side2 A7.out).mono ?_
    (case side1 => repeat (first | exact (Kd.R_reads' HO108015.out).2.2 | (with_reducible refine Kd.C_alloc ?_ _) | (with_reducible refine Kd.C_drewN ?_ _) | (with_reducible refine Kd.C_drew ?_)))
    (case side2 => exact (Kd.R_reads' HO108015.out).2.1)
    rintro e w23 ⟨v108017, rfl, ho0, hb⟩
    refine ⟨_, rfl, ?_⟩
    have n0_ := aQ (Kd.R_elder' (pR HO108012.out) (Kd.R_base ho0) hb)
    have n1_ := aQ (Kd.R_elder' (pR HO108015.out) (Kd.R_base ho0) hb)
    have n2_ := aQ (Kd.R_lower (Kd.R_new' (Kd.R_new' ho0 (Kd.R_lt (pR HO108012.out))) (Kd.R_lt (pR HO108015.out))) (below_size (pB2 HB.out GE108001.out GE108002.out)))
    have n3_ := aQ (blk_below (g := gb108001) (o := .cells #[.int .i64 a0_0, .slice A0_1 l0_1.length c0_1] 28 (0, 0)) (pk BK108001.out) hb)
    have n4_ := aQ (blk_below (g := gb108002) (o := .cells #[.int .i64 0, .slice none 0 0] 28 (0, 0)) (pk BK108002.out) hb)
    have n5_ := aQ (below_step (pB2 HB.out GE108001.out GE108002.out) hb)
    clear HO108012
    clear HO108015
    clear BK108001
    clear BK108002
    clear HB
    have HO108012 := n0_
    have HO108015 := n1_
    have HO108018 := n2_
    have BK108001 := n3_
    have BK108002 := n4_
    have HB := n5_
    clear n0_ n1_ n2_ n3_ n4_ n5_
    (try clear hb)
    (try clear hb2)
    (try clear hk)
    (try clear hi)
    (try clear ho0)
    obtain ⟨Ao24, co24, eo24⟩ := Kd.R_slice HO108018.out
    (first | subst eo24 | (injection eo24 with f1_ f2_ f3_; have f4_ := f1_.symm; have f5_ := f3_.symm; clear f1_ f2_ f3_; subst f4_; subst f5_))
    refine hK.out _ _ ⟨(blk_cell BK108001.out 0).trans rfl, (blk_cell BK108001.out 1).trans rfl⟩ (fun hHeld => ?_)
    clear hK K
    refine norm_ (a' := ?_) ?_ ?_
    rotate_left
    ·show Act.put _ (some 20) _ = _
     simp only [Act.put, List.setIfInBounds_toArray, List.set_cons_zero, List.set_cons_succ, i64_w, i32_w]
     rfl
    refine pure_ (i := 10) (N := some 21) (v := ?_) (a' := ?_) #[true, true, true, true, true, true, true, true, true, true, true, false, false] rfl rfl (any_of HT_.out (by kernel_rfl)) (fun _ _ _ h => h) (Or.inl ⟨by rfl, ?_⟩) ?_ ?_
    rotate_left
    ·intro w'
     go_simp
     with_reducible rfl
    rotate_left
    ·simp only [Act.put, List.setIfInBounds_toArray, List.set_cons_zero, List.set_cons_succ, i64_w, i32_w]
     rfl
    refine one_ (i := 11) (N := none) #[true, true, true, true, true, true, true, true, true, true, true, true, false] rfl rfl (one_of HT_.out (by kernel_rfl)) (by decide) (fun K hK => ?_)
    have hs25 : w23.cell? ⟨gb108002, 0, none⟩ = some (.int .i64 0) := (blk_cell BK108002.out 0).trans rfl
    have hfs25 := blk_frozen BK108002.out 0
    have hns25_0 := NB108001_108002.out
    have hms25_0 := NB108002_108001.out
    have hs26 : w23.cell? ⟨gb108002, 1, none⟩ = some (.slice none 0 0) := (blk_cell BK108002.out 1).trans rfl
    have hfs26 := blk_frozen BK108002.out 1
    have hns26_0 := NB108001_108002.out
    have hms26_0 := NB108002_108001.out
    refine skip_ (w1 := ?_) (by rfl) rfl ?_ ?_
    rotate_left
    ·go_simp
     rfl
    refine hK.out _ _ ⟨((cell_far (p := ⟨gb108002, _, none⟩) NB108001_108002.out _).trans (((cell_far (p := ⟨gb108002, _, none⟩) NB108001_108002.out _).trans (hHeld.1)))), ((cell_far (p := ⟨gb108002, _, none⟩) NB108001_108002.out _).trans (((cell_far (p := ⟨gb108002, _, none⟩) NB108001_108002.out _).trans (hHeld.2))))⟩ (fun hHeld => ?_)
    clear hK K
    refine pure_ (i := 12) (N := some 5) (v := ?_) (a' := ?_) #[true, true, true, true, true, true, true, true, true, true, true, true, true] rfl rfl (any_of HT_.out (by kernel_rfl)) (fun _ _ _ h => h) (Or.inl ⟨by rfl, ?_⟩) ?_ ?_
    rotate_left
    ·intro w'
     go_simp
     with_reducible rfl
    rotate_left
    ·simp only [Act.put, List.setIfInBounds_toArray, List.set_cons_zero, List.set_cons_succ, i64_w, i32_w]
     rfl
    refine done_ (done_of HT_.out (by kernel_rfl)) ?_
    try go_wp2
    refine bodyPost_ret (results_ct rfl _ _ gb108002 28 #[.int .i64 a0_0, .slice Ao24 t108016.length co24] (0, 0) _ rfl (by (with_reducible repeat (first | refine blk_drewN ?_ _ | refine blk_drew ?_ | refine blk_alloc ?_ _)); refine blk_put (cs := #[.int .i64 a0_0, .slice none 0 0]) ?_ 1 _ rfl; (with_reducible repeat (first | refine blk_drewN ?_ _ | refine blk_drew ?_ | refine blk_alloc ?_ _)); refine blk_put (cs := #[.int .i64 0, .slice none 0 0]) ?_ 0 _ rfl; (with_reducible repeat (first | refine blk_drewN ?_ _ | refine blk_drew ?_ | refine blk_alloc ?_ _)); exact BK108002.out) Try.underlying28 rfl (by kernel_rfl)) rfl ?_
    exact ⟨_, by first | rfl | (simp [errW_none, errW_some] <;> rfl) | (simp [*, errW_none, errW_some] <;> rfl), by (with_reducible repeat (first | apply Kd.R_alloc | apply Kd.R_drewN | apply Kd.R_drew)); exact Kd.R_mono (Kd.R_far (p := ⟨gb108002, 1, none⟩) (Kd.R_far (p := ⟨gb108002, 0, none⟩) (Kd.R_types HO108018.out BK108002.out (by decide)) (fun _ hk => hk.2) (.int .i64 a0_0)) (fun _ hk => hk.2) (.slice Ao24 t108016.length co24)) (fun _ hk => trivial), pB2 HB.out GE108001.out GE108002.out⟩
   ·rw [if_neg c6] at H
    exact absurd H (by simp)
  ·rw [if_neg c5] at H
   exact absurd H (by simp)
 ·replace c4 := Bool.eq_false_iff.mpr c4
  subst c4
  have H1 : (some (0, ([] : List Int), false)) = some (r1, r2, r3) := by rw [if_neg (show ¬ (false = true) by decide)] at H; exact H
  clear H
  have H := H1
  clear H1
  simp only [Option.some.injEq, Prod.mk.injEq] at H
  obtain ⟨rfl, rfl, rfl⟩ := H
  go_enter Try.func107, Try.ntmps107
  go_wp2_with (first | ((with_reducible refine gate_dst (N := 2) rfl ?_); refine box_event ?hg (N := 2) ?hd (cs := #[.int .i64 a0_0, .slice A0_1 l0_1.length c0_1]) (t := 28) ?hr ?_; (case hd => rfl); (case hg => rfl); (case hr => first | (go_simp; done) | (go_simp; rfl)); intro gb108001 hg w27 hbox hb; have BK108001 := aQ (hbox); have GW108001 := aQ ((by rw [hg]; exact (below_size (pB HB.out)) : w.heap.size ≤ gb108001)); have GE108001 := aQ ((by rw [hg]; exact (below_size (pB HB.out)) : w.heap.size ≤ gb108001)); replace HB := aQ (below_step (pB HB.out) hb); clear hb hbox hg) | ((with_reducible refine gate_dst (N := 4) rfl ?_); refine box_event ?hg (N := 4) ?hd (cs := #[.int .i64 0, .slice none 0 0]) (t := 28) ?hr ?_; (case hd => rfl); (case hg => rfl); (case hr => first | (go_simp; done) | (go_simp; rfl)); intro gb108002 hg w28 hbox hb; have BK108002 := aQ (hbox); have GW108002 := aQ ((by rw [hg]; exact (below_size (pB1 HB.out GE108001.out)) : w.heap.size ≤ gb108002)); have GE108002 := aQ ((by rw [hg]; exact (below_size (pB1 HB.out GE108001.out)) : w.heap.size ≤ gb108002)); replace HB := aQ (below_step (pB1 HB.out GE108001.out) hb); have NB108001_108002 := aQ ((by rw [hg]; exact Nat.ne_of_lt (blk_lt (g := gb108001) (o := .cells #[.int .i64 a0_0, .slice A0_1 l0_1.length c0_1] 28 (0, 0)) (pk BK108001.out)) : gb108001 ≠ gb108002)); have NB108002_108001 := aQ ((by rw [hg]; exact Nat.ne_of_gt (blk_lt (g := gb108001) (o := .cells #[.int .i64 a0_0, .slice A0_1 l0_1.length c0_1] 28 (0, 0)) (pk BK108001.out)) : gb108002 ≠ gb108001)); replace BK108001 := aQ (blk_below (g := gb108001) (o := .cells #[.int .i64 a0_0, .slice A0_1 l0_1.length c0_1] 28 (0, 0)) (pk BK108001.out) hb); clear hb hbox hg; have hnb29 := NB108001_108002.out; have hnc29 := NB108002_108001.out; have hcz30_0 := bc (v := (.int .i64 a0_0)) BK108001.out 0; have hcz30_1 := bc (v := (.slice A0_1 l0_1.length c0_1)) BK108001.out 1; have hfz30_0 := blk_frozen BK108001.out 0; have hfz30_1 := blk_frozen BK108001.out 1) | ((with_reducible refine gate_callee (f := 100) rfl ?_); refine goesL_ (some 8) rfl rfl Try.func100 (by kernel_rfl) rfl #[.agg #[.int .i64 a0_0, .slice A0_1 l0_1.length c0_1], .int .i64 a1] rfl lm ?_; (with_reducible refine (spec_IsRelaxable.calls k a0_0 _ _ l0_1 a1 false _ ?side1 ?side2 A3.out).mono ?_); (case side1 => exact pC (Kd.C_below HR0_1.out HB.out)); (case side2 => exact HC0_1.out); rintro e w31 ⟨rfl, hb⟩; refine ⟨_, rfl, ?_⟩; replace BK108001 := aQ (blk_below (g := gb108001) (o := .cells #[.int .i64 a0_0, .slice A0_1 l0_1.length c0_1] 28 (0, 0)) (pk BK108001.out) hb); replace BK108002 := aQ (blk_below (g := gb108002) (o := .cells #[.int .i64 0, .slice none 0 0] 28 (0, 0)) (pk BK108002.out) hb); replace HB := aQ (below_step (pB2 HB.out GE108001.out GE108002.out) hb); (try clear hb); have hcz32_0 := bc (v := (.int .i64 0)) BK108002.out 0; have hcz32_1 := bc (v := (.slice none 0 0)) BK108002.out 1; have hfz32_0 := blk_frozen BK108002.out 0; have hfz32_1 := blk_frozen BK108002.out 1))
  refine bodyPost_ret (results_ct rfl _ _ gb108002 28 #[.int .i64 0, .slice none 0 0] (0, 0) _ rfl (by (with_reducible repeat (first | refine blk_drewN ?_ _ | refine blk_drew ?_ | refine blk_alloc ?_ _)); refine blk_put (cs := #[.int .i64 0, .slice none 0 0]) ?_ 1 _ rfl; (with_reducible repeat (first | refine blk_drewN ?_ _ | refine blk_drew ?_ | refine blk_alloc ?_ _)); refine blk_put (cs := #[.int .i64 0, .slice none 0 0]) ?_ 0 _ rfl; (with_reducible repeat (first | refine blk_drewN ?_ _ | refine blk_drew ?_ | refine blk_alloc ?_ _)); exact BK108002.out) Try.underlying28 rfl (by kernel_rfl)) rfl ?_
  exact ⟨_, by first | rfl | (simp [errW_none, errW_some] <;> rfl) | (simp [*, errW_none, errW_some] <;> rfl), by first | exact Kd.R_nil _ _ _ _ _ | exact Kd.N_nil _ _ _ _ _ | exact Kd.V_nil _ _ _ _ _ | exact Kd.Q_nil _ _ _ _ _ | exact Kd.S_nil _ _ _ _ _, pB2 HB.out GE108001.out GE108002.out⟩
/-! ### impl_Relax: function 108 -/
def impl_Relax.f (k : Nat) (a0_0 : Int) (l0_1 : List Int) (a1 : Int) : Option (Int × List Int × Bool) := (impl_IsRelaxable.f k a0_0 l0_1 a1).bind fun t109003 => (if t109003 = true then ((some (([] : List Int) : List Int)).bind fun y109004 => (if y109004.length + l0_1.length < 17592186044416 then ((some (y109004 ++ l0_1 : List Int)).bind fun y109007 => ((some (([a1] : List Int) : List Int)).bind fun y109010 => (if y109007.length + y109010.length < 17592186044416 then ((impl_SortSets.f (y109007 ++ y109010)).bind fun t109016 => (some (a0_0, t109016, true))) else (none)))) else (none))) else (some (0, ([] : List Int), false)))
theorem impl_Relax.mono : ∀ a0 a1 a2 k, LeO (impl_Relax.f k a0 a1 a2) (impl_Relax.f (k + 1) a0 a1 a2) := by
 intro a0 a1 a2 k
 unfold impl_Relax.f
 repeat' first
   | (with_reducible exact impl_IsRelaxable.mono _ _ _ _)
   | (with_reducible exact LeO.refl _)
   | (with_reducible exact LeO.none _)
   | (with_reducible refine LeO.ite ?_ ?_)
   | (with_reducible refine LeO.bind ?_ (fun _ => ?_))
   | exact impl_IsRelaxable.mono _ _ _ _
   | exact LeO.none _
   | refine LeO.ite ?_ ?_
   | refine LeO.bind ?_ (fun _ => ?_)
def impl_Relax.T3 : Bool × List (List Nat × List Nat) := (true, [([], []), ([0], [0]), ([], []), ([], []), ([3], [3]), ([2, 4], [2, 4]), ([], []), ([6], [6]), ([5, 7, 5], [5, 7]), ([8, 8], [8]), ([1, 9], [1, 9]), ([10, 9, 0, 1, 2, 3, 4, 5, 6, 7, 8, 9, 10], [10]), ([11, 0, 1, 2, 3, 4, 5, 6, 7, 8, 9, 10, 11], [])])
def impl_Relax.B3 : List Nat := [0, 1, 0, 0, 8, 28, 0, 64, 252, 508, 1023, 2047, 4095]
theorem impl_Relax.tab3 : rtab .any (opsOf Try.f108 3) = impl_Relax.T3 := by kernel_rfl
theorem impl_Relax.bits3 : waitsOk impl_Relax.T3.2 impl_Relax.B3 = true := by kernel_rfl
set_option maxHeartbeats 8000000 in
set_option maxRecDepth 100000 in
theorem impl_Relax.calls (k : Nat) (a0_0 : Int) (A0_1 : Option Addr) (c0_1 : Nat) (l0_1 : List Int) (a1 : Int) (r1 : Int) (r2 : List Int) (r3 : Bool) (w : World) (hr0_1 : Kd.C (Kd.int .i64) w A0_1 l0_1.length l0_1) (hc0_1 : l0_1.length ≤ c0_1) (h : impl_Relax.f k a0_0 l0_1 a1 = some (r1, r2, r3)) :
  Calls Try.prog 108 #[.agg #[.int .i64 a0_0, .slice A0_1 l0_1.length c0_1], .int .i64 a1] w fun e w' => ∃ v1_ : Value, e = .returned (.tuple #[.agg #[.int .i64 r1, v1_], .bool r3]) ∧ Kd.R (Kd.int .i64) 3 w' w.heap.size (fun _ => True) v1_ r2 ∧ Below w.heap.size w w' := by
 have hu28 := Try.underlying28
 have HR0_1 := aQ hr0_1
 have HC0_1 := aQ hc0_1
 clear hr0_1 hc0_1
 have HB := aQ (Below.refl w.heap.size w)
 have H : ((impl_IsRelaxable.f k a0_0 l0_1 a1).bind fun t109003 => (if t109003 = true then ((some (([] : List Int) : List Int)).bind fun y109004 => (if y109004.length + l0_1.length < 17592186044416 then ((some (y109004 ++ l0_1 : List Int)).bind fun y109007 => ((some (([a1] : List Int) : List Int)).bind fun y109010 => (if y109007.length + y109010.length < 17592186044416 then ((impl_SortSets.f (y109007 ++ y109010)).bind fun t109016 => (some (a0_0, t109016, true))) else (none)))) else (none))) else (some (0, ([] : List Int), false)))) = some (r1, r2, r3) := h
 clear h
 replace H := Option.bind_eq_some_iff.mp H
 obtain ⟨t109003, A30, H⟩ := H
 replace H : (if t109003 = true then ((some (([] : List Int) : List Int)).bind fun y109004 => (if y109004.length + l0_1.length < 17592186044416 then ((some (y109004 ++ l0_1 : List Int)).bind fun y109007 => ((some (([a1] : List Int) : List Int)).bind fun y109010 => (if y109007.length + y109010.length < 17592186044416 then ((impl_SortSets.f (y109007 ++ y109010)).bind fun t109016 => (some (a0_0, t109016, true))) else (none)))) else (none))) else (some (0, ([] : List Int), false))) = some (r1, r2, r3) := H
 have A3 := aQ A30
 clear A30
 by_cases c4 : t109003 = true
 ·subst c4
  have H1 : ((some (([] : List Int) : List Int)).bind fun y109004 => (if y109004.length + l0_1.length < 17592186044416 then ((some (y109004 ++ l0_1 : List Int)).bind fun y109007 => ((some (([a1] : List Int) : List Int)).bind fun y109010 => (if y109007.length + y109010.length < 17592186044416 then ((impl_SortSets.f (y109007 ++ y109010)).bind fun t109016 => (some (a0_0, t109016, true))) else (none)))) else (none))) = some (r1, r2, r3) := by rw [if_pos rfl] at H; exact H
  clear H
  have H := H1
  clear H1
  obtain ⟨y109004, hy109004⟩ : ∃ y_ : List Int, y_ = (([] : List Int)) := ⟨_, rfl⟩
  replace H : (if y109004.length + l0_1.length < 17592186044416 then ((some (y109004 ++ l0_1 : List Int)).bind fun y109007 => ((some (([a1] : List Int) : List Int)).bind fun y109010 => (if y109007.length + y109010.length < 17592186044416 then ((impl_SortSets.f (y109007 ++ y109010)).bind fun t109016 => (some (a0_0, t109016, true))) else (none)))) else (none)) = some (r1, r2, r3) := by first | (rw [hy109004]; with_reducible exact H) | (have H2_ := (Option.bind_some _ _).symm.trans H; rw [hy109004]; with_reducible exact H2_) | (have H2_ := (Option.bind_some _ _).symm.trans H; with_reducible exact H2_) | with_reducible exact H | (rw [hy109004]; exact H) | exact H
  have Ny109004 := aQ hy109004
  clear hy109004
  by_cases c5 : y109004.length + l0_1.length < 17592186044416
  ·rw [if_pos c5] at H
   have LMc5 := aQ c5
   clear c5
   obtain ⟨y109007, hy109007⟩ : ∃ y_ : List Int, y_ = (y109004 ++ l0_1) := ⟨_, rfl⟩
   replace H : ((some (([a1] : List Int) : List Int)).bind fun y109010 => (if y109007.length + y109010.length < 17592186044416 then ((impl_SortSets.f (y109007 ++ y109010)).bind fun t109016 => (some (a0_0, t109016, true))) else (none))) = some (r1, r2, r3) := by first | (rw [hy109007]; with_reducible exact H) | (have H2_ := (Option.bind_some _ _).symm.trans H; rw [hy109007]; with_reducible exact H2_) | (have H2_ := (Option.bind_some _ _).symm.trans H; with_reducible exact H2_) | with_reducible exact H | (rw [hy109007]; exact H) | exact H
   have Ny109007 := aQ hy109007
   clear hy109007
   obtain ⟨y109010, hy109010⟩ : ∃ y_ : List Int, y_ = (([a1] : List Int)) := ⟨_, rfl⟩
   replace H : (if y109007.length + y109010.length < 17592186044416 then ((impl_SortSets.f (y109007 ++ y109010)).bind fun t109016 => (some (a0_0, t109016, true))) else (none)) = some (r1, r2, r3) := by first | (rw [hy109010]; with_reducible exact H) | (have H2_ := (Option.bind_some _ _).symm.trans H; rw [hy109010]; with_reducible exact H2_) | (have H2_ := (Option.bind_some _ _).symm.trans H; with_reducible exact H2_) | with_reducible exact H | (rw [hy109010]; exact H) | exact H
   have Ny109010 := aQ hy109010
   clear hy109010
   by_cases c6 : y109007.length + y109010.length < 17592186044416
   ·rw [if_pos c6] at H
    have LMc6 := aQ c6
    clear c6
    obtain ⟨y109013, hy109013⟩ : ∃ y_ : List Int, y_ = (y109007 ++ y109010) := ⟨_, rfl⟩
    replace H : ((impl_SortSets.f y109013).bind fun t109016 => (some (a0_0, t109016, true))) = some (r1, r2, r3) := by first | (rw [hy109013]; with_reducible exact H) | (have H2_ := (Option.bind_some _ _).symm.trans H; rw [hy109013]; with_reducible exact H2_) | (have H2_ := (Option.bind_some _ _).symm.trans H; with_reducible exact H2_) | with_reducible exact H | (rw [hy109013]; exact H) | exact H
    have Ny109013 := aQ hy109013
    clear hy109013
    replace H := Option.bind_eq_some_iff.mp H
    obtain ⟨t109016, A70, H⟩ := H
    replace H : (some (a0_0, t109016, true)) = some (r1, r2, r3) := H
    have A7 := aQ A70
    clear A70
    simp only [Option.some.injEq, Prod.mk.injEq] at H
    obtain ⟨rfl, rfl, rfl⟩ := H
    go_enter Try.func108, Try.ntmps108
    try go_wp2_with (first | ((with_reducible refine gate_dst (N := 2) rfl ?_); refine box_event ?hg (N := 2) ?hd (cs := #[.int .i64 a0_0, .slice A0_1 l0_1.length c0_1]) (t := 28) ?hr ?_; (case hd => rfl); (case hg => rfl); (case hr => first | (go_simp; done) | (go_simp; rfl)); intro gb109001 hg w8 hbox hb; have BK109001 := aQ (hbox); have GW109001 := aQ ((by rw [hg]; exact (below_size (pB HB.out)) : w.heap.size ≤ gb109001)); have GE109001 := aQ ((by rw [hg]; exact (below_size (pB HB.out)) : w.heap.size ≤ gb109001)); replace HB := aQ (below_step (pB HB.out) hb); clear hb hbox hg) | ((with_reducible refine gate_dst (N := 4) rfl ?_); refine box_event ?hg (N := 4) ?hd (cs := #[.int .i64 0, .slice none 0 0]) (t := 28) ?hr ?_; (case hd => rfl); (case hg => rfl); (case hr => first | (go_simp; done) | (go_simp; rfl)); intro gb109002 hg w9 hbox hb; have BK109002 := aQ (hbox); have GW109002 := aQ ((by rw [hg]; exact (below_size (pB1 HB.out GE109001.out)) : w.heap.size ≤ gb109002)); have GE109002 := aQ ((by rw [hg]; exact (below_size (pB1 HB.out GE109001.out)) : w.heap.size ≤ gb109002)); replace HB := aQ (below_step (pB1 HB.out GE109001.out) hb); have NB109001_109002 := aQ ((by rw [hg]; exact Nat.ne_of_lt (blk_lt (g := gb109001) (o := .cells #[.int .i64 a0_0, .slice A0_1 l0_1.length c0_1] 28 (0, 0)) (pk BK109001.out)) : gb109001 ≠ gb109002)); have NB109002_109001 := aQ ((by rw [hg]; exact Nat.ne_of_gt (blk_lt (g := gb109001) (o := .cells #[.int .i64 a0_0, .slice A0_1 l0_1.length c0_1] 28 (0, 0)) (pk BK109001.out)) : gb109002 ≠ gb109001)); replace BK109001 := aQ (blk_below (g := gb109001) (o := .cells #[.int .i64 a0_0, .slice A0_1 l0_1.length c0_1] 28 (0, 0)) (pk BK109001.out) hb); clear hb hbox hg; have hnb10 := NB109001_109002.out; have hnc10 := NB109002_109001.out; have hcz11_0 := bc (v := (.int .i64 a0_0)) BK109001.out 0; have hcz11_1 := bc (v := (.slice A0_1 l0_1.length c0_1)) BK109001.out 1; have hfz11_0 := blk_frozen BK109001.out 0; have hfz11_1 := blk_frozen BK109001.out 1) | ((with_reducible refine gate_callee (f := 101) rfl ?_); refine goesL_ (some 8) rfl rfl Try.func101 (by kernel_rfl) rfl #[.agg #[.int .i64 a0_0, .slice A0_1 l0_1.length c0_1], .int .i64 a1] rfl lm ?_; (with_reducible refine (impl_IsRelaxable.calls k a0_0 _ _ l0_1 a1 true _ ?side1 ?side2 A3.out).mono ?_); (case side1 => exact pC (Kd.C_below HR0_1.out HB.out)); (case side2 => exact HC0_1.out); rintro e w12 ⟨rfl, hb⟩; refine ⟨_, rfl, ?_⟩; replace BK109001 := aQ (blk_below (g := gb109001) (o := .cells #[.int .i64 a0_0, .slice A0_1 l0_1.length c0_1] 28 (0, 0)) (pk BK109001.out) hb); replace BK109002 := aQ (blk_below (g := gb109002) (o := .cells #[.int .i64 0, .slice none 0 0] 28 (0, 0)) (pk BK109002.out) hb); replace HB := aQ (below_step (pB2 HB.out GE109001.out GE109002.out) hb); (try clear hb)))
    have n0_ := aQ (blk_drew BK109001.out)
    have n1_ := aQ (blk_drew BK109002.out)
    have n2_ := aQ (below_drew1 HB.out)
    clear BK109001
    clear BK109002
    clear HB
    have BK109001 := n0_
    have BK109002 := n1_
    have HB := n2_
    clear n0_ n1_ n2_
    refine start_ (n := 13) (S := fun w' => w'.cell? ⟨gb109001, 0, none⟩ = some (.int .i64 a0_0) ∧ w'.cell? ⟨gb109001, 1, none⟩ = some (.slice A0_1 l0_1.length c0_1)) (ds := []) #[false, false, false, false, false, false, false, false, false, false, false, false, false] (by kernel_rfl) rfl rfl ⟨(blk_cell BK109001.out 0).trans rfl, (blk_cell BK109001.out 1).trans rfl⟩ (fun hHeld => ?_); refine with_tabW impl_Relax.tab3 impl_Relax.bits3 (fun HT_ HW_ => ?_)
    generalize w12.drew = w13 at BK109001 BK109002 HB hHeld ⊢
    refine pure_ (i := 0) (N := some 11) (v := ?_) (a' := ?_) #[true, false, false, false, false, false, false, false, false, false, false, false, false] rfl rfl (any_of HT_.out (by kernel_rfl)) (fun _ _ _ h => h) (Or.inl ⟨by rfl, ?_⟩) ?_ ?_
    rotate_left
    ·intro w'
     go_simp
     with_reducible rfl
    rotate_left
    ·simp only [Act.put, List.setIfInBounds_toArray, List.set_cons_zero, List.set_cons_succ, i64_w, i32_w]
     rfl
    refine pure_ (i := 3) (N := some 14) (v := ?_) (a' := ?_) #[true, false, false, true, false, false, false, false, false, false, false, false, false] rfl rfl (any_of HT_.out (by kernel_rfl)) (fun _ _ _ h => h) (Or.inl ⟨by rfl, ?_⟩) ?_ ?_
    rotate_left
    ·intro w'
     go_simp
     with_reducible rfl
    rotate_left
    ·simp only [Act.put, List.setIfInBounds_toArray, List.set_cons_zero, List.set_cons_succ, i64_w, i32_w]
     rfl
    refine pure_ (i := 6) (N := some 17) (v := ?_) (a' := ?_) #[true, false, false, true, false, false, true, false, false, false, false, false, false] rfl rfl (any_of HT_.out (by kernel_rfl)) (fun _ _ _ h => h) (Or.inl ⟨by rfl, ?_⟩) ?_ ?_
    rotate_left
    ·intro w'
     go_simp
     with_reducible rfl
    rotate_left
    ·simp only [Act.put, List.setIfInBounds_toArray, List.set_cons_zero, List.set_cons_succ, i64_w, i32_w]
     rfl
    refine take_ (i := 1) (N := some 12) (v := ?_) (a' := ?_) #[true, true, false, true, false, false, true, false, false, false, false, false, false] rfl rfl (take_ofW HT_.out HW_.out (by kernel_rfl)) (fun _ _ _ h => h) (Or.inl ⟨by rfl, ?_⟩) hHeld ?_ ?_
    rotate_left
    ·rintro w' ⟨s0, s1⟩
     go_simp
     with_reducible rfl
    rotate_left
    ·simp only [Act.put, List.setIfInBounds_toArray, List.set_cons_zero, List.set_cons_succ, i64_w, i32_w]
     rfl
    refine take_ (i := 4) (N := some 15) (v := ?_) (a' := ?_) #[true, true, false, true, true, false, true, false, false, false, false, false, false] rfl rfl (take_ofW HT_.out HW_.out (by kernel_rfl)) (fun _ _ _ h => h) (Or.inl ⟨by rfl, ?_⟩) hHeld ?_ ?_
    rotate_left
    ·rintro w' ⟨s0, s1⟩
     go_simp
     with_reducible rfl
    rotate_left
    ·simp only [Act.put, List.setIfInBounds_toArray, List.set_cons_zero, List.set_cons_succ, i64_w, i32_w]
     rfl
    refine join_ (σ := Value × Value × Value) 5 #[true, true, true, true, true, true, true, true, false, false, false, false, false] (fun s_ => [(13, s_.1), (16, s_.2.1), (18, s_.2.2)]) (fun s_ w' => (w'.cell? ⟨gb109001, 0, none⟩ = some (.int .i64 a0_0) ∧ w'.cell? ⟨gb109001, 1, none⟩ = some (.slice A0_1 l0_1.length c0_1)) ∧ (Kd.R (Kd.int .i64) 3 w' w.heap.size (fun k_ => some k_ ≠ (s_.2.2 : Value).ownBlock) s_.2.1 y109007) ∧ (Kd.R (Kd.int .i64) 3 w' w.heap.size (fun k_ => some k_ ≠ (s_.2.1 : Value).ownBlock) s_.2.2 y109010) ∧ (w'.heap[gb109001]? = some (.cells #[.int .i64 a0_0, .slice A0_1 l0_1.length c0_1] 28 (0, 0))) ∧ (w'.heap[gb109002]? = some (.cells #[.int .i64 0, .slice none 0 0] 28 (0, 0))) ∧ (Below w.heap.size w w')) ?_ ?_
    rotate_left
    ·intro hCont
     refine two_ (i := 2) (j := 7) (Ni := some 13) (Nj := some 18) #[true, true, true, true, true, false, true, false, false, false, false, false, false] #[true, true, false, true, true, false, true, true, false, false, false, false, false] rfl rfl rfl rfl (two_of HT_.out (by kernel_rfl)) (by decide) (by decide) (fun K hK => ?_) (fun K hK => ?_)
     ·skip
      refine Kd.R_lit_step (Kd.int .i64) _ 3 ?hg (N := 13) ?hd (xs := ([] : List Int)) (inner := []) (ok := fun _ => True) (okp := fun _ => True) ?hr ?hp (fun _ hk => hk) trivial (Below.refl _ _) (Nat.le_refl _) (by simp) ?_; (case hd => rfl); (case hg => rfl); (case hr => first | (go_simp; done) | (go_simp; rfl)); (case hp => exact (Reps.none _ _))
      intro v109005 w14 ho15 hb hg_ hnew_
      clear hg_ hnew_
      (first | rw [← Ny109004.out] at ho15 | (simp only [Int.reduceToNat] at ho15; rw [← Ny109004.out] at ho15))
      have n0_ := aQ (Kd.R_lower ho15 (below_size (pB2 HB.out GE109001.out GE109002.out)))
      have n1_ := aQ (blk_below (g := gb109001) (o := .cells #[.int .i64 a0_0, .slice A0_1 l0_1.length c0_1] 28 (0, 0)) (pk BK109001.out) hb)
      have n2_ := aQ (blk_below (g := gb109002) (o := .cells #[.int .i64 0, .slice none 0 0] 28 (0, 0)) (pk BK109002.out) hb)
      have n3_ := aQ (below_step (pB2 HB.out GE109001.out GE109002.out) hb)
      clear BK109001
      clear BK109002
      clear HB
      have HO109006 := n0_
      have BK109001 := n1_
      have BK109002 := n2_
      have HB := n3_
      clear n0_ n1_ n2_ n3_
      clear hb ho15
      refine hK.out _ _ ⟨(blk_cell BK109001.out 0).trans rfl, (blk_cell BK109001.out 1).trans rfl⟩ (fun hHeld => ?_)
      clear hK K
      refine norm_ (a' := ?_) ?_ ?_
      rotate_left
      ·show Act.put _ (some 13) _ = _
       simp only [Act.put, List.setIfInBounds_toArray, List.set_cons_zero, List.set_cons_succ, i64_w, i32_w]
       rfl
      refine two_ (i := 5) (j := 7) (Ni := some 16) (Nj := some 18) #[true, true, true, true, true, true, true, false, false, false, false, false, false] #[true, true, true, true, true, false, true, true, false, false, false, false, false] rfl rfl rfl rfl (two_of HT_.out (by kernel_rfl)) (by decide) (by decide) (fun K hK => ?_) (fun K hK => ?_)
      ·skip
       refine Kd.R_append_rows_step (Kd.int .i64) (w0 := w) w.heap.size (by rfl) (.tmp 13) (.tmp 15) 22 3 (.int .i64 0) 8 rfl Try.underlying22 info3 rfl (by decide) (by omega) v109005 y109004 l0_1 _ _ _ (fun _ => True) (fun _ => False) rfl rfl ?aO ?aR (fun _ _ h => h) (fun _ h => h.elim) ?aF ?aB ?aS ?aL ?_
       (case aR => exact pC (Kd.C_below HR0_1.out HB.out))
       (case aB => exact (pB2 HB.out GE109001.out GE109002.out))
       (case aF => exact (fun _ _ => trivial))
       (case aO => exact (pR HO109006.out))
       (case aS => exact (below_size (pB2 HB.out GE109001.out GE109002.out)))
       (case aL => have := LMc5.out; omega)
       intro v109008 w16 ho hb hg hat
       rw [← Ny109007.out] at ho
       have n0_ := aQ (blk_grown (g := gb109001) (o := .cells #[.int .i64 a0_0, .slice A0_1 l0_1.length c0_1] 28 (0, 0)) (pk BK109001.out) hg (Kd.R_ne HO109006.out BK109001.out (by decide)))
       have n1_ := aQ (blk_grown (g := gb109002) (o := .cells #[.int .i64 0, .slice none 0 0] 28 (0, 0)) (pk BK109002.out) hg (Kd.R_ne HO109006.out BK109002.out (by decide)))
       have n2_ := aQ (hb)
       have n3_ := aQ (ho)
       clear BK109001
       clear BK109002
       clear HB
       clear HO109006
       have BK109001 := n0_
       have BK109002 := n1_
       have HB := n2_
       have HO109009 := n3_
       clear n0_ n1_ n2_ n3_
       clear ho hb hg hat
       refine hK.out _ _ ⟨(blk_cell BK109001.out 0).trans rfl, (blk_cell BK109001.out 1).trans rfl⟩ (fun hHeld => ?_)
       clear hK K
       refine norm_ (a' := ?_) ?_ ?_
       rotate_left
       ·show Act.put _ (some 16) _ = _
        simp only [Act.put, List.setIfInBounds_toArray, List.set_cons_zero, List.set_cons_succ, i64_w, i32_w]
        rfl
       refine one_ (i := 7) (N := some 18) #[true, true, true, true, true, true, true, true, false, false, false, false, false] rfl rfl (one_of HT_.out (by kernel_rfl)) (by decide) (fun K hK => ?_)
       refine Kd.R_lit_step (Kd.int .i64) _ 3 ?hg (N := 18) ?hd (xs := ([a1] : List Int)) (inner := [.int .i64 a1]) (ok := fun _ => True) (okp := fun _ => True) ?hr ?hp (fun _ hk => hk) trivial (Below.refl _ _) (Nat.le_refl _) (by simp) ?_; (case hd => rfl); (case hg => rfl); (case hr => first | (go_simp; done) | (go_simp; rfl)); (case hp => exact (Reps.one (show Kd.M (Kd.int .i64) _ _ _ a1 [.int .i64 a1] from rfl) (Reps.none _ _)))
       intro v109011 w17 ho18 hb hg_ hnew_
       clear hg_ hnew_
       (first | rw [← Ny109010.out] at ho18 | (simp only [Int.reduceToNat] at ho18; rw [← Ny109010.out] at ho18))
       have n0_ := aQ (Kd.R_elder' (pR HO109009.out) (Kd.R_base ho18) hb)
       have n1_ := aQ (Kd.R_lower (Kd.R_new' ho18 (Kd.R_lt (pR HO109009.out))) (below_size (pB2 HB.out GE109001.out GE109002.out)))
       have n2_ := aQ (blk_below (g := gb109001) (o := .cells #[.int .i64 a0_0, .slice A0_1 l0_1.length c0_1] 28 (0, 0)) (pk BK109001.out) hb)
       have n3_ := aQ (blk_below (g := gb109002) (o := .cells #[.int .i64 0, .slice none 0 0] 28 (0, 0)) (pk BK109002.out) hb)
       have n4_ := aQ (below_step (pB2 HB.out GE109001.out GE109002.out) hb)
       clear HO109009
       clear BK109001
       clear BK109002
       clear HB
       have HO109009 := n0_
       have HO109012 := n1_
       have BK109001 := n2_
       have BK109002 := n3_
       have HB := n4_
       clear n0_ n1_ n2_ n3_ n4_
       clear hb ho18
       refine hK.out _ _ ⟨(blk_cell BK109001.out 0).trans rfl, (blk_cell BK109001.out 1).trans rfl⟩ (fun hHeld => ?_)
       clear hK K
       refine norm_ (a' := ?_) ?_ ?_
       rotate_left
       ·show Act.put _ (some 18) _ = _
        simp only [Act.put, List.setIfInBounds_toArray, List.set_cons_zero, List.set_cons_succ, i64_w, i32_w]
        rfl
       exact norm_ (by simp only [putAll, Act.put, List.setIfInBounds_toArray, List.set_cons_zero, List.set_cons_succ]) (hCont (v109005, v109008, v109011) _ ⟨hHeld, (by (with_reducible repeat (first | apply Kd.R_alloc | apply Kd.R_drewN | apply Kd.R_drew)); exact Kd.R_mono HO109009.out (fun _ hk => hk.2)), (by (with_reducible repeat (first | apply Kd.R_alloc | apply Kd.R_drewN | apply Kd.R_drew)); exact Kd.R_mono HO109012.out (fun _ hk => hk.2)), (pk BK109001.out), (pk BK109002.out), (pB2 HB.out GE109001.out GE109002.out)⟩)
      ·skip
       refine Kd.R_lit_step (Kd.int .i64) _ 3 ?hg (N := 18) ?hd (xs := ([a1] : List Int)) (inner := [.int .i64 a1]) (ok := fun _ => True) (okp := fun _ => True) ?hr ?hp (fun _ hk => hk) trivial (Below.refl _ _) (Nat.le_refl _) (by simp) ?_; (case hd => rfl); (case hg => rfl); (case hr => first | (go_simp; done) | (go_simp; rfl)); (case hp => exact (Reps.one (show Kd.M (Kd.int .i64) _ _ _ a1 [.int .i64 a1] from rfl) (Reps.none _ _)))
       intro v109011 w16 ho17 hb hg_ hnew_
       clear hg_ hnew_
       (first | rw [← Ny109010.out] at ho17 | (simp only [Int.reduceToNat] at ho17; rw [← Ny109010.out] at ho17))
       have n0_ := aQ (Kd.R_elder' (pR HO109006.out) (Kd.R_base ho17) hb)
       have n1_ := aQ (Kd.R_lower (Kd.R_new' ho17 (Kd.R_lt (pR HO109006.out))) (below_size (pB2 HB.out GE109001.out GE109002.out)))
       have n2_ := aQ (blk_below (g := gb109001) (o := .cells #[.int .i64 a0_0, .slice A0_1 l0_1.length c0_1] 28 (0, 0)) (pk BK109001.out) hb)
       have n3_ := aQ (blk_below (g := gb109002) (o := .cells #[.int .i64 0, .slice none 0 0] 28 (0, 0)) (pk BK109002.out) hb)
       have n4_ := aQ (below_step (pB2 HB.out GE109001.out GE109002.out) hb)
       clear HO109006
       clear BK109001
       clear BK109002
       clear HB
       have HO109006 := n0_
       have HO109012 := n1_
       have BK109001 := n2_
       have BK109002 := n3_
       have HB := n4_
       clear n0_ n1_ n2_ n3_ n4_
       clear hb ho17
       refine hK.out _ _ ⟨(blk_cell BK109001.out 0).trans rfl, (blk_cell BK109001.out 1).trans rfl⟩ (fun hHeld => ?_)
       clear hK K
       refine norm_ (a' := ?_) ?_ ?_
       rotate_left
       ·show Act.put _ (some 18) _ = _
        simp only [Act.put, List.setIfInBounds_toArray, List.set_cons_zero, List.set_cons_succ, i64_w, i32_w]
        rfl
       refine one_ (i := 5) (N := some 16) #[true, true, true, true, true, true, true, true, false, false, false, false, false] rfl rfl (one_of HT_.out (by kernel_rfl)) (by decide) (fun K hK => ?_)
       refine Kd.R_append_rows_step (Kd.int .i64) (w0 := w) w.heap.size (by rfl) (.tmp 13) (.tmp 15) 22 3 (.int .i64 0) 8 rfl Try.underlying22 info3 rfl (by decide) (by omega) v109005 y109004 l0_1 _ _ _ (fun k_ => some k_ ≠ (v109011 : Value).ownBlock) (fun _ => False) rfl rfl ?aO ?aR (fun _ _ h => h) (fun _ h => h.elim) ?aF ?aB ?aS ?aL ?_
       (case aR => exact pC (Kd.C_below HR0_1.out HB.out))
       (case aB => exact (pB2 HB.out GE109001.out GE109002.out))
       (case aF => exact (fun k_ hk => Kd.fresh' (Kd.R_lt (pR HO109012.out)) k_ hk))
       (case aO => exact (by (with_reducible repeat (first | apply Kd.R_alloc | apply Kd.R_drewN | apply Kd.R_drew)); exact Kd.R_mono HO109006.out (fun _ hk => hk.2)))
       (case aS => exact (below_size (pB2 HB.out GE109001.out GE109002.out)))
       (case aL => have := LMc5.out; omega)
       intro v109008 w18 ho hb hg hat
       rw [← Ny109007.out] at ho
       have n0_ := aQ (blk_grown (g := gb109001) (o := .cells #[.int .i64 a0_0, .slice A0_1 l0_1.length c0_1] 28 (0, 0)) (pk BK109001.out) hg (Kd.R_ne HO109006.out BK109001.out (by decide)))
       have n1_ := aQ (blk_grown (g := gb109002) (o := .cells #[.int .i64 0, .slice none 0 0] 28 (0, 0)) (pk BK109002.out) hg (Kd.R_ne HO109006.out BK109002.out (by decide)))
       have n2_ := aQ (Kd.R_after (ok := (fun _ => True)) (pR HO109012.out) hg hat)
       have n3_ := aQ (hb)
       have n4_ := aQ (ho)
       clear BK109001
       clear BK109002
       clear HO109012
       clear HB
       clear HO109006
       have BK109001 := n0_
       have BK109002 := n1_
       have HO109012 := n2_
       have HB := n3_
       have HO109009 := n4_
       clear n0_ n1_ n2_ n3_ n4_
       clear ho hb hg hat
       refine hK.out _ _ ⟨(blk_cell BK109001.out 0).trans rfl, (blk_cell BK109001.out 1).trans rfl⟩ (fun hHeld => ?_)
       clear hK K
       refine norm_ (a' := ?_) ?_ ?_
       rotate_left
       ·show Act.put _ (some 16) _ = _
        simp only [Act.put, List.setIfInBounds_toArray, List.set_cons_zero, List.set_cons_succ, i64_w, i32_w]
        rfl
       exact norm_ (by simp only [putAll, Act.put, List.setIfInBounds_toArray, List.set_cons_zero, List.set_cons_succ]) (hCont (v109005, v109008, v109011) _ ⟨hHeld, (pR HO109009.out), (by (with_reducible repeat (first | apply Kd.R_alloc | apply Kd.R_drewN | apply Kd.R_drew)); exact Kd.R_mono HO109012.out (fun _ hk => hk.2)), (pk BK109001.out), (pk BK109002.out), (pB2 HB.out GE109001.out GE109002.out)⟩)
     ·skip
      refine Kd.R_lit_step (Kd.int .i64) _ 3 ?hg (N := 18) ?hd (xs := ([a1] : List Int)) (inner := [.int .i64 a1]) (ok := fun _ => True) (okp := fun _ => True) ?hr ?hp (fun _ hk => hk) trivial (Below.refl _ _) (Nat.le_refl _) (by simp) ?_; (case hd => rfl); (case hg => rfl); (case hr => first | (go_simp; done) | (go_simp; rfl)); (case hp => exact (Reps.one (show Kd.M (Kd.int .i64) _ _ _ a1 [.int .i64 a1] from rfl) (Reps.none _ _)))
      intro v109011 w14 ho15 hb hg_ hnew_
      clear hg_ hnew_
      (first | rw [← Ny109010.out] at ho15 | (simp only [Int.reduceToNat] at ho15; rw [← Ny109010.out] at ho15))
      have n0_ := aQ (Kd.R_lower ho15 (below_size (pB2 HB.out GE109001.out GE109002.out)))
      have n1_ := aQ (blk_below (g := gb109001) (o := .cells #[.int .i64 a0_0, .slice A0_1 l0_1.length c0_1] 28 (0, 0)) (pk BK109001.out) hb)
      have n2_ := aQ (blk_below (g := gb109002) (o := .cells #[.int .i64 0, .slice none 0 0] 28 (0, 0)) (pk BK109002.out) hb)
      have n3_ := aQ (below_step (pB2 HB.out GE109001.out GE109002.out) hb)
      clear BK109001
      clear BK109002
      clear HB
      have HO109012 := n0_
      have BK109001 := n1_
      have BK109002 := n2_
      have HB := n3_
      clear n0_ n1_ n2_ n3_
      clear hb ho15
      refine hK.out _ _ ⟨(blk_cell BK109001.out 0).trans rfl, (blk_cell BK109001.out 1).trans rfl⟩ (fun hHeld => ?_)
      clear hK K
      refine norm_ (a' := ?_) ?_ ?_
      rotate_left
      ·show Act.put _ (some 18) _ = _
       simp only [Act.put, List.setIfInBounds_toArray, List.set_cons_zero, List.set_cons_succ, i64_w, i32_w]
       rfl
      refine one_ (i := 2) (N := some 13) #[true, true, true, true, true, false, true, true, false, false, false, false, false] rfl rfl (one_of HT_.out (by kernel_rfl)) (by decide) (fun K hK => ?_)
      refine Kd.R_lit_step (Kd.int .i64) _ 3 ?hg (N := 13) ?hd (xs := ([] : List Int)) (inner := []) (ok := fun _ => True) (okp := fun _ => True) ?hr ?hp (fun _ hk => hk) trivial (Below.refl _ _) (Nat.le_refl _) (by simp) ?_; (case hd => rfl); (case hg => rfl); (case hr => first | (go_simp; done) | (go_simp; rfl)); (case hp => exact (Reps.none _ _))
      intro v109005 w16 ho17 hb hg_ hnew_
      clear hg_ hnew_
      (first | rw [← Ny109004.out] at ho17 | (simp only [Int.reduceToNat] at ho17; rw [← Ny109004.out] at ho17))
      have n0_ := aQ (Kd.R_elder' (pR HO109012.out) (Kd.R_base ho17) hb)
      have n1_ := aQ (Kd.R_lower (Kd.R_new' ho17 (Kd.R_lt (pR HO109012.out))) (below_size (pB2 HB.out GE109001.out GE109002.out)))
      have n2_ := aQ (blk_below (g := gb109001) (o := .cells #[.int .i64 a0_0, .slice A0_1 l0_1.length c0_1] 28 (0, 0)) (pk BK109001.out) hb)
      have n3_ := aQ (blk_below (g := gb109002) (o := .cells #[.int .i64 0, .slice none 0 0] 28 (0, 0)) (pk BK109002.out) hb)
      have n4_ := aQ (below_step (pB2 HB.out GE109001.out GE109002.out) hb)
      clear HO109012
      clear BK109001
      clear BK109002
      clear HB
      have HO109012 := n0_
      have HO109006 := n1_
      have BK109001 := n2_
      have BK109002 := n3_
      have HB := n4_
      clear n0_ n1_ n2_ n3_ n4_
      clear hb ho17
      refine hK.out _ _ ⟨(blk_cell BK109001.out 0).trans rfl, (blk_cell BK109001.out 1).trans rfl⟩ (fun hHeld => ?_)
      clear hK K
      refine norm_ (a' := ?_) ?_ ?_
      rotate_left
      ·show Act.put _ (some 13) _ = _
       simp only [Act.put, List.setIfInBounds_toArray, List.set_cons_zero, List.set_cons_succ, i64_w, i32_w]
       rfl
      refine one_ (i := 5) (N := some 16) #[true, true, true, true, true, true, true, true, false, false, false, false, false] rfl rfl (one_of HT_.out (by kernel_rfl)) (by decide) (fun K hK => ?_)
      refine Kd.R_append_rows_step (Kd.int .i64) (w0 := w) w.heap.size (by rfl) (.tmp 13) (.tmp 15) 22 3 (.int .i64 0) 8 rfl Try.underlying22 info3 rfl (by decide) (by omega) v109005 y109004 l0_1 _ _ _ (fun k_ => some k_ ≠ (v109011 : Value).ownBlock) (fun _ => False) rfl rfl ?aO ?aR (fun _ _ h => h) (fun _ h => h.elim) ?aF ?aB ?aS ?aL ?_
      (case aR => exact pC (Kd.C_below HR0_1.out HB.out))
      (case aB => exact (pB2 HB.out GE109001.out GE109002.out))
      (case aF => exact (fun k_ hk => Kd.fresh' (Kd.R_lt (pR HO109012.out)) k_ hk))
      (case aO => exact (by (with_reducible repeat (first | apply Kd.R_alloc | apply Kd.R_drewN | apply Kd.R_drew)); exact Kd.R_mono HO109006.out (fun _ hk => hk.2)))
      (case aS => exact (below_size (pB2 HB.out GE109001.out GE109002.out)))
      (case aL => have := LMc5.out; omega)
      intro v109008 w18 ho hb hg hat
      rw [← Ny109007.out] at ho
      have n0_ := aQ (blk_grown (g := gb109001) (o := .cells #[.int .i64 a0_0, .slice A0_1 l0_1.length c0_1] 28 (0, 0)) (pk BK109001.out) hg (Kd.R_ne HO109006.out BK109001.out (by decide)))
      have n1_ := aQ (blk_grown (g := gb109002) (o := .cells #[.int .i64 0, .slice none 0 0] 28 (0, 0)) (pk BK109002.out) hg (Kd.R_ne HO109006.out BK109002.out (by decide)))
      have n2_ := aQ (Kd.R_after (ok := (fun _ => True)) (pR HO109012.out) hg hat)
      have n3_ := aQ (hb)
      have n4_ := aQ (ho)
      clear BK109001
      clear BK109002
      clear HO109012
      clear HB
      clear HO109006
      have BK109001 := n0_
      have BK109002 := n1_
      have HO109012 := n2_
      have HB := n3_
      have HO109009 := n4_
      clear n0_ n1_ n2_ n3_ n4_
      clear ho hb hg hat
      refine hK.out _ _ ⟨(blk_cell BK109001.out 0).trans rfl, (blk_cell BK109001.out 1).trans rfl⟩ (fun hHeld => ?_)
      clear hK K
      refine norm_ (a' := ?_) ?_ ?_
      rotate_left
      ·show Act.put _ (some 16) _ = _
       simp only [Act.put, List.setIfInBounds_toArray, List.set_cons_zero, List.set_cons_succ, i64_w, i32_w]
       rfl
      exact norm_ (by simp only [putAll, Act.put, List.setIfInBounds_toArray, List.set_cons_zero, List.set_cons_succ]) (hCont (v109005, v109008, v109011) _ ⟨hHeld, (pR HO109009.out), (by (with_reducible repeat (first | apply Kd.R_alloc | apply Kd.R_drewN | apply Kd.R_drew)); exact Kd.R_mono HO109012.out (fun _ hk => hk.2)), (pk BK109001.out), (pk BK109002.out), (pB2 HB.out GE109001.out GE109002.out)⟩)
    rintro ⟨v109005, v109008, v109011⟩ w19 ⟨hS_, h0_, h1_, h2_, h3_, h4_⟩
    have n0_ : Aside0 (Kd.R (Kd.int .i64) 3 w19 w.heap.size (fun k_ => some k_ ≠ (v109011 : Value).ownBlock) v109008 y109007) := ⟨h0_⟩
    have n1_ : Aside0 (Kd.R (Kd.int .i64) 3 w19 w.heap.size (fun k_ => some k_ ≠ (v109008 : Value).ownBlock) v109011 y109010) := ⟨h1_⟩
    have n2_ : Aside0 (w19.heap[gb109001]? = some (.cells #[.int .i64 a0_0, .slice A0_1 l0_1.length c0_1] 28 (0, 0))) := ⟨h2_⟩
    have n3_ : Aside0 (w19.heap[gb109002]? = some (.cells #[.int .i64 0, .slice none 0 0] 28 (0, 0))) := ⟨h3_⟩
    have n4_ : Aside0 (Below w.heap.size w w19) := ⟨h4_⟩
    clear BK109001
    clear BK109002
    clear HB
    clear h0_ h1_ h2_ h3_ h4_
    have HO109009 := n0_
    have HO109012 := n1_
    have BK109001 := n2_
    have BK109002 := n3_
    have HB := n4_
    clear n0_ n1_ n2_ n3_ n4_
    have hHeld : w19.cell? ⟨gb109001, 0, none⟩ = some (.int .i64 a0_0) ∧ w19.cell? ⟨gb109001, 1, none⟩ = some (.slice A0_1 l0_1.length c0_1) := hS_
    obtain ⟨Ao21, co21, eo21⟩ := Kd.R_slice HO109012.out
    (first | subst eo21 | (injection eo21 with f1_ f2_ f3_; have f4_ := f1_.symm; have f5_ := f3_.symm; clear f1_ f2_ f3_; subst f4_; subst f5_))
    refine norm_ (a' := ?_) ?_ ?_
    rotate_left
    ·simp only [putAll, Act.put, List.setIfInBounds_toArray, List.set_cons_zero, List.set_cons_succ]
     rfl
    refine one_ (i := 8) (N := some 19) #[true, true, true, true, true, true, true, true, true, false, false, false, false] rfl rfl (one_of HT_.out (by kernel_rfl)) (by decide) (fun K hK => ?_)
    refine Kd.R_append_rows_step (Kd.int .i64) (w0 := w) w.heap.size (by rfl) (.tmp 16) (.tmp 18) 22 3 (.int .i64 0) 8 rfl Try.underlying22 info3 rfl (by decide) (by omega) v109008 y109007 y109010 _ _ _ (fun k_ => some k_ ≠ (.slice Ao21 y109010.length co21 : Value).ownBlock) (fun _ => False) rfl rfl ?aO ?aR (fun _ _ h => h) (fun _ h => h.elim) ?aF ?aB ?aS ?aL ?_
    (case aR => repeat (first | exact (Kd.R_reads' HO109012.out).2.2 | (with_reducible refine Kd.C_alloc ?_ _) | (with_reducible refine Kd.C_drewN ?_ _) | (with_reducible refine Kd.C_drew ?_)))
    (case aB => exact (pB2 HB.out GE109001.out GE109002.out))
    (case aF => exact (fun k_ hk => Kd.fresh' (Kd.R_lt (pR HO109012.out)) k_ hk))
    (case aO => exact (pR HO109009.out))
    (case aS => exact (below_size (pB2 HB.out GE109001.out GE109002.out)))
    (case aL => have := LMc6.out; omega)
    intro v109014 w20 ho hb hg hat
    rw [← Ny109013.out] at ho
    have n0_ := aQ (blk_grown (g := gb109001) (o := .cells #[.int .i64 a0_0, .slice A0_1 l0_1.length c0_1] 28 (0, 0)) (pk BK109001.out) hg (Kd.R_ne HO109009.out BK109001.out (by decide)))
    have n1_ := aQ (blk_grown (g := gb109002) (o := .cells #[.int .i64 0, .slice none 0 0] 28 (0, 0)) (pk BK109002.out) hg (Kd.R_ne HO109009.out BK109002.out (by decide)))
    have n2_ := aQ (Kd.R_after (ok := (fun _ => True)) (by (with_reducible repeat (first | apply Kd.R_alloc | apply Kd.R_drewN | apply Kd.R_drew)); exact Kd.R_mono HO109012.out (fun _ hk => ⟨trivial, hk⟩)) hg hat)
    have n3_ := aQ (hb)
    have n4_ := aQ (ho)
    clear BK109001
    clear BK109002
    clear HO109012
    clear HB
    clear HO109009
    have BK109001 := n0_
    have BK109002 := n1_
    have HO109012 := n2_
    have HB := n3_
    have HO109015 := n4_
    clear n0_ n1_ n2_ n3_ n4_
    clear ho hb hg hat
    obtain ⟨Ao22, co22, eo22⟩ := Kd.R_slice HO109015.out
    (first | subst eo22 | (injection eo22 with f1_ f2_ f3_; have f4_ := f1_.symm; have f5_ := f3_.symm; clear f1_ f2_ f3_; subst f4_; subst f5_))
    refine hK.out _ _ ⟨(blk_cell BK109001.out 0).trans rfl, (blk_cell BK109001.out 1).trans rfl⟩ (fun hHeld => ?_)
    clear hK K
    refine norm_ (a' := ?_) ?_ ?_
    rotate_left
    ·show Act.put _ (some 19) _ = _
     simp only [Act.put, List.setIfInBounds_toArray, List.set_cons_zero, List.set_cons_succ, i64_w, i32_w]
     rfl
    refine one_ (i := 9) (N := some 20) #[true, true, true, true, true, true, true, true, true, true, false, false, false] rfl rfl (one_of HT_.out (by kernel_rfl)) (by decide) (fun K hK => ?_)
    refine goes_ Try.func217 (by kernel_rfl) rfl #[.slice Ao22 y109013.length co22] (by rfl) rfl rfl lm ?_
    with_reducible refine (impl_SortSets.calls _ _ y109013 t109016 _ ?side1 ?side2 A7.out).mono ?_
    (case side1 => repeat (first | exact (Kd.R_reads' HO109015.out).2.2 | (with_reducible refine Kd.C_alloc ?_ _) | (with_reducible refine Kd.C_drewN ?_ _) | (with_reducible refine Kd.C_drew ?_)))
    (case side2 => exact (Kd.R_reads' HO109015.out).2.1)
    rintro e w23 ⟨v109017, rfl, ho0, hb⟩
    refine ⟨_, rfl, ?_⟩
    have n0_ := aQ (Kd.R_elder' (pR HO109012.out) (Kd.R_base ho0) hb)
    have n1_ := aQ (Kd.R_elder' (pR HO109015.out) (Kd.R_base ho0) hb)
    have n2_ := aQ (Kd.R_lower (Kd.R_new' (Kd.R_new' ho0 (Kd.R_lt (pR HO109012.out))) (Kd.R_lt (pR HO109015.out))) (below_size (pB2 HB.out GE109001.out GE109002.out)))
    have n3_ := aQ (blk_below (g := gb109001) (o := .cells #[.int .i64 a0_0, .slice A0_1 l0_1.length c0_1] 28 (0, 0)) (pk BK109001.out) hb)
    have n4_ := aQ (blk_below (g := gb109002) (o := .cells #[.int .i64 0, .slice none 0 0] 28 (0, 0)) (pk BK109002.out) hb)
    have n5_ := aQ (below_step (pB2 HB.out GE109001.out GE109002.out) hb)
    clear HO109012
    clear HO109015
    clear BK109001
    clear BK109002
    clear HB
    have HO109012 := n0_
    have HO109015 := n1_
    have HO109018 := n2_
    have BK109001 := n3_
    have BK109002 := n4_
    have HB := n5_
    clear n0_ n1_ n2_ n3_ n4_ n5_
    (try clear hb)
    (try clear hb2)
    (try clear hk)
    (try clear hi)
    (try clear ho0)
    obtain ⟨Ao24, co24, eo24⟩ := Kd.R_slice HO109018.out
    (first | subst eo24 | (injection eo24 with f1_ f2_ f3_; have f4_ := f1_.symm; have f5_ := f3_.symm; clear f1_ f2_ f3_; subst f4_; subst f5_))
    refine hK.out _ _ ⟨(blk_cell BK109001.out 0).trans rfl, (blk_cell BK109001.out 1).trans rfl⟩ (fun hHeld => ?_)
    clear hK K
    refine norm_ (a' := ?_) ?_ ?_
    rotate_left
    ·show Act.put _ (some 20) _ = _
     simp only [Act.put, List.setIfInBounds_toArray, List.set_cons_zero, List.set_cons_succ, i64_w, i32_w]
     rfl
    refine pure_ (i := 10) (N := some 21) (v := ?_) (a' := ?_) #[true, true, true, true, true, true, true, true, true, true, true, false, false] rfl rfl (any_of HT_.out (by kernel_rfl)) (fun _ _ _ h => h) (Or.inl ⟨by rfl, ?_⟩) ?_ ?_
    rotate_left
    ·intro w'
     go_simp
     with_reducible rfl
    rotate_left
    ·simp only [Act.put, List.setIfInBounds_toArray, List.set_cons_zero, List.set_cons_succ, i64_w, i32_w]
     rfl
    refine one_ (i := 11) (N := none) #[true, true, true, true, true, true, true, true, true, true, true, true, false] rfl rfl (one_of HT_.out (by kernel_rfl)) (by decide) (fun K hK => ?_)
    have hs25 : w23.cell? ⟨gb109002, 0, none⟩ = some (.int .i64 0) := (blk_cell BK109002.out 0).trans rfl
    have hfs25 := blk_frozen BK109002.out 0
    have hns25_0 := NB109001_109002.out
    have hms25_0 := NB109002_109001.out
    have hs26 : w23.cell? ⟨gb109002, 1, none⟩ = some (.slice none 0 0) := (blk_cell BK109002.out 1).trans rfl
    have hfs26 := blk_frozen BK109002.out 1
    have hns26_0 := NB109001_109002.out
    have hms26_0 := NB109002_109001.out
    refine skip_ (w1 := ?_) (by rfl) rfl ?_ ?_
    rotate_left
    ·go_simp
     rfl
    refine hK.out _ _ ⟨((cell_far (p := ⟨gb109002, _, none⟩) NB109001_109002.out _).trans (((cell_far (p := ⟨gb109002, _, none⟩) NB109001_109002.out _).trans (hHeld.1)))), ((cell_far (p := ⟨gb109002, _, none⟩) NB109001_109002.out _).trans (((cell_far (p := ⟨gb109002, _, none⟩) NB109001_109002.out _).trans (hHeld.2))))⟩ (fun hHeld => ?_)
    clear hK K
    refine pure_ (i := 12) (N := some 5) (v := ?_) (a' := ?_) #[true, true, true, true, true, true, true, true, true, true, true, true, true] rfl rfl (any_of HT_.out (by kernel_rfl)) (fun _ _ _ h => h) (Or.inl ⟨by rfl, ?_⟩) ?_ ?_
    rotate_left
    ·intro w'
     go_simp
     with_reducible rfl
    rotate_left
    ·simp only [Act.put, List.setIfInBounds_toArray, List.set_cons_zero, List.set_cons_succ, i64_w, i32_w]
     rfl
    refine done_ (done_of HT_.out (by kernel_rfl)) ?_
    try go_wp2
    refine bodyPost_ret (results_ct rfl _ _ gb109002 28 #[.int .i64 a0_0, .slice Ao24 t109016.length co24] (0, 0) _ rfl (by (with_reducible repeat (first | refine blk_drewN ?_ _ | refine blk_drew ?_ | refine blk_alloc ?_ _)); refine blk_put (cs := #[.int .i64 a0_0, .slice none 0 0]) ?_ 1 _ rfl; (with_reducible repeat (first | refine blk_drewN ?_ _ | refine blk_drew ?_ | refine blk_alloc ?_ _)); refine blk_put (cs := #[.int .i64 0, .slice none 0 0]) ?_ 0 _ rfl; (with_reducible repeat (first | refine blk_drewN ?_ _ | refine blk_drew ?_ | refine blk_alloc ?_ _)); exact BK109002.out) Try.underlying28 rfl (by kernel_rfl)) rfl ?_
    exact ⟨_, by first | rfl | (simp [errW_none, errW_some] <;> rfl) | (simp [*, errW_none, errW_some] <;> rfl), by (with_reducible repeat (first | apply Kd.R_alloc | apply Kd.R_drewN | apply Kd.R_drew)); exact Kd.R_mono (Kd.R_far (p := ⟨gb109002, 1, none⟩) (Kd.R_far (p := ⟨gb109002, 0, none⟩) (Kd.R_types HO109018.out BK109002.out (by decide)) (fun _ hk => hk.2) (.int .i64 a0_0)) (fun _ hk => hk.2) (.slice Ao24 t109016.length co24)) (fun _ hk => trivial), pB2 HB.out GE109001.out GE109002.out⟩
   ·rw [if_neg c6] at H
    exact absurd H (by simp)
  ·rw [if_neg c5] at H
   exact absurd H (by simp)
 ·replace c4 := Bool.eq_false_iff.mpr c4
  subst c4
  have H1 : (some (0, ([] : List Int), false)) = some (r1, r2, r3) := by rw [if_neg (show ¬ (false = true) by decide)] at H; exact H
  clear H
  have H := H1
  clear H1
  simp only [Option.some.injEq, Prod.mk.injEq] at H
  obtain ⟨rfl, rfl, rfl⟩ := H
  go_enter Try.func108, Try.ntmps108
  go_wp2_with (first | ((with_reducible refine gate_dst (N := 2) rfl ?_); refine box_event ?hg (N := 2) ?hd (cs := #[.int .i64 a0_0, .slice A0_1 l0_1.length c0_1]) (t := 28) ?hr ?_; (case hd => rfl); (case hg => rfl); (case hr => first | (go_simp; done) | (go_simp; rfl)); intro gb109001 hg w27 hbox hb; have BK109001 := aQ (hbox); have GW109001 := aQ ((by rw [hg]; exact (below_size (pB HB.out)) : w.heap.size ≤ gb109001)); have GE109001 := aQ ((by rw [hg]; exact (below_size (pB HB.out)) : w.heap.size ≤ gb109001)); replace HB := aQ (below_step (pB HB.out) hb); clear hb hbox hg) | ((with_reducible refine gate_dst (N := 4) rfl ?_); refine box_event ?hg (N := 4) ?hd (cs := #[.int .i64 0, .slice none 0 0]) (t := 28) ?hr ?_; (case hd => rfl); (case hg => rfl); (case hr => first | (go_simp; done) | (go_simp; rfl)); intro gb109002 hg w28 hbox hb; have BK109002 := aQ (hbox); have GW109002 := aQ ((by rw [hg]; exact (below_size (pB1 HB.out GE109001.out)) : w.heap.size ≤ gb109002)); have GE109002 := aQ ((by rw [hg]; exact (below_size (pB1 HB.out GE109001.out)) : w.heap.size ≤ gb109002)); replace HB := aQ (below_step (pB1 HB.out GE109001.out) hb); have NB109001_109002 := aQ ((by rw [hg]; exact Nat.ne_of_lt (blk_lt (g := gb109001) (o := .cells #[.int .i64 a0_0, .slice A0_1 l0_1.length c0_1] 28 (0, 0)) (pk BK109001.out)) : gb109001 ≠ gb109002)); have NB109002_109001 := aQ ((by rw [hg]; exact Nat.ne_of_gt (blk_lt (g := gb109001) (o := .cells #[.int .i64 a0_0, .slice A0_1 l0_1.length c0_1] 28 (0, 0)) (pk BK109001.out)) : gb109002 ≠ gb109001)); replace BK109001 := aQ (blk_below (g := gb109001) (o := .cells #[.int .i64 a0_0, .slice A0_1 l0_1.length c0_1] 28 (0, 0)) (pk BK109001.out) hb); clear hb hbox hg; have hnb29 := NB109001_109002.out; have hnc29 := NB109002_109001.out; have hcz30_0 := bc (v := (.int .i64 a0_0)) BK109001.out 0; have hcz30_1 := bc (v := (.slice A0_1 l0_1.length c0_1)) BK109001.out 1; have hfz30_0 := blk_frozen BK109001.out 0; have hfz30_1 := blk_frozen BK109001.out 1) | ((with_reducible refine gate_callee (f := 101) rfl ?_); refine goesL_ (some 8) rfl rfl Try.func101 (by kernel_rfl) rfl #[.agg #[.int .i64 a0_0, .slice A0_1 l0_1.length c0_1], .int .i64 a1] rfl lm ?_; (with_reducible refine (impl_IsRelaxable.calls k a0_0 _ _ l0_1 a1 false _ ?side1 ?side2 A3.out).mono ?_); (case side1 => exact pC (Kd.C_below HR0_1.out HB.out)); (case side2 => exact HC0_1.out); rintro e w31 ⟨rfl, hb⟩; refine ⟨_, rfl, ?_⟩; replace BK109001 := aQ (blk_below (g := gb109001) (o := .cells #[.int .i64 a0_0, .slice A0_1 l0_1.length c0_1] 28 (0, 0)) (pk BK109001.out) hb); replace BK109002 := aQ (blk_below (g := gb109002) (o := .cells #[.int .i64 0, .slice none 0 0] 28 (0, 0)) (pk BK109002.out) hb); replace HB := aQ (below_step (pB2 HB.out GE109001.out GE109002.out) hb); (try clear hb); have hcz32_0 := bc (v := (.int .i64 0)) BK109002.out 0; have hcz32_1 := bc (v := (.slice none 0 0)) BK109002.out 1; have hfz32_0 := blk_frozen BK109002.out 0; have hfz32_1 := blk_frozen BK109002.out 1))
  refine bodyPost_ret (results_ct rfl _ _ gb109002 28 #[.int .i64 0, .slice none 0 0] (0, 0) _ rfl (by (with_reducible repeat (first | refine blk_drewN ?_ _ | refine blk_drew ?_ | refine blk_alloc ?_ _)); refine blk_put (cs := #[.int .i64 0, .slice none 0 0]) ?_ 1 _ rfl; (with_reducible repeat (first | refine blk_drewN ?_ _ | refine blk_drew ?_ | refine blk_alloc ?_ _)); refine blk_put (cs := #[.int .i64 0, .slice none 0 0]) ?_ 0 _ rfl; (with_reducible repeat (first | refine blk_drewN ?_ _ | refine blk_drew ?_ | refine blk_alloc ?_ _)); exact BK109002.out) Try.underlying28 rfl (by kernel_rfl)) rfl ?_
  exact ⟨_, by first | rfl | (simp [errW_none, errW_some] <;> rfl) | (simp [*, errW_none, errW_some] <;> rfl), by first | exact Kd.R_nil _ _ _ _ _ | exact Kd.N_nil _ _ _ _ _ | exact Kd.V_nil _ _ _ _ _ | exact Kd.Q_nil _ _ _ _ _ | exact Kd.S_nil _ _ _ _ _, pB2 HB.out GE109001.out GE109002.out⟩
end Go.Proofs.Ytinoamehdhgpgaa.A
