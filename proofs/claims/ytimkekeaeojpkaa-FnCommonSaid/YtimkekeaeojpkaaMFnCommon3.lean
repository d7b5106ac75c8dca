/- Machine side of the law FnCommon: Go functions as Lean functions, and proofs that calls come to what these tell. Conditions: those in each theorem. -/
import Derived.Test.YtimkekeaeojpkaaMFnCommonwRepsOne
import Derived.Test.YtimkekeaeojpkaaMFnCommon0
import Derived.Test.YtimkekeaeojpkaaMFnCommon1
import Derived.Test.YtimkekeaeojpkaaMFnCommon2
set_option maxHeartbeats 8000000
set_option maxRecDepth 100000
namespace Go.Proofs.Ytimkekeaeojpkaa.A
open Go.RowKit Go.Proofs.YtimkekeaeojpkaaW.PrintWords Go.Proofs.YtimkekeaeojpkaaW.PrintLast Go.Proofs.YtimkekeaeojpkaaW.PrintMore
attribute [local go_sem] ya8 yba ybm ybn yaY yaX ya6 ya9
set_option linter.unusedVariables false
set_option linter.unusedSimpArgs false
def yap.l0 : Nat → Int → Int → Int → List Int → Int → Int → Int → List Int → Option (Int × List Int)
 | 0, _, _, _, _, _, _, _, _ => none
 | k + 1, x0, x1, x2, x3, x10, x11, x171003000, x171003001 => (yT.f x2).bind fun tq0 => (if x11 ≤ tq0 then ((yD.f k x11).bind fun tq1 => (if tq1 = x10 then ((yg.f k x0 x1 x2 x3 x11).bind fun tq2 => (if tq2 = x10 then (if x171003001.length < 17592186044416 then (yap.l0 k x0 x1 x2 x3 x10 (wrap64 (x11 + 1)) x171003000 (x171003001 ++ [x11])) else (none)) else (yap.l0 k x0 x1 x2 x3 x10 (wrap64 (x11 + 1)) x171003000 x171003001))) else (yap.l0 k x0 x1 x2 x3 x10 (wrap64 (x11 + 1)) x171003000 x171003001))) else (some (x171003000, x171003001)))
def yap.f (k : Nat) (a0 : Int) (a1 : Int) (a2 : Int) (l3 : List Int) : Option (Int × List Int) := (yT.f a2).bind fun tq3 => ((yg.f k a0 a1 a2 l3 tq3).bind fun tq4 => (yap.l0 k a0 a1 a2 l3 tq4 0 a2 ([] : List Int)))
theorem yap.calls (k : Nat) (a0 : Int) (a1 : Int) (a2 : Int) (A3 : Option Addr) (c3 : Nat) (l3 : List Int) (r1 : Int) (r2 : List Int) (w : World) (hr3 : Kd.C (Kd.int .i64) w A3 l3.length l3) (hc3 : l3.length ≤ c3) (h : yap.f k a0 a1 a2 l3 = some (r1, r2)) :
  Calls Try.prog 170 #[.int .i64 a0, .int .i64 a1, .int .i64 a2, .slice A3 l3.length c3] w fun e w' => ∃ v1_ : Value, e = .returned (.agg #[.int .i64 r1, v1_]) ∧ Kd.R (Kd.int .i64) 3 w' w.heap.size (fun _ => True) v1_ r2 ∧ Below w.heap.size w w' := by
 have hu28 := Try.underlying28
 have HR3 := aQ hr3
 have HC3 := aQ hc3
 clear hr3 hc3
 have HB := aQ (Below.refl w.heap.size w)
 have H := h
 clear h
 unfold yap.f at H
 (try dsimp only at H)
 replace H := bo H; obtain ⟨tq3, A5, H⟩ := H
 (try dsimp only at H)
 replace H := bo H; obtain ⟨tq4, A6, H⟩ := H
 (try dsimp only at H)
 have H' := aQ H
 clear H
 go_enter Try.func170, Try.ntmps170
 go_wp2_with (first | ((with_reducible refine yb (N := 8) rfl ?_); refine bx 8 #[.int .i64 0, .slice none 0 0] 28 ?_; intro gbq5 hg w7 hbox hb; have BKq5 := aQ (hbox); have GWq5 := gB HB hg; have GEq5 := gB HB hg; replace HB := bs HB hb; clear hb hbox hg) | ((with_reducible refine yb (N := 9) rfl ?_); refine bx 9 #[.int .i64 0, .slice none 0 0] 28 ?_; intro gbq6 hg w8 hbox hb; have BKq6 := aQ (hbox); have GWq6 := gB HB hg; have GEq6 := gB HB hg; replace HB := bs HB hb; have NBq5_q6 := nl BKq5 hg; have NBq6_q5 := ng BKq5 hg; replace BKq5 := bb BKq5 hb; clear hb hbox hg; have hnb9 := NBq6_q5.out; have hnc9 := NBq5_q6.out; obtain ⟨hcz10_0, hcz10_1, hfz10_0, hfz10_1⟩ := c2 BKq6) | (refine gq 81 (some 19) Try.func81 #[.int .i64 a2] ?_; (with_reducible refine (yT.calls a2 tq3 _ A5.out).mono ?_); rintro e w' ⟨rfl, ⟨nd, rfl⟩⟩; refine ⟨_, rfl, ?_⟩) | (refine gq 185 (some 20) Try.func185 #[.int .i64 a0, .int .i64 a1, .int .i64 a2, .slice A3 l3.length c3, .int .i64 tq3] ?_; (with_reducible refine (yg.calls k a0 a1 a2 _ _ l3 tq3 tq4 _ ?side1 ?side2 A6.out).mono ?_); (case side1 => exact Kd.C_below HR3.out (pB2 HB.out GEq5.out GEq6.out)); (case side2 => exact HC3.out); rintro e w11 ⟨rfl, hb⟩; refine ⟨_, rfl, ?_⟩; replace BKq5 := aQ (yab (g := gbq5) (o := .cells #[.int .i64 0, .slice none 0 0] 28 (0, 0)) (by refine pkx ?_; refine yj ?_ NBq5_q6.out _; refine pkx ?_; refine yj ?_ NBq5_q6.out _; refine pkx ?_; exact BKq5.out) hb); replace BKq6 := aQ (yab (g := gbq6) (o := .cells #[.int .i64 a2, .slice none 0 0] 28 (0, 0)) (by refine pkx ?_; refine yh (cs := #[.int .i64 a2, .slice none 0 0]) ?_ 1 _ rfl; refine pkx ?_; refine yh (cs := #[.int .i64 0, .slice none 0 0]) ?_ 0 _ rfl; refine pkx ?_; exact BKq6.out) hb); replace HB := bs HB hb; (try clear hb)))
 go_loopg [11] k (fun kq v11 w' => ∃ (x11_1 : Int) (x171003001_1 : List Int) (u171003001 : Value), v11 = .int .i64 x11_1 ∧ Aside0 (yap.l0 kq a0 a1 a2 l3 tq4 x11_1 a2 x171003001_1 = some (r1, r2)) ∧ Aside0 (kq ≤ k) ∧ Aside0 (Kd.R (Kd.int .i64) 3 w' w.heap.size (fun _ => True) u171003001 x171003001_1) ∧ Aside0 (w'.heap[gbq5]? = some (.cells #[.int .i64 0, (.slice none 0 0)] 28 (0, 0))) ∧ Aside0 (w'.heap[gbq6]? = some (.cells #[.int .i64 a2, u171003001] 28 (0, 0))) ∧ Aside0 (Below w.heap.size w w'))
 case atStart => exact ⟨(0), (([] : List Int)), (.slice none 0 0), rs_, H', ⟨Nat.le_refl _⟩, ⟨by first | exact Kd.R_nil _ _ _ _ _ | exact Kd.N_nil _ _ _ _ _ | exact Kd.V_nil _ _ _ _ _ | exact Kd.Q_nil _ _ _ _ _ | exact Kd.S_nil _ _ _ _ _⟩, ⟨pk BKq5.out⟩, ⟨pk BKq6.out⟩, ⟨pB2 HB.out GEq5.out GEq6.out⟩⟩
 clear H'
 try clear c1
 try clear p2
 try clear c3
 try clear c8
 try clear c9
 try clear hcz10_0
 try clear hcz10_1
 try clear hfz10_0
 try clear hfz10_1
 obtain ⟨x11_1, x171003001_1, u171003001, rfl, HA, HK1, HO_171003001, BKq5, BKq6, HB⟩ := hrel
 rcases gk with _ | k1
 ·exact absurd HA.out (by simp [yap.l0])
 have H := HA.out
 clear HA
 simp only [yap.l0] at H
 replace H := bo H; obtain ⟨tq0, A12, H⟩ := H
 (try dsimp only at H)
 by_cases c13 : x11_1 ≤ tq0
 ·rw [if_pos c13] at H
  have c13b0 := decide_eq_true c13
  clear c13
  replace H := bo H; obtain ⟨tq1, A14, H⟩ := H
  (try dsimp only at H)
  by_cases c15 : tq1 = tq4
  ·rw [if_pos c15] at H
   have c15b0 : (tq1 == tq4) = true := beq_iff_eq.mpr c15
   have c15b1 : (tq1 != tq4) = false := bne_eq_false_iff_eq.mpr c15
   clear c15
   replace H := bo H; obtain ⟨tq2, A16, H⟩ := H
   (try dsimp only at H)
   by_cases c17 : tq2 = tq4
   ·rw [if_pos c17] at H
    have c17b0 : (tq2 == tq4) = true := beq_iff_eq.mpr c17
    have c17b1 : (tq2 != tq4) = false := bne_eq_false_iff_eq.mpr c17
    clear c17
    replace H := gd H; obtain ⟨c18, H⟩ := H
    have LMc18 := aQ c18
    clear c18
    obtain ⟨yq7, hyq7⟩ : ∃ y_ : List Int, y_ = (x171003001_1 ++ [x11_1]) := ⟨_, rfl⟩
    replace H : (yap.l0 k1 a0 a1 a2 l3 tq4 (wrap64 (x11_1 + 1)) a2 yq7) = some (r1, r2) := by first | (rw [hyq7]; with_reducible exact H) | (rw [hyq7]; exact H)
    have Nyq7 := aQ hyq7
    clear hyq7
    have H' := aQ H
    clear H
    go_wp2_with (first | (refine gq 81 (some 23) Try.func81 #[.int .i64 a2] ?_; (with_reducible refine (yT.calls a2 tq0 _ A12.out).mono ?_); rintro e w' ⟨rfl, ⟨nd, rfl⟩⟩; refine ⟨_, rfl, ?_⟩; (try (rw [ya1 wr]; generalize hq_ : World.drewN wr _ = wr; have n0_ : Aside0 (Kd.R (Kd.int .i64) 3 wr w.heap.size (fun _ => True) u171003001 x171003001_1) := ⟨by rw [← hq_]; exact (pR HO_171003001.out)⟩; have n1_ : Aside0 (wr.heap[gbq5]? = some (.cells #[.int .i64 0, .slice none 0 0] 28 (0, 0))) := ⟨by rw [← hq_]; exact (pk BKq5.out)⟩; have n2_ : Aside0 (wr.heap[gbq6]? = some (.cells #[.int .i64 a2, u171003001] 28 (0, 0))) := ⟨by rw [← hq_]; exact (pk BKq6.out)⟩; have n3_ : Aside0 (Below w.heap.size w wr) := ⟨by rw [← hq_]; exact (pB2 HB.out GEq5.out GEq6.out)⟩; clear HO_171003001 BKq5 BKq6 HB hq_; have HO_171003001 := n0_; have BKq5 := n1_; have BKq6 := n2_; have HB := n3_; clear n0_ n1_ n2_ n3_))) | (refine gq 33 (some 28) Try.func33 #[.int .i64 x11_1] ?_; (with_reducible refine (yD.calls k1 x11_1 tq1 _ A14.out).mono ?_); rintro e w' ⟨rfl, ⟨nd, rfl⟩⟩; refine ⟨_, rfl, ?_⟩; (try (rw [ya1 wr]; generalize hq_ : World.drewN wr _ = wr; have n0_ : Aside0 (Kd.R (Kd.int .i64) 3 wr w.heap.size (fun _ => True) u171003001 x171003001_1) := ⟨by rw [← hq_]; exact (pR HO_171003001.out)⟩; have n1_ : Aside0 (wr.heap[gbq5]? = some (.cells #[.int .i64 0, .slice none 0 0] 28 (0, 0))) := ⟨by rw [← hq_]; exact (pk BKq5.out)⟩; have n2_ : Aside0 (wr.heap[gbq6]? = some (.cells #[.int .i64 a2, u171003001] 28 (0, 0))) := ⟨by rw [← hq_]; exact (pk BKq6.out)⟩; have n3_ : Aside0 (Below w.heap.size w wr) := ⟨by rw [← hq_]; exact (pB2 HB.out GEq5.out GEq6.out)⟩; clear HO_171003001 BKq5 BKq6 HB hq_; have HO_171003001 := n0_; have BKq5 := n1_; have BKq6 := n2_; have HB := n3_; clear n0_ n1_ n2_ n3_))) | (go_at_call 185; (with_reducible refine (yg.calls k1 a0 a1 a2 _ _ l3 x11_1 tq2 _ ?side1 ?side2 A16.out).mono ?_); (case side1 => exact pC (Kd.C_below HR3.out HB.out)); (case side2 => exact HC3.out); rintro e w19 ⟨rfl, hb⟩; replace HO_171003001 := aQ (Kd.R_below (pR HO_171003001.out) hb); replace BKq5 := bb BKq5 hb; replace BKq6 := bb BKq6 hb; replace HB := bs HB hb; (try clear hb); have hnb20 := NBq6_q5.out; have hnc20 := NBq5_q6.out; obtain ⟨hcz21_0, hcz21_1, hfz21_0, hfz21_1⟩ := c2 BKq6) | ((with_reducible refine yO (b := .append) (xs := #[.tmp 42, .tmp 44]) rfl ?_); at_builtin; refine Kd.R_append (Kd.int .i64) (w0 := w) w.heap.size rfl (.tmp 42) (.tmp 44) 22 3 (.int .i64 0) 8 rfl Try.underlying22 yaU rfl (by decide) (by omega) u171003001 x171003001_1 x11_1 [.int .i64 x11_1] (fun _ => True) (fun _ => False) rfl rfl ?aP (fun _ hk => hk.elim) ?aF ?aO ?aB ?aS ?aL ?_; (case aP => exact rfl); (case aB => exact (pB2 HB.out GEq5.out GEq6.out)); (case aF => exact (fun _ _ => trivial)); (case aO => exact (pR HO_171003001.out)); (case aS => exact (yc (pB2 HB.out GEq5.out GEq6.out))); (case aL => have := LMc18.out; omega); intro vq8 w22 ho hb hg hat; rw [← Nyq7.out] at ho; replace BKq5 := aQ (ybu (g := gbq5) (o := .cells #[.int .i64 0, .slice none 0 0] 28 (0, 0)) (pk BKq5.out) hg (Kd.R_ne HO_171003001.out BKq5.out (by decide))); replace BKq6 := aQ (ybu (g := gbq6) (o := .cells #[.int .i64 a2, u171003001] 28 (0, 0)) (pk BKq6.out) hg (Kd.R_ne HO_171003001.out BKq6.out (by decide))); replace HB := aQ (hb); have HOq9 := aQ (ho); clear HO_171003001; clear ho hb hg hat; obtain ⟨Ao23, co23, eo23⟩ := Kd.R_slice HOq9.out; subst eo23; obtain ⟨hcz24_0, hcz24_1, hfz24_0, hfz24_1⟩ := c2 BKq6))
    go_roundg k1
    case measure => have := HK1.out; omega
    case rel => exact ⟨(wrap64 (x11_1 + 1)), (yq7), (.slice Ao23 yq7.length co23), rs_, H', ⟨by have := HK1.out; omega⟩, ⟨by refine pRx ?_; exact rf1 HOq9 BKq6⟩, ⟨by refine pkx ?_; refine yj ?_ NBq5_q6.out _; refine pkx ?_; exact BKq5.out⟩, ⟨by refine pkx ?_; refine yh (cs := #[.int .i64 a2, u171003001]) ?_ 1 _ rfl; refine pkx ?_; exact BKq6.out⟩, ⟨pB2 HB.out GEq5.out GEq6.out⟩⟩
   ·rw [if_neg c17] at H
    have c17b0 : (tq2 == tq4) = false := beq_eq_false_iff_ne.mpr c17
    have c17b1 : (tq2 != tq4) = true := bne_iff_ne.mpr c17
    have H' := aQ H
    clear H
    go_wp2_with (first | (refine gq 81 (some 23) Try.func81 #[.int .i64 a2] ?_; (with_reducible refine (yT.calls a2 tq0 _ A12.out).mono ?_); rintro e w' ⟨rfl, ⟨nd, rfl⟩⟩; refine ⟨_, rfl, ?_⟩) | (refine gq 33 (some 28) Try.func33 #[.int .i64 x11_1] ?_; (with_reducible refine (yD.calls k1 x11_1 tq1 _ A14.out).mono ?_); rintro e w' ⟨rfl, ⟨nd, rfl⟩⟩; refine ⟨_, rfl, ?_⟩) | (go_at_call 185; (with_reducible refine (yg.calls k1 a0 a1 a2 _ _ l3 x11_1 tq2 _ ?side1 ?side2 A16.out).mono ?_); (case side1 => exact pC ((Kd.C_below HR3.out (pB2 HB.out GEq5.out GEq6.out)))); (case side2 => exact HC3.out); rintro e w25 ⟨rfl, hb⟩; replace HO_171003001 := aQ (Kd.R_below (pR HO_171003001.out) hb); replace BKq5 := bb BKq5 hb; replace BKq6 := bb BKq6 hb; replace HB := bs HB hb; (try clear hb)))
    go_roundg k1
    case measure => have := HK1.out; omega
    case rel => exact ⟨(wrap64 (x11_1 + 1)), (x171003001_1), (u171003001), rs_, H', ⟨by have := HK1.out; omega⟩, ⟨pR HO_171003001.out⟩, ⟨pk BKq5.out⟩, ⟨pk BKq6.out⟩, ⟨pB2 HB.out GEq5.out GEq6.out⟩⟩
  ·rw [if_neg c15] at H
   have c15b0 : (tq1 == tq4) = false := beq_eq_false_iff_ne.mpr c15
   have c15b1 : (tq1 != tq4) = true := bne_iff_ne.mpr c15
   have H' := aQ H
   clear H
   go_wp2_with (first | (refine gq 81 (some 23) Try.func81 #[.int .i64 a2] ?_; (with_reducible refine (yT.calls a2 tq0 _ A12.out).mono ?_); rintro e w' ⟨rfl, ⟨nd, rfl⟩⟩; refine ⟨_, rfl, ?_⟩) | (refine gq 33 (some 28) Try.func33 #[.int .i64 x11_1] ?_; (with_reducible refine (yD.calls k1 x11_1 tq1 _ A14.out).mono ?_); rintro e w' ⟨rfl, ⟨nd, rfl⟩⟩; refine ⟨_, rfl, ?_⟩))
   go_roundg k1
   case measure => have := HK1.out; omega
   case rel => exact ⟨(wrap64 (x11_1 + 1)), (x171003001_1), (u171003001), rs_, H', ⟨by have := HK1.out; omega⟩, ⟨pR HO_171003001.out⟩, ⟨pk BKq5.out⟩, ⟨pk BKq6.out⟩, ⟨pB2 HB.out GEq5.out GEq6.out⟩⟩
 ·rw [if_neg c13] at H
  have c13b0 := decide_eq_false c13
  clear c13
  simp only [Option.some.injEq, Prod.mk.injEq] at H
  obtain ⟨rfl, rfl⟩ := H
  go_wp2_with (first | (refine gq 81 (some 23) Try.func81 #[.int .i64 a2] ?_; (with_reducible refine (yT.calls a2 tq0 _ A12.out).mono ?_); rintro e w' ⟨rfl, ⟨nd, rfl⟩⟩; refine ⟨_, rfl, ?_⟩; (try (rw [ya1 wr]; generalize hq_ : World.drewN wr _ = wr; have n0_ : Aside0 (Kd.R (Kd.int .i64) 3 wr w.heap.size (fun _ => True) u171003001 x171003001_1) := ⟨by rw [← hq_]; exact (pR HO_171003001.out)⟩; have n1_ : Aside0 (wr.heap[gbq5]? = some (.cells #[.int .i64 0, .slice none 0 0] 28 (0, 0))) := ⟨by rw [← hq_]; exact (pk BKq5.out)⟩; have n2_ : Aside0 (wr.heap[gbq6]? = some (.cells #[.int .i64 a2, u171003001] 28 (0, 0))) := ⟨by rw [← hq_]; exact (pk BKq6.out)⟩; have n3_ : Aside0 (Below w.heap.size w wr) := ⟨by rw [← hq_]; exact (pB2 HB.out GEq5.out GEq6.out)⟩; clear HO_171003001 BKq5 BKq6 HB hq_; have HO_171003001 := n0_; have BKq5 := n1_; have BKq6 := n2_; have HB := n3_; clear n0_ n1_ n2_ n3_)); have hnb26 := NBq6_q5.out; have hnc26 := NBq5_q6.out; obtain ⟨hcz27_0, hcz27_1, hfz27_0, hfz27_1⟩ := c2 BKq6; obtain ⟨hcz28_0, hcz28_1, hfz28_0, hfz28_1⟩ := c2 BKq5; obtain ⟨Ao29, co29, eo29⟩ := Kd.R_slice HO_171003001.out; subst eo29))
  refine bodyPost_ret (results_cell_row rfl _ _ gbq5 28 #[.int .i64 a2, .slice Ao29 x171003001_1.length co29] (0, 0) _ rfl (by refine pkx ?_; refine yh (cs := #[.int .i64 a2, .slice none 0 0]) ?_ 1 _ rfl; refine pkx ?_; refine yh (cs := #[.int .i64 0, .slice none 0 0]) ?_ 0 _ rfl; refine pkx ?_; exact BKq5.out) Try.underlying28 rfl (by kernel_rfl)) rfl ?_
  exact ⟨_, by first | rfl | (simp [errW_none, yi] <;> rfl) | (simp [*, errW_none, yi] <;> rfl), by refine pRx ?_; exact rf HO_171003001 BKq5, pB2 HB.out GEq5.out GEq6.out⟩
def yX.l0 : Nat → Int → Int → Int → List Int → Int → List Int → Int → Int → Option (Int × List Int × Int × Int)
 | 0, _, _, _, _, _, _, _, _ => none
 | k + 1, x1, x5, x6, x7, x8, xq0, xq1, xq2 => if x8 < (wrap64 (x6 * x1)) then ((yk.f xq0 xq1 xq2 x5).bind fun btq3 => (if x7.length < 17592186044416 then (yX.l0 k x1 x5 x6 (x7 ++ [btq3.1]) (wrap64 (x8 + 1)) xq0 btq3.2.1 btq3.2.2) else (none))) else ((yap.f k x5 x6 x1 x7).bind fun btq4 => (some (btq4.1, btq4.2, xq1, xq2)))
def yX.f (k : Nat) (s0_0 : List Int) (s0_1 : Int) (s0_2 : Int) (a1 : Int) : Option (Int × List Int × Int × Int) := (yaB.f s0_0 s0_1 s0_2 (([2, 3, 5, 2] : List Int))).bind fun btq5 => ((yk.f s0_0 btq5.2.1 btq5.2.2 3).bind fun btq6 => (yX.l0 k a1 btq5.1 (wrap64 (1 + btq6.1)) (([] : List Int)) 0 s0_0 btq6.2.1 btq6.2.2))
theorem yX.calls (k : Nat) (g : Nat) (s0_0 : List Int) (s0_1 : Int) (s0_2 : Int) (a1 : Int) (r1 : Int) (r2 : List Int) (r3 : Int) (r4 : Int) (w0 w : World) (hI : IsS106 w0 w g s0_0 s0_1 s0_2) (hB : Below w0.heap.size w0 w) (h : yX.f k s0_0 s0_1 s0_2 a1 = some (r1, r2, r3, r4)) :
  Calls Try.prog 134 #[.pointer (some ⟨g, 0, none⟩), .int .i64 a1] w fun e w' => ∃ v1_ : Value, e = .returned (.agg #[.int .i64 r1, v1_]) ∧ Kd.R (Kd.int .i64) 3 w' w.heap.size (fun _ => True) v1_ r2 ∧ IsS106 w0 w' g s0_0 r3 r4 ∧ Below w0.heap.size w0 w' ∧ KeepBut w w' g none := by
 have hu28 := Try.underlying28
 have HI0 := aQ hI
 have HK := aQ (KeepBut.refl w g none)
 have HL := aQ hB.size
 clear hI
 have HW0 := aQ hB.size
 have HB := aQ hB
 clear hB
 have H := h
 clear h
 unfold yX.f at H
 (try dsimp only at H)
 obtain ⟨yq7, hyq7⟩ : ∃ y_ : List Int, y_ = (([2, 3, 5, 2] : List Int)) := ⟨_, rfl⟩
 replace H : ((yaB.f s0_0 s0_1 s0_2 yq7).bind fun btq5 => ((yk.f s0_0 btq5.2.1 btq5.2.2 3).bind fun btq6 => (yX.l0 k a1 btq5.1 (wrap64 (1 + btq6.1)) (([] : List Int)) 0 s0_0 btq6.2.1 btq6.2.2))) = some (r1, r2, r3, r4) := by first | (rw [hyq7]; with_reducible exact H) | (rw [hyq7]; exact H)
 have Nyq7 := aQ hyq7
 clear hyq7
 replace H := bo H; obtain ⟨⟨tq5, tq8, tq9⟩, A3, H⟩ := H
 (try dsimp only at H)
 replace H := bo H; obtain ⟨⟨tq6, tqa, tqb⟩, A4, H⟩ := H
 (try dsimp only at H)
 obtain ⟨yqc, hyqc⟩ : ∃ y_ : List Int, y_ = (([] : List Int)) := ⟨_, rfl⟩
 replace H : (yX.l0 k a1 tq5 (wrap64 (1 + tq6)) yqc 0 s0_0 tqa tqb) = some (r1, r2, r3, r4) := by first | (rw [hyqc]; with_reducible exact H) | (rw [hyqc]; exact H)
 have Nyqc := aQ hyqc
 clear hyqc
 have H' := aQ H
 clear H
 go_enter Try.func134, Try.ntmps134
 go_wp2_with (first | ((with_reducible refine yb (N := 4) rfl ?_); refine bx 4 #[.int .i64 0, .slice none 0 0] 28 ?_; intro gbqd hg w5 hbox hb; replace HB := bsI HB hb; have BKqd := aQ (hbox); have GWqd := gw HK hg; have GEqd := ge HK HW0 hg; replace HK := kt HK hb; have NB0_qd := nI HI0 hg; have NBqd_0 := mI HI0 hg; replace HI0 := bI HI0 hb; clear hb hbox hg) | ((with_reducible refine yb (N := 10) rfl ?_); refine Kd.R_lit (Kd.int .i64) _ 3 ?hg (N := 10) ?hd (xs := ([2, 3, 5, 2] : List Int)) (inner := [.int .i64 2, .int .i64 3, .int .i64 5, .int .i64 2]) (ok := fun _ => True) (okp := fun _ => True) ?hr ?hp (fun _ hk => hk) trivial (Below.refl _ _) (Nat.le_refl _) (by simp) ?_; (case hd => rfl); (case hg => rfl); (case hr => first | (go_simp; done) | (go_simp; rfl)); (case hp => exact (Reps.one (show Kd.M (Kd.int .i64) _ _ _ 2 [.int .i64 2] from rfl) (Reps.one (show Kd.M (Kd.int .i64) _ _ _ 3 [.int .i64 3] from rfl) (Reps.one (show Kd.M (Kd.int .i64) _ _ _ 5 [.int .i64 5] from rfl) (Reps.one (show Kd.M (Kd.int .i64) _ _ _ 2 [.int .i64 2] from rfl) (Reps.none _ _)))))); intro vqe w6 ho7 hb hg_ hnew_; clear hg_ hnew_; (first | rw [← Nyq7.out] at ho7 | (simp only [Int.reduceToNat] at ho7; rw [← Nyq7.out] at ho7)); have HOqf := aQ (Kd.R_lower ho7 (yR (w := w) (g := g) (row := none) (pq HK))); replace BKqd := bb BKqd hb; replace HK := kt HK hb; replace HB := bsI HB hb; replace HI0 := bI HI0 hb; clear hb ho7; obtain ⟨Ao8, co8, eo8⟩ := Kd.R_slice HOqf.out; subst eo8) | (refine gq 140 (some 11) Try.func140 #[.pointer (some ⟨g, 0, none⟩), .slice Ao8 yq7.length co8] ?_; (with_reducible refine (yaB.calls g s0_0 s0_1 s0_2 _ _ yq7 tq5 tq8 tq9 w0 _ ?side1 ?side2 ?side3 ?side4 ?side5 A3.out).mono ?_); (case side1 => exact pi_ HI0); (case side2 => exact pbI HB); (case side3 => exact pC ((Kd.R_reads' HOqf.out).2.2)); (case side4 => exact (Kd.R_reads' HOqf.out).2.1); (case side5 => exact ycT (IsS106.own_ne HI0.out HOqf.out (by decide))); rintro e w9 ⟨rfl, hi, hb, hk⟩; refine ⟨_, rfl, ?_⟩; replace BKqd := kk BKqd hk NBqd_0.out; replace HOqf := aQ (Kd.R_mono (Kd.R_keep (IsS106.apart (show IsS106 w0 _ g s0_0 s0_1 s0_2 from pi_ HI0) (pR HOqf.out) (by decide)) hk (fun _ h => h.2)) (fun _ h => h.1)); replace HK := kh HK hk; replace HB := aQ (hb); replace HI0 := aQ (hi); (try clear hb); (try clear hk); (try clear hi)) | (refine gq 91 (some 13) Try.func91 #[.pointer (some ⟨g, 0, none⟩), .int .i64 3] ?_; (with_reducible refine (yk.calls g s0_0 tq8 tq9 3 tq6 tqa tqb w0 _ ?side1 ?side2 A4.out).mono ?_); (case side1 => exact pi_ HI0); (case side2 => exact pbI HB); rintro e w10 ⟨rfl, hi, hb, hk⟩; refine ⟨_, rfl, ?_⟩; replace BKqd := kk BKqd hk NBqd_0.out; replace HOqf := aQ (Kd.R_mono (Kd.R_keep (IsS106.apart (show IsS106 w0 _ g s0_0 tq8 tq9 from pi_ HI0) (pR HOqf.out) (by decide)) hk (fun _ h => h.2)) (fun _ h => h.1)); replace HK := kh HK hk; replace HB := aQ (hb); replace HI0 := aQ (hi); (try clear hb); (try clear hk); (try clear hi)) | ((with_reducible refine yb (N := 15) rfl ?_); refine Kd.R_lit (Kd.int .i64) _ 3 ?hg (N := 15) ?hd (xs := ([] : List Int)) (inner := []) (ok := fun _ => True) (okp := fun _ => True) ?hr ?hp (fun _ hk => hk) trivial (Below.refl _ _) (Nat.le_refl _) (by simp) ?_; (case hd => rfl); (case hg => rfl); (case hr => first | (go_simp; done) | (go_simp; rfl)); (case hp => exact (Reps.none _ _)); intro vqg w11 ho12 hb hg_ hnew_; clear hg_ hnew_; (first | rw [← Nyqc.out] at ho12 | (simp only [Int.reduceToNat] at ho12; rw [← Nyqc.out] at ho12)); have HOqh := aQ (Kd.R_lower (Kd.R_new' ho12 (Kd.R_lt (pR HOqf.out))) (yR (w := w) (g := g) (row := none) (pq HK))); replace HOqf := aQ (Kd.R_elder' (pR HOqf.out) (Kd.R_base ho12) hb); replace BKqd := bb BKqd hb; replace HK := kt HK hb; replace HB := bsI HB hb; replace HI0 := bI HI0 hb; clear hb ho12))
 go_loopg [7, 8] k (fun kq v7 v8 w' => ∃ (x7_1 : List Int) (x8_1 : Int) (xq1_1 : Int) (xq2_1 : Int), v8 = .int .i64 x8_1 ∧ Aside0 (yX.l0 kq a1 tq5 (wrap64 (1 + tq6)) x7_1 x8_1 s0_0 xq1_1 xq2_1 = some (r1, r2, r3, r4)) ∧ Aside0 (kq ≤ k) ∧ Aside0 (Kd.R (Kd.int .i64) 3 w' w.heap.size (fun _ => True) v7 x7_1) ∧ Aside0 (w'.heap[gbqd]? = some (.cells #[.int .i64 0, (.slice none 0 0)] 28 (0, 0))) ∧ Aside0 (IsS106 w0 w' g s0_0 xq1_1 xq2_1) ∧ Aside0 (KeepBut w w' g none) ∧ Aside0 (Below w0.heap.size w0 w'))
 case atStart => exact ⟨(yqc), (0), (tqa), (tqb), rs_, H', ⟨Nat.le_refl _⟩, ⟨by refine pRx ?_; exact Kd.R_mono HOqh.out (fun _ hk => trivial)⟩, ⟨pk BKqd.out⟩, ⟨pi_ HI0⟩, ⟨pq HK⟩, ⟨pbI HB⟩⟩
 clear H'
 try clear c1
 try clear p2
 try clear p6
 try clear c9
 obtain ⟨x7_1, x8_1, xq1_1, xq2_1, rfl, HA, HK1, HO_7, BKqd, HI0, HK, HB⟩ := hrel
 rcases gk with _ | k1
 ·exact absurd HA.out (by simp [yX.l0])
 have H := HA.out
 clear HA
 simp only [yX.l0] at H
 by_cases c13 : x8_1 < (wrap64 ((wrap64 (1 + tq6)) * a1))
 ·rw [if_pos c13] at H
  have c13b0 := decide_eq_true c13
  clear c13
  replace H := bo H; obtain ⟨⟨tq3, tqi, tqj⟩, A14, H⟩ := H
  (try dsimp only at H)
  replace H := gd H; obtain ⟨c15, H⟩ := H
  have LMc15 := aQ c15
  clear c15
  obtain ⟨yqk, hyqk⟩ : ∃ y_ : List Int, y_ = (x7_1 ++ [tq3]) := ⟨_, rfl⟩
  replace H : (yX.l0 k1 a1 tq5 (wrap64 (1 + tq6)) yqk (wrap64 (x8_1 + 1)) s0_0 tqi tqj) = some (r1, r2, r3, r4) := by first | (rw [hyqk]; with_reducible exact H) | (rw [hyqk]; exact H)
  have Nyqk := aQ hyqk
  clear hyqk
  have H' := aQ H
  clear H
  go_wp2_with (first | (refine gq 91 (some 26) Try.func91 #[.pointer (some ⟨g, 0, none⟩), .int .i64 tq5] ?_; (with_reducible refine (yk.calls g s0_0 xq1_1 xq2_1 tq5 tq3 tqi tqj w0 _ ?side1 ?side2 A14.out).mono ?_); (case side1 => exact pi_ HI0); (case side2 => exact pbI HB); rintro e w16 ⟨rfl, hi, hb, hk⟩; refine ⟨_, rfl, ?_⟩; replace HO_7 := aQ (Kd.R_mono (Kd.R_keep (IsS106.apart (show IsS106 w0 _ g s0_0 xq1_1 xq2_1 from pi_ HI0) (pR HO_7.out) (by decide)) hk (fun _ h => h.2)) (fun _ h => h.1)); replace BKqd := kk BKqd hk NBqd_0.out; replace HK := kh HK hk; replace HB := aQ (hb); replace HI0 := aQ (hi); (try clear hb); (try clear hk); (try clear hi)) | ((with_reducible refine yO (b := .append) (xs := #[.tmp 23, .tmp 27]) rfl ?_); at_builtin; refine Kd.R_append (Kd.int .i64) w.heap.size rfl (.tmp 23) (.tmp 27) 22 3 (.int .i64 0) 8 rfl Try.underlying22 yaU rfl (by decide) (by omega) u7 x7_1 tq3 [.int .i64 tq3] (fun _ => True) (fun _ => False) rfl rfl ?aP (fun _ hk => hk.elim) ?aF ?aO (Below.refl _ _) ?aS ?aL ?_; (case aP => exact rfl); (case aF => exact (fun _ _ => trivial)); (case aO => exact (pR HO_7.out)); (case aS => exact (yR (w := w) (g := g) (row := none) (pq HK))); (case aL => have := LMc15.out; omega); intro vql w17 ho hb hg hat; rw [← Nyqk.out] at ho; replace BKqd := aQ (ybu (g := gbqd) (o := .cells #[.int .i64 0, .slice none 0 0] 28 (0, 0)) (pk BKqd.out) hg (Kd.R_ne HO_7.out BKqd.out (by decide))); replace HB := aQ (ybo (pbI HB) HL.out hb); replace HI0 := aQ (IsS106.grown (pi_ HI0) hg (IsS106.own_ne HI0.out HO_7.out (by decide))); replace HK := aQ (KeepBut.trans (pq HK) (KeepBut.of_grown hg g) (Kd.R_base2 HO_7.out)); have HOqm := aQ (ho); clear HO_7; clear ho hb hg hat))
  go_roundg k1
  case measure => have := HK1.out; omega
  case rel => exact ⟨(yqk), (wrap64 (x8_1 + 1)), (tqi), (tqj), rs_, H', ⟨by have := HK1.out; omega⟩, ⟨pR HOqm.out⟩, ⟨pk BKqd.out⟩, ⟨pi_ HI0⟩, ⟨pq HK⟩, ⟨pbI HB⟩⟩
 ·rw [if_neg c13] at H
  have c13b0 := decide_eq_false c13
  clear c13
  replace H := bo H; obtain ⟨⟨tq4, tqn⟩, A18, H⟩ := H
  (try dsimp only at H)
  simp only [Option.some.injEq, Prod.mk.injEq] at H
  obtain ⟨rfl, rfl, rfl, rfl⟩ := H
  obtain ⟨Ao19, co19, eo19⟩ := Kd.R_slice HO_7.out
  subst eo19
  go_wp2_with (first | (refine gq 170 (some 33) Try.func170 #[.int .i64 tq5, .int .i64 (wrap64 (1 + tq6)), .int .i64 a1, .slice Ao19 x7_1.length co19] ?_; (with_reducible refine (yap.calls k1 tq5 (wrap64 (1 + tq6)) a1 _ _ x7_1 tq4 tqn _ ?side1 ?side2 A18.out).mono ?_); (case side1 => exact pC ((Kd.R_reads' HO_7.out).2.2)); (case side2 => exact (Kd.R_reads' HO_7.out).2.1); rintro e w20 ⟨vqo, rfl, ho0, hb⟩; refine ⟨_, rfl, ?_⟩; have HOqp := aQ (Kd.R_lower (Kd.R_new' ho0 (Kd.R_lt (pR HO_7.out))) (yR (w := w) (g := g) (row := none) (pq HK))); replace HO_7 := aQ (Kd.R_elder' (pR HO_7.out) (Kd.R_base ho0) hb); replace BKqd := bb BKqd hb; replace HK := kt HK hb; replace HB := bsI HB hb; replace HI0 := bI HI0 hb; (try clear hb); (try clear ho0); have hnb21 := NBqd_0.out; have hnc21 := NB0_qd.out; obtain ⟨hcz22_0, hcz22_1, hfz22_0, hfz22_1⟩ := c2 BKqd; obtain ⟨Ao23, co23, eo23⟩ := Kd.R_slice HOqp.out; subst eo23))
  refine bodyPost_ret (results_cell_row rfl _ _ gbqd 28 #[.int .i64 tq4, .slice Ao23 tqn.length co23] (0, 0) _ rfl (by refine pkx ?_; refine yh (cs := #[.int .i64 tq4, .slice none 0 0]) ?_ 1 _ rfl; refine pkx ?_; refine yh (cs := #[.int .i64 0, .slice none 0 0]) ?_ 0 _ rfl; refine pkx ?_; exact BKqd.out) Try.underlying28 rfl (by kernel_rfl)) rfl ?_
  exact ⟨_, by first | rfl | (simp [errW_none, yi] <;> rfl) | (simp [*, errW_none, yi] <;> rfl), by refine pRx ?_; exact rf HOqp BKqd, pi_ HI0, pbI HB, pq HK⟩
mutual
def yY.j0 : Nat → Int → Int → Bool → Option (Int × List Int)
 | 0, _, _, _ => none
 | k + 1, x0, x1, x15 => if x15 = true then (some (0, ([] : List Int))) else (yY.l0 k x0 x1 0 x1 ([] : List Int))
def yY.l0 : Nat → Int → Int → Int → Int → List Int → Option (Int × List Int)
 | 0, _, _, _, _, _ => none
 | k + 1, x0, x1, x6, x166005000, x166005001 => (yT.f x1).bind fun tq0 => (if x6 ≤ tq0 then ((yD.f k x6).bind fun tq1 => (if tq1 = x0 then (if x166005001.length < 17592186044416 then (yY.l0 k x0 x1 (wrap64 (x6 + 1)) x166005000 (x166005001 ++ [x6])) else (none)) else (yY.l0 k x0 x1 (wrap64 (x6 + 1)) x166005000 x166005001))) else (some (x166005000, x166005001)))
end
def yY.f (k : Nat) (a0 : Int) (a1 : Int) : Option (Int × List Int) := (yaf.f a1 0 8).bind fun tq2 => (if tq2 = true then ((yaf.f a0 0 a1).bind fun tq3 => (yY.j0 k a0 a1 (!tq3))) else (yY.j0 k a0 a1 true))
theorem yY.calls (k : Nat) (a0 : Int) (a1 : Int) (r1 : Int) (r2 : List Int) (w : World) (h : yY.f k a0 a1 = some (r1, r2)) :
  Calls Try.prog 165 #[.int .i64 a0, .int .i64 a1] w fun e w' => ∃ v1_ : Value, e = .returned (.agg #[.int .i64 r1, v1_]) ∧ Kd.R (Kd.int .i64) 3 w' w.heap.size (fun _ => True) v1_ r2 ∧ Below w.heap.size w w' := by
 have hu28 := Try.underlying28
 have HB := aQ (Below.refl w.heap.size w)
 have H := h
 clear h
 unfold yY.f at H
 (try dsimp only at H)
 have HC3 := aQ H
 clear H
 go_enter Try.func165, Try.ntmps165
 go_upto_region 1 with (first | ((with_reducible refine yb (N := 4) rfl ?_); refine bx 4 #[.int .i64 0, .slice none 0 0] 28 ?_; intro gbq4 hg w4 hbox hb; have BKq4 := aQ (hbox); have GWq4 := gB HB hg; have GEq4 := gB HB hg; replace HB := bs HB hb; clear hb hbox hg))
 (try simp only [Act.put, List.setIfInBounds_toArray, List.set_cons_zero, List.set_cons_succ])
 go_cut [15] (fun v15 wc => ∃ (kq : Nat) (x15_2 : Bool), v15 = .bool x15_2 ∧ Aside0 (yY.j0 kq a0 a1 x15_2 = some (r1, r2)) ∧ Aside0 (kq ≤ k) ∧ Aside0 (wc.heap[gbq4]? = some (.cells #[.int .i64 0, (.slice none 0 0)] 28 (0, 0))) ∧ Aside0 (Below w.heap.size w wc))
 case first =>
  have H := HC3.out
  clear HC3
  replace H := bo H; obtain ⟨tq2, A5, H⟩ := H
  (try dsimp only at H)
  by_cases c6 : tq2 = true
  ·subst c6
   rw [if_pos rfl] at H
   replace H := bo H; obtain ⟨tq3, A7, H⟩ := H
   (try dsimp only at H)
   have H' := aQ H
   clear H
   go_wp2_with (first | (refine gq 98 (some 8) Try.func98 #[.int .i64 a1, .int .i64 0, .int .i64 8] ?_; (with_reducible refine (yaf.calls a1 0 8 true _ A5.out).mono ?_); rintro e w' ⟨rfl, ⟨nd, rfl⟩⟩; refine ⟨_, rfl, ?_⟩) | (go_at_call 98; (with_reducible refine (yaf.calls a0 0 a1 tq3 _ A7.out).mono ?_); rintro e w' ⟨rfl, ⟨nd, rfl⟩⟩))
   go_meet
   case rel => exact ⟨_, (!tq3), rs_, H', ⟨by first | omega | exact Nat.le_refl _⟩, ⟨pk BKq4.out⟩, ⟨pB1 HB.out GEq4.out⟩⟩
  ·replace c6 := Bool.eq_false_iff.mpr c6
   subst c6
   have H1 : (yY.j0 k a0 a1 true) = some (r1, r2) := by rw [if_neg (show ¬ (false = true) by decide)] at H; exact H
   clear H
   have H := H1
   clear H1
   have H' := aQ H
   clear H
   go_wp2_with (first | (refine gq 98 (some 8) Try.func98 #[.int .i64 a1, .int .i64 0, .int .i64 8] ?_; (with_reducible refine (yaf.calls a1 0 8 false _ A5.out).mono ?_); rintro e w' ⟨rfl, ⟨nd, rfl⟩⟩; refine ⟨_, rfl, ?_⟩))
   go_meet
   case rel => exact ⟨_, (true), rs_, H', ⟨by first | omega | exact Nat.le_refl _⟩, ⟨pk BKq4.out⟩, ⟨pB1 HB.out GEq4.out⟩⟩
 case rest =>
  clear HC3
  try clear c1
  try clear p2
  try clear c6
  obtain ⟨kq, x15_2, rfl, HA, HJ2, BKq4, HB⟩ := hcut
  cases kq with
  | zero => exact absurd HA.out (by simp [yY.j0])
  | succ kj2 =>
   have H := HA.out
   clear HA
   simp only [yY.j0] at H
   by_cases c8 : x15_2 = true
   ·subst c8
    rw [if_pos rfl] at H
    simp only [Option.some.injEq, Prod.mk.injEq] at H
    obtain ⟨rfl, rfl⟩ := H
    obtain ⟨hcz9_0, hcz9_1, hfz9_0, hfz9_1⟩ := c2 BKq4
    go_wp2
    refine bodyPost_ret (results_cell_row rfl _ _ gbq4 28 #[.int .i64 0, .slice none 0 0] (0, 0) _ rfl (by refine pkx ?_; refine yh (cs := #[.int .i64 0, .slice none 0 0]) ?_ 1 _ rfl; refine pkx ?_; refine yh (cs := #[.int .i64 0, .slice none 0 0]) ?_ 0 _ rfl; refine pkx ?_; exact BKq4.out) Try.underlying28 rfl (by kernel_rfl)) rfl ?_
    exact ⟨_, by first | rfl | (simp [errW_none, yi] <;> rfl) | (simp [*, errW_none, yi] <;> rfl), by first | exact Kd.R_nil _ _ _ _ _ | exact Kd.N_nil _ _ _ _ _ | exact Kd.V_nil _ _ _ _ _ | exact Kd.Q_nil _ _ _ _ _ | exact Kd.S_nil _ _ _ _ _, pB1 HB.out GEq4.out⟩
   ·replace c8 := Bool.eq_false_iff.mpr c8
    subst c8
    have H1 : (yY.l0 kj2 a0 a1 0 a1 ([] : List Int)) = some (r1, r2) := by rw [if_neg (show ¬ (false = true) by decide)] at H; exact H
    clear H
    have H := H1
    clear H1
    have H' := aQ H
    clear H
    go_wp2_with (first | ((with_reducible refine yb (N := 5) rfl ?_); refine bx 5 #[.int .i64 0, .slice none 0 0] 28 ?_; intro gbq5 hg w10 hbox hb; have BKq5 := aQ (hbox); have GWq5 := gB HB hg; have GEq5 := gB HB hg; replace HB := bs HB hb; have NBq4_q5 := nl BKq4 hg; have NBq5_q4 := ng BKq4 hg; replace BKq4 := bb BKq4 hb; clear hb hbox hg; have hnb11 := NBq5_q4.out; have hnc11 := NBq4_q5.out; obtain ⟨hcz12_0, hcz12_1, hfz12_0, hfz12_1⟩ := c2 BKq5))
    go_loopg [6] kj2 (fun kq v6 w' => ∃ (x6_2 : Int) (x166005001_2 : List Int) (u166005001 : Value), v6 = .int .i64 x6_2 ∧ Aside0 (yY.l0 kq a0 a1 x6_2 a1 x166005001_2 = some (r1, r2)) ∧ Aside0 (kq ≤ kj2) ∧ Aside0 (Kd.R (Kd.int .i64) 3 w' w.heap.size (fun _ => True) u166005001 x166005001_2) ∧ Aside0 (w'.heap[gbq4]? = some (.cells #[.int .i64 0, (.slice none 0 0)] 28 (0, 0))) ∧ Aside0 (w'.heap[gbq5]? = some (.cells #[.int .i64 a1, u166005001] 28 (0, 0))) ∧ Aside0 (Below w.heap.size w w'))
    case atStart => exact ⟨(0), (([] : List Int)), (.slice none 0 0), rs_, H', ⟨Nat.le_refl _⟩, ⟨by first | exact Kd.R_nil _ _ _ _ _ | exact Kd.N_nil _ _ _ _ _ | exact Kd.V_nil _ _ _ _ _ | exact Kd.Q_nil _ _ _ _ _ | exact Kd.S_nil _ _ _ _ _⟩, ⟨by refine pkx ?_; refine yj ?_ NBq4_q5.out _; refine pkx ?_; refine yj ?_ NBq4_q5.out _; refine pkx ?_; exact BKq4.out⟩, ⟨by refine pkx ?_; refine yh (cs := #[.int .i64 a1, .slice none 0 0]) ?_ 1 _ rfl; refine pkx ?_; refine yh (cs := #[.int .i64 0, .slice none 0 0]) ?_ 0 _ rfl; refine pkx ?_; exact BKq5.out⟩, ⟨pB2 HB.out GEq4.out GEq5.out⟩⟩
    clear H'
    try clear c1
    try clear p2
    try clear c6
    try clear c8
    try clear c9
    try clear c11
    try clear hcz12_0
    try clear hcz12_1
    try clear hcz9_0
    try clear hcz9_1
    try clear hfz12_0
    try clear hfz12_1
    try clear hfz9_0
    try clear hfz9_1
    try clear p2
    obtain ⟨x6_2, x166005001_2, u166005001, rfl, HA, HK2, HO_166005001, BKq4, BKq5, HB⟩ := hrel
    rcases gk with _ | k2
    ·exact absurd HA.out (by simp [yY.l0])
    have H := HA.out
    clear HA
    simp only [yY.l0] at H
    replace H := bo H; obtain ⟨tq0, A13, H⟩ := H
    (try dsimp only at H)
    by_cases c14 : x6_2 ≤ tq0
    ·rw [if_pos c14] at H
     have c14b0 := decide_eq_true c14
     clear c14
     replace H := bo H; obtain ⟨tq1, A15, H⟩ := H
     (try dsimp only at H)
     by_cases c16 : tq1 = a0
     ·rw [if_pos c16] at H
      have c16b0 : (tq1 == a0) = true := beq_iff_eq.mpr c16
      have c16b1 : (tq1 != a0) = false := bne_eq_false_iff_eq.mpr c16
      clear c16
      replace H := gd H; obtain ⟨c17, H⟩ := H
      have LMc17 := aQ c17
      clear c17
      obtain ⟨yq6, hyq6⟩ : ∃ y_ : List Int, y_ = (x166005001_2 ++ [x6_2]) := ⟨_, rfl⟩
      replace H : (yY.l0 k2 a0 a1 (wrap64 (x6_2 + 1)) a1 yq6) = some (r1, r2) := by first | (rw [hyq6]; with_reducible exact H) | (rw [hyq6]; exact H)
      have Nyq6 := aQ hyq6
      clear hyq6
      have H' := aQ H
      clear H
      go_wp2_with (first | (refine gq 81 (some 21) Try.func81 #[.int .i64 a1] ?_; (with_reducible refine (yT.calls a1 tq0 _ A13.out).mono ?_); rintro e w' ⟨rfl, ⟨nd, rfl⟩⟩; refine ⟨_, rfl, ?_⟩; (try (rw [ya1 wr]; generalize hq_ : World.drewN wr _ = wr; have n0_ : Aside0 (Kd.R (Kd.int .i64) 3 wr w.heap.size (fun _ => True) u166005001 x166005001_2) := ⟨by rw [← hq_]; exact (pR HO_166005001.out)⟩; have n1_ : Aside0 (wr.heap[gbq4]? = some (.cells #[.int .i64 0, .slice none 0 0] 28 (0, 0))) := ⟨by rw [← hq_]; exact (pk BKq4.out)⟩; have n2_ : Aside0 (wr.heap[gbq5]? = some (.cells #[.int .i64 a1, u166005001] 28 (0, 0))) := ⟨by rw [← hq_]; exact (pk BKq5.out)⟩; have n3_ : Aside0 (Below w.heap.size w wr) := ⟨by rw [← hq_]; exact (pB2 HB.out GEq4.out GEq5.out)⟩; clear HO_166005001 BKq4 BKq5 HB hq_; have HO_166005001 := n0_; have BKq4 := n1_; have BKq5 := n2_; have HB := n3_; clear n0_ n1_ n2_ n3_))) | (refine gq 33 (some 26) Try.func33 #[.int .i64 x6_2] ?_; (with_reducible refine (yD.calls k2 x6_2 tq1 _ A15.out).mono ?_); rintro e w' ⟨rfl, ⟨nd, rfl⟩⟩; refine ⟨_, rfl, ?_⟩; (try (rw [ya1 wr]; generalize hq_ : World.drewN wr _ = wr; have n0_ : Aside0 (Kd.R (Kd.int .i64) 3 wr w.heap.size (fun _ => True) u166005001 x166005001_2) := ⟨by rw [← hq_]; exact (pR HO_166005001.out)⟩; have n1_ : Aside0 (wr.heap[gbq4]? = some (.cells #[.int .i64 0, .slice none 0 0] 28 (0, 0))) := ⟨by rw [← hq_]; exact (pk BKq4.out)⟩; have n2_ : Aside0 (wr.heap[gbq5]? = some (.cells #[.int .i64 a1, u166005001] 28 (0, 0))) := ⟨by rw [← hq_]; exact (pk BKq5.out)⟩; have n3_ : Aside0 (Below w.heap.size w wr) := ⟨by rw [← hq_]; exact (pB2 HB.out GEq4.out GEq5.out)⟩; clear HO_166005001 BKq4 BKq5 HB hq_; have HO_166005001 := n0_; have BKq4 := n1_; have BKq5 := n2_; have HB := n3_; clear n0_ n1_ n2_ n3_)); have hnb18 := NBq5_q4.out; have hnc18 := NBq4_q5.out; obtain ⟨hcz19_0, hcz19_1, hfz19_0, hfz19_1⟩ := c2 BKq5) | ((with_reducible refine yO (b := .append) (xs := #[.tmp 30, .tmp 32]) rfl ?_); at_builtin; refine Kd.R_append (Kd.int .i64) (w0 := w) w.heap.size rfl (.tmp 30) (.tmp 32) 22 3 (.int .i64 0) 8 rfl Try.underlying22 yaU rfl (by decide) (by omega) u166005001 x166005001_2 x6_2 [.int .i64 x6_2] (fun _ => True) (fun _ => False) rfl rfl ?aP (fun _ hk => hk.elim) ?aF ?aO ?aB ?aS ?aL ?_; (case aP => exact rfl); (case aB => exact (pB2 HB.out GEq4.out GEq5.out)); (case aF => exact (fun _ _ => trivial)); (case aO => exact (pR HO_166005001.out)); (case aS => exact (yc (pB2 HB.out GEq4.out GEq5.out))); (case aL => have := LMc17.out; omega); intro vq7 w20 ho hb hg hat; rw [← Nyq6.out] at ho; replace BKq4 := aQ (ybu (g := gbq4) (o := .cells #[.int .i64 0, .slice none 0 0] 28 (0, 0)) (pk BKq4.out) hg (Kd.R_ne HO_166005001.out BKq4.out (by decide))); replace BKq5 := aQ (ybu (g := gbq5) (o := .cells #[.int .i64 a1, u166005001] 28 (0, 0)) (pk BKq5.out) hg (Kd.R_ne HO_166005001.out BKq5.out (by decide))); replace HB := aQ (hb); have HOq8 := aQ (ho); clear HO_166005001; clear ho hb hg hat; obtain ⟨Ao21, co21, eo21⟩ := Kd.R_slice HOq8.out; subst eo21; obtain ⟨hcz22_0, hcz22_1, hfz22_0, hfz22_1⟩ := c2 BKq5))
      go_roundg k2
      case measure => have := HJ2.out; have := HK2.out; omega
      case rel => exact ⟨(wrap64 (x6_2 + 1)), (yq6), (.slice Ao21 yq6.length co21), rs_, H', ⟨by have := HJ2.out; have := HK2.out; omega⟩, ⟨by refine pRx ?_; exact rf1 HOq8 BKq5⟩, ⟨by refine pkx ?_; refine yj ?_ NBq4_q5.out _; refine pkx ?_; exact BKq4.out⟩, ⟨by refine pkx ?_; refine yh (cs := #[.int .i64 a1, u166005001]) ?_ 1 _ rfl; refine pkx ?_; exact BKq5.out⟩, ⟨pB2 HB.out GEq4.out GEq5.out⟩⟩
     ·rw [if_neg c16] at H
      have c16b0 : (tq1 == a0) = false := beq_eq_false_iff_ne.mpr c16
      have c16b1 : (tq1 != a0) = true := bne_iff_ne.mpr c16
      have H' := aQ H
      clear H
      go_wp2_with (first | (refine gq 81 (some 21) Try.func81 #[.int .i64 a1] ?_; (with_reducible refine (yT.calls a1 tq0 _ A13.out).mono ?_); rintro e w' ⟨rfl, ⟨nd, rfl⟩⟩; refine ⟨_, rfl, ?_⟩) | (refine gq 33 (some 26) Try.func33 #[.int .i64 x6_2] ?_; (with_reducible refine (yD.calls k2 x6_2 tq1 _ A15.out).mono ?_); rintro e w' ⟨rfl, ⟨nd, rfl⟩⟩; refine ⟨_, rfl, ?_⟩))
      go_roundg k2
      case measure => have := HJ2.out; have := HK2.out; omega
      case rel => exact ⟨(wrap64 (x6_2 + 1)), (x166005001_2), (u166005001), rs_, H', ⟨by have := HJ2.out; have := HK2.out; omega⟩, ⟨pR HO_166005001.out⟩, ⟨pk BKq4.out⟩, ⟨pk BKq5.out⟩, ⟨pB2 HB.out GEq4.out GEq5.out⟩⟩
    ·rw [if_neg c14] at H
     have c14b0 := decide_eq_false c14
     clear c14
     simp only [Option.some.injEq, Prod.mk.injEq] at H
     obtain ⟨rfl, rfl⟩ := H
     go_wp2_with (first | (refine gq 81 (some 21) Try.func81 #[.int .i64 a1] ?_; (with_reducible refine (yT.calls a1 tq0 _ A13.out).mono ?_); rintro e w' ⟨rfl, ⟨nd, rfl⟩⟩; refine ⟨_, rfl, ?_⟩; (try (rw [ya1 wr]; generalize hq_ : World.drewN wr _ = wr; have n0_ : Aside0 (Kd.R (Kd.int .i64) 3 wr w.heap.size (fun _ => True) u166005001 x166005001_2) := ⟨by rw [← hq_]; exact (pR HO_166005001.out)⟩; have n1_ : Aside0 (wr.heap[gbq4]? = some (.cells #[.int .i64 0, .slice none 0 0] 28 (0, 0))) := ⟨by rw [← hq_]; exact (pk BKq4.out)⟩; have n2_ : Aside0 (wr.heap[gbq5]? = some (.cells #[.int .i64 a1, u166005001] 28 (0, 0))) := ⟨by rw [← hq_]; exact (pk BKq5.out)⟩; have n3_ : Aside0 (Below w.heap.size w wr) := ⟨by rw [← hq_]; exact (pB2 HB.out GEq4.out GEq5.out)⟩; clear HO_166005001 BKq4 BKq5 HB hq_; have HO_166005001 := n0_; have BKq4 := n1_; have BKq5 := n2_; have HB := n3_; clear n0_ n1_ n2_ n3_)); have hnb23 := NBq5_q4.out; have hnc23 := NBq4_q5.out; obtain ⟨hcz24_0, hcz24_1, hfz24_0, hfz24_1⟩ := c2 BKq5; obtain ⟨hcz25_0, hcz25_1, hfz25_0, hfz25_1⟩ := c2 BKq4; obtain ⟨Ao26, co26, eo26⟩ := Kd.R_slice HO_166005001.out; subst eo26))
     refine bodyPost_ret (results_cell_row rfl _ _ gbq4 28 #[.int .i64 a1, .slice Ao26 x166005001_2.length co26] (0, 0) _ rfl (by refine pkx ?_; refine yh (cs := #[.int .i64 a1, .slice none 0 0]) ?_ 1 _ rfl; refine pkx ?_; refine yh (cs := #[.int .i64 0, .slice none 0 0]) ?_ 0 _ rfl; refine pkx ?_; exact BKq4.out) Try.underlying28 rfl (by kernel_rfl)) rfl ?_
     exact ⟨_, by first | rfl | (simp [errW_none, yi] <;> rfl) | (simp [*, errW_none, yi] <;> rfl), by refine pRx ?_; exact rf HO_166005001 BKq4, pB2 HB.out GEq4.out GEq5.out⟩
def yx.l0 : Nat → ByteArray → Int → List ByteArray → Int → Int → Option (List ByteArray)
 | 0, _, _, _, _, _ => none
 | k + 1, x0, x1, x5, x6, x7 => if x7 ≤ (x0.size : Int) then (if x7 = (x0.size : Int) then (if 0 ≤ x6 then (if x6 ≤ x7 then (if x5.length < 8796093022208 then (yx.l0 k x0 x1 (x5 ++ [x0.extract (x6 : Int).toNat (x7 : Int).toNat]) (wrap64 (x7 + 1)) (wrap64 (x7 + 1))) else (none)) else (none)) else (none)) else (if 0 ≤ x7 then (if x7 < (x0.size : Int) then (if (bt x0 x7) = x1 then (if 0 ≤ x6 then (if x6 ≤ x7 then (if x5.length < 8796093022208 then (yx.l0 k x0 x1 (x5 ++ [x0.extract (x6 : Int).toNat (x7 : Int).toNat]) (wrap64 (x7 + 1)) (wrap64 (x7 + 1))) else (none)) else (none)) else (none)) else (yx.l0 k x0 x1 x5 x6 (wrap64 (x7 + 1)))) else (none)) else (none))) else (some x5)
def yx.f (k : Nat) (a0 : ByteArray) (a1 : Int) : Option (List ByteArray) := yx.l0 k a0 a1 (([] : List ByteArray)) 0 0
theorem yx.mono_l : ∀ k, (∀ y0 y1 y2 y3 y4, LeO (yx.l0 k y0 y1 y2 y3 y4) (yx.l0 (k + 1) y0 y1 y2 y3 y4))
 | 0 => fun _ _ _ _ _ r h => by simp [yx.l0] at h
 | k + 1 => by
  have ih0 := yx.mono_l k
  ·intro y0 y1 y2 y3 y4
   unfold yx.l0
   repeat' first | (with_reducible first | exact ih0 _ _ _ _ _ | exact LeO.refl _ | exact LeO.none _ | refine LeO.ite ?_ ?_ | refine LeO.bind ?_ (fun _ => ?_)) | exact ih0 _ _ _ _ _ | exact LeO.none _ | refine LeO.ite ?_ ?_ | refine LeO.bind ?_ (fun _ => ?_)
theorem yx.mono : ∀ a0 a1 k, LeO (yx.f k a0 a1) (yx.f (k + 1) a0 a1) := by
 intro a0 a1 k
 have ih0 := yx.mono_l k
 unfold yx.f
 repeat' first | (with_reducible first | exact ih0 _ _ _ _ _ | exact LeO.refl _ | exact LeO.none _ | refine LeO.ite ?_ ?_ | refine LeO.bind ?_ (fun _ => ?_)) | exact ih0 _ _ _ _ _ | exact LeO.none _ | refine LeO.ite ?_ ?_ | refine LeO.bind ?_ (fun _ => ?_)
theorem yx.calls (k : Nat) (a0 : ByteArray) (a1 : Int) (r : List ByteArray) (w : World) (h : yx.f k a0 a1 = some r) :
  Calls Try.prog 196 #[.string a0, .int .u8 a1] w fun e w' => ∃ v0_ : Value, e = .returned (v0_) ∧ Kd.R Kd.string 9 w' w.heap.size (fun _ => True) v0_ r ∧ Below w.heap.size w w' := by
 have HB := aQ (Below.refl w.heap.size w)
 have H : (yx.l0 k a0 a1 (([] : List ByteArray)) 0 0) = some r := h
 clear h
 obtain ⟨yq0, hyq0⟩ : ∃ y_ : List ByteArray, y_ = (([] : List ByteArray)) := ⟨_, rfl⟩
 replace H : (yx.l0 k a0 a1 yq0 0 0) = some r := by first | (rw [hyq0]; with_reducible exact H) | (rw [hyq0]; exact H)
 have Nyq0 := aQ hyq0
 clear hyq0
 have H' := aQ H
 clear H
 go_enter Try.func196, Try.ntmps196
 go_wp2_with (first | ((with_reducible refine yb (N := 8) rfl ?_); refine Kd.R_lit Kd.string _ 9 ?hg (N := 8) ?hd (xs := ([] : List ByteArray)) (inner := []) (ok := fun _ => True) (okp := fun _ => True) ?hr ?hp (fun _ hk => hk) trivial (Below.refl _ _) (Nat.le_refl _) (by simp) ?_; (case hd => rfl); (case hg => rfl); (case hr => first | (go_simp; done) | (go_simp; rfl)); (case hp => exact (Reps.none _ _)); intro vq1 w3 ho4 hb hg_ hnew_; clear hg_ hnew_; (first | rw [← Nyq0.out] at ho4 | (simp only [Int.reduceToNat] at ho4; rw [← Nyq0.out] at ho4)); have HOq2 := aQ (Kd.R_lower ho4 (yc (pB HB.out))); replace HB := bs HB hb; clear hb ho4))
 go_loopg [5, 6, 7] k (fun kq v5 v6 v7 w' => ∃ (x5_1 : List ByteArray) (x6_1 : Int) (x7_1 : Int), v6 = .int .i64 x6_1 ∧ v7 = .int .i64 x7_1 ∧ Aside0 (yx.l0 kq a0 a1 x5_1 x6_1 x7_1 = some r) ∧ Aside0 (kq ≤ k) ∧ Aside0 (Kd.R Kd.string 9 w' w.heap.size (fun _ => True) v5 x5_1) ∧ Aside0 (Below w.heap.size w w'))
 case atStart => exact ⟨(yq0), (0), (0), rs_, rs_, H', ⟨Nat.le_refl _⟩, ⟨pR HOq2.out⟩, ⟨pB HB.out⟩⟩
 clear H'
 try clear c1
 try clear p2
 obtain ⟨x5_1, x6_1, x7_1, rfl, rfl, HA, HK1, HO_5, HB⟩ := hrel
 rcases gk with _ | k1
 ·exact absurd HA.out (by simp [yx.l0])
 have H := HA.out
 clear HA
 simp only [yx.l0] at H
 by_cases c5 : x7_1 ≤ (a0.size : Int)
 ·rw [if_pos c5] at H
  have c5b0 := decide_eq_true c5
  clear c5
  by_cases c6 : x7_1 = (a0.size : Int)
  ·rw [if_pos c6] at H
   have c6b0 : (x7_1 == (a0.size : Int)) = true := beq_iff_eq.mpr c6
   have c6b1 : (x7_1 != (a0.size : Int)) = false := bne_eq_false_iff_eq.mpr c6
   clear c6
   replace H := gd H; obtain ⟨c7, H⟩ := H
   have c7b0 := eq_true c7
   have c7b1 := decide_eq_true c7
   clear c7
   replace H := gd H; obtain ⟨c8, H⟩ := H
   have c8b0 := eq_true c8
   have c8b1 := decide_eq_true c8
   clear c8
   have c9b0 := eq_true (of_decide_eq_true as_ : x7_1 ≤ (a0.size : Int))
   replace H := gd H; obtain ⟨c10, H⟩ := H
   have LMc10 := aQ c10
   clear c10
   obtain ⟨yq3, hyq3⟩ : ∃ y_ : List ByteArray, y_ = (x5_1 ++ [a0.extract (x6_1 : Int).toNat (x7_1 : Int).toNat]) := ⟨_, rfl⟩
   replace H : (yx.l0 k1 a0 a1 yq3 (wrap64 (x7_1 + 1)) (wrap64 (x7_1 + 1))) = some r := by first | (rw [hyq3]; with_reducible exact H) | (rw [hyq3]; exact H)
   have Nyq3 := aQ hyq3
   clear hyq3
   have H' := aQ H
   clear H
   go_wp2_with (first | ((with_reducible refine yO (b := .append) (xs := #[.tmp 26, .tmp 31]) rfl ?_); at_builtin; refine Kd.R_append Kd.string (w0 := w) w.heap.size rfl (.tmp 26) (.tmp 31) 135 9 (.string ⟨#[]⟩) 16 rfl Try.underlying135 yhz rfl (by decide) (by omega) u5 x5_1 (a0.extract (x6_1 : Int).toNat (x7_1 : Int).toNat) [.string (a0.extract (x6_1 : Int).toNat (x7_1 : Int).toNat)] (fun _ => True) (fun _ => False) rfl rfl ?aP (fun _ hk => hk.elim) ?aF ?aO ?aB ?aS ?aL ?_; (case aP => exact rfl); (case aB => exact (pB HB.out)); (case aF => exact (fun _ _ => trivial)); (case aO => exact (pR HO_5.out)); (case aS => exact (yc (pB HB.out))); (case aL => have := LMc10.out; omega); intro vq4 w11 ho hb hg hat; rw [← Nyq3.out] at ho; replace HB := aQ (hb); have HOq5 := aQ (ho); clear HO_5; clear ho hb hg hat))
   go_roundg k1
   case measure => have := HK1.out; omega
   case rel => exact ⟨(yq3), (wrap64 (x7_1 + 1)), (wrap64 (x7_1 + 1)), rs_, rs_, H', ⟨by have := HK1.out; omega⟩, ⟨pR HOq5.out⟩, ⟨pB HB.out⟩⟩
  ·rw [if_neg c6] at H
   have c6b0 : (x7_1 == (a0.size : Int)) = false := beq_eq_false_iff_ne.mpr c6
   have c6b1 : (x7_1 != (a0.size : Int)) = true := bne_iff_ne.mpr c6
   replace H := gd H; obtain ⟨c12, H⟩ := H
   have c12b0 := decide_eq_true c12
   clear c12
   replace H := gd H; obtain ⟨c13, H⟩ := H
   have c13b0 := decide_eq_true c13
   clear c13
   by_cases c15 : (bt a0 x7_1) = a1
   ·rw [if_pos c15] at H
    have c15b0 : ((bt a0 x7_1) == a1) = true := beq_iff_eq.mpr c15
    have c15b1 : ((bt a0 x7_1) != a1) = false := bne_eq_false_iff_eq.mpr c15
    clear c15
    replace H := gd H; obtain ⟨c16, H⟩ := H
    have c16b0 := eq_true c16
    have c16b1 := decide_eq_true c16
    clear c16
    replace H := gd H; obtain ⟨c17, H⟩ := H
    have c17b0 := eq_true c17
    have c17b1 := decide_eq_true c17
    clear c17
    have c18b0 := eq_true (of_decide_eq_true as_ : x7_1 ≤ (a0.size : Int))
    replace H := gd H; obtain ⟨c19, H⟩ := H
    have LMc19 := aQ c19
    clear c19
    obtain ⟨yq6, hyq6⟩ : ∃ y_ : List ByteArray, y_ = (x5_1 ++ [a0.extract (x6_1 : Int).toNat (x7_1 : Int).toNat]) := ⟨_, rfl⟩
    replace H : (yx.l0 k1 a0 a1 yq6 (wrap64 (x7_1 + 1)) (wrap64 (x7_1 + 1))) = some r := by first | (rw [hyq6]; with_reducible exact H) | (rw [hyq6]; exact H)
    have Nyq6 := aQ hyq6
    clear hyq6
    have H' := aQ H
    clear H
    have p14 : 0 ≤ (x7_1 : Int) := of_decide_eq_true as_
    have q14 : x7_1 < (a0.size : Int) := of_decide_eq_true as_
    have hx14 := ycj a0 x7_1
    replace p14 := eq_true p14
    replace q14 := eq_true q14
    go_wp2_with (first | ((with_reducible refine yO (b := .append) (xs := #[.tmp 26, .tmp 31]) rfl ?_); at_builtin; refine Kd.R_append Kd.string (w0 := w) w.heap.size rfl (.tmp 26) (.tmp 31) 135 9 (.string ⟨#[]⟩) 16 rfl Try.underlying135 yhz rfl (by decide) (by omega) u5 x5_1 (a0.extract (x6_1 : Int).toNat (x7_1 : Int).toNat) [.string (a0.extract (x6_1 : Int).toNat (x7_1 : Int).toNat)] (fun _ => True) (fun _ => False) rfl rfl ?aP (fun _ hk => hk.elim) ?aF ?aO ?aB ?aS ?aL ?_; (case aP => exact rfl); (case aB => exact (pB HB.out)); (case aF => exact (fun _ _ => trivial)); (case aO => exact (pR HO_5.out)); (case aS => exact (yc (pB HB.out))); (case aL => have := LMc19.out; omega); intro vq7 w20 ho hb hg hat; rw [← Nyq6.out] at ho; replace HB := aQ (hb); have HOq8 := aQ (ho); clear HO_5; clear ho hb hg hat))
    go_roundg k1
    case measure => have := HK1.out; omega
    case rel => exact ⟨(yq6), (wrap64 (x7_1 + 1)), (wrap64 (x7_1 + 1)), rs_, rs_, H', ⟨by have := HK1.out; omega⟩, ⟨pR HOq8.out⟩, ⟨pB HB.out⟩⟩
   ·rw [if_neg c15] at H
    have c15b0 : ((bt a0 x7_1) == a1) = false := beq_eq_false_iff_ne.mpr c15
    have c15b1 : ((bt a0 x7_1) != a1) = true := bne_iff_ne.mpr c15
    have H' := aQ H
    clear H
    have p14 : 0 ≤ (x7_1 : Int) := of_decide_eq_true as_
    have q14 : x7_1 < (a0.size : Int) := of_decide_eq_true as_
    have hx14 := ycj a0 x7_1
    replace p14 := eq_true p14
    replace q14 := eq_true q14
    go_wp2
    go_roundg k1
    case measure => have := HK1.out; omega
    case rel => exact ⟨(x5_1), (x6_1), (wrap64 (x7_1 + 1)), rs_, rs_, H', ⟨by have := HK1.out; omega⟩, ⟨pR HO_5.out⟩, ⟨pB HB.out⟩⟩
 ·rw [if_neg c5] at H
  have c5b0 := decide_eq_false c5
  clear c5
  obtain rfl := Option.some.inj H
  go_wp2
  go_ret
  exact ⟨_, by first | rfl | (simp [errW_none, yi] <;> rfl) | (simp [*, errW_none, yi] <;> rfl), by refine pRx ?_; exact HO_5.out, pB HB.out⟩
def yA.l0 : Nat → Int → Bool → ByteArray → Option (ByteArray)
 | 0, _, _, _ => none
 | k + 1, x0, x3, x4 => if x0 = 0 then (if x3 = true then (if 1 + x4.size ≤ 9223372036854775807 then (some ((⟨#[45]⟩ : ByteArray) ++ x4)) else (none)) else (some x4)) else (if (Int.tmod x0 10) < 0 then ((some (([(wrap64 (48 + (wrap64 (-(Int.tmod x0 10))))) % 256] : List Int) : List Int)).bind fun yq0 => (if (strOfNums yq0).size + x4.size ≤ 9223372036854775807 then (yA.l0 k (wrap64 (Int.tdiv x0 10)) x3 ((strOfNums yq0) ++ x4)) else (none))) else ((some (([(wrap64 (48 + (Int.tmod x0 10))) % 256] : List Int) : List Int)).bind fun yq1 => (if (strOfNums yq1).size + x4.size ≤ 9223372036854775807 then (yA.l0 k (wrap64 (Int.tdiv x0 10)) x3 ((strOfNums yq1) ++ x4)) else (none))))
def yA.f (k : Nat) (a0 : Int) : Option (ByteArray) := if a0 = 0 then (some (⟨#[48]⟩ : ByteArray)) else (yA.l0 k a0 (decide (a0 < 0)) (⟨#[]⟩ : ByteArray))
theorem yA.mono_l : ∀ k, (∀ y0 y1 y2, LeO (yA.l0 k y0 y1 y2) (yA.l0 (k + 1) y0 y1 y2))
 | 0 => fun _ _ _ r h => by simp [yA.l0] at h
 | k + 1 => by
  have ih0 := yA.mono_l k
  ·intro y0 y1 y2
   unfold yA.l0
   repeat' first | (with_reducible first | exact ih0 _ _ _ | exact LeO.refl _ | exact LeO.none _ | refine LeO.ite ?_ ?_ | refine LeO.bind ?_ (fun _ => ?_)) | exact ih0 _ _ _ | exact LeO.none _ | refine LeO.ite ?_ ?_ | refine LeO.bind ?_ (fun _ => ?_)
theorem yA.mono : ∀ a0 k, LeO (yA.f k a0) (yA.f (k + 1) a0) := by
 intro a0 k
 have ih0 := yA.mono_l k
 unfold yA.f
 repeat' first | (with_reducible first | exact ih0 _ _ _ | exact LeO.refl _ | exact LeO.none _ | refine LeO.ite ?_ ?_ | refine LeO.bind ?_ (fun _ => ?_)) | exact ih0 _ _ _ | exact LeO.none _ | refine LeO.ite ?_ ?_ | refine LeO.bind ?_ (fun _ => ?_)
theorem yA.calls (k : Nat) (a0 : Int) (r : ByteArray) (w : World) (h : yA.f k a0 = some r) :
  Calls Try.prog 206 #[.int .i64 a0] w fun e w' => e = .returned (.string r) ∧ Below w.heap.size w w' := by
 have HB := aQ (Below.refl w.heap.size w)
 have H := h
 clear h
 unfold yA.f at H
 (try dsimp only at H)
 by_cases c2 : a0 = 0
 ·rw [if_pos c2] at H
  have c2b0 : (a0 == 0) = true := beq_iff_eq.mpr c2
  have c2b1 : (a0 != 0) = false := bne_eq_false_iff_eq.mpr c2
  clear c2
  obtain rfl := Option.some.inj H
  go_enter Try.func206, Try.ntmps206
  go_wp2
  go_ret
  exact ⟨re_, pB HB.out⟩
 ·rw [if_neg c2] at H
  have c2b0 : (a0 == 0) = false := beq_eq_false_iff_ne.mpr c2
  have c2b1 : (a0 != 0) = true := bne_iff_ne.mpr c2
  have H' := aQ H
  clear H
  go_enter Try.func206, Try.ntmps206
  go_wp2
  go_loopg [0, 4] k (fun kq v0 v4 w' => ∃ (x0_1 : Int) (x4_1 : ByteArray), v0 = .int .i64 x0_1 ∧ v4 = .string x4_1 ∧ Aside0 (yA.l0 kq x0_1 (decide (a0 < 0)) x4_1 = some r) ∧ Aside0 (kq ≤ k) ∧ Aside0 (Below w.heap.size w w'))
  case atStart => exact ⟨(a0), ((⟨#[]⟩ : ByteArray)), rs_, rs_, H', ⟨Nat.le_refl _⟩, ⟨pB HB.out⟩⟩
  clear H'
  try clear c2
  try clear c2b0
  try clear c2b1
  try clear p2
  obtain ⟨x0_1, x4_1, rfl, rfl, HA, HK1, HB⟩ := hrel
  rcases gk with _ | k1
  ·exact absurd HA.out (by simp [yA.l0])
  have H := HA.out
  clear HA
  simp only [yA.l0] at H
  by_cases c3 : x0_1 = 0
  ·rw [if_pos c3] at H
   have c3b0 : (x0_1 == 0) = true := beq_iff_eq.mpr c3
   have c3b1 : (x0_1 != 0) = false := bne_eq_false_iff_eq.mpr c3
   clear c3
   by_cases c4 : (decide (a0 < 0)) = true
   ·rw [if_pos c4] at H
    have c4b0 : (decide (a0 < 0)) = true := c4
    (first | rw [c4b0] | skip)
    clear c4
    replace H := gd H; obtain ⟨c5, H⟩ := H
    have c5b0 := eq_true c5
    have c5b1 := decide_eq_true c5
    try have c5b2 : (9223372036854775807 < 1 + x4_1.size) = False := eq_false (Nat.not_lt.2 c5)
    obtain rfl := Option.some.inj H
    go_wp2
    go_ret
    exact ⟨re_, pB HB.out⟩
   ·rw [if_neg c4] at H
    have c4b0 : (decide (a0 < 0)) = false := by simpa using c4
    (first | rw [c4b0] | skip)
    clear c4
    obtain rfl := Option.some.inj H
    go_wp2
    go_ret
    exact ⟨re_, pB HB.out⟩
  ·rw [if_neg c3] at H
   have c3b0 : (x0_1 == 0) = false := beq_eq_false_iff_ne.mpr c3
   have c3b1 : (x0_1 != 0) = true := bne_iff_ne.mpr c3
   by_cases c6 : (Int.tmod x0_1 10) < 0
   ·rw [if_pos c6] at H
    have c6b0 := decide_eq_true c6
    clear c6
    obtain ⟨yq0, hyq0⟩ : ∃ y_ : List Int, y_ = (([(wrap64 (48 + (wrap64 (-(Int.tmod x0_1 10))))) % 256] : List Int)) := ⟨_, rfl⟩
    replace H : (if (strOfNums yq0).size + x4_1.size ≤ 9223372036854775807 then (yA.l0 k1 (wrap64 (Int.tdiv x0_1 10)) (decide (a0 < 0)) ((strOfNums yq0) ++ x4_1)) else (none)) = some r := by first | (rw [hyq0]; with_reducible exact H) | (rw [hyq0]; exact H)
    have Nyq0 := aQ hyq0
    clear hyq0
    replace H := gd H; obtain ⟨c7, H⟩ := H
    have c7b0 := eq_true c7
    have c7b1 := decide_eq_true c7
    try have c7b2 : (9223372036854775807 < (strOfNums yq0).size + x4_1.size) = False := eq_false (Nat.not_lt.2 c7)
    have H' := aQ H
    clear H
    go_wp2_with (first | ((with_reducible refine yb (N := 21) rfl ?_); refine Kd.R_lit (Kd.int .u8) _ 5 ?hg (N := 21) ?hd (xs := ([(wrap64 (48 + (wrap64 (-(Int.tmod x0_1 10))))) % 256] : List Int)) (inner := [.int .u8 ((wrap64 (48 + (wrap64 (-(Int.tmod x0_1 10))))) % 256)]) (ok := fun _ => True) (okp := fun _ => True) ?hr ?hp (fun _ hk => hk) trivial (Below.refl _ _) (Nat.le_refl _) (by simp) ?_; (case hd => rfl); (case hg => rfl); (case hr => first | (go_simp; done) | (go_simp; rfl)); (case hp => exact (Reps.one (show Kd.M (Kd.int .u8) _ _ _ ((wrap64 (48 + (wrap64 (-(Int.tmod x0_1 10))))) % 256) [.int .u8 ((wrap64 (48 + (wrap64 (-(Int.tmod x0_1 10))))) % 256)] from rfl) (Reps.none _ _))); intro vq2 w8 ho9 hb hg_ hnew_; clear hg_ hnew_; (first | rw [← Nyq0.out] at ho9 | (simp only [Int.reduceToNat] at ho9; rw [← Nyq0.out] at ho9)); have HOq3 := aQ (Kd.R_lower ho9 (yc (pB HB.out))); replace HB := bs HB hb; clear hb ho9; have hcv10 := ydd (P := Try.prog) Try.underlying40 Try.underlying5 Try.underlying9 (Kd.own_of_R HOq3.out)))
    go_roundg k1
    case measure => have := HK1.out; omega
    case rel => exact ⟨(wrap64 (Int.tdiv x0_1 10)), ((strOfNums yq0) ++ x4_1), rs_, rs_, H', ⟨by have := HK1.out; omega⟩, ⟨pB HB.out⟩⟩
   ·rw [if_neg c6] at H
    have c6b0 := decide_eq_false c6
    clear c6
    obtain ⟨yq1, hyq1⟩ : ∃ y_ : List Int, y_ = (([(wrap64 (48 + (Int.tmod x0_1 10))) % 256] : List Int)) := ⟨_, rfl⟩
    replace H : (if (strOfNums yq1).size + x4_1.size ≤ 9223372036854775807 then (yA.l0 k1 (wrap64 (Int.tdiv x0_1 10)) (decide (a0 < 0)) ((strOfNums yq1) ++ x4_1)) else (none)) = some r := by first | (rw [hyq1]; with_reducible exact H) | (rw [hyq1]; exact H)
    have Nyq1 := aQ hyq1
    clear hyq1
    replace H := gd H; obtain ⟨c11, H⟩ := H
    have c11b0 := eq_true c11
    have c11b1 := decide_eq_true c11
    try have c11b2 : (9223372036854775807 < (strOfNums yq1).size + x4_1.size) = False := eq_false (Nat.not_lt.2 c11)
    have H' := aQ H
    clear H
    go_wp2_with (first | ((with_reducible refine yb (N := 21) rfl ?_); refine Kd.R_lit (Kd.int .u8) _ 5 ?hg (N := 21) ?hd (xs := ([(wrap64 (48 + (Int.tmod x0_1 10))) % 256] : List Int)) (inner := [.int .u8 ((wrap64 (48 + (Int.tmod x0_1 10))) % 256)]) (ok := fun _ => True) (okp := fun _ => True) ?hr ?hp (fun _ hk => hk) trivial (Below.refl _ _) (Nat.le_refl _) (by simp) ?_; (case hd => rfl); (case hg => rfl); (case hr => first | (go_simp; done) | (go_simp; rfl)); (case hp => exact (Reps.one (show Kd.M (Kd.int .u8) _ _ _ ((wrap64 (48 + (Int.tmod x0_1 10))) % 256) [.int .u8 ((wrap64 (48 + (Int.tmod x0_1 10))) % 256)] from rfl) (Reps.none _ _))); intro vq4 w12 ho13 hb hg_ hnew_; clear hg_ hnew_; (first | rw [← Nyq1.out] at ho13 | (simp only [Int.reduceToNat] at ho13; rw [← Nyq1.out] at ho13)); have HOq5 := aQ (Kd.R_lower ho13 (yc (pB HB.out))); replace HB := bs HB hb; clear hb ho13; have hcv14 := ydd (P := Try.prog) Try.underlying40 Try.underlying5 Try.underlying9 (Kd.own_of_R HOq5.out)))
    go_roundg k1
    case measure => have := HK1.out; omega
    case rel => exact ⟨(wrap64 (Int.tdiv x0_1 10)), ((strOfNums yq1) ++ x4_1), rs_, rs_, H', ⟨by have := HK1.out; omega⟩, ⟨pB HB.out⟩⟩
mutual
def yu.j0 : Nat → ByteArray → Int → Bool → Option (Int × Bool)
 | 0, _, _, _ => none
 | k + 1, x0, x1, x6 => if x6 = true then (if 1 ≤ (x0.size : Int) then (yu.j1 k x0 x1 x6 (x0.extract 1 x0.size)) else (none)) else (yu.j1 k x0 x1 x6 x0)
def yu.j1 : Nat → ByteArray → Int → Bool → ByteArray → Option (Int × Bool)
 | 0, _, _, _, _ => none
 | k + 1, x0, x1, x6, x7 => if (x7.size : Int) < 1 then (yu.j2 k x0 x6 x7 true) else (yu.j2 k x0 x6 x7 (decide ((x7.size : Int) > x1)))
def yu.j2 : Nat → ByteArray → Bool → ByteArray → Bool → Option (Int × Bool)
 | 0, _, _, _, _ => none
 | k + 1, x0, x6, x7, x30 => if x30 = true then (some (0, false)) else (yu.l0 k x0 x6 x7 0 0)
def yu.l0 : Nat → ByteArray → Bool → ByteArray → Int → Int → Option (Int × Bool)
 | 0, _, _, _, _, _ => none
 | k + 1, x0, x6, x7, x8, x9 => if x9 < (x7.size : Int) then (if 0 ≤ x9 then (if (bt x7 x9) < 48 then (some (0, false)) else (if (bt x7 x9) > 57 then (some (0, false)) else (yu.l0 k x0 x6 x7 (wrap64 ((wrap64 (10 * x8)) + (((bt x7 x9) - 48) % 256))) (wrap64 (x9 + 1))))) else (none)) else (if x6 = true then ((yA.f k (wrap64 (-x8))).bind fun tq0 => (if tq0.toList = x0.toList then (some (wrap64 (-x8), true)) else (some (0, false)))) else ((yA.f k x8).bind fun tq1 => (if tq1.toList = x0.toList then (some (x8, true)) else (some (0, false)))))
end
def yu.f (k : Nat) (a0 : ByteArray) (a1 : Int) : Option (Int × Bool) := if (a0.size : Int) > 0 then (if 0 < (a0.size : Int) then (yu.j0 k a0 a1 ((bt a0 0) == 45)) else (none)) else (yu.j0 k a0 a1 false)
theorem yu.mono_l : ∀ k, (∀ y0 y1 y2, LeO (yu.j0 k y0 y1 y2) (yu.j0 (k + 1) y0 y1 y2)) ∧ (∀ y0 y1 y2 y3, LeO (yu.j1 k y0 y1 y2 y3) (yu.j1 (k + 1) y0 y1 y2 y3)) ∧ (∀ y0 y1 y2 y3, LeO (yu.j2 k y0 y1 y2 y3) (yu.j2 (k + 1) y0 y1 y2 y3)) ∧ (∀ y0 y1 y2 y3 y4, LeO (yu.l0 k y0 y1 y2 y3 y4) (yu.l0 (k + 1) y0 y1 y2 y3 y4))
 | 0 => ⟨fun _ _ _ r h => by simp [yu.j0] at h, fun _ _ _ _ r h => by simp [yu.j1] at h, fun _ _ _ _ r h => by simp [yu.j2] at h, fun _ _ _ _ _ r h => by simp [yu.l0] at h⟩
 | k + 1 => by
  obtain ⟨ih0, ih1, ih2, ih3⟩ := yu.mono_l k
  refine ⟨?_, ?_, ?_, ?_⟩
  ·intro y0 y1 y2
   unfold yu.j0
   repeat' first | (with_reducible first | exact ih0 _ _ _ | exact ih1 _ _ _ _ | exact ih2 _ _ _ _ | exact ih3 _ _ _ _ _ | exact yA.mono _ _ | exact LeO.refl _ | exact LeO.none _ | refine LeO.ite ?_ ?_ | refine LeO.bind ?_ (fun _ => ?_)) | exact ih0 _ _ _ | exact ih1 _ _ _ _ | exact ih2 _ _ _ _ | exact ih3 _ _ _ _ _ | exact LeO.none _ | refine LeO.ite ?_ ?_ | refine LeO.bind ?_ (fun _ => ?_)
  ·intro y0 y1 y2 y3
   unfold yu.j1
   repeat' first | (with_reducible first | exact ih0 _ _ _ | exact ih1 _ _ _ _ | exact ih2 _ _ _ _ | exact ih3 _ _ _ _ _ | exact yA.mono _ _ | exact LeO.refl _ | exact LeO.none _ | refine LeO.ite ?_ ?_ | refine LeO.bind ?_ (fun _ => ?_)) | exact ih0 _ _ _ | exact ih1 _ _ _ _ | exact ih2 _ _ _ _ | exact ih3 _ _ _ _ _ | exact LeO.none _ | refine LeO.ite ?_ ?_ | refine LeO.bind ?_ (fun _ => ?_)
  ·intro y0 y1 y2 y3
   unfold yu.j2
   repeat' first | (with_reducible first | exact ih0 _ _ _ | exact ih1 _ _ _ _ | exact ih2 _ _ _ _ | exact ih3 _ _ _ _ _ | exact yA.mono _ _ | exact LeO.refl _ | exact LeO.none _ | refine LeO.ite ?_ ?_ | refine LeO.bind ?_ (fun _ => ?_)) | exact ih0 _ _ _ | exact ih1 _ _ _ _ | exact ih2 _ _ _ _ | exact ih3 _ _ _ _ _ | exact LeO.none _ | refine LeO.ite ?_ ?_ | refine LeO.bind ?_ (fun _ => ?_)
  ·intro y0 y1 y2 y3 y4
   unfold yu.l0
   repeat' first | (with_reducible first | exact ih0 _ _ _ | exact ih1 _ _ _ _ | exact ih2 _ _ _ _ | exact ih3 _ _ _ _ _ | exact yA.mono _ _ | exact LeO.refl _ | exact LeO.none _ | refine LeO.ite ?_ ?_ | refine LeO.bind ?_ (fun _ => ?_)) | exact ih0 _ _ _ | exact ih1 _ _ _ _ | exact ih2 _ _ _ _ | exact ih3 _ _ _ _ _ | exact LeO.none _ | refine LeO.ite ?_ ?_ | refine LeO.bind ?_ (fun _ => ?_)
theorem yu.mono : ∀ a0 a1 k, LeO (yu.f k a0 a1) (yu.f (k + 1) a0 a1) := by
 intro a0 a1 k
 obtain ⟨ih0, ih1, ih2, ih3⟩ := yu.mono_l k
 unfold yu.f
 repeat' first | (with_reducible first | exact ih0 _ _ _ | exact ih1 _ _ _ _ | exact ih2 _ _ _ _ | exact ih3 _ _ _ _ _ | exact yA.mono _ _ | exact LeO.refl _ | exact LeO.none _ | refine LeO.ite ?_ ?_ | refine LeO.bind ?_ (fun _ => ?_)) | exact ih0 _ _ _ | exact ih1 _ _ _ _ | exact ih2 _ _ _ _ | exact ih3 _ _ _ _ _ | exact LeO.none _ | refine LeO.ite ?_ ?_ | refine LeO.bind ?_ (fun _ => ?_)
theorem yu.calls (k : Nat) (a0 : ByteArray) (a1 : Int) (r1 : Int) (r2 : Bool) (w : World) (h : yu.f k a0 a1 = some (r1, r2)) :
  Calls Try.prog 203 #[.string a0, .int .i64 a1] w fun e w' => e = .returned (.tuple #[.int .i64 r1, .bool r2]) ∧ Below w.heap.size w w' := by
 have HB := aQ (Below.refl w.heap.size w)
 have H := h
 clear h
 unfold yu.f at H
 (try dsimp only at H)
 have HC3 := aQ H
 clear H
 go_enter Try.func203, Try.ntmps203
 go_upto_region 1 with (fail)
 go_cut [6] (fun v6 wc => ∃ (kq : Nat) (x6_2 : Bool), v6 = .bool x6_2 ∧ Aside0 (yu.j0 kq a0 a1 x6_2 = some (r1, r2)) ∧ Aside0 (kq ≤ k) ∧ Aside0 (Below w.heap.size w wc))
 case first =>
  have H := HC3.out
  clear HC3
  by_cases c4 : (a0.size : Int) > 0
  ·rw [if_pos c4] at H
   have c4b0 := decide_eq_true c4
   have c4b1 : decide (0 < a0.size) = true := decide_eq_true (by omega)
   clear c4
   (first | rw [c4b0] | (simp only [i64_w, ybq]; rw [c4b0]) | skip)
   replace H := gd H; obtain ⟨c5, H⟩ := H
   have c5b0 := decide_eq_true c5
   have c5b1 : decide (0 < a0.size) = true := decide_eq_true (by omega)
   clear c5
   have H' := aQ H
   clear H
   have p6 : 0 ≤ (0 : Int) := (by omega)
   have q6 : 0 < a0.size := (by have : (0 : Int) < (a0.size : Int) := of_decide_eq_true as_; omega)
   have hx6 : ∀ h : 0 < a0.size, ((a0[0]'h).toNat : Int) = bt a0 0 := ycj a0 0
   clear p6
   have qi6 : (0 < (a0.size : Int)) = True := eq_true (of_decide_eq_true as_)
   replace q6 := eq_true q6
   go_wp2
   go_meet
   case rel => exact ⟨_, (((bt a0 0) == 45)), rs_, H', ⟨by first | omega | exact Nat.le_refl _⟩, ⟨pB HB.out⟩⟩
  ·rw [if_neg c4] at H
   have c4b0 := decide_eq_false c4
   have c4b1 : decide (0 < a0.size) = false := decide_eq_false (by omega)
   clear c4
   (first | rw [c4b0] | (simp only [i64_w, ybq]; rw [c4b0]) | skip)
   have H' := aQ H
   clear H
   go_wp2
   go_meet
   case rel => exact ⟨_, (false), rs_, H', ⟨by first | omega | exact Nat.le_refl _⟩, ⟨pB HB.out⟩⟩
 case rest =>
  clear HC3
  try clear c2
  try clear p2
  try clear c4
  try clear c4b0
  try clear c4b1
  try clear c5
  try clear c5b0
  try clear c5b1
  try clear p6
  try clear q6
  try clear hx6
  try clear qi6
  try clear p6
  try clear q6
  obtain ⟨kq, x6_2, rfl, HA, HJ2, HB⟩ := hcut
  cases kq with
  | zero => exact absurd HA.out (by simp [yu.j0])
  | succ kj2 =>
   have H := HA.out
   clear HA
   simp only [yu.j0] at H
   have HC7 := aQ H
   clear H
   go_upto_if 19 with (fail)
   go_cut [7] (fun v7 wc => ∃ (kq : Nat) (x7_6 : ByteArray), v7 = .string x7_6 ∧ Aside0 (yu.j1 kq a0 a1 x6_2 x7_6 = some (r1, r2)) ∧ Aside0 (kq ≤ kj2) ∧ Aside0 (Below w.heap.size w wc))
   case first =>
    have H := HC7.out
    clear HC7
    by_cases c8 : x6_2 = true
    ·subst c8
     rw [if_pos rfl] at H
     replace H := gd H; obtain ⟨c9, H⟩ := H
     have c9b0 := eq_true c9
     have c9b1 := decide_eq_true c9
     clear c9
     have H' := aQ H
     clear H
     go_wp2
     go_meet
     case rel => exact ⟨_, (a0.extract 1 a0.size), rs_, H', ⟨by have := HJ2.out; first | omega | exact Nat.le_refl _⟩, ⟨pB HB.out⟩⟩
    ·replace c8 := Bool.eq_false_iff.mpr c8
     subst c8
     have H1 : (yu.j1 kj2 a0 a1 false a0) = some (r1, r2) := by rw [if_neg (show ¬ (false = true) by decide)] at H; exact H
     clear H
     have H := H1
     clear H1
     have H' := aQ H
     clear H
     go_wp2
     go_meet
     case rel => exact ⟨_, (a0), rs_, H', ⟨by have := HJ2.out; first | omega | exact Nat.le_refl _⟩, ⟨pB HB.out⟩⟩
   case rest =>
    clear HC7
    try clear c2
    try clear p2
    try clear c4
    try clear c4b0
    try clear c4b1
    try clear c5
    try clear c5b0
    try clear c5b1
    try clear p6
    try clear q6
    try clear hx6
    try clear qi6
    try clear c8
    try clear c9
    try clear c9b0
    try clear c9b1
    try clear p2
    try clear p6
    try clear q6
    obtain ⟨kq, x7_6, rfl, HA, HJ6, HB⟩ := hcut
    cases kq with
    | zero => exact absurd HA.out (by simp [yu.j1])
    | succ kj6 =>
     have H := HA.out
     clear HA
     simp only [yu.j1] at H
     have HC10 := aQ H
     clear H
     go_upto_region 5 with (fail)
     go_cut [30] (fun v30 wc => ∃ (kq : Nat) (x30_9 : Bool), v30 = .bool x30_9 ∧ Aside0 (yu.j2 kq a0 x6_2 x7_6 x30_9 = some (r1, r2)) ∧ Aside0 (kq ≤ kj6) ∧ Aside0 (Below w.heap.size w wc))
     case first =>
      have H := HC10.out
      clear HC10
      by_cases c11 : (x7_6.size : Int) < 1
      ·rw [if_pos c11] at H
       have c11b0 := decide_eq_true c11
       have c11b1 : decide (x7_6.size < 1) = true := decide_eq_true (by omega)
       clear c11
       (first | rw [c11b0] | (simp only [i64_w, ybq]; rw [c11b0]) | skip)
       have H' := aQ H
       clear H
       go_wp2
       go_meet
       case rel => exact ⟨_, (true), rs_, H', ⟨by have := HJ2.out; have := HJ6.out; first | omega | exact Nat.le_refl _⟩, ⟨pB HB.out⟩⟩
      ·rw [if_neg c11] at H
       have c11b0 := decide_eq_false c11
       have c11b1 : decide (x7_6.size < 1) = false := decide_eq_false (by omega)
       clear c11
       (first | rw [c11b0] | (simp only [i64_w, ybq]; rw [c11b0]) | skip)
       have H' := aQ H
       clear H
       go_wp2
       go_meet
       case rel => exact ⟨_, (decide ((x7_6.size : Int) > a1)), rs_, H', ⟨by have := HJ2.out; have := HJ6.out; first | omega | exact Nat.le_refl _⟩, ⟨pB HB.out⟩⟩
     case rest =>
      clear HC10
      try clear c1
      try clear c2
      try clear p2
      try clear c4
      try clear c4b0
      try clear c4b1
      try clear c5
      try clear c5b0
      try clear c5b1
      try clear p6
      try clear q6
      try clear hx6
      try clear qi6
      try clear c8
      try clear c9
      try clear c9b0
      try clear c9b1
      try clear c11
      try clear c11b0
      try clear c11b1
      try clear p2
      try clear p6
      try clear q6
      obtain ⟨kq, x30_9, rfl, HA, HJ9, HB⟩ := hcut
      cases kq with
      | zero => exact absurd HA.out (by simp [yu.j2])
      | succ kj9 =>
       have H := HA.out
       clear HA
       simp only [yu.j2] at H
       by_cases c12 : x30_9 = true
       ·subst c12
        rw [if_pos rfl] at H
        simp only [Option.some.injEq, Prod.mk.injEq] at H
        obtain ⟨rfl, rfl⟩ := H
        go_wp2
        go_ret2
        exact ⟨re_, pB HB.out⟩
       ·replace c12 := Bool.eq_false_iff.mpr c12
        subst c12
        have H1 : (yu.l0 kj9 a0 x6_2 x7_6 0 0) = some (r1, r2) := by rw [if_neg (show ¬ (false = true) by decide)] at H; exact H
        clear H
        have H := H1
        clear H1
        have H' := aQ H
        clear H
        go_wp2
        go_loopg [8, 9] kj9 (fun kq v8 v9 w' => ∃ (x8_4 : Int) (x9_4 : Int), v8 = .int .i64 x8_4 ∧ v9 = .int .i64 x9_4 ∧ Aside0 (yu.l0 kq a0 x6_2 x7_6 x8_4 x9_4 = some (r1, r2)) ∧ Aside0 (kq ≤ kj9) ∧ Aside0 (Below w.heap.size w w'))
        case atStart => exact ⟨(0), (0), rs_, rs_, H', ⟨Nat.le_refl _⟩, ⟨pB HB.out⟩⟩
        clear H'
        try clear c1
        try clear c2
        try clear p2
        try clear c4
        try clear c4b0
        try clear c4b1
        try clear c5
        try clear c5b0
        try clear c5b1
        try clear p6
        try clear q6
        try clear hx6
        try clear qi6
        try clear c8
        try clear c9
        try clear c9b0
        try clear c9b1
        try clear c11
        try clear c11b0
        try clear c11b1
        try clear c12
        try clear p2
        try clear p6
        try clear q6
        obtain ⟨x8_4, x9_4, rfl, rfl, HA, HK4, HB⟩ := hrel
        rcases gk with _ | k4
        ·exact absurd HA.out (by simp [yu.l0])
        have H := HA.out
        clear HA
        simp only [yu.l0] at H
        by_cases c13 : x9_4 < (x7_6.size : Int)
        ·rw [if_pos c13] at H
         have c13b0 := decide_eq_true c13
         clear c13
         replace H := gd H; obtain ⟨c14, H⟩ := H
         have c14b0 := decide_eq_true c14
         clear c14
         by_cases c16 : (bt x7_6 x9_4) < 48
         ·rw [if_pos c16] at H
          have c16b0 := decide_eq_true c16
          clear c16
          simp only [Option.some.injEq, Prod.mk.injEq] at H
          obtain ⟨rfl, rfl⟩ := H
          have p15 : 0 ≤ (x9_4 : Int) := of_decide_eq_true as_
          have q15 : x9_4 < (x7_6.size : Int) := of_decide_eq_true as_
          have hx15 := ycj x7_6 x9_4
          replace p15 := eq_true p15
          replace q15 := eq_true q15
          go_wp2
          go_ret2
          exact ⟨re_, pB HB.out⟩
         ·rw [if_neg c16] at H
          have c16b0 := decide_eq_false c16
          clear c16
          by_cases c18 : (bt x7_6 x9_4) > 57
          ·rw [if_pos c18] at H
           have c18b0 := decide_eq_true c18
           clear c18
           simp only [Option.some.injEq, Prod.mk.injEq] at H
           obtain ⟨rfl, rfl⟩ := H
           have p15 : 0 ≤ (x9_4 : Int) := of_decide_eq_true as_
           have q15 : x9_4 < (x7_6.size : Int) := of_decide_eq_true as_
           have hx15 := ycj x7_6 x9_4
           replace p15 := eq_true p15
           replace q15 := eq_true q15
           have p17 : 0 ≤ (x9_4 : Int) := of_decide_eq_true as_
           have q17 : x9_4 < (x7_6.size : Int) := of_decide_eq_true as_
           have hx17 := ycj x7_6 x9_4
           replace p17 := eq_true p17
           replace q17 := eq_true q17
           go_wp2
           go_ret2
           exact ⟨re_, pB HB.out⟩
          ·rw [if_neg c18] at H
           have c18b0 := decide_eq_false c18
           clear c18
           have H' := aQ H
           clear H
           have p15 : 0 ≤ (x9_4 : Int) := of_decide_eq_true as_
           have q15 : x9_4 < (x7_6.size : Int) := of_decide_eq_true as_
           have hx15 := ycj x7_6 x9_4
           replace p15 := eq_true p15
           replace q15 := eq_true q15
           have p17 : 0 ≤ (x9_4 : Int) := of_decide_eq_true as_
           have q17 : x9_4 < (x7_6.size : Int) := of_decide_eq_true as_
           have hx17 := ycj x7_6 x9_4
           replace p17 := eq_true p17
           replace q17 := eq_true q17
           have p19 : 0 ≤ (x9_4 : Int) := of_decide_eq_true as_
           have q19 : x9_4 < (x7_6.size : Int) := of_decide_eq_true as_
           have hx19 := ycj x7_6 x9_4
           replace p19 := eq_true p19
           replace q19 := eq_true q19
           go_wp2
           go_roundg k4
           case measure => have := HJ2.out; have := HJ6.out; have := HJ9.out; have := HK4.out; omega
           case rel => exact ⟨(wrap64 ((wrap64 (10 * x8_4)) + (((bt x7_6 x9_4) - 48) % 256))), (wrap64 (x9_4 + 1)), rs_, rs_, H', ⟨by have := HJ2.out; have := HJ6.out; have := HJ9.out; have := HK4.out; omega⟩, ⟨pB HB.out⟩⟩
        ·rw [if_neg c13] at H
         have c13b0 := decide_eq_false c13
         clear c13
         by_cases c20 : x6_2 = true
         ·subst c20
          rw [if_pos rfl] at H
          replace H := bo H; obtain ⟨tq0, A21, H⟩ := H
          (try dsimp only at H)
          by_cases c22 : tq0.toList = a0.toList
          ·rw [if_pos c22] at H
           have c22b0 : (tq0.toList == a0.toList) = true := beq_iff_eq.mpr c22
           have c22b1 : (tq0.toList != a0.toList) = false := bne_eq_false_iff_eq.mpr c22
           clear c22
           simp only [Option.some.injEq, Prod.mk.injEq] at H
           obtain ⟨rfl, rfl⟩ := H
           go_wp2_with (first | (refine gq 206 (some 59) Try.func206 #[.int .i64 (wrap64 (-x8_4))] ?_; (with_reducible refine (yA.calls k4 (wrap64 (-x8_4)) tq0 _ A21.out).mono ?_); rintro e w23 ⟨rfl, hb⟩; refine ⟨_, rfl, ?_⟩; replace HB := bs HB hb; (try clear hb)))
           go_ret2
           exact ⟨re_, pB HB.out⟩
          ·rw [if_neg c22] at H
           have c22b0 : (tq0.toList == a0.toList) = false := beq_eq_false_iff_ne.mpr c22
           have c22b1 : (tq0.toList != a0.toList) = true := bne_iff_ne.mpr c22
           simp only [Option.some.injEq, Prod.mk.injEq] at H
           obtain ⟨rfl, rfl⟩ := H
           go_wp2_with (first | (refine gq 206 (some 59) Try.func206 #[.int .i64 (wrap64 (-x8_4))] ?_; (with_reducible refine (yA.calls k4 (wrap64 (-x8_4)) tq0 _ A21.out).mono ?_); rintro e w24 ⟨rfl, hb⟩; refine ⟨_, rfl, ?_⟩; replace HB := bs HB hb; (try clear hb)))
           go_ret2
           exact ⟨re_, pB HB.out⟩
         ·replace c20 := Bool.eq_false_iff.mpr c20
          subst c20
          have H1 : ((yA.f k4 x8_4).bind fun tq1 => (if tq1.toList = a0.toList then (some (x8_4, true)) else (some (0, false)))) = some (r1, r2) := by rw [if_neg (show ¬ (false = true) by decide)] at H; exact H
          clear H
          have H := H1
          clear H1
          replace H := bo H; obtain ⟨tq1, A25, H⟩ := H
          (try dsimp only at H)
          by_cases c26 : tq1.toList = a0.toList
          ·rw [if_pos c26] at H
           have c26b0 : (tq1.toList == a0.toList) = true := beq_iff_eq.mpr c26
           have c26b1 : (tq1.toList != a0.toList) = false := bne_eq_false_iff_eq.mpr c26
           clear c26
           simp only [Option.some.injEq, Prod.mk.injEq] at H
           obtain ⟨rfl, rfl⟩ := H
           go_wp2_with (first | (refine gq 206 (some 59) Try.func206 #[.int .i64 x8_4] ?_; (with_reducible refine (yA.calls k4 x8_4 tq1 _ A25.out).mono ?_); rintro e w27 ⟨rfl, hb⟩; refine ⟨_, rfl, ?_⟩; replace HB := bs HB hb; (try clear hb)))
           go_ret2
           exact ⟨re_, pB HB.out⟩
          ·rw [if_neg c26] at H
           have c26b0 : (tq1.toList == a0.toList) = false := beq_eq_false_iff_ne.mpr c26
           have c26b1 : (tq1.toList != a0.toList) = true := bne_iff_ne.mpr c26
           simp only [Option.some.injEq, Prod.mk.injEq] at H
           obtain ⟨rfl, rfl⟩ := H
           go_wp2_with (first | (refine gq 206 (some 59) Try.func206 #[.int .i64 x8_4] ?_; (with_reducible refine (yA.calls k4 x8_4 tq1 _ A25.out).mono ?_); rintro e w28 ⟨rfl, hb⟩; refine ⟨_, rfl, ?_⟩; replace HB := bs HB hb; (try clear hb)))
           go_ret2
           exact ⟨re_, pB HB.out⟩
def yaP.f (k : Nat) (a0 : ByteArray) : Option (Int × Bool) := (yu.f k a0 12).bind fun btq0 => (some (btq0.1, btq0.2))
theorem yaP.mono : ∀ a0 k, LeO (yaP.f k a0) (yaP.f (k + 1) a0) := by
 intro a0 k
 unfold yaP.f
 repeat' first | (with_reducible first | exact yu.mono _ _ _ | exact LeO.refl _ | exact LeO.none _ | refine LeO.ite ?_ ?_ | refine LeO.bind ?_ (fun _ => ?_)) | exact LeO.none _ | refine LeO.ite ?_ ?_ | refine LeO.bind ?_ (fun _ => ?_)
theorem yaP.calls (k : Nat) (a0 : ByteArray) (r1 : Int) (r2 : Bool) (w : World) (h : yaP.f k a0 = some (r1, r2)) :
  Calls Try.prog 197 #[.string a0] w fun e w' => e = .returned (.tuple #[.int .i64 r1, .bool r2]) ∧ Below w.heap.size w w' := by
 have HB := aQ (Below.refl w.heap.size w)
 have H := h
 clear h
 unfold yaP.f at H
 (try dsimp only at H)
 replace H := bo H; obtain ⟨⟨tq0, tq1⟩, A2, H⟩ := H
 (try dsimp only at H)
 simp only [Option.some.injEq, Prod.mk.injEq] at H
 obtain ⟨rfl, rfl⟩ := H
 go_enter Try.func197, Try.ntmps197
 go_wp2_with (first | (refine gq 203 (some 5) Try.func203 #[.string a0, .int .i64 12] ?_; (with_reducible refine (yu.calls k a0 12 tq0 tq1 _ A2.out).mono ?_); rintro e w3 ⟨rfl, hb⟩; refine ⟨_, rfl, ?_⟩; replace HB := bs HB hb; (try clear hb)))
 go_ret2
 exact ⟨re_, pB HB.out⟩
def ybB.f (a0 : Int) (a1 : Int) : Option (Int) := (yJ.f 8 a0).bind fun tq0 => (if tq0 = true then ((yaf.f a1 0 7).bind fun tq1 => (if tq1 = true then (if 0 ≤ (IntKind.u64.wrap (a1)) then (some (Go.bits .or .i64 a0 (shl .i64 1 (IntKind.u64.wrap (a1))))) else (none)) else (some a0))) else (some a0))
theorem ybB.calls (a0 : Int) (a1 : Int) (r : Int) (w : World) (h : ybB.f a0 a1 = some r) :
  Calls Try.prog 208 #[.int .i64 a0, .int .i64 a1] w fun e w' => e = .returned (.int .i64 r) ∧ Drawn0 w w' := by
 have H := h
 clear h
 unfold ybB.f at H
 (try dsimp only at H)
 replace H := bo H; obtain ⟨tq0, A3, H⟩ := H
 (try dsimp only at H)
 by_cases c4 : tq0 = true
 ·subst c4
  rw [if_pos rfl] at H
  replace H := bo H; obtain ⟨tq1, A5, H⟩ := H
  (try dsimp only at H)
  by_cases c6 : tq1 = true
  ·subst c6
   rw [if_pos rfl] at H
   obtain ⟨ji7, hji7⟩ : ∃ j_ : Int, (IntKind.u64.wrap (a1)) = j_ := ⟨_, rfl⟩
   replace H : (if 0 ≤ (ji7) then (some (Go.bits .or .i64 a0 (shl .i64 1 (ji7)))) else (none)) = some r := by first | (rw [hji7] at H; exact H) | (simp only [hji7] at H ⊢; exact H)
   (try rw [hji7] at A3)
   (try rw [hji7] at A5)
   replace H := gd H; obtain ⟨c8, H⟩ := H
   have c8b0 := eq_true c8
   have c8b1 := decide_eq_true c8
   clear c8
   obtain ⟨ji9, hji9⟩ : ∃ j_ : Int, (shl .i64 1 (ji7)) = j_ := ⟨_, rfl⟩
   replace H : (some (Go.bits .or .i64 a0 (ji9))) = some r := by first | (rw [hji9] at H; exact H) | (simp only [hji9] at H ⊢; exact H)
   (try rw [hji9] at A3)
   (try rw [hji9] at A5)
   have hji9_ : (IntKind.i64.wrap (1 * 2 ^ min (ji7).toNat 64)) = ji9 := hji9
   have hji9z : (ji7) ≤ 64 → (IntKind.i64.wrap (1 * 2 ^ (ji7).toNat)) = ji9 := ybA hji9
   have hji9u : (IntKind.i64.wrap (2 ^ min (ji7).toNat 64)) = ji9 := by have h_ := hji9_; rw [Int.one_mul] at h_; exact h_
   have hji9v : (ji7) ≤ 64 → (IntKind.i64.wrap (2 ^ (ji7).toNat)) = ji9 := fun hle_ => by have h_ := hji9z hle_; rw [Int.one_mul] at h_; exact h_
   have hji9y : (wrap64 (1 * 2 ^ min (ji7).toNat 64)) = ji9 := (i64_w _).symm.trans hji9_
   have hji9x : (ji7) ≤ 64 → (wrap64 (1 * 2 ^ (ji7).toNat)) = ji9 := fun h_ => (i64_w _).symm.trans (hji9z h_)
   obtain rfl := Option.some.inj H
   go_enter Try.func208, Try.ntmps208
   go_wp2_with (first | (refine gq 55 (some 6) Try.func55 #[.int .i64 8, .int .i64 a0] ?_; (with_reducible refine (yJ.calls 8 a0 true _ A3.out).mono ?_); rintro e w' ⟨rfl, ⟨nd, rfl⟩⟩; refine ⟨_, rfl, ?_⟩) | (go_at_call 98; (with_reducible refine (yaf.calls a1 0 7 true _ A5.out).mono ?_); rintro e w' ⟨rfl, ⟨nd, rfl⟩⟩))
   go_ret
   exact ⟨by first | rfl | (simp; done) | (simp only [← hji7, ← hji9] <;> (first | rfl | simp)) | (simp [*]; done), rd_⟩
  ·replace c6 := Bool.eq_false_iff.mpr c6
   subst c6
   have H1 : (some a0) = some r := by rw [if_neg (show ¬ (false = true) by decide)] at H; exact H
   clear H
   have H := H1
   clear H1
   obtain rfl := Option.some.inj H
   go_enter Try.func208, Try.ntmps208
   go_wp2_with (first | (refine gq 55 (some 6) Try.func55 #[.int .i64 8, .int .i64 a0] ?_; (with_reducible refine (yJ.calls 8 a0 true _ A3.out).mono ?_); rintro e w' ⟨rfl, ⟨nd, rfl⟩⟩; refine ⟨_, rfl, ?_⟩) | (go_at_call 98; (with_reducible refine (yaf.calls a1 0 7 false _ A5.out).mono ?_); rintro e w' ⟨rfl, ⟨nd, rfl⟩⟩))
   go_ret
   exact ⟨rs_, rd_⟩
 ·replace c4 := Bool.eq_false_iff.mpr c4
  subst c4
  have H1 : (some a0) = some r := by rw [if_neg (show ¬ (false = true) by decide)] at H; exact H
  clear H
  have H := H1
  clear H1
  obtain rfl := Option.some.inj H
  go_enter Try.func208, Try.ntmps208
  go_wp2_with (first | (refine gq 55 (some 6) Try.func55 #[.int .i64 8, .int .i64 a0] ?_; (with_reducible refine (yJ.calls 8 a0 false _ A3.out).mono ?_); rintro e w' ⟨rfl, ⟨nd, rfl⟩⟩; refine ⟨_, rfl, ?_⟩))
  go_ret
  exact ⟨rs_, rd_⟩
def yW.l0 : Nat → ByteArray → List Int → Int → Option (ByteArray)
 | 0, _, _, _ => none
 | k + 1, x3, x4, x5 => if x5 < (x4.length : Int) then (if 0 ≤ x5 then (if 0 ≤ (rd x4 x5) then (if (rd x4 x5) ≤ (wrap64 ((rd x4 x5) + 1)) then (if (wrap64 ((rd x4 x5) + 1)) ≤ 8 then (if x3.size + ((⟨#[97, 98, 99, 100, 101, 102, 103, 104]⟩ : ByteArray).extract ((rd x4 x5) : Int).toNat ((wrap64 ((rd x4 x5) + 1)) : Int).toNat).size ≤ 9223372036854775807 then (yW.l0 k (x3 ++ ((⟨#[97, 98, 99, 100, 101, 102, 103, 104]⟩ : ByteArray).extract ((rd x4 x5) : Int).toNat ((wrap64 ((rd x4 x5) + 1)) : Int).toNat)) x4 (wrap64 (x5 + 1))) else (none)) else (none)) else (none)) else (none)) else (none)) else (some x3)
def yW.f (k : Nat) (a0 : Int) : Option (ByteArray) := (yJ.f 8 a0).bind fun tq0 => (if tq0 = true then (if a0 = 0 then (some (⟨#[45]⟩ : ByteArray)) else ((yt.f k a0).bind fun tq1 => (yW.l0 k (⟨#[]⟩ : ByteArray) tq1 0))) else (some (⟨#[]⟩ : ByteArray)))
theorem yW.mono_l : ∀ k, (∀ y0 y1 y2, LeO (yW.l0 k y0 y1 y2) (yW.l0 (k + 1) y0 y1 y2))
 | 0 => fun _ _ _ r h => by simp [yW.l0] at h
 | k + 1 => by
  have ih0 := yW.mono_l k
  ·intro y0 y1 y2
   unfold yW.l0
   repeat' first | (with_reducible first | exact ih0 _ _ _ | exact yt.mono _ _ | exact LeO.refl _ | exact LeO.none _ | refine LeO.ite ?_ ?_ | refine LeO.bind ?_ (fun _ => ?_)) | exact ih0 _ _ _ | exact LeO.none _ | refine LeO.ite ?_ ?_ | refine LeO.bind ?_ (fun _ => ?_)
theorem yW.mono : ∀ a0 k, LeO (yW.f k a0) (yW.f (k + 1) a0) := by
 intro a0 k
 have ih0 := yW.mono_l k
 unfold yW.f
 repeat' first | (with_reducible first | exact ih0 _ _ _ | exact yt.mono _ _ | exact LeO.refl _ | exact LeO.none _ | refine LeO.ite ?_ ?_ | refine LeO.bind ?_ (fun _ => ?_)) | exact ih0 _ _ _ | exact LeO.none _ | refine LeO.ite ?_ ?_ | refine LeO.bind ?_ (fun _ => ?_)
theorem yW.calls (k : Nat) (a0 : Int) (r : ByteArray) (w : World) (h : yW.f k a0 = some r) :
  Calls Try.prog 209 #[.int .i64 a0] w fun e w' => e = .returned (.string r) ∧ Below w.heap.size w w' := by
 have HB := aQ (Below.refl w.heap.size w)
 have H := h
 clear h
 unfold yW.f at H
 (try dsimp only at H)
 replace H := bo H; obtain ⟨tq0, A2, H⟩ := H
 (try dsimp only at H)
 by_cases c3 : tq0 = true
 ·subst c3
  rw [if_pos rfl] at H
  by_cases c4 : a0 = 0
  ·rw [if_pos c4] at H
   have c4b0 : (a0 == 0) = true := beq_iff_eq.mpr c4
   have c4b1 : (a0 != 0) = false := bne_eq_false_iff_eq.mpr c4
   clear c4
   obtain rfl := Option.some.inj H
   go_enter Try.func209, Try.ntmps209
   go_wp2_with (first | (go_at_call 55; (with_reducible refine (yJ.calls 8 a0 true _ A2.out).mono ?_); rintro e w' ⟨rfl, ⟨nd, rfl⟩⟩; (try exact dq_)))
   repeat (go_quiet (first | (go_at_call 55; (with_reducible refine (yJ.calls 8 a0 true _ A2.out).mono ?_); rintro e w' ⟨rfl, ⟨nd, rfl⟩⟩; (try exact dq_))); try go_wp2_with (first | (go_at_call 55; (with_reducible refine (yJ.calls 8 a0 true _ A2.out).mono ?_); rintro e w' ⟨rfl, ⟨nd, rfl⟩⟩; (try exact dq_))))
   go_ret
   exact ⟨re_, pB HB.out⟩
  ·rw [if_neg c4] at H
   have c4b0 : (a0 == 0) = false := beq_eq_false_iff_ne.mpr c4
   have c4b1 : (a0 != 0) = true := bne_iff_ne.mpr c4
   replace H := bo H; obtain ⟨tq1, A5, H⟩ := H
   (try dsimp only at H)
   have H' := aQ H
   clear H
   go_enter Try.func209, Try.ntmps209
   go_wp2_with (first | (go_at_call 55; (with_reducible refine (yJ.calls 8 a0 true _ A2.out).mono ?_); rintro e w' ⟨rfl, ⟨nd, rfl⟩⟩; (try exact dq_)) | (go_at_call 53; (with_reducible refine (yt.calls k a0 tq1 _ A5.out).mono ?_); rintro e w6 ⟨vq2, rfl, ho0, hb⟩; have HOq3 := aQ (Kd.R_lower ho0 (yc (pB HB.out))); replace HB := bs HB hb; (try clear hb); (try clear ho0)))
   repeat (go_quiet (first | (go_at_call 55; (with_reducible refine (yJ.calls 8 a0 true _ A2.out).mono ?_); rintro e w' ⟨rfl, ⟨nd, rfl⟩⟩; (try exact dq_)) | (go_at_call 53; (with_reducible refine (yt.calls k a0 tq1 _ A5.out).mono ?_); rintro e w6 ⟨vq2, rfl, ho0, hb⟩; have HOq3 := aQ (Kd.R_lower ho0 (yc (pB HB.out))); replace HB := bs HB hb; (try clear hb); (try clear ho0))); try go_wp2_with (first | (go_at_call 55; (with_reducible refine (yJ.calls 8 a0 true _ A2.out).mono ?_); rintro e w' ⟨rfl, ⟨nd, rfl⟩⟩; (try exact dq_)) | (go_at_call 53; (with_reducible refine (yt.calls k a0 tq1 _ A5.out).mono ?_); rintro e w6 ⟨vq2, rfl, ho0, hb⟩; have HOq3 := aQ (Kd.R_lower ho0 (yc (pB HB.out))); replace HB := bs HB hb; (try clear hb); (try clear ho0))))
   go_loopg [3, 5] k (fun kq v3 v5 w' => ∃ (x3_1 : ByteArray) (x5_1 : Int), v3 = .string x3_1 ∧ v5 = .int .i64 x5_1 ∧ Aside0 (yW.l0 kq x3_1 tq1 x5_1 = some r) ∧ Aside0 (kq ≤ k) ∧ Aside0 (Kd.R (Kd.int .i64) 3 w' w.heap.size (fun _ => True) vq2 tq1) ∧ Aside0 (Below w.heap.size w w'))
   case atStart => exact ⟨((⟨#[]⟩ : ByteArray)), (0), rs_, rs_, H', ⟨Nat.le_refl _⟩, ⟨pR HOq3.out⟩, ⟨pB HB.out⟩⟩
   clear H'
   try clear c2
   try clear p2
   try clear c3
   try clear c4
   try clear c4b0
   try clear c4b1
   obtain ⟨x3_1, x5_1, rfl, rfl, HA, HK1, HO_4, HB⟩ := hrel
   rcases gk with _ | k1
   ·exact absurd HA.out (by simp [yW.l0])
   have H := HA.out
   clear HA
   simp only [yW.l0] at H
   by_cases c7 : x5_1 < (tq1.length : Int)
   ·rw [if_pos c7] at H
    have c7b0 := decide_eq_true c7
    clear c7
    replace H := gd H; obtain ⟨c8, H⟩ := H
    have c8b0 := decide_eq_true c8
    clear c8
    replace H := gd H; obtain ⟨c9, H⟩ := H
    have c9b0 := eq_true c9
    have c9b1 := decide_eq_true c9
    clear c9
    replace H := gd H; obtain ⟨c10, H⟩ := H
    have c10b0 := eq_true c10
    have c10b1 := decide_eq_true c10
    replace H := gd H; obtain ⟨c11, H⟩ := H
    have c11b0 := eq_true c11
    have c11b1 := decide_eq_true c11
    replace H := gd H; obtain ⟨c12, H⟩ := H
    have c12b0 := eq_true c12
    have c12b1 := decide_eq_true c12
    try have c12b2 : (9223372036854775807 < x3_1.size + ((⟨#[97, 98, 99, 100, 101, 102, 103, 104]⟩ : ByteArray).extract ((rd tq1 x5_1) : Int).toNat ((wrap64 ((rd tq1 x5_1) + 1)) : Int).toNat).size) = False := eq_false (Nat.not_lt.2 c12)
    have H' := aQ H
    clear H
    obtain ⟨Ao13, co13, eo13⟩ := Kd.R_slice HO_4.out
    subst eo13
    have pq4 : 0 ≤ (x5_1 : Int) := of_decide_eq_true as_
    have qq4 : x5_1 < (tq1.length : Int) := of_decide_eq_true as_
    obtain ⟨adq4, eq4, hxq4_0⟩ := Kd.at_int (Kd.R_reads' HO_4.out).2.2 x5_1 pq4 qq4
    cases eq4
    replace pq4 := eq_true pq4
    replace qq4 := eq_true qq4
    have pq5 : 0 ≤ (x5_1 : Int) := of_decide_eq_true as_
    have qq5 : x5_1 < (tq1.length : Int) := of_decide_eq_true as_
    obtain ⟨adq5, eq5, hxq5_0⟩ := Kd.at_int (Kd.R_reads' HO_4.out).2.2 x5_1 pq5 qq5
    obtain rfl : adq4 = adq5 := (by injection eq5)
    replace pq5 := eq_true pq5
    replace qq5 := eq_true qq5
    go_wp2
    repeat (go_quiet (fail); try go_wp2)
    go_roundg k1
    case measure => have := HK1.out; omega
    case rel => exact ⟨(x3_1 ++ ((⟨#[97, 98, 99, 100, 101, 102, 103, 104]⟩ : ByteArray).extract ((rd tq1 x5_1) : Int).toNat ((wrap64 ((rd tq1 x5_1) + 1)) : Int).toNat)), (wrap64 (x5_1 + 1)), rs_, rs_, H', ⟨by have := HK1.out; omega⟩, ⟨pR HO_4.out⟩, ⟨pB HB.out⟩⟩
   ·rw [if_neg c7] at H
    have c7b0 := decide_eq_false c7
    clear c7
    obtain rfl := Option.some.inj H
    obtain ⟨Ao14, co14, eo14⟩ := Kd.R_slice HO_4.out
    subst eo14
    go_wp2
    repeat (go_quiet (fail); try go_wp2)
    go_ret
    exact ⟨re_, pB HB.out⟩
 ·replace c3 := Bool.eq_false_iff.mpr c3
  subst c3
  have H1 : (some (⟨#[]⟩ : ByteArray)) = some r := by rw [if_neg (show ¬ (false = true) by decide)] at H; exact H
  clear H
  have H := H1
  clear H1
  obtain rfl := Option.some.inj H
  go_enter Try.func209, Try.ntmps209
  go_wp2_with (first | (go_at_call 55; (with_reducible refine (yJ.calls 8 a0 false _ A2.out).mono ?_); rintro e w' ⟨rfl, ⟨nd, rfl⟩⟩; (try exact dq_)))
  repeat (go_quiet (first | (go_at_call 55; (with_reducible refine (yJ.calls 8 a0 false _ A2.out).mono ?_); rintro e w' ⟨rfl, ⟨nd, rfl⟩⟩; (try exact dq_))); try go_wp2_with (first | (go_at_call 55; (with_reducible refine (yJ.calls 8 a0 false _ A2.out).mono ?_); rintro e w' ⟨rfl, ⟨nd, rfl⟩⟩; (try exact dq_))))
  go_ret
  exact ⟨re_, pB HB.out⟩
mutual
def yH.l0 : Nat → ByteArray → Int → Int → Option (Int × Bool)
 | 0, _, _, _ => none
 | k + 1, x0, x4, x5 => if x5 < (x0.size : Int) then (yH.j1 k x0 x4 x5 (x0.toList != ([45] : List UInt8))) else (yH.j1 k x0 x4 x5 false)
def yH.j1 : Nat → ByteArray → Int → Int → Bool → Option (Int × Bool)
 | 0, _, _, _, _ => none
 | k + 1, x0, x4, x5, x13 => if x13 = true then (if 0 ≤ x5 then (if x5 < (x0.size : Int) then (if (bt x0 x5) < 97 then (some (0, false)) else (if (bt x0 x5) > 104 then (some (0, false)) else ((ybB.f x4 (((bt x0 x5) - 97) % 256)).bind fun tq0 => (yH.l0 k x0 tq0 (wrap64 (x5 + 1)))))) else (none)) else (none)) else ((yW.f k x4).bind fun tq1 => (if tq1.toList = x0.toList then (some (x4, true)) else (some (0, false))))
end
def yH.f (k : Nat) (a0 : ByteArray) : Option (Int × Bool) := yH.l0 k a0 0 0
theorem yH.mono_l : ∀ k, (∀ y0 y1 y2, LeO (yH.l0 k y0 y1 y2) (yH.l0 (k + 1) y0 y1 y2)) ∧ (∀ y0 y1 y2 y3, LeO (yH.j1 k y0 y1 y2 y3) (yH.j1 (k + 1) y0 y1 y2 y3))
 | 0 => ⟨fun _ _ _ r h => by simp [yH.l0] at h, fun _ _ _ _ r h => by simp [yH.j1] at h⟩
 | k + 1 => by
  obtain ⟨ih0, ih1⟩ := yH.mono_l k
  refine ⟨?_, ?_⟩
  ·intro y0 y1 y2
   unfold yH.l0
   repeat' first | (with_reducible first | exact ih0 _ _ _ | exact ih1 _ _ _ _ | exact yW.mono _ _ | exact LeO.refl _ | exact LeO.none _ | refine LeO.ite ?_ ?_ | refine LeO.bind ?_ (fun _ => ?_)) | exact ih0 _ _ _ | exact ih1 _ _ _ _ | exact LeO.none _ | refine LeO.ite ?_ ?_ | refine LeO.bind ?_ (fun _ => ?_)
  ·intro y0 y1 y2 y3
   unfold yH.j1
   repeat' first | (with_reducible first | exact ih0 _ _ _ | exact ih1 _ _ _ _ | exact yW.mono _ _ | exact LeO.refl _ | exact LeO.none _ | refine LeO.ite ?_ ?_ | refine LeO.bind ?_ (fun _ => ?_)) | exact ih0 _ _ _ | exact ih1 _ _ _ _ | exact LeO.none _ | refine LeO.ite ?_ ?_ | refine LeO.bind ?_ (fun _ => ?_)
theorem yH.mono : ∀ a0 k, LeO (yH.f k a0) (yH.f (k + 1) a0) := by
 intro a0 k
 obtain ⟨ih0, ih1⟩ := yH.mono_l k
 unfold yH.f
 repeat' first | (with_reducible first | exact ih0 _ _ _ | exact ih1 _ _ _ _ | exact yW.mono _ _ | exact LeO.refl _ | exact LeO.none _ | refine LeO.ite ?_ ?_ | refine LeO.bind ?_ (fun _ => ?_)) | exact ih0 _ _ _ | exact ih1 _ _ _ _ | exact LeO.none _ | refine LeO.ite ?_ ?_ | refine LeO.bind ?_ (fun _ => ?_)
theorem yH.calls (k : Nat) (a0 : ByteArray) (r1 : Int) (r2 : Bool) (w : World) (h : yH.f k a0 = some (r1, r2)) :
  Calls Try.prog 204 #[.string a0] w fun e w' => e = .returned (.tuple #[.int .i64 r1, .bool r2]) ∧ Below w.heap.size w w' := by
 have HB := aQ (Below.refl w.heap.size w)
 have H : (yH.l0 k a0 0 0) = some (r1, r2) := h
 clear h
 have H' := aQ H
 clear H
 go_enter Try.func204, Try.ntmps204
 go_wp2
 go_loopg [4, 5] k (fun kq v4 v5 w' => ∃ (x4_1 : Int) (x5_1 : Int), v4 = .int .i64 x4_1 ∧ v5 = .int .i64 x5_1 ∧ Aside0 (yH.l0 kq a0 x4_1 x5_1 = some (r1, r2)) ∧ Aside0 (kq ≤ k) ∧ Aside0 (Below w.heap.size w w'))
 case atStart => exact ⟨(0), (0), rs_, rs_, H', ⟨Nat.le_refl _⟩, ⟨pB HB.out⟩⟩
 clear H'
 obtain ⟨x4_1, x5_1, rfl, rfl, HA, HK1, HB⟩ := hrel
 rcases gk with _ | k1
 ·exact absurd HA.out (by simp [yH.l0])
 have H := HA.out
 clear HA
 simp only [yH.l0] at H
 have HC2 := aQ H
 clear H
 go_upto_region 3 with (fail)
 go_cut [13] (fun v13 wc => ∃ (kq : Nat) (x13_1 : Bool), v13 = .bool x13_1 ∧ Aside0 (yH.j1 kq a0 x4_1 x5_1 x13_1 = some (r1, r2)) ∧ Aside0 (kq ≤ k1) ∧ Aside0 (Below w.heap.size w wc))
 case first =>
  have H := HC2.out
  clear HC2
  by_cases c3 : x5_1 < (a0.size : Int)
  ·rw [if_pos c3] at H
   have c3b0 := decide_eq_true c3
   clear c3
   (first | rw [c3b0] | (simp only [i64_w, ybq]; rw [c3b0]) | skip)
   have H' := aQ H
   clear H
   go_wp2
   go_meet
   case rel => exact ⟨_, ((a0.toList != ([45] : List UInt8))), rs_, H', ⟨by have := HK1.out; first | omega | exact Nat.le_refl _⟩, ⟨pB HB.out⟩⟩
  ·rw [if_neg c3] at H
   have c3b0 := decide_eq_false c3
   clear c3
   (first | rw [c3b0] | (simp only [i64_w, ybq]; rw [c3b0]) | skip)
   have H' := aQ H
   clear H
   go_wp2
   go_meet
   case rel => exact ⟨_, (false), rs_, H', ⟨by have := HK1.out; first | omega | exact Nat.le_refl _⟩, ⟨pB HB.out⟩⟩
 case rest =>
  clear HC2
  try clear c2
  try clear p2
  try clear c3
  try clear c3b0
  obtain ⟨kq, x13_1, rfl, HA, HJ1, HB⟩ := hcut
  cases kq with
  | zero => exact absurd HA.out (by simp [yH.j1])
  | succ kj1 =>
   have H := HA.out
   clear HA
   simp only [yH.j1] at H
   by_cases c4 : x13_1 = true
   ·subst c4
    rw [if_pos rfl] at H
    replace H := gd H; obtain ⟨c5, H⟩ := H
    have c5b0 := decide_eq_true c5
    clear c5
    replace H := gd H; obtain ⟨c6, H⟩ := H
    have c6b0 := decide_eq_true c6
    clear c6
    by_cases c8 : (bt a0 x5_1) < 97
    ·rw [if_pos c8] at H
     have c8b0 := decide_eq_true c8
     clear c8
     simp only [Option.some.injEq, Prod.mk.injEq] at H
     obtain ⟨rfl, rfl⟩ := H
     have p7 : 0 ≤ (x5_1 : Int) := of_decide_eq_true as_
     have q7 : x5_1 < (a0.size : Int) := of_decide_eq_true as_
     have hx7 := ycj a0 x5_1
     replace p7 := eq_true p7
     replace q7 := eq_true q7
     go_wp2
     go_ret2
     exact ⟨re_, pB HB.out⟩
    ·rw [if_neg c8] at H
     have c8b0 := decide_eq_false c8
     clear c8
     by_cases c10 : (bt a0 x5_1) > 104
     ·rw [if_pos c10] at H
      have c10b0 := decide_eq_true c10
      clear c10
      simp only [Option.some.injEq, Prod.mk.injEq] at H
      obtain ⟨rfl, rfl⟩ := H
      have p7 : 0 ≤ (x5_1 : Int) := of_decide_eq_true as_
      have q7 : x5_1 < (a0.size : Int) := of_decide_eq_true as_
      have hx7 := ycj a0 x5_1
      replace p7 := eq_true p7
      replace q7 := eq_true q7
      have p9 : 0 ≤ (x5_1 : Int) := of_decide_eq_true as_
      have q9 : x5_1 < (a0.size : Int) := of_decide_eq_true as_
      have hx9 := ycj a0 x5_1
      replace p9 := eq_true p9
      replace q9 := eq_true q9
      go_wp2
      go_ret2
      exact ⟨re_, pB HB.out⟩
     ·rw [if_neg c10] at H
      have c10b0 := decide_eq_false c10
      clear c10
      replace H := bo H; obtain ⟨tq0, A12, H⟩ := H
      (try dsimp only at H)
      have H' := aQ H
      clear H
      have p7 : 0 ≤ (x5_1 : Int) := of_decide_eq_true as_
      have q7 : x5_1 < (a0.size : Int) := of_decide_eq_true as_
      have hx7 := ycj a0 x5_1
      replace p7 := eq_true p7
      replace q7 := eq_true q7
      have p9 : 0 ≤ (x5_1 : Int) := of_decide_eq_true as_
      have q9 : x5_1 < (a0.size : Int) := of_decide_eq_true as_
      have hx9 := ycj a0 x5_1
      replace p9 := eq_true p9
      replace q9 := eq_true q9
      have p11 : 0 ≤ (x5_1 : Int) := of_decide_eq_true as_
      have q11 : x5_1 < (a0.size : Int) := of_decide_eq_true as_
      have hx11 := ycj a0 x5_1
      replace p11 := eq_true p11
      replace q11 := eq_true q11
      go_wp2_with (first | (refine gq 208 (some 32) Try.func208 #[.int .i64 x4_1, .int .i64 (((bt a0 x5_1) - 97) % 256)] ?_; (with_reducible refine (ybB.calls x4_1 (((bt a0 x5_1) - 97) % 256) tq0 _ A12.out).mono ?_); rintro e w' ⟨rfl, ⟨nd, rfl⟩⟩; refine ⟨_, rfl, ?_⟩))
      go_roundg kj1
      case measure => have := HK1.out; have := HJ1.out; omega
      case rel => exact ⟨(tq0), (wrap64 (x5_1 + 1)), rs_, rs_, H', ⟨by have := HK1.out; have := HJ1.out; omega⟩, ⟨pB HB.out⟩⟩
   ·replace c4 := Bool.eq_false_iff.mpr c4
    subst c4
    have H1 : ((yW.f kj1 x4_1).bind fun tq1 => (if tq1.toList = a0.toList then (some (x4_1, true)) else (some (0, false)))) = some (r1, r2) := by rw [if_neg (show ¬ (false = true) by decide)] at H; exact H
    clear H
    have H := H1
    clear H1
    replace H := bo H; obtain ⟨tq1, A13, H⟩ := H
    (try dsimp only at H)
    by_cases c14 : tq1.toList = a0.toList
    ·rw [if_pos c14] at H
     have c14b0 : (tq1.toList == a0.toList) = true := beq_iff_eq.mpr c14
     have c14b1 : (tq1.toList != a0.toList) = false := bne_eq_false_iff_eq.mpr c14
     clear c14
     simp only [Option.some.injEq, Prod.mk.injEq] at H
     obtain ⟨rfl, rfl⟩ := H
     go_wp2_with (first | (refine gq 209 (some 34) Try.func209 #[.int .i64 x4_1] ?_; (with_reducible refine (yW.calls kj1 x4_1 tq1 _ A13.out).mono ?_); rintro e w15 ⟨rfl, hb⟩; refine ⟨_, rfl, ?_⟩; replace HB := bs HB hb; (try clear hb)))
     go_ret2
     exact ⟨re_, pB HB.out⟩
    ·rw [if_neg c14] at H
     have c14b0 : (tq1.toList == a0.toList) = false := beq_eq_false_iff_ne.mpr c14
     have c14b1 : (tq1.toList != a0.toList) = true := bne_iff_ne.mpr c14
     simp only [Option.some.injEq, Prod.mk.injEq] at H
     obtain ⟨rfl, rfl⟩ := H
     go_wp2_with (first | (refine gq 209 (some 34) Try.func209 #[.int .i64 x4_1] ?_; (with_reducible refine (yW.calls kj1 x4_1 tq1 _ A13.out).mono ?_); rintro e w16 ⟨rfl, hb⟩; refine ⟨_, rfl, ?_⟩; replace HB := bs HB hb; (try clear hb)))
     go_ret2
     exact ⟨re_, pB HB.out⟩
def yar.l0 : Nat → List ByteArray → ByteArray → List Int → Int → Option (ByteArray)
 | 0, _, _, _, _ => none
 | k + 1, x0, x1, x5, x6 => if x6 < (x0.length : Int) then (if x6 > 0 then (if x5.length + x1.size < 140737488355328 then ((some (x5 ++ bytesOf x1 : List Int)).bind fun yq0 => (if 0 ≤ x6 then (if yq0.length + (rdOf ByteArray.empty x0 x6).size < 140737488355328 then (yar.l0 k x0 x1 (yq0 ++ bytesOf (rdOf ByteArray.empty x0 x6)) (wrap64 (x6 + 1))) else (none)) else (none))) else (none)) else (if 0 ≤ x6 then (if x5.length + (rdOf ByteArray.empty x0 x6).size < 140737488355328 then (yar.l0 k x0 x1 (x5 ++ bytesOf (rdOf ByteArray.empty x0 x6)) (wrap64 (x6 + 1))) else (none)) else (none))) else (some (strOfNums x5))
def yar.f (k : Nat) (l0 : List ByteArray) (a1 : ByteArray) : Option (ByteArray) := yar.l0 k l0 a1 (([] : List Int)) 0
theorem yar.mono_l : ∀ k, (∀ y0 y1 y2 y3, LeO (yar.l0 k y0 y1 y2 y3) (yar.l0 (k + 1) y0 y1 y2 y3))
 | 0 => fun _ _ _ _ r h => by simp [yar.l0] at h
 | k + 1 => by
  have ih0 := yar.mono_l k
  ·intro y0 y1 y2 y3
   unfold yar.l0
   repeat' first | (with_reducible first | exact ih0 _ _ _ _ | exact LeO.refl _ | exact LeO.none _ | refine LeO.ite ?_ ?_ | refine LeO.bind ?_ (fun _ => ?_)) | exact ih0 _ _ _ _ | exact LeO.none _ | refine LeO.ite ?_ ?_ | refine LeO.bind ?_ (fun _ => ?_)
theorem yar.mono : ∀ a0 a1 k, LeO (yar.f k a0 a1) (yar.f (k + 1) a0 a1) := by
 intro a0 a1 k
 have ih0 := yar.mono_l k
 unfold yar.f
 repeat' first | (with_reducible first | exact ih0 _ _ _ _ | exact LeO.refl _ | exact LeO.none _ | refine LeO.ite ?_ ?_ | refine LeO.bind ?_ (fun _ => ?_)) | exact ih0 _ _ _ _ | exact LeO.none _ | refine LeO.ite ?_ ?_ | refine LeO.bind ?_ (fun _ => ?_)
theorem yar.calls (k : Nat) (A0 : Option Addr) (c0 : Nat) (l0 : List ByteArray) (a1 : ByteArray) (r : ByteArray) (w : World) (hr0 : Kd.C Kd.string w A0 l0.length l0) (hc0 : l0.length ≤ c0) (h : yar.f k l0 a1 = some r) :
  Calls Try.prog 210 #[.slice A0 l0.length c0, .string a1] w fun e w' => e = .returned (.string r) ∧ Below w.heap.size w w' := by
 have HR0 := aQ hr0
 have HC0 := aQ hc0
 clear hr0 hc0
 have HB := aQ (Below.refl w.heap.size w)
 have H : (yar.l0 k l0 a1 (([] : List Int)) 0) = some r := h
 clear h
 obtain ⟨yq1, hyq1⟩ : ∃ y_ : List Int, y_ = (([] : List Int)) := ⟨_, rfl⟩
 replace H : (yar.l0 k l0 a1 yq1 0) = some r := by first | (rw [hyq1]; with_reducible exact H) | (rw [hyq1]; exact H)
 have Nyq1 := aQ hyq1
 clear hyq1
 have H' := aQ H
 clear H
 go_enter Try.func210, Try.ntmps210
 go_wp2_with (first | ((with_reducible refine yb (N := 7) rfl ?_); refine Kd.R_lit (Kd.int .u8) _ 5 ?hg (N := 7) ?hd (xs := ([] : List Int)) (inner := []) (ok := fun _ => True) (okp := fun _ => True) ?hr ?hp (fun _ hk => hk) trivial (Below.refl _ _) (Nat.le_refl _) (by simp) ?_; (case hd => rfl); (case hg => rfl); (case hr => first | (go_simp; done) | (go_simp; rfl)); (case hp => exact (Reps.none _ _)); intro vq2 w3 ho4 hb hg_ hnew_; clear hg_ hnew_; (first | rw [← Nyq1.out] at ho4 | (simp only [Int.reduceToNat] at ho4; rw [← Nyq1.out] at ho4)); have HOq3 := aQ (Kd.R_lower ho4 (yc (pB HB.out))); replace HB := bs HB hb; clear hb ho4))
 go_loopg [5, 6] k (fun kq v5 v6 w' => ∃ (x5_1 : List Int) (x6_1 : Int), v6 = .int .i64 x6_1 ∧ Aside0 (yar.l0 kq l0 a1 x5_1 x6_1 = some r) ∧ Aside0 (kq ≤ k) ∧ Aside0 (Kd.R (Kd.int .u8) 5 w' w.heap.size (fun _ => True) v5 x5_1) ∧ Aside0 (Below w.heap.size w w'))
 case atStart => exact ⟨(yq1), (0), rs_, H', ⟨Nat.le_refl _⟩, ⟨pR HOq3.out⟩, ⟨pB HB.out⟩⟩
 clear H'
 try clear c2
 try clear p2
 obtain ⟨x5_1, x6_1, rfl, HA, HK1, HO_5, HB⟩ := hrel
 rcases gk with _ | k1
 ·exact absurd HA.out (by simp [yar.l0])
 have H := HA.out
 clear HA
 simp only [yar.l0] at H
 by_cases c5 : x6_1 < (l0.length : Int)
 ·rw [if_pos c5] at H
  have c5b0 := decide_eq_true c5
  clear c5
  by_cases c6 : x6_1 > 0
  ·rw [if_pos c6] at H
   have c6b0 := decide_eq_true c6
   clear c6
   replace H := gd H; obtain ⟨c7, H⟩ := H
   have LMc7 := aQ c7
   clear c7
   obtain ⟨yq0, hyq0⟩ : ∃ y_ : List Int, y_ = (x5_1 ++ bytesOf a1) := ⟨_, rfl⟩
   replace H : (if 0 ≤ x6_1 then (if yq0.length + (rdOf ByteArray.empty l0 x6_1).size < 140737488355328 then (yar.l0 k1 l0 a1 (yq0 ++ bytesOf (rdOf ByteArray.empty l0 x6_1)) (wrap64 (x6_1 + 1))) else (none)) else (none)) = some r := by first | (rw [hyq0]; with_reducible exact H) | (rw [hyq0]; exact H)
   have Nyq0 := aQ hyq0
   clear hyq0
   replace H := gd H; obtain ⟨c8, H⟩ := H
   have c8b0 := decide_eq_true c8
   clear c8
   replace H := gd H; obtain ⟨c9, H⟩ := H
   have LMc9 := aQ c9
   clear c9
   obtain ⟨yq4, hyq4⟩ : ∃ y_ : List Int, y_ = (yq0 ++ bytesOf (rdOf ByteArray.empty l0 x6_1)) := ⟨_, rfl⟩
   replace H : (yar.l0 k1 l0 a1 yq4 (wrap64 (x6_1 + 1))) = some r := by first | (rw [hyq4]; with_reducible exact H) | (rw [hyq4]; exact H)
   have Nyq4 := aQ hyq4
   clear hyq4
   have H' := aQ H
   clear H
   go_wp2_with (first | (at_builtin; refine ybX (w0 := w) w.heap.size rfl (.tmp 16) _ 40 9 5 rfl Try.underlying40 Try.underlying9 yhy u5 x5_1 a1 rfl rfl ?aO ?aB ?aS ?aL ?_; (case aB => exact (pB HB.out)); (case aO => exact (Kd.own_of_R (pR HO_5.out))); (case aS => exact (yc (pB HB.out))); (case aL => have := LMc7.out; omega); intro vq5 w10 ho0 hb hg; have ho := Kd.R_of_own (h1 := fun _ => rfl) (ok := fun _ => True) ho0 (fun _ _ => trivial); clear ho0; have hat := True.intro; rw [← Nyq0.out] at ho; change Kd.R (Kd.int .u8) 5 w10 w.heap.size (fun _ => True) vq5 yq0 at ho; replace HB := aQ (hb); have HOq6 := aQ (ho); clear HO_5; clear ho hb hg hat; have pq7 : 0 ≤ (x6_1 : Int) := of_decide_eq_true as_; have qq7 : x6_1 < (l0.length : Int) := of_decide_eq_true as_; obtain ⟨adq7, eq7, hxq7_0⟩ := Kd.at_string HR0.out x6_1 pq7 qq7; cases eq7; replace hxq7_0 := (HB.out.cell (World.block_lt_of_cell? w _ hxq7_0)).trans hxq7_0; replace pq7 := eq_true pq7; replace qq7 := eq_true qq7) | (at_builtin; refine ybX (w0 := w) w.heap.size rfl (.tmp 19) _ 40 9 5 rfl Try.underlying40 Try.underlying9 yhy vq5 yq0 (rdOf ByteArray.empty l0 x6_1) rfl rfl ?aO ?aB ?aS ?aL ?_; (case aB => exact (pB HB.out)); (case aO => exact (Kd.own_of_R (pR HOq6.out))); (case aS => exact (yc (pB HB.out))); (case aL => have := LMc9.out; omega); intro vq8 w11 ho0 hb hg; have ho := Kd.R_of_own (h1 := fun _ => rfl) (ok := fun _ => True) ho0 (fun _ _ => trivial); clear ho0; have hat := True.intro; rw [← Nyq4.out] at ho; change Kd.R (Kd.int .u8) 5 w11 w.heap.size (fun _ => True) vq8 yq4 at ho; replace HB := aQ (hb); have HOq9 := aQ (ho); clear HOq6; clear ho hb hg hat))
   go_roundg k1
   case measure => have := HK1.out; omega
   case rel => exact ⟨(yq4), (wrap64 (x6_1 + 1)), rs_, H', ⟨by have := HK1.out; omega⟩, ⟨pR HOq9.out⟩, ⟨pB HB.out⟩⟩
  ·rw [if_neg c6] at H
   have c6b0 := decide_eq_false c6
   clear c6
   replace H := gd H; obtain ⟨c12, H⟩ := H
   have c12b0 := decide_eq_true c12
   clear c12
   replace H := gd H; obtain ⟨c13, H⟩ := H
   have LMc13 := aQ c13
   clear c13
   obtain ⟨yqa, hyqa⟩ : ∃ y_ : List Int, y_ = (x5_1 ++ bytesOf (rdOf ByteArray.empty l0 x6_1)) := ⟨_, rfl⟩
   replace H : (yar.l0 k1 l0 a1 yqa (wrap64 (x6_1 + 1))) = some r := by first | (rw [hyqa]; with_reducible exact H) | (rw [hyqa]; exact H)
   have Nyqa := aQ hyqa
   clear hyqa
   have H' := aQ H
   clear H
   have pqb : 0 ≤ (x6_1 : Int) := of_decide_eq_true as_
   have qqb : x6_1 < (l0.length : Int) := of_decide_eq_true as_
   obtain ⟨adqb, eqb, hxqb_0⟩ := Kd.at_string HR0.out x6_1 pqb qqb
   cases eqb
   replace hxqb_0 := (HB.out.cell (World.block_lt_of_cell? w _ hxqb_0)).trans hxqb_0
   replace pqb := eq_true pqb
   replace qqb := eq_true qqb
   go_wp2_with (first | (at_builtin; refine ybX (w0 := w) w.heap.size rfl (.tmp 19) _ 40 9 5 rfl Try.underlying40 Try.underlying9 yhy u5 x5_1 (rdOf ByteArray.empty l0 x6_1) rfl rfl ?aO ?aB ?aS ?aL ?_; (case aB => exact (pB HB.out)); (case aO => exact (Kd.own_of_R (pR HO_5.out))); (case aS => exact (yc (pB HB.out))); (case aL => have := LMc13.out; omega); intro vqc w14 ho0 hb hg; have ho := Kd.R_of_own (h1 := fun _ => rfl) (ok := fun _ => True) ho0 (fun _ _ => trivial); clear ho0; have hat := True.intro; rw [← Nyqa.out] at ho; change Kd.R (Kd.int .u8) 5 w14 w.heap.size (fun _ => True) vqc yqa at ho; replace HB := aQ (hb); have HOqd := aQ (ho); clear HO_5; clear ho hb hg hat))
   go_roundg k1
   case measure => have := HK1.out; omega
   case rel => exact ⟨(yqa), (wrap64 (x6_1 + 1)), rs_, H', ⟨by have := HK1.out; omega⟩, ⟨pR HOqd.out⟩, ⟨pB HB.out⟩⟩
 ·rw [if_neg c5] at H
  have c5b0 := decide_eq_false c5
  clear c5
  obtain rfl := Option.some.inj H
  have hcv15 := ydd (P := Try.prog) Try.underlying40 Try.underlying5 Try.underlying9 (Kd.own_of_R HO_5.out)
  go_wp2
  go_ret
  exact ⟨re_, pB HB.out⟩
def yG.l0 : Nat → List Int → List ByteArray → Int → Option (ByteArray)
 | 0, _, _, _ => none
 | k + 1, x0, x3, x4 => if x4 < (x0.length : Int) then (if 0 ≤ x4 then ((yW.f k (rd x0 x4)).bind fun tq0 => (if x3.length < 8796093022208 then (yG.l0 k x0 (x3 ++ [tq0]) (wrap64 (x4 + 1))) else (none))) else (none)) else ((yar.f k x3 (⟨#[44]⟩ : ByteArray)).bind fun tq1 => (some tq1))
def yG.f (k : Nat) (l0 : List Int) : Option (ByteArray) := (yP.f k 8 l0).bind fun tq2 => (if tq2 = true then (if (l0.length : Int) = 0 then (some (⟨#[110, 111, 110, 101]⟩ : ByteArray)) else (yG.l0 k l0 (([] : List ByteArray)) 0)) else (some (⟨#[]⟩ : ByteArray)))
theorem yG.mono_l : ∀ k, (∀ y0 y1 y2, LeO (yG.l0 k y0 y1 y2) (yG.l0 (k + 1) y0 y1 y2))
 | 0 => fun _ _ _ r h => by simp [yG.l0] at h
 | k + 1 => by
  have ih0 := yG.mono_l k
  ·intro y0 y1 y2
   unfold yG.l0
   repeat' first | (with_reducible first | exact ih0 _ _ _ | exact yar.mono _ _ _ | exact yW.mono _ _ | exact yP.mono _ _ _ | exact LeO.refl _ | exact LeO.none _ | refine LeO.ite ?_ ?_ | refine LeO.bind ?_ (fun _ => ?_)) | exact ih0 _ _ _ | exact LeO.none _ | refine LeO.ite ?_ ?_ | refine LeO.bind ?_ (fun _ => ?_)
theorem yG.mono : ∀ a0 k, LeO (yG.f k a0) (yG.f (k + 1) a0) := by
 intro a0 k
 have ih0 := yG.mono_l k
 unfold yG.f
 repeat' first | (with_reducible first | exact ih0 _ _ _ | exact yar.mono _ _ _ | exact yW.mono _ _ | exact yP.mono _ _ _ | exact LeO.refl _ | exact LeO.none _ | refine LeO.ite ?_ ?_ | refine LeO.bind ?_ (fun _ => ?_)) | exact ih0 _ _ _ | exact LeO.none _ | refine LeO.ite ?_ ?_ | refine LeO.bind ?_ (fun _ => ?_)
theorem yG.calls (k : Nat) (A0 : Option Addr) (c0 : Nat) (l0 : List Int) (r : ByteArray) (w : World) (hr0 : Kd.C (Kd.int .i64) w A0 l0.length l0) (hc0 : l0.length ≤ c0) (h : yG.f k l0 = some r) :
  Calls Try.prog 205 #[.slice A0 l0.length c0] w fun e w' => e = .returned (.string r) ∧ Below w.heap.size w w' := by
 have HR0 := aQ hr0
 have HC0 := aQ hc0
 clear hr0 hc0
 have HB := aQ (Below.refl w.heap.size w)
 have H := h
 clear h
 unfold yG.f at H
 (try dsimp only at H)
 replace H := bo H; obtain ⟨tq2, A2, H⟩ := H
 (try dsimp only at H)
 by_cases c3 : tq2 = true
 ·subst c3
  rw [if_pos rfl] at H
  by_cases c4 : (l0.length : Int) = 0
  ·rw [if_pos c4] at H
   have c4b0 : ((l0.length : Int) == 0) = true := beq_iff_eq.mpr c4
   have c4b1 : ((l0.length : Int) != 0) = false := bne_eq_false_iff_eq.mpr c4
   clear c4
   obtain rfl := Option.some.inj H
   go_enter Try.func205, Try.ntmps205
   go_wp2_with (first | (refine gq 110 (some 6) Try.func110 #[.int .i64 8, .slice A0 l0.length c0] ?_; (with_reducible refine (yP.calls k 8 _ _ l0 true _ ?side1 ?side2 A2.out).mono ?_); (case side1 => exact pC HR0.out); (case side2 => exact HC0.out); rintro e w' ⟨rfl, ⟨nd, rfl⟩⟩; refine ⟨_, rfl, ?_⟩))
   go_ret
   exact ⟨re_, pB HB.out⟩
  ·rw [if_neg c4] at H
   have c4b0 : ((l0.length : Int) == 0) = false := beq_eq_false_iff_ne.mpr c4
   have c4b1 : ((l0.length : Int) != 0) = true := bne_iff_ne.mpr c4
   have c4b2 : ¬ (l0 = []) := fun h_ => c4 (by rw [h_]; rfl)
   obtain ⟨yq3, hyq3⟩ : ∃ y_ : List ByteArray, y_ = (([] : List ByteArray)) := ⟨_, rfl⟩
   replace H : (yG.l0 k l0 yq3 0) = some r := by first | (rw [hyq3]; with_reducible exact H) | (rw [hyq3]; exact H)
   have Nyq3 := aQ hyq3
   clear hyq3
   have H' := aQ H
   clear H
   go_enter Try.func205, Try.ntmps205
   go_wp2_with (first | (refine gq 110 (some 6) Try.func110 #[.int .i64 8, .slice A0 l0.length c0] ?_; (with_reducible refine (yP.calls k 8 _ _ l0 true _ ?side1 ?side2 A2.out).mono ?_); (case side1 => exact pC HR0.out); (case side2 => exact HC0.out); rintro e w' ⟨rfl, ⟨nd, rfl⟩⟩; refine ⟨_, rfl, ?_⟩) | ((with_reducible refine yb (N := 11) rfl ?_); refine Kd.R_lit Kd.string _ 9 ?hg (N := 11) ?hd (xs := ([] : List ByteArray)) (inner := []) (ok := fun _ => True) (okp := fun _ => True) ?hr ?hp (fun _ hk => hk) trivial (Below.refl _ _) (Nat.le_refl _) (by simp) ?_; (case hd => rfl); (case hg => rfl); (case hr => first | (go_simp; done) | (go_simp; rfl)); (case hp => exact (Reps.none _ _)); intro vq4 w5 ho6 hb hg_ hnew_; clear hg_ hnew_; (first | rw [← Nyq3.out] at ho6 | (simp only [Int.reduceToNat] at ho6; rw [← Nyq3.out] at ho6)); have HOq5 := aQ (Kd.R_lower ho6 (yc (pB HB.out))); replace HB := bs HB hb; clear hb ho6))
   go_loopg [3, 4] k (fun kq v3 v4 w' => ∃ (x3_1 : List ByteArray) (x4_1 : Int), v4 = .int .i64 x4_1 ∧ Aside0 (yG.l0 kq l0 x3_1 x4_1 = some r) ∧ Aside0 (kq ≤ k) ∧ Aside0 (Kd.R Kd.string 9 w' w.heap.size (fun _ => True) v3 x3_1) ∧ Aside0 (Below w.heap.size w w'))
   case atStart => exact ⟨(yq3), (0), rs_, H', ⟨Nat.le_refl _⟩, ⟨pR HOq5.out⟩, ⟨pB HB.out⟩⟩
   clear H'
   try clear c1
   try clear c2
   try clear p2
   try clear c3
   try clear c4
   try clear c4b0
   try clear c4b1
   try clear c4b2
   obtain ⟨x3_1, x4_1, rfl, HA, HK1, HO_3, HB⟩ := hrel
   rcases gk with _ | k1
   ·exact absurd HA.out (by simp [yG.l0])
   have H := HA.out
   clear HA
   simp only [yG.l0] at H
   by_cases c7 : x4_1 < (l0.length : Int)
   ·rw [if_pos c7] at H
    have c7b0 := decide_eq_true c7
    clear c7
    replace H := gd H; obtain ⟨c8, H⟩ := H
    have c8b0 := decide_eq_true c8
    clear c8
    replace H := bo H; obtain ⟨tq0, A9, H⟩ := H
    (try dsimp only at H)
    replace H := gd H; obtain ⟨c10, H⟩ := H
    have LMc10 := aQ c10
    clear c10
    obtain ⟨yq6, hyq6⟩ : ∃ y_ : List ByteArray, y_ = (x3_1 ++ [tq0]) := ⟨_, rfl⟩
    replace H : (yG.l0 k1 l0 yq6 (wrap64 (x4_1 + 1))) = some r := by first | (rw [hyq6]; with_reducible exact H) | (rw [hyq6]; exact H)
    have Nyq6 := aQ hyq6
    clear hyq6
    have H' := aQ H
    clear H
    have pq7 : 0 ≤ (x4_1 : Int) := of_decide_eq_true as_
    have qq7 : x4_1 < (l0.length : Int) := of_decide_eq_true as_
    obtain ⟨adq7, eq7, hxq7_0⟩ := Kd.at_int HR0.out x4_1 pq7 qq7
    cases eq7
    replace hxq7_0 := (HB.out.cell (World.block_lt_of_cell? w _ hxq7_0)).trans hxq7_0
    replace pq7 := eq_true pq7
    replace qq7 := eq_true qq7
    go_wp2_with (first | (refine gq 209 (some 23) Try.func209 #[.int .i64 (rd l0 x4_1)] ?_; (with_reducible refine (yW.calls k1 (rd l0 x4_1) tq0 _ A9.out).mono ?_); rintro e w11 ⟨rfl, hb⟩; refine ⟨_, rfl, ?_⟩; replace HO_3 := aQ (Kd.R_below (pR HO_3.out) hb); replace HB := bs HB hb; (try clear hb)) | ((with_reducible refine yO (b := .append) (xs := #[.tmp 18, .tmp 24]) rfl ?_); at_builtin; refine Kd.R_append Kd.string (w0 := w) w.heap.size rfl (.tmp 18) (.tmp 24) 135 9 (.string ⟨#[]⟩) 16 rfl Try.underlying135 yhz rfl (by decide) (by omega) u3 x3_1 tq0 [.string tq0] (fun _ => True) (fun _ => False) rfl rfl ?aP (fun _ hk => hk.elim) ?aF ?aO ?aB ?aS ?aL ?_; (case aP => exact rfl); (case aB => exact (pB HB.out)); (case aF => exact (fun _ _ => trivial)); (case aO => exact (pR HO_3.out)); (case aS => exact (yc (pB HB.out))); (case aL => have := LMc10.out; omega); intro vq8 w12 ho hb hg hat; rw [← Nyq6.out] at ho; replace HB := aQ (hb); have HOq9 := aQ (ho); clear HO_3; clear ho hb hg hat))
    go_roundg k1
    case measure => have := HK1.out; omega
    case rel => exact ⟨(yq6), (wrap64 (x4_1 + 1)), rs_, H', ⟨by have := HK1.out; omega⟩, ⟨pR HOq9.out⟩, ⟨pB HB.out⟩⟩
   ·rw [if_neg c7] at H
    have c7b0 := decide_eq_false c7
    clear c7
    replace H := bo H; obtain ⟨tq1, A13, H⟩ := H
    (try dsimp only at H)
    obtain rfl := Option.some.inj H
    obtain ⟨Ao14, co14, eo14⟩ := Kd.R_slice HO_3.out
    subst eo14
    go_wp2_with (first | (refine gq 210 (some 27) Try.func210 #[.slice Ao14 x3_1.length co14, .string (⟨#[44]⟩ : ByteArray)] ?_; (with_reducible refine (yar.calls k1 _ _ x3_1 (⟨#[44]⟩ : ByteArray) tq1 _ ?side1 ?side2 A13.out).mono ?_); (case side1 => exact pC ((Kd.R_reads' HO_3.out).2.2)); (case side2 => exact (Kd.R_reads' HO_3.out).2.1); rintro e w15 ⟨rfl, hb⟩; refine ⟨_, rfl, ?_⟩; replace HO_3 := aQ (Kd.R_below (pR HO_3.out) hb); replace HB := bs HB hb; (try clear hb)))
    go_ret
    exact ⟨re_, pB HB.out⟩
 ·replace c3 := Bool.eq_false_iff.mpr c3
  subst c3
  have H1 : (some (⟨#[]⟩ : ByteArray)) = some r := by rw [if_neg (show ¬ (false = true) by decide)] at H; exact H
  clear H
  have H := H1
  clear H1
  obtain rfl := Option.some.inj H
  go_enter Try.func205, Try.ntmps205
  go_wp2_with (first | (refine gq 110 (some 6) Try.func110 #[.int .i64 8, .slice A0 l0.length c0] ?_; (with_reducible refine (yP.calls k 8 _ _ l0 false _ ?side1 ?side2 A2.out).mono ?_); (case side1 => exact pC HR0.out); (case side2 => exact HC0.out); rintro e w' ⟨rfl, ⟨nd, rfl⟩⟩; refine ⟨_, rfl, ?_⟩))
  go_ret
  exact ⟨re_, pB HB.out⟩
mutual
def yo.l0 : Nat → Int → ByteArray → List Int → List ByteArray → Int → Option (List Int × Bool)
 | 0, _, _, _, _, _ => none
 | k + 1, x0, x1, x6, x7, x8 => if x8 < (x7.length : Int) then (yo.j1 k x0 x1 x6 x7 x8 (x1.toList != ([110, 111, 110, 101] : List UInt8))) else (yo.j1 k x0 x1 x6 x7 x8 false)
def yo.j1 : Nat → Int → ByteArray → List Int → List ByteArray → Int → Bool → Option (List Int × Bool)
 | 0, _, _, _, _, _, _ => none
 | k + 1, x0, x1, x6, x7, x8, x21 => if x21 = true then (if 0 ≤ x8 then (if x8 < (x7.length : Int) then ((yH.f k (rdOf ByteArray.empty x7 x8)).bind fun btq0 => (if btq0.2 = true then (if x6.length < 17592186044416 then (yo.l0 k x0 x1 (x6 ++ [btq0.1]) x7 (wrap64 (x8 + 1))) else (none)) else (some ((([] : List Int)), false)))) else (none)) else (none)) else ((yr.f k x0 x6).bind fun tq1 => (if tq1 = true then ((yG.f k x6).bind fun tq2 => (if tq2.toList = x1.toList then (some (x6, true)) else (some ((([] : List Int)), false)))) else (some ((([] : List Int)), false))))
end
def yo.f (k : Nat) (a0 : Int) (a1 : ByteArray) : Option (List Int × Bool) := (yx.f k a1 44).bind fun tq3 => (yo.l0 k a0 a1 (([] : List Int)) tq3 0)
theorem yo.mono_l : ∀ k, (∀ y0 y1 y2 y3 y4, LeO (yo.l0 k y0 y1 y2 y3 y4) (yo.l0 (k + 1) y0 y1 y2 y3 y4)) ∧ (∀ y0 y1 y2 y3 y4 y5, LeO (yo.j1 k y0 y1 y2 y3 y4 y5) (yo.j1 (k + 1) y0 y1 y2 y3 y4 y5))
 | 0 => ⟨fun _ _ _ _ _ r h => by simp [yo.l0] at h, fun _ _ _ _ _ _ r h => by simp [yo.j1] at h⟩
 | k + 1 => by
  obtain ⟨ih0, ih1⟩ := yo.mono_l k
  refine ⟨?_, ?_⟩
  ·intro y0 y1 y2 y3 y4
   unfold yo.l0
   repeat' first | (with_reducible first | exact ih0 _ _ _ _ _ | exact ih1 _ _ _ _ _ _ | exact yG.mono _ _ | exact yr.mono _ _ _ | exact yH.mono _ _ | exact yx.mono _ _ _ | exact LeO.refl _ | exact LeO.none _ | refine LeO.ite ?_ ?_ | refine LeO.bind ?_ (fun _ => ?_)) | exact ih0 _ _ _ _ _ | exact ih1 _ _ _ _ _ _ | exact LeO.none _ | refine LeO.ite ?_ ?_ | refine LeO.bind ?_ (fun _ => ?_)
  ·intro y0 y1 y2 y3 y4 y5
   unfold yo.j1
   repeat' first | (with_reducible first | exact ih0 _ _ _ _ _ | exact ih1 _ _ _ _ _ _ | exact yG.mono _ _ | exact yr.mono _ _ _ | exact yH.mono _ _ | exact yx.mono _ _ _ | exact LeO.refl _ | exact LeO.none _ | refine LeO.ite ?_ ?_ | refine LeO.bind ?_ (fun _ => ?_)) | exact ih0 _ _ _ _ _ | exact ih1 _ _ _ _ _ _ | exact LeO.none _ | refine LeO.ite ?_ ?_ | refine LeO.bind ?_ (fun _ => ?_)
theorem yo.mono : ∀ a0 a1 k, LeO (yo.f k a0 a1) (yo.f (k + 1) a0 a1) := by
 intro a0 a1 k
 obtain ⟨ih0, ih1⟩ := yo.mono_l k
 unfold yo.f
 repeat' first | (with_reducible first | exact ih0 _ _ _ _ _ | exact ih1 _ _ _ _ _ _ | exact yG.mono _ _ | exact yr.mono _ _ _ | exact yH.mono _ _ | exact yx.mono _ _ _ | exact LeO.refl _ | exact LeO.none _ | refine LeO.ite ?_ ?_ | refine LeO.bind ?_ (fun _ => ?_)) | exact ih0 _ _ _ _ _ | exact ih1 _ _ _ _ _ _ | exact LeO.none _ | refine LeO.ite ?_ ?_ | refine LeO.bind ?_ (fun _ => ?_)
theorem yo.calls (k : Nat) (a0 : Int) (a1 : ByteArray) (r1 : List Int) (r2 : Bool) (w : World) (h : yo.f k a0 a1 = some (r1, r2)) :
  Calls Try.prog 198 #[.int .i64 a0, .string a1] w fun e w' => ∃ v0_ : Value, e = .returned (.tuple #[v0_, .bool r2]) ∧ Kd.R (Kd.int .i64) 3 w' w.heap.size (fun _ => True) v0_ r1 ∧ Below w.heap.size w w' := by
 have HB := aQ (Below.refl w.heap.size w)
 have H := h
 clear h
 unfold yo.f at H
 (try dsimp only at H)
 obtain ⟨yq4, hyq4⟩ : ∃ y_ : List Int, y_ = (([] : List Int)) := ⟨_, rfl⟩
 replace H : ((yx.f k a1 44).bind fun tq3 => (yo.l0 k a0 a1 yq4 tq3 0)) = some (r1, r2) := by first | (rw [hyq4]; with_reducible exact H) | (rw [hyq4]; exact H)
 have Nyq4 := aQ hyq4
 clear hyq4
 replace H := bo H; obtain ⟨tq3, A3, H⟩ := H
 (try dsimp only at H)
 have H' := aQ H
 clear H
 go_enter Try.func198, Try.ntmps198
 go_wp2_with (first | ((with_reducible refine yb (N := 11) rfl ?_); refine Kd.R_lit (Kd.int .i64) _ 3 ?hg (N := 11) ?hd (xs := ([] : List Int)) (inner := []) (ok := fun _ => True) (okp := fun _ => True) ?hr ?hp (fun _ hk => hk) trivial (Below.refl _ _) (Nat.le_refl _) (by simp) ?_; (case hd => rfl); (case hg => rfl); (case hr => first | (go_simp; done) | (go_simp; rfl)); (case hp => exact (Reps.none _ _)); intro vq5 w4 ho5 hb hg_ hnew_; clear hg_ hnew_; (first | rw [← Nyq4.out] at ho5 | (simp only [Int.reduceToNat] at ho5; rw [← Nyq4.out] at ho5)); have HOq6 := aQ (Kd.R_lower ho5 (yc (pB HB.out))); replace HB := bs HB hb; clear hb ho5) | (refine gq 196 (some 13) Try.func196 #[.string a1, .int .u8 44] ?_; (with_reducible refine (yx.calls k a1 44 tq3 _ A3.out).mono ?_); rintro e w6 ⟨vq7, rfl, ho0, hb⟩; refine ⟨_, rfl, ?_⟩; replace HOq6 := aQ (Kd.R_below (pR HOq6.out) hb); have HOq8 := aQ (Kd.R_lower ho0 (yc (pB HB.out))); replace HB := bs HB hb; (try clear hb); (try clear ho0)))
 go_loopg [6, 8] k (fun kq v6 v8 w' => ∃ (x6_1 : List Int) (x8_1 : Int), v8 = .int .i64 x8_1 ∧ Aside0 (yo.l0 kq a0 a1 x6_1 tq3 x8_1 = some (r1, r2)) ∧ Aside0 (kq ≤ k) ∧ Aside0 (Kd.R (Kd.int .i64) 3 w' w.heap.size (fun _ => True) v6 x6_1) ∧ Aside0 (Kd.R Kd.string 9 w' w.heap.size (fun _ => True) vq7 tq3) ∧ Aside0 (Below w.heap.size w w'))
 case atStart => exact ⟨(yq4), (0), rs_, H', ⟨Nat.le_refl _⟩, ⟨pR HOq6.out⟩, ⟨pR HOq8.out⟩, ⟨pB HB.out⟩⟩
 clear H'
 try clear c1
 try clear p2
 obtain ⟨x6_1, x8_1, rfl, HA, HK1, HO_6, HO_7, HB⟩ := hrel
 rcases gk with _ | k1
 ·exact absurd HA.out (by simp [yo.l0])
 have H := HA.out
 clear HA
 simp only [yo.l0] at H
 have HC7 := aQ H
 clear H
 go_upto_region 4 with (fail)
 go_cut [21] (fun v21 wc => ∃ (kq : Nat) (x21_6 : Bool), v21 = .bool x21_6 ∧ Aside0 (yo.j1 kq a0 a1 x6_1 tq3 x8_1 x21_6 = some (r1, r2)) ∧ Aside0 (kq ≤ k1) ∧ Aside0 (Kd.R (Kd.int .i64) 3 wc w.heap.size (fun _ => True) u6 x6_1) ∧ Aside0 (Kd.R Kd.string 9 wc w.heap.size (fun _ => True) vq7 tq3) ∧ Aside0 (Below w.heap.size w wc))
 case first =>
  have H := HC7.out
  clear HC7
  by_cases c8 : x8_1 < (tq3.length : Int)
  ·rw [if_pos c8] at H
   have c8b0 := decide_eq_true c8
   clear c8
   (first | rw [c8b0] | (simp only [i64_w, ybq]; rw [c8b0]) | skip)
   have H' := aQ H
   clear H
   obtain ⟨Ao9, co9, eo9⟩ := Kd.R_slice HO_7.out
   subst eo9
   go_wp2
   go_meet
   case rel => exact ⟨_, ((a1.toList != ([110, 111, 110, 101] : List UInt8))), rs_, H', ⟨by have := HK1.out; first | omega | exact Nat.le_refl _⟩, ⟨pR HO_6.out⟩, ⟨pR HO_7.out⟩, ⟨pB HB.out⟩⟩
  ·rw [if_neg c8] at H
   have c8b0 := decide_eq_false c8
   clear c8
   (first | rw [c8b0] | (simp only [i64_w, ybq]; rw [c8b0]) | skip)
   have H' := aQ H
   clear H
   obtain ⟨Ao10, co10, eo10⟩ := Kd.R_slice HO_7.out
   subst eo10
   go_wp2
   go_meet
   case rel => exact ⟨_, (false), rs_, H', ⟨by have := HK1.out; first | omega | exact Nat.le_refl _⟩, ⟨pR HO_6.out⟩, ⟨pR HO_7.out⟩, ⟨pB HB.out⟩⟩
 case rest =>
  clear HC7
  try clear c1
  try clear p2
  try clear c8
  try clear c8b0
  try clear p2
  obtain ⟨kq, x21_6, rfl, HA, HJ6, HO_6, HO_7, HB⟩ := hcut
  cases kq with
  | zero => exact absurd HA.out (by simp [yo.j1])
  | succ kj6 =>
   have H := HA.out
   clear HA
   simp only [yo.j1] at H
   by_cases c11 : x21_6 = true
   ·subst c11
    rw [if_pos rfl] at H
    replace H := gd H; obtain ⟨c12, H⟩ := H
    have c12b0 := decide_eq_true c12
    clear c12
    replace H := gd H; obtain ⟨c13, H⟩ := H
    have c13b0 := decide_eq_true c13
    clear c13
    replace H := bo H; obtain ⟨⟨tq0, tq9⟩, A14, H⟩ := H
    (try dsimp only at H)
    by_cases c15 : tq9 = true
    ·subst c15
     rw [if_pos rfl] at H
     replace H := gd H; obtain ⟨c16, H⟩ := H
     have LMc16 := aQ c16
     clear c16
     obtain ⟨yqa, hyqa⟩ : ∃ y_ : List Int, y_ = (x6_1 ++ [tq0]) := ⟨_, rfl⟩
     replace H : (yo.l0 kj6 a0 a1 yqa tq3 (wrap64 (x8_1 + 1))) = some (r1, r2) := by first | (rw [hyqa]; with_reducible exact H) | (rw [hyqa]; exact H)
     have Nyqa := aQ hyqa
     clear hyqa
     have H' := aQ H
     clear H
     obtain ⟨Ao17, co17, eo17⟩ := Kd.R_slice HO_7.out
     subst eo17
     have pqb : 0 ≤ (x8_1 : Int) := of_decide_eq_true as_
     have qqb : x8_1 < (tq3.length : Int) := of_decide_eq_true as_
     obtain ⟨adqb, eqb, hxqb_0⟩ := Kd.at_string (Kd.R_reads' HO_7.out).2.2 x8_1 pqb qqb
     cases eqb
     replace pqb := eq_true pqb
     replace qqb := eq_true qqb
     go_wp2_with (first | (refine gq 204 (some 29) Try.func204 #[.string (rdOf ByteArray.empty tq3 x8_1)] ?_; (with_reducible refine (yH.calls kj6 (rdOf ByteArray.empty tq3 x8_1) tq0 true _ A14.out).mono ?_); rintro e w18 ⟨rfl, hb⟩; refine ⟨_, rfl, ?_⟩; replace HO_6 := aQ (Kd.R_below (pR HO_6.out) hb); replace HO_7 := aQ (Kd.R_below (pR HO_7.out) hb); replace HB := bs HB hb; (try clear hb)) | ((with_reducible refine yO (b := .append) (xs := #[.tmp 35, .tmp 37]) rfl ?_); at_builtin; refine Kd.R_append (Kd.int .i64) (w0 := w) w.heap.size rfl (.tmp 35) (.tmp 37) 22 3 (.int .i64 0) 8 rfl Try.underlying22 yaU rfl (by decide) (by omega) u6 x6_1 tq0 [.int .i64 tq0] (fun _ => True) (fun _ => False) rfl rfl ?aP (fun _ hk => hk.elim) ?aF ?aO ?aB ?aS ?aL ?_; (case aP => exact rfl); (case aB => exact (pB HB.out)); (case aF => exact (fun _ _ => trivial)); (case aO => exact (pR HO_6.out)); (case aS => exact (yc (pB HB.out))); (case aL => have := LMc16.out; omega); intro vqc w19 ho hb hg hat; rw [← Nyqa.out] at ho; replace HO_7 := aQ (Kd.R_over' (pR HO_7.out) (Kd.R_typed (pR HO_6.out)) (by decide) hg); replace HB := aQ (hb); have HOqd := aQ (ho); clear HO_6; clear ho hb hg hat))
     go_roundg kj6
     case measure => have := HK1.out; have := HJ6.out; omega
     case rel => exact ⟨(yqa), (wrap64 (x8_1 + 1)), rs_, H', ⟨by have := HK1.out; have := HJ6.out; omega⟩, ⟨pR HOqd.out⟩, ⟨pR HO_7.out⟩, ⟨pB HB.out⟩⟩
    ·replace c15 := Bool.eq_false_iff.mpr c15
     subst c15
     have H1 : (some ((([] : List Int)), false)) = some (r1, r2) := by rw [if_neg (show ¬ (false = true) by decide)] at H; exact H
     clear H
     have H := H1
     clear H1
     obtain ⟨yqe, hyqe⟩ : ∃ y_ : List Int, y_ = (([] : List Int)) := ⟨_, rfl⟩
     replace H : (some (yqe, false)) = some (r1, r2) := by first | (rw [hyqe]; with_reducible exact H) | (rw [hyqe]; exact H)
     have Nyqe := aQ hyqe
     clear hyqe
     simp only [Option.some.injEq, Prod.mk.injEq] at H
     obtain ⟨rfl, rfl⟩ := H
     obtain ⟨Ao20, co20, eo20⟩ := Kd.R_slice HO_7.out
     subst eo20
     have pqb : 0 ≤ (x8_1 : Int) := of_decide_eq_true as_
     have qqb : x8_1 < (tq3.length : Int) := of_decide_eq_true as_
     obtain ⟨adqb, eqb, hxqb_0⟩ := Kd.at_string (Kd.R_reads' HO_7.out).2.2 x8_1 pqb qqb
     cases eqb
     replace pqb := eq_true pqb
     replace qqb := eq_true qqb
     go_wp2_with (first | (refine gq 204 (some 29) Try.func204 #[.string (rdOf ByteArray.empty tq3 x8_1)] ?_; (with_reducible refine (yH.calls kj6 (rdOf ByteArray.empty tq3 x8_1) tq0 false _ A14.out).mono ?_); rintro e w21 ⟨rfl, hb⟩; refine ⟨_, rfl, ?_⟩; replace HO_6 := aQ (Kd.R_below (pR HO_6.out) hb); replace HO_7 := aQ (Kd.R_below (pR HO_7.out) hb); replace HB := bs HB hb; (try clear hb)) | ((with_reducible refine yb (N := 34) rfl ?_); refine Kd.R_lit (Kd.int .i64) _ 3 ?hg (N := 34) ?hd (xs := ([] : List Int)) (inner := []) (ok := fun _ => True) (okp := fun _ => True) ?hr ?hp (fun _ hk => hk) trivial (Below.refl _ _) (Nat.le_refl _) (by simp) ?_; (case hd => rfl); (case hg => rfl); (case hr => first | (go_simp; done) | (go_simp; rfl)); (case hp => exact (Reps.none _ _)); intro vqf w22 ho23 hb hg_ hnew_; clear hg_ hnew_; (first | rw [← Nyqe.out] at ho23 | (simp only [Int.reduceToNat] at ho23; rw [← Nyqe.out] at ho23)); replace HO_7 := aQ (Kd.R_below (pR HO_7.out) hb); have HOqg := aQ (Kd.R_lower (Kd.R_new' ho23 (Kd.R_lt (pR HO_6.out))) (yc (pB HB.out))); replace HO_6 := aQ (Kd.R_elder' (pR HO_6.out) (Kd.R_base ho23) hb); replace HB := bs HB hb; clear hb ho23))
     go_ret2
     exact ⟨_, by first | rfl | (simp [errW_none, yi] <;> rfl) | (simp [*, errW_none, yi] <;> rfl), by refine pRx ?_; exact Kd.R_mono HOqg.out (fun _ hk => trivial), pB HB.out⟩
   ·replace c11 := Bool.eq_false_iff.mpr c11
    subst c11
    have H1 : ((yr.f kj6 a0 x6_1).bind fun tq1 => (if tq1 = true then ((yG.f kj6 x6_1).bind fun tq2 => (if tq2.toList = a1.toList then (some (x6_1, true)) else (some ((([] : List Int)), false)))) else (some ((([] : List Int)), false)))) = some (r1, r2) := by rw [if_neg (show ¬ (false = true) by decide)] at H; exact H
    clear H
    have H := H1
    clear H1
    replace H := bo H; obtain ⟨tq1, A24, H⟩ := H
    (try dsimp only at H)
    by_cases c25 : tq1 = true
    ·subst c25
     rw [if_pos rfl] at H
     replace H := bo H; obtain ⟨tq2, A26, H⟩ := H
     (try dsimp only at H)
     by_cases c27 : tq2.toList = a1.toList
     ·rw [if_pos c27] at H
      have c27b0 : (tq2.toList == a1.toList) = true := beq_iff_eq.mpr c27
      have c27b1 : (tq2.toList != a1.toList) = false := bne_eq_false_iff_eq.mpr c27
      clear c27
      simp only [Option.some.injEq, Prod.mk.injEq] at H
      obtain ⟨rfl, rfl⟩ := H
      obtain ⟨Ao28, co28, eo28⟩ := Kd.R_slice HO_6.out
      subst eo28
      go_wp2_with (first | (refine gq 112 (some 41) Try.func112 #[.int .i64 a0, .slice Ao28 x6_1.length co28] ?_; (with_reducible refine (yr.calls kj6 a0 _ _ x6_1 true _ ?side1 ?side2 A24.out).mono ?_); (case side1 => exact pC ((Kd.R_reads' HO_6.out).2.2)); (case side2 => exact (Kd.R_reads' HO_6.out).2.1); rintro e w' ⟨rfl, ⟨nd, rfl⟩⟩; refine ⟨_, rfl, ?_⟩) | (go_at_call 205; (with_reducible refine (yG.calls kj6 _ _ x6_1 tq2 _ ?side1 ?side2 A26.out).mono ?_); (case side1 => exact pC ((Kd.R_reads' HO_6.out).2.2)); (case side2 => exact (Kd.R_reads' HO_6.out).2.1); rintro e w29 ⟨rfl, hb⟩; replace HO_6 := aQ (Kd.R_below (pR HO_6.out) hb); replace HO_7 := aQ (Kd.R_below (pR HO_7.out) hb); replace HB := bs HB hb; (try clear hb)))
      go_ret2
      exact ⟨_, by first | rfl | (simp [errW_none, yi] <;> rfl) | (simp [*, errW_none, yi] <;> rfl), by refine pRx ?_; exact HO_6.out, pB HB.out⟩
     ·rw [if_neg c27] at H
      have c27b0 : (tq2.toList == a1.toList) = false := beq_eq_false_iff_ne.mpr c27
      have c27b1 : (tq2.toList != a1.toList) = true := bne_iff_ne.mpr c27
      obtain ⟨yqh, hyqh⟩ : ∃ y_ : List Int, y_ = (([] : List Int)) := ⟨_, rfl⟩
      replace H : (some (yqh, false)) = some (r1, r2) := by first | (rw [hyqh]; with_reducible exact H) | (rw [hyqh]; exact H)
      have Nyqh := aQ hyqh
      clear hyqh
      simp only [Option.some.injEq, Prod.mk.injEq] at H
      obtain ⟨rfl, rfl⟩ := H
      obtain ⟨Ao30, co30, eo30⟩ := Kd.R_slice HO_6.out
      subst eo30
      go_wp2_with (first | (refine gq 112 (some 41) Try.func112 #[.int .i64 a0, .slice Ao30 x6_1.length co30] ?_; (with_reducible refine (yr.calls kj6 a0 _ _ x6_1 true _ ?side1 ?side2 A24.out).mono ?_); (case side1 => exact pC ((Kd.R_reads' HO_6.out).2.2)); (case side2 => exact (Kd.R_reads' HO_6.out).2.1); rintro e w' ⟨rfl, ⟨nd, rfl⟩⟩; refine ⟨_, rfl, ?_⟩) | (go_at_call 205; (with_reducible refine (yG.calls kj6 _ _ x6_1 tq2 _ ?side1 ?side2 A26.out).mono ?_); (case side1 => exact pC ((Kd.R_reads' HO_6.out).2.2)); (case side2 => exact (Kd.R_reads' HO_6.out).2.1); rintro e w31 ⟨rfl, hb⟩; replace HO_6 := aQ (Kd.R_below (pR HO_6.out) hb); replace HO_7 := aQ (Kd.R_below (pR HO_7.out) hb); replace HB := bs HB hb; (try clear hb)) | ((with_reducible refine yb (N := 49) rfl ?_); refine Kd.R_lit (Kd.int .i64) _ 3 ?hg (N := 49) ?hd (xs := ([] : List Int)) (inner := []) (ok := fun _ => True) (okp := fun _ => True) ?hr ?hp (fun _ hk => hk) trivial (Below.refl _ _) (Nat.le_refl _) (by simp) ?_; (case hd => rfl); (case hg => rfl); (case hr => first | (go_simp; done) | (go_simp; rfl)); (case hp => exact (Reps.none _ _)); intro vqi w32 ho33 hb hg_ hnew_; clear hg_ hnew_; (first | rw [← Nyqh.out] at ho33 | (simp only [Int.reduceToNat] at ho33; rw [← Nyqh.out] at ho33)); replace HO_7 := aQ (Kd.R_below (pR HO_7.out) hb); have HOqj := aQ (Kd.R_lower (Kd.R_new' ho33 (Kd.R_lt (pR HO_6.out))) (yc (pB HB.out))); replace HO_6 := aQ (Kd.R_elder' (pR HO_6.out) (Kd.R_base ho33) hb); replace HB := bs HB hb; clear hb ho33))
      go_ret2
      exact ⟨_, by first | rfl | (simp [errW_none, yi] <;> rfl) | (simp [*, errW_none, yi] <;> rfl), by refine pRx ?_; exact Kd.R_mono HOqj.out (fun _ hk => trivial), pB HB.out⟩
    ·replace c25 := Bool.eq_false_iff.mpr c25
     subst c25
     have H1 : (some ((([] : List Int)), false)) = some (r1, r2) := by rw [if_neg (show ¬ (false = true) by decide)] at H; exact H
     clear H
     have H := H1
     clear H1
     obtain ⟨yqk, hyqk⟩ : ∃ y_ : List Int, y_ = (([] : List Int)) := ⟨_, rfl⟩
     replace H : (some (yqk, false)) = some (r1, r2) := by first | (rw [hyqk]; with_reducible exact H) | (rw [hyqk]; exact H)
     have Nyqk := aQ hyqk
     clear hyqk
     simp only [Option.some.injEq, Prod.mk.injEq] at H
     obtain ⟨rfl, rfl⟩ := H
     obtain ⟨Ao34, co34, eo34⟩ := Kd.R_slice HO_6.out
     subst eo34
     go_wp2_with (first | (refine gq 112 (some 41) Try.func112 #[.int .i64 a0, .slice Ao34 x6_1.length co34] ?_; (with_reducible refine (yr.calls kj6 a0 _ _ x6_1 false _ ?side1 ?side2 A24.out).mono ?_); (case side1 => exact pC ((Kd.R_reads' HO_6.out).2.2)); (case side2 => exact (Kd.R_reads' HO_6.out).2.1); rintro e w' ⟨rfl, ⟨nd, rfl⟩⟩; refine ⟨_, rfl, ?_⟩) | ((with_reducible refine yb (N := 49) rfl ?_); refine Kd.R_lit (Kd.int .i64) _ 3 ?hg (N := 49) ?hd (xs := ([] : List Int)) (inner := []) (ok := fun _ => True) (okp := fun _ => True) ?hr ?hp (fun _ hk => hk) trivial (Below.refl _ _) (Nat.le_refl _) (by simp) ?_; (case hd => rfl); (case hg => rfl); (case hr => first | (go_simp; done) | (go_simp; rfl)); (case hp => exact (Reps.none _ _)); intro vql w35 ho36 hb hg_ hnew_; clear hg_ hnew_; (first | rw [← Nyqk.out] at ho36 | (simp only [Int.reduceToNat] at ho36; rw [← Nyqk.out] at ho36)); replace HO_7 := aQ (Kd.R_below (pR HO_7.out) hb); have HOqm := aQ (Kd.R_lower (Kd.R_new' ho36 (Kd.R_lt (pR HO_6.out))) (yc (pB HB.out))); replace HO_6 := aQ (Kd.R_elder' (pR HO_6.out) (Kd.R_base ho36) hb); replace HB := bs HB hb; clear hb ho36))
     go_ret2
     exact ⟨_, by first | rfl | (simp [errW_none, yi] <;> rfl) | (simp [*, errW_none, yi] <;> rfl), by refine pRx ?_; exact Kd.R_mono HOqm.out (fun _ hk => trivial), pB HB.out⟩
def yZ.f (k : Nat) (a0_0 : Int) (l0_1 : List Int) : Option (ByteArray) := (yM.f k a0_0 l0_1).bind fun tq0 => (if tq0 = true then ((yA.f k a0_0).bind fun tq1 => (if tq1.size + 1 ≤ 9223372036854775807 then ((yG.f k l0_1).bind fun tq2 => (if (tq1 ++ (⟨#[32]⟩ : ByteArray)).size + tq2.size ≤ 9223372036854775807 then (some ((tq1 ++ (⟨#[32]⟩ : ByteArray)) ++ tq2)) else (none))) else (none))) else (some (⟨#[]⟩ : ByteArray)))
theorem yZ.mono : ∀ a0 a1 k, LeO (yZ.f k a0 a1) (yZ.f (k + 1) a0 a1) := by
 intro a0 a1 k
 unfold yZ.f
 repeat' first | (with_reducible first | exact yG.mono _ _ | exact yA.mono _ _ | exact yM.mono _ _ _ | exact LeO.refl _ | exact LeO.none _ | refine LeO.ite ?_ ?_ | refine LeO.bind ?_ (fun _ => ?_)) | exact LeO.none _ | refine LeO.ite ?_ ?_ | refine LeO.bind ?_ (fun _ => ?_)
def yZ.T3 : Bool × List (List Nat × List Nat) := (true, [([], []), ([0], [0]), ([1], [1]), ([2], [2]), ([], []), ([4], [4]), ([5, 2], [5]), ([3, 6], [3, 6]), ([7, 6, 0, 1, 2, 3, 4, 5, 6, 7], [7])])
def yZ.B3 : List Nat := [0, 1, 3, 7, 0, 16, 55, 127, 255]
theorem yZ.tab3 : rtab .any (yco Try.f199 3) = yZ.T3 := by kernel_rfl
theorem yZ.bits3 : ybf yZ.T3.2 yZ.B3 = true := by kernel_rfl
theorem yZ.calls (k : Nat) (a0_0 : Int) (A0_1 : Option Addr) (c0_1 : Nat) (l0_1 : List Int) (r : ByteArray) (w : World) (hr0_1 : Kd.C (Kd.int .i64) w A0_1 l0_1.length l0_1) (hc0_1 : l0_1.length ≤ c0_1) (h : yZ.f k a0_0 l0_1 = some r) :
  Calls Try.prog 199 #[.agg #[.int .i64 a0_0, .slice A0_1 l0_1.length c0_1]] w fun e w' => e = .returned (.string r) ∧ Below w.heap.size w w' := by
 have hu28 := Try.underlying28
 have HR0_1 := aQ hr0_1
 have HC0_1 := aQ hc0_1
 clear hr0_1 hc0_1
 have HB := aQ (Below.refl w.heap.size w)
 have H := h
 clear h
 unfold yZ.f at H
 (try dsimp only at H)
 replace H := bo H; obtain ⟨tq0, A2, H⟩ := H
 (try dsimp only at H)
 by_cases c3 : tq0 = true
 ·subst c3
  rw [if_pos rfl] at H
  replace H := bo H; obtain ⟨tq1, A4, H⟩ := H
  (try dsimp only at H)
  replace H := gd H; obtain ⟨c5, H⟩ := H
  have c5b0 := eq_true c5
  have c5b1 := decide_eq_true c5
  try have c5b2 : (9223372036854775807 < tq1.size + 1) = False := eq_false (Nat.not_lt.2 c5)
  replace H := bo H; obtain ⟨tq2, A6, H⟩ := H
  (try dsimp only at H)
  replace H := gd H; obtain ⟨c7, H⟩ := H
  have c7b0 := eq_true c7
  have c7b1 := decide_eq_true c7
  try have c7b2 : (9223372036854775807 < (tq1 ++ (⟨#[32]⟩ : ByteArray)).size + tq2.size) = False := eq_false (Nat.not_lt.2 c7)
  try have c7b3 : (9223372036854775807 < tq1.size + 1 + tq2.size) = False := (show ((9223372036854775807 < tq1.size + 1 + tq2.size) = (9223372036854775807 < (tq1 ++ (⟨#[32]⟩ : ByteArray)).size + tq2.size)) from (by rw [ByteArray.size_append]; rfl)).trans c7b2
  obtain rfl := Option.some.inj H
  go_enter Try.func199, Try.ntmps199
  try go_wp2_with (first | ((with_reducible refine yb (N := 1) rfl ?_); refine bx 1 #[.int .i64 a0_0, .slice A0_1 l0_1.length c0_1] 28 ?_; intro gbq3 hg w8 hbox hb; have BKq3 := aQ (hbox); have GWq3 := gB HB hg; have GEq3 := gB HB hg; replace HB := bs HB hb; clear hb hbox hg; obtain ⟨hcz9_0, hcz9_1, hfz9_0, hfz9_1⟩ := c2 BKq3) | (refine gq 52 (some 4) Try.func52 #[.agg #[.int .i64 a0_0, .slice A0_1 l0_1.length c0_1]] ?_; (with_reducible refine (yM.calls k a0_0 _ _ l0_1 true _ ?side1 ?side2 A2.out).mono ?_); (case side1 => exact pC (Kd.C_below HR0_1.out HB.out)); (case side2 => exact HC0_1.out); rintro e w10 ⟨rfl, hb⟩; refine ⟨_, rfl, ?_⟩; replace BKq3 := bb BKq3 hb; replace HB := bs HB hb; (try clear hb)))
  replace BKq3 := aQ (yF BKq3.out); replace HB := aQ (yK HB.out)
  refine ya0 (n := 9) (S := fun w' => w'.cell? ⟨gbq3, 0, none⟩ = some (.int .i64 a0_0) ∧ w'.cell? ⟨gbq3, 1, none⟩ = some (.slice A0_1 l0_1.length c0_1)) (ds := []) _ (by kernel_rfl) rfl rfl ⟨(ya BKq3.out 0).trans rfl, (ya BKq3.out 1).trans rfl⟩ (fun hHeld => ?_); refine yaw yZ.tab3 yZ.bits3 (fun HT_ HW_ => ?_)
  generalize w10.drew = w11 at BKq3 HB hHeld ⊢
  refine pA 0 (some 6) HT_ ?_
  refine pA 4 (some 10) HT_ ?_
  refine tA2 1 (some 7) HT_ HW_ hHeld ?_
  refine tA2 5 (some 11) HT_ HW_ hHeld ?_
  refine onA (i := 2) (N := some 8) HT_ (h := fun K hK => ?_)
  refine gs Try.func206 #[.int .i64 a0_0] ?_
  with_reducible refine (yA.calls k a0_0 tq1 _ A4.out).mono ?_
  rintro e w12 ⟨rfl, hb⟩
  refine ⟨_, rfl, ?_⟩
  replace BKq3 := bb BKq3 hb; replace HB := bs HB hb
  (try clear hb)
  (try clear hb2)
  (try clear hk)
  (try clear hi)
  refine hK.out _ _ ⟨(ya BKq3.out 0).trans rfl, (ya BKq3.out 1).trans rfl⟩ (fun hHeld => ?_)
  clear hK K
  refine noN (some 8) (h := ?_)
  refine pA 3 (some 9) HT_ ?_
  refine onA (i := 6) (N := some 12) HT_ (h := fun K hK => ?_)
  refine gs Try.func205 #[.slice A0_1 l0_1.length c0_1] ?_
  with_reducible refine (yG.calls k _ _ l0_1 tq2 _ ?side1 ?side2 A6.out).mono ?_
  (case side1 => exact pC (Kd.C_below HR0_1.out HB.out))
  (case side2 => exact HC0_1.out)
  rintro e w13 ⟨rfl, hb⟩
  refine ⟨_, rfl, ?_⟩
  replace BKq3 := bb BKq3 hb; replace HB := bs HB hb
  (try clear hb)
  (try clear hb2)
  (try clear hk)
  (try clear hi)
  refine hK.out _ _ ⟨(ya BKq3.out 0).trans rfl, (ya BKq3.out 1).trans rfl⟩ (fun hHeld => ?_)
  clear hK K
  refine noN (some 12) (h := ?_)
  refine pA 7 (some 13) HT_ ?_
  refine pA 8 (some 2) HT_ ?_
  refine ybs (yaZ HT_.out (by kernel_rfl)) ?_
  try go_wp2
  go_ret
  exact ⟨re_, pB1 HB.out GEq3.out⟩
 ·replace c3 := Bool.eq_false_iff.mpr c3
  subst c3
  have H1 : (some (⟨#[]⟩ : ByteArray)) = some r := by rw [if_neg (show ¬ (false = true) by decide)] at H; exact H
  clear H
  have H := H1
  clear H1
  obtain rfl := Option.some.inj H
  go_enter Try.func199, Try.ntmps199
  go_wp2_with (first | ((with_reducible refine yb (N := 1) rfl ?_); refine bx 1 #[.int .i64 a0_0, .slice A0_1 l0_1.length c0_1] 28 ?_; intro gbq3 hg w14 hbox hb; have BKq3 := aQ (hbox); have GWq3 := gB HB hg; have GEq3 := gB HB hg; replace HB := bs HB hb; clear hb hbox hg; obtain ⟨hcz15_0, hcz15_1, hfz15_0, hfz15_1⟩ := c2 BKq3) | (refine gq 52 (some 4) Try.func52 #[.agg #[.int .i64 a0_0, .slice A0_1 l0_1.length c0_1]] ?_; (with_reducible refine (yM.calls k a0_0 _ _ l0_1 false _ ?side1 ?side2 A2.out).mono ?_); (case side1 => exact pC (Kd.C_below HR0_1.out HB.out)); (case side2 => exact HC0_1.out); rintro e w16 ⟨rfl, hb⟩; refine ⟨_, rfl, ?_⟩; replace BKq3 := bb BKq3 hb; replace HB := bs HB hb; (try clear hb)))
  go_ret
  exact ⟨re_, pB1 HB.out GEq3.out⟩
def yam.f (k : Nat) (a0 : ByteArray) : Option (Int × List Int × Bool) := (yx.f k a0 32).bind fun tq0 => (if (tq0.length : Int) = 2 then (if 0 < (tq0.length : Int) then ((yaP.f k (rdOf ByteArray.empty tq0 0)).bind fun btq1 => (if 1 < (tq0.length : Int) then ((yo.f k btq1.1 (rdOf ByteArray.empty tq0 1)).bind fun btq2 => (if btq1.2 = true then (if btq2.2 = true then ((yZ.f k btq1.1 btq2.1).bind fun tq3 => (if tq3.toList = a0.toList then (some (btq1.1, btq2.1, true)) else (some (0, ([] : List Int), false)))) else (some (0, ([] : List Int), false))) else (some (0, ([] : List Int), false)))) else (none))) else (none)) else (some (0, ([] : List Int), false)))
theorem yam.mono : ∀ a0 k, LeO (yam.f k a0) (yam.f (k + 1) a0) := by
 intro a0 k
 unfold yam.f
 repeat' first | (with_reducible first | exact yZ.mono _ _ _ | exact yo.mono _ _ _ | exact yaP.mono _ _ | exact yx.mono _ _ _ | exact LeO.refl _ | exact LeO.none _ | refine LeO.ite ?_ ?_ | refine LeO.bind ?_ (fun _ => ?_)) | exact LeO.none _ | refine LeO.ite ?_ ?_ | refine LeO.bind ?_ (fun _ => ?_)
theorem yam.calls (k : Nat) (a0 : ByteArray) (r1 : Int) (r2 : List Int) (r3 : Bool) (w : World) (h : yam.f k a0 = some (r1, r2, r3)) :
  Calls Try.prog 183 #[.string a0] w fun e w' => ∃ v1_ : Value, e = .returned (.tuple #[.agg #[.int .i64 r1, v1_], .bool r3]) ∧ Kd.R (Kd.int .i64) 3 w' w.heap.size (fun _ => True) v1_ r2 ∧ Below w.heap.size w w' := by
 have hu28 := Try.underlying28
 have HB := aQ (Below.refl w.heap.size w)
 have H := h
 clear h
 unfold yam.f at H
 (try dsimp only at H)
 replace H := bo H; obtain ⟨tq0, A2, H⟩ := H
 (try dsimp only at H)
 by_cases c3 : (tq0.length : Int) = 2
 ·rw [if_pos c3] at H
  have c3b0 : ((tq0.length : Int) == 2) = true := beq_iff_eq.mpr c3
  have c3b1 : ((tq0.length : Int) != 2) = false := bne_eq_false_iff_eq.mpr c3
  clear c3
  replace H := gd H; obtain ⟨c4, H⟩ := H
  have c4b0 := decide_eq_true c4
  have c4b1 : decide (0 < tq0.length) = true := decide_eq_true (by omega)
  clear c4
  replace H := bo H; obtain ⟨⟨tq1, tq4⟩, A5, H⟩ := H
  (try dsimp only at H)
  replace H := gd H; obtain ⟨c6, H⟩ := H
  have c6b0 := decide_eq_true c6
  have c6b1 : decide (1 < tq0.length) = true := decide_eq_true (by omega)
  clear c6
  replace H := bo H; obtain ⟨⟨tq2, tq5⟩, A7, H⟩ := H
  (try dsimp only at H)
  by_cases c8 : tq4 = true
  ·subst c8
   rw [if_pos rfl] at H
   by_cases c9 : tq5 = true
   ·subst c9
    rw [if_pos rfl] at H
    replace H := bo H; obtain ⟨tq3, A10, H⟩ := H
    (try dsimp only at H)
    by_cases c11 : tq3.toList = a0.toList
    ·rw [if_pos c11] at H
     have c11b0 : (tq3.toList == a0.toList) = true := beq_iff_eq.mpr c11
     have c11b1 : (tq3.toList != a0.toList) = false := bne_eq_false_iff_eq.mpr c11
     clear c11
     simp only [Option.some.injEq, Prod.mk.injEq] at H
     obtain ⟨rfl, rfl, rfl⟩ := H
     go_enter Try.func183, Try.ntmps183
     go_wp2_with (first | ((with_reducible refine yb (N := 2) rfl ?_); refine bx 2 #[.int .i64 0, .slice none 0 0] 28 ?_; intro gbq6 hg w12 hbox hb; have BKq6 := aQ (hbox); have GWq6 := gB HB hg; have GEq6 := gB HB hg; replace HB := bs HB hb; clear hb hbox hg) | (refine gq 196 (some 11) Try.func196 #[.string a0, .int .u8 32] ?_; (with_reducible refine (yx.calls k a0 32 tq0 _ A2.out).mono ?_); rintro e w13 ⟨vq7, rfl, ho0, hb⟩; refine ⟨_, rfl, ?_⟩; have HOq8 := aQ (Kd.R_lower ho0 (yc (pB1 HB.out GEq6.out))); replace BKq6 := bb BKq6 hb; replace HB := bs HB hb; (try clear hb); (try clear ho0); obtain ⟨Ao14, co14, eo14⟩ := Kd.R_slice HOq8.out; subst eo14; have pq9 : 0 ≤ (0 : Int) := (by omega); have qq9 : 0 < (tq0.length : Int) := of_decide_eq_true as_; obtain ⟨adq9, eq9, hxq9_0⟩ := Kd.at_string (Kd.R_reads' HOq8.out).2.2 0 pq9 qq9; cases eq9; have qiq9 : (0 < tq0.length) = True := eq_true (by omega); (try rw [show ((0 : Int)).toNat = 0 from rfl] at hxq9_0); (try rw [Addr.add_zero'] at hxq9_0); replace pq9 := eq_true pq9; replace qq9 := eq_true qq9) | (refine gq 197 (some 20) Try.func197 #[.string (rdOf ByteArray.empty tq0 0)] ?_; (with_reducible refine (yaP.calls k (rdOf ByteArray.empty tq0 0) tq1 true _ A5.out).mono ?_); rintro e w15 ⟨rfl, hb⟩; refine ⟨_, rfl, ?_⟩; replace HOq8 := aQ (Kd.R_below (pR HOq8.out) hb); replace BKq6 := bb BKq6 hb; replace HB := bs HB hb; (try clear hb); have pqa : 0 ≤ (1 : Int) := (by omega); have qqa : 1 < (tq0.length : Int) := of_decide_eq_true as_; obtain ⟨adqa, eqa, hxqa_0⟩ := Kd.at_string (Kd.R_reads' HOq8.out).2.2 1 pqa qqa; obtain rfl : adq9 = adqa := (by injection eqa); (try simp only [show (1 : Int).toNat = 1 from rfl, Nat.reduceMul, Nat.reduceEqDiff, Go.Addr.add, ↓reduceIte] at hxqa_0); have qiqa : (1 < tq0.length) = True := eq_true (by omega); (try rw [show ((1 : Int)).toNat = 1 from rfl] at hxqa_0); replace pqa := eq_true pqa; replace qqa := eq_true qqa) | (refine gq 198 (some 28) Try.func198 #[.int .i64 tq1, .string (rdOf ByteArray.empty tq0 1)] ?_; (with_reducible refine (yo.calls k tq1 (rdOf ByteArray.empty tq0 1) tq2 true _ A7.out).mono ?_); rintro e w16 ⟨vqb, rfl, ho0, hb⟩; refine ⟨_, rfl, ?_⟩; replace HOq8 := aQ (Kd.R_below (pR HOq8.out) hb); have HOqc := aQ (Kd.R_lower ho0 (yc (pB1 HB.out GEq6.out))); replace BKq6 := bb BKq6 hb; replace HB := bs HB hb; (try clear hb); (try clear ho0); obtain ⟨Ao17, co17, eo17⟩ := Kd.R_slice HOqc.out; subst eo17) | ((with_reducible refine yb (N := 9) rfl ?_); refine bx 9 #[.int .i64 0, .slice none 0 0] 28 ?_; intro gbqd hg w18 hbox hb; replace HOq8 := aQ (Kd.R_below (pR HOq8.out) hb); replace HOqc := aQ (Kd.R_below (pR HOqc.out) hb); have BKqd := aQ (hbox); have GWqd := gB HB hg; have GEqd := gB HB hg; replace HB := bs HB hb; have NBq6_qd := nl BKq6 hg; have NBqd_q6 := ng BKq6 hg; replace BKq6 := bb BKq6 hb; clear hb hbox hg; have hnb19 := NBqd_q6.out; have hnc19 := NBq6_qd.out; obtain ⟨hcz20_0, hcz20_1, hfz20_0, hfz20_1⟩ := c2 BKqd) | (go_at_call 199; (with_reducible refine (yZ.calls k tq1 _ _ tq2 tq3 _ ?side1 ?side2 A10.out).mono ?_); (case side1 => refine (Kd.R_reads' (e := 3) (base := w.heap.size) (ok := fun k_ => True) (n := tq2.length) (c := co17) ?_).2.2; exact (by refine pRx ?_; exact (Kd.R_mono (Kd.R_far (p := ⟨gbqd, 1, none⟩) (Kd.R_far (p := ⟨gbqd, 0, none⟩) (Kd.R_types HOqc.out BKqd.out (by decide)) (fun _ hk => hk.2) (.int .i64 tq1)) (fun _ hk => hk.2) (.slice Ao17 tq2.length co17)) (fun _ h_ => h_.1)))); (case side2 => exact (Kd.R_reads' HOqc.out).2.1); rintro e w21 ⟨rfl, hb⟩; replace HOq8 := aQ (Kd.R_below (by refine pRx ?_; exact (Kd.R_mono (Kd.R_far (p := ⟨gbqd, 1, none⟩) (Kd.R_far (p := ⟨gbqd, 0, none⟩) (Kd.R_types HOq8.out BKqd.out (by decide)) (fun _ hk => hk.2) (.int .i64 tq1)) (fun _ hk => hk.2) (.slice Ao17 tq2.length co17)) (fun _ h_ => h_.1))) hb); replace HOqc := aQ (Kd.R_below (by refine pRx ?_; exact (Kd.R_mono (Kd.R_far (p := ⟨gbqd, 1, none⟩) (Kd.R_far (p := ⟨gbqd, 0, none⟩) (Kd.R_types HOqc.out BKqd.out (by decide)) (fun _ hk => hk.2) (.int .i64 tq1)) (fun _ hk => hk.2) (.slice Ao17 tq2.length co17)) (fun _ h_ => h_.1))) hb); replace BKq6 := aQ (yab (g := gbq6) (o := .cells #[.int .i64 0, .slice none 0 0] 28 (0, 0)) (by refine pkx ?_; refine yj ?_ NBq6_qd.out _; refine pkx ?_; refine yj ?_ NBq6_qd.out _; refine pkx ?_; exact BKq6.out) hb); replace BKqd := aQ (yab (g := gbqd) (o := .cells #[.int .i64 tq1, .slice Ao17 tq2.length co17] 28 (0, 0)) (by refine pkx ?_; refine yh (cs := #[.int .i64 tq1, .slice none 0 0]) ?_ 1 _ rfl; refine pkx ?_; refine yh (cs := #[.int .i64 0, .slice none 0 0]) ?_ 0 _ rfl; refine pkx ?_; exact BKqd.out) hb); replace HB := bs HB hb; (try clear hb); (try clear hk); obtain ⟨hcz22_0, hcz22_1, hfz22_0, hfz22_1⟩ := c2 BKqd; obtain ⟨hcz23_0, hcz23_1, hfz23_0, hfz23_1⟩ := c2 BKq6))
     refine bodyPost_ret (ya7 rfl _ _ gbq6 28 #[.int .i64 tq1, .slice Ao17 tq2.length co17] (0, 0) _ rfl (by refine pkx ?_; refine yh (cs := #[.int .i64 tq1, .slice none 0 0]) ?_ 1 _ rfl; refine pkx ?_; refine yh (cs := #[.int .i64 0, .slice none 0 0]) ?_ 0 _ rfl; refine pkx ?_; exact BKq6.out) Try.underlying28 rfl (by kernel_rfl)) rfl ?_
     exact ⟨_, by first | rfl | (simp [errW_none, yi] <;> rfl) | (simp [*, errW_none, yi] <;> rfl), by refine pRx ?_; exact rf HOqc BKq6, pB2 HB.out GEq6.out GEqd.out⟩
    ·rw [if_neg c11] at H
     have c11b0 : (tq3.toList == a0.toList) = false := beq_eq_false_iff_ne.mpr c11
     have c11b1 : (tq3.toList != a0.toList) = true := bne_iff_ne.mpr c11
     simp only [Option.some.injEq, Prod.mk.injEq] at H
     obtain ⟨rfl, rfl, rfl⟩ := H
     go_enter Try.func183, Try.ntmps183
     go_wp2_with (first | ((with_reducible refine yb (N := 2) rfl ?_); refine bx 2 #[.int .i64 0, .slice none 0 0] 28 ?_; intro gbq6 hg w24 hbox hb; have BKq6 := aQ (hbox); have GWq6 := gB HB hg; have GEq6 := gB HB hg; replace HB := bs HB hb; clear hb hbox hg) | (refine gq 196 (some 11) Try.func196 #[.string a0, .int .u8 32] ?_; (with_reducible refine (yx.calls k a0 32 tq0 _ A2.out).mono ?_); rintro e w25 ⟨vq7, rfl, ho0, hb⟩; refine ⟨_, rfl, ?_⟩; have HOq8 := aQ (Kd.R_lower ho0 (yc (pB1 HB.out GEq6.out))); replace BKq6 := bb BKq6 hb; replace HB := bs HB hb; (try clear hb); (try clear ho0); obtain ⟨Ao26, co26, eo26⟩ := Kd.R_slice HOq8.out; subst eo26; have pq9 : 0 ≤ (0 : Int) := (by omega); have qq9 : 0 < (tq0.length : Int) := of_decide_eq_true as_; obtain ⟨adq9, eq9, hxq9_0⟩ := Kd.at_string (Kd.R_reads' HOq8.out).2.2 0 pq9 qq9; cases eq9; have qiq9 : (0 < tq0.length) = True := eq_true (by omega); (try rw [show ((0 : Int)).toNat = 0 from rfl] at hxq9_0); (try rw [Addr.add_zero'] at hxq9_0); replace pq9 := eq_true pq9; replace qq9 := eq_true qq9) | (refine gq 197 (some 20) Try.func197 #[.string (rdOf ByteArray.empty tq0 0)] ?_; (with_reducible refine (yaP.calls k (rdOf ByteArray.empty tq0 0) tq1 true _ A5.out).mono ?_); rintro e w27 ⟨rfl, hb⟩; refine ⟨_, rfl, ?_⟩; replace HOq8 := aQ (Kd.R_below (pR HOq8.out) hb); replace BKq6 := bb BKq6 hb; replace HB := bs HB hb; (try clear hb); have pqa : 0 ≤ (1 : Int) := (by omega); have qqa : 1 < (tq0.length : Int) := of_decide_eq_true as_; obtain ⟨adqa, eqa, hxqa_0⟩ := Kd.at_string (Kd.R_reads' HOq8.out).2.2 1 pqa qqa; obtain rfl : adq9 = adqa := (by injection eqa); (try simp only [show (1 : Int).toNat = 1 from rfl, Nat.reduceMul, Nat.reduceEqDiff, Go.Addr.add, ↓reduceIte] at hxqa_0); have qiqa : (1 < tq0.length) = True := eq_true (by omega); (try rw [show ((1 : Int)).toNat = 1 from rfl] at hxqa_0); replace pqa := eq_true pqa; replace qqa := eq_true qqa) | (refine gq 198 (some 28) Try.func198 #[.int .i64 tq1, .string (rdOf ByteArray.empty tq0 1)] ?_; (with_reducible refine (yo.calls k tq1 (rdOf ByteArray.empty tq0 1) tq2 true _ A7.out).mono ?_); rintro e w28 ⟨vqb, rfl, ho0, hb⟩; refine ⟨_, rfl, ?_⟩; replace HOq8 := aQ (Kd.R_below (pR HOq8.out) hb); have HOqc := aQ (Kd.R_lower ho0 (yc (pB1 HB.out GEq6.out))); replace BKq6 := bb BKq6 hb; replace HB := bs HB hb; (try clear hb); (try clear ho0); obtain ⟨Ao29, co29, eo29⟩ := Kd.R_slice HOqc.out; subst eo29) | ((with_reducible refine yb (N := 9) rfl ?_); refine bx 9 #[.int .i64 0, .slice none 0 0] 28 ?_; intro gbqd hg w30 hbox hb; replace HOq8 := aQ (Kd.R_below (pR HOq8.out) hb); replace HOqc := aQ (Kd.R_below (pR HOqc.out) hb); have BKqd := aQ (hbox); have GWqd := gB HB hg; have GEqd := gB HB hg; replace HB := bs HB hb; have NBq6_qd := nl BKq6 hg; have NBqd_q6 := ng BKq6 hg; replace BKq6 := bb BKq6 hb; clear hb hbox hg; have hnb31 := NBqd_q6.out; have hnc31 := NBq6_qd.out; obtain ⟨hcz32_0, hcz32_1, hfz32_0, hfz32_1⟩ := c2 BKqd) | (go_at_call 199; (with_reducible refine (yZ.calls k tq1 _ _ tq2 tq3 _ ?side1 ?side2 A10.out).mono ?_); (case side1 => refine (Kd.R_reads' (e := 3) (base := w.heap.size) (ok := fun k_ => True) (n := tq2.length) (c := co29) ?_).2.2; exact (by refine pRx ?_; exact (Kd.R_mono (Kd.R_far (p := ⟨gbqd, 1, none⟩) (Kd.R_far (p := ⟨gbqd, 0, none⟩) (Kd.R_types HOqc.out BKqd.out (by decide)) (fun _ hk => hk.2) (.int .i64 tq1)) (fun _ hk => hk.2) (.slice Ao29 tq2.length co29)) (fun _ h_ => h_.1)))); (case side2 => exact (Kd.R_reads' HOqc.out).2.1); rintro e w33 ⟨rfl, hb⟩; replace HOq8 := aQ (Kd.R_below (by refine pRx ?_; exact (Kd.R_mono (Kd.R_far (p := ⟨gbqd, 1, none⟩) (Kd.R_far (p := ⟨gbqd, 0, none⟩) (Kd.R_types HOq8.out BKqd.out (by decide)) (fun _ hk => hk.2) (.int .i64 tq1)) (fun _ hk => hk.2) (.slice Ao29 tq2.length co29)) (fun _ h_ => h_.1))) hb); replace HOqc := aQ (Kd.R_below (by refine pRx ?_; exact (Kd.R_mono (Kd.R_far (p := ⟨gbqd, 1, none⟩) (Kd.R_far (p := ⟨gbqd, 0, none⟩) (Kd.R_types HOqc.out BKqd.out (by decide)) (fun _ hk => hk.2) (.int .i64 tq1)) (fun _ hk => hk.2) (.slice Ao29 tq2.length co29)) (fun _ h_ => h_.1))) hb); replace BKq6 := aQ (yab (g := gbq6) (o := .cells #[.int .i64 0, .slice none 0 0] 28 (0, 0)) (by refine pkx ?_; refine yj ?_ NBq6_qd.out _; refine pkx ?_; refine yj ?_ NBq6_qd.out _; refine pkx ?_; exact BKq6.out) hb); replace BKqd := aQ (yab (g := gbqd) (o := .cells #[.int .i64 tq1, .slice Ao29 tq2.length co29] 28 (0, 0)) (by refine pkx ?_; refine yh (cs := #[.int .i64 tq1, .slice none 0 0]) ?_ 1 _ rfl; refine pkx ?_; refine yh (cs := #[.int .i64 0, .slice none 0 0]) ?_ 0 _ rfl; refine pkx ?_; exact BKqd.out) hb); replace HB := bs HB hb; (try clear hb); (try clear hk); obtain ⟨hcz34_0, hcz34_1, hfz34_0, hfz34_1⟩ := c2 BKq6))
     refine bodyPost_ret (ya7 rfl _ _ gbq6 28 #[.int .i64 0, .slice none 0 0] (0, 0) _ rfl (by refine pkx ?_; refine yh (cs := #[.int .i64 0, .slice none 0 0]) ?_ 1 _ rfl; refine pkx ?_; refine yh (cs := #[.int .i64 0, .slice none 0 0]) ?_ 0 _ rfl; refine pkx ?_; exact BKq6.out) Try.underlying28 rfl (by kernel_rfl)) rfl ?_
     exact ⟨_, by first | rfl | (simp [errW_none, yi] <;> rfl) | (simp [*, errW_none, yi] <;> rfl), by first | exact Kd.R_nil _ _ _ _ _ | exact Kd.N_nil _ _ _ _ _ | exact Kd.V_nil _ _ _ _ _ | exact Kd.Q_nil _ _ _ _ _ | exact Kd.S_nil _ _ _ _ _, pB2 HB.out GEq6.out GEqd.out⟩
   ·replace c9 := Bool.eq_false_iff.mpr c9
    subst c9
    have H1 : (some (0, ([] : List Int), false)) = some (r1, r2, r3) := by rw [if_neg (show ¬ (false = true) by decide)] at H; exact H
    clear H
    have H := H1
    clear H1
    simp only [Option.some.injEq, Prod.mk.injEq] at H
    obtain ⟨rfl, rfl, rfl⟩ := H
    go_enter Try.func183, Try.ntmps183
    go_wp2_with (first | ((with_reducible refine yb (N := 2) rfl ?_); refine bx 2 #[.int .i64 0, .slice none 0 0] 28 ?_; intro gbq6 hg w35 hbox hb; have BKq6 := aQ (hbox); have GWq6 := gB HB hg; have GEq6 := gB HB hg; replace HB := bs HB hb; clear hb hbox hg) | (refine gq 196 (some 11) Try.func196 #[.string a0, .int .u8 32] ?_; (with_reducible refine (yx.calls k a0 32 tq0 _ A2.out).mono ?_); rintro e w36 ⟨vq7, rfl, ho0, hb⟩; refine ⟨_, rfl, ?_⟩; have HOq8 := aQ (Kd.R_lower ho0 (yc (pB1 HB.out GEq6.out))); replace BKq6 := bb BKq6 hb; replace HB := bs HB hb; (try clear hb); (try clear ho0); obtain ⟨Ao37, co37, eo37⟩ := Kd.R_slice HOq8.out; subst eo37; have pq9 : 0 ≤ (0 : Int) := (by omega); have qq9 : 0 < (tq0.length : Int) := of_decide_eq_true as_; obtain ⟨adq9, eq9, hxq9_0⟩ := Kd.at_string (Kd.R_reads' HOq8.out).2.2 0 pq9 qq9; cases eq9; have qiq9 : (0 < tq0.length) = True := eq_true (by omega); (try rw [show ((0 : Int)).toNat = 0 from rfl] at hxq9_0); (try rw [Addr.add_zero'] at hxq9_0); replace pq9 := eq_true pq9; replace qq9 := eq_true qq9) | (refine gq 197 (some 20) Try.func197 #[.string (rdOf ByteArray.empty tq0 0)] ?_; (with_reducible refine (yaP.calls k (rdOf ByteArray.empty tq0 0) tq1 true _ A5.out).mono ?_); rintro e w38 ⟨rfl, hb⟩; refine ⟨_, rfl, ?_⟩; replace HOq8 := aQ (Kd.R_below (pR HOq8.out) hb); replace BKq6 := bb BKq6 hb; replace HB := bs HB hb; (try clear hb); have pqa : 0 ≤ (1 : Int) := (by omega); have qqa : 1 < (tq0.length : Int) := of_decide_eq_true as_; obtain ⟨adqa, eqa, hxqa_0⟩ := Kd.at_string (Kd.R_reads' HOq8.out).2.2 1 pqa qqa; obtain rfl : adq9 = adqa := (by injection eqa); (try simp only [show (1 : Int).toNat = 1 from rfl, Nat.reduceMul, Nat.reduceEqDiff, Go.Addr.add, ↓reduceIte] at hxqa_0); have qiqa : (1 < tq0.length) = True := eq_true (by omega); (try rw [show ((1 : Int)).toNat = 1 from rfl] at hxqa_0); replace pqa := eq_true pqa; replace qqa := eq_true qqa) | (refine gq 198 (some 28) Try.func198 #[.int .i64 tq1, .string (rdOf ByteArray.empty tq0 1)] ?_; (with_reducible refine (yo.calls k tq1 (rdOf ByteArray.empty tq0 1) tq2 false _ A7.out).mono ?_); rintro e w39 ⟨vqb, rfl, ho0, hb⟩; refine ⟨_, rfl, ?_⟩; replace HOq8 := aQ (Kd.R_below (pR HOq8.out) hb); have HOqc := aQ (Kd.R_lower ho0 (yc (pB1 HB.out GEq6.out))); replace BKq6 := bb BKq6 hb; replace HB := bs HB hb; (try clear hb); (try clear ho0); obtain ⟨Ao40, co40, eo40⟩ := Kd.R_slice HOqc.out; subst eo40) | ((with_reducible refine yb (N := 9) rfl ?_); refine bx 9 #[.int .i64 0, .slice none 0 0] 28 ?_; intro gbqd hg w41 hbox hb; replace HOq8 := aQ (Kd.R_below (pR HOq8.out) hb); replace HOqc := aQ (Kd.R_below (pR HOqc.out) hb); have BKqd := aQ (hbox); have GWqd := gB HB hg; have GEqd := gB HB hg; replace HB := bs HB hb; have NBq6_qd := nl BKq6 hg; have NBqd_q6 := ng BKq6 hg; replace BKq6 := bb BKq6 hb; clear hb hbox hg; have hnb42 := NBqd_q6.out; have hnc42 := NBq6_qd.out; obtain ⟨hcz43_0, hcz43_1, hfz43_0, hfz43_1⟩ := c2 BKqd; obtain ⟨hcz44_0, hcz44_1, hfz44_0, hfz44_1⟩ := c2 BKq6))
    refine bodyPost_ret (ya7 rfl _ _ gbq6 28 #[.int .i64 0, .slice none 0 0] (0, 0) _ rfl (by refine pkx ?_; refine yh (cs := #[.int .i64 0, .slice none 0 0]) ?_ 1 _ rfl; refine pkx ?_; refine yh (cs := #[.int .i64 0, .slice none 0 0]) ?_ 0 _ rfl; refine pkx ?_; refine yj ?_ NBq6_qd.out _; refine pkx ?_; refine yj ?_ NBq6_qd.out _; refine pkx ?_; exact BKq6.out) Try.underlying28 rfl (by kernel_rfl)) rfl ?_
    exact ⟨_, by first | rfl | (simp [errW_none, yi] <;> rfl) | (simp [*, errW_none, yi] <;> rfl), by first | exact Kd.R_nil _ _ _ _ _ | exact Kd.N_nil _ _ _ _ _ | exact Kd.V_nil _ _ _ _ _ | exact Kd.Q_nil _ _ _ _ _ | exact Kd.S_nil _ _ _ _ _, pB2 HB.out GEq6.out GEqd.out⟩
  ·replace c8 := Bool.eq_false_iff.mpr c8
   subst c8
   have H1 : (some (0, ([] : List Int), false)) = some (r1, r2, r3) := by rw [if_neg (show ¬ (false = true) by decide)] at H; exact H
   clear H
   have H := H1
   clear H1
   simp only [Option.some.injEq, Prod.mk.injEq] at H
   obtain ⟨rfl, rfl, rfl⟩ := H
   go_enter Try.func183, Try.ntmps183
   go_wp2_with (first | ((with_reducible refine yb (N := 2) rfl ?_); refine bx 2 #[.int .i64 0, .slice none 0 0] 28 ?_; intro gbq6 hg w45 hbox hb; have BKq6 := aQ (hbox); have GWq6 := gB HB hg; have GEq6 := gB HB hg; replace HB := bs HB hb; clear hb hbox hg) | (refine gq 196 (some 11) Try.func196 #[.string a0, .int .u8 32] ?_; (with_reducible refine (yx.calls k a0 32 tq0 _ A2.out).mono ?_); rintro e w46 ⟨vq7, rfl, ho0, hb⟩; refine ⟨_, rfl, ?_⟩; have HOq8 := aQ (Kd.R_lower ho0 (yc (pB1 HB.out GEq6.out))); replace BKq6 := bb BKq6 hb; replace HB := bs HB hb; (try clear hb); (try clear ho0); obtain ⟨Ao47, co47, eo47⟩ := Kd.R_slice HOq8.out; subst eo47; have pq9 : 0 ≤ (0 : Int) := (by omega); have qq9 : 0 < (tq0.length : Int) := of_decide_eq_true as_; obtain ⟨adq9, eq9, hxq9_0⟩ := Kd.at_string (Kd.R_reads' HOq8.out).2.2 0 pq9 qq9; cases eq9; have qiq9 : (0 < tq0.length) = True := eq_true (by omega); (try rw [show ((0 : Int)).toNat = 0 from rfl] at hxq9_0); (try rw [Addr.add_zero'] at hxq9_0); replace pq9 := eq_true pq9; replace qq9 := eq_true qq9) | (refine gq 197 (some 20) Try.func197 #[.string (rdOf ByteArray.empty tq0 0)] ?_; (with_reducible refine (yaP.calls k (rdOf ByteArray.empty tq0 0) tq1 false _ A5.out).mono ?_); rintro e w48 ⟨rfl, hb⟩; refine ⟨_, rfl, ?_⟩; replace HOq8 := aQ (Kd.R_below (pR HOq8.out) hb); replace BKq6 := bb BKq6 hb; replace HB := bs HB hb; (try clear hb); have pqa : 0 ≤ (1 : Int) := (by omega); have qqa : 1 < (tq0.length : Int) := of_decide_eq_true as_; obtain ⟨adqa, eqa, hxqa_0⟩ := Kd.at_string (Kd.R_reads' HOq8.out).2.2 1 pqa qqa; obtain rfl : adq9 = adqa := (by injection eqa); (try simp only [show (1 : Int).toNat = 1 from rfl, Nat.reduceMul, Nat.reduceEqDiff, Go.Addr.add, ↓reduceIte] at hxqa_0); have qiqa : (1 < tq0.length) = True := eq_true (by omega); (try rw [show ((1 : Int)).toNat = 1 from rfl] at hxqa_0); replace pqa := eq_true pqa; replace qqa := eq_true qqa) | (refine gq 198 (some 28) Try.func198 #[.int .i64 tq1, .string (rdOf ByteArray.empty tq0 1)] ?_; (with_reducible refine (yo.calls k tq1 (rdOf ByteArray.empty tq0 1) tq2 tq5 _ A7.out).mono ?_); rintro e w49 ⟨vqb, rfl, ho0, hb⟩; refine ⟨_, rfl, ?_⟩; replace HOq8 := aQ (Kd.R_below (pR HOq8.out) hb); have HOqc := aQ (Kd.R_lower ho0 (yc (pB1 HB.out GEq6.out))); replace BKq6 := bb BKq6 hb; replace HB := bs HB hb; (try clear hb); (try clear ho0); obtain ⟨Ao50, co50, eo50⟩ := Kd.R_slice HOqc.out; subst eo50) | ((with_reducible refine yb (N := 9) rfl ?_); refine bx 9 #[.int .i64 0, .slice none 0 0] 28 ?_; intro gbqd hg w51 hbox hb; replace HOq8 := aQ (Kd.R_below (pR HOq8.out) hb); replace HOqc := aQ (Kd.R_below (pR HOqc.out) hb); have BKqd := aQ (hbox); have GWqd := gB HB hg; have GEqd := gB HB hg; replace HB := bs HB hb; have NBq6_qd := nl BKq6 hg; have NBqd_q6 := ng BKq6 hg; replace BKq6 := bb BKq6 hb; clear hb hbox hg; have hnb52 := NBqd_q6.out; have hnc52 := NBq6_qd.out; obtain ⟨hcz53_0, hcz53_1, hfz53_0, hfz53_1⟩ := c2 BKqd; obtain ⟨hcz54_0, hcz54_1, hfz54_0, hfz54_1⟩ := c2 BKq6))
   refine bodyPost_ret (ya7 rfl _ _ gbq6 28 #[.int .i64 0, .slice none 0 0] (0, 0) _ rfl (by refine pkx ?_; refine yh (cs := #[.int .i64 0, .slice none 0 0]) ?_ 1 _ rfl; refine pkx ?_; refine yh (cs := #[.int .i64 0, .slice none 0 0]) ?_ 0 _ rfl; refine pkx ?_; refine yj ?_ NBq6_qd.out _; refine pkx ?_; refine yj ?_ NBq6_qd.out _; refine pkx ?_; exact BKq6.out) Try.underlying28 rfl (by kernel_rfl)) rfl ?_
   exact ⟨_, by first | rfl | (simp [errW_none, yi] <;> rfl) | (simp [*, errW_none, yi] <;> rfl), by first | exact Kd.R_nil _ _ _ _ _ | exact Kd.N_nil _ _ _ _ _ | exact Kd.V_nil _ _ _ _ _ | exact Kd.Q_nil _ _ _ _ _ | exact Kd.S_nil _ _ _ _ _, pB2 HB.out GEq6.out GEqd.out⟩
 ·rw [if_neg c3] at H
  have c3b0 : ((tq0.length : Int) == 2) = false := beq_eq_false_iff_ne.mpr c3
  have c3b1 : ((tq0.length : Int) != 2) = true := bne_iff_ne.mpr c3
  simp only [Option.some.injEq, Prod.mk.injEq] at H
  obtain ⟨rfl, rfl, rfl⟩ := H
  go_enter Try.func183, Try.ntmps183
  go_wp2_with (first | ((with_reducible refine yb (N := 2) rfl ?_); refine bx 2 #[.int .i64 0, .slice none 0 0] 28 ?_; intro gbq6 hg w55 hbox hb; have BKq6 := aQ (hbox); have GWq6 := gB HB hg; have GEq6 := gB HB hg; replace HB := bs HB hb; clear hb hbox hg) | (refine gq 196 (some 11) Try.func196 #[.string a0, .int .u8 32] ?_; (with_reducible refine (yx.calls k a0 32 tq0 _ A2.out).mono ?_); rintro e w56 ⟨vq7, rfl, ho0, hb⟩; refine ⟨_, rfl, ?_⟩; have HOq8 := aQ (Kd.R_lower ho0 (yc (pB1 HB.out GEq6.out))); replace BKq6 := bb BKq6 hb; replace HB := bs HB hb; (try clear hb); (try clear ho0); obtain ⟨Ao57, co57, eo57⟩ := Kd.R_slice HOq8.out; subst eo57; obtain ⟨hcz58_0, hcz58_1, hfz58_0, hfz58_1⟩ := c2 BKq6))
  refine bodyPost_ret (ya7 rfl _ _ gbq6 28 #[.int .i64 0, .slice none 0 0] (0, 0) _ rfl (by refine pkx ?_; refine yh (cs := #[.int .i64 0, .slice none 0 0]) ?_ 1 _ rfl; refine pkx ?_; refine yh (cs := #[.int .i64 0, .slice none 0 0]) ?_ 0 _ rfl; refine pkx ?_; exact BKq6.out) Try.underlying28 rfl (by kernel_rfl)) rfl ?_
  exact ⟨_, by first | rfl | (simp [errW_none, yi] <;> rfl) | (simp [*, errW_none, yi] <;> rfl), by first | exact Kd.R_nil _ _ _ _ _ | exact Kd.N_nil _ _ _ _ _ | exact Kd.V_nil _ _ _ _ _ | exact Kd.Q_nil _ _ _ _ _ | exact Kd.S_nil _ _ _ _ _, pB1 HB.out GEq6.out⟩
def ybC.f (s0_0 : List Int) (s0_1 : Int) (s0_2 : Int) (l1 : List ByteArray) : Option (ByteArray × Int × Int) := (yk.f s0_0 s0_1 s0_2 (l1.length : Int)).bind fun btq0 => (if 0 ≤ btq0.1 then (if btq0.1 < (l1.length : Int) then (some (rdOf ByteArray.empty l1 btq0.1, btq0.2.1, btq0.2.2)) else (none)) else (none))
theorem ybC.calls (g : Nat) (s0_0 : List Int) (s0_1 : Int) (s0_2 : Int) (A1 : Option Addr) (c1 : Nat) (l1 : List ByteArray) (r1 : ByteArray) (r2 : Int) (r3 : Int) (w0 w : World) (hI : IsS106 w0 w g s0_0 s0_1 s0_2) (hB : Below w0.heap.size w0 w) (hr1 : Kd.C Kd.string w A1 l1.length l1) (hc1 : l1.length ≤ c1) (hf1 : ∀ ad, A1 = some ad → 0 < l1.length → ad.block ≠ g) (h : ybC.f s0_0 s0_1 s0_2 l1 = some (r1, r2, r3)) :
  Calls Try.prog 184 #[.pointer (some ⟨g, 0, none⟩), .slice A1 l1.length c1] w fun e w' => e = .returned (.string r1) ∧ IsS106 w0 w' g s0_0 r2 r3 ∧ Below w0.heap.size w0 w' ∧ KeepBut w w' g none := by
 have HR1 := aQ hr1
 have HC1 := aQ hc1
 clear hr1 hc1
 have HI0 := aQ hI
 have HK := aQ (KeepBut.refl w g none)
 have HL := aQ hB.size
 clear hI
 have HW0 := aQ hB.size
 have HB := aQ hB
 clear hB
 have H := h
 clear h
 unfold ybC.f at H
 (try dsimp only at H)
 replace H := bo H; obtain ⟨⟨tq0, tq1, tq2⟩, A3, H⟩ := H
 (try dsimp only at H)
 replace H := gd H; obtain ⟨c4, H⟩ := H
 have c4b0 := decide_eq_true c4
 clear c4
 replace H := gd H; obtain ⟨c5, H⟩ := H
 have c5b0 := decide_eq_true c5
 clear c5
 simp only [Option.some.injEq, Prod.mk.injEq] at H
 obtain ⟨rfl, rfl, rfl⟩ := H
 go_enter Try.func184, Try.ntmps184
 go_wp2_with (first | (refine gq 91 (some 9) Try.func91 #[.pointer (some ⟨g, 0, none⟩), .int .i64 (l1.length : Int)] ?_; (with_reducible refine (yk.calls g s0_0 s0_1 s0_2 (l1.length : Int) tq0 tq1 tq2 w0 _ ?side1 ?side2 A3.out).mono ?_); (case side1 => exact pi_ HI0); (case side2 => exact pbI HB); rintro e w6 ⟨rfl, hi, hb, hk⟩; refine ⟨_, rfl, ?_⟩; replace HK := kh HK hk; replace HB := aQ (hb); replace HI0 := aQ (hi); (try clear hb); (try clear hk); (try clear hi); have pq3 : 0 ≤ (tq0 : Int) := of_decide_eq_true as_; have qq3 : tq0 < (l1.length : Int) := of_decide_eq_true as_; obtain ⟨adq3, eq3, hxq3_0⟩ := Kd.at_string HR1.out tq0 pq3 qq3; cases eq3; replace hxq3_0 := ye3 HK.out hxq3_0 (by first | (rw [ycx]; exact hf1 _ rfl (by omega)) | exact hf1 _ rfl (by omega) | exact hf1 adq3 rfl (by omega)); replace pq3 := eq_true pq3; replace qq3 := eq_true qq3))
 go_ret
 exact ⟨re_, pi_ HI0, pbI HB, pq HK⟩
def yby.f (k : Nat) (s0_0 : List Int) (s0_1 : Int) (s0_2 : Int) : Option (Int × List Int × Int × Int) := (ybC.f s0_0 s0_1 s0_2 (([(⟨#[48, 32, 45]⟩ : ByteArray), (⟨#[49, 32, 45]⟩ : ByteArray), (⟨#[49, 32, 97]⟩ : ByteArray), (⟨#[52, 32, 97, 98, 44, 97, 99, 44, 98, 99, 44, 97, 100, 44, 98, 100, 44, 99, 100]⟩ : ByteArray), (⟨#[52, 32, 97, 98, 44, 97, 99, 44, 97, 100, 44, 98, 100, 44, 99, 100]⟩ : ByteArray), (⟨#[51, 32, 97, 44, 98]⟩ : ByteArray), (⟨#[53, 32, 97, 98, 44, 97, 99, 44, 98, 99, 44, 97, 100, 44, 98, 100]⟩ : ByteArray), (⟨#[50, 32, 45]⟩ : ByteArray), (⟨#[51, 32, 97, 98, 99]⟩ : ByteArray)] : List ByteArray))).bind fun btq0 => ((yam.f k btq0.1).bind fun btq1 => (some (btq1.1, btq1.2.1, btq0.2.1, btq0.2.2)))
theorem yby.calls (k : Nat) (g : Nat) (s0_0 : List Int) (s0_1 : Int) (s0_2 : Int) (r1 : Int) (r2 : List Int) (r3 : Int) (r4 : Int) (w0 w : World) (hI : IsS106 w0 w g s0_0 s0_1 s0_2) (hB : Below w0.heap.size w0 w) (h : yby.f k s0_0 s0_1 s0_2 = some (r1, r2, r3, r4)) :
  Calls Try.prog 166 #[.pointer (some ⟨g, 0, none⟩)] w fun e w' => ∃ v1_ : Value, e = .returned (.agg #[.int .i64 r1, v1_]) ∧ Kd.R (Kd.int .i64) 3 w' w.heap.size (fun _ => True) v1_ r2 ∧ IsS106 w0 w' g s0_0 r3 r4 ∧ Below w0.heap.size w0 w' ∧ KeepBut w w' g none := by
 have hu28 := Try.underlying28
 have HI0 := aQ hI
 have HK := aQ (KeepBut.refl w g none)
 have HL := aQ hB.size
 clear hI
 have HW0 := aQ hB.size
 have HB := aQ hB
 clear hB
 have H := h
 clear h
 unfold yby.f at H
 (try dsimp only at H)
 obtain ⟨yq2, hyq2⟩ : ∃ y_ : List ByteArray, y_ = (([(⟨#[48, 32, 45]⟩ : ByteArray), (⟨#[49, 32, 45]⟩ : ByteArray), (⟨#[49, 32, 97]⟩ : ByteArray), (⟨#[52, 32, 97, 98, 44, 97, 99, 44, 98, 99, 44, 97, 100, 44, 98, 100, 44, 99, 100]⟩ : ByteArray), (⟨#[52, 32, 97, 98, 44, 97, 99, 44, 97, 100, 44, 98, 100, 44, 99, 100]⟩ : ByteArray), (⟨#[51, 32, 97, 44, 98]⟩ : ByteArray), (⟨#[53, 32, 97, 98, 44, 97, 99, 44, 98, 99, 44, 97, 100, 44, 98, 100]⟩ : ByteArray), (⟨#[50, 32, 45]⟩ : ByteArray), (⟨#[51, 32, 97, 98, 99]⟩ : ByteArray)] : List ByteArray)) := ⟨_, rfl⟩
 replace H : ((ybC.f s0_0 s0_1 s0_2 yq2).bind fun btq0 => ((yam.f k btq0.1).bind fun btq1 => (some (btq1.1, btq1.2.1, btq0.2.1, btq0.2.2)))) = some (r1, r2, r3, r4) := by first | (rw [hyq2]; with_reducible exact H) | (rw [hyq2]; exact H)
 have Nyq2 := aQ hyq2
 clear hyq2
 replace H := bo H; obtain ⟨⟨tq0, tq3, tq4⟩, A2, H⟩ := H
 (try dsimp only at H)
 replace H := bo H; obtain ⟨⟨tq1, tq5, tq6⟩, A3, H⟩ := H
 (try dsimp only at H)
 simp only [Option.some.injEq, Prod.mk.injEq] at H
 obtain ⟨rfl, rfl, rfl, rfl⟩ := H
 go_enter Try.func166, Try.ntmps166
 go_wp2_with (first | ((with_reducible refine yb (N := 2) rfl ?_); refine bx 2 #[.int .i64 0, .slice none 0 0] 28 ?_; intro gbq7 hg w4 hbox hb; replace HB := bsI HB hb; have BKq7 := aQ (hbox); have GWq7 := gw HK hg; have GEq7 := ge HK HW0 hg; replace HK := kt HK hb; have NB0_q7 := nI HI0 hg; have NBq7_0 := mI HI0 hg; replace HI0 := bI HI0 hb; clear hb hbox hg) | ((with_reducible refine yb (N := 7) rfl ?_); refine Kd.R_lit Kd.string _ 9 ?hg (N := 7) ?hd (xs := ([(⟨#[48, 32, 45]⟩ : ByteArray), (⟨#[49, 32, 45]⟩ : ByteArray), (⟨#[49, 32, 97]⟩ : ByteArray), (⟨#[52, 32, 97, 98, 44, 97, 99, 44, 98, 99, 44, 97, 100, 44, 98, 100, 44, 99, 100]⟩ : ByteArray), (⟨#[52, 32, 97, 98, 44, 97, 99, 44, 97, 100, 44, 98, 100, 44, 99, 100]⟩ : ByteArray), (⟨#[51, 32, 97, 44, 98]⟩ : ByteArray), (⟨#[53, 32, 97, 98, 44, 97, 99, 44, 98, 99, 44, 97, 100, 44, 98, 100]⟩ : ByteArray), (⟨#[50, 32, 45]⟩ : ByteArray), (⟨#[51, 32, 97, 98, 99]⟩ : ByteArray)] : List ByteArray)) (inner := [.string (⟨#[48, 32, 45]⟩ : ByteArray), .string (⟨#[49, 32, 45]⟩ : ByteArray), .string (⟨#[49, 32, 97]⟩ : ByteArray), .string (⟨#[52, 32, 97, 98, 44, 97, 99, 44, 98, 99, 44, 97, 100, 44, 98, 100, 44, 99, 100]⟩ : ByteArray), .string (⟨#[52, 32, 97, 98, 44, 97, 99, 44, 97, 100, 44, 98, 100, 44, 99, 100]⟩ : ByteArray), .string (⟨#[51, 32, 97, 44, 98]⟩ : ByteArray), .string (⟨#[53, 32, 97, 98, 44, 97, 99, 44, 98, 99, 44, 97, 100, 44, 98, 100]⟩ : ByteArray), .string (⟨#[50, 32, 45]⟩ : ByteArray), .string (⟨#[51, 32, 97, 98, 99]⟩ : ByteArray)]) (ok := fun _ => True) (okp := fun _ => True) ?hr ?hp (fun _ hk => hk) trivial (Below.refl _ _) (Nat.le_refl _) (by simp) ?_; (case hd => rfl); (case hg => rfl); (case hr => first | (go_simp; done) | (go_simp; rfl)); (case hp => exact (Reps.one (show Kd.M Kd.string _ _ _ (⟨#[48, 32, 45]⟩ : ByteArray) [.string (⟨#[48, 32, 45]⟩ : ByteArray)] from rfl) (Reps.one (show Kd.M Kd.string _ _ _ (⟨#[49, 32, 45]⟩ : ByteArray) [.string (⟨#[49, 32, 45]⟩ : ByteArray)] from rfl) (Reps.one (show Kd.M Kd.string _ _ _ (⟨#[49, 32, 97]⟩ : ByteArray) [.string (⟨#[49, 32, 97]⟩ : ByteArray)] from rfl) (Reps.one (show Kd.M Kd.string _ _ _ (⟨#[52, 32, 97, 98, 44, 97, 99, 44, 98, 99, 44, 97, 100, 44, 98, 100, 44, 99, 100]⟩ : ByteArray) [.string (⟨#[52, 32, 97, 98, 44, 97, 99, 44, 98, 99, 44, 97, 100, 44, 98, 100, 44, 99, 100]⟩ : ByteArray)] from rfl) (Reps.one (show Kd.M Kd.string _ _ _ (⟨#[52, 32, 97, 98, 44, 97, 99, 44, 97, 100, 44, 98, 100, 44, 99, 100]⟩ : ByteArray) [.string (⟨#[52, 32, 97, 98, 44, 97, 99, 44, 97, 100, 44, 98, 100, 44, 99, 100]⟩ : ByteArray)] from rfl) (Reps.one (show Kd.M Kd.string _ _ _ (⟨#[51, 32, 97, 44, 98]⟩ : ByteArray) [.string (⟨#[51, 32, 97, 44, 98]⟩ : ByteArray)] from rfl) (Reps.one (show Kd.M Kd.string _ _ _ (⟨#[53, 32, 97, 98, 44, 97, 99, 44, 98, 99, 44, 97, 100, 44, 98, 100]⟩ : ByteArray) [.string (⟨#[53, 32, 97, 98, 44, 97, 99, 44, 98, 99, 44, 97, 100, 44, 98, 100]⟩ : ByteArray)] from rfl) (Reps.one (show Kd.M Kd.string _ _ _ (⟨#[50, 32, 45]⟩ : ByteArray) [.string (⟨#[50, 32, 45]⟩ : ByteArray)] from rfl) (Reps.one (show Kd.M Kd.string _ _ _ (⟨#[51, 32, 97, 98, 99]⟩ : ByteArray) [.string (⟨#[51, 32, 97, 98, 99]⟩ : ByteArray)] from rfl) (Reps.none _ _))))))))))); intro vq8 w5 ho6 hb hg_ hnew_; clear hg_ hnew_; (first | rw [← Nyq2.out] at ho6 | (simp only [Int.reduceToNat] at ho6; rw [← Nyq2.out] at ho6)); have HOq9 := aQ (Kd.R_lower ho6 (yR (w := w) (g := g) (row := none) (pq HK))); replace BKq7 := bb BKq7 hb; replace HK := kt HK hb; replace HB := bsI HB hb; replace HI0 := bI HI0 hb; clear hb ho6; obtain ⟨Ao7, co7, eo7⟩ := Kd.R_slice HOq9.out; subst eo7) | (refine gq 184 (some 8) Try.func184 #[.pointer (some ⟨g, 0, none⟩), .slice Ao7 yq2.length co7] ?_; (with_reducible refine (ybC.calls g s0_0 s0_1 s0_2 _ _ yq2 tq0 tq3 tq4 w0 _ ?side1 ?side2 ?side3 ?side4 ?side5 A2.out).mono ?_); (case side1 => exact pi_ HI0); (case side2 => exact pbI HB); (case side3 => exact pC ((Kd.R_reads' HOq9.out).2.2)); (case side4 => exact (Kd.R_reads' HOq9.out).2.1); (case side5 => exact ycT (IsS106.own_ne HI0.out HOq9.out (by decide))); rintro e w8 ⟨rfl, hi, hb, hk⟩; refine ⟨_, rfl, ?_⟩; replace BKq7 := kk BKq7 hk NBq7_0.out; replace HOq9 := aQ (Kd.R_mono (Kd.R_keep (IsS106.apart (show IsS106 w0 _ g s0_0 s0_1 s0_2 from pi_ HI0) (pR HOq9.out) (by decide)) hk (fun _ h => h.2)) (fun _ h => h.1)); replace HK := kh HK hk; replace HB := aQ (hb); replace HI0 := aQ (hi); (try clear hb); (try clear hk); (try clear hi)) | (refine gq 183 (some 9) Try.func183 #[.string tq0] ?_; (with_reducible refine (yam.calls k tq0 tq1 tq5 tq6 _ A3.out).mono ?_); rintro e w9 ⟨vqa, rfl, ho0, hb⟩; refine ⟨_, rfl, ?_⟩; replace HOq9 := aQ (Kd.R_below (pR HOq9.out) hb); have HOqb := aQ (Kd.R_lower ho0 (yR (w := w) (g := g) (row := none) (pq HK))); replace BKq7 := bb BKq7 hb; replace HK := kt HK hb; replace HB := bsI HB hb; replace HI0 := bI HI0 hb; (try clear hb); (try clear ho0)) | ((with_reducible refine yb (N := 3) rfl ?_); refine bx 3 #[.int .i64 0, .slice none 0 0] 28 ?_; intro gbqc hg w10 hbox hb; replace HOq9 := aQ (Kd.R_below (pR HOq9.out) hb); replace HOqb := aQ (Kd.R_below (pR HOqb.out) hb); replace HB := bsI HB hb; have BKqc := aQ (hbox); have GWqc := gw HK hg; have GEqc := ge HK HW0 hg; replace HK := kt HK hb; have NBq7_qc := nl BKq7 hg; have NBqc_q7 := ng BKq7 hg; replace BKq7 := bb BKq7 hb; have NB0_qc := nI HI0 hg; have NBqc_0 := mI HI0 hg; replace HI0 := bI HI0 hb; clear hb hbox hg; have hnb11 := NBqc_q7.out; have hnc11 := NBq7_qc.out; have hnb12 := NBqc_0.out; have hnc12 := NB0_qc.out; obtain ⟨hcz13_0, hcz13_1, hfz13_0, hfz13_1⟩ := c2 BKqc; obtain ⟨Ao14, co14, eo14⟩ := Kd.R_slice HOqb.out; subst eo14; have hnb15 := NBq7_0.out; have hnc15 := NB0_q7.out; obtain ⟨hcz16_0, hcz16_1, hfz16_0, hfz16_1⟩ := c2 BKq7))
 refine bodyPost_ret (results_cell_row rfl _ _ gbq7 28 #[.int .i64 tq1, .slice Ao14 tq5.length co14] (0, 0) _ rfl (by refine pkx ?_; refine yh (cs := #[.int .i64 tq1, .slice none 0 0]) ?_ 1 _ rfl; refine pkx ?_; refine yh (cs := #[.int .i64 0, .slice none 0 0]) ?_ 0 _ rfl; refine pkx ?_; refine yj ?_ NBq7_qc.out _; refine pkx ?_; refine yj ?_ NBq7_qc.out _; refine pkx ?_; exact BKq7.out) Try.underlying28 rfl (by kernel_rfl)) rfl ?_
 exact ⟨_, by first | rfl | (simp [errW_none, yi] <;> rfl) | (simp [*, errW_none, yi] <;> rfl), by refine pRx ?_; exact Kd.R_mono (Kd.R_far (p := ⟨gbq7, 1, none⟩) (Kd.R_far (p := ⟨gbq7, 0, none⟩) (Kd.R_far (p := ⟨gbqc, 1, none⟩) (Kd.R_far (p := ⟨gbqc, 0, none⟩) (Kd.R_types (Kd.R_types HOqb.out BKqc.out (by decide)) BKq7.out (by decide)) (fun _ hk => hk.1.2) (.int .i64 tq1)) (fun _ hk => hk.1.2) (.slice Ao14 tq5.length co14)) (fun _ hk => hk.2) (.int .i64 tq1)) (fun _ hk => hk.2) (.slice Ao14 tq5.length co14)) (fun _ hk => trivial), pi_ HI0, pbI HB, pq HK⟩
end Go.Proofs.Ytimkekeaeojpkaa.A
