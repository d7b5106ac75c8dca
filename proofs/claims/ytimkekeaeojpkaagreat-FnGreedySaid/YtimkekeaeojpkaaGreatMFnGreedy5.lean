/- Machine side of the law FnGreedy: Go functions as Lean functions, and proofs that calls come to what these tell. Conditions: those in each theorem. -/
import Derived.Test.YtimkekeaeojpkaaGreatMFnGreedy0
import Derived.Test.YtimkekeaeojpkaaGreatMFnGreedy1
import Derived.Test.YtimkekeaeojpkaaGreatMFnGreedy2
import Derived.Test.YtimkekeaeojpkaaGreatMFnGreedy3
import Derived.Test.YtimkekeaeojpkaaGreatMFnGreedy4
set_option maxHeartbeats 8000000
set_option maxRecDepth 100000
namespace Go.Proofs.YtimkekeaeojpkaaGreat.A
open Go.RowKit Go.Proofs.YtimkekeaeojpkaaGreatW.PrintWords Go.Proofs.YtimkekeaeojpkaaGreatW.PrintLast Go.Proofs.YtimkekeaeojpkaaGreatW.PrintMore
attribute [local go_sem] cC cE cW cX co cp cD cG
set_option linter.unusedVariables false
set_option linter.unusedSimpArgs false
def bd.f (k : Nat) (l0 : List Int) : Option (Int × List Int × List Int × Int) := (bn.f k l0).bind fun btq0 => (if (btq0.2.1.length : Int) > 0 then (if btq0.2.2.2 ≥ 0 then (if (btq0.2.1.length : Int) = 0 then (none) else (if 0 ≤ (Int.tmod btq0.2.2.2 (btq0.2.1.length : Int)) then (if (Int.tmod btq0.2.2.2 (btq0.2.1.length : Int)) < (btq0.2.1.length : Int) then (some (btq0.1, btq0.2.1, btq0.2.2.1, rd btq0.2.1 (Int.tmod btq0.2.2.2 (btq0.2.1.length : Int)))) else (none)) else (none))) else (some (btq0.1, btq0.2.1, btq0.2.2.1, btq0.2.2.2))) else (some (btq0.1, btq0.2.1, btq0.2.2.1, btq0.2.2.2)))
def bd.T3 : Bool × List (List Nat × List Nat) := (true, [([], []), ([], []), ([], []), ([2], [2]), ([], []), ([], []), ([5], [5]), ([6], [6]), ([4, 7], [4, 7]), ([3, 8], [3, 8]), ([9], [9]), ([0, 0], [0]), ([1, 11, 0, 1, 11], [1]), ([10, 12, 0, 1, 2, 3, 4, 5, 6, 7, 8, 9, 10, 11, 12], [10])])
def bd.B3 : List Nat := [0, 0, 0, 4, 0, 0, 32, 96, 240, 508, 1020, 1, 2051, 8191]
theorem bd.tab3 : rtab .any (eV Tryz.f30 3) = bd.T3 := by kernel_rfl
theorem bd.bits3 : cY bd.T3.2 bd.B3 = true := by kernel_rfl
theorem bd.calls (k : Nat) (A0 : Option Addr) (c0 : Nat) (l0 : List Int) (r1 : Int) (r2 : List Int) (r3 : List Int) (r4 : Int) (w : World) (hr0 : Kd.C (Kd.int .u8) w A0 l0.length l0) (hc0 : l0.length ≤ c0) (h : bd.f k l0 = some (r1, r2, r3, r4)) :
  Calls Tryz.prog 30 #[.slice A0 l0.length c0] w fun e w' => ∃ v1_ v2_ : Value, e = .returned (.tuple #[.agg #[.int .i64 r1, v1_], v2_, .int .i64 r4]) ∧ Kd.R (Kd.int .i64) 3 w' w.heap.size (fun k_ => some k_ ≠ (v2_ : Value).ownBlock) v1_ r2 ∧ Kd.R (Kd.int .i64) 3 w' w.heap.size (fun k_ => some k_ ≠ (v1_ : Value).ownBlock) v2_ r3 ∧ Below w.heap.size w w' := by
 have hu26 := Tryz.underlying26
 have HR0 := aQ hr0
 have HC0 := aQ hc0
 clear hr0 hc0
 have HB := aQ (Below.refl w.heap.size w)
 have H := h
 clear h
 unfold bd.f at H
 (try dsimp only at H)
 replace H := bo H; obtain ⟨⟨tq0, tq1, tq2, tq3⟩, A2, H⟩ := H
 (try dsimp only at H)
 by_cases c3 : (tq1.length : Int) > 0
 ·rw [if_pos c3] at H
  have c3b0 := decide_eq_true c3
  have c3b1 : decide (0 < tq1.length) = true := decide_eq_true (by omega)
  clear c3
  by_cases c4 : tq3 ≥ 0
  ·rw [if_pos c4] at H
   have c4b0 := decide_eq_true c4
   clear c4
   by_cases c5 : (tq1.length : Int) = 0
   ·rw [if_pos c5] at H
    exact absurd H (by simp)
   ·rw [if_neg c5] at H
    have c5b0 : ((tq1.length : Int) == 0) = false := beq_eq_false_iff_ne.mpr c5
    have c5b1 : ((tq1.length : Int) != 0) = true := bne_iff_ne.mpr c5
    have c5b2 : ¬ (tq1 = []) := fun h_ => c5 (by rw [h_]; rfl)
    obtain ⟨ji6, hji6⟩ : ∃ j_ : Int, (Int.tmod tq3 (tq1.length : Int)) = j_ := ⟨_, rfl⟩
    replace H : (if 0 ≤ (ji6) then (if (ji6) < (tq1.length : Int) then (some (tq0, tq1, tq2, rd tq1 (ji6))) else (none)) else (none)) = some (r1, r2, r3, r4) := by first | (rw [hji6] at H; exact H) | (simp only [hji6] at H ⊢; exact H)
    (try rw [hji6] at A2)
    replace H := gd H; obtain ⟨c7, H⟩ := H
    have c7b0 := decide_eq_true c7
    clear c7
    replace H := gd H; obtain ⟨c8, H⟩ := H
    have c8b0 := decide_eq_true c8
    clear c8
    simp only [Option.some.injEq, Prod.mk.injEq] at H
    obtain ⟨rfl, rfl, rfl, rfl⟩ := H
    go_enter Tryz.func30, Tryz.ntmps30
    try go_wp2_with (first | ((with_reducible refine af (N := 2) rfl ?_); refine bx 2 #[.int .i64 0, .slice none 0 0] 26 ?_; intro gbq4 hg w9 hbox hb; have BKq4 := aQ (hbox); have GWq4 := gB HB hg; have GEq4 := gB HB hg; replace HB := bs HB hb; clear hb hbox hg) | (refine gq 113 (some 10) Tryz.func113 #[.slice A0 l0.length c0] ?_; (with_reducible refine (bn.calls k _ _ l0 tq0 tq1 tq2 tq3 _ ?side1 ?side2 A2.out).mono ?_); (case side1 => exact pC (Kd.C_below HR0.out HB.out)); (case side2 => exact HC0.out); rintro e w10 ⟨vq5, vq6, rfl, ho0, ho1, hb⟩; refine ⟨_, rfl, ?_⟩; have HOq7 := aQ (Kd.R_lower ho0 (aa (pB1 HB.out GEq4.out))); have HOq8 := aQ (Kd.R_lower ho1 (aa (pB1 HB.out GEq4.out))); replace BKq4 := bb BKq4 hb; replace HB := bs HB hb; (try clear hb); (try clear ho0); (try clear ho1)) | ((with_reducible refine af (N := 5) rfl ?_); refine bx 5 #[.int .i64 0, .slice none 0 0] 26 ?_; intro gbq9 hg w11 hbox hb; replace HOq7 := aQ (Kd.R_below (pR HOq7.out) hb); replace HOq8 := aQ (Kd.R_below (pR HOq8.out) hb); have BKq9 := aQ (hbox); have GWq9 := gB HB hg; have GEq9 := gB HB hg; replace HB := bs HB hb; have NBq4_q9 := nl BKq4 hg; have NBq9_q4 := ng BKq4 hg; replace BKq4 := bb BKq4 hb; clear hb hbox hg; have hnb12 := NBq9_q4.out; have hnc12 := NBq4_q9.out; obtain ⟨hcz13_0, hcz13_1, hfz13_0, hfz13_1⟩ := c2 BKq9; obtain ⟨Ao14, co14, eo14⟩ := Kd.R_slice HOq7.out; subst eo14))
    have n0_ : Aside0 (Kd.R (Kd.int .i64) 3 ((w11.setCell ⟨gbq9, 0, none⟩ (.int .i64 tq0)).setCell ⟨gbq9, 1, none⟩ (.slice Ao14 tq1.length co14)) w.heap.size (fun k_ => some k_ ≠ (vq6 : Value).ownBlock) (.slice Ao14 tq1.length co14) tq1) := ⟨by refine pRx ?_; exact Kd.R_mono (Kd.R_far (p := ⟨gbq9, 1, none⟩) (Kd.R_far (p := ⟨gbq9, 0, none⟩) (Kd.R_types HOq7.out BKq9.out (by decide)) (fun _ hk => hk.2) (.int .i64 tq0)) (fun _ hk => hk.2) (.slice Ao14 tq1.length co14)) (fun _ hk => hk.1)⟩
    have n1_ : Aside0 (Kd.R (Kd.int .i64) 3 ((w11.setCell ⟨gbq9, 0, none⟩ (.int .i64 tq0)).setCell ⟨gbq9, 1, none⟩ (.slice Ao14 tq1.length co14)) w.heap.size (fun k_ => some k_ ≠ (.slice Ao14 tq1.length co14 : Value).ownBlock) vq6 tq2) := ⟨by refine pRx ?_; exact Kd.R_mono (Kd.R_far (p := ⟨gbq9, 1, none⟩) (Kd.R_far (p := ⟨gbq9, 0, none⟩) (Kd.R_types HOq8.out BKq9.out (by decide)) (fun _ hk => hk.2) (.int .i64 tq0)) (fun _ hk => hk.2) (.slice Ao14 tq1.length co14)) (fun _ hk => hk.1)⟩
    have n2_ : Aside0 (((w11.setCell ⟨gbq9, 0, none⟩ (.int .i64 tq0)).setCell ⟨gbq9, 1, none⟩ (.slice Ao14 tq1.length co14)).heap[gbq4]? = some (.cells #[.int .i64 0, .slice none 0 0] 26 (0, 0))) := ⟨by refine pkx ?_; refine aU ?_ NBq4_q9.out _; refine pkx ?_; refine aU ?_ NBq4_q9.out _; refine pkx ?_; exact BKq4.out⟩
    have n3_ : Aside0 (((w11.setCell ⟨gbq9, 0, none⟩ (.int .i64 tq0)).setCell ⟨gbq9, 1, none⟩ (.slice Ao14 tq1.length co14)).heap[gbq9]? = some (.cells #[.int .i64 tq0, .slice Ao14 tq1.length co14] 26 (0, 0))) := ⟨by refine pkx ?_; refine al (cs := #[.int .i64 tq0, .slice none 0 0]) ?_ 1 _ rfl; refine pkx ?_; refine al (cs := #[.int .i64 0, .slice none 0 0]) ?_ 0 _ rfl; refine pkx ?_; exact BKq9.out⟩
    have n4_ : Aside0 (Below w.heap.size w ((w11.setCell ⟨gbq9, 0, none⟩ (.int .i64 tq0)).setCell ⟨gbq9, 1, none⟩ (.slice Ao14 tq1.length co14))) := ⟨pB2 HB.out GEq4.out GEq9.out⟩
    (try clear HOq7)
    (try clear HOq8)
    (try clear BKq4)
    (try clear BKq9)
    (try clear HB)
    generalize ((w11.setCell ⟨gbq9, 0, none⟩ (.int .i64 tq0)).setCell ⟨gbq9, 1, none⟩ (.slice Ao14 tq1.length co14)) = w15 at n0_ n1_ n2_ n3_ n4_ ⊢
    have HOq7 := n0_
    have HOq8 := n1_
    have BKq4 := n2_
    have BKq9 := n3_
    have HB := n4_
    clear n0_ n1_ n2_ n3_ n4_
    replace HOq7 := aQ (Kd.R_drew HOq7.out); replace HOq8 := aQ (Kd.R_drew HOq8.out); replace BKq4 := aQ (b7 BKq4.out); replace BKq9 := aQ (b7 BKq9.out); replace HB := aQ (a7 HB.out)
    have pqa : 0 ≤ ((ji6) : Int) := of_decide_eq_true as_
    have qqa : (ji6) < (tq1.length : Int) := of_decide_eq_true as_
    obtain ⟨adqa, eqa, hxqa_0⟩ := Kd.at_int (Kd.R_reads' HOq7.out).2.2 (ji6) pqa qqa
    cases eqa
    replace pqa := eq_true pqa
    replace qqa := eq_true qqa
    refine cN (n := 14) (S := fun w' => w'.cell? ⟨gbq9, 0, none⟩ = some (.int .i64 tq0) ∧ w'.cell? ⟨gbq9, 1, none⟩ = some (.slice (some adqa) tq1.length co14) ∧ w'.cell? (adqa.add ((ji6)).toNat) = some (.int .i64 (rd tq1 (ji6)))) (ds := []) _ (by kernel_rfl) rfl rfl ⟨(ac BKq9.out 0).trans rfl, (ac BKq9.out 1).trans rfl, hxqa_0⟩ (fun hHeld => ?_); refine b0 bd.tab3 bd.bits3 (fun HT_ HW_ => ?_)
    generalize w15.drew = w16 at HOq7 HOq8 BKq4 BKq9 HB hxqa_0 hHeld ⊢
    refine pA 1 (some 23) HT_ ?_
    refine pA 2 (some 24) HT_ ?_
    refine pA 4 (some 26) HT_ ?_
    refine pA 5 (some 27) HT_ ?_
    refine tA3 0 (some 22) HT_ HW_ hHeld ?_
    refine tA3 3 (some 25) HT_ HW_ hHeld ?_
    refine tA3 6 (some 28) HT_ HW_ hHeld ?_
    refine pA 7 (some 29) HT_ ?_
    refine pA 8 (some 30) HT_ ?_
    refine pA 9 (some 31) HT_ ?_
    refine tA3 10 (some 32) HT_ HW_ hHeld ?_
    refine onA (i := 11) (N := none) HT_ (h := fun K hK => ?_)
    have hs17 : w16.cell? ⟨gbq4, 0, none⟩ = some (.int .i64 0) := (ac BKq4.out 0).trans rfl
    have hfs17 := aH BKq4.out 0
    have hns17_1 := NBq9_q4.out
    have hms17_1 := NBq4_q9.out
    have hs18 : w16.cell? ⟨gbq4, 1, none⟩ = some (.slice none 0 0) := (ac BKq4.out 1).trans rfl
    have hfs18 := aH BKq4.out 1
    have hns18_1 := NBq9_q4.out
    have hms18_1 := NBq4_q9.out
    refine iK (w1 := ?_) (by rfl) rfl ?_ ?_
    rotate_left
    ·go_simp
     rfl
    refine hK.out _ _ ⟨((cR (p := ⟨gbq4, _, none⟩) NBq9_q4.out _).trans (((cR (p := ⟨gbq4, _, none⟩) NBq9_q4.out _).trans (hHeld.1)))), ((cR (p := ⟨gbq4, _, none⟩) NBq9_q4.out _).trans (((cR (p := ⟨gbq4, _, none⟩) NBq9_q4.out _).trans (hHeld.2.1)))), ((cR (p := ⟨gbq4, _, none⟩) (by first | exact Kd.own_blk (Kd.R_ne HOq7.out BKq4.out (by decide)) | (rw [dx]; exact Kd.own_blk (Kd.R_ne HOq7.out BKq4.out (by decide))) | (show (Addr.add _ _).block ≠ _; rw [dx]; exact Kd.own_blk (Kd.R_ne HOq7.out BKq4.out (by decide))) | (dsimp only; exact Kd.own_blk (Kd.R_ne HOq7.out BKq4.out (by decide)))) _).trans (((cR (p := ⟨gbq4, _, none⟩) (by first | exact Kd.own_blk (Kd.R_ne HOq7.out BKq4.out (by decide)) | (rw [dx]; exact Kd.own_blk (Kd.R_ne HOq7.out BKq4.out (by decide))) | (show (Addr.add _ _).block ≠ _; rw [dx]; exact Kd.own_blk (Kd.R_ne HOq7.out BKq4.out (by decide))) | (dsimp only; exact Kd.own_blk (Kd.R_ne HOq7.out BKq4.out (by decide)))) _).trans (hHeld.2.2))))⟩ (fun hHeld => ?_)
    clear hK K
    refine pA 12 (some 3) HT_ ?_
    refine pA 13 (some 4) HT_ ?_
    refine dn (cB HT_.out (by kernel_rfl)) ?_
    try go_wp2
    refine bodyPost_ret (dw rfl _ _ gbq4 26 #[.int .i64 tq0, .slice (some adqa) tq1.length co14] (0, 0) _ rfl (by refine pkx ?_; refine al (cs := #[.int .i64 tq0, .slice none 0 0]) ?_ 1 _ rfl; refine pkx ?_; refine al (cs := #[.int .i64 0, .slice none 0 0]) ?_ 0 _ rfl; refine pkx ?_; exact BKq4.out) Tryz.underlying26 rfl (by kernel_rfl)) rfl ?_
    exact ⟨_, _, by first | rfl | (simp [errW_none, aj] <;> rfl) | (simp only [← hji6]; first | rfl | (simp [errW_none, aj] <;> rfl)) | (simp [*, errW_none, aj] <;> rfl), by refine pRx ?_; exact Kd.R_mono (Kd.R_far (p := ⟨gbq4, 1, none⟩) (Kd.R_far (p := ⟨gbq4, 0, none⟩) (Kd.R_types HOq7.out BKq4.out (by decide)) (fun _ hk => hk.2) (.int .i64 tq0)) (fun _ hk => hk.2) (.slice (some adqa) tq1.length co14)) (fun _ hk => hk.1), by refine pRx ?_; exact Kd.R_mono (Kd.R_far (p := ⟨gbq4, 1, none⟩) (Kd.R_far (p := ⟨gbq4, 0, none⟩) (Kd.R_types HOq8.out BKq4.out (by decide)) (fun _ hk => hk.2) (.int .i64 tq0)) (fun _ hk => hk.2) (.slice (some adqa) tq1.length co14)) (fun _ hk => hk.1), pB2 HB.out GEq4.out GEq9.out⟩
  ·rw [if_neg c4] at H
   have c4b0 := decide_eq_false c4
   clear c4
   simp only [Option.some.injEq, Prod.mk.injEq] at H
   obtain ⟨rfl, rfl, rfl, rfl⟩ := H
   go_enter Tryz.func30, Tryz.ntmps30
   go_wp2_with (first | ((with_reducible refine af (N := 2) rfl ?_); refine bx 2 #[.int .i64 0, .slice none 0 0] 26 ?_; intro gbq4 hg w19 hbox hb; have BKq4 := aQ (hbox); have GWq4 := gB HB hg; have GEq4 := gB HB hg; replace HB := bs HB hb; clear hb hbox hg) | (refine gq 113 (some 10) Tryz.func113 #[.slice A0 l0.length c0] ?_; (with_reducible refine (bn.calls k _ _ l0 tq0 tq1 tq2 tq3 _ ?side1 ?side2 A2.out).mono ?_); (case side1 => exact pC (Kd.C_below HR0.out HB.out)); (case side2 => exact HC0.out); rintro e w20 ⟨vq5, vq6, rfl, ho0, ho1, hb⟩; refine ⟨_, rfl, ?_⟩; have HOq7 := aQ (Kd.R_lower ho0 (aa (pB1 HB.out GEq4.out))); have HOq8 := aQ (Kd.R_lower ho1 (aa (pB1 HB.out GEq4.out))); replace BKq4 := bb BKq4 hb; replace HB := bs HB hb; (try clear hb); (try clear ho0); (try clear ho1)) | ((with_reducible refine af (N := 5) rfl ?_); refine bx 5 #[.int .i64 0, .slice none 0 0] 26 ?_; intro gbq9 hg w21 hbox hb; replace HOq7 := aQ (Kd.R_below (pR HOq7.out) hb); replace HOq8 := aQ (Kd.R_below (pR HOq8.out) hb); have BKq9 := aQ (hbox); have GWq9 := gB HB hg; have GEq9 := gB HB hg; replace HB := bs HB hb; have NBq4_q9 := nl BKq4 hg; have NBq9_q4 := ng BKq4 hg; replace BKq4 := bb BKq4 hb; clear hb hbox hg; have hnb22 := NBq9_q4.out; have hnc22 := NBq4_q9.out; obtain ⟨hcz23_0, hcz23_1, hfz23_0, hfz23_1⟩ := c2 BKq9; obtain ⟨Ao24, co24, eo24⟩ := Kd.R_slice HOq7.out; subst eo24; obtain ⟨hcz25_0, hcz25_1, hfz25_0, hfz25_1⟩ := c2 BKq4))
   refine bodyPost_ret (dw rfl _ _ gbq4 26 #[.int .i64 tq0, .slice Ao24 tq1.length co24] (0, 0) _ rfl (by refine pkx ?_; refine al (cs := #[.int .i64 tq0, .slice none 0 0]) ?_ 1 _ rfl; refine pkx ?_; refine al (cs := #[.int .i64 0, .slice none 0 0]) ?_ 0 _ rfl; refine pkx ?_; refine aU ?_ NBq4_q9.out _; refine pkx ?_; refine aU ?_ NBq4_q9.out _; refine pkx ?_; exact BKq4.out) Tryz.underlying26 rfl (by kernel_rfl)) rfl ?_
   exact ⟨_, _, by first | rfl | (simp [errW_none, aj] <;> rfl) | (simp [*, errW_none, aj] <;> rfl), by refine pRx ?_; exact Kd.R_mono (Kd.R_far (p := ⟨gbq4, 1, none⟩) (Kd.R_far (p := ⟨gbq4, 0, none⟩) (Kd.R_far (p := ⟨gbq9, 1, none⟩) (Kd.R_far (p := ⟨gbq9, 0, none⟩) (Kd.R_types (Kd.R_types HOq7.out BKq9.out (by decide)) BKq4.out (by decide)) (fun _ hk => hk.1.2) (.int .i64 tq0)) (fun _ hk => hk.1.2) (.slice Ao24 tq1.length co24)) (fun _ hk => hk.2) (.int .i64 tq0)) (fun _ hk => hk.2) (.slice Ao24 tq1.length co24)) (fun _ hk => hk.1.1), by refine pRx ?_; exact Kd.R_mono (Kd.R_far (p := ⟨gbq4, 1, none⟩) (Kd.R_far (p := ⟨gbq4, 0, none⟩) (Kd.R_far (p := ⟨gbq9, 1, none⟩) (Kd.R_far (p := ⟨gbq9, 0, none⟩) (Kd.R_types (Kd.R_types HOq8.out BKq9.out (by decide)) BKq4.out (by decide)) (fun _ hk => hk.1.2) (.int .i64 tq0)) (fun _ hk => hk.1.2) (.slice Ao24 tq1.length co24)) (fun _ hk => hk.2) (.int .i64 tq0)) (fun _ hk => hk.2) (.slice Ao24 tq1.length co24)) (fun _ hk => hk.1.1), pB2 HB.out GEq4.out GEq9.out⟩
 ·rw [if_neg c3] at H
  have c3b0 := decide_eq_false c3
  have c3b1 : decide (0 < tq1.length) = false := decide_eq_false (by omega)
  clear c3
  simp only [Option.some.injEq, Prod.mk.injEq] at H
  obtain ⟨rfl, rfl, rfl, rfl⟩ := H
  go_enter Tryz.func30, Tryz.ntmps30
  go_wp2_with (first | ((with_reducible refine af (N := 2) rfl ?_); refine bx 2 #[.int .i64 0, .slice none 0 0] 26 ?_; intro gbq4 hg w26 hbox hb; have BKq4 := aQ (hbox); have GWq4 := gB HB hg; have GEq4 := gB HB hg; replace HB := bs HB hb; clear hb hbox hg) | (refine gq 113 (some 10) Tryz.func113 #[.slice A0 l0.length c0] ?_; (with_reducible refine (bn.calls k _ _ l0 tq0 tq1 tq2 tq3 _ ?side1 ?side2 A2.out).mono ?_); (case side1 => exact pC (Kd.C_below HR0.out HB.out)); (case side2 => exact HC0.out); rintro e w27 ⟨vq5, vq6, rfl, ho0, ho1, hb⟩; refine ⟨_, rfl, ?_⟩; have HOq7 := aQ (Kd.R_lower ho0 (aa (pB1 HB.out GEq4.out))); have HOq8 := aQ (Kd.R_lower ho1 (aa (pB1 HB.out GEq4.out))); replace BKq4 := bb BKq4 hb; replace HB := bs HB hb; (try clear hb); (try clear ho0); (try clear ho1)) | ((with_reducible refine af (N := 5) rfl ?_); refine bx 5 #[.int .i64 0, .slice none 0 0] 26 ?_; intro gbq9 hg w28 hbox hb; replace HOq7 := aQ (Kd.R_below (pR HOq7.out) hb); replace HOq8 := aQ (Kd.R_below (pR HOq8.out) hb); have BKq9 := aQ (hbox); have GWq9 := gB HB hg; have GEq9 := gB HB hg; replace HB := bs HB hb; have NBq4_q9 := nl BKq4 hg; have NBq9_q4 := ng BKq4 hg; replace BKq4 := bb BKq4 hb; clear hb hbox hg; have hnb29 := NBq9_q4.out; have hnc29 := NBq4_q9.out; obtain ⟨hcz30_0, hcz30_1, hfz30_0, hfz30_1⟩ := c2 BKq9; obtain ⟨Ao31, co31, eo31⟩ := Kd.R_slice HOq7.out; subst eo31; obtain ⟨hcz32_0, hcz32_1, hfz32_0, hfz32_1⟩ := c2 BKq4))
  refine bodyPost_ret (dw rfl _ _ gbq4 26 #[.int .i64 tq0, .slice Ao31 tq1.length co31] (0, 0) _ rfl (by refine pkx ?_; refine al (cs := #[.int .i64 tq0, .slice none 0 0]) ?_ 1 _ rfl; refine pkx ?_; refine al (cs := #[.int .i64 0, .slice none 0 0]) ?_ 0 _ rfl; refine pkx ?_; refine aU ?_ NBq4_q9.out _; refine pkx ?_; refine aU ?_ NBq4_q9.out _; refine pkx ?_; exact BKq4.out) Tryz.underlying26 rfl (by kernel_rfl)) rfl ?_
  exact ⟨_, _, by first | rfl | (simp [errW_none, aj] <;> rfl) | (simp [*, errW_none, aj] <;> rfl), by refine pRx ?_; exact Kd.R_mono (Kd.R_far (p := ⟨gbq4, 1, none⟩) (Kd.R_far (p := ⟨gbq4, 0, none⟩) (Kd.R_far (p := ⟨gbq9, 1, none⟩) (Kd.R_far (p := ⟨gbq9, 0, none⟩) (Kd.R_types (Kd.R_types HOq7.out BKq9.out (by decide)) BKq4.out (by decide)) (fun _ hk => hk.1.2) (.int .i64 tq0)) (fun _ hk => hk.1.2) (.slice Ao31 tq1.length co31)) (fun _ hk => hk.2) (.int .i64 tq0)) (fun _ hk => hk.2) (.slice Ao31 tq1.length co31)) (fun _ hk => hk.1.1), by refine pRx ?_; exact Kd.R_mono (Kd.R_far (p := ⟨gbq4, 1, none⟩) (Kd.R_far (p := ⟨gbq4, 0, none⟩) (Kd.R_far (p := ⟨gbq9, 1, none⟩) (Kd.R_far (p := ⟨gbq9, 0, none⟩) (Kd.R_types (Kd.R_types HOq8.out BKq9.out (by decide)) BKq4.out (by decide)) (fun _ hk => hk.1.2) (.int .i64 tq0)) (fun _ hk => hk.1.2) (.slice Ao31 tq1.length co31)) (fun _ hk => hk.2) (.int .i64 tq0)) (fun _ hk => hk.2) (.slice Ao31 tq1.length co31)) (fun _ hk => hk.1.1), pB2 HB.out GEq4.out GEq9.out⟩
def a6.l0 : Nat → List Int → Int → List Int → Int → Int → Option (Int)
 | 0, _, _, _, _, _ => none
 | k + 1, x0, x5, x9, x10, x11 => if x11 < x10 then (if 0 ≤ x11 then (if x11 < (x9.length : Int) then (if (rd x9 x11) < (x0.length : Int) then (if 0 ≤ (rd x9 x11) then (a6.l0 k x0 (wrap64 (x5 + (rd x0 (rd x9 x11)))) x9 x10 (wrap64 (x11 + 1))) else (none)) else (a6.l0 k x0 x5 x9 x10 (wrap64 (x11 + 1)))) else (none)) else (none)) else (some x5)
def a6.f (k : Nat) (l0 : List Int) (a1 : Int) : Option (Int) := (au.f k a1).bind fun tq0 => (a6.l0 k l0 0 tq0 (tq0.length : Int) 0)
theorem a6.calls (k : Nat) (A0 : Option Addr) (c0 : Nat) (l0 : List Int) (a1 : Int) (r : Int) (w : World) (hr0 : Kd.C (Kd.int .i64) w A0 l0.length l0) (hc0 : l0.length ≤ c0) (h : a6.f k l0 a1 = some r) :
  Calls Tryz.prog 40 #[.slice A0 l0.length c0, .int .i64 a1] w fun e w' => e = .returned (.int .i64 r) ∧ Below w.heap.size w w' := by
 have HR0 := aQ hr0
 have HC0 := aQ hc0
 clear hr0 hc0
 have HB := aQ (Below.refl w.heap.size w)
 have H := h
 clear h
 unfold a6.f at H
 (try dsimp only at H)
 replace H := bo H; obtain ⟨tq0, A3, H⟩ := H
 (try dsimp only at H)
 have H' := aQ H
 clear H
 go_enter Tryz.func40, Tryz.ntmps40
 go_wp2_with (first | (refine gq 129 (some 9) Tryz.func129 #[.int .i64 a1] ?_; (with_reducible refine (au.calls k a1 tq0 _ A3.out).mono ?_); rintro e w4 ⟨vq1, rfl, ho0, hb⟩; refine ⟨_, rfl, ?_⟩; have HOq2 := aQ (Kd.R_lower ho0 (aa (pB HB.out))); replace HB := bs HB hb; (try clear hb); (try clear ho0); obtain ⟨Ao5, co5, eo5⟩ := Kd.R_slice HOq2.out; subst eo5))
 go_loopg [5, 11] k (fun kq v5 v11 w' => ∃ (x5_1 : Int) (x11_1 : Int), v5 = .int .i64 x5_1 ∧ v11 = .int .i64 x11_1 ∧ Aside0 (a6.l0 kq l0 x5_1 tq0 (tq0.length : Int) x11_1 = some r) ∧ Aside0 (kq ≤ k) ∧ Aside0 (Kd.R (Kd.int .i64) 3 w' w.heap.size (fun _ => True) (.slice Ao5 tq0.length co5) tq0) ∧ Aside0 (Below w.heap.size w w'))
 case atStart => exact ⟨(0), (0), rs_, rs_, H', ⟨Nat.le_refl _⟩, ⟨pR HOq2.out⟩, ⟨pB HB.out⟩⟩
 clear H'
 obtain ⟨x5_1, x11_1, rfl, rfl, HA, HK1, HO_9, HB⟩ := hrel
 rcases gk with _ | k1
 ·exact absurd HA.out (by simp [a6.l0])
 have H := HA.out
 clear HA
 simp only [a6.l0] at H
 by_cases c6 : x11_1 < (tq0.length : Int)
 ·rw [if_pos c6] at H
  have c6b0 := decide_eq_true c6
  clear c6
  replace H := gd H; obtain ⟨c7, H⟩ := H
  have c7b0 := decide_eq_true c7
  clear c7
  replace H := gd H; obtain ⟨c8, H⟩ := H
  have c8b0 := decide_eq_true c8
  clear c8
  by_cases c9 : (rd tq0 x11_1) < (l0.length : Int)
  ·rw [if_pos c9] at H
   have c9b0 := decide_eq_true c9
   clear c9
   replace H := gd H; obtain ⟨c10, H⟩ := H
   have c10b0 := decide_eq_true c10
   clear c10
   have H' := aQ H
   clear H
   have pq3 : 0 ≤ (x11_1 : Int) := of_decide_eq_true as_
   have qq3 : x11_1 < (tq0.length : Int) := of_decide_eq_true as_
   obtain ⟨adq3, eq3, hxq3_0⟩ := Kd.at_int (Kd.R_reads' HO_9.out).2.2 x11_1 pq3 qq3
   cases eq3
   replace pq3 := eq_true pq3
   replace qq3 := eq_true qq3
   have pq4 : 0 ≤ ((rd tq0 x11_1) : Int) := of_decide_eq_true as_
   have qq4 : (rd tq0 x11_1) < (l0.length : Int) := of_decide_eq_true as_
   obtain ⟨adq4, eq4, hxq4_0⟩ := Kd.at_int HR0.out (rd tq0 x11_1) pq4 qq4
   cases eq4
   replace hxq4_0 := (HB.out.cell (World.block_lt_of_cell? w _ hxq4_0)).trans hxq4_0
   replace pq4 := eq_true pq4
   replace qq4 := eq_true qq4
   go_wp2
   go_roundg k1
   case measure => have := HK1.out; omega
   case rel => exact ⟨(wrap64 (x5_1 + (rd l0 (rd tq0 x11_1)))), (wrap64 (x11_1 + 1)), rs_, rs_, H', ⟨by have := HK1.out; omega⟩, ⟨pR HO_9.out⟩, ⟨pB HB.out⟩⟩
  ·rw [if_neg c9] at H
   have c9b0 := decide_eq_false c9
   clear c9
   have H' := aQ H
   clear H
   have pq3 : 0 ≤ (x11_1 : Int) := of_decide_eq_true as_
   have qq3 : x11_1 < (tq0.length : Int) := of_decide_eq_true as_
   obtain ⟨adq3, eq3, hxq3_0⟩ := Kd.at_int (Kd.R_reads' HO_9.out).2.2 x11_1 pq3 qq3
   cases eq3
   replace pq3 := eq_true pq3
   replace qq3 := eq_true qq3
   go_wp2
   go_roundg k1
   case measure => have := HK1.out; omega
   case rel => exact ⟨(x5_1), (wrap64 (x11_1 + 1)), rs_, rs_, H', ⟨by have := HK1.out; omega⟩, ⟨pR HO_9.out⟩, ⟨pB HB.out⟩⟩
 ·rw [if_neg c6] at H
  have c6b0 := decide_eq_false c6
  clear c6
  obtain rfl := Option.some.inj H
  go_wp2
  go_ret
  exact ⟨re_, pB HB.out⟩
def cH.f (a0 : Int) : Option (Int) := some (Go.bits .and .i64 (wrap64 (IntKind.u64.wrap ((IntKind.u64.wrap ((IntKind.u64.wrap ((Go.bits .and .u64 (IntKind.u64.wrap (((IntKind.u64.wrap ((Go.bits .and .u64 ((IntKind.u64.wrap ((Go.bits .and .u64 (a0 / 2) 6148914691236517205) + (Go.bits .and .u64 a0 6148914691236517205))) / 4) 3689348814741910323) + (Go.bits .and .u64 (IntKind.u64.wrap ((Go.bits .and .u64 (a0 / 2) 6148914691236517205) + (Go.bits .and .u64 a0 6148914691236517205))) 3689348814741910323))) / 16) + (IntKind.u64.wrap ((Go.bits .and .u64 ((IntKind.u64.wrap ((Go.bits .and .u64 (a0 / 2) 6148914691236517205) + (Go.bits .and .u64 a0 6148914691236517205))) / 4) 3689348814741910323) + (Go.bits .and .u64 (IntKind.u64.wrap ((Go.bits .and .u64 (a0 / 2) 6148914691236517205) + (Go.bits .and .u64 a0 6148914691236517205))) 3689348814741910323))))) 1085102592571150095) + ((Go.bits .and .u64 (IntKind.u64.wrap (((IntKind.u64.wrap ((Go.bits .and .u64 ((IntKind.u64.wrap ((Go.bits .and .u64 (a0 / 2) 6148914691236517205) + (Go.bits .and .u64 a0 6148914691236517205))) / 4) 3689348814741910323) + (Go.bits .and .u64 (IntKind.u64.wrap ((Go.bits .and .u64 (a0 / 2) 6148914691236517205) + (Go.bits .and .u64 a0 6148914691236517205))) 3689348814741910323))) / 16) + (IntKind.u64.wrap ((Go.bits .and .u64 ((IntKind.u64.wrap ((Go.bits .and .u64 (a0 / 2) 6148914691236517205) + (Go.bits .and .u64 a0 6148914691236517205))) / 4) 3689348814741910323) + (Go.bits .and .u64 (IntKind.u64.wrap ((Go.bits .and .u64 (a0 / 2) 6148914691236517205) + (Go.bits .and .u64 a0 6148914691236517205))) 3689348814741910323))))) 1085102592571150095) / 256))) + ((IntKind.u64.wrap ((Go.bits .and .u64 (IntKind.u64.wrap (((IntKind.u64.wrap ((Go.bits .and .u64 ((IntKind.u64.wrap ((Go.bits .and .u64 (a0 / 2) 6148914691236517205) + (Go.bits .and .u64 a0 6148914691236517205))) / 4) 3689348814741910323) + (Go.bits .and .u64 (IntKind.u64.wrap ((Go.bits .and .u64 (a0 / 2) 6148914691236517205) + (Go.bits .and .u64 a0 6148914691236517205))) 3689348814741910323))) / 16) + (IntKind.u64.wrap ((Go.bits .and .u64 ((IntKind.u64.wrap ((Go.bits .and .u64 (a0 / 2) 6148914691236517205) + (Go.bits .and .u64 a0 6148914691236517205))) / 4) 3689348814741910323) + (Go.bits .and .u64 (IntKind.u64.wrap ((Go.bits .and .u64 (a0 / 2) 6148914691236517205) + (Go.bits .and .u64 a0 6148914691236517205))) 3689348814741910323))))) 1085102592571150095) + ((Go.bits .and .u64 (IntKind.u64.wrap (((IntKind.u64.wrap ((Go.bits .and .u64 ((IntKind.u64.wrap ((Go.bits .and .u64 (a0 / 2) 6148914691236517205) + (Go.bits .and .u64 a0 6148914691236517205))) / 4) 3689348814741910323) + (Go.bits .and .u64 (IntKind.u64.wrap ((Go.bits .and .u64 (a0 / 2) 6148914691236517205) + (Go.bits .and .u64 a0 6148914691236517205))) 3689348814741910323))) / 16) + (IntKind.u64.wrap ((Go.bits .and .u64 ((IntKind.u64.wrap ((Go.bits .and .u64 (a0 / 2) 6148914691236517205) + (Go.bits .and .u64 a0 6148914691236517205))) / 4) 3689348814741910323) + (Go.bits .and .u64 (IntKind.u64.wrap ((Go.bits .and .u64 (a0 / 2) 6148914691236517205) + (Go.bits .and .u64 a0 6148914691236517205))) 3689348814741910323))))) 1085102592571150095) / 256))) / 65536))) + ((IntKind.u64.wrap ((IntKind.u64.wrap ((Go.bits .and .u64 (IntKind.u64.wrap (((IntKind.u64.wrap ((Go.bits .and .u64 ((IntKind.u64.wrap ((Go.bits .and .u64 (a0 / 2) 6148914691236517205) + (Go.bits .and .u64 a0 6148914691236517205))) / 4) 3689348814741910323) + (Go.bits .and .u64 (IntKind.u64.wrap ((Go.bits .and .u64 (a0 / 2) 6148914691236517205) + (Go.bits .and .u64 a0 6148914691236517205))) 3689348814741910323))) / 16) + (IntKind.u64.wrap ((Go.bits .and .u64 ((IntKind.u64.wrap ((Go.bits .and .u64 (a0 / 2) 6148914691236517205) + (Go.bits .and .u64 a0 6148914691236517205))) / 4) 3689348814741910323) + (Go.bits .and .u64 (IntKind.u64.wrap ((Go.bits .and .u64 (a0 / 2) 6148914691236517205) + (Go.bits .and .u64 a0 6148914691236517205))) 3689348814741910323))))) 1085102592571150095) + ((Go.bits .and .u64 (IntKind.u64.wrap (((IntKind.u64.wrap ((Go.bits .and .u64 ((IntKind.u64.wrap ((Go.bits .and .u64 (a0 / 2) 6148914691236517205) + (Go.bits .and .u64 a0 6148914691236517205))) / 4) 3689348814741910323) + (Go.bits .and .u64 (IntKind.u64.wrap ((Go.bits .and .u64 (a0 / 2) 6148914691236517205) + (Go.bits .and .u64 a0 6148914691236517205))) 3689348814741910323))) / 16) + (IntKind.u64.wrap ((Go.bits .and .u64 ((IntKind.u64.wrap ((Go.bits .and .u64 (a0 / 2) 6148914691236517205) + (Go.bits .and .u64 a0 6148914691236517205))) / 4) 3689348814741910323) + (Go.bits .and .u64 (IntKind.u64.wrap ((Go.bits .and .u64 (a0 / 2) 6148914691236517205) + (Go.bits .and .u64 a0 6148914691236517205))) 3689348814741910323))))) 1085102592571150095) / 256))) + ((IntKind.u64.wrap ((Go.bits .and .u64 (IntKind.u64.wrap (((IntKind.u64.wrap ((Go.bits .and .u64 ((IntKind.u64.wrap ((Go.bits .and .u64 (a0 / 2) 6148914691236517205) + (Go.bits .and .u64 a0 6148914691236517205))) / 4) 3689348814741910323) + (Go.bits .and .u64 (IntKind.u64.wrap ((Go.bits .and .u64 (a0 / 2) 6148914691236517205) + (Go.bits .and .u64 a0 6148914691236517205))) 3689348814741910323))) / 16) + (IntKind.u64.wrap ((Go.bits .and .u64 ((IntKind.u64.wrap ((Go.bits .and .u64 (a0 / 2) 6148914691236517205) + (Go.bits .and .u64 a0 6148914691236517205))) / 4) 3689348814741910323) + (Go.bits .and .u64 (IntKind.u64.wrap ((Go.bits .and .u64 (a0 / 2) 6148914691236517205) + (Go.bits .and .u64 a0 6148914691236517205))) 3689348814741910323))))) 1085102592571150095) + ((Go.bits .and .u64 (IntKind.u64.wrap (((IntKind.u64.wrap ((Go.bits .and .u64 ((IntKind.u64.wrap ((Go.bits .and .u64 (a0 / 2) 6148914691236517205) + (Go.bits .and .u64 a0 6148914691236517205))) / 4) 3689348814741910323) + (Go.bits .and .u64 (IntKind.u64.wrap ((Go.bits .and .u64 (a0 / 2) 6148914691236517205) + (Go.bits .and .u64 a0 6148914691236517205))) 3689348814741910323))) / 16) + (IntKind.u64.wrap ((Go.bits .and .u64 ((IntKind.u64.wrap ((Go.bits .and .u64 (a0 / 2) 6148914691236517205) + (Go.bits .and .u64 a0 6148914691236517205))) / 4) 3689348814741910323) + (Go.bits .and .u64 (IntKind.u64.wrap ((Go.bits .and .u64 (a0 / 2) 6148914691236517205) + (Go.bits .and .u64 a0 6148914691236517205))) 3689348814741910323))))) 1085102592571150095) / 256))) / 65536))) / 4294967296)))) 127)
theorem cH.calls (a0 : Int) (r : Int) (w : World) (h : cH.f a0 = some r) :
  Calls Tryz.prog 244 #[.int .u64 a0] w fun e w' => e = .returned (.int .i64 r) ∧ Drawn0 w w' := by
 have H := h
 clear h
 unfold cH.f at H
 (try dsimp only at H)
 obtain rfl := Option.some.inj H
 go_enter Tryz.func244, Tryz.ntmps244
 go_wp2
 go_ret
 exact ⟨rs_, rd_⟩
def dr.f (a0 : Int) : Option (Int) := (cH.f a0).bind fun tq0 => (some tq0)
theorem dr.calls (a0 : Int) (r : Int) (w : World) (h : dr.f a0 = some r) :
  Calls Tryz.prog 206 #[.int .u64 a0] w fun e w' => e = .returned (.int .i64 r) ∧ Drawn0 w w' := by
 have H : ((cH.f a0).bind fun tq0 => (some tq0)) = some r := h
 clear h
 replace H := bo H; obtain ⟨tq0, A2, H⟩ := H
 (try dsimp only at H)
 obtain rfl := Option.some.inj H
 go_enter Tryz.func206, Tryz.ntmps206
 go_wp2_with (first | (refine gq 244 (some 7) Tryz.func244 #[.int .u64 a0] ?_; (with_reducible refine (cH.calls a0 tq0 _ A2.out).mono ?_); rintro e w' ⟨rfl, ⟨nd, rfl⟩⟩; refine ⟨_, rfl, ?_⟩))
 go_ret
 exact ⟨rs_, rd_⟩
def cM.f (a0 : Int) : Option (Int) := (bL.f a0).bind fun tq0 => (if tq0 = true then ((dr.f (IntKind.u64.wrap (a0))).bind fun tq1 => (some tq1)) else (some 0))
theorem cM.calls (a0 : Int) (r : Int) (w : World) (h : cM.f a0 = some r) :
  Calls Tryz.prog 102 #[.int .i64 a0] w fun e w' => e = .returned (.int .i64 r) ∧ Drawn0 w w' := by
 have H := h
 clear h
 unfold cM.f at H
 (try dsimp only at H)
 replace H := bo H; obtain ⟨tq0, A2, H⟩ := H
 (try dsimp only at H)
 by_cases c3 : tq0 = true
 ·subst c3
  rw [if_pos rfl] at H
  replace H := bo H; obtain ⟨tq1, A4, H⟩ := H
  (try dsimp only at H)
  obtain rfl := Option.some.inj H
  go_enter Tryz.func102, Tryz.ntmps102
  go_wp2_with (first | (refine gq 205 (some 4) Tryz.func205 #[.int .i64 a0] ?_; (with_reducible refine (bL.calls a0 true _ A2.out).mono ?_); rintro e w' ⟨rfl, ⟨nd, rfl⟩⟩; refine ⟨_, rfl, ?_⟩) | (refine gq 206 (some 8) Tryz.func206 #[.int .u64 (IntKind.u64.wrap (a0))] ?_; (with_reducible refine (dr.calls (IntKind.u64.wrap (a0)) tq1 _ A4.out).mono ?_); rintro e w' ⟨rfl, ⟨nd, rfl⟩⟩; refine ⟨_, rfl, ?_⟩))
  go_ret
  exact ⟨rs_, rd_⟩
 ·replace c3 := Bool.eq_false_iff.mpr c3
  subst c3
  have H1 : (some 0) = some r := by rw [if_neg (show ¬ (false = true) by decide)] at H; exact H
  clear H
  have H := H1
  clear H1
  obtain rfl := Option.some.inj H
  go_enter Tryz.func102, Tryz.ntmps102
  go_wp2_with (first | (refine gq 205 (some 4) Tryz.func205 #[.int .i64 a0] ?_; (with_reducible refine (bL.calls a0 false _ A2.out).mono ?_); rintro e w' ⟨rfl, ⟨nd, rfl⟩⟩; refine ⟨_, rfl, ?_⟩))
  go_ret
  exact ⟨rs_, rd_⟩
mutual
def ap.j0 : Nat → List Int → Int → Bool → Int → List Int → Option (Bool)
 | 0, _, _, _, _, _ => none
 | k + 1, x1, x2, x25, x32002000, x32002001 => if x25 = true then (some false) else (ap.l0 k x1 x2 x32002001 (x32002001.length : Int) 0)
def ap.l0 : Nat → List Int → Int → List Int → Int → Int → Option (Bool)
 | 0, _, _, _, _, _ => none
 | k + 1, x1, x2, x27, x28, x29 => if x29 < x28 then (if 0 ≤ x29 then (if x29 < (x27.length : Int) then ((cM.f (Go.bits .andNot .i64 x2 (rd x27 x29))).bind fun tq0 => (if tq0 = 1 then ((a6.f k x1 (rd x27 x29)).bind fun tq1 => ((a6.f k x1 x2).bind fun tq2 => (if tq1 > tq2 then (some false) else (ap.l0 k x1 x2 x27 x28 (wrap64 (x29 + 1)))))) else (ap.l0 k x1 x2 x27 x28 (wrap64 (x29 + 1))))) else (none)) else (none)) else (some true)
end
def ap.f (k : Nat) (a0_0 : Int) (l0_1 : List Int) (l1 : List Int) (a2 : Int) : Option (Bool) := (a9.f k a0_0 l0_1).bind fun tq3 => (if tq3 = true then ((aV.f k a0_0 l1).bind fun tq4 => (if tq4 = true then ((cm.f k l0_1 a2).bind fun tq5 => (ap.j0 k l1 a2 (!tq5) a0_0 l0_1)) else (ap.j0 k l1 a2 true a0_0 l0_1))) else (ap.j0 k l1 a2 true a0_0 l0_1))
theorem ap.calls (k : Nat) (a0_0 : Int) (A0_1 : Option Addr) (c0_1 : Nat) (l0_1 : List Int) (A1 : Option Addr) (c1 : Nat) (l1 : List Int) (a2 : Int) (r : Bool) (w : World) (hr0_1 : Kd.C (Kd.int .i64) w A0_1 l0_1.length l0_1) (hc0_1 : l0_1.length ≤ c0_1) (hr1 : Kd.C (Kd.int .i64) w A1 l1.length l1) (hc1 : l1.length ≤ c1) (h : ap.f k a0_0 l0_1 l1 a2 = some r) :
  Calls Tryz.prog 31 #[.agg #[.int .i64 a0_0, .slice A0_1 l0_1.length c0_1], .slice A1 l1.length c1, .int .i64 a2] w fun e w' => e = .returned (.bool r) ∧ Below w.heap.size w w' := by
 have hu26 := Tryz.underlying26
 have HR0_1 := aQ hr0_1
 have HC0_1 := aQ hc0_1
 clear hr0_1 hc0_1
 have HR1 := aQ hr1
 have HC1 := aQ hc1
 clear hr1 hc1
 have HB := aQ (Below.refl w.heap.size w)
 have H := h
 clear h
 unfold ap.f at H
 (try dsimp only at H)
 have HC4 := aQ H
 clear H
 go_enter Tryz.func31, Tryz.ntmps31
 go_upto_region 1 with (first | ((with_reducible refine af (N := 3) rfl ?_); refine bx 3 #[.int .i64 a0_0, .slice A0_1 l0_1.length c0_1] 26 ?_; intro gbq6 hg w5 hbox hb; have BKq6 := aQ (hbox); have GWq6 := gB HB hg; have GEq6 := gB HB hg; replace HB := bs HB hb; clear hb hbox hg))
 (try simp only [Act.put, List.setIfInBounds_toArray, List.set_cons_zero, List.set_cons_succ])
 go_cut [25] (fun v25 wc => ∃ (kq : Nat) (x25_3 : Bool), v25 = .bool x25_3 ∧ Aside0 (ap.j0 kq l1 a2 x25_3 a0_0 l0_1 = some r) ∧ Aside0 (kq ≤ k) ∧ Aside0 (wc.heap[gbq6]? = some (.cells #[.int .i64 a0_0, (.slice A0_1 l0_1.length c0_1)] 26 (0, 0))) ∧ Aside0 (Below w.heap.size w wc))
 case first =>
  have H := HC4.out
  clear HC4
  replace H := bo H; obtain ⟨tq3, A6, H⟩ := H
  (try dsimp only at H)
  by_cases c7 : tq3 = true
  ·subst c7
   rw [if_pos rfl] at H
   replace H := bo H; obtain ⟨tq4, A8, H⟩ := H
   (try dsimp only at H)
   by_cases c9 : tq4 = true
   ·subst c9
    rw [if_pos rfl] at H
    replace H := bo H; obtain ⟨tq5, A10, H⟩ := H
    (try dsimp only at H)
    have H' := aQ H
    clear H
    obtain ⟨hcz11_0, hcz11_1, hfz11_0, hfz11_1⟩ := c2 BKq6
    go_wp2_with (first | (refine gq 118 (some 10) Tryz.func118 #[.agg #[.int .i64 a0_0, .slice A0_1 l0_1.length c0_1]] ?_; (with_reducible refine (a9.calls k a0_0 _ _ l0_1 true _ ?side1 ?side2 A6.out).mono ?_); (case side1 => exact pC (Kd.C_below HR0_1.out HB.out)); (case side2 => exact HC0_1.out); rintro e w12 ⟨rfl, hb⟩; refine ⟨_, rfl, ?_⟩; replace BKq6 := bb BKq6 hb; replace HB := bs HB hb; (try clear hb); obtain ⟨hcz13_0, hcz13_1, hfz13_0, hfz13_1⟩ := c2 BKq6) | (go_at_call 38; (with_reducible refine (aV.calls k a0_0 _ _ l1 true _ ?side1 ?side2 A8.out).mono ?_); (case side1 => exact pC (Kd.C_below HR1.out HB.out)); (case side2 => exact HC1.out); rintro e w' ⟨rfl, ⟨nd, rfl⟩⟩) | (go_at_call 119; (with_reducible refine (cm.calls k _ _ l0_1 a2 tq5 _ ?side1 ?side2 A10.out).mono ?_); (case side1 => exact pC ((Kd.C_below HR0_1.out (pB1 HB.out GEq6.out)))); (case side2 => exact HC0_1.out); rintro e w' ⟨rfl, ⟨nd, rfl⟩⟩))
    go_meet
    case rel => exact ⟨_, (!tq5), rs_, H', ⟨by first | omega | exact Nat.le_refl _⟩, ⟨pk BKq6.out⟩, ⟨pB1 HB.out GEq6.out⟩⟩
   ·replace c9 := Bool.eq_false_iff.mpr c9
    subst c9
    have H1 : (ap.j0 k l1 a2 true a0_0 l0_1) = some r := by rw [if_neg (show ¬ (false = true) by decide)] at H; exact H
    clear H
    have H := H1
    clear H1
    have H' := aQ H
    clear H
    obtain ⟨hcz14_0, hcz14_1, hfz14_0, hfz14_1⟩ := c2 BKq6
    go_wp2_with (first | (refine gq 118 (some 10) Tryz.func118 #[.agg #[.int .i64 a0_0, .slice A0_1 l0_1.length c0_1]] ?_; (with_reducible refine (a9.calls k a0_0 _ _ l0_1 true _ ?side1 ?side2 A6.out).mono ?_); (case side1 => exact pC (Kd.C_below HR0_1.out HB.out)); (case side2 => exact HC0_1.out); rintro e w15 ⟨rfl, hb⟩; refine ⟨_, rfl, ?_⟩; replace BKq6 := bb BKq6 hb; replace HB := bs HB hb; (try clear hb); obtain ⟨hcz16_0, hcz16_1, hfz16_0, hfz16_1⟩ := c2 BKq6) | (go_at_call 38; (with_reducible refine (aV.calls k a0_0 _ _ l1 false _ ?side1 ?side2 A8.out).mono ?_); (case side1 => exact pC (Kd.C_below HR1.out HB.out)); (case side2 => exact HC1.out); rintro e w' ⟨rfl, ⟨nd, rfl⟩⟩))
    go_meet
    case rel => exact ⟨_, (true), rs_, H', ⟨by first | omega | exact Nat.le_refl _⟩, ⟨pk BKq6.out⟩, ⟨pB1 HB.out GEq6.out⟩⟩
  ·replace c7 := Bool.eq_false_iff.mpr c7
   subst c7
   have H1 : (ap.j0 k l1 a2 true a0_0 l0_1) = some r := by rw [if_neg (show ¬ (false = true) by decide)] at H; exact H
   clear H
   have H := H1
   clear H1
   have H' := aQ H
   clear H
   obtain ⟨hcz17_0, hcz17_1, hfz17_0, hfz17_1⟩ := c2 BKq6
   go_wp2_with (first | (refine gq 118 (some 10) Tryz.func118 #[.agg #[.int .i64 a0_0, .slice A0_1 l0_1.length c0_1]] ?_; (with_reducible refine (a9.calls k a0_0 _ _ l0_1 false _ ?side1 ?side2 A6.out).mono ?_); (case side1 => exact pC (Kd.C_below HR0_1.out HB.out)); (case side2 => exact HC0_1.out); rintro e w18 ⟨rfl, hb⟩; refine ⟨_, rfl, ?_⟩; replace BKq6 := bb BKq6 hb; replace HB := bs HB hb; (try clear hb)))
   go_meet
   case rel => exact ⟨_, (true), rs_, H', ⟨by first | omega | exact Nat.le_refl _⟩, ⟨pk BKq6.out⟩, ⟨pB1 HB.out GEq6.out⟩⟩
 case rest =>
  clear HC4
  try clear c1
  obtain ⟨kq, x25_3, rfl, HA, HJ3, BKq6, HB⟩ := hcut
  cases kq with
  | zero => exact absurd HA.out (by simp [ap.j0])
  | succ kj3 =>
   have H := HA.out
   clear HA
   simp only [ap.j0] at H
   by_cases c19 : x25_3 = true
   ·subst c19
    rw [if_pos rfl] at H
    obtain rfl := Option.some.inj H
    go_wp2
    go_ret
    exact ⟨re_, pB1 HB.out GEq6.out⟩
   ·replace c19 := Bool.eq_false_iff.mpr c19
    subst c19
    have H1 : (ap.l0 kj3 l1 a2 l0_1 (l0_1.length : Int) 0) = some r := by rw [if_neg (show ¬ (false = true) by decide)] at H; exact H
    clear H
    have H := H1
    clear H1
    have H' := aQ H
    clear H
    obtain ⟨hcz20_0, hcz20_1, hfz20_0, hfz20_1⟩ := c2 BKq6
    go_wp2
    go_loopg [29] kj3 (fun kq v29 w' => ∃ (x29_2 : Int), v29 = .int .i64 x29_2 ∧ Aside0 (ap.l0 kq l1 a2 l0_1 (l0_1.length : Int) x29_2 = some r) ∧ Aside0 (kq ≤ kj3) ∧ Aside0 (w'.heap[gbq6]? = some (.cells #[.int .i64 a0_0, (.slice A0_1 l0_1.length c0_1)] 26 (0, 0))) ∧ Aside0 (Below w.heap.size w w'))
    case atStart => exact ⟨(0), rs_, H', ⟨Nat.le_refl _⟩, ⟨pk BKq6.out⟩, ⟨pB1 HB.out GEq6.out⟩⟩
    clear H'
    try clear c1
    try clear c19
    try clear hcz20_0
    try clear hcz20_1
    try clear hfz20_0
    try clear hfz20_1
    obtain ⟨x29_2, rfl, HA, HK2, BKq6, HB⟩ := hrel
    rcases gk with _ | k2
    ·exact absurd HA.out (by simp [ap.l0])
    have H := HA.out
    clear HA
    simp only [ap.l0] at H
    by_cases c21 : x29_2 < (l0_1.length : Int)
    ·rw [if_pos c21] at H
     have c21b0 := decide_eq_true c21
     clear c21
     replace H := gd H; obtain ⟨c22, H⟩ := H
     have c22b0 := decide_eq_true c22
     clear c22
     replace H := gd H; obtain ⟨c23, H⟩ := H
     have c23b0 := decide_eq_true c23
     clear c23
     replace H := bo H; obtain ⟨tq0, A24, H⟩ := H
     (try dsimp only at H)
     by_cases c25 : tq0 = 1
     ·rw [if_pos c25] at H
      have c25b0 : (tq0 == 1) = true := beq_iff_eq.mpr c25
      have c25b1 : (tq0 != 1) = false := bne_eq_false_iff_eq.mpr c25
      clear c25
      replace H := bo H; obtain ⟨tq1, A26, H⟩ := H
      (try dsimp only at H)
      replace H := bo H; obtain ⟨tq2, A27, H⟩ := H
      (try dsimp only at H)
      by_cases c28 : tq1 > tq2
      ·rw [if_pos c28] at H
       have c28b0 := decide_eq_true c28
       clear c28
       obtain rfl := Option.some.inj H
       have pq7 : 0 ≤ (x29_2 : Int) := of_decide_eq_true as_
       have qq7 : x29_2 < (l0_1.length : Int) := of_decide_eq_true as_
       obtain ⟨adq7, eq7, hxq7_0⟩ := Kd.at_int HR0_1.out x29_2 pq7 qq7
       cases eq7
       replace hxq7_0 := (HB.out.cell (World.block_lt_of_cell? w _ hxq7_0)).trans hxq7_0
       replace pq7 := eq_true pq7
       replace qq7 := eq_true qq7
       go_wp2_with (first | (refine gq 102 (some 36) Tryz.func102 #[.int .i64 (Go.bits .andNot .i64 a2 (rd l0_1 x29_2))] ?_; (with_reducible refine (cM.calls (Go.bits .andNot .i64 a2 (rd l0_1 x29_2)) tq0 _ A24.out).mono ?_); rintro e w' ⟨rfl, ⟨nd, rfl⟩⟩; refine ⟨_, rfl, ?_⟩) | (go_at_call 40; (with_reducible refine (a6.calls k2 _ _ l1 (rd l0_1 x29_2) tq1 _ ?side1 ?side2 A26.out).mono ?_); (case side1 => exact pC ((Kd.C_below HR1.out (pB1 HB.out GEq6.out)))); (case side2 => exact HC1.out); rintro e w29 ⟨rfl, hb⟩; replace BKq6 := bb BKq6 hb; replace HB := bs HB hb; (try clear hb)) | (go_at_call 40; (with_reducible refine (a6.calls k2 _ _ l1 a2 tq2 _ ?side1 ?side2 A27.out).mono ?_); (case side1 => exact pC (Kd.C_below HR1.out HB.out)); (case side2 => exact HC1.out); rintro e w30 ⟨rfl, hb⟩; replace BKq6 := bb BKq6 hb; replace HB := bs HB hb; (try clear hb)))
       go_ret
       exact ⟨re_, pB1 HB.out GEq6.out⟩
      ·rw [if_neg c28] at H
       have c28b0 := decide_eq_false c28
       clear c28
       have H' := aQ H
       clear H
       have pq7 : 0 ≤ (x29_2 : Int) := of_decide_eq_true as_
       have qq7 : x29_2 < (l0_1.length : Int) := of_decide_eq_true as_
       obtain ⟨adq7, eq7, hxq7_0⟩ := Kd.at_int HR0_1.out x29_2 pq7 qq7
       cases eq7
       replace hxq7_0 := (HB.out.cell (World.block_lt_of_cell? w _ hxq7_0)).trans hxq7_0
       replace pq7 := eq_true pq7
       replace qq7 := eq_true qq7
       go_wp2_with (first | (refine gq 102 (some 36) Tryz.func102 #[.int .i64 (Go.bits .andNot .i64 a2 (rd l0_1 x29_2))] ?_; (with_reducible refine (cM.calls (Go.bits .andNot .i64 a2 (rd l0_1 x29_2)) tq0 _ A24.out).mono ?_); rintro e w' ⟨rfl, ⟨nd, rfl⟩⟩; refine ⟨_, rfl, ?_⟩) | (go_at_call 40; (with_reducible refine (a6.calls k2 _ _ l1 (rd l0_1 x29_2) tq1 _ ?side1 ?side2 A26.out).mono ?_); (case side1 => exact pC ((Kd.C_below HR1.out (pB1 HB.out GEq6.out)))); (case side2 => exact HC1.out); rintro e w31 ⟨rfl, hb⟩; replace BKq6 := bb BKq6 hb; replace HB := bs HB hb; (try clear hb)) | (go_at_call 40; (with_reducible refine (a6.calls k2 _ _ l1 a2 tq2 _ ?side1 ?side2 A27.out).mono ?_); (case side1 => exact pC (Kd.C_below HR1.out HB.out)); (case side2 => exact HC1.out); rintro e w32 ⟨rfl, hb⟩; replace BKq6 := bb BKq6 hb; replace HB := bs HB hb; (try clear hb)))
       go_roundg k2
       case measure => have := HJ3.out; have := HK2.out; omega
       case rel => exact ⟨(wrap64 (x29_2 + 1)), rs_, H', ⟨by have := HJ3.out; have := HK2.out; omega⟩, ⟨pk BKq6.out⟩, ⟨pB1 HB.out GEq6.out⟩⟩
     ·rw [if_neg c25] at H
      have c25b0 : (tq0 == 1) = false := beq_eq_false_iff_ne.mpr c25
      have c25b1 : (tq0 != 1) = true := bne_iff_ne.mpr c25
      have H' := aQ H
      clear H
      have pq7 : 0 ≤ (x29_2 : Int) := of_decide_eq_true as_
      have qq7 : x29_2 < (l0_1.length : Int) := of_decide_eq_true as_
      obtain ⟨adq7, eq7, hxq7_0⟩ := Kd.at_int HR0_1.out x29_2 pq7 qq7
      cases eq7
      replace hxq7_0 := (HB.out.cell (World.block_lt_of_cell? w _ hxq7_0)).trans hxq7_0
      replace pq7 := eq_true pq7
      replace qq7 := eq_true qq7
      go_wp2_with (first | (refine gq 102 (some 36) Tryz.func102 #[.int .i64 (Go.bits .andNot .i64 a2 (rd l0_1 x29_2))] ?_; (with_reducible refine (cM.calls (Go.bits .andNot .i64 a2 (rd l0_1 x29_2)) tq0 _ A24.out).mono ?_); rintro e w' ⟨rfl, ⟨nd, rfl⟩⟩; refine ⟨_, rfl, ?_⟩))
      go_roundg k2
      case measure => have := HJ3.out; have := HK2.out; omega
      case rel => exact ⟨(wrap64 (x29_2 + 1)), rs_, H', ⟨by have := HJ3.out; have := HK2.out; omega⟩, ⟨pk BKq6.out⟩, ⟨pB1 HB.out GEq6.out⟩⟩
    ·rw [if_neg c21] at H
     have c21b0 := decide_eq_false c21
     clear c21
     obtain rfl := Option.some.inj H
     go_wp2
     go_ret
     exact ⟨re_, pB1 HB.out GEq6.out⟩
def bY.f (k : Nat) (l0 : List Int) : Option (Int × List Int × List Int × Int) := (bn.f k l0).bind fun btq0 => (some (btq0.1, btq0.2.1, btq0.2.2.1, btq0.2.2.2))
theorem bY.calls (k : Nat) (A0 : Option Addr) (c0 : Nat) (l0 : List Int) (r1 : Int) (r2 : List Int) (r3 : List Int) (r4 : Int) (w : World) (hr0 : Kd.C (Kd.int .u8) w A0 l0.length l0) (hc0 : l0.length ≤ c0) (h : bY.f k l0 = some (r1, r2, r3, r4)) :
  Calls Tryz.prog 32 #[.slice A0 l0.length c0] w fun e w' => ∃ v1_ v2_ : Value, e = .returned (.tuple #[.agg #[.int .i64 r1, v1_], v2_, .int .i64 r4]) ∧ Kd.R (Kd.int .i64) 3 w' w.heap.size (fun k_ => some k_ ≠ (v2_ : Value).ownBlock) v1_ r2 ∧ Kd.R (Kd.int .i64) 3 w' w.heap.size (fun k_ => some k_ ≠ (v1_ : Value).ownBlock) v2_ r3 ∧ Below w.heap.size w w' := by
 have hu26 := Tryz.underlying26
 have HR0 := aQ hr0
 have HC0 := aQ hc0
 clear hr0 hc0
 have HB := aQ (Below.refl w.heap.size w)
 have H := h
 clear h
 unfold bY.f at H
 (try dsimp only at H)
 replace H := bo H; obtain ⟨⟨tq0, tq1, tq2, tq3⟩, A2, H⟩ := H
 (try dsimp only at H)
 simp only [Option.some.injEq, Prod.mk.injEq] at H
 obtain ⟨rfl, rfl, rfl, rfl⟩ := H
 go_enter Tryz.func32, Tryz.ntmps32
 go_wp2_with (first | ((with_reducible refine af (N := 2) rfl ?_); refine bx 2 #[.int .i64 0, .slice none 0 0] 26 ?_; intro gbq4 hg w3 hbox hb; have BKq4 := aQ (hbox); have GWq4 := gB HB hg; have GEq4 := gB HB hg; replace HB := bs HB hb; clear hb hbox hg) | (refine gq 113 (some 10) Tryz.func113 #[.slice A0 l0.length c0] ?_; (with_reducible refine (bn.calls k _ _ l0 tq0 tq1 tq2 tq3 _ ?side1 ?side2 A2.out).mono ?_); (case side1 => exact pC (Kd.C_below HR0.out HB.out)); (case side2 => exact HC0.out); rintro e w4 ⟨vq5, vq6, rfl, ho0, ho1, hb⟩; refine ⟨_, rfl, ?_⟩; have HOq7 := aQ (Kd.R_lower ho0 (aa (pB1 HB.out GEq4.out))); have HOq8 := aQ (Kd.R_lower ho1 (aa (pB1 HB.out GEq4.out))); replace BKq4 := bb BKq4 hb; replace HB := bs HB hb; (try clear hb); (try clear ho0); (try clear ho1)) | ((with_reducible refine af (N := 5) rfl ?_); refine bx 5 #[.int .i64 0, .slice none 0 0] 26 ?_; intro gbq9 hg w5 hbox hb; replace HOq7 := aQ (Kd.R_below (pR HOq7.out) hb); replace HOq8 := aQ (Kd.R_below (pR HOq8.out) hb); have BKq9 := aQ (hbox); have GWq9 := gB HB hg; have GEq9 := gB HB hg; replace HB := bs HB hb; have NBq4_q9 := nl BKq4 hg; have NBq9_q4 := ng BKq4 hg; replace BKq4 := bb BKq4 hb; clear hb hbox hg; have hnb6 := NBq9_q4.out; have hnc6 := NBq4_q9.out; obtain ⟨hcz7_0, hcz7_1, hfz7_0, hfz7_1⟩ := c2 BKq9; obtain ⟨Ao8, co8, eo8⟩ := Kd.R_slice HOq7.out; subst eo8; obtain ⟨hcz9_0, hcz9_1, hfz9_0, hfz9_1⟩ := c2 BKq4))
 refine bodyPost_ret (dw rfl _ _ gbq4 26 #[.int .i64 tq0, .slice Ao8 tq1.length co8] (0, 0) _ rfl (by refine pkx ?_; refine al (cs := #[.int .i64 tq0, .slice none 0 0]) ?_ 1 _ rfl; refine pkx ?_; refine al (cs := #[.int .i64 0, .slice none 0 0]) ?_ 0 _ rfl; refine pkx ?_; refine aU ?_ NBq4_q9.out _; refine pkx ?_; refine aU ?_ NBq4_q9.out _; refine pkx ?_; exact BKq4.out) Tryz.underlying26 rfl (by kernel_rfl)) rfl ?_
 exact ⟨_, _, by first | rfl | (simp [errW_none, aj] <;> rfl) | (simp [*, errW_none, aj] <;> rfl), by refine pRx ?_; exact Kd.R_mono (Kd.R_far (p := ⟨gbq4, 1, none⟩) (Kd.R_far (p := ⟨gbq4, 0, none⟩) (Kd.R_far (p := ⟨gbq9, 1, none⟩) (Kd.R_far (p := ⟨gbq9, 0, none⟩) (Kd.R_types (Kd.R_types HOq7.out BKq9.out (by decide)) BKq4.out (by decide)) (fun _ hk => hk.1.2) (.int .i64 tq0)) (fun _ hk => hk.1.2) (.slice Ao8 tq1.length co8)) (fun _ hk => hk.2) (.int .i64 tq0)) (fun _ hk => hk.2) (.slice Ao8 tq1.length co8)) (fun _ hk => hk.1.1), by refine pRx ?_; exact Kd.R_mono (Kd.R_far (p := ⟨gbq4, 1, none⟩) (Kd.R_far (p := ⟨gbq4, 0, none⟩) (Kd.R_far (p := ⟨gbq9, 1, none⟩) (Kd.R_far (p := ⟨gbq9, 0, none⟩) (Kd.R_types (Kd.R_types HOq8.out BKq9.out (by decide)) BKq4.out (by decide)) (fun _ hk => hk.1.2) (.int .i64 tq0)) (fun _ hk => hk.1.2) (.slice Ao8 tq1.length co8)) (fun _ hk => hk.2) (.int .i64 tq0)) (fun _ hk => hk.2) (.slice Ao8 tq1.length co8)) (fun _ hk => hk.1.1), pB2 HB.out GEq4.out GEq9.out⟩
def bW.l0 : Nat → Int → List Int → Int → Int → Option (Int)
 | 0, _, _, _, _ => none
 | k + 1, x3, x13, x14, x15 => if x15 < x14 then (if 0 ≤ x15 then (if x15 < (x13.length : Int) then (bW.l0 k (Go.bits .andNot .i64 x3 (rd x13 x15)) x13 x14 (wrap64 (x15 + 1))) else (none)) else (none)) else (some x3)
def bW.f (k : Nat) (a0_0 : Int) (l0_1 : List Int) : Option (Int) := (a9.f k a0_0 l0_1).bind fun tq0 => (if tq0 = true then ((cx.f a0_0).bind fun tq1 => (bW.l0 k tq1 l0_1 (l0_1.length : Int) 0)) else (some 0))
theorem bW.calls (k : Nat) (a0_0 : Int) (A0_1 : Option Addr) (c0_1 : Nat) (l0_1 : List Int) (r : Int) (w : World) (hr0_1 : Kd.C (Kd.int .i64) w A0_1 l0_1.length l0_1) (hc0_1 : l0_1.length ≤ c0_1) (h : bW.f k a0_0 l0_1 = some r) :
  Calls Tryz.prog 121 #[.agg #[.int .i64 a0_0, .slice A0_1 l0_1.length c0_1]] w fun e w' => e = .returned (.int .i64 r) ∧ Below w.heap.size w w' := by
 have hu26 := Tryz.underlying26
 have HR0_1 := aQ hr0_1
 have HC0_1 := aQ hc0_1
 clear hr0_1 hc0_1
 have HB := aQ (Below.refl w.heap.size w)
 have H := h
 clear h
 unfold bW.f at H
 (try dsimp only at H)
 replace H := bo H; obtain ⟨tq0, A2, H⟩ := H
 (try dsimp only at H)
 by_cases c3 : tq0 = true
 ·subst c3
  rw [if_pos rfl] at H
  replace H := bo H; obtain ⟨tq1, A4, H⟩ := H
  (try dsimp only at H)
  have H' := aQ H
  clear H
  go_enter Tryz.func121, Tryz.ntmps121
  go_wp2_with (first | ((with_reducible refine af (N := 1) rfl ?_); refine bx 1 #[.int .i64 a0_0, .slice A0_1 l0_1.length c0_1] 26 ?_; intro gbq2 hg w5 hbox hb; have BKq2 := aQ (hbox); have GWq2 := gB HB hg; have GEq2 := gB HB hg; replace HB := bs HB hb; clear hb hbox hg; obtain ⟨hcz6_0, hcz6_1, hfz6_0, hfz6_1⟩ := c2 BKq2) | (refine gq 118 (some 7) Tryz.func118 #[.agg #[.int .i64 a0_0, .slice A0_1 l0_1.length c0_1]] ?_; (with_reducible refine (a9.calls k a0_0 _ _ l0_1 true _ ?side1 ?side2 A2.out).mono ?_); (case side1 => exact pC (Kd.C_below HR0_1.out HB.out)); (case side2 => exact HC0_1.out); rintro e w7 ⟨rfl, hb⟩; refine ⟨_, rfl, ?_⟩; replace BKq2 := bb BKq2 hb; replace HB := bs HB hb; (try clear hb); obtain ⟨hcz8_0, hcz8_1, hfz8_0, hfz8_1⟩ := c2 BKq2) | (refine gq 131 (some 11) Tryz.func131 #[.int .i64 a0_0] ?_; (with_reducible refine (cx.calls a0_0 tq1 _ A4.out).mono ?_); rintro e w' ⟨rfl, ⟨nd, rfl⟩⟩; refine ⟨_, rfl, ?_⟩))
  go_loopg [3, 15] k (fun kq v3 v15 w' => ∃ (x3_1 : Int) (x15_1 : Int), v3 = .int .i64 x3_1 ∧ v15 = .int .i64 x15_1 ∧ Aside0 (bW.l0 kq x3_1 l0_1 (l0_1.length : Int) x15_1 = some r) ∧ Aside0 (kq ≤ k) ∧ Aside0 (w'.heap[gbq2]? = some (.cells #[.int .i64 a0_0, (.slice A0_1 l0_1.length c0_1)] 26 (0, 0))) ∧ Aside0 (Below w.heap.size w w'))
  case atStart => exact ⟨(tq1), (0), rs_, rs_, H', ⟨Nat.le_refl _⟩, ⟨pk BKq2.out⟩, ⟨pB1 HB.out GEq2.out⟩⟩
  clear H'
  try clear c3
  try clear hcz6_0
  try clear hcz6_1
  try clear hcz8_0
  try clear hcz8_1
  try clear hfz6_0
  try clear hfz6_1
  try clear hfz8_0
  try clear hfz8_1
  obtain ⟨x3_1, x15_1, rfl, rfl, HA, HK1, BKq2, HB⟩ := hrel
  rcases gk with _ | k1
  ·exact absurd HA.out (by simp [bW.l0])
  have H := HA.out
  clear HA
  simp only [bW.l0] at H
  by_cases c9 : x15_1 < (l0_1.length : Int)
  ·rw [if_pos c9] at H
   have c9b0 := decide_eq_true c9
   clear c9
   replace H := gd H; obtain ⟨c10, H⟩ := H
   have c10b0 := decide_eq_true c10
   clear c10
   replace H := gd H; obtain ⟨c11, H⟩ := H
   have c11b0 := decide_eq_true c11
   clear c11
   have H' := aQ H
   clear H
   have pq3 : 0 ≤ (x15_1 : Int) := of_decide_eq_true as_
   have qq3 : x15_1 < (l0_1.length : Int) := of_decide_eq_true as_
   obtain ⟨adq3, eq3, hxq3_0⟩ := Kd.at_int HR0_1.out x15_1 pq3 qq3
   cases eq3
   replace hxq3_0 := (HB.out.cell (World.block_lt_of_cell? w _ hxq3_0)).trans hxq3_0
   replace pq3 := eq_true pq3
   replace qq3 := eq_true qq3
   go_wp2
   go_roundg k1
   case measure => have := HK1.out; omega
   case rel => exact ⟨(Go.bits .andNot .i64 x3_1 (rd l0_1 x15_1)), (wrap64 (x15_1 + 1)), rs_, rs_, H', ⟨by have := HK1.out; omega⟩, ⟨pk BKq2.out⟩, ⟨pB1 HB.out GEq2.out⟩⟩
  ·rw [if_neg c9] at H
   have c9b0 := decide_eq_false c9
   clear c9
   obtain rfl := Option.some.inj H
   go_wp2
   go_ret
   exact ⟨re_, pB1 HB.out GEq2.out⟩
 ·replace c3 := Bool.eq_false_iff.mpr c3
  subst c3
  have H1 : (some 0) = some r := by rw [if_neg (show ¬ (false = true) by decide)] at H; exact H
  clear H
  have H := H1
  clear H1
  obtain rfl := Option.some.inj H
  go_enter Tryz.func121, Tryz.ntmps121
  go_wp2_with (first | ((with_reducible refine af (N := 1) rfl ?_); refine bx 1 #[.int .i64 a0_0, .slice A0_1 l0_1.length c0_1] 26 ?_; intro gbq2 hg w12 hbox hb; have BKq2 := aQ (hbox); have GWq2 := gB HB hg; have GEq2 := gB HB hg; replace HB := bs HB hb; clear hb hbox hg; obtain ⟨hcz13_0, hcz13_1, hfz13_0, hfz13_1⟩ := c2 BKq2) | (refine gq 118 (some 7) Tryz.func118 #[.agg #[.int .i64 a0_0, .slice A0_1 l0_1.length c0_1]] ?_; (with_reducible refine (a9.calls k a0_0 _ _ l0_1 false _ ?side1 ?side2 A2.out).mono ?_); (case side1 => exact pC (Kd.C_below HR0_1.out HB.out)); (case side2 => exact HC0_1.out); rintro e w14 ⟨rfl, hb⟩; refine ⟨_, rfl, ?_⟩; replace BKq2 := bb BKq2 hb; replace HB := bs HB hb; (try clear hb)))
  go_ret
  exact ⟨re_, pB1 HB.out GEq2.out⟩
def bK.l0 : Nat → Int → List Int → Int → Int → Option (Int)
 | 0, _, _, _, _ => none
 | k + 1, x3, x13, x14, x15 => if x15 < x14 then (if 0 ≤ x15 then (if x15 < (x13.length : Int) then (bK.l0 k (Go.bits .and .i64 x3 (rd x13 x15)) x13 x14 (wrap64 (x15 + 1))) else (none)) else (none)) else (some x3)
def bK.f (k : Nat) (a0_0 : Int) (l0_1 : List Int) : Option (Int) := (a9.f k a0_0 l0_1).bind fun tq0 => (if tq0 = true then ((cx.f a0_0).bind fun tq1 => (bK.l0 k tq1 l0_1 (l0_1.length : Int) 0)) else (some 0))
theorem bK.calls (k : Nat) (a0_0 : Int) (A0_1 : Option Addr) (c0_1 : Nat) (l0_1 : List Int) (r : Int) (w : World) (hr0_1 : Kd.C (Kd.int .i64) w A0_1 l0_1.length l0_1) (hc0_1 : l0_1.length ≤ c0_1) (h : bK.f k a0_0 l0_1 = some r) :
  Calls Tryz.prog 122 #[.agg #[.int .i64 a0_0, .slice A0_1 l0_1.length c0_1]] w fun e w' => e = .returned (.int .i64 r) ∧ Below w.heap.size w w' := by
 have hu26 := Tryz.underlying26
 have HR0_1 := aQ hr0_1
 have HC0_1 := aQ hc0_1
 clear hr0_1 hc0_1
 have HB := aQ (Below.refl w.heap.size w)
 have H := h
 clear h
 unfold bK.f at H
 (try dsimp only at H)
 replace H := bo H; obtain ⟨tq0, A2, H⟩ := H
 (try dsimp only at H)
 by_cases c3 : tq0 = true
 ·subst c3
  rw [if_pos rfl] at H
  replace H := bo H; obtain ⟨tq1, A4, H⟩ := H
  (try dsimp only at H)
  have H' := aQ H
  clear H
  go_enter Tryz.func122, Tryz.ntmps122
  go_wp2_with (first | ((with_reducible refine af (N := 1) rfl ?_); refine bx 1 #[.int .i64 a0_0, .slice A0_1 l0_1.length c0_1] 26 ?_; intro gbq2 hg w5 hbox hb; have BKq2 := aQ (hbox); have GWq2 := gB HB hg; have GEq2 := gB HB hg; replace HB := bs HB hb; clear hb hbox hg; obtain ⟨hcz6_0, hcz6_1, hfz6_0, hfz6_1⟩ := c2 BKq2) | (refine gq 118 (some 7) Tryz.func118 #[.agg #[.int .i64 a0_0, .slice A0_1 l0_1.length c0_1]] ?_; (with_reducible refine (a9.calls k a0_0 _ _ l0_1 true _ ?side1 ?side2 A2.out).mono ?_); (case side1 => exact pC (Kd.C_below HR0_1.out HB.out)); (case side2 => exact HC0_1.out); rintro e w7 ⟨rfl, hb⟩; refine ⟨_, rfl, ?_⟩; replace BKq2 := bb BKq2 hb; replace HB := bs HB hb; (try clear hb); obtain ⟨hcz8_0, hcz8_1, hfz8_0, hfz8_1⟩ := c2 BKq2) | (refine gq 131 (some 11) Tryz.func131 #[.int .i64 a0_0] ?_; (with_reducible refine (cx.calls a0_0 tq1 _ A4.out).mono ?_); rintro e w' ⟨rfl, ⟨nd, rfl⟩⟩; refine ⟨_, rfl, ?_⟩))
  go_loopg [3, 15] k (fun kq v3 v15 w' => ∃ (x3_1 : Int) (x15_1 : Int), v3 = .int .i64 x3_1 ∧ v15 = .int .i64 x15_1 ∧ Aside0 (bK.l0 kq x3_1 l0_1 (l0_1.length : Int) x15_1 = some r) ∧ Aside0 (kq ≤ k) ∧ Aside0 (w'.heap[gbq2]? = some (.cells #[.int .i64 a0_0, (.slice A0_1 l0_1.length c0_1)] 26 (0, 0))) ∧ Aside0 (Below w.heap.size w w'))
  case atStart => exact ⟨(tq1), (0), rs_, rs_, H', ⟨Nat.le_refl _⟩, ⟨pk BKq2.out⟩, ⟨pB1 HB.out GEq2.out⟩⟩
  clear H'
  try clear c3
  try clear hcz6_0
  try clear hcz6_1
  try clear hcz8_0
  try clear hcz8_1
  try clear hfz6_0
  try clear hfz6_1
  try clear hfz8_0
  try clear hfz8_1
  obtain ⟨x3_1, x15_1, rfl, rfl, HA, HK1, BKq2, HB⟩ := hrel
  rcases gk with _ | k1
  ·exact absurd HA.out (by simp [bK.l0])
  have H := HA.out
  clear HA
  simp only [bK.l0] at H
  by_cases c9 : x15_1 < (l0_1.length : Int)
  ·rw [if_pos c9] at H
   have c9b0 := decide_eq_true c9
   clear c9
   replace H := gd H; obtain ⟨c10, H⟩ := H
   have c10b0 := decide_eq_true c10
   clear c10
   replace H := gd H; obtain ⟨c11, H⟩ := H
   have c11b0 := decide_eq_true c11
   clear c11
   have H' := aQ H
   clear H
   have pq3 : 0 ≤ (x15_1 : Int) := of_decide_eq_true as_
   have qq3 : x15_1 < (l0_1.length : Int) := of_decide_eq_true as_
   obtain ⟨adq3, eq3, hxq3_0⟩ := Kd.at_int HR0_1.out x15_1 pq3 qq3
   cases eq3
   replace hxq3_0 := (HB.out.cell (World.block_lt_of_cell? w _ hxq3_0)).trans hxq3_0
   replace pq3 := eq_true pq3
   replace qq3 := eq_true qq3
   go_wp2
   go_roundg k1
   case measure => have := HK1.out; omega
   case rel => exact ⟨(Go.bits .and .i64 x3_1 (rd l0_1 x15_1)), (wrap64 (x15_1 + 1)), rs_, rs_, H', ⟨by have := HK1.out; omega⟩, ⟨pk BKq2.out⟩, ⟨pB1 HB.out GEq2.out⟩⟩
  ·rw [if_neg c9] at H
   have c9b0 := decide_eq_false c9
   clear c9
   obtain rfl := Option.some.inj H
   go_wp2
   go_ret
   exact ⟨re_, pB1 HB.out GEq2.out⟩
 ·replace c3 := Bool.eq_false_iff.mpr c3
  subst c3
  have H1 : (some 0) = some r := by rw [if_neg (show ¬ (false = true) by decide)] at H; exact H
  clear H
  have H := H1
  clear H1
  obtain rfl := Option.some.inj H
  go_enter Tryz.func122, Tryz.ntmps122
  go_wp2_with (first | ((with_reducible refine af (N := 1) rfl ?_); refine bx 1 #[.int .i64 a0_0, .slice A0_1 l0_1.length c0_1] 26 ?_; intro gbq2 hg w12 hbox hb; have BKq2 := aQ (hbox); have GWq2 := gB HB hg; have GEq2 := gB HB hg; replace HB := bs HB hb; clear hb hbox hg; obtain ⟨hcz13_0, hcz13_1, hfz13_0, hfz13_1⟩ := c2 BKq2) | (refine gq 118 (some 7) Tryz.func118 #[.agg #[.int .i64 a0_0, .slice A0_1 l0_1.length c0_1]] ?_; (with_reducible refine (a9.calls k a0_0 _ _ l0_1 false _ ?side1 ?side2 A2.out).mono ?_); (case side1 => exact pC (Kd.C_below HR0_1.out HB.out)); (case side2 => exact HC0_1.out); rintro e w14 ⟨rfl, hb⟩; refine ⟨_, rfl, ?_⟩; replace BKq2 := bb BKq2 hb; replace HB := bs HB hb; (try clear hb)))
  go_ret
  exact ⟨re_, pB1 HB.out GEq2.out⟩
def ci.f (a0 : Int) (a1 : Int) : Option (Int) := (bL.f a0).bind fun tq0 => (if tq0 = true then (if a1 < 0 then (some a0) else (if a1 ≥ 8 then (some a0) else (if 0 ≤ a1 then (some (Go.bits .andNot .i64 a0 (shl .i64 1 a1))) else (none)))) else (some a0))
theorem ci.calls (a0 : Int) (a1 : Int) (r : Int) (w : World) (h : ci.f a0 a1 = some r) :
  Calls Tryz.prog 123 #[.int .i64 a0, .int .i64 a1] w fun e w' => e = .returned (.int .i64 r) ∧ Drawn0 w w' := by
 have H := h
 clear h
 unfold ci.f at H
 (try dsimp only at H)
 replace H := bo H; obtain ⟨tq0, A3, H⟩ := H
 (try dsimp only at H)
 by_cases c4 : tq0 = true
 ·subst c4
  rw [if_pos rfl] at H
  by_cases c5 : a1 < 0
  ·rw [if_pos c5] at H
   have c5b0 := decide_eq_true c5
   clear c5
   obtain rfl := Option.some.inj H
   go_enter Tryz.func123, Tryz.ntmps123
   go_wp2_with (first | (refine gq 205 (some 6) Tryz.func205 #[.int .i64 a0] ?_; (with_reducible refine (bL.calls a0 true _ A3.out).mono ?_); rintro e w' ⟨rfl, ⟨nd, rfl⟩⟩; refine ⟨_, rfl, ?_⟩))
   go_ret
   exact ⟨rs_, rd_⟩
  ·rw [if_neg c5] at H
   have c5b0 := decide_eq_false c5
   clear c5
   by_cases c6 : a1 ≥ 8
   ·rw [if_pos c6] at H
    have c6b0 := decide_eq_true c6
    clear c6
    obtain rfl := Option.some.inj H
    go_enter Tryz.func123, Tryz.ntmps123
    go_wp2_with (first | (refine gq 205 (some 6) Tryz.func205 #[.int .i64 a0] ?_; (with_reducible refine (bL.calls a0 true _ A3.out).mono ?_); rintro e w' ⟨rfl, ⟨nd, rfl⟩⟩; refine ⟨_, rfl, ?_⟩))
    go_ret
    exact ⟨rs_, rd_⟩
   ·rw [if_neg c6] at H
    have c6b0 := decide_eq_false c6
    clear c6
    replace H := gd H; obtain ⟨c7, H⟩ := H
    have c7b0 := eq_true c7
    have c7b1 := decide_eq_true c7
    clear c7
    obtain ⟨ji8, hji8⟩ : ∃ j_ : Int, (shl .i64 1 a1) = j_ := ⟨_, rfl⟩
    replace H : (some (Go.bits .andNot .i64 a0 (ji8))) = some r := by first | (rw [hji8] at H; exact H) | (simp only [hji8] at H ⊢; exact H)
    (try rw [hji8] at A3)
    have hji8_ : (IntKind.i64.wrap (1 * 2 ^ min a1.toNat 64)) = ji8 := hji8
    have hji8z : a1 ≤ 64 → (IntKind.i64.wrap (1 * 2 ^ a1.toNat)) = ji8 := cP hji8
    have hji8u : (IntKind.i64.wrap (2 ^ min a1.toNat 64)) = ji8 := by have h_ := hji8_; rw [Int.one_mul] at h_; exact h_
    have hji8v : a1 ≤ 64 → (IntKind.i64.wrap (2 ^ a1.toNat)) = ji8 := fun hle_ => by have h_ := hji8z hle_; rw [Int.one_mul] at h_; exact h_
    have hji8y : (wrap64 (1 * 2 ^ min a1.toNat 64)) = ji8 := (i64_w _).symm.trans hji8_
    have hji8x : a1 ≤ 64 → (wrap64 (1 * 2 ^ a1.toNat)) = ji8 := fun h_ => (i64_w _).symm.trans (hji8z h_)
    obtain rfl := Option.some.inj H
    go_enter Tryz.func123, Tryz.ntmps123
    go_wp2_with (first | (refine gq 205 (some 6) Tryz.func205 #[.int .i64 a0] ?_; (with_reducible refine (bL.calls a0 true _ A3.out).mono ?_); rintro e w' ⟨rfl, ⟨nd, rfl⟩⟩; refine ⟨_, rfl, ?_⟩))
    go_ret
    exact ⟨by first | rfl | (simp; done) | (simp only [← hji8] <;> (first | rfl | simp)) | (simp [*]; done), rd_⟩
 ·replace c4 := Bool.eq_false_iff.mpr c4
  subst c4
  have H1 : (some a0) = some r := by rw [if_neg (show ¬ (false = true) by decide)] at H; exact H
  clear H
  have H := H1
  clear H1
  obtain rfl := Option.some.inj H
  go_enter Tryz.func123, Tryz.ntmps123
  go_wp2_with (first | (refine gq 205 (some 6) Tryz.func205 #[.int .i64 a0] ?_; (with_reducible refine (bL.calls a0 false _ A3.out).mono ?_); rintro e w' ⟨rfl, ⟨nd, rfl⟩⟩; refine ⟨_, rfl, ?_⟩))
  go_ret
  exact ⟨rs_, rd_⟩
mutual
def ai.j0 : Nat → List Int → Int → Bool → Int → List Int → Option (Int × Bool)
 | 0, _, _, _, _, _ => none
 | k + 1, x1, x2, x41, x34002000, x34002001 => if x41 = true then (some (0, false)) else (ai.l0 k x1 x2 (-9000) (-9000) x34002001 (x34002001.length : Int) 0)
def ai.l0 : Nat → List Int → Int → Int → Int → List Int → Int → Int → Option (Int × Bool)
 | 0, _, _, _, _, _, _, _ => none
 | k + 1, x1, x2, x9, x10, x45, x46, x47 => if x47 < x46 then (if 0 ≤ x47 then (if x47 < (x45.length : Int) then ((bP.f (rd x45 x47) x2).bind fun tq0 => (if tq0 = true then ((ci.f (rd x45 x47) x2).bind fun tq1 => ((a6.f k x1 tq1).bind fun tq2 => (ai.l0 k x1 x2 x9 (mx x10 tq2) x45 x46 (wrap64 (x47 + 1))))) else ((a6.f k x1 (rd x45 x47)).bind fun tq3 => (ai.l0 k x1 x2 (mx x9 tq3) x10 x45 x46 (wrap64 (x47 + 1)))))) else (none)) else (none)) else (some (wrap64 (x9 - x10), true))
end
def ai.f (k : Nat) (a0_0 : Int) (l0_1 : List Int) (l1 : List Int) (a2 : Int) : Option (Int × Bool) := (a9.f k a0_0 l0_1).bind fun tq4 => (if tq4 = true then ((aV.f k a0_0 l1).bind fun tq5 => (if tq5 = true then (if a2 < 0 then (ai.j0 k l1 a2 true a0_0 l0_1) else (if a2 ≥ a0_0 then (ai.j0 k l1 a2 true a0_0 l0_1) else ((bW.f k a0_0 l0_1).bind fun tq6 => ((bK.f k a0_0 l0_1).bind fun tq7 => ((bP.f (Go.bits .or .i64 tq6 tq7) a2).bind fun tq8 => (ai.j0 k l1 a2 tq8 a0_0 l0_1)))))) else (ai.j0 k l1 a2 true a0_0 l0_1))) else (ai.j0 k l1 a2 true a0_0 l0_1))
def ai.T1 : Bool × List (List Nat × List Nat) := (true, [([], []), ([0], [0]), ([1], [1]), ([2, 1], [2]), ([3], [3]), ([4, 3], [3, 4]), ([3], [3]), ([5, 6, 3, 3], [3, 5, 6]), ([7, 3], [3, 7]), ([3, 8], [3, 8]), ([9, 7], [9]), ([10], [10]), ([11, 10], [10, 11]), ([10, 12], [10, 12]), ([13, 10], [13]), ([14], [14]), ([14], [14]), ([16, 14], [14, 16]), ([15, 17, 14], [14, 15, 17]), ([14, 18], [14, 18]), ([19, 14], [19]), ([20], [20]), ([21, 20, 20], [20, 21]), ([20], [20]), ([23, 22, 20], [20, 23]), ([22, 24, 20], [20, 22, 24]), ([20], [20]), ([25, 26, 24, 20], [20, 25, 26]), ([20, 27], [20, 27])])
def ai.B1 : List Nat := [0, 1, 3, 7, 15, 31, 15, 127, 255, 511, 1023, 2047, 4095, 8191, 16383, 32767, 32767, 98303, 262143, 524287, 1048575, 2097151, 4194303, 2097151, 16777215, 33554431, 2097151, 134217727, 268435455]
theorem ai.tab1 : rtab .any (eV Tryz.f33 1) = ai.T1 := by kernel_rfl
theorem ai.bits1 : cY ai.T1.2 ai.B1 = true := by kernel_rfl
theorem ai.calls (k : Nat) (a0_0 : Int) (A0_1 : Option Addr) (c0_1 : Nat) (l0_1 : List Int) (A1 : Option Addr) (c1 : Nat) (l1 : List Int) (a2 : Int) (r1 : Int) (r2 : Bool) (w : World) (hr0_1 : Kd.C (Kd.int .i64) w A0_1 l0_1.length l0_1) (hc0_1 : l0_1.length ≤ c0_1) (hr1 : Kd.C (Kd.int .i64) w A1 l1.length l1) (hc1 : l1.length ≤ c1) (h : ai.f k a0_0 l0_1 l1 a2 = some (r1, r2)) :
  Calls Tryz.prog 33 #[.agg #[.int .i64 a0_0, .slice A0_1 l0_1.length c0_1], .slice A1 l1.length c1, .int .i64 a2] w fun e w' => e = .returned (.tuple #[.int .i64 r1, .bool r2]) ∧ Below w.heap.size w w' := by
 have hu26 := Tryz.underlying26
 have HR0_1 := aQ hr0_1
 have HC0_1 := aQ hc0_1
 clear hr0_1 hc0_1
 have HR1 := aQ hr1
 have HC1 := aQ hc1
 clear hr1 hc1
 have HB := aQ (Below.refl w.heap.size w)
 have H := h
 clear h
 unfold ai.f at H
 (try dsimp only at H)
 have HC4 := aQ H
 clear H
 go_enter Tryz.func33, Tryz.ntmps33
 go_upto_region 1 with (first | ((with_reducible refine af (N := 3) rfl ?_); refine bx 3 #[.int .i64 a0_0, .slice A0_1 l0_1.length c0_1] 26 ?_; intro gbq9 hg w5 hbox hb; have BKq9 := aQ (hbox); have GWq9 := gB HB hg; have GEq9 := gB HB hg; replace HB := bs HB hb; clear hb hbox hg))
 (try simp only [Act.put, List.setIfInBounds_toArray, List.set_cons_zero, List.set_cons_succ])
 go_cut [41] (fun v41 wc => ∃ (kq : Nat) (x41_3 : Bool), v41 = .bool x41_3 ∧ Aside0 (ai.j0 kq l1 a2 x41_3 a0_0 l0_1 = some (r1, r2)) ∧ Aside0 (kq ≤ k) ∧ Aside0 (wc.heap[gbq9]? = some (.cells #[.int .i64 a0_0, (.slice A0_1 l0_1.length c0_1)] 26 (0, 0))) ∧ Aside0 (Below w.heap.size w wc))
 case first =>
  have H := HC4.out
  clear HC4
  replace H := bo H; obtain ⟨tq4, A6, H⟩ := H
  (try dsimp only at H)
  by_cases c7 : tq4 = true
  ·subst c7
   rw [if_pos rfl] at H
   replace H := bo H; obtain ⟨tq5, A8, H⟩ := H
   (try dsimp only at H)
   by_cases c9 : tq5 = true
   ·subst c9
    rw [if_pos rfl] at H
    by_cases c10 : a2 < 0
    ·rw [if_pos c10] at H
     have c10b0 := decide_eq_true c10
     clear c10
     (first | rw [c10b0] | (simp only [i64_w, cI]; rw [c10b0]) | skip)
     have H' := aQ H
     clear H
     try go_wp2
     replace BKq9 := aQ (b7 BKq9.out); replace HB := aQ (a7 HB.out)
     refine cN (n := 29) (S := fun w' => w'.cell? ⟨gbq9, 0, none⟩ = some (.int .i64 a0_0) ∧ w'.cell? ⟨gbq9, 1, none⟩ = some (.slice A0_1 l0_1.length c0_1)) (ds := []) _ (by kernel_rfl) rfl rfl ⟨(ac BKq9.out 0).trans rfl, (ac BKq9.out 1).trans rfl⟩ (fun hHeld => ?_); refine b0 ai.tab1 ai.bits1 (fun HT_ HW_ => ?_)
     generalize w5.drew = w11 at BKq9 HB hHeld ⊢
     refine tA2 0 (some 13) HT_ HW_ hHeld ?_
     refine onA (i := 1) (N := some 14) HT_ (h := fun K hK => ?_)
     refine gs Tryz.func118 #[.agg #[.int .i64 a0_0, .slice A0_1 l0_1.length c0_1]] ?_
     with_reducible refine (a9.calls k a0_0 _ _ l0_1 true _ ?side1 ?side2 A6.out).mono ?_
     (case side1 => exact pC (Kd.C_below HR0_1.out HB.out))
     (case side2 => exact HC0_1.out)
     rintro e w12 ⟨rfl, hb⟩
     refine ⟨_, rfl, ?_⟩
     replace BKq9 := bb BKq9 hb; replace HB := bs HB hb
     (try clear hb)
     (try clear hb2)
     (try clear hk)
     (try clear hi)
     refine hK.out _ _ ⟨(ac BKq9.out 0).trans rfl, (ac BKq9.out 1).trans rfl⟩ (fun hHeld => ?_)
     clear hK K
     refine noN (some 14) (h := ?_)
     refine pA 2 (some 15) HT_ ?_
     refine pA 3 (some 16) HT_ ?_
     refine pA 4 (some 17) HT_ ?_
     refine pA 6 (some 19) HT_ ?_
     refine tA2 5 (some 18) HT_ HW_ hHeld ?_
     refine onA (i := 7) (N := some 20) HT_ (h := fun K hK => ?_)
     refine gs Tryz.func38 #[.int .i64 a0_0, .slice A1 l1.length c1] ?_
     with_reducible refine (aV.calls k a0_0 _ _ l1 true _ ?side1 ?side2 A8.out).mono ?_
     (case side1 => exact pC (Kd.C_below HR1.out HB.out))
     (case side2 => exact HC1.out)
     rintro e w' ⟨rfl, ⟨nd, rfl⟩⟩
     refine ⟨_, rfl, ?_⟩
     refine hK.out _ _ ⟨(ac BKq9.out 0).trans rfl, (ac BKq9.out 1).trans rfl⟩ (fun hHeld => ?_)
     clear hK K
     refine noN (some 20) (h := ?_)
     refine pA 8 (some 21) HT_ ?_
     refine pA 9 (some 22) HT_ ?_
     refine pA 10 (some 23) HT_ ?_
     refine pA 11 (some 24) HT_ ?_
     refine pA 12 (some 25) HT_ ?_
     refine pA 13 (some 26) HT_ ?_
     refine pA 14 (some 27) HT_ ?_
     refine pU 15 (some 28) HT_ ?_
     refine pU 16 (some 29) HT_ ?_
     refine pU 17 (some 30) HT_ ?_
     refine pU 18 (some 31) HT_ ?_
     refine pA 19 (some 32) HT_ ?_
     refine pA 20 (some 33) HT_ ?_
     refine pU 21 (some 34) HT_ ?_
     refine pU 22 (some 35) HT_ ?_
     refine pU 23 (some 36) HT_ ?_
     refine pU 24 (some 37) HT_ ?_
     refine pU 25 (some 38) HT_ ?_
     refine pU 26 (some 39) HT_ ?_
     refine pU 27 (some 40) HT_ ?_
     refine pA 28 (some 41) HT_ ?_
     refine dn (cB HT_.out (by kernel_rfl)) ?_
     try go_wp2
     go_meet
     case rel => exact ⟨_, (true), rs_, H', ⟨by first | omega | exact Nat.le_refl _⟩, ⟨pk BKq9.out⟩, ⟨pB1 HB.out GEq9.out⟩⟩
    ·rw [if_neg c10] at H
     have c10b0 := decide_eq_false c10
     clear c10
     (first | rw [c10b0] | (simp only [i64_w, cI]; rw [c10b0]) | skip)
     by_cases c13 : a2 ≥ a0_0
     ·rw [if_pos c13] at H
      have c13b0 := decide_eq_true c13
      clear c13
      have H' := aQ H
      clear H
      try go_wp2
      replace BKq9 := aQ (b7 BKq9.out); replace HB := aQ (a7 HB.out)
      refine cN (n := 29) (S := fun w' => w'.cell? ⟨gbq9, 0, none⟩ = some (.int .i64 a0_0) ∧ w'.cell? ⟨gbq9, 1, none⟩ = some (.slice A0_1 l0_1.length c0_1)) (ds := []) _ (by kernel_rfl) rfl rfl ⟨(ac BKq9.out 0).trans rfl, (ac BKq9.out 1).trans rfl⟩ (fun hHeld => ?_); refine b0 ai.tab1 ai.bits1 (fun HT_ HW_ => ?_)
      generalize w5.drew = w14 at BKq9 HB hHeld ⊢
      refine tA2 0 (some 13) HT_ HW_ hHeld ?_
      refine onA (i := 1) (N := some 14) HT_ (h := fun K hK => ?_)
      refine gs Tryz.func118 #[.agg #[.int .i64 a0_0, .slice A0_1 l0_1.length c0_1]] ?_
      with_reducible refine (a9.calls k a0_0 _ _ l0_1 true _ ?side1 ?side2 A6.out).mono ?_
      (case side1 => exact pC (Kd.C_below HR0_1.out HB.out))
      (case side2 => exact HC0_1.out)
      rintro e w15 ⟨rfl, hb⟩
      refine ⟨_, rfl, ?_⟩
      replace BKq9 := bb BKq9 hb; replace HB := bs HB hb
      (try clear hb)
      (try clear hb2)
      (try clear hk)
      (try clear hi)
      refine hK.out _ _ ⟨(ac BKq9.out 0).trans rfl, (ac BKq9.out 1).trans rfl⟩ (fun hHeld => ?_)
      clear hK K
      refine noN (some 14) (h := ?_)
      refine pA 2 (some 15) HT_ ?_
      refine pA 3 (some 16) HT_ ?_
      refine pA 4 (some 17) HT_ ?_
      refine pA 6 (some 19) HT_ ?_
      refine tA2 5 (some 18) HT_ HW_ hHeld ?_
      refine onA (i := 7) (N := some 20) HT_ (h := fun K hK => ?_)
      refine gs Tryz.func38 #[.int .i64 a0_0, .slice A1 l1.length c1] ?_
      with_reducible refine (aV.calls k a0_0 _ _ l1 true _ ?side1 ?side2 A8.out).mono ?_
      (case side1 => exact pC (Kd.C_below HR1.out HB.out))
      (case side2 => exact HC1.out)
      rintro e w' ⟨rfl, ⟨nd, rfl⟩⟩
      refine ⟨_, rfl, ?_⟩
      refine hK.out _ _ ⟨(ac BKq9.out 0).trans rfl, (ac BKq9.out 1).trans rfl⟩ (fun hHeld => ?_)
      clear hK K
      refine noN (some 20) (h := ?_)
      refine pA 8 (some 21) HT_ ?_
      refine pA 9 (some 22) HT_ ?_
      refine pA 10 (some 23) HT_ ?_
      refine pA 11 (some 24) HT_ ?_
      refine pA 12 (some 25) HT_ ?_
      refine pA 13 (some 26) HT_ ?_
      refine pA 14 (some 27) HT_ ?_
      refine pA 15 (some 28) HT_ ?_
      refine pA 16 (some 29) HT_ ?_
      refine tA2 17 (some 30) HT_ HW_ hHeld ?_
      refine pA 18 (some 31) HT_ ?_
      refine pA 19 (some 32) HT_ ?_
      refine pA 20 (some 33) HT_ ?_
      refine pU 21 (some 34) HT_ ?_
      refine pU 22 (some 35) HT_ ?_
      refine pU 23 (some 36) HT_ ?_
      refine pU 24 (some 37) HT_ ?_
      refine pU 25 (some 38) HT_ ?_
      refine pU 26 (some 39) HT_ ?_
      refine pU 27 (some 40) HT_ ?_
      refine pA 28 (some 41) HT_ ?_
      refine dn (cB HT_.out (by kernel_rfl)) ?_
      try go_wp2
      go_meet
      case rel => exact ⟨_, (true), rs_, H', ⟨by first | omega | exact Nat.le_refl _⟩, ⟨pk BKq9.out⟩, ⟨pB1 HB.out GEq9.out⟩⟩
     ·rw [if_neg c13] at H
      have c13b0 := decide_eq_false c13
      clear c13
      replace H := bo H; obtain ⟨tq6, A16, H⟩ := H
      (try dsimp only at H)
      replace H := bo H; obtain ⟨tq7, A17, H⟩ := H
      (try dsimp only at H)
      replace H := bo H; obtain ⟨tq8, A18, H⟩ := H
      (try dsimp only at H)
      have H' := aQ H
      clear H
      try go_wp2
      replace BKq9 := aQ (b7 BKq9.out); replace HB := aQ (a7 HB.out)
      refine cN (n := 29) (S := fun w' => w'.cell? ⟨gbq9, 0, none⟩ = some (.int .i64 a0_0) ∧ w'.cell? ⟨gbq9, 1, none⟩ = some (.slice A0_1 l0_1.length c0_1)) (ds := []) _ (by kernel_rfl) rfl rfl ⟨(ac BKq9.out 0).trans rfl, (ac BKq9.out 1).trans rfl⟩ (fun hHeld => ?_); refine b0 ai.tab1 ai.bits1 (fun HT_ HW_ => ?_)
      generalize w5.drew = w19 at BKq9 HB hHeld ⊢
      refine tA2 0 (some 13) HT_ HW_ hHeld ?_
      refine onA (i := 1) (N := some 14) HT_ (h := fun K hK => ?_)
      refine gs Tryz.func118 #[.agg #[.int .i64 a0_0, .slice A0_1 l0_1.length c0_1]] ?_
      with_reducible refine (a9.calls k a0_0 _ _ l0_1 true _ ?side1 ?side2 A6.out).mono ?_
      (case side1 => exact pC (Kd.C_below HR0_1.out HB.out))
      (case side2 => exact HC0_1.out)
      rintro e w20 ⟨rfl, hb⟩
      refine ⟨_, rfl, ?_⟩
      replace BKq9 := bb BKq9 hb; replace HB := bs HB hb
      (try clear hb)
      (try clear hb2)
      (try clear hk)
      (try clear hi)
      refine hK.out _ _ ⟨(ac BKq9.out 0).trans rfl, (ac BKq9.out 1).trans rfl⟩ (fun hHeld => ?_)
      clear hK K
      refine noN (some 14) (h := ?_)
      refine pA 2 (some 15) HT_ ?_
      refine pA 3 (some 16) HT_ ?_
      refine pA 4 (some 17) HT_ ?_
      refine pA 6 (some 19) HT_ ?_
      refine tA2 5 (some 18) HT_ HW_ hHeld ?_
      refine onA (i := 7) (N := some 20) HT_ (h := fun K hK => ?_)
      refine gs Tryz.func38 #[.int .i64 a0_0, .slice A1 l1.length c1] ?_
      with_reducible refine (aV.calls k a0_0 _ _ l1 true _ ?side1 ?side2 A8.out).mono ?_
      (case side1 => exact pC (Kd.C_below HR1.out HB.out))
      (case side2 => exact HC1.out)
      rintro e w' ⟨rfl, ⟨nd, rfl⟩⟩
      refine ⟨_, rfl, ?_⟩
      refine hK.out _ _ ⟨(ac BKq9.out 0).trans rfl, (ac BKq9.out 1).trans rfl⟩ (fun hHeld => ?_)
      clear hK K
      refine noN (some 20) (h := ?_)
      refine pA 8 (some 21) HT_ ?_
      refine pA 9 (some 22) HT_ ?_
      refine pA 10 (some 23) HT_ ?_
      refine pA 11 (some 24) HT_ ?_
      refine pA 12 (some 25) HT_ ?_
      refine pA 13 (some 26) HT_ ?_
      refine pA 14 (some 27) HT_ ?_
      refine pA 15 (some 28) HT_ ?_
      refine pA 16 (some 29) HT_ ?_
      refine tA2 17 (some 30) HT_ HW_ hHeld ?_
      refine pA 18 (some 31) HT_ ?_
      refine pA 19 (some 32) HT_ ?_
      refine pA 20 (some 33) HT_ ?_
      refine pA 26 (some 39) HT_ ?_
      refine tA2 21 (some 34) HT_ HW_ hHeld ?_
      refine tA2 23 (some 36) HT_ HW_ hHeld ?_
      refine onA (i := 22) (N := some 35) HT_ (h := fun K hK => ?_)
      refine gs Tryz.func121 #[.agg #[.int .i64 a0_0, .slice A0_1 l0_1.length c0_1]] ?_
      with_reducible refine (bW.calls k a0_0 _ _ l0_1 tq6 _ ?side1 ?side2 A16.out).mono ?_
      (case side1 => exact pC ((Kd.C_below HR0_1.out (pB1 HB.out GEq9.out))))
      (case side2 => exact HC0_1.out)
      rintro e w21 ⟨rfl, hb⟩
      refine ⟨_, rfl, ?_⟩
      replace BKq9 := bb BKq9 hb; replace HB := bs HB hb
      (try clear hb)
      (try clear hb2)
      (try clear hk)
      (try clear hi)
      refine hK.out _ _ ⟨(ac BKq9.out 0).trans rfl, (ac BKq9.out 1).trans rfl⟩ (fun hHeld => ?_)
      clear hK K
      refine noN (some 35) (h := ?_)
      refine onA (i := 24) (N := some 37) HT_ (h := fun K hK => ?_)
      refine gs Tryz.func122 #[.agg #[.int .i64 a0_0, .slice A0_1 l0_1.length c0_1]] ?_
      with_reducible refine (bK.calls k a0_0 _ _ l0_1 tq7 _ ?side1 ?side2 A17.out).mono ?_
      (case side1 => exact pC (Kd.C_below HR0_1.out HB.out))
      (case side2 => exact HC0_1.out)
      rintro e w22 ⟨rfl, hb⟩
      refine ⟨_, rfl, ?_⟩
      replace BKq9 := bb BKq9 hb; replace HB := bs HB hb
      (try clear hb)
      (try clear hb2)
      (try clear hk)
      (try clear hi)
      refine hK.out _ _ ⟨(ac BKq9.out 0).trans rfl, (ac BKq9.out 1).trans rfl⟩ (fun hHeld => ?_)
      clear hK K
      refine noN (some 37) (h := ?_)
      refine pA 25 (some 38) HT_ ?_
      refine onA (i := 27) (N := some 40) HT_ (h := fun K hK => ?_)
      refine gs Tryz.func120 #[.int .i64 (Go.bits .or .i64 tq6 tq7), .int .i64 a2] ?_
      with_reducible refine (bP.calls (Go.bits .or .i64 tq6 tq7) a2 tq8 _ A18.out).mono ?_
      rintro e w' ⟨rfl, ⟨nd, rfl⟩⟩
      refine ⟨_, rfl, ?_⟩
      refine hK.out _ _ ⟨(ac BKq9.out 0).trans rfl, (ac BKq9.out 1).trans rfl⟩ (fun hHeld => ?_)
      clear hK K
      refine noN (some 40) (h := ?_)
      refine pA 28 (some 41) HT_ ?_
      refine dn (cB HT_.out (by kernel_rfl)) ?_
      try go_wp2
      go_meet
      case rel => exact ⟨_, (tq8), rs_, H', ⟨by first | omega | exact Nat.le_refl _⟩, ⟨pk BKq9.out⟩, ⟨pB1 HB.out GEq9.out⟩⟩
   ·replace c9 := Bool.eq_false_iff.mpr c9
    subst c9
    have H1 : (ai.j0 k l1 a2 true a0_0 l0_1) = some (r1, r2) := by rw [if_neg (show ¬ (false = true) by decide)] at H; exact H
    clear H
    have H := H1
    clear H1
    have H' := aQ H
    clear H
    try go_wp2
    replace BKq9 := aQ (b7 BKq9.out); replace HB := aQ (a7 HB.out)
    refine cN (n := 29) (S := fun w' => w'.cell? ⟨gbq9, 0, none⟩ = some (.int .i64 a0_0) ∧ w'.cell? ⟨gbq9, 1, none⟩ = some (.slice A0_1 l0_1.length c0_1)) (ds := []) _ (by kernel_rfl) rfl rfl ⟨(ac BKq9.out 0).trans rfl, (ac BKq9.out 1).trans rfl⟩ (fun hHeld => ?_); refine b0 ai.tab1 ai.bits1 (fun HT_ HW_ => ?_)
    generalize w5.drew = w23 at BKq9 HB hHeld ⊢
    refine tA2 0 (some 13) HT_ HW_ hHeld ?_
    refine onA (i := 1) (N := some 14) HT_ (h := fun K hK => ?_)
    refine gs Tryz.func118 #[.agg #[.int .i64 a0_0, .slice A0_1 l0_1.length c0_1]] ?_
    with_reducible refine (a9.calls k a0_0 _ _ l0_1 true _ ?side1 ?side2 A6.out).mono ?_
    (case side1 => exact pC (Kd.C_below HR0_1.out HB.out))
    (case side2 => exact HC0_1.out)
    rintro e w24 ⟨rfl, hb⟩
    refine ⟨_, rfl, ?_⟩
    replace BKq9 := bb BKq9 hb; replace HB := bs HB hb
    (try clear hb)
    (try clear hb2)
    (try clear hk)
    (try clear hi)
    refine hK.out _ _ ⟨(ac BKq9.out 0).trans rfl, (ac BKq9.out 1).trans rfl⟩ (fun hHeld => ?_)
    clear hK K
    refine noN (some 14) (h := ?_)
    refine pA 2 (some 15) HT_ ?_
    refine pA 3 (some 16) HT_ ?_
    refine pA 4 (some 17) HT_ ?_
    refine pA 6 (some 19) HT_ ?_
    refine tA2 5 (some 18) HT_ HW_ hHeld ?_
    refine onA (i := 7) (N := some 20) HT_ (h := fun K hK => ?_)
    refine gs Tryz.func38 #[.int .i64 a0_0, .slice A1 l1.length c1] ?_
    with_reducible refine (aV.calls k a0_0 _ _ l1 false _ ?side1 ?side2 A8.out).mono ?_
    (case side1 => exact pC (Kd.C_below HR1.out HB.out))
    (case side2 => exact HC1.out)
    rintro e w' ⟨rfl, ⟨nd, rfl⟩⟩
    refine ⟨_, rfl, ?_⟩
    refine hK.out _ _ ⟨(ac BKq9.out 0).trans rfl, (ac BKq9.out 1).trans rfl⟩ (fun hHeld => ?_)
    clear hK K
    refine noN (some 20) (h := ?_)
    refine pA 8 (some 21) HT_ ?_
    refine pA 9 (some 22) HT_ ?_
    refine pA 10 (some 23) HT_ ?_
    refine pU 11 (some 24) HT_ ?_
    refine pU 12 (some 25) HT_ ?_
    refine pA 13 (some 26) HT_ ?_
    refine pA 14 (some 27) HT_ ?_
    refine pU 15 (some 28) HT_ ?_
    refine pU 16 (some 29) HT_ ?_
    refine pU 17 (some 30) HT_ ?_
    refine pU 18 (some 31) HT_ ?_
    refine pA 19 (some 32) HT_ ?_
    refine pA 20 (some 33) HT_ ?_
    refine pU 21 (some 34) HT_ ?_
    refine pU 22 (some 35) HT_ ?_
    refine pU 23 (some 36) HT_ ?_
    refine pU 24 (some 37) HT_ ?_
    refine pU 25 (some 38) HT_ ?_
    refine pU 26 (some 39) HT_ ?_
    refine pU 27 (some 40) HT_ ?_
    refine pA 28 (some 41) HT_ ?_
    refine dn (cB HT_.out (by kernel_rfl)) ?_
    try go_wp2
    go_meet
    case rel => exact ⟨_, (true), rs_, H', ⟨by first | omega | exact Nat.le_refl _⟩, ⟨pk BKq9.out⟩, ⟨pB1 HB.out GEq9.out⟩⟩
  ·replace c7 := Bool.eq_false_iff.mpr c7
   subst c7
   have H1 : (ai.j0 k l1 a2 true a0_0 l0_1) = some (r1, r2) := by rw [if_neg (show ¬ (false = true) by decide)] at H; exact H
   clear H
   have H := H1
   clear H1
   have H' := aQ H
   clear H
   try go_wp2
   replace BKq9 := aQ (b7 BKq9.out); replace HB := aQ (a7 HB.out)
   refine cN (n := 29) (S := fun w' => w'.cell? ⟨gbq9, 0, none⟩ = some (.int .i64 a0_0) ∧ w'.cell? ⟨gbq9, 1, none⟩ = some (.slice A0_1 l0_1.length c0_1)) (ds := []) _ (by kernel_rfl) rfl rfl ⟨(ac BKq9.out 0).trans rfl, (ac BKq9.out 1).trans rfl⟩ (fun hHeld => ?_); refine b0 ai.tab1 ai.bits1 (fun HT_ HW_ => ?_)
   generalize w5.drew = w25 at BKq9 HB hHeld ⊢
   refine tA2 0 (some 13) HT_ HW_ hHeld ?_
   refine onA (i := 1) (N := some 14) HT_ (h := fun K hK => ?_)
   refine gs Tryz.func118 #[.agg #[.int .i64 a0_0, .slice A0_1 l0_1.length c0_1]] ?_
   with_reducible refine (a9.calls k a0_0 _ _ l0_1 false _ ?side1 ?side2 A6.out).mono ?_
   (case side1 => exact pC (Kd.C_below HR0_1.out HB.out))
   (case side2 => exact HC0_1.out)
   rintro e w26 ⟨rfl, hb⟩
   refine ⟨_, rfl, ?_⟩
   replace BKq9 := bb BKq9 hb; replace HB := bs HB hb
   (try clear hb)
   (try clear hb2)
   (try clear hk)
   (try clear hi)
   refine hK.out _ _ ⟨(ac BKq9.out 0).trans rfl, (ac BKq9.out 1).trans rfl⟩ (fun hHeld => ?_)
   clear hK K
   refine noN (some 14) (h := ?_)
   refine pA 2 (some 15) HT_ ?_
   refine pA 3 (some 16) HT_ ?_
   refine pU 4 (some 17) HT_ ?_
   refine pU 5 (some 18) HT_ ?_
   refine pU 6 (some 19) HT_ ?_
   refine pU 7 (some 20) HT_ ?_
   refine pU 8 (some 21) HT_ ?_
   refine pA 9 (some 22) HT_ ?_
   refine pA 10 (some 23) HT_ ?_
   refine pU 11 (some 24) HT_ ?_
   refine pU 12 (some 25) HT_ ?_
   refine pA 13 (some 26) HT_ ?_
   refine pA 14 (some 27) HT_ ?_
   refine pU 15 (some 28) HT_ ?_
   refine pU 16 (some 29) HT_ ?_
   refine pU 17 (some 30) HT_ ?_
   refine pU 18 (some 31) HT_ ?_
   refine pA 19 (some 32) HT_ ?_
   refine pA 20 (some 33) HT_ ?_
   refine pU 21 (some 34) HT_ ?_
   refine pU 22 (some 35) HT_ ?_
   refine pU 23 (some 36) HT_ ?_
   refine pU 24 (some 37) HT_ ?_
   refine pU 25 (some 38) HT_ ?_
   refine pU 26 (some 39) HT_ ?_
   refine pU 27 (some 40) HT_ ?_
   refine pA 28 (some 41) HT_ ?_
   refine dn (cB HT_.out (by kernel_rfl)) ?_
   try go_wp2
   go_meet
   case rel => exact ⟨_, (true), rs_, H', ⟨by first | omega | exact Nat.le_refl _⟩, ⟨pk BKq9.out⟩, ⟨pB1 HB.out GEq9.out⟩⟩
 case rest =>
  clear HC4
  try clear c1
  obtain ⟨kq, x41_3, rfl, HA, HJ3, BKq9, HB⟩ := hcut
  cases kq with
  | zero => exact absurd HA.out (by simp [ai.j0])
  | succ kj3 =>
   have H := HA.out
   clear HA
   simp only [ai.j0] at H
   by_cases c27 : x41_3 = true
   ·subst c27
    rw [if_pos rfl] at H
    simp only [Option.some.injEq, Prod.mk.injEq] at H
    obtain ⟨rfl, rfl⟩ := H
    go_wp2
    go_ret2
    exact ⟨re_, pB1 HB.out GEq9.out⟩
   ·replace c27 := Bool.eq_false_iff.mpr c27
    subst c27
    have H1 : (ai.l0 kj3 l1 a2 (-9000) (-9000) l0_1 (l0_1.length : Int) 0) = some (r1, r2) := by rw [if_neg (show ¬ (false = true) by decide)] at H; exact H
    clear H
    have H := H1
    clear H1
    have H' := aQ H
    clear H
    obtain ⟨hcz28_0, hcz28_1, hfz28_0, hfz28_1⟩ := c2 BKq9
    go_wp2
    go_loopg [9, 10, 47] kj3 (fun kq v9 v10 v47 w' => ∃ (x9_2 : Int) (x10_2 : Int) (x47_2 : Int), v9 = .int .i64 x9_2 ∧ v10 = .int .i64 x10_2 ∧ v47 = .int .i64 x47_2 ∧ Aside0 (ai.l0 kq l1 a2 x9_2 x10_2 l0_1 (l0_1.length : Int) x47_2 = some (r1, r2)) ∧ Aside0 (kq ≤ kj3) ∧ Aside0 (w'.heap[gbq9]? = some (.cells #[.int .i64 a0_0, (.slice A0_1 l0_1.length c0_1)] 26 (0, 0))) ∧ Aside0 (Below w.heap.size w w'))
    case atStart => exact ⟨((-9000)), ((-9000)), (0), rs_, rs_, rs_, H', ⟨Nat.le_refl _⟩, ⟨pk BKq9.out⟩, ⟨pB1 HB.out GEq9.out⟩⟩
    clear H'
    try clear c1
    try clear c2
    try clear c27
    try clear hcz28_0
    try clear hcz28_1
    try clear hfz28_0
    try clear hfz28_1
    obtain ⟨x9_2, x10_2, x47_2, rfl, rfl, rfl, HA, HK2, BKq9, HB⟩ := hrel
    rcases gk with _ | k2
    ·exact absurd HA.out (by simp [ai.l0])
    have H := HA.out
    clear HA
    simp only [ai.l0] at H
    by_cases c29 : x47_2 < (l0_1.length : Int)
    ·rw [if_pos c29] at H
     have c29b0 := decide_eq_true c29
     clear c29
     replace H := gd H; obtain ⟨c30, H⟩ := H
     have c30b0 := decide_eq_true c30
     clear c30
     replace H := gd H; obtain ⟨c31, H⟩ := H
     have c31b0 := decide_eq_true c31
     clear c31
     replace H := bo H; obtain ⟨tq0, A32, H⟩ := H
     (try dsimp only at H)
     by_cases c33 : tq0 = true
     ·subst c33
      rw [if_pos rfl] at H
      replace H := bo H; obtain ⟨tq1, A34, H⟩ := H
      (try dsimp only at H)
      replace H := bo H; obtain ⟨tq2, A35, H⟩ := H
      (try dsimp only at H)
      obtain ⟨ji36, hji36⟩ : ∃ j_ : Int, (mx x10_2 tq2) = j_ := ⟨_, rfl⟩
      replace H : (ai.l0 k2 l1 a2 x9_2 ji36 l0_1 (l0_1.length : Int) (wrap64 (x47_2 + 1))) = some (r1, r2) := by first | (rw [hji36] at H; exact H) | (simp only [hji36] at H ⊢; exact H)
      (try rw [hji36] at A32)
      (try rw [hji36] at A34)
      (try rw [hji36] at A35)
      have hji36_ : (if x10_2 < tq2 then tq2 else x10_2) = ji36 := hji36
      have H' := aQ H
      clear H
      have pqa : 0 ≤ (x47_2 : Int) := of_decide_eq_true as_
      have qqa : x47_2 < (l0_1.length : Int) := of_decide_eq_true as_
      obtain ⟨adqa, eqa, hxqa_0⟩ := Kd.at_int HR0_1.out x47_2 pqa qqa
      cases eqa
      replace hxqa_0 := (HB.out.cell (World.block_lt_of_cell? w _ hxqa_0)).trans hxqa_0
      replace pqa := eq_true pqa
      replace qqa := eq_true qqa
      go_wp2_with (first | (refine gq 120 (some 53) Tryz.func120 #[.int .i64 (rd l0_1 x47_2), .int .i64 a2] ?_; (with_reducible refine (bP.calls (rd l0_1 x47_2) a2 true _ A32.out).mono ?_); rintro e w' ⟨rfl, ⟨nd, rfl⟩⟩; refine ⟨_, rfl, ?_⟩) | (refine gq 123 (some 58) Tryz.func123 #[.int .i64 (rd l0_1 x47_2), .int .i64 a2] ?_; (with_reducible refine (ci.calls (rd l0_1 x47_2) a2 tq1 _ A34.out).mono ?_); rintro e w' ⟨rfl, ⟨nd, rfl⟩⟩; refine ⟨_, rfl, ?_⟩) | (refine gq 40 (some 59) Tryz.func40 #[.slice A1 l1.length c1, .int .i64 tq1] ?_; (with_reducible refine (a6.calls k2 _ _ l1 tq1 tq2 _ ?side1 ?side2 A35.out).mono ?_); (case side1 => exact pC ((Kd.C_below HR1.out (pB1 HB.out GEq9.out)))); (case side2 => exact HC1.out); rintro e w37 ⟨rfl, hb⟩; refine ⟨_, rfl, ?_⟩; replace BKq9 := bb BKq9 hb; replace HB := bs HB hb; (try clear hb)))
      go_roundg k2
      case measure => have := HJ3.out; have := HK2.out; omega
      case rel => exact ⟨(x9_2), (ji36), (wrap64 (x47_2 + 1)), rs_, (by first | rfl | (simp; done) | (simp only [← hji36] <;> (first | rfl | simp)) | (simp [*]; done)), rs_, H', ⟨by have := HJ3.out; have := HK2.out; omega⟩, ⟨pk BKq9.out⟩, ⟨pB1 HB.out GEq9.out⟩⟩
     ·replace c33 := Bool.eq_false_iff.mpr c33
      subst c33
      have H1 : ((a6.f k2 l1 (rd l0_1 x47_2)).bind fun tq3 => (ai.l0 k2 l1 a2 (mx x9_2 tq3) x10_2 l0_1 (l0_1.length : Int) (wrap64 (x47_2 + 1)))) = some (r1, r2) := by rw [if_neg (show ¬ (false = true) by decide)] at H; exact H
      clear H
      have H := H1
      clear H1
      replace H := bo H; obtain ⟨tq3, A38, H⟩ := H
      (try dsimp only at H)
      obtain ⟨ji39, hji39⟩ : ∃ j_ : Int, (mx x9_2 tq3) = j_ := ⟨_, rfl⟩
      replace H : (ai.l0 k2 l1 a2 ji39 x10_2 l0_1 (l0_1.length : Int) (wrap64 (x47_2 + 1))) = some (r1, r2) := by first | (rw [hji39] at H; exact H) | (simp only [hji39] at H ⊢; exact H)
      (try rw [hji39] at A32)
      (try rw [hji39] at A38)
      have hji39_ : (if x9_2 < tq3 then tq3 else x9_2) = ji39 := hji39
      have H' := aQ H
      clear H
      have pqa : 0 ≤ (x47_2 : Int) := of_decide_eq_true as_
      have qqa : x47_2 < (l0_1.length : Int) := of_decide_eq_true as_
      obtain ⟨adqa, eqa, hxqa_0⟩ := Kd.at_int HR0_1.out x47_2 pqa qqa
      cases eqa
      replace hxqa_0 := (HB.out.cell (World.block_lt_of_cell? w _ hxqa_0)).trans hxqa_0
      replace pqa := eq_true pqa
      replace qqa := eq_true qqa
      go_wp2_with (first | (refine gq 120 (some 53) Tryz.func120 #[.int .i64 (rd l0_1 x47_2), .int .i64 a2] ?_; (with_reducible refine (bP.calls (rd l0_1 x47_2) a2 false _ A32.out).mono ?_); rintro e w' ⟨rfl, ⟨nd, rfl⟩⟩; refine ⟨_, rfl, ?_⟩) | (refine gq 40 (some 64) Tryz.func40 #[.slice A1 l1.length c1, .int .i64 (rd l0_1 x47_2)] ?_; (with_reducible refine (a6.calls k2 _ _ l1 (rd l0_1 x47_2) tq3 _ ?side1 ?side2 A38.out).mono ?_); (case side1 => exact pC ((Kd.C_below HR1.out (pB1 HB.out GEq9.out)))); (case side2 => exact HC1.out); rintro e w40 ⟨rfl, hb⟩; refine ⟨_, rfl, ?_⟩; replace BKq9 := bb BKq9 hb; replace HB := bs HB hb; (try clear hb)))
      go_roundg k2
      case measure => have := HJ3.out; have := HK2.out; omega
      case rel => exact ⟨(ji39), (x10_2), (wrap64 (x47_2 + 1)), (by first | rfl | (simp; done) | (simp only [← hji39] <;> (first | rfl | simp)) | (simp [*]; done)), rs_, rs_, H', ⟨by have := HJ3.out; have := HK2.out; omega⟩, ⟨pk BKq9.out⟩, ⟨pB1 HB.out GEq9.out⟩⟩
    ·rw [if_neg c29] at H
     have c29b0 := decide_eq_false c29
     clear c29
     simp only [Option.some.injEq, Prod.mk.injEq] at H
     obtain ⟨rfl, rfl⟩ := H
     go_wp2
     go_ret2
     exact ⟨re_, pB1 HB.out GEq9.out⟩
def bD.l0 : Nat → Int → Int → Int → List Int → Option (Int)
 | 0, _, _, _, _ => none
 | k + 1, x3, x4, x126002000, x126002001 => if x4 < (x126002001.length : Int) then (if 0 ≤ x4 then (bD.l0 k (wrap64 (x3 - (Go.bits .and .i64 x3 (rd x126002001 x4)))) (wrap64 (x4 + 1)) x126002000 x126002001) else (none)) else (some x3)
def bD.f (k : Nat) (a0_0 : Int) (l0_1 : List Int) : Option (Int) := (aw.f k a0_0 l0_1).bind fun tq0 => (if tq0 = true then ((bF.f a0_0).bind fun tq1 => (bD.l0 k tq1 0 a0_0 l0_1)) else (some 0))
theorem bD.calls (k : Nat) (a0_0 : Int) (A0_1 : Option Addr) (c0_1 : Nat) (l0_1 : List Int) (r : Int) (w : World) (hr0_1 : Kd.C (Kd.int .i64) w A0_1 l0_1.length l0_1) (hc0_1 : l0_1.length ≤ c0_1) (h : bD.f k a0_0 l0_1 = some r) :
  Calls Tryz.prog 125 #[.agg #[.int .i64 a0_0, .slice A0_1 l0_1.length c0_1]] w fun e w' => e = .returned (.int .i64 r) ∧ Below w.heap.size w w' := by
 have hu26 := Tryz.underlying26
 have HR0_1 := aQ hr0_1
 have HC0_1 := aQ hc0_1
 clear hr0_1 hc0_1
 have HB := aQ (Below.refl w.heap.size w)
 have H := h
 clear h
 unfold bD.f at H
 (try dsimp only at H)
 replace H := bo H; obtain ⟨tq0, A2, H⟩ := H
 (try dsimp only at H)
 by_cases c3 : tq0 = true
 ·subst c3
  rw [if_pos rfl] at H
  replace H := bo H; obtain ⟨tq1, A4, H⟩ := H
  (try dsimp only at H)
  have H' := aQ H
  clear H
  go_enter Tryz.func125, Tryz.ntmps125
  go_wp2_with (first | ((with_reducible refine af (N := 1) rfl ?_); refine bx 1 #[.int .i64 a0_0, .slice A0_1 l0_1.length c0_1] 26 ?_; intro gbq2 hg w5 hbox hb; have BKq2 := aQ (hbox); have GWq2 := gB HB hg; have GEq2 := gB HB hg; replace HB := bs HB hb; clear hb hbox hg; obtain ⟨hcz6_0, hcz6_1, hfz6_0, hfz6_1⟩ := c2 BKq2) | (refine gq 59 (some 6) Tryz.func59 #[.agg #[.int .i64 a0_0, .slice A0_1 l0_1.length c0_1]] ?_; (with_reducible refine (aw.calls k a0_0 _ _ l0_1 true _ ?side1 ?side2 A2.out).mono ?_); (case side1 => exact pC (Kd.C_below HR0_1.out HB.out)); (case side2 => exact HC0_1.out); rintro e w7 ⟨rfl, hb⟩; refine ⟨_, rfl, ?_⟩; replace BKq2 := bb BKq2 hb; replace HB := bs HB hb; (try clear hb); obtain ⟨hcz8_0, hcz8_1, hfz8_0, hfz8_1⟩ := c2 BKq2) | (refine gq 104 (some 10) Tryz.func104 #[.int .i64 a0_0] ?_; (with_reducible refine (bF.calls a0_0 tq1 _ A4.out).mono ?_); rintro e w' ⟨rfl, ⟨nd, rfl⟩⟩; refine ⟨_, rfl, ?_⟩))
  go_loopg [3, 4] k (fun kq v3 v4 w' => ∃ (x3_1 : Int) (x4_1 : Int), v3 = .int .i64 x3_1 ∧ v4 = .int .i64 x4_1 ∧ Aside0 (bD.l0 kq x3_1 x4_1 a0_0 l0_1 = some r) ∧ Aside0 (kq ≤ k) ∧ Aside0 (w'.heap[gbq2]? = some (.cells #[.int .i64 a0_0, (.slice A0_1 l0_1.length c0_1)] 26 (0, 0))) ∧ Aside0 (Below w.heap.size w w'))
  case atStart => exact ⟨(tq1), (0), rs_, rs_, H', ⟨Nat.le_refl _⟩, ⟨pk BKq2.out⟩, ⟨pB1 HB.out GEq2.out⟩⟩
  clear H'
  try clear c3
  try clear hcz6_0
  try clear hcz6_1
  try clear hcz8_0
  try clear hcz8_1
  try clear hfz6_0
  try clear hfz6_1
  try clear hfz8_0
  try clear hfz8_1
  obtain ⟨x3_1, x4_1, rfl, rfl, HA, HK1, BKq2, HB⟩ := hrel
  rcases gk with _ | k1
  ·exact absurd HA.out (by simp [bD.l0])
  have H := HA.out
  clear HA
  simp only [bD.l0] at H
  by_cases c9 : x4_1 < (l0_1.length : Int)
  ·rw [if_pos c9] at H
   have c9b0 := decide_eq_true c9
   clear c9
   replace H := gd H; obtain ⟨c10, H⟩ := H
   have c10b0 := decide_eq_true c10
   clear c10
   have H' := aQ H
   clear H
   obtain ⟨hcz11_0, hcz11_1, hfz11_0, hfz11_1⟩ := c2 BKq2
   have pq3 : 0 ≤ (x4_1 : Int) := of_decide_eq_true as_
   have qq3 : x4_1 < (l0_1.length : Int) := of_decide_eq_true as_
   obtain ⟨adq3, eq3, hxq3_0⟩ := Kd.at_int HR0_1.out x4_1 pq3 qq3
   cases eq3
   replace hxq3_0 := (HB.out.cell (World.block_lt_of_cell? w _ hxq3_0)).trans hxq3_0
   replace pq3 := eq_true pq3
   replace qq3 := eq_true qq3
   go_wp2
   go_roundg k1
   case measure => have := HK1.out; omega
   case rel => exact ⟨(wrap64 (x3_1 - (Go.bits .and .i64 x3_1 (rd l0_1 x4_1)))), (wrap64 (x4_1 + 1)), rs_, rs_, H', ⟨by have := HK1.out; omega⟩, ⟨pk BKq2.out⟩, ⟨pB1 HB.out GEq2.out⟩⟩
  ·rw [if_neg c9] at H
   have c9b0 := decide_eq_false c9
   clear c9
   obtain rfl := Option.some.inj H
   obtain ⟨hcz12_0, hcz12_1, hfz12_0, hfz12_1⟩ := c2 BKq2
   go_wp2
   go_ret
   exact ⟨re_, pB1 HB.out GEq2.out⟩
 ·replace c3 := Bool.eq_false_iff.mpr c3
  subst c3
  have H1 : (some 0) = some r := by rw [if_neg (show ¬ (false = true) by decide)] at H; exact H
  clear H
  have H := H1
  clear H1
  obtain rfl := Option.some.inj H
  go_enter Tryz.func125, Tryz.ntmps125
  go_wp2_with (first | ((with_reducible refine af (N := 1) rfl ?_); refine bx 1 #[.int .i64 a0_0, .slice A0_1 l0_1.length c0_1] 26 ?_; intro gbq2 hg w13 hbox hb; have BKq2 := aQ (hbox); have GWq2 := gB HB hg; have GEq2 := gB HB hg; replace HB := bs HB hb; clear hb hbox hg; obtain ⟨hcz14_0, hcz14_1, hfz14_0, hfz14_1⟩ := c2 BKq2) | (refine gq 59 (some 6) Tryz.func59 #[.agg #[.int .i64 a0_0, .slice A0_1 l0_1.length c0_1]] ?_; (with_reducible refine (aw.calls k a0_0 _ _ l0_1 false _ ?side1 ?side2 A2.out).mono ?_); (case side1 => exact pC (Kd.C_below HR0_1.out HB.out)); (case side2 => exact HC0_1.out); rintro e w15 ⟨rfl, hb⟩; refine ⟨_, rfl, ?_⟩; replace BKq2 := bb BKq2 hb; replace HB := bs HB hb; (try clear hb)))
  go_ret
  exact ⟨re_, pB1 HB.out GEq2.out⟩
def bA.l0 : Nat → Int → Int → Int → List Int → Option (Int)
 | 0, _, _, _, _ => none
 | k + 1, x3, x4, x127002000, x127002001 => if x4 < (x127002001.length : Int) then (if 0 ≤ x4 then (bA.l0 k (Go.bits .and .i64 x3 (rd x127002001 x4)) (wrap64 (x4 + 1)) x127002000 x127002001) else (none)) else (some x3)
def bA.f (k : Nat) (a0_0 : Int) (l0_1 : List Int) : Option (Int) := (aw.f k a0_0 l0_1).bind fun tq0 => (if tq0 = true then ((bF.f a0_0).bind fun tq1 => (bA.l0 k tq1 0 a0_0 l0_1)) else (some 0))
theorem bA.calls (k : Nat) (a0_0 : Int) (A0_1 : Option Addr) (c0_1 : Nat) (l0_1 : List Int) (r : Int) (w : World) (hr0_1 : Kd.C (Kd.int .i64) w A0_1 l0_1.length l0_1) (hc0_1 : l0_1.length ≤ c0_1) (h : bA.f k a0_0 l0_1 = some r) :
  Calls Tryz.prog 126 #[.agg #[.int .i64 a0_0, .slice A0_1 l0_1.length c0_1]] w fun e w' => e = .returned (.int .i64 r) ∧ Below w.heap.size w w' := by
 have hu26 := Tryz.underlying26
 have HR0_1 := aQ hr0_1
 have HC0_1 := aQ hc0_1
 clear hr0_1 hc0_1
 have HB := aQ (Below.refl w.heap.size w)
 have H := h
 clear h
 unfold bA.f at H
 (try dsimp only at H)
 replace H := bo H; obtain ⟨tq0, A2, H⟩ := H
 (try dsimp only at H)
 by_cases c3 : tq0 = true
 ·subst c3
  rw [if_pos rfl] at H
  replace H := bo H; obtain ⟨tq1, A4, H⟩ := H
  (try dsimp only at H)
  have H' := aQ H
  clear H
  go_enter Tryz.func126, Tryz.ntmps126
  go_wp2_with (first | ((with_reducible refine af (N := 1) rfl ?_); refine bx 1 #[.int .i64 a0_0, .slice A0_1 l0_1.length c0_1] 26 ?_; intro gbq2 hg w5 hbox hb; have BKq2 := aQ (hbox); have GWq2 := gB HB hg; have GEq2 := gB HB hg; replace HB := bs HB hb; clear hb hbox hg; obtain ⟨hcz6_0, hcz6_1, hfz6_0, hfz6_1⟩ := c2 BKq2) | (refine gq 59 (some 6) Tryz.func59 #[.agg #[.int .i64 a0_0, .slice A0_1 l0_1.length c0_1]] ?_; (with_reducible refine (aw.calls k a0_0 _ _ l0_1 true _ ?side1 ?side2 A2.out).mono ?_); (case side1 => exact pC (Kd.C_below HR0_1.out HB.out)); (case side2 => exact HC0_1.out); rintro e w7 ⟨rfl, hb⟩; refine ⟨_, rfl, ?_⟩; replace BKq2 := bb BKq2 hb; replace HB := bs HB hb; (try clear hb); obtain ⟨hcz8_0, hcz8_1, hfz8_0, hfz8_1⟩ := c2 BKq2) | (refine gq 104 (some 10) Tryz.func104 #[.int .i64 a0_0] ?_; (with_reducible refine (bF.calls a0_0 tq1 _ A4.out).mono ?_); rintro e w' ⟨rfl, ⟨nd, rfl⟩⟩; refine ⟨_, rfl, ?_⟩))
  go_loopg [3, 4] k (fun kq v3 v4 w' => ∃ (x3_1 : Int) (x4_1 : Int), v3 = .int .i64 x3_1 ∧ v4 = .int .i64 x4_1 ∧ Aside0 (bA.l0 kq x3_1 x4_1 a0_0 l0_1 = some r) ∧ Aside0 (kq ≤ k) ∧ Aside0 (w'.heap[gbq2]? = some (.cells #[.int .i64 a0_0, (.slice A0_1 l0_1.length c0_1)] 26 (0, 0))) ∧ Aside0 (Below w.heap.size w w'))
  case atStart => exact ⟨(tq1), (0), rs_, rs_, H', ⟨Nat.le_refl _⟩, ⟨pk BKq2.out⟩, ⟨pB1 HB.out GEq2.out⟩⟩
  clear H'
  try clear c3
  try clear hcz6_0
  try clear hcz6_1
  try clear hcz8_0
  try clear hcz8_1
  try clear hfz6_0
  try clear hfz6_1
  try clear hfz8_0
  try clear hfz8_1
  obtain ⟨x3_1, x4_1, rfl, rfl, HA, HK1, BKq2, HB⟩ := hrel
  rcases gk with _ | k1
  ·exact absurd HA.out (by simp [bA.l0])
  have H := HA.out
  clear HA
  simp only [bA.l0] at H
  by_cases c9 : x4_1 < (l0_1.length : Int)
  ·rw [if_pos c9] at H
   have c9b0 := decide_eq_true c9
   clear c9
   replace H := gd H; obtain ⟨c10, H⟩ := H
   have c10b0 := decide_eq_true c10
   clear c10
   have H' := aQ H
   clear H
   obtain ⟨hcz11_0, hcz11_1, hfz11_0, hfz11_1⟩ := c2 BKq2
   have pq3 : 0 ≤ (x4_1 : Int) := of_decide_eq_true as_
   have qq3 : x4_1 < (l0_1.length : Int) := of_decide_eq_true as_
   obtain ⟨adq3, eq3, hxq3_0⟩ := Kd.at_int HR0_1.out x4_1 pq3 qq3
   cases eq3
   replace hxq3_0 := (HB.out.cell (World.block_lt_of_cell? w _ hxq3_0)).trans hxq3_0
   replace pq3 := eq_true pq3
   replace qq3 := eq_true qq3
   go_wp2
   go_roundg k1
   case measure => have := HK1.out; omega
   case rel => exact ⟨(Go.bits .and .i64 x3_1 (rd l0_1 x4_1)), (wrap64 (x4_1 + 1)), rs_, rs_, H', ⟨by have := HK1.out; omega⟩, ⟨pk BKq2.out⟩, ⟨pB1 HB.out GEq2.out⟩⟩
  ·rw [if_neg c9] at H
   have c9b0 := decide_eq_false c9
   clear c9
   obtain rfl := Option.some.inj H
   obtain ⟨hcz12_0, hcz12_1, hfz12_0, hfz12_1⟩ := c2 BKq2
   go_wp2
   go_ret
   exact ⟨re_, pB1 HB.out GEq2.out⟩
 ·replace c3 := Bool.eq_false_iff.mpr c3
  subst c3
  have H1 : (some 0) = some r := by rw [if_neg (show ¬ (false = true) by decide)] at H; exact H
  clear H
  have H := H1
  clear H1
  obtain rfl := Option.some.inj H
  go_enter Tryz.func126, Tryz.ntmps126
  go_wp2_with (first | ((with_reducible refine af (N := 1) rfl ?_); refine bx 1 #[.int .i64 a0_0, .slice A0_1 l0_1.length c0_1] 26 ?_; intro gbq2 hg w13 hbox hb; have BKq2 := aQ (hbox); have GWq2 := gB HB hg; have GEq2 := gB HB hg; replace HB := bs HB hb; clear hb hbox hg; obtain ⟨hcz14_0, hcz14_1, hfz14_0, hfz14_1⟩ := c2 BKq2) | (refine gq 59 (some 6) Tryz.func59 #[.agg #[.int .i64 a0_0, .slice A0_1 l0_1.length c0_1]] ?_; (with_reducible refine (aw.calls k a0_0 _ _ l0_1 false _ ?side1 ?side2 A2.out).mono ?_); (case side1 => exact pC (Kd.C_below HR0_1.out HB.out)); (case side2 => exact HC0_1.out); rintro e w15 ⟨rfl, hb⟩; refine ⟨_, rfl, ?_⟩; replace BKq2 := bb BKq2 hb; replace HB := bs HB hb; (try clear hb)))
  go_ret
  exact ⟨re_, pB1 HB.out GEq2.out⟩
mutual
def aq.j0 : Nat → List Int → Int → Bool → Int → List Int → Option (Int × Bool)
 | 0, _, _, _, _, _ => none
 | k + 1, x1, x2, x40, x35002000, x35002001 => if x40 = true then (some (0, false)) else (aq.l0 k x1 x2 (-8000) (-8000) 0 x35002000 x35002001)
def aq.l0 : Nat → List Int → Int → Int → Int → Int → Int → List Int → Option (Int × Bool)
 | 0, _, _, _, _, _, _, _ => none
 | k + 1, x1, x2, x8, x9, x10, x35002000, x35002001 => if x10 < (x35002001.length : Int) then (if 0 ≤ x10 then ((aT.f (rd x35002001 x10) x2).bind fun tq0 => (if tq0 = true then ((am.f k x1 (rd x35002001 x10)).bind fun tq1 => (if 0 ≤ x2 then (if x2 < (x1.length : Int) then ((bM.f x9 (wrap64 (tq1 - (rd x1 x2)))).bind fun tq2 => (aq.l0 k x1 x2 x8 tq2 (wrap64 (x10 + 1)) x35002000 x35002001)) else (none)) else (none))) else ((am.f k x1 (rd x35002001 x10)).bind fun tq3 => ((bM.f x8 tq3).bind fun tq4 => (aq.l0 k x1 x2 tq4 x9 (wrap64 (x10 + 1)) x35002000 x35002001))))) else (none)) else (some (wrap64 (x8 - x9), true))
end
def aq.f (k : Nat) (a0_0 : Int) (l0_1 : List Int) (l1 : List Int) (a2 : Int) : Option (Int × Bool) := (aw.f k a0_0 l0_1).bind fun tq5 => (if tq5 = true then ((aA.f k a0_0 l1).bind fun tq6 => (if tq6 = true then ((a5.f a2 0 (wrap64 (a0_0 - 1))).bind fun tq7 => (if tq7 = true then ((bD.f k a0_0 l0_1).bind fun tq8 => ((aT.f tq8 a2).bind fun tq9 => (if tq9 = true then (aq.j0 k l1 a2 true a0_0 l0_1) else ((bA.f k a0_0 l0_1).bind fun tqa => ((aT.f tqa a2).bind fun tqb => (aq.j0 k l1 a2 tqb a0_0 l0_1)))))) else (aq.j0 k l1 a2 true a0_0 l0_1))) else (aq.j0 k l1 a2 true a0_0 l0_1))) else (aq.j0 k l1 a2 true a0_0 l0_1))
theorem aq.calls (k : Nat) (a0_0 : Int) (A0_1 : Option Addr) (c0_1 : Nat) (l0_1 : List Int) (A1 : Option Addr) (c1 : Nat) (l1 : List Int) (a2 : Int) (r1 : Int) (r2 : Bool) (w : World) (hr0_1 : Kd.C (Kd.int .i64) w A0_1 l0_1.length l0_1) (hc0_1 : l0_1.length ≤ c0_1) (hr1 : Kd.C (Kd.int .i64) w A1 l1.length l1) (hc1 : l1.length ≤ c1) (h : aq.f k a0_0 l0_1 l1 a2 = some (r1, r2)) :
  Calls Tryz.prog 34 #[.agg #[.int .i64 a0_0, .slice A0_1 l0_1.length c0_1], .slice A1 l1.length c1, .int .i64 a2] w fun e w' => e = .returned (.tuple #[.int .i64 r1, .bool r2]) ∧ Below w.heap.size w w' := by
 have hu26 := Tryz.underlying26
 have HR0_1 := aQ hr0_1
 have HC0_1 := aQ hc0_1
 clear hr0_1 hc0_1
 have HR1 := aQ hr1
 have HC1 := aQ hc1
 clear hr1 hc1
 have HB := aQ (Below.refl w.heap.size w)
 have H := h
 clear h
 unfold aq.f at H
 (try dsimp only at H)
 have HC4 := aQ H
 clear H
 go_enter Tryz.func34, Tryz.ntmps34
 go_upto_region 1 with (first | ((with_reducible refine af (N := 3) rfl ?_); refine bx 3 #[.int .i64 a0_0, .slice A0_1 l0_1.length c0_1] 26 ?_; intro gbqc hg w5 hbox hb; have BKqc := aQ (hbox); have GWqc := gB HB hg; have GEqc := gB HB hg; replace HB := bs HB hb; clear hb hbox hg))
 repeat (go_quiet (first | ((with_reducible refine af (N := 3) rfl ?_); refine bx 3 #[.int .i64 a0_0, .slice A0_1 l0_1.length c0_1] 26 ?_; intro gbqc hg w5 hbox hb; have BKqc := aQ (hbox); have GWqc := gB HB hg; have GEqc := gB HB hg; replace HB := bs HB hb; clear hb hbox hg)); go_upto_region 1 with (first | ((with_reducible refine af (N := 3) rfl ?_); refine bx 3 #[.int .i64 a0_0, .slice A0_1 l0_1.length c0_1] 26 ?_; intro gbqc hg w5 hbox hb; have BKqc := aQ (hbox); have GWqc := gB HB hg; have GEqc := gB HB hg; replace HB := bs HB hb; clear hb hbox hg)))
 (try simp only [Act.put, List.setIfInBounds_toArray, List.set_cons_zero, List.set_cons_succ])
 go_cut [40] (fun v40 wc => ∃ (kq : Nat) (x40_3 : Bool), v40 = .bool x40_3 ∧ Aside0 (aq.j0 kq l1 a2 x40_3 a0_0 l0_1 = some (r1, r2)) ∧ Aside0 (kq ≤ k) ∧ Aside0 (wc.heap[gbqc]? = some (.cells #[.int .i64 a0_0, (.slice A0_1 l0_1.length c0_1)] 26 (0, 0))) ∧ Aside0 (Below w.heap.size w wc))
 case first =>
  have H := HC4.out
  clear HC4
  replace H := bo H; obtain ⟨tq5, A6, H⟩ := H
  (try dsimp only at H)
  by_cases c7 : tq5 = true
  ·subst c7
   rw [if_pos rfl] at H
   replace H := bo H; obtain ⟨tq6, A8, H⟩ := H
   (try dsimp only at H)
   by_cases c9 : tq6 = true
   ·subst c9
    rw [if_pos rfl] at H
    replace H := bo H; obtain ⟨tq7, A10, H⟩ := H
    (try dsimp only at H)
    by_cases c11 : tq7 = true
    ·subst c11
     rw [if_pos rfl] at H
     replace H := bo H; obtain ⟨tq8, A12, H⟩ := H
     (try dsimp only at H)
     replace H := bo H; obtain ⟨tq9, A13, H⟩ := H
     (try dsimp only at H)
     by_cases c14 : tq9 = true
     ·subst c14
      rw [if_pos rfl] at H
      have H' := aQ H
      clear H
      obtain ⟨hcz15_0, hcz15_1, hfz15_0, hfz15_1⟩ := c2 BKqc
      go_wp2_with (first | (go_at_call 59; (with_reducible refine (aw.calls k a0_0 _ _ l0_1 true _ ?side1 ?side2 A6.out).mono ?_); (case side1 => exact pC (Kd.C_below HR0_1.out HB.out)); (case side2 => exact HC0_1.out); rintro e w16 ⟨rfl, hb⟩; replace BKqc := bb BKqc hb; replace HB := bs HB hb; (try clear hb); obtain ⟨hcz17_0, hcz17_1, hfz17_0, hfz17_1⟩ := c2 BKqc) | (go_at_call 39; (with_reducible refine (aA.calls k a0_0 _ _ l1 true _ ?side1 ?side2 A8.out).mono ?_); (case side1 => exact pC (Kd.C_below HR1.out HB.out)); (case side2 => exact HC1.out); rintro e w' ⟨rfl, ⟨nd, rfl⟩⟩; (try exact dq_)) | (go_at_call 116; (with_reducible refine (a5.calls a2 0 (wrap64 (a0_0 - 1)) true _ A10.out).mono ?_); rintro e w' ⟨rfl, ⟨nd, rfl⟩⟩; (try exact dq_)) | (go_at_call 125; (with_reducible refine (bD.calls k a0_0 _ _ l0_1 tq8 _ ?side1 ?side2 A12.out).mono ?_); (case side1 => exact pC ((Kd.C_below HR0_1.out (pB1 HB.out GEqc.out)))); (case side2 => exact HC0_1.out); rintro e w18 ⟨rfl, hb⟩; replace BKqc := bb BKqc hb; replace HB := bs HB hb; (try clear hb)) | (go_at_call 124; (with_reducible refine (aT.calls tq8 a2 true _ A13.out).mono ?_); rintro e w' ⟨rfl, ⟨nd, rfl⟩⟩; (try exact dq_)))
      repeat (go_quiet (first | (go_at_call 59; (with_reducible refine (aw.calls k a0_0 _ _ l0_1 true _ ?side1 ?side2 A6.out).mono ?_); (case side1 => exact pC (Kd.C_below HR0_1.out HB.out)); (case side2 => exact HC0_1.out); rintro e w16 ⟨rfl, hb⟩; replace BKqc := bb BKqc hb; replace HB := bs HB hb; (try clear hb); obtain ⟨hcz17_0, hcz17_1, hfz17_0, hfz17_1⟩ := c2 BKqc) | (go_at_call 39; (with_reducible refine (aA.calls k a0_0 _ _ l1 true _ ?side1 ?side2 A8.out).mono ?_); (case side1 => exact pC (Kd.C_below HR1.out HB.out)); (case side2 => exact HC1.out); rintro e w' ⟨rfl, ⟨nd, rfl⟩⟩; (try exact dq_)) | (go_at_call 116; (with_reducible refine (a5.calls a2 0 (wrap64 (a0_0 - 1)) true _ A10.out).mono ?_); rintro e w' ⟨rfl, ⟨nd, rfl⟩⟩; (try exact dq_)) | (go_at_call 125; (with_reducible refine (bD.calls k a0_0 _ _ l0_1 tq8 _ ?side1 ?side2 A12.out).mono ?_); (case side1 => exact pC ((Kd.C_below HR0_1.out (pB1 HB.out GEqc.out)))); (case side2 => exact HC0_1.out); rintro e w18 ⟨rfl, hb⟩; replace BKqc := bb BKqc hb; replace HB := bs HB hb; (try clear hb)) | (go_at_call 124; (with_reducible refine (aT.calls tq8 a2 true _ A13.out).mono ?_); rintro e w' ⟨rfl, ⟨nd, rfl⟩⟩; (try exact dq_))); try go_wp2_with (first | (go_at_call 59; (with_reducible refine (aw.calls k a0_0 _ _ l0_1 true _ ?side1 ?side2 A6.out).mono ?_); (case side1 => exact pC (Kd.C_below HR0_1.out HB.out)); (case side2 => exact HC0_1.out); rintro e w16 ⟨rfl, hb⟩; replace BKqc := bb BKqc hb; replace HB := bs HB hb; (try clear hb); obtain ⟨hcz17_0, hcz17_1, hfz17_0, hfz17_1⟩ := c2 BKqc) | (go_at_call 39; (with_reducible refine (aA.calls k a0_0 _ _ l1 true _ ?side1 ?side2 A8.out).mono ?_); (case side1 => exact pC (Kd.C_below HR1.out HB.out)); (case side2 => exact HC1.out); rintro e w' ⟨rfl, ⟨nd, rfl⟩⟩; (try exact dq_)) | (go_at_call 116; (with_reducible refine (a5.calls a2 0 (wrap64 (a0_0 - 1)) true _ A10.out).mono ?_); rintro e w' ⟨rfl, ⟨nd, rfl⟩⟩; (try exact dq_)) | (go_at_call 125; (with_reducible refine (bD.calls k a0_0 _ _ l0_1 tq8 _ ?side1 ?side2 A12.out).mono ?_); (case side1 => exact pC ((Kd.C_below HR0_1.out (pB1 HB.out GEqc.out)))); (case side2 => exact HC0_1.out); rintro e w18 ⟨rfl, hb⟩; replace BKqc := bb BKqc hb; replace HB := bs HB hb; (try clear hb)) | (go_at_call 124; (with_reducible refine (aT.calls tq8 a2 true _ A13.out).mono ?_); rintro e w' ⟨rfl, ⟨nd, rfl⟩⟩; (try exact dq_))))
      go_meet
      case rel => exact ⟨_, (true), rs_, H', ⟨by first | omega | exact Nat.le_refl _⟩, ⟨pk BKqc.out⟩, ⟨pB1 HB.out GEqc.out⟩⟩
     ·replace c14 := Bool.eq_false_iff.mpr c14
      subst c14
      have H1 : ((bA.f k a0_0 l0_1).bind fun tqa => ((aT.f tqa a2).bind fun tqb => (aq.j0 k l1 a2 tqb a0_0 l0_1))) = some (r1, r2) := by rw [if_neg (show ¬ (false = true) by decide)] at H; exact H
      clear H
      have H := H1
      clear H1
      replace H := bo H; obtain ⟨tqa, A19, H⟩ := H
      (try dsimp only at H)
      replace H := bo H; obtain ⟨tqb, A20, H⟩ := H
      (try dsimp only at H)
      have H' := aQ H
      clear H
      obtain ⟨hcz21_0, hcz21_1, hfz21_0, hfz21_1⟩ := c2 BKqc
      go_wp2_with (first | (go_at_call 59; (with_reducible refine (aw.calls k a0_0 _ _ l0_1 true _ ?side1 ?side2 A6.out).mono ?_); (case side1 => exact pC (Kd.C_below HR0_1.out HB.out)); (case side2 => exact HC0_1.out); rintro e w22 ⟨rfl, hb⟩; replace BKqc := bb BKqc hb; replace HB := bs HB hb; (try clear hb); obtain ⟨hcz23_0, hcz23_1, hfz23_0, hfz23_1⟩ := c2 BKqc) | (go_at_call 39; (with_reducible refine (aA.calls k a0_0 _ _ l1 true _ ?side1 ?side2 A8.out).mono ?_); (case side1 => exact pC (Kd.C_below HR1.out HB.out)); (case side2 => exact HC1.out); rintro e w' ⟨rfl, ⟨nd, rfl⟩⟩; (try exact dq_)) | (go_at_call 116; (with_reducible refine (a5.calls a2 0 (wrap64 (a0_0 - 1)) true _ A10.out).mono ?_); rintro e w' ⟨rfl, ⟨nd, rfl⟩⟩; (try exact dq_)) | (go_at_call 125; (with_reducible refine (bD.calls k a0_0 _ _ l0_1 tq8 _ ?side1 ?side2 A12.out).mono ?_); (case side1 => exact pC ((Kd.C_below HR0_1.out (pB1 HB.out GEqc.out)))); (case side2 => exact HC0_1.out); rintro e w24 ⟨rfl, hb⟩; replace BKqc := bb BKqc hb; replace HB := bs HB hb; (try clear hb)) | (go_at_call 124; (with_reducible refine (aT.calls tq8 a2 false _ A13.out).mono ?_); rintro e w' ⟨rfl, ⟨nd, rfl⟩⟩; (try exact dq_); obtain ⟨hcz25_0, hcz25_1, hfz25_0, hfz25_1⟩ := c2 BKqc) | (go_at_call 126; (with_reducible refine (bA.calls k a0_0 _ _ l0_1 tqa _ ?side1 ?side2 A19.out).mono ?_); (case side1 => exact pC ((Kd.C_below HR0_1.out (pB1 HB.out GEqc.out)))); (case side2 => exact HC0_1.out); rintro e w26 ⟨rfl, hb⟩; replace BKqc := bb BKqc hb; replace HB := bs HB hb; (try clear hb)) | (go_at_call 124; (with_reducible refine (aT.calls tqa a2 tqb _ A20.out).mono ?_); rintro e w' ⟨rfl, ⟨nd, rfl⟩⟩; (try exact dq_)))
      repeat (go_quiet (first | (go_at_call 59; (with_reducible refine (aw.calls k a0_0 _ _ l0_1 true _ ?side1 ?side2 A6.out).mono ?_); (case side1 => exact pC (Kd.C_below HR0_1.out HB.out)); (case side2 => exact HC0_1.out); rintro e w22 ⟨rfl, hb⟩; replace BKqc := bb BKqc hb; replace HB := bs HB hb; (try clear hb); obtain ⟨hcz23_0, hcz23_1, hfz23_0, hfz23_1⟩ := c2 BKqc) | (go_at_call 39; (with_reducible refine (aA.calls k a0_0 _ _ l1 true _ ?side1 ?side2 A8.out).mono ?_); (case side1 => exact pC (Kd.C_below HR1.out HB.out)); (case side2 => exact HC1.out); rintro e w' ⟨rfl, ⟨nd, rfl⟩⟩; (try exact dq_)) | (go_at_call 116; (with_reducible refine (a5.calls a2 0 (wrap64 (a0_0 - 1)) true _ A10.out).mono ?_); rintro e w' ⟨rfl, ⟨nd, rfl⟩⟩; (try exact dq_)) | (go_at_call 125; (with_reducible refine (bD.calls k a0_0 _ _ l0_1 tq8 _ ?side1 ?side2 A12.out).mono ?_); (case side1 => exact pC ((Kd.C_below HR0_1.out (pB1 HB.out GEqc.out)))); (case side2 => exact HC0_1.out); rintro e w24 ⟨rfl, hb⟩; replace BKqc := bb BKqc hb; replace HB := bs HB hb; (try clear hb)) | (go_at_call 124; (with_reducible refine (aT.calls tq8 a2 false _ A13.out).mono ?_); rintro e w' ⟨rfl, ⟨nd, rfl⟩⟩; (try exact dq_); obtain ⟨hcz25_0, hcz25_1, hfz25_0, hfz25_1⟩ := c2 BKqc) | (go_at_call 126; (with_reducible refine (bA.calls k a0_0 _ _ l0_1 tqa _ ?side1 ?side2 A19.out).mono ?_); (case side1 => exact pC ((Kd.C_below HR0_1.out (pB1 HB.out GEqc.out)))); (case side2 => exact HC0_1.out); rintro e w26 ⟨rfl, hb⟩; replace BKqc := bb BKqc hb; replace HB := bs HB hb; (try clear hb)) | (go_at_call 124; (with_reducible refine (aT.calls tqa a2 tqb _ A20.out).mono ?_); rintro e w' ⟨rfl, ⟨nd, rfl⟩⟩; (try exact dq_))); try go_wp2_with (first | (go_at_call 59; (with_reducible refine (aw.calls k a0_0 _ _ l0_1 true _ ?side1 ?side2 A6.out).mono ?_); (case side1 => exact pC (Kd.C_below HR0_1.out HB.out)); (case side2 => exact HC0_1.out); rintro e w22 ⟨rfl, hb⟩; replace BKqc := bb BKqc hb; replace HB := bs HB hb; (try clear hb); obtain ⟨hcz23_0, hcz23_1, hfz23_0, hfz23_1⟩ := c2 BKqc) | (go_at_call 39; (with_reducible refine (aA.calls k a0_0 _ _ l1 true _ ?side1 ?side2 A8.out).mono ?_); (case side1 => exact pC (Kd.C_below HR1.out HB.out)); (case side2 => exact HC1.out); rintro e w' ⟨rfl, ⟨nd, rfl⟩⟩; (try exact dq_)) | (go_at_call 116; (with_reducible refine (a5.calls a2 0 (wrap64 (a0_0 - 1)) true _ A10.out).mono ?_); rintro e w' ⟨rfl, ⟨nd, rfl⟩⟩; (try exact dq_)) | (go_at_call 125; (with_reducible refine (bD.calls k a0_0 _ _ l0_1 tq8 _ ?side1 ?side2 A12.out).mono ?_); (case side1 => exact pC ((Kd.C_below HR0_1.out (pB1 HB.out GEqc.out)))); (case side2 => exact HC0_1.out); rintro e w24 ⟨rfl, hb⟩; replace BKqc := bb BKqc hb; replace HB := bs HB hb; (try clear hb)) | (go_at_call 124; (with_reducible refine (aT.calls tq8 a2 false _ A13.out).mono ?_); rintro e w' ⟨rfl, ⟨nd, rfl⟩⟩; (try exact dq_); obtain ⟨hcz25_0, hcz25_1, hfz25_0, hfz25_1⟩ := c2 BKqc) | (go_at_call 126; (with_reducible refine (bA.calls k a0_0 _ _ l0_1 tqa _ ?side1 ?side2 A19.out).mono ?_); (case side1 => exact pC ((Kd.C_below HR0_1.out (pB1 HB.out GEqc.out)))); (case side2 => exact HC0_1.out); rintro e w26 ⟨rfl, hb⟩; replace BKqc := bb BKqc hb; replace HB := bs HB hb; (try clear hb)) | (go_at_call 124; (with_reducible refine (aT.calls tqa a2 tqb _ A20.out).mono ?_); rintro e w' ⟨rfl, ⟨nd, rfl⟩⟩; (try exact dq_))))
      go_meet
      case rel => exact ⟨_, (tqb), rs_, H', ⟨by first | omega | exact Nat.le_refl _⟩, ⟨pk BKqc.out⟩, ⟨pB1 HB.out GEqc.out⟩⟩
    ·replace c11 := Bool.eq_false_iff.mpr c11
     subst c11
     have H1 : (aq.j0 k l1 a2 true a0_0 l0_1) = some (r1, r2) := by rw [if_neg (show ¬ (false = true) by decide)] at H; exact H
     clear H
     have H := H1
     clear H1
     have H' := aQ H
     clear H
     obtain ⟨hcz27_0, hcz27_1, hfz27_0, hfz27_1⟩ := c2 BKqc
     go_wp2_with (first | (go_at_call 59; (with_reducible refine (aw.calls k a0_0 _ _ l0_1 true _ ?side1 ?side2 A6.out).mono ?_); (case side1 => exact pC (Kd.C_below HR0_1.out HB.out)); (case side2 => exact HC0_1.out); rintro e w28 ⟨rfl, hb⟩; replace BKqc := bb BKqc hb; replace HB := bs HB hb; (try clear hb); obtain ⟨hcz29_0, hcz29_1, hfz29_0, hfz29_1⟩ := c2 BKqc) | (go_at_call 39; (with_reducible refine (aA.calls k a0_0 _ _ l1 true _ ?side1 ?side2 A8.out).mono ?_); (case side1 => exact pC (Kd.C_below HR1.out HB.out)); (case side2 => exact HC1.out); rintro e w' ⟨rfl, ⟨nd, rfl⟩⟩; (try exact dq_)) | (go_at_call 116; (with_reducible refine (a5.calls a2 0 (wrap64 (a0_0 - 1)) false _ A10.out).mono ?_); rintro e w' ⟨rfl, ⟨nd, rfl⟩⟩; (try exact dq_)))
     repeat (go_quiet (first | (go_at_call 59; (with_reducible refine (aw.calls k a0_0 _ _ l0_1 true _ ?side1 ?side2 A6.out).mono ?_); (case side1 => exact pC (Kd.C_below HR0_1.out HB.out)); (case side2 => exact HC0_1.out); rintro e w28 ⟨rfl, hb⟩; replace BKqc := bb BKqc hb; replace HB := bs HB hb; (try clear hb); obtain ⟨hcz29_0, hcz29_1, hfz29_0, hfz29_1⟩ := c2 BKqc) | (go_at_call 39; (with_reducible refine (aA.calls k a0_0 _ _ l1 true _ ?side1 ?side2 A8.out).mono ?_); (case side1 => exact pC (Kd.C_below HR1.out HB.out)); (case side2 => exact HC1.out); rintro e w' ⟨rfl, ⟨nd, rfl⟩⟩; (try exact dq_)) | (go_at_call 116; (with_reducible refine (a5.calls a2 0 (wrap64 (a0_0 - 1)) false _ A10.out).mono ?_); rintro e w' ⟨rfl, ⟨nd, rfl⟩⟩; (try exact dq_))); try go_wp2_with (first | (go_at_call 59; (with_reducible refine (aw.calls k a0_0 _ _ l0_1 true _ ?side1 ?side2 A6.out).mono ?_); (case side1 => exact pC (Kd.C_below HR0_1.out HB.out)); (case side2 => exact HC0_1.out); rintro e w28 ⟨rfl, hb⟩; replace BKqc := bb BKqc hb; replace HB := bs HB hb; (try clear hb); obtain ⟨hcz29_0, hcz29_1, hfz29_0, hfz29_1⟩ := c2 BKqc) | (go_at_call 39; (with_reducible refine (aA.calls k a0_0 _ _ l1 true _ ?side1 ?side2 A8.out).mono ?_); (case side1 => exact pC (Kd.C_below HR1.out HB.out)); (case side2 => exact HC1.out); rintro e w' ⟨rfl, ⟨nd, rfl⟩⟩; (try exact dq_)) | (go_at_call 116; (with_reducible refine (a5.calls a2 0 (wrap64 (a0_0 - 1)) false _ A10.out).mono ?_); rintro e w' ⟨rfl, ⟨nd, rfl⟩⟩; (try exact dq_))))
     go_meet
     case rel => exact ⟨_, (true), rs_, H', ⟨by first | omega | exact Nat.le_refl _⟩, ⟨pk BKqc.out⟩, ⟨pB1 HB.out GEqc.out⟩⟩
   ·replace c9 := Bool.eq_false_iff.mpr c9
    subst c9
    have H1 : (aq.j0 k l1 a2 true a0_0 l0_1) = some (r1, r2) := by rw [if_neg (show ¬ (false = true) by decide)] at H; exact H
    clear H
    have H := H1
    clear H1
    have H' := aQ H
    clear H
    obtain ⟨hcz30_0, hcz30_1, hfz30_0, hfz30_1⟩ := c2 BKqc
    go_wp2_with (first | (go_at_call 59; (with_reducible refine (aw.calls k a0_0 _ _ l0_1 true _ ?side1 ?side2 A6.out).mono ?_); (case side1 => exact pC (Kd.C_below HR0_1.out HB.out)); (case side2 => exact HC0_1.out); rintro e w31 ⟨rfl, hb⟩; replace BKqc := bb BKqc hb; replace HB := bs HB hb; (try clear hb); obtain ⟨hcz32_0, hcz32_1, hfz32_0, hfz32_1⟩ := c2 BKqc) | (go_at_call 39; (with_reducible refine (aA.calls k a0_0 _ _ l1 false _ ?side1 ?side2 A8.out).mono ?_); (case side1 => exact pC (Kd.C_below HR1.out HB.out)); (case side2 => exact HC1.out); rintro e w' ⟨rfl, ⟨nd, rfl⟩⟩; (try exact dq_)))
    repeat (go_quiet (first | (go_at_call 59; (with_reducible refine (aw.calls k a0_0 _ _ l0_1 true _ ?side1 ?side2 A6.out).mono ?_); (case side1 => exact pC (Kd.C_below HR0_1.out HB.out)); (case side2 => exact HC0_1.out); rintro e w31 ⟨rfl, hb⟩; replace BKqc := bb BKqc hb; replace HB := bs HB hb; (try clear hb); obtain ⟨hcz32_0, hcz32_1, hfz32_0, hfz32_1⟩ := c2 BKqc) | (go_at_call 39; (with_reducible refine (aA.calls k a0_0 _ _ l1 false _ ?side1 ?side2 A8.out).mono ?_); (case side1 => exact pC (Kd.C_below HR1.out HB.out)); (case side2 => exact HC1.out); rintro e w' ⟨rfl, ⟨nd, rfl⟩⟩; (try exact dq_))); try go_wp2_with (first | (go_at_call 59; (with_reducible refine (aw.calls k a0_0 _ _ l0_1 true _ ?side1 ?side2 A6.out).mono ?_); (case side1 => exact pC (Kd.C_below HR0_1.out HB.out)); (case side2 => exact HC0_1.out); rintro e w31 ⟨rfl, hb⟩; replace BKqc := bb BKqc hb; replace HB := bs HB hb; (try clear hb); obtain ⟨hcz32_0, hcz32_1, hfz32_0, hfz32_1⟩ := c2 BKqc) | (go_at_call 39; (with_reducible refine (aA.calls k a0_0 _ _ l1 false _ ?side1 ?side2 A8.out).mono ?_); (case side1 => exact pC (Kd.C_below HR1.out HB.out)); (case side2 => exact HC1.out); rintro e w' ⟨rfl, ⟨nd, rfl⟩⟩; (try exact dq_))))
    go_meet
    case rel => exact ⟨_, (true), rs_, H', ⟨by first | omega | exact Nat.le_refl _⟩, ⟨pk BKqc.out⟩, ⟨pB1 HB.out GEqc.out⟩⟩
  ·replace c7 := Bool.eq_false_iff.mpr c7
   subst c7
   have H1 : (aq.j0 k l1 a2 true a0_0 l0_1) = some (r1, r2) := by rw [if_neg (show ¬ (false = true) by decide)] at H; exact H
   clear H
   have H := H1
   clear H1
   have H' := aQ H
   clear H
   obtain ⟨hcz33_0, hcz33_1, hfz33_0, hfz33_1⟩ := c2 BKqc
   go_wp2_with (first | (go_at_call 59; (with_reducible refine (aw.calls k a0_0 _ _ l0_1 false _ ?side1 ?side2 A6.out).mono ?_); (case side1 => exact pC (Kd.C_below HR0_1.out HB.out)); (case side2 => exact HC0_1.out); rintro e w34 ⟨rfl, hb⟩; replace BKqc := bb BKqc hb; replace HB := bs HB hb; (try clear hb)))
   repeat (go_quiet (first | (go_at_call 59; (with_reducible refine (aw.calls k a0_0 _ _ l0_1 false _ ?side1 ?side2 A6.out).mono ?_); (case side1 => exact pC (Kd.C_below HR0_1.out HB.out)); (case side2 => exact HC0_1.out); rintro e w34 ⟨rfl, hb⟩; replace BKqc := bb BKqc hb; replace HB := bs HB hb; (try clear hb))); try go_wp2_with (first | (go_at_call 59; (with_reducible refine (aw.calls k a0_0 _ _ l0_1 false _ ?side1 ?side2 A6.out).mono ?_); (case side1 => exact pC (Kd.C_below HR0_1.out HB.out)); (case side2 => exact HC0_1.out); rintro e w34 ⟨rfl, hb⟩; replace BKqc := bb BKqc hb; replace HB := bs HB hb; (try clear hb))))
   go_meet
   case rel => exact ⟨_, (true), rs_, H', ⟨by first | omega | exact Nat.le_refl _⟩, ⟨pk BKqc.out⟩, ⟨pB1 HB.out GEqc.out⟩⟩
 case rest =>
  clear HC4
  try clear c1
  obtain ⟨kq, x40_3, rfl, HA, HJ3, BKqc, HB⟩ := hcut
  cases kq with
  | zero => exact absurd HA.out (by simp [aq.j0])
  | succ kj3 =>
   have H := HA.out
   clear HA
   simp only [aq.j0] at H
   by_cases c35 : x40_3 = true
   ·subst c35
    rw [if_pos rfl] at H
    simp only [Option.some.injEq, Prod.mk.injEq] at H
    obtain ⟨rfl, rfl⟩ := H
    go_wp2
    repeat (go_quiet (fail); try go_wp2)
    go_ret2
    exact ⟨re_, pB1 HB.out GEqc.out⟩
   ·replace c35 := Bool.eq_false_iff.mpr c35
    subst c35
    have H1 : (aq.l0 kj3 l1 a2 (-8000) (-8000) 0 a0_0 l0_1) = some (r1, r2) := by rw [if_neg (show ¬ (false = true) by decide)] at H; exact H
    clear H
    have H := H1
    clear H1
    have H' := aQ H
    clear H
    go_wp2
    repeat (go_quiet (fail); try go_wp2)
    go_loopg [8, 9, 10] kj3 (fun kq v8 v9 v10 w' => ∃ (x8_2 : Int) (x9_2 : Int) (x10_2 : Int), v8 = .int .i64 x8_2 ∧ v9 = .int .i64 x9_2 ∧ v10 = .int .i64 x10_2 ∧ Aside0 (aq.l0 kq l1 a2 x8_2 x9_2 x10_2 a0_0 l0_1 = some (r1, r2)) ∧ Aside0 (kq ≤ kj3) ∧ Aside0 (w'.heap[gbqc]? = some (.cells #[.int .i64 a0_0, (.slice A0_1 l0_1.length c0_1)] 26 (0, 0))) ∧ Aside0 (Below w.heap.size w w'))
    case atStart => exact ⟨((-8000)), ((-8000)), (0), rs_, rs_, rs_, H', ⟨Nat.le_refl _⟩, ⟨pk BKqc.out⟩, ⟨pB1 HB.out GEqc.out⟩⟩
    clear H'
    try clear c1
    try clear c35
    obtain ⟨x8_2, x9_2, x10_2, rfl, rfl, rfl, HA, HK2, BKqc, HB⟩ := hrel
    rcases gk with _ | k2
    ·exact absurd HA.out (by simp [aq.l0])
    have H := HA.out
    clear HA
    simp only [aq.l0] at H
    by_cases c36 : x10_2 < (l0_1.length : Int)
    ·rw [if_pos c36] at H
     have c36b0 := decide_eq_true c36
     clear c36
     replace H := gd H; obtain ⟨c37, H⟩ := H
     have c37b0 := decide_eq_true c37
     clear c37
     replace H := bo H; obtain ⟨tq0, A38, H⟩ := H
     (try dsimp only at H)
     by_cases c39 : tq0 = true
     ·subst c39
      rw [if_pos rfl] at H
      replace H := bo H; obtain ⟨tq1, A40, H⟩ := H
      (try dsimp only at H)
      replace H := gd H; obtain ⟨c41, H⟩ := H
      have c41b0 := decide_eq_true c41
      clear c41
      replace H := gd H; obtain ⟨c42, H⟩ := H
      have c42b0 := decide_eq_true c42
      clear c42
      replace H := bo H; obtain ⟨tq2, A43, H⟩ := H
      (try dsimp only at H)
      have H' := aQ H
      clear H
      obtain ⟨hcz44_0, hcz44_1, hfz44_0, hfz44_1⟩ := c2 BKqc
      have pqd : 0 ≤ (x10_2 : Int) := of_decide_eq_true as_
      have qqd : x10_2 < (l0_1.length : Int) := of_decide_eq_true as_
      obtain ⟨adqd, eqd, hxqd_0⟩ := Kd.at_int HR0_1.out x10_2 pqd qqd
      cases eqd
      replace hxqd_0 := (HB.out.cell (World.block_lt_of_cell? w _ hxqd_0)).trans hxqd_0
      replace pqd := eq_true pqd
      replace qqd := eq_true qqd
      have pqe : 0 ≤ (a2 : Int) := of_decide_eq_true as_
      have qqe : a2 < (l1.length : Int) := of_decide_eq_true as_
      obtain ⟨adqe, eqe, hxqe_0⟩ := Kd.at_int HR1.out a2 pqe qqe
      cases eqe
      replace hxqe_0 := (HB.out.cell (World.block_lt_of_cell? w _ hxqe_0)).trans hxqe_0
      replace pqe := eq_true pqe
      replace qqe := eq_true qqe
      go_wp2_with (first | (go_at_call 124; (with_reducible refine (aT.calls (rd l0_1 x10_2) a2 true _ A38.out).mono ?_); rintro e w' ⟨rfl, ⟨nd, rfl⟩⟩; (try exact dq_); have pqf : 0 ≤ (x10_2 : Int) := of_decide_eq_true as_; have qqf : x10_2 < (l0_1.length : Int) := of_decide_eq_true as_; obtain ⟨adqf, eqf, hxqf_0⟩ := Kd.at_int HR0_1.out x10_2 pqf qqf; obtain rfl : adqd = adqf := (by injection eqf); replace hxqf_0 := (HB.out.cell (World.block_lt_of_cell? w _ hxqf_0)).trans hxqf_0; replace pqf := eq_true pqf; replace qqf := eq_true qqf) | (go_at_call 23; (with_reducible refine (am.calls k2 _ _ l1 (rd l0_1 x10_2) tq1 _ ?side1 ?side2 A40.out).mono ?_); (case side1 => exact pC ((Kd.C_below HR1.out (pB1 HB.out GEqc.out)))); (case side2 => exact HC1.out); rintro e w' ⟨rfl, ⟨nd, rfl⟩⟩; (try exact dq_)) | (go_at_call 107; (with_reducible refine (bM.calls x9_2 (wrap64 (tq1 - (rd l1 a2))) tq2 _ A43.out).mono ?_); rintro e w' ⟨rfl, ⟨nd, rfl⟩⟩; (try exact dq_)))
      repeat (go_quiet (first | (go_at_call 124; (with_reducible refine (aT.calls (rd l0_1 x10_2) a2 true _ A38.out).mono ?_); rintro e w' ⟨rfl, ⟨nd, rfl⟩⟩; (try exact dq_); have pqf : 0 ≤ (x10_2 : Int) := of_decide_eq_true as_; have qqf : x10_2 < (l0_1.length : Int) := of_decide_eq_true as_; obtain ⟨adqf, eqf, hxqf_0⟩ := Kd.at_int HR0_1.out x10_2 pqf qqf; obtain rfl : adqd = adqf := (by injection eqf); replace hxqf_0 := (HB.out.cell (World.block_lt_of_cell? w _ hxqf_0)).trans hxqf_0; replace pqf := eq_true pqf; replace qqf := eq_true qqf) | (go_at_call 23; (with_reducible refine (am.calls k2 _ _ l1 (rd l0_1 x10_2) tq1 _ ?side1 ?side2 A40.out).mono ?_); (case side1 => exact pC ((Kd.C_below HR1.out (pB1 HB.out GEqc.out)))); (case side2 => exact HC1.out); rintro e w' ⟨rfl, ⟨nd, rfl⟩⟩; (try exact dq_)) | (go_at_call 107; (with_reducible refine (bM.calls x9_2 (wrap64 (tq1 - (rd l1 a2))) tq2 _ A43.out).mono ?_); rintro e w' ⟨rfl, ⟨nd, rfl⟩⟩; (try exact dq_))); try go_wp2_with (first | (go_at_call 124; (with_reducible refine (aT.calls (rd l0_1 x10_2) a2 true _ A38.out).mono ?_); rintro e w' ⟨rfl, ⟨nd, rfl⟩⟩; (try exact dq_); have pqf : 0 ≤ (x10_2 : Int) := of_decide_eq_true as_; have qqf : x10_2 < (l0_1.length : Int) := of_decide_eq_true as_; obtain ⟨adqf, eqf, hxqf_0⟩ := Kd.at_int HR0_1.out x10_2 pqf qqf; obtain rfl : adqd = adqf := (by injection eqf); replace hxqf_0 := (HB.out.cell (World.block_lt_of_cell? w _ hxqf_0)).trans hxqf_0; replace pqf := eq_true pqf; replace qqf := eq_true qqf) | (go_at_call 23; (with_reducible refine (am.calls k2 _ _ l1 (rd l0_1 x10_2) tq1 _ ?side1 ?side2 A40.out).mono ?_); (case side1 => exact pC ((Kd.C_below HR1.out (pB1 HB.out GEqc.out)))); (case side2 => exact HC1.out); rintro e w' ⟨rfl, ⟨nd, rfl⟩⟩; (try exact dq_)) | (go_at_call 107; (with_reducible refine (bM.calls x9_2 (wrap64 (tq1 - (rd l1 a2))) tq2 _ A43.out).mono ?_); rintro e w' ⟨rfl, ⟨nd, rfl⟩⟩; (try exact dq_))))
      go_roundg k2
      case measure => have := HJ3.out; have := HK2.out; omega
      case rel => exact ⟨(x8_2), (tq2), (wrap64 (x10_2 + 1)), rs_, rs_, rs_, H', ⟨by have := HJ3.out; have := HK2.out; omega⟩, ⟨pk BKqc.out⟩, ⟨pB1 HB.out GEqc.out⟩⟩
     ·replace c39 := Bool.eq_false_iff.mpr c39
      subst c39
      have H1 : ((am.f k2 l1 (rd l0_1 x10_2)).bind fun tq3 => ((bM.f x8_2 tq3).bind fun tq4 => (aq.l0 k2 l1 a2 tq4 x9_2 (wrap64 (x10_2 + 1)) a0_0 l0_1))) = some (r1, r2) := by rw [if_neg (show ¬ (false = true) by decide)] at H; exact H
      clear H
      have H := H1
      clear H1
      replace H := bo H; obtain ⟨tq3, A45, H⟩ := H
      (try dsimp only at H)
      replace H := bo H; obtain ⟨tq4, A46, H⟩ := H
      (try dsimp only at H)
      have H' := aQ H
      clear H
      obtain ⟨hcz47_0, hcz47_1, hfz47_0, hfz47_1⟩ := c2 BKqc
      have pqd : 0 ≤ (x10_2 : Int) := of_decide_eq_true as_
      have qqd : x10_2 < (l0_1.length : Int) := of_decide_eq_true as_
      obtain ⟨adqd, eqd, hxqd_0⟩ := Kd.at_int HR0_1.out x10_2 pqd qqd
      cases eqd
      replace hxqd_0 := (HB.out.cell (World.block_lt_of_cell? w _ hxqd_0)).trans hxqd_0
      replace pqd := eq_true pqd
      replace qqd := eq_true qqd
      go_wp2_with (first | (go_at_call 124; (with_reducible refine (aT.calls (rd l0_1 x10_2) a2 false _ A38.out).mono ?_); rintro e w' ⟨rfl, ⟨nd, rfl⟩⟩; (try exact dq_); have pqg : 0 ≤ (x10_2 : Int) := of_decide_eq_true as_; have qqg : x10_2 < (l0_1.length : Int) := of_decide_eq_true as_; obtain ⟨adqg, eqg, hxqg_0⟩ := Kd.at_int HR0_1.out x10_2 pqg qqg; obtain rfl : adqd = adqg := (by injection eqg); replace hxqg_0 := (HB.out.cell (World.block_lt_of_cell? w _ hxqg_0)).trans hxqg_0; replace pqg := eq_true pqg; replace qqg := eq_true qqg) | (go_at_call 23; (with_reducible refine (am.calls k2 _ _ l1 (rd l0_1 x10_2) tq3 _ ?side1 ?side2 A45.out).mono ?_); (case side1 => exact pC ((Kd.C_below HR1.out (pB1 HB.out GEqc.out)))); (case side2 => exact HC1.out); rintro e w' ⟨rfl, ⟨nd, rfl⟩⟩; (try exact dq_)) | (go_at_call 107; (with_reducible refine (bM.calls x8_2 tq3 tq4 _ A46.out).mono ?_); rintro e w' ⟨rfl, ⟨nd, rfl⟩⟩; (try exact dq_)))
      repeat (go_quiet (first | (go_at_call 124; (with_reducible refine (aT.calls (rd l0_1 x10_2) a2 false _ A38.out).mono ?_); rintro e w' ⟨rfl, ⟨nd, rfl⟩⟩; (try exact dq_); have pqg : 0 ≤ (x10_2 : Int) := of_decide_eq_true as_; have qqg : x10_2 < (l0_1.length : Int) := of_decide_eq_true as_; obtain ⟨adqg, eqg, hxqg_0⟩ := Kd.at_int HR0_1.out x10_2 pqg qqg; obtain rfl : adqd = adqg := (by injection eqg); replace hxqg_0 := (HB.out.cell (World.block_lt_of_cell? w _ hxqg_0)).trans hxqg_0; replace pqg := eq_true pqg; replace qqg := eq_true qqg) | (go_at_call 23; (with_reducible refine (am.calls k2 _ _ l1 (rd l0_1 x10_2) tq3 _ ?side1 ?side2 A45.out).mono ?_); (case side1 => exact pC ((Kd.C_below HR1.out (pB1 HB.out GEqc.out)))); (case side2 => exact HC1.out); rintro e w' ⟨rfl, ⟨nd, rfl⟩⟩; (try exact dq_)) | (go_at_call 107; (with_reducible refine (bM.calls x8_2 tq3 tq4 _ A46.out).mono ?_); rintro e w' ⟨rfl, ⟨nd, rfl⟩⟩; (try exact dq_))); try go_wp2_with (first | (go_at_call 124; (with_reducible refine (aT.calls (rd l0_1 x10_2) a2 false _ A38.out).mono ?_); rintro e w' ⟨rfl, ⟨nd, rfl⟩⟩; (try exact dq_); have pqg : 0 ≤ (x10_2 : Int) := of_decide_eq_true as_; have qqg : x10_2 < (l0_1.length : Int) := of_decide_eq_true as_; obtain ⟨adqg, eqg, hxqg_0⟩ := Kd.at_int HR0_1.out x10_2 pqg qqg; obtain rfl : adqd = adqg := (by injection eqg); replace hxqg_0 := (HB.out.cell (World.block_lt_of_cell? w _ hxqg_0)).trans hxqg_0; replace pqg := eq_true pqg; replace qqg := eq_true qqg) | (go_at_call 23; (with_reducible refine (am.calls k2 _ _ l1 (rd l0_1 x10_2) tq3 _ ?side1 ?side2 A45.out).mono ?_); (case side1 => exact pC ((Kd.C_below HR1.out (pB1 HB.out GEqc.out)))); (case side2 => exact HC1.out); rintro e w' ⟨rfl, ⟨nd, rfl⟩⟩; (try exact dq_)) | (go_at_call 107; (with_reducible refine (bM.calls x8_2 tq3 tq4 _ A46.out).mono ?_); rintro e w' ⟨rfl, ⟨nd, rfl⟩⟩; (try exact dq_))))
      go_roundg k2
      case measure => have := HJ3.out; have := HK2.out; omega
      case rel => exact ⟨(tq4), (x9_2), (wrap64 (x10_2 + 1)), rs_, rs_, rs_, H', ⟨by have := HJ3.out; have := HK2.out; omega⟩, ⟨pk BKqc.out⟩, ⟨pB1 HB.out GEqc.out⟩⟩
    ·rw [if_neg c36] at H
     have c36b0 := decide_eq_false c36
     clear c36
     simp only [Option.some.injEq, Prod.mk.injEq] at H
     obtain ⟨rfl, rfl⟩ := H
     obtain ⟨hcz48_0, hcz48_1, hfz48_0, hfz48_1⟩ := c2 BKqc
     go_wp2
     repeat (go_quiet (fail); try go_wp2)
     go_ret2
     exact ⟨re_, pB1 HB.out GEqc.out⟩
def cd.f (k : Nat) (l0 : List Int) : Option (Int × List Int) := (bS.f k l0).bind fun btq0 => ((ak.f btq0.1 btq0.2.1 btq0.2.2 10).bind fun btq1 => ((b6.f k btq0.1 btq1.2.1 btq1.2.2 btq1.1).bind fun btq2 => (some (btq1.1, btq2.1))))
theorem cd.calls (k : Nat) (A0 : Option Addr) (c0 : Nat) (l0 : List Int) (r1 : Int) (r2 : List Int) (w : World) (hr0 : Kd.C (Kd.int .u8) w A0 l0.length l0) (hc0 : l0.length ≤ c0) (h : cd.f k l0 = some (r1, r2)) :
  Calls Tryz.prog 35 #[.slice A0 l0.length c0] w fun e w' => ∃ v1_ : Value, e = .returned (.tuple #[.int .i64 r1, v1_]) ∧ Kd.R (Kd.int .i64) 3 w' w.heap.size (fun _ => True) v1_ r2 ∧ Below w.heap.size w w' := by
 have HR0 := aQ hr0
 have HC0 := aQ hc0
 clear hr0 hc0
 have HB := aQ (Below.refl w.heap.size w)
 have H := h
 clear h
 unfold cd.f at H
 (try dsimp only at H)
 replace H := bo H; obtain ⟨⟨tq0, tq3, tq4⟩, A2, H⟩ := H
 (try dsimp only at H)
 replace H := bo H; obtain ⟨⟨tq1, tq5, tq6⟩, A3, H⟩ := H
 (try dsimp only at H)
 replace H := bo H; obtain ⟨⟨tq2, tq7, tq8⟩, A4, H⟩ := H
 (try dsimp only at H)
 simp only [Option.some.injEq, Prod.mk.injEq] at H
 obtain ⟨rfl, rfl⟩ := H
 go_enter Tryz.func35, Tryz.ntmps35
 go_wp2_with (first | (refine gq 96 (some 7) Tryz.func96 #[.slice A0 l0.length c0] ?_; (with_reducible refine (bS.calls k _ _ l0 tq0 tq3 tq4 w _ ?side1 ?side2 ?side3 A2.out).mono ?_); (case side1 => exact pb HB); (case side2 => exact HR0.out); (case side3 => exact HC0.out); rintro e w5 ⟨gq9, rfl, hi, hb, hb2⟩; refine ⟨_, rfl, ?_⟩; replace HB := aQ (hb); have HIq9 := aQ (hi); (try clear hb); (try clear hb2); (try clear hi)) | (refine gq 99 (some 9) Tryz.func99 #[.pointer (some ⟨gq9, 0, none⟩), .int .i64 10] ?_; (with_reducible refine (ak.calls gq9 tq0 tq3 tq4 10 tq1 tq5 tq6 w _ ?side1 ?side2 A3.out).mono ?_); (case side1 => exact pi_ HIq9); (case side2 => exact pbI HB); rintro e w6 ⟨rfl, hi, hb, hk⟩; refine ⟨_, rfl, ?_⟩; replace HB := aQ (hb); replace HIq9 := aQ (hi); (try clear hb); (try clear hk); (try clear hi)) | (refine gq 98 (some 13) Tryz.func98 #[.pointer (some ⟨gq9, 0, none⟩), .int .i64 tq1] ?_; (with_reducible refine (b6.calls k gq9 tq0 tq5 tq6 tq1 tq2 tq7 tq8 w _ ?side1 ?side2 A4.out).mono ?_); (case side1 => exact pi_ HIq9); (case side2 => exact pbI HB); rintro e w7 ⟨vqa, rfl, ho0, hi, hb, hk⟩; refine ⟨_, rfl, ?_⟩; have HOqb := aQ (Kd.R_lower ho0 (aa (pbI HB))); replace HB := aQ (hb); replace HIq9 := aQ (hi); (try clear hb); (try clear hk); (try clear hi); (try clear ho0)))
 go_ret2
 exact ⟨_, by first | rfl | (simp [errW_none, aj] <;> rfl) | (simp [*, errW_none, aj] <;> rfl), by refine pRx ?_; exact HOqb.out, pbI HB⟩
def cl.f (k : Nat) (l0 : List Int) : Option (List Int × Int) := (bS.f k l0).bind fun btq0 => ((ak.f btq0.1 btq0.2.1 btq0.2.2 8).bind fun btq1 => ((b6.f k btq0.1 btq1.2.1 btq1.2.2 btq1.1).bind fun btq2 => ((dc.f btq0.1 btq2.2.1 btq2.2.2).bind fun btq3 => (some (btq2.1, btq3.1)))))
theorem cl.calls (k : Nat) (A0 : Option Addr) (c0 : Nat) (l0 : List Int) (r1 : List Int) (r2 : Int) (w : World) (hr0 : Kd.C (Kd.int .u8) w A0 l0.length l0) (hc0 : l0.length ≤ c0) (h : cl.f k l0 = some (r1, r2)) :
  Calls Tryz.prog 36 #[.slice A0 l0.length c0] w fun e w' => ∃ v0_ : Value, e = .returned (.tuple #[v0_, .int .i64 r2]) ∧ Kd.R (Kd.int .i64) 3 w' w.heap.size (fun _ => True) v0_ r1 ∧ Below w.heap.size w w' := by
 have HR0 := aQ hr0
 have HC0 := aQ hc0
 clear hr0 hc0
 have HB := aQ (Below.refl w.heap.size w)
 have H := h
 clear h
 unfold cl.f at H
 (try dsimp only at H)
 replace H := bo H; obtain ⟨⟨tq0, tq4, tq5⟩, A2, H⟩ := H
 (try dsimp only at H)
 replace H := bo H; obtain ⟨⟨tq1, tq6, tq7⟩, A3, H⟩ := H
 (try dsimp only at H)
 replace H := bo H; obtain ⟨⟨tq2, tq8, tq9⟩, A4, H⟩ := H
 (try dsimp only at H)
 replace H := bo H; obtain ⟨⟨tq3, tqa, tqb⟩, A5, H⟩ := H
 (try dsimp only at H)
 simp only [Option.some.injEq, Prod.mk.injEq] at H
 obtain ⟨rfl, rfl⟩ := H
 go_enter Tryz.func36, Tryz.ntmps36
 go_wp2_with (first | (refine gq 96 (some 7) Tryz.func96 #[.slice A0 l0.length c0] ?_; (with_reducible refine (bS.calls k _ _ l0 tq0 tq4 tq5 w _ ?side1 ?side2 ?side3 A2.out).mono ?_); (case side1 => exact pb HB); (case side2 => exact HR0.out); (case side3 => exact HC0.out); rintro e w6 ⟨gqc, rfl, hi, hb, hb2⟩; refine ⟨_, rfl, ?_⟩; replace HB := aQ (hb); have HIqc := aQ (hi); (try clear hb); (try clear hb2); (try clear hi)) | (refine gq 99 (some 10) Tryz.func99 #[.pointer (some ⟨gqc, 0, none⟩), .int .i64 8] ?_; (with_reducible refine (ak.calls gqc tq0 tq4 tq5 8 tq1 tq6 tq7 w _ ?side1 ?side2 A3.out).mono ?_); (case side1 => exact pi_ HIqc); (case side2 => exact pbI HB); rintro e w7 ⟨rfl, hi, hb, hk⟩; refine ⟨_, rfl, ?_⟩; replace HB := aQ (hb); replace HIqc := aQ (hi); (try clear hb); (try clear hk); (try clear hi)) | (refine gq 98 (some 11) Tryz.func98 #[.pointer (some ⟨gqc, 0, none⟩), .int .i64 tq1] ?_; (with_reducible refine (b6.calls k gqc tq0 tq6 tq7 tq1 tq2 tq8 tq9 w _ ?side1 ?side2 A4.out).mono ?_); (case side1 => exact pi_ HIqc); (case side2 => exact pbI HB); rintro e w8 ⟨vqd, rfl, ho0, hi, hb, hk⟩; refine ⟨_, rfl, ?_⟩; have HOqe := aQ (Kd.R_lower ho0 (aa (pbI HB))); replace HB := aQ (hb); replace HIqc := aQ (hi); (try clear hb); (try clear hk); (try clear hi); (try clear ho0)) | (refine gq 127 (some 14) Tryz.func127 #[.pointer (some ⟨gqc, 0, none⟩)] ?_; (with_reducible refine (dc.calls gqc tq0 tq8 tq9 tq3 tqa tqb w _ ?side1 ?side2 A5.out).mono ?_); (case side1 => exact pi_ HIqc); (case side2 => exact pbI HB); rintro e w9 ⟨rfl, hi, hb, hk⟩; refine ⟨_, rfl, ?_⟩; replace HOqe := aQ (Kd.R_mono (Kd.R_keep (IsS126.apart (show IsS126 w _ gqc tq0 tq8 tq9 from pi_ HIqc) (pR HOqe.out) (by decide)) hk (fun _ h => h.2)) (fun _ h => h.1)); replace HB := aQ (hb); replace HIqc := aQ (hi); (try clear hb); (try clear hk); (try clear hi)))
 go_ret2
 exact ⟨_, by first | rfl | (simp [errW_none, aj] <;> rfl) | (simp [*, errW_none, aj] <;> rfl), by refine pRx ?_; exact HOqe.out, pbI HB⟩
mutual
def aI.j0 : Nat → List Int → Int → Bool → Int → List Int → Option (Bool)
 | 0, _, _, _, _, _ => none
 | k + 1, x1, x2, x24, x38002000, x38002001 => if x24 = true then (some false) else (aI.l0 k x1 x2 0 x38002000 x38002001)
def aI.l0 : Nat → List Int → Int → Int → Int → List Int → Option (Bool)
 | 0, _, _, _, _, _ => none
 | k + 1, x1, x2, x7, x38002000, x38002001 => if x7 < (x38002001.length : Int) then (if 0 ≤ x7 then ((aY.f k (Go.bits .xor .i64 (rd x38002001 x7) x2)).bind fun tq0 => (if tq0 = 2 then ((am.f k x1 (rd x38002001 x7)).bind fun tq1 => ((am.f k x1 x2).bind fun tq2 => (if tq1 > tq2 then (some false) else (aI.l0 k x1 x2 (wrap64 (x7 + 1)) x38002000 x38002001)))) else (aI.l0 k x1 x2 (wrap64 (x7 + 1)) x38002000 x38002001))) else (none)) else (some true)
end
def aI.f (k : Nat) (a0_0 : Int) (l0_1 : List Int) (l1 : List Int) (a2 : Int) : Option (Bool) := (aw.f k a0_0 l0_1).bind fun tq3 => (if tq3 = true then ((aA.f k a0_0 l1).bind fun tq4 => (if tq4 = true then ((aG.f k l0_1 a2).bind fun tq5 => (aI.j0 k l1 a2 (!tq5) a0_0 l0_1)) else (aI.j0 k l1 a2 true a0_0 l0_1))) else (aI.j0 k l1 a2 true a0_0 l0_1))
theorem aI.calls (k : Nat) (a0_0 : Int) (A0_1 : Option Addr) (c0_1 : Nat) (l0_1 : List Int) (A1 : Option Addr) (c1 : Nat) (l1 : List Int) (a2 : Int) (r : Bool) (w : World) (hr0_1 : Kd.C (Kd.int .i64) w A0_1 l0_1.length l0_1) (hc0_1 : l0_1.length ≤ c0_1) (hr1 : Kd.C (Kd.int .i64) w A1 l1.length l1) (hc1 : l1.length ≤ c1) (h : aI.f k a0_0 l0_1 l1 a2 = some r) :
  Calls Tryz.prog 37 #[.agg #[.int .i64 a0_0, .slice A0_1 l0_1.length c0_1], .slice A1 l1.length c1, .int .i64 a2] w fun e w' => e = .returned (.bool r) ∧ Below w.heap.size w w' := by
 have hu26 := Tryz.underlying26
 have HR0_1 := aQ hr0_1
 have HC0_1 := aQ hc0_1
 clear hr0_1 hc0_1
 have HR1 := aQ hr1
 have HC1 := aQ hc1
 clear hr1 hc1
 have HB := aQ (Below.refl w.heap.size w)
 have H := h
 clear h
 unfold aI.f at H
 (try dsimp only at H)
 have HC4 := aQ H
 clear H
 go_enter Tryz.func37, Tryz.ntmps37
 go_upto_region 1 with (first | ((with_reducible refine af (N := 3) rfl ?_); refine bx 3 #[.int .i64 a0_0, .slice A0_1 l0_1.length c0_1] 26 ?_; intro gbq6 hg w5 hbox hb; have BKq6 := aQ (hbox); have GWq6 := gB HB hg; have GEq6 := gB HB hg; replace HB := bs HB hb; clear hb hbox hg))
 (try simp only [Act.put, List.setIfInBounds_toArray, List.set_cons_zero, List.set_cons_succ])
 go_cut [24] (fun v24 wc => ∃ (kq : Nat) (x24_3 : Bool), v24 = .bool x24_3 ∧ Aside0 (aI.j0 kq l1 a2 x24_3 a0_0 l0_1 = some r) ∧ Aside0 (kq ≤ k) ∧ Aside0 (wc.heap[gbq6]? = some (.cells #[.int .i64 a0_0, (.slice A0_1 l0_1.length c0_1)] 26 (0, 0))) ∧ Aside0 (Below w.heap.size w wc))
 case first =>
  have H := HC4.out
  clear HC4
  replace H := bo H; obtain ⟨tq3, A6, H⟩ := H
  (try dsimp only at H)
  by_cases c7 : tq3 = true
  ·subst c7
   rw [if_pos rfl] at H
   replace H := bo H; obtain ⟨tq4, A8, H⟩ := H
   (try dsimp only at H)
   by_cases c9 : tq4 = true
   ·subst c9
    rw [if_pos rfl] at H
    replace H := bo H; obtain ⟨tq5, A10, H⟩ := H
    (try dsimp only at H)
    have H' := aQ H
    clear H
    obtain ⟨hcz11_0, hcz11_1, hfz11_0, hfz11_1⟩ := c2 BKq6
    go_wp2_with (first | (refine gq 59 (some 9) Tryz.func59 #[.agg #[.int .i64 a0_0, .slice A0_1 l0_1.length c0_1]] ?_; (with_reducible refine (aw.calls k a0_0 _ _ l0_1 true _ ?side1 ?side2 A6.out).mono ?_); (case side1 => exact pC (Kd.C_below HR0_1.out HB.out)); (case side2 => exact HC0_1.out); rintro e w12 ⟨rfl, hb⟩; refine ⟨_, rfl, ?_⟩; replace BKq6 := bb BKq6 hb; replace HB := bs HB hb; (try clear hb); obtain ⟨hcz13_0, hcz13_1, hfz13_0, hfz13_1⟩ := c2 BKq6) | (go_at_call 39; (with_reducible refine (aA.calls k a0_0 _ _ l1 true _ ?side1 ?side2 A8.out).mono ?_); (case side1 => exact pC (Kd.C_below HR1.out HB.out)); (case side2 => exact HC1.out); rintro e w' ⟨rfl, ⟨nd, rfl⟩⟩) | (go_at_call 42; (with_reducible refine (aG.calls k _ _ l0_1 a2 tq5 _ ?side1 ?side2 A10.out).mono ?_); (case side1 => exact pC ((Kd.C_below HR0_1.out (pB1 HB.out GEq6.out)))); (case side2 => exact HC0_1.out); rintro e w' ⟨rfl, ⟨nd, rfl⟩⟩))
    go_meet
    case rel => exact ⟨_, (!tq5), rs_, H', ⟨by first | omega | exact Nat.le_refl _⟩, ⟨pk BKq6.out⟩, ⟨pB1 HB.out GEq6.out⟩⟩
   ·replace c9 := Bool.eq_false_iff.mpr c9
    subst c9
    have H1 : (aI.j0 k l1 a2 true a0_0 l0_1) = some r := by rw [if_neg (show ¬ (false = true) by decide)] at H; exact H
    clear H
    have H := H1
    clear H1
    have H' := aQ H
    clear H
    obtain ⟨hcz14_0, hcz14_1, hfz14_0, hfz14_1⟩ := c2 BKq6
    go_wp2_with (first | (refine gq 59 (some 9) Tryz.func59 #[.agg #[.int .i64 a0_0, .slice A0_1 l0_1.length c0_1]] ?_; (with_reducible refine (aw.calls k a0_0 _ _ l0_1 true _ ?side1 ?side2 A6.out).mono ?_); (case side1 => exact pC (Kd.C_below HR0_1.out HB.out)); (case side2 => exact HC0_1.out); rintro e w15 ⟨rfl, hb⟩; refine ⟨_, rfl, ?_⟩; replace BKq6 := bb BKq6 hb; replace HB := bs HB hb; (try clear hb); obtain ⟨hcz16_0, hcz16_1, hfz16_0, hfz16_1⟩ := c2 BKq6) | (go_at_call 39; (with_reducible refine (aA.calls k a0_0 _ _ l1 false _ ?side1 ?side2 A8.out).mono ?_); (case side1 => exact pC (Kd.C_below HR1.out HB.out)); (case side2 => exact HC1.out); rintro e w' ⟨rfl, ⟨nd, rfl⟩⟩))
    go_meet
    case rel => exact ⟨_, (true), rs_, H', ⟨by first | omega | exact Nat.le_refl _⟩, ⟨pk BKq6.out⟩, ⟨pB1 HB.out GEq6.out⟩⟩
  ·replace c7 := Bool.eq_false_iff.mpr c7
   subst c7
   have H1 : (aI.j0 k l1 a2 true a0_0 l0_1) = some r := by rw [if_neg (show ¬ (false = true) by decide)] at H; exact H
   clear H
   have H := H1
   clear H1
   have H' := aQ H
   clear H
   obtain ⟨hcz17_0, hcz17_1, hfz17_0, hfz17_1⟩ := c2 BKq6
   go_wp2_with (first | (refine gq 59 (some 9) Tryz.func59 #[.agg #[.int .i64 a0_0, .slice A0_1 l0_1.length c0_1]] ?_; (with_reducible refine (aw.calls k a0_0 _ _ l0_1 false _ ?side1 ?side2 A6.out).mono ?_); (case side1 => exact pC (Kd.C_below HR0_1.out HB.out)); (case side2 => exact HC0_1.out); rintro e w18 ⟨rfl, hb⟩; refine ⟨_, rfl, ?_⟩; replace BKq6 := bb BKq6 hb; replace HB := bs HB hb; (try clear hb)))
   go_meet
   case rel => exact ⟨_, (true), rs_, H', ⟨by first | omega | exact Nat.le_refl _⟩, ⟨pk BKq6.out⟩, ⟨pB1 HB.out GEq6.out⟩⟩
 case rest =>
  clear HC4
  try clear c1
  obtain ⟨kq, x24_3, rfl, HA, HJ3, BKq6, HB⟩ := hcut
  cases kq with
  | zero => exact absurd HA.out (by simp [aI.j0])
  | succ kj3 =>
   have H := HA.out
   clear HA
   simp only [aI.j0] at H
   by_cases c19 : x24_3 = true
   ·subst c19
    rw [if_pos rfl] at H
    obtain rfl := Option.some.inj H
    go_wp2
    go_ret
    exact ⟨re_, pB1 HB.out GEq6.out⟩
   ·replace c19 := Bool.eq_false_iff.mpr c19
    subst c19
    have H1 : (aI.l0 kj3 l1 a2 0 a0_0 l0_1) = some r := by rw [if_neg (show ¬ (false = true) by decide)] at H; exact H
    clear H
    have H := H1
    clear H1
    have H' := aQ H
    clear H
    go_wp2
    go_loopg [7] kj3 (fun kq v7 w' => ∃ (x7_2 : Int), v7 = .int .i64 x7_2 ∧ Aside0 (aI.l0 kq l1 a2 x7_2 a0_0 l0_1 = some r) ∧ Aside0 (kq ≤ kj3) ∧ Aside0 (w'.heap[gbq6]? = some (.cells #[.int .i64 a0_0, (.slice A0_1 l0_1.length c0_1)] 26 (0, 0))) ∧ Aside0 (Below w.heap.size w w'))
    case atStart => exact ⟨(0), rs_, H', ⟨Nat.le_refl _⟩, ⟨pk BKq6.out⟩, ⟨pB1 HB.out GEq6.out⟩⟩
    clear H'
    try clear c1
    try clear c19
    obtain ⟨x7_2, rfl, HA, HK2, BKq6, HB⟩ := hrel
    rcases gk with _ | k2
    ·exact absurd HA.out (by simp [aI.l0])
    have H := HA.out
    clear HA
    simp only [aI.l0] at H
    by_cases c20 : x7_2 < (l0_1.length : Int)
    ·rw [if_pos c20] at H
     have c20b0 := decide_eq_true c20
     clear c20
     replace H := gd H; obtain ⟨c21, H⟩ := H
     have c21b0 := decide_eq_true c21
     clear c21
     replace H := bo H; obtain ⟨tq0, A22, H⟩ := H
     (try dsimp only at H)
     by_cases c23 : tq0 = 2
     ·rw [if_pos c23] at H
      have c23b0 : (tq0 == 2) = true := beq_iff_eq.mpr c23
      have c23b1 : (tq0 != 2) = false := bne_eq_false_iff_eq.mpr c23
      clear c23
      replace H := bo H; obtain ⟨tq1, A24, H⟩ := H
      (try dsimp only at H)
      replace H := bo H; obtain ⟨tq2, A25, H⟩ := H
      (try dsimp only at H)
      by_cases c26 : tq1 > tq2
      ·rw [if_pos c26] at H
       have c26b0 := decide_eq_true c26
       clear c26
       obtain rfl := Option.some.inj H
       obtain ⟨hcz27_0, hcz27_1, hfz27_0, hfz27_1⟩ := c2 BKq6
       have pq7 : 0 ≤ (x7_2 : Int) := of_decide_eq_true as_
       have qq7 : x7_2 < (l0_1.length : Int) := of_decide_eq_true as_
       obtain ⟨adq7, eq7, hxq7_0⟩ := Kd.at_int HR0_1.out x7_2 pq7 qq7
       cases eq7
       replace hxq7_0 := (HB.out.cell (World.block_lt_of_cell? w _ hxq7_0)).trans hxq7_0
       replace pq7 := eq_true pq7
       replace qq7 := eq_true qq7
       go_wp2_with (first | (refine gq 22 (some 39) Tryz.func22 #[.int .i64 (Go.bits .xor .i64 (rd l0_1 x7_2) a2)] ?_; (with_reducible refine (aY.calls k2 (Go.bits .xor .i64 (rd l0_1 x7_2) a2) tq0 _ A22.out).mono ?_); rintro e w' ⟨rfl, ⟨nd, rfl⟩⟩; refine ⟨_, rfl, ?_⟩; have pq8 : 0 ≤ (x7_2 : Int) := of_decide_eq_true as_; have qq8 : x7_2 < (l0_1.length : Int) := of_decide_eq_true as_; obtain ⟨adq8, eq8, hxq8_0⟩ := Kd.at_int HR0_1.out x7_2 pq8 qq8; obtain rfl : adq7 = adq8 := (by injection eq8); replace hxq8_0 := (HB.out.cell (World.block_lt_of_cell? w _ hxq8_0)).trans hxq8_0; replace pq8 := eq_true pq8; replace qq8 := eq_true qq8) | (go_at_call 23; (with_reducible refine (am.calls k2 _ _ l1 (rd l0_1 x7_2) tq1 _ ?side1 ?side2 A24.out).mono ?_); (case side1 => exact pC ((Kd.C_below HR1.out (pB1 HB.out GEq6.out)))); (case side2 => exact HC1.out); rintro e w' ⟨rfl, ⟨nd, rfl⟩⟩) | (go_at_call 23; (with_reducible refine (am.calls k2 _ _ l1 a2 tq2 _ ?side1 ?side2 A25.out).mono ?_); (case side1 => exact pC ((Kd.C_below HR1.out (pB1 HB.out GEq6.out)))); (case side2 => exact HC1.out); rintro e w' ⟨rfl, ⟨nd, rfl⟩⟩))
       go_ret
       exact ⟨re_, pB1 HB.out GEq6.out⟩
      ·rw [if_neg c26] at H
       have c26b0 := decide_eq_false c26
       clear c26
       have H' := aQ H
       clear H
       obtain ⟨hcz28_0, hcz28_1, hfz28_0, hfz28_1⟩ := c2 BKq6
       have pq7 : 0 ≤ (x7_2 : Int) := of_decide_eq_true as_
       have qq7 : x7_2 < (l0_1.length : Int) := of_decide_eq_true as_
       obtain ⟨adq7, eq7, hxq7_0⟩ := Kd.at_int HR0_1.out x7_2 pq7 qq7
       cases eq7
       replace hxq7_0 := (HB.out.cell (World.block_lt_of_cell? w _ hxq7_0)).trans hxq7_0
       replace pq7 := eq_true pq7
       replace qq7 := eq_true qq7
       go_wp2_with (first | (refine gq 22 (some 39) Tryz.func22 #[.int .i64 (Go.bits .xor .i64 (rd l0_1 x7_2) a2)] ?_; (with_reducible refine (aY.calls k2 (Go.bits .xor .i64 (rd l0_1 x7_2) a2) tq0 _ A22.out).mono ?_); rintro e w' ⟨rfl, ⟨nd, rfl⟩⟩; refine ⟨_, rfl, ?_⟩; have pq8 : 0 ≤ (x7_2 : Int) := of_decide_eq_true as_; have qq8 : x7_2 < (l0_1.length : Int) := of_decide_eq_true as_; obtain ⟨adq8, eq8, hxq8_0⟩ := Kd.at_int HR0_1.out x7_2 pq8 qq8; obtain rfl : adq7 = adq8 := (by injection eq8); replace hxq8_0 := (HB.out.cell (World.block_lt_of_cell? w _ hxq8_0)).trans hxq8_0; replace pq8 := eq_true pq8; replace qq8 := eq_true qq8) | (go_at_call 23; (with_reducible refine (am.calls k2 _ _ l1 (rd l0_1 x7_2) tq1 _ ?side1 ?side2 A24.out).mono ?_); (case side1 => exact pC ((Kd.C_below HR1.out (pB1 HB.out GEq6.out)))); (case side2 => exact HC1.out); rintro e w' ⟨rfl, ⟨nd, rfl⟩⟩) | (go_at_call 23; (with_reducible refine (am.calls k2 _ _ l1 a2 tq2 _ ?side1 ?side2 A25.out).mono ?_); (case side1 => exact pC ((Kd.C_below HR1.out (pB1 HB.out GEq6.out)))); (case side2 => exact HC1.out); rintro e w' ⟨rfl, ⟨nd, rfl⟩⟩))
       go_roundg k2
       case measure => have := HJ3.out; have := HK2.out; omega
       case rel => exact ⟨(wrap64 (x7_2 + 1)), rs_, H', ⟨by have := HJ3.out; have := HK2.out; omega⟩, ⟨pk BKq6.out⟩, ⟨pB1 HB.out GEq6.out⟩⟩
     ·rw [if_neg c23] at H
      have c23b0 : (tq0 == 2) = false := beq_eq_false_iff_ne.mpr c23
      have c23b1 : (tq0 != 2) = true := bne_iff_ne.mpr c23
      have H' := aQ H
      clear H
      obtain ⟨hcz29_0, hcz29_1, hfz29_0, hfz29_1⟩ := c2 BKq6
      have pq7 : 0 ≤ (x7_2 : Int) := of_decide_eq_true as_
      have qq7 : x7_2 < (l0_1.length : Int) := of_decide_eq_true as_
      obtain ⟨adq7, eq7, hxq7_0⟩ := Kd.at_int HR0_1.out x7_2 pq7 qq7
      cases eq7
      replace hxq7_0 := (HB.out.cell (World.block_lt_of_cell? w _ hxq7_0)).trans hxq7_0
      replace pq7 := eq_true pq7
      replace qq7 := eq_true qq7
      go_wp2_with (first | (refine gq 22 (some 39) Tryz.func22 #[.int .i64 (Go.bits .xor .i64 (rd l0_1 x7_2) a2)] ?_; (with_reducible refine (aY.calls k2 (Go.bits .xor .i64 (rd l0_1 x7_2) a2) tq0 _ A22.out).mono ?_); rintro e w' ⟨rfl, ⟨nd, rfl⟩⟩; refine ⟨_, rfl, ?_⟩))
      go_roundg k2
      case measure => have := HJ3.out; have := HK2.out; omega
      case rel => exact ⟨(wrap64 (x7_2 + 1)), rs_, H', ⟨by have := HJ3.out; have := HK2.out; omega⟩, ⟨pk BKq6.out⟩, ⟨pB1 HB.out GEq6.out⟩⟩
    ·rw [if_neg c20] at H
     have c20b0 := decide_eq_false c20
     clear c20
     obtain rfl := Option.some.inj H
     obtain ⟨hcz30_0, hcz30_1, hfz30_0, hfz30_1⟩ := c2 BKq6
     go_wp2
     go_ret
     exact ⟨re_, pB1 HB.out GEq6.out⟩
end Go.Proofs.YtimkekeaeojpkaaGreat.A
