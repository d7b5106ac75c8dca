/- Machine side of the law FnCommon: Go functions as Lean functions, and proofs that calls come to what these tell. Conditions: those in each theorem. -/
import Derived.Test.YtimkekeaeojpkaaMFnCommonwRepsOne
import Derived.Test.YtimkekeaeojpkaaMFnCommon0
import Derived.Test.YtimkekeaeojpkaaMFnCommonq0
import Derived.Test.YtimkekeaeojpkaaMFnCommon1
import Derived.Test.YtimkekeaeojpkaaMFnCommon2
import Derived.Test.YtimkekeaeojpkaaMFnCommon3
set_option maxHeartbeats 8000000
set_option maxRecDepth 100000
namespace Go.Proofs.Ytimkekeaeojpkaa.A
open Go.RowKit Go.Proofs.YtimkekeaeojpkaaW.PrintWords Go.Proofs.YtimkekeaeojpkaaW.PrintLast Go.Proofs.YtimkekeaeojpkaaW.PrintMore
attribute [local go_sem] ya8 yba ybm ybn yaY yaX ya6 ya9
set_option linter.unusedVariables false
set_option linter.unusedSimpArgs false
def yaK.f (k : Nat) (s0_0 : List Int) (s0_1 : Int) (s0_2 : Int) (a1 : Int) : Option (Int × List Int × Int × Int) := (yk.f s0_0 s0_1 s0_2 6).bind fun btq0 => (if btq0.1 = 0 then ((yk.f s0_0 btq0.2.1 btq0.2.2 (wrap64 (a1 + 1))).bind fun btq1 => ((yk.f s0_0 btq1.2.1 btq1.2.2 (wrap64 (btq1.1 + 1))).bind fun btq2 => ((yY.f k btq2.1 btq1.1).bind fun btq3 => (some (btq3.1, btq3.2, btq2.2.1, btq2.2.2))))) else (if btq0.1 = 1 then ((yby.f k s0_0 btq0.2.1 btq0.2.2).bind fun btq4 => (if btq4.1 ≤ a1 then (some (btq4.1, btq4.2.1, btq4.2.2.1, btq4.2.2.2)) else ((yk.f s0_0 btq4.2.2.1 btq4.2.2.2 (wrap64 (a1 + 1))).bind fun btq5 => ((yX.f k s0_0 btq5.2.1 btq5.2.2 btq5.1).bind fun btq6 => (some (btq6.1, btq6.2.1, btq6.2.2.1, btq6.2.2.2)))))) else ((yk.f s0_0 btq0.2.1 btq0.2.2 (wrap64 (a1 + 1))).bind fun btq7 => ((yX.f k s0_0 btq7.2.1 btq7.2.2 btq7.1).bind fun btq8 => (some (btq8.1, btq8.2.1, btq8.2.2.1, btq8.2.2.2))))))
theorem yaK.calls (k : Nat) (g : Nat) (s0_0 : List Int) (s0_1 : Int) (s0_2 : Int) (a1 : Int) (r1 : Int) (r2 : List Int) (r3 : Int) (r4 : Int) (w0 w : World) (hI : IsS106 w0 w g s0_0 s0_1 s0_2) (hB : Below w0.heap.size w0 w) (h : yaK.f k s0_0 s0_1 s0_2 a1 = some (r1, r2, r3, r4)) :
  Calls Try.prog 129 #[.pointer (some ⟨g, 0, none⟩), .int .i64 a1] w fun e w' => ∃ v1_ : Value, e = .returned (.agg #[.int .i64 r1, v1_]) ∧ Kd.R (Kd.int .i64) 3 w' w.heap.size (fun _ => True) v1_ r2 ∧ IsS106 w0 w' g s0_0 r3 r4 ∧ Below w0.heap.size w0 w' ∧ KeepBut w w' g none := by
 have hu28 := Try.underlying28
 have HI0 := aQ hI
 have HK := aQ (KeepBut.refl w g none)
 have HL := aQ hB.size
 clear hI
 have HW0 := aQ hB.size
 have HB := aQ hB
 clear hB
 have H := h
 clear h
 unfold yaK.f at H
 (try dsimp only at H)
 replace H := bo H; obtain ⟨⟨tq0, tq9, tqa⟩, A3, H⟩ := H
 (try dsimp only at H)
 by_cases c4 : tq0 = 0
 ·rw [if_pos c4] at H
  have c4b0 : (tq0 == 0) = true := beq_iff_eq.mpr c4
  have c4b1 : (tq0 != 0) = false := bne_eq_false_iff_eq.mpr c4
  clear c4
  replace H := bo H; obtain ⟨⟨tq1, tqb, tqc⟩, A5, H⟩ := H
  (try dsimp only at H)
  replace H := bo H; obtain ⟨⟨tq2, tqd, tqe⟩, A6, H⟩ := H
  (try dsimp only at H)
  replace H := bo H; obtain ⟨⟨tq3, tqf⟩, A7, H⟩ := H
  (try dsimp only at H)
  simp only [Option.some.injEq, Prod.mk.injEq] at H
  obtain ⟨rfl, rfl, rfl, rfl⟩ := H
  go_enter Try.func129, Try.ntmps129
  go_wp2_with (first | ((with_reducible refine yb (N := 4) rfl ?_); refine bx 4 #[.int .i64 0, .slice none 0 0] 28 ?_; intro gbqg hg w8 hbox hb; replace HB := bsI HB hb; have BKqg := aQ (hbox); have GWqg := gw HK hg; have GEqg := ge HK HW0 hg; replace HK := kt HK hb; have NB0_qg := nI HI0 hg; have NBqg_0 := mI HI0 hg; replace HI0 := bI HI0 hb; clear hb hbox hg) | (refine gq 91 (some 8) Try.func91 #[.pointer (some ⟨g, 0, none⟩), .int .i64 6] ?_; (with_reducible refine (yk.calls g s0_0 s0_1 s0_2 6 tq0 tq9 tqa w0 _ ?side1 ?side2 A3.out).mono ?_); (case side1 => exact pi_ HI0); (case side2 => exact pbI HB); rintro e w9 ⟨rfl, hi, hb, hk⟩; refine ⟨_, rfl, ?_⟩; replace BKqg := kk BKqg hk NBqg_0.out; replace HK := kh HK hk; replace HB := aQ (hb); replace HI0 := aQ (hi); (try clear hb); (try clear hk); (try clear hi)) | (refine gq 91 (some 14) Try.func91 #[.pointer (some ⟨g, 0, none⟩), .int .i64 (wrap64 (a1 + 1))] ?_; (with_reducible refine (yk.calls g s0_0 tq9 tqa (wrap64 (a1 + 1)) tq1 tqb tqc w0 _ ?side1 ?side2 A5.out).mono ?_); (case side1 => exact pi_ HI0); (case side2 => exact pbI HB); rintro e w10 ⟨rfl, hi, hb, hk⟩; refine ⟨_, rfl, ?_⟩; replace BKqg := kk BKqg hk NBqg_0.out; replace HK := kh HK hk; replace HB := aQ (hb); replace HI0 := aQ (hi); (try clear hb); (try clear hk); (try clear hi)) | (refine gq 91 (some 18) Try.func91 #[.pointer (some ⟨g, 0, none⟩), .int .i64 (wrap64 (tq1 + 1))] ?_; (with_reducible refine (yk.calls g s0_0 tqb tqc (wrap64 (tq1 + 1)) tq2 tqd tqe w0 _ ?side1 ?side2 A6.out).mono ?_); (case side1 => exact pi_ HI0); (case side2 => exact pbI HB); rintro e w11 ⟨rfl, hi, hb, hk⟩; refine ⟨_, rfl, ?_⟩; replace BKqg := kk BKqg hk NBqg_0.out; replace HK := kh HK hk; replace HB := aQ (hb); replace HI0 := aQ (hi); (try clear hb); (try clear hk); (try clear hi)) | (refine gq 165 (some 20) Try.func165 #[.int .i64 tq2, .int .i64 tq1] ?_; (with_reducible refine (yY.calls k tq2 tq1 tq3 tqf _ A7.out).mono ?_); rintro e w12 ⟨vqh, rfl, ho0, hb⟩; refine ⟨_, rfl, ?_⟩; have HOqi := aQ (Kd.R_lower ho0 (yR (w := w) (g := g) (row := none) (pq HK))); replace BKqg := bb BKqg hb; replace HK := kt HK hb; replace HB := bsI HB hb; replace HI0 := bI HI0 hb; (try clear hb); (try clear ho0); have hnb13 := NBqg_0.out; have hnc13 := NB0_qg.out; obtain ⟨hcz14_0, hcz14_1, hfz14_0, hfz14_1⟩ := c2 BKqg; obtain ⟨Ao15, co15, eo15⟩ := Kd.R_slice HOqi.out; subst eo15))
  refine bodyPost_ret (results_cell_row rfl _ _ gbqg 28 #[.int .i64 tq3, .slice Ao15 tqf.length co15] (0, 0) _ rfl (by refine pkx ?_; refine yh (cs := #[.int .i64 tq3, .slice none 0 0]) ?_ 1 _ rfl; refine pkx ?_; refine yh (cs := #[.int .i64 0, .slice none 0 0]) ?_ 0 _ rfl; refine pkx ?_; exact BKqg.out) Try.underlying28 rfl (by kernel_rfl)) rfl ?_
  exact ⟨_, by first | rfl | (simp [errW_none, yi] <;> rfl) | (simp [*, errW_none, yi] <;> rfl), by refine pRx ?_; exact rf HOqi BKqg, pi_ HI0, pbI HB, pq HK⟩
 ·rw [if_neg c4] at H
  have c4b0 : (tq0 == 0) = false := beq_eq_false_iff_ne.mpr c4
  have c4b1 : (tq0 != 0) = true := bne_iff_ne.mpr c4
  by_cases c16 : tq0 = 1
  ·rw [if_pos c16] at H
   have c16b0 : (tq0 == 1) = true := beq_iff_eq.mpr c16
   have c16b1 : (tq0 != 1) = false := bne_eq_false_iff_eq.mpr c16
   clear c16
   replace H := bo H; obtain ⟨⟨tq4, tqj, tqk, tql⟩, A17, H⟩ := H
   (try dsimp only at H)
   by_cases c18 : tq4 ≤ a1
   ·rw [if_pos c18] at H
    have c18b0 := decide_eq_true c18
    clear c18
    simp only [Option.some.injEq, Prod.mk.injEq] at H
    obtain ⟨rfl, rfl, rfl, rfl⟩ := H
    go_enter Try.func129, Try.ntmps129
    go_wp2_with (first | ((with_reducible refine yb (N := 4) rfl ?_); refine bx 4 #[.int .i64 0, .slice none 0 0] 28 ?_; intro gbqg hg w19 hbox hb; replace HB := bsI HB hb; have BKqg := aQ (hbox); have GWqg := gw HK hg; have GEqg := ge HK HW0 hg; replace HK := kt HK hb; have NB0_qg := nI HI0 hg; have NBqg_0 := mI HI0 hg; replace HI0 := bI HI0 hb; clear hb hbox hg) | (refine gq 91 (some 8) Try.func91 #[.pointer (some ⟨g, 0, none⟩), .int .i64 6] ?_; (with_reducible refine (yk.calls g s0_0 s0_1 s0_2 6 tq0 tq9 tqa w0 _ ?side1 ?side2 A3.out).mono ?_); (case side1 => exact pi_ HI0); (case side2 => exact pbI HB); rintro e w20 ⟨rfl, hi, hb, hk⟩; refine ⟨_, rfl, ?_⟩; replace BKqg := kk BKqg hk NBqg_0.out; replace HK := kh HK hk; replace HB := aQ (hb); replace HI0 := aQ (hi); (try clear hb); (try clear hk); (try clear hi)) | (refine gq 166 (some 24) Try.func166 #[.pointer (some ⟨g, 0, none⟩)] ?_; (with_reducible refine (yby.calls k g s0_0 tq9 tqa tq4 tqj tqk tql w0 _ ?side1 ?side2 A17.out).mono ?_); (case side1 => exact pi_ HI0); (case side2 => exact pbI HB); rintro e w21 ⟨vqm, rfl, ho0, hi, hb, hk⟩; refine ⟨_, rfl, ?_⟩; replace BKqg := kk BKqg hk NBqg_0.out; have HOqn := aQ (Kd.R_lower ho0 (yR (w := w) (g := g) (row := none) (pq HK))); replace HK := kh HK hk; replace HB := aQ (hb); replace HI0 := aQ (hi); (try clear hb); (try clear hk); (try clear hi); (try clear ho0)) | ((with_reducible refine yb (N := 6) rfl ?_); refine bx 6 #[.int .i64 0, .slice none 0 0] 28 ?_; intro gbqo hg w22 hbox hb; replace HOqn := aQ (Kd.R_below (pR HOqn.out) hb); replace HB := bsI HB hb; have BKqo := aQ (hbox); have GWqo := gw HK hg; have GEqo := ge HK HW0 hg; replace HK := kt HK hb; have NBqg_qo := nl BKqg hg; have NBqo_qg := ng BKqg hg; replace BKqg := bb BKqg hb; have NB0_qo := nI HI0 hg; have NBqo_0 := mI HI0 hg; replace HI0 := bI HI0 hb; clear hb hbox hg; have hnb23 := NBqo_qg.out; have hnc23 := NBqg_qo.out; have hnb24 := NBqo_0.out; have hnc24 := NB0_qo.out; obtain ⟨hcz25_0, hcz25_1, hfz25_0, hfz25_1⟩ := c2 BKqo; obtain ⟨Ao26, co26, eo26⟩ := Kd.R_slice HOqn.out; subst eo26; have hnb27 := NBqg_0.out; have hnc27 := NB0_qg.out; obtain ⟨hcz28_0, hcz28_1, hfz28_0, hfz28_1⟩ := c2 BKqg))
    refine bodyPost_ret (results_cell_row rfl _ _ gbqg 28 #[.int .i64 tq4, .slice Ao26 tqj.length co26] (0, 0) _ rfl (by refine pkx ?_; refine yh (cs := #[.int .i64 tq4, .slice none 0 0]) ?_ 1 _ rfl; refine pkx ?_; refine yh (cs := #[.int .i64 0, .slice none 0 0]) ?_ 0 _ rfl; refine pkx ?_; refine yj ?_ NBqg_qo.out _; refine pkx ?_; refine yj ?_ NBqg_qo.out _; refine pkx ?_; exact BKqg.out) Try.underlying28 rfl (by kernel_rfl)) rfl ?_
    exact ⟨_, by first | rfl | (simp [errW_none, yi] <;> rfl) | (simp [*, errW_none, yi] <;> rfl), by refine pRx ?_; exact Kd.R_mono (Kd.R_far (p := ⟨gbqg, 1, none⟩) (Kd.R_far (p := ⟨gbqg, 0, none⟩) (Kd.R_far (p := ⟨gbqo, 1, none⟩) (Kd.R_far (p := ⟨gbqo, 0, none⟩) (Kd.R_types (Kd.R_types HOqn.out BKqo.out (by decide)) BKqg.out (by decide)) (fun _ hk => hk.1.2) (.int .i64 tq4)) (fun _ hk => hk.1.2) (.slice Ao26 tqj.length co26)) (fun _ hk => hk.2) (.int .i64 tq4)) (fun _ hk => hk.2) (.slice Ao26 tqj.length co26)) (fun _ hk => trivial), pi_ HI0, pbI HB, pq HK⟩
   ·rw [if_neg c18] at H
    have c18b0 := decide_eq_false c18
    clear c18
    replace H := bo H; obtain ⟨⟨tq5, tqp, tqq⟩, A29, H⟩ := H
    (try dsimp only at H)
    replace H := bo H; obtain ⟨⟨tq6, tqr, tqs, tqt⟩, A30, H⟩ := H
    (try dsimp only at H)
    simp only [Option.some.injEq, Prod.mk.injEq] at H
    obtain ⟨rfl, rfl, rfl, rfl⟩ := H
    go_enter Try.func129, Try.ntmps129
    go_wp2_with (first | ((with_reducible refine yb (N := 4) rfl ?_); refine bx 4 #[.int .i64 0, .slice none 0 0] 28 ?_; intro gbqg hg w31 hbox hb; replace HB := bsI HB hb; have BKqg := aQ (hbox); have GWqg := gw HK hg; have GEqg := ge HK HW0 hg; replace HK := kt HK hb; have NB0_qg := nI HI0 hg; have NBqg_0 := mI HI0 hg; replace HI0 := bI HI0 hb; clear hb hbox hg) | (refine gq 91 (some 8) Try.func91 #[.pointer (some ⟨g, 0, none⟩), .int .i64 6] ?_; (with_reducible refine (yk.calls g s0_0 s0_1 s0_2 6 tq0 tq9 tqa w0 _ ?side1 ?side2 A3.out).mono ?_); (case side1 => exact pi_ HI0); (case side2 => exact pbI HB); rintro e w32 ⟨rfl, hi, hb, hk⟩; refine ⟨_, rfl, ?_⟩; replace BKqg := kk BKqg hk NBqg_0.out; replace HK := kh HK hk; replace HB := aQ (hb); replace HI0 := aQ (hi); (try clear hb); (try clear hk); (try clear hi)) | (refine gq 166 (some 24) Try.func166 #[.pointer (some ⟨g, 0, none⟩)] ?_; (with_reducible refine (yby.calls k g s0_0 tq9 tqa tq4 tqj tqk tql w0 _ ?side1 ?side2 A17.out).mono ?_); (case side1 => exact pi_ HI0); (case side2 => exact pbI HB); rintro e w33 ⟨vqm, rfl, ho0, hi, hb, hk⟩; refine ⟨_, rfl, ?_⟩; replace BKqg := kk BKqg hk NBqg_0.out; have HOqn := aQ (Kd.R_lower ho0 (yR (w := w) (g := g) (row := none) (pq HK))); replace HK := kh HK hk; replace HB := aQ (hb); replace HI0 := aQ (hi); (try clear hb); (try clear hk); (try clear hi); (try clear ho0)) | ((with_reducible refine yb (N := 6) rfl ?_); refine bx 6 #[.int .i64 0, .slice none 0 0] 28 ?_; intro gbqo hg w34 hbox hb; replace HOqn := aQ (Kd.R_below (pR HOqn.out) hb); replace HB := bsI HB hb; have BKqo := aQ (hbox); have GWqo := gw HK hg; have GEqo := ge HK HW0 hg; replace HK := kt HK hb; have NBqg_qo := nl BKqg hg; have NBqo_qg := ng BKqg hg; replace BKqg := bb BKqg hb; have NB0_qo := nI HI0 hg; have NBqo_0 := mI HI0 hg; replace HI0 := bI HI0 hb; clear hb hbox hg; have hnb35 := NBqo_qg.out; have hnc35 := NBqg_qo.out; have hnb36 := NBqo_0.out; have hnc36 := NB0_qo.out; obtain ⟨hcz37_0, hcz37_1, hfz37_0, hfz37_1⟩ := c2 BKqo; obtain ⟨Ao38, co38, eo38⟩ := Kd.R_slice HOqn.out; subst eo38) | (refine gq 91 (some 34) Try.func91 #[.pointer (some ⟨g, 0, none⟩), .int .i64 (wrap64 (a1 + 1))] ?_; (with_reducible refine (yk.calls g s0_0 tqk tql (wrap64 (a1 + 1)) tq5 tqp tqq w0 _ ?side1 ?side2 A29.out).mono ?_); (case side1 => exact pi_ HI0); (case side2 => exact pbI HB); rintro e w39 ⟨rfl, hi, hb, hk⟩; refine ⟨_, rfl, ?_⟩; replace BKqg := aQ (KeepBut.blk hk (g' := gbqg) (o := .cells #[.int .i64 0, .slice none 0 0] 28 (0, 0)) (by refine pkx ?_; refine yj ?_ NBqg_qo.out _; refine pkx ?_; refine yj ?_ NBqg_qo.out _; refine pkx ?_; exact BKqg.out) NBqg_0.out (by simp)); replace HOqn := aQ (Kd.R_mono (Kd.R_keep (IsS106.apart (show IsS106 w0 _ g s0_0 tqk tql from pi_ HI0) (by refine pRx ?_; exact (Kd.R_mono (Kd.R_far (p := ⟨gbqo, 1, none⟩) (Kd.R_far (p := ⟨gbqo, 0, none⟩) (Kd.R_types HOqn.out BKqo.out (by decide)) (fun _ hk => hk.2) (.int .i64 tq4)) (fun _ hk => hk.2) (.slice Ao38 tqj.length co38)) (fun _ h_ => h_.1))) (by decide)) hk (fun _ h => h.2)) (fun _ h => h.1)); replace BKqo := aQ (KeepBut.blk hk (g' := gbqo) (o := .cells #[.int .i64 tq4, .slice Ao38 tqj.length co38] 28 (0, 0)) (by refine pkx ?_; refine yh (cs := #[.int .i64 tq4, .slice none 0 0]) ?_ 1 _ rfl; refine pkx ?_; refine yh (cs := #[.int .i64 0, .slice none 0 0]) ?_ 0 _ rfl; refine pkx ?_; exact BKqo.out) NBqo_0.out (by simp)); replace HK := kh HK hk; replace HB := aQ (hb); replace HI0 := aQ (hi); (try clear hb); (try clear hk); (try clear hi)) | (refine gq 134 (some 35) Try.func134 #[.pointer (some ⟨g, 0, none⟩), .int .i64 tq5] ?_; (with_reducible refine (yX.calls k g s0_0 tqp tqq tq5 tq6 tqr tqs tqt w0 _ ?side1 ?side2 A30.out).mono ?_); (case side1 => exact pi_ HI0); (case side2 => exact pbI HB); rintro e w40 ⟨vqu, rfl, ho0, hi, hb, hk⟩; refine ⟨_, rfl, ?_⟩; replace BKqg := kk BKqg hk NBqg_0.out; replace BKqo := kk BKqo hk NBqo_0.out; have HOqv := aQ (Kd.R_lower (Kd.R_new' ho0 (Kd.R_lt (pR HOqn.out))) (yR (w := w) (g := g) (row := none) (pq HK))); replace HOqn := aQ (Kd.R_mono (Kd.R_told (Kd.R_oldK (IsS106.apart (show IsS106 w0 _ g s0_0 tqp tqq from pi_ HI0) (pR HOqn.out) (by decide)) hk) (Kd.R_base ho0)) (fun _ h_ => h_.1)); replace HK := kh HK hk; replace HB := aQ (hb); replace HI0 := aQ (hi); (try clear hb); (try clear hk); (try clear hi); (try clear ho0); have hnb41 := NBqg_0.out; have hnc41 := NB0_qg.out; obtain ⟨hcz42_0, hcz42_1, hfz42_0, hfz42_1⟩ := c2 BKqg; obtain ⟨Ao43, co43, eo43⟩ := Kd.R_slice HOqv.out; subst eo43))
    refine bodyPost_ret (results_cell_row rfl _ _ gbqg 28 #[.int .i64 tq6, .slice Ao43 tqr.length co43] (0, 0) _ rfl (by refine pkx ?_; refine yh (cs := #[.int .i64 tq6, .slice none 0 0]) ?_ 1 _ rfl; refine pkx ?_; refine yh (cs := #[.int .i64 0, .slice none 0 0]) ?_ 0 _ rfl; refine pkx ?_; exact BKqg.out) Try.underlying28 rfl (by kernel_rfl)) rfl ?_
    exact ⟨_, by first | rfl | (simp [errW_none, yi] <;> rfl) | (simp [*, errW_none, yi] <;> rfl), by refine pRx ?_; exact rf HOqv BKqg, pi_ HI0, pbI HB, pq HK⟩
  ·rw [if_neg c16] at H
   have c16b0 : (tq0 == 1) = false := beq_eq_false_iff_ne.mpr c16
   have c16b1 : (tq0 != 1) = true := bne_iff_ne.mpr c16
   replace H := bo H; obtain ⟨⟨tq7, tqw, tqx⟩, A44, H⟩ := H
   (try dsimp only at H)
   replace H := bo H; obtain ⟨⟨tq8, tqy, tqz, tq10⟩, A45, H⟩ := H
   (try dsimp only at H)
   simp only [Option.some.injEq, Prod.mk.injEq] at H
   obtain ⟨rfl, rfl, rfl, rfl⟩ := H
   go_enter Try.func129, Try.ntmps129
   go_wp2_with (first | ((with_reducible refine yb (N := 4) rfl ?_); refine bx 4 #[.int .i64 0, .slice none 0 0] 28 ?_; intro gbqg hg w46 hbox hb; replace HB := bsI HB hb; have BKqg := aQ (hbox); have GWqg := gw HK hg; have GEqg := ge HK HW0 hg; replace HK := kt HK hb; have NB0_qg := nI HI0 hg; have NBqg_0 := mI HI0 hg; replace HI0 := bI HI0 hb; clear hb hbox hg) | (refine gq 91 (some 8) Try.func91 #[.pointer (some ⟨g, 0, none⟩), .int .i64 6] ?_; (with_reducible refine (yk.calls g s0_0 s0_1 s0_2 6 tq0 tq9 tqa w0 _ ?side1 ?side2 A3.out).mono ?_); (case side1 => exact pi_ HI0); (case side2 => exact pbI HB); rintro e w47 ⟨rfl, hi, hb, hk⟩; refine ⟨_, rfl, ?_⟩; replace BKqg := kk BKqg hk NBqg_0.out; replace HK := kh HK hk; replace HB := aQ (hb); replace HI0 := aQ (hi); (try clear hb); (try clear hk); (try clear hi)) | (refine gq 91 (some 34) Try.func91 #[.pointer (some ⟨g, 0, none⟩), .int .i64 (wrap64 (a1 + 1))] ?_; (with_reducible refine (yk.calls g s0_0 tq9 tqa (wrap64 (a1 + 1)) tq7 tqw tqx w0 _ ?side1 ?side2 A44.out).mono ?_); (case side1 => exact pi_ HI0); (case side2 => exact pbI HB); rintro e w48 ⟨rfl, hi, hb, hk⟩; refine ⟨_, rfl, ?_⟩; replace BKqg := kk BKqg hk NBqg_0.out; replace HK := kh HK hk; replace HB := aQ (hb); replace HI0 := aQ (hi); (try clear hb); (try clear hk); (try clear hi)) | (refine gq 134 (some 35) Try.func134 #[.pointer (some ⟨g, 0, none⟩), .int .i64 tq7] ?_; (with_reducible refine (yX.calls k g s0_0 tqw tqx tq7 tq8 tqy tqz tq10 w0 _ ?side1 ?side2 A45.out).mono ?_); (case side1 => exact pi_ HI0); (case side2 => exact pbI HB); rintro e w49 ⟨vq11, rfl, ho0, hi, hb, hk⟩; refine ⟨_, rfl, ?_⟩; replace BKqg := kk BKqg hk NBqg_0.out; have HOq12 := aQ (Kd.R_lower ho0 (yR (w := w) (g := g) (row := none) (pq HK))); replace HK := kh HK hk; replace HB := aQ (hb); replace HI0 := aQ (hi); (try clear hb); (try clear hk); (try clear hi); (try clear ho0); have hnb50 := NBqg_0.out; have hnc50 := NB0_qg.out; obtain ⟨hcz51_0, hcz51_1, hfz51_0, hfz51_1⟩ := c2 BKqg; obtain ⟨Ao52, co52, eo52⟩ := Kd.R_slice HOq12.out; subst eo52))
   refine bodyPost_ret (results_cell_row rfl _ _ gbqg 28 #[.int .i64 tq8, .slice Ao52 tqy.length co52] (0, 0) _ rfl (by refine pkx ?_; refine yh (cs := #[.int .i64 tq8, .slice none 0 0]) ?_ 1 _ rfl; refine pkx ?_; refine yh (cs := #[.int .i64 0, .slice none 0 0]) ?_ 0 _ rfl; refine pkx ?_; exact BKqg.out) Try.underlying28 rfl (by kernel_rfl)) rfl ?_
   exact ⟨_, by first | rfl | (simp [errW_none, yi] <;> rfl) | (simp [*, errW_none, yi] <;> rfl), by refine pRx ?_; exact rf HOq12 BKqg, pi_ HI0, pbI HB, pq HK⟩
def ybG.f (s0_0 : List Int) (s0_1 : Int) (s0_2 : Int) : Option (Int × Int × Int) := (yk.f s0_0 s0_1 s0_2 256).bind fun btq0 => (some (btq0.1, btq0.2.1, btq0.2.2))
theorem ybG.calls (g : Nat) (s0_0 : List Int) (s0_1 : Int) (s0_2 : Int) (r1 : Int) (r2 : Int) (r3 : Int) (w0 w : World) (hI : IsS106 w0 w g s0_0 s0_1 s0_2) (hB : Below w0.heap.size w0 w) (h : ybG.f s0_0 s0_1 s0_2 = some (r1, r2, r3)) :
  Calls Try.prog 141 #[.pointer (some ⟨g, 0, none⟩)] w fun e w' => e = .returned (.int .i64 r1) ∧ IsS106 w0 w' g s0_0 r2 r3 ∧ Below w0.heap.size w0 w' ∧ KeepBut w w' g none := by
 have HI0 := aQ hI
 have HK := aQ (KeepBut.refl w g none)
 have HL := aQ hB.size
 clear hI
 have HW0 := aQ hB.size
 have HB := aQ hB
 clear hB
 have H := h
 clear h
 unfold ybG.f at H
 (try dsimp only at H)
 replace H := bo H; obtain ⟨⟨tq0, tq1, tq2⟩, A2, H⟩ := H
 (try dsimp only at H)
 simp only [Option.some.injEq, Prod.mk.injEq] at H
 obtain ⟨rfl, rfl, rfl⟩ := H
 go_enter Try.func141, Try.ntmps141
 go_wp2_with (first | (refine gq 91 (some 4) Try.func91 #[.pointer (some ⟨g, 0, none⟩), .int .i64 256] ?_; (with_reducible refine (yk.calls g s0_0 s0_1 s0_2 256 tq0 tq1 tq2 w0 _ ?side1 ?side2 A2.out).mono ?_); (case side1 => exact pi_ HI0); (case side2 => exact pbI HB); rintro e w3 ⟨rfl, hi, hb, hk⟩; refine ⟨_, rfl, ?_⟩; replace HK := kh HK hk; replace HB := aQ (hb); replace HI0 := aQ (hi); (try clear hb); (try clear hk); (try clear hi)))
 go_ret
 exact ⟨re_, pi_ HI0, pbI HB, pq HK⟩
def ybF.f (s0_0 : List Int) (s0_1 : Int) (s0_2 : Int) : Option (Int × Int × Int) := (ya3.f s0_0 s0_1 s0_2 8).bind fun btq0 => (if btq0.1 = true then ((yaB.f s0_0 btq0.2.1 btq0.2.2 (([(-1), 256, 1000, (-9223372036854775808)] : List Int))).bind fun btq1 => (some (btq1.1, btq1.2.1, btq1.2.2))) else ((ybG.f s0_0 btq0.2.1 btq0.2.2).bind fun btq2 => (some (btq2.1, btq2.2.1, btq2.2.2))))
theorem ybF.calls (g : Nat) (s0_0 : List Int) (s0_1 : Int) (s0_2 : Int) (r1 : Int) (r2 : Int) (r3 : Int) (w0 w : World) (hI : IsS106 w0 w g s0_0 s0_1 s0_2) (hB : Below w0.heap.size w0 w) (h : ybF.f s0_0 s0_1 s0_2 = some (r1, r2, r3)) :
  Calls Try.prog 96 #[.pointer (some ⟨g, 0, none⟩)] w fun e w' => e = .returned (.int .i64 r1) ∧ IsS106 w0 w' g s0_0 r2 r3 ∧ Below w0.heap.size w0 w' ∧ KeepBut w w' g none := by
 have HI0 := aQ hI
 have HK := aQ (KeepBut.refl w g none)
 have HL := aQ hB.size
 clear hI
 have HW0 := aQ hB.size
 have HB := aQ hB
 clear hB
 have H := h
 clear h
 unfold ybF.f at H
 (try dsimp only at H)
 replace H := bo H; obtain ⟨⟨tq0, tq3, tq4⟩, A2, H⟩ := H
 (try dsimp only at H)
 by_cases c3 : tq0 = true
 ·subst c3
  rw [if_pos rfl] at H
  obtain ⟨yq5, hyq5⟩ : ∃ y_ : List Int, y_ = (([(-1), 256, 1000, (-9223372036854775808)] : List Int)) := ⟨_, rfl⟩
  replace H : ((yaB.f s0_0 tq3 tq4 yq5).bind fun btq1 => (some (btq1.1, btq1.2.1, btq1.2.2))) = some (r1, r2, r3) := by first | (rw [hyq5]; with_reducible exact H) | (rw [hyq5]; exact H)
  have Nyq5 := aQ hyq5
  clear hyq5
  replace H := bo H; obtain ⟨⟨tq1, tq6, tq7⟩, A4, H⟩ := H
  (try dsimp only at H)
  simp only [Option.some.injEq, Prod.mk.injEq] at H
  obtain ⟨rfl, rfl, rfl⟩ := H
  go_enter Try.func96, Try.ntmps96
  go_wp2_with (first | (refine gq 89 (some 4) Try.func89 #[.pointer (some ⟨g, 0, none⟩), .int .i64 8] ?_; (with_reducible refine (ya3.calls g s0_0 s0_1 s0_2 8 true tq3 tq4 w0 _ ?side1 ?side2 A2.out).mono ?_); (case side1 => exact pi_ HI0); (case side2 => exact pbI HB); rintro e w5 ⟨rfl, hi, hb, hk⟩; refine ⟨_, rfl, ?_⟩; replace HK := kh HK hk; replace HB := aQ (hb); replace HI0 := aQ (hi); (try clear hb); (try clear hk); (try clear hi)) | ((with_reducible refine yb (N := 6) rfl ?_); refine Kd.R_lit (Kd.int .i64) _ 3 ?hg (N := 6) ?hd (xs := ([(-1), 256, 1000, (-9223372036854775808)] : List Int)) (inner := [.int .i64 (-1), .int .i64 256, .int .i64 1000, .int .i64 (-9223372036854775808)]) (ok := fun _ => True) (okp := fun _ => True) ?hr ?hp (fun _ hk => hk) trivial (Below.refl _ _) (Nat.le_refl _) (by simp) ?_; (case hd => rfl); (case hg => rfl); (case hr => first | (go_simp; done) | (go_simp; rfl)); (case hp => exact (Reps.one (show Kd.M (Kd.int .i64) _ _ _ (-1) [.int .i64 (-1)] from rfl) (Reps.one (show Kd.M (Kd.int .i64) _ _ _ 256 [.int .i64 256] from rfl) (Reps.one (show Kd.M (Kd.int .i64) _ _ _ 1000 [.int .i64 1000] from rfl) (Reps.one (show Kd.M (Kd.int .i64) _ _ _ (-9223372036854775808) [.int .i64 (-9223372036854775808)] from rfl) (Reps.none _ _)))))); intro vq8 w6 ho7 hb hg_ hnew_; clear hg_ hnew_; (first | rw [← Nyq5.out] at ho7 | (simp only [Int.reduceToNat] at ho7; rw [← Nyq5.out] at ho7)); have HOq9 := aQ (Kd.R_lower ho7 (yR (w := w) (g := g) (row := none) (pq HK))); replace HK := kt HK hb; replace HB := bsI HB hb; replace HI0 := bI HI0 hb; clear hb ho7; obtain ⟨Ao8, co8, eo8⟩ := Kd.R_slice HOq9.out; subst eo8) | (refine gq 140 (some 7) Try.func140 #[.pointer (some ⟨g, 0, none⟩), .slice Ao8 yq5.length co8] ?_; (with_reducible refine (yaB.calls g s0_0 tq3 tq4 _ _ yq5 tq1 tq6 tq7 w0 _ ?side1 ?side2 ?side3 ?side4 ?side5 A4.out).mono ?_); (case side1 => exact pi_ HI0); (case side2 => exact pbI HB); (case side3 => exact pC ((Kd.R_reads' HOq9.out).2.2)); (case side4 => exact (Kd.R_reads' HOq9.out).2.1); (case side5 => exact ycT (IsS106.own_ne HI0.out HOq9.out (by decide))); rintro e w9 ⟨rfl, hi, hb, hk⟩; refine ⟨_, rfl, ?_⟩; replace HOq9 := aQ (Kd.R_mono (Kd.R_keep (IsS106.apart (show IsS106 w0 _ g s0_0 tq3 tq4 from pi_ HI0) (pR HOq9.out) (by decide)) hk (fun _ h => h.2)) (fun _ h => h.1)); replace HK := kh HK hk; replace HB := aQ (hb); replace HI0 := aQ (hi); (try clear hb); (try clear hk); (try clear hi)))
  go_ret
  exact ⟨re_, pi_ HI0, pbI HB, pq HK⟩
 ·replace c3 := Bool.eq_false_iff.mpr c3
  subst c3
  have H1 : ((ybG.f s0_0 tq3 tq4).bind fun btq2 => (some (btq2.1, btq2.2.1, btq2.2.2))) = some (r1, r2, r3) := by rw [if_neg (show ¬ (false = true) by decide)] at H; exact H
  clear H
  have H := H1
  clear H1
  replace H := bo H; obtain ⟨⟨tq2, tqa, tqb⟩, A10, H⟩ := H
  (try dsimp only at H)
  simp only [Option.some.injEq, Prod.mk.injEq] at H
  obtain ⟨rfl, rfl, rfl⟩ := H
  go_enter Try.func96, Try.ntmps96
  go_wp2_with (first | (refine gq 89 (some 4) Try.func89 #[.pointer (some ⟨g, 0, none⟩), .int .i64 8] ?_; (with_reducible refine (ya3.calls g s0_0 s0_1 s0_2 8 false tq3 tq4 w0 _ ?side1 ?side2 A2.out).mono ?_); (case side1 => exact pi_ HI0); (case side2 => exact pbI HB); rintro e w11 ⟨rfl, hi, hb, hk⟩; refine ⟨_, rfl, ?_⟩; replace HK := kh HK hk; replace HB := aQ (hb); replace HI0 := aQ (hi); (try clear hb); (try clear hk); (try clear hi)) | (refine gq 141 (some 9) Try.func141 #[.pointer (some ⟨g, 0, none⟩)] ?_; (with_reducible refine (ybG.calls g s0_0 tq3 tq4 tq2 tqa tqb w0 _ ?side1 ?side2 A10.out).mono ?_); (case side1 => exact pi_ HI0); (case side2 => exact pbI HB); rintro e w12 ⟨rfl, hi, hb, hk⟩; refine ⟨_, rfl, ?_⟩; replace HK := kh HK hk; replace HB := aQ (hb); replace HI0 := aQ (hi); (try clear hb); (try clear hk); (try clear hi)))
  go_ret
  exact ⟨re_, pi_ HI0, pbI HB, pq HK⟩
def ybD.f (a0 : Int) (a1 : Int) : Option (Int) := if a0 > a1 then (some a0) else (some a1)
theorem ybD.calls (a0 : Int) (a1 : Int) (r : Int) (w : World) (h : ybD.f a0 a1 = some r) :
  Calls Try.prog 138 #[.int .i64 a0, .int .i64 a1] w fun e w' => e = .returned (.int .i64 r) ∧ Drawn0 w w' := by
 have H : (if a0 > a1 then (some a0) else (some a1)) = some r := h
 clear h
 by_cases c3 : a0 > a1
 ·rw [if_pos c3] at H
  have c3b0 := decide_eq_true c3
  clear c3
  obtain rfl := Option.some.inj H
  go_enter Try.func138, Try.ntmps138
  go_wp2
  go_ret
  exact ⟨rs_, rd_⟩
 ·rw [if_neg c3] at H
  have c3b0 := decide_eq_false c3
  clear c3
  obtain rfl := Option.some.inj H
  go_enter Try.func138, Try.ntmps138
  go_wp2
  go_ret
  exact ⟨rs_, rd_⟩
def yau.l0 : Nat → Int → List Int → Int → Int → List Int → Int → Int → Option (List Int × Int × Int)
 | 0, _, _, _, _, _, _, _ => none
 | k + 1, x1, x5, x6, x7, xq0, xq1, xq2 => if x7 < x6 then (if 0 ≤ (IntKind.u64.wrap (x1)) then ((yk.f xq0 xq1 xq2 (shl .i64 1 (IntKind.u64.wrap (x1)))).bind fun btq3 => (if x5.length < 17592186044416 then (yau.l0 k x1 (x5 ++ [btq3.1]) x6 (wrap64 (x7 + 1)) xq0 btq3.2.1 btq3.2.2) else (none))) else (none)) else (some (x5, xq1, xq2))
def yau.f (k : Nat) (s0_0 : List Int) (s0_1 : Int) (s0_2 : Int) (a1 : Int) : Option (List Int × Int × Int) := (yk.f s0_0 s0_1 s0_2 6).bind fun btq4 => (yau.l0 k a1 (([] : List Int)) btq4.1 0 s0_0 btq4.2.1 btq4.2.2)
theorem yau.calls (k : Nat) (g : Nat) (s0_0 : List Int) (s0_1 : Int) (s0_2 : Int) (a1 : Int) (r1 : List Int) (r2 : Int) (r3 : Int) (w0 w : World) (hI : IsS106 w0 w g s0_0 s0_1 s0_2) (hB : Below w0.heap.size w0 w) (h : yau.f k s0_0 s0_1 s0_2 a1 = some (r1, r2, r3)) :
  Calls Try.prog 167 #[.pointer (some ⟨g, 0, none⟩), .int .i64 a1] w fun e w' => ∃ v0_ : Value, e = .returned (v0_) ∧ Kd.R (Kd.int .i64) 3 w' w.heap.size (fun _ => True) v0_ r1 ∧ IsS106 w0 w' g s0_0 r2 r3 ∧ Below w0.heap.size w0 w' ∧ KeepBut w w' g none := by
 have HI0 := aQ hI
 have HK := aQ (KeepBut.refl w g none)
 have HL := aQ hB.size
 clear hI
 have HW0 := aQ hB.size
 have HB := aQ hB
 clear hB
 have H := h
 clear h
 unfold yau.f at H
 (try dsimp only at H)
 obtain ⟨yq5, hyq5⟩ : ∃ y_ : List Int, y_ = (([] : List Int)) := ⟨_, rfl⟩
 replace H : ((yk.f s0_0 s0_1 s0_2 6).bind fun btq4 => (yau.l0 k a1 yq5 btq4.1 0 s0_0 btq4.2.1 btq4.2.2)) = some (r1, r2, r3) := by first | (rw [hyq5]; with_reducible exact H) | (rw [hyq5]; exact H)
 have Nyq5 := aQ hyq5
 clear hyq5
 replace H := bo H; obtain ⟨⟨tq4, tq6, tq7⟩, A3, H⟩ := H
 (try dsimp only at H)
 have H' := aQ H
 clear H
 go_enter Try.func167, Try.ntmps167
 go_wp2_with (first | ((with_reducible refine yb (N := 8) rfl ?_); refine Kd.R_lit (Kd.int .i64) _ 3 ?hg (N := 8) ?hd (xs := ([] : List Int)) (inner := []) (ok := fun _ => True) (okp := fun _ => True) ?hr ?hp (fun _ hk => hk) trivial (Below.refl _ _) (Nat.le_refl _) (by simp) ?_; (case hd => rfl); (case hg => rfl); (case hr => first | (go_simp; done) | (go_simp; rfl)); (case hp => exact (Reps.none _ _)); intro vq8 w4 ho5 hb hg_ hnew_; clear hg_ hnew_; (first | rw [← Nyq5.out] at ho5 | (simp only [Int.reduceToNat] at ho5; rw [← Nyq5.out] at ho5)); have HOq9 := aQ (Kd.R_lower ho5 (yR (w := w) (g := g) (row := none) (pq HK))); replace HK := kt HK hb; replace HB := bsI HB hb; replace HI0 := bI HI0 hb; clear hb ho5) | (refine gq 91 (some 10) Try.func91 #[.pointer (some ⟨g, 0, none⟩), .int .i64 6] ?_; (with_reducible refine (yk.calls g s0_0 s0_1 s0_2 6 tq4 tq6 tq7 w0 _ ?side1 ?side2 A3.out).mono ?_); (case side1 => exact pi_ HI0); (case side2 => exact pbI HB); rintro e w6 ⟨rfl, hi, hb, hk⟩; refine ⟨_, rfl, ?_⟩; replace HOq9 := aQ (Kd.R_mono (Kd.R_keep (IsS106.apart (show IsS106 w0 _ g s0_0 s0_1 s0_2 from pi_ HI0) (pR HOq9.out) (by decide)) hk (fun _ h => h.2)) (fun _ h => h.1)); replace HK := kh HK hk; replace HB := aQ (hb); replace HI0 := aQ (hi); (try clear hb); (try clear hk); (try clear hi)))
 go_loopg [5, 7] k (fun kq v5 v7 w' => ∃ (x5_1 : List Int) (x7_1 : Int) (xq1_1 : Int) (xq2_1 : Int), v7 = .int .i64 x7_1 ∧ Aside0 (yau.l0 kq a1 x5_1 tq4 x7_1 s0_0 xq1_1 xq2_1 = some (r1, r2, r3)) ∧ Aside0 (kq ≤ k) ∧ Aside0 (Kd.R (Kd.int .i64) 3 w' w.heap.size (fun _ => True) v5 x5_1) ∧ Aside0 (IsS106 w0 w' g s0_0 xq1_1 xq2_1) ∧ Aside0 (KeepBut w w' g none) ∧ Aside0 (Below w0.heap.size w0 w'))
 case atStart => exact ⟨(yq5), (0), (tq6), (tq7), rs_, H', ⟨Nat.le_refl _⟩, ⟨pR HOq9.out⟩, ⟨pi_ HI0⟩, ⟨pq HK⟩, ⟨pbI HB⟩⟩
 clear H'
 try clear c1
 try clear p2
 obtain ⟨x5_1, x7_1, xq1_1, xq2_1, rfl, HA, HK1, HO_5, HI0, HK, HB⟩ := hrel
 rcases gk with _ | k1
 ·exact absurd HA.out (by simp [yau.l0])
 have H := HA.out
 clear HA
 simp only [yau.l0] at H
 by_cases c7 : x7_1 < tq4
 ·rw [if_pos c7] at H
  have c7b0 := decide_eq_true c7
  clear c7
  obtain ⟨ji8, hji8⟩ : ∃ j_ : Int, (IntKind.u64.wrap (a1)) = j_ := ⟨_, rfl⟩
  replace H : (if 0 ≤ (ji8) then ((yk.f s0_0 xq1_1 xq2_1 (shl .i64 1 (ji8))).bind fun btq3 => (if x5_1.length < 17592186044416 then (yau.l0 k1 a1 (x5_1 ++ [btq3.1]) tq4 (wrap64 (x7_1 + 1)) s0_0 btq3.2.1 btq3.2.2) else (none))) else (none)) = some (r1, r2, r3) := by first | (rw [hji8] at H; exact H) | (simp only [hji8] at H ⊢; exact H)
  replace H := gd H; obtain ⟨c9, H⟩ := H
  have c9b0 := eq_true c9
  have c9b1 := decide_eq_true c9
  clear c9
  obtain ⟨ji10, hji10⟩ : ∃ j_ : Int, (shl .i64 1 (ji8)) = j_ := ⟨_, rfl⟩
  replace H : ((yk.f s0_0 xq1_1 xq2_1 (ji10)).bind fun btq3 => (if x5_1.length < 17592186044416 then (yau.l0 k1 a1 (x5_1 ++ [btq3.1]) tq4 (wrap64 (x7_1 + 1)) s0_0 btq3.2.1 btq3.2.2) else (none))) = some (r1, r2, r3) := by first | (rw [hji10] at H; exact H) | (simp only [hji10] at H ⊢; exact H)
  have hji10_ : (IntKind.i64.wrap (1 * 2 ^ min (ji8).toNat 64)) = ji10 := hji10
  have hji10z : (ji8) ≤ 64 → (IntKind.i64.wrap (1 * 2 ^ (ji8).toNat)) = ji10 := ybA hji10
  have hji10u : (IntKind.i64.wrap (2 ^ min (ji8).toNat 64)) = ji10 := by have h_ := hji10_; rw [Int.one_mul] at h_; exact h_
  have hji10v : (ji8) ≤ 64 → (IntKind.i64.wrap (2 ^ (ji8).toNat)) = ji10 := fun hle_ => by have h_ := hji10z hle_; rw [Int.one_mul] at h_; exact h_
  have hji10y : (wrap64 (1 * 2 ^ min (ji8).toNat 64)) = ji10 := (i64_w _).symm.trans hji10_
  have hji10x : (ji8) ≤ 64 → (wrap64 (1 * 2 ^ (ji8).toNat)) = ji10 := fun h_ => (i64_w _).symm.trans (hji10z h_)
  replace H := bo H; obtain ⟨⟨tq3, tqa, tqb⟩, A11, H⟩ := H
  (try dsimp only at H)
  replace H := gd H; obtain ⟨c12, H⟩ := H
  have LMc12 := aQ c12
  clear c12
  obtain ⟨yqc, hyqc⟩ : ∃ y_ : List Int, y_ = (x5_1 ++ [tq3]) := ⟨_, rfl⟩
  replace H : (yau.l0 k1 a1 yqc tq4 (wrap64 (x7_1 + 1)) s0_0 tqa tqb) = some (r1, r2, r3) := by first | (rw [hyqc]; with_reducible exact H) | (rw [hyqc]; exact H)
  have Nyqc := aQ hyqc
  clear hyqc
  have H' := aQ H
  clear H
  go_wp2_with (first | ((with_reducible refine yaJ (f := 91) rfl ?_); refine yfm (some 21) rfl rfl Try.func91 (by kernel_rfl) rfl #[.pointer (some ⟨g, 0, none⟩), .int .i64 ji10] rfl (by (try simp only [List.map_toArray, List.map_cons, List.map_nil]); first | done | (simp only [hji10]; rfl) | rfl | (simp only [List.length_drop, List.length_take]; rfl)) ?_; (with_reducible refine (yk.calls g s0_0 xq1_1 xq2_1 ji10 tq3 tqa tqb w0 _ ?side1 ?side2 A11.out).mono ?_); (case side1 => exact pi_ HI0); (case side2 => exact pbI HB); rintro e w13 ⟨rfl, hi, hb, hk⟩; refine ⟨_, rfl, ?_⟩; replace HO_5 := aQ (Kd.R_mono (Kd.R_keep (IsS106.apart (show IsS106 w0 _ g s0_0 xq1_1 xq2_1 from pi_ HI0) (pR HO_5.out) (by decide)) hk (fun _ h => h.2)) (fun _ h => h.1)); replace HK := kh HK hk; replace HB := aQ (hb); replace HI0 := aQ (hi); (try clear hb); (try clear hk); (try clear hi)) | ((with_reducible refine yO (b := .append) (xs := #[.tmp 16, .tmp 22]) rfl ?_); at_builtin; refine Kd.R_append (Kd.int .i64) w.heap.size rfl (.tmp 16) (.tmp 22) 22 3 (.int .i64 0) 8 rfl Try.underlying22 yaU rfl (by decide) (by omega) u5 x5_1 tq3 [.int .i64 tq3] (fun _ => True) (fun _ => False) rfl rfl ?aP (fun _ hk => hk.elim) ?aF ?aO (Below.refl _ _) ?aS ?aL ?_; (case aP => exact rfl); (case aF => exact (fun _ _ => trivial)); (case aO => exact (pR HO_5.out)); (case aS => exact (yR (w := w) (g := g) (row := none) (pq HK))); (case aL => have := LMc12.out; omega); intro vqd w14 ho hb hg hat; rw [← Nyqc.out] at ho; replace HB := aQ (ybo (pbI HB) HL.out hb); replace HI0 := aQ (IsS106.grown (pi_ HI0) hg (IsS106.own_ne HI0.out HO_5.out (by decide))); replace HK := aQ (KeepBut.trans (pq HK) (KeepBut.of_grown hg g) (Kd.R_base2 HO_5.out)); have HOqe := aQ (ho); clear HO_5; clear ho hb hg hat))
  go_roundg k1
  case measure => have := HK1.out; omega
  case rel => exact ⟨(yqc), (wrap64 (x7_1 + 1)), (tqa), (tqb), rs_, H', ⟨by have := HK1.out; omega⟩, ⟨pR HOqe.out⟩, ⟨pi_ HI0⟩, ⟨pq HK⟩, ⟨pbI HB⟩⟩
 ·rw [if_neg c7] at H
  have c7b0 := decide_eq_false c7
  clear c7
  simp only [Option.some.injEq, Prod.mk.injEq] at H
  obtain ⟨rfl, rfl, rfl⟩ := H
  go_wp2
  go_ret
  exact ⟨_, by first | rfl | (simp [errW_none, yi] <;> rfl) | (simp [*, errW_none, yi] <;> rfl), by refine pRx ?_; exact HO_5.out, pi_ HI0, pbI HB, pq HK⟩
def ycl.f (a0 : Int) (a1 : Int) : Option (Int) := if a0 < a1 then (some a0) else (some a1)
theorem ycl.calls (a0 : Int) (a1 : Int) (r : Int) (w : World) (h : ycl.f a0 a1 = some r) :
  Calls Try.prog 168 #[.int .i64 a0, .int .i64 a1] w fun e w' => e = .returned (.int .i64 r) ∧ Drawn0 w w' := by
 have H : (if a0 < a1 then (some a0) else (some a1)) = some r := h
 clear h
 by_cases c3 : a0 < a1
 ·rw [if_pos c3] at H
  have c3b0 := decide_eq_true c3
  clear c3
  obtain rfl := Option.some.inj H
  go_enter Try.func168, Try.ntmps168
  go_wp2
  go_ret
  exact ⟨rs_, rd_⟩
 ·rw [if_neg c3] at H
  have c3b0 := decide_eq_false c3
  clear c3
  obtain rfl := Option.some.inj H
  go_enter Try.func168, Try.ntmps168
  go_wp2
  go_ret
  exact ⟨rs_, rd_⟩
def yan.f (k : Nat) (s0_0 : List Int) (s0_1 : Int) (s0_2 : Int) (a1 : Int) : Option (Int × List Int × Int × Int) := (yaK.f k s0_0 s0_1 s0_2 a1).bind fun btq0 => ((yk.f s0_0 btq0.2.2.1 btq0.2.2.2 10).bind fun btq1 => (if btq1.1 = 0 then ((yaB.f s0_0 btq1.2.1 btq1.2.2 (([(-1), 0, 2, 9] : List Int))).bind fun btq2 => (some (btq2.1, btq0.2.1, btq2.2.1, btq2.2.2))) else (if btq1.1 = 1 then ((ybF.f s0_0 btq1.2.1 btq1.2.2).bind fun btq3 => (if btq0.2.1.length < 17592186044416 then (some (btq0.1, (btq0.2.1 ++ [btq3.1]), btq3.2.1, btq3.2.2)) else (none))) else (if btq1.1 = 2 then (if (btq0.2.1.length : Int) > 1 then ((yk.f s0_0 btq1.2.1 btq1.2.2 (btq0.2.1.length : Int)).bind fun btq4 => ((some (([] : List Int) : List Int)).bind fun yq5 => (if 0 ≤ btq4.1 then (if btq4.1 ≤ (btq0.2.1.length : Int) then ((some (btq0.2.1.take (btq4.1 : Int).toNat : List Int)).bind fun yq6 => (if yq5.length + yq6.length < 17592186044416 then ((some (yq5 ++ yq6 : List Int)).bind fun yq7 => (if 0 ≤ (wrap64 (btq4.1 + 1)) then (if (wrap64 (btq4.1 + 1)) ≤ (btq0.2.1.length : Int) then ((some (btq0.2.1.drop ((wrap64 (btq4.1 + 1)) : Int).toNat : List Int)).bind fun yq8 => (if yq7.length + yq8.length < 17592186044416 then (some (btq0.1, (yq7 ++ yq8), btq4.2.1, btq4.2.2)) else (none))) else (none)) else (none))) else (none))) else (none)) else (none)))) else (some (btq0.1, btq0.2.1, btq1.2.1, btq1.2.2))) else (if btq1.1 = 3 then ((ycl.f btq0.1 8).bind fun tq9 => ((ybD.f 0 tq9).bind fun tqa => ((yau.f k s0_0 btq1.2.1 btq1.2.2 tqa).bind fun btqb => ((yf.f k btqb.1).bind fun tqc => (some (btq0.1, tqc, btqb.2.1, btqb.2.2)))))) else (some (btq0.1, btq0.2.1, btq1.2.1, btq1.2.2)))))))
def yan.T6 : Bool × List (List Nat × List Nat) := (true, [([], []), ([0], [0]), ([], []), ([2], [2]), ([3], [3]), ([1, 4, 3], [1, 4]), ([0, 1, 2, 3, 4, 5], []), ([6, 5, 5, 0, 1, 2, 3, 4, 5], [5, 6])])
def yan.B6 : List Nat := [0, 1, 0, 4, 12, 31, 63, 127]
theorem yan.tab6 : rtab .any (yco Try.f130 6) = yan.T6 := by kernel_rfl
theorem yan.bits6 : ybf yan.T6.2 yan.B6 = true := by kernel_rfl
def yan.T10 : Bool × List (List Nat × List Nat) := (true, [([], []), ([], []), ([1], [1]), ([], []), ([2, 3], [2, 3]), ([0, 4], [0, 4]), ([], []), ([6], [6]), ([], []), ([8], [8]), ([7, 9], [7, 9]), ([5, 10, 5], [5, 10]), ([0, 1, 2, 3, 4, 5, 6, 7, 8, 9, 10, 11], []), ([12, 11, 11, 0, 1, 2, 3, 4, 5, 6, 7, 8, 9, 10, 11], [11, 12])])
def yan.B10 : List Nat := [0, 0, 2, 0, 14, 31, 0, 64, 0, 256, 960, 2047, 4095, 8191]
theorem yan.tab10 : rtab .any (yco Try.f130 10) = yan.T10 := by kernel_rfl
theorem yan.bits10 : ybf yan.T10.2 yan.B10 = true := by kernel_rfl
theorem yan.calls (k : Nat) (g : Nat) (s0_0 : List Int) (s0_1 : Int) (s0_2 : Int) (a1 : Int) (r1 : Int) (r2 : List Int) (r3 : Int) (r4 : Int) (w0 w : World) (hI : IsS106 w0 w g s0_0 s0_1 s0_2) (hB : Below w0.heap.size w0 w) (h : yan.f k s0_0 s0_1 s0_2 a1 = some (r1, r2, r3, r4)) :
  Calls Try.prog 130 #[.pointer (some ⟨g, 0, none⟩), .int .i64 a1] w fun e w' => ∃ v1_ : Value, e = .returned (.agg #[.int .i64 r1, v1_]) ∧ Kd.R (Kd.int .i64) 3 w' w.heap.size (fun _ => True) v1_ r2 ∧ IsS106 w0 w' g s0_0 r3 r4 ∧ Below w0.heap.size w0 w' ∧ KeepBut w w' g none := by
 have hu28 := Try.underlying28
 have HI0 := aQ hI
 have HK := aQ (KeepBut.refl w g none)
 have HL := aQ hB.size
 clear hI
 have HW0 := aQ hB.size
 have HB := aQ hB
 clear hB
 have H := h
 clear h
 unfold yan.f at H
 (try dsimp only at H)
 replace H := bo H; obtain ⟨⟨tq0, tqd, tqe, tqf⟩, A3, H⟩ := H
 (try dsimp only at H)
 replace H := bo H; obtain ⟨⟨tq1, tqg, tqh⟩, A4, H⟩ := H
 (try dsimp only at H)
 by_cases c5 : tq1 = 0
 ·rw [if_pos c5] at H
  have c5b0 : (tq1 == 0) = true := beq_iff_eq.mpr c5
  have c5b1 : (tq1 != 0) = false := bne_eq_false_iff_eq.mpr c5
  clear c5
  obtain ⟨yqi, hyqi⟩ : ∃ y_ : List Int, y_ = (([(-1), 0, 2, 9] : List Int)) := ⟨_, rfl⟩
  replace H : ((yaB.f s0_0 tqg tqh yqi).bind fun btq2 => (some (btq2.1, tqd, btq2.2.1, btq2.2.2))) = some (r1, r2, r3, r4) := by first | (rw [hyqi]; with_reducible exact H) | (rw [hyqi]; exact H)
  have Nyqi := aQ hyqi
  clear hyqi
  replace H := bo H; obtain ⟨⟨tq2, tqj, tqk⟩, A6, H⟩ := H
  (try dsimp only at H)
  simp only [Option.some.injEq, Prod.mk.injEq] at H
  obtain ⟨rfl, rfl, rfl, rfl⟩ := H
  go_enter Try.func130, Try.ntmps130
  go_wp2_with (first | ((with_reducible refine yb (N := 4) rfl ?_); refine bx 4 #[.int .i64 0, .slice none 0 0] 28 ?_; intro gbql hg w7 hbox hb; replace HB := bsI HB hb; have BKql := aQ (hbox); have GWql := gw HK hg; have GEql := ge HK HW0 hg; replace HK := kt HK hb; have NB0_ql := nI HI0 hg; have NBql_0 := mI HI0 hg; replace HI0 := bI HI0 hb; clear hb hbox hg) | (refine gq 129 (some 9) Try.func129 #[.pointer (some ⟨g, 0, none⟩), .int .i64 a1] ?_; (with_reducible refine (yaK.calls k g s0_0 s0_1 s0_2 a1 tq0 tqd tqe tqf w0 _ ?side1 ?side2 A3.out).mono ?_); (case side1 => exact pi_ HI0); (case side2 => exact pbI HB); rintro e w8 ⟨vqm, rfl, ho0, hi, hb, hk⟩; refine ⟨_, rfl, ?_⟩; replace BKql := kk BKql hk NBql_0.out; have HOqn := aQ (Kd.R_lower ho0 (yR (w := w) (g := g) (row := none) (pq HK))); replace HK := kh HK hk; replace HB := aQ (hb); replace HI0 := aQ (hi); (try clear hb); (try clear hk); (try clear hi); (try clear ho0)) | ((with_reducible refine yb (N := 5) rfl ?_); refine bx 5 #[.int .i64 0, .slice none 0 0] 28 ?_; intro gbqo hg w9 hbox hb; replace HOqn := aQ (Kd.R_below (pR HOqn.out) hb); replace HB := bsI HB hb; have BKqo := aQ (hbox); have GWqo := gw HK hg; have GEqo := ge HK HW0 hg; replace HK := kt HK hb; have NBql_qo := nl BKql hg; have NBqo_ql := ng BKql hg; replace BKql := bb BKql hb; have NB0_qo := nI HI0 hg; have NBqo_0 := mI HI0 hg; replace HI0 := bI HI0 hb; clear hb hbox hg; have hnb10 := NBqo_ql.out; have hnc10 := NBql_qo.out; have hnb11 := NBqo_0.out; have hnc11 := NB0_qo.out; obtain ⟨hcz12_0, hcz12_1, hfz12_0, hfz12_1⟩ := c2 BKqo; obtain ⟨Ao13, co13, eo13⟩ := Kd.R_slice HOqn.out; subst eo13) | (refine gq 91 (some 11) Try.func91 #[.pointer (some ⟨g, 0, none⟩), .int .i64 10] ?_; (with_reducible refine (yk.calls g s0_0 tqe tqf 10 tq1 tqg tqh w0 _ ?side1 ?side2 A4.out).mono ?_); (case side1 => exact pi_ HI0); (case side2 => exact pbI HB); rintro e w14 ⟨rfl, hi, hb, hk⟩; refine ⟨_, rfl, ?_⟩; replace BKql := aQ (KeepBut.blk hk (g' := gbql) (o := .cells #[.int .i64 0, .slice none 0 0] 28 (0, 0)) (by refine pkx ?_; refine yj ?_ NBql_qo.out _; refine pkx ?_; refine yj ?_ NBql_qo.out _; refine pkx ?_; exact BKql.out) NBql_0.out (by simp)); replace HOqn := aQ (Kd.R_mono (Kd.R_keep (IsS106.apart (show IsS106 w0 _ g s0_0 tqe tqf from pi_ HI0) (by refine pRx ?_; exact (Kd.R_mono (Kd.R_far (p := ⟨gbqo, 1, none⟩) (Kd.R_far (p := ⟨gbqo, 0, none⟩) (Kd.R_types HOqn.out BKqo.out (by decide)) (fun _ hk => hk.2) (.int .i64 tq0)) (fun _ hk => hk.2) (.slice Ao13 tqd.length co13)) (fun _ h_ => h_.1))) (by decide)) hk (fun _ h => h.2)) (fun _ h => h.1)); replace BKqo := aQ (KeepBut.blk hk (g' := gbqo) (o := .cells #[.int .i64 tq0, .slice Ao13 tqd.length co13] 28 (0, 0)) (by refine pkx ?_; refine yh (cs := #[.int .i64 tq0, .slice none 0 0]) ?_ 1 _ rfl; refine pkx ?_; refine yh (cs := #[.int .i64 0, .slice none 0 0]) ?_ 0 _ rfl; refine pkx ?_; exact BKqo.out) NBqo_0.out (by simp)); replace HK := kh HK hk; replace HB := aQ (hb); replace HI0 := aQ (hi); (try clear hb); (try clear hk); (try clear hi)) | ((with_reducible refine yb (N := 15) rfl ?_); refine Kd.R_lit (Kd.int .i64) _ 3 ?hg (N := 15) ?hd (xs := ([(-1), 0, 2, 9] : List Int)) (inner := [.int .i64 (-1), .int .i64 0, .int .i64 2, .int .i64 9]) (ok := fun _ => True) (okp := fun _ => True) ?hr ?hp (fun _ hk => hk) trivial (Below.refl _ _) (Nat.le_refl _) (by simp) ?_; (case hd => rfl); (case hg => rfl); (case hr => first | (go_simp; done) | (go_simp; rfl)); (case hp => exact (Reps.one (show Kd.M (Kd.int .i64) _ _ _ (-1) [.int .i64 (-1)] from rfl) (Reps.one (show Kd.M (Kd.int .i64) _ _ _ 0 [.int .i64 0] from rfl) (Reps.one (show Kd.M (Kd.int .i64) _ _ _ 2 [.int .i64 2] from rfl) (Reps.one (show Kd.M (Kd.int .i64) _ _ _ 9 [.int .i64 9] from rfl) (Reps.none _ _)))))); intro vqp w15 ho16 hb hg_ hnew_; clear hg_ hnew_; (first | rw [← Nyqi.out] at ho16 | (simp only [Int.reduceToNat] at ho16; rw [← Nyqi.out] at ho16)); have HOqq := aQ (Kd.R_lower (Kd.R_new' ho16 (Kd.R_lt (pR HOqn.out))) (yR (w := w) (g := g) (row := none) (pq HK))); replace HOqn := aQ (Kd.R_elder' (pR HOqn.out) (Kd.R_base ho16) hb); replace BKql := bb BKql hb; replace BKqo := bb BKqo hb; replace HK := kt HK hb; replace HB := bsI HB hb; replace HI0 := bI HI0 hb; clear hb ho16; obtain ⟨Ao17, co17, eo17⟩ := Kd.R_slice HOqq.out; subst eo17) | (refine gq 140 (some 16) Try.func140 #[.pointer (some ⟨g, 0, none⟩), .slice Ao17 yqi.length co17] ?_; (with_reducible refine (yaB.calls g s0_0 tqg tqh _ _ yqi tq2 tqj tqk w0 _ ?side1 ?side2 ?side3 ?side4 ?side5 A6.out).mono ?_); (case side1 => exact pi_ HI0); (case side2 => exact pbI HB); (case side3 => exact pC ((Kd.R_reads' HOqq.out).2.2)); (case side4 => exact (Kd.R_reads' HOqq.out).2.1); (case side5 => exact ycT (IsS106.own_ne HI0.out HOqq.out (by decide))); rintro e w18 ⟨rfl, hi, hb, hk⟩; refine ⟨_, rfl, ?_⟩; replace BKql := kk BKql hk NBql_0.out; replace HOqn := aQ (Kd.R_mono (Kd.R_keep (IsS106.apart (show IsS106 w0 _ g s0_0 tqg tqh from pi_ HI0) (pR HOqn.out) (by decide)) hk (fun _ h => h.2)) (fun _ h => h.1)); replace BKqo := kk BKqo hk NBqo_0.out; replace HOqq := aQ (Kd.R_mono (Kd.R_keep (IsS106.apart (show IsS106 w0 _ g s0_0 tqg tqh from pi_ HI0) (pR HOqq.out) (by decide)) hk (fun _ h => h.2)) (fun _ h => h.1)); replace HK := kh HK hk; replace HB := aQ (hb); replace HI0 := aQ (hi); (try clear hb); (try clear hk); (try clear hi); obtain ⟨hcz19_0, hcz19_1, hfz19_0, hfz19_1⟩ := c2 BKqo; have hnb20 := NBql_0.out; have hnc20 := NB0_ql.out; obtain ⟨hcz21_0, hcz21_1, hfz21_0, hfz21_1⟩ := c2 BKql))
  refine bodyPost_ret (results_cell_row rfl _ _ gbql 28 #[.int .i64 tq2, .slice Ao13 tqd.length co13] (0, 0) _ rfl (by refine pkx ?_; refine yh (cs := #[.int .i64 tq2, .slice none 0 0]) ?_ 1 _ rfl; refine pkx ?_; refine yh (cs := #[.int .i64 0, .slice none 0 0]) ?_ 0 _ rfl; refine pkx ?_; refine yj ?_ NBql_qo.out _; refine pkx ?_; exact BKql.out) Try.underlying28 rfl (by kernel_rfl)) rfl ?_
  exact ⟨_, by first | rfl | (simp [errW_none, yi] <;> rfl) | (simp [*, errW_none, yi] <;> rfl), by refine pRx ?_; exact Kd.R_mono (Kd.R_far (p := ⟨gbql, 1, none⟩) (Kd.R_far (p := ⟨gbql, 0, none⟩) (Kd.R_far (p := ⟨gbqo, 0, none⟩) (Kd.R_types (Kd.R_types HOqn.out BKqo.out (by decide)) BKql.out (by decide)) (fun _ hk => hk.1.2) (.int .i64 tq2)) (fun _ hk => hk.2) (.int .i64 tq2)) (fun _ hk => hk.2) (.slice Ao13 tqd.length co13)) (fun _ hk => trivial), pi_ HI0, pbI HB, pq HK⟩
 ·rw [if_neg c5] at H
  have c5b0 : (tq1 == 0) = false := beq_eq_false_iff_ne.mpr c5
  have c5b1 : (tq1 != 0) = true := bne_iff_ne.mpr c5
  by_cases c22 : tq1 = 1
  ·rw [if_pos c22] at H
   have c22b0 : (tq1 == 1) = true := beq_iff_eq.mpr c22
   have c22b1 : (tq1 != 1) = false := bne_eq_false_iff_eq.mpr c22
   clear c22
   replace H := bo H; obtain ⟨⟨tq3, tqr, tqs⟩, A23, H⟩ := H
   (try dsimp only at H)
   replace H := gd H; obtain ⟨c24, H⟩ := H
   have LMc24 := aQ c24
   clear c24
   obtain ⟨yqt, hyqt⟩ : ∃ y_ : List Int, y_ = (tqd ++ [tq3]) := ⟨_, rfl⟩
   replace H : (some (tq0, yqt, tqr, tqs)) = some (r1, r2, r3, r4) := by first | (rw [hyqt]; with_reducible exact H) | (rw [hyqt]; exact H)
   have Nyqt := aQ hyqt
   clear hyqt
   simp only [Option.some.injEq, Prod.mk.injEq] at H
   obtain ⟨rfl, rfl, rfl, rfl⟩ := H
   go_enter Try.func130, Try.ntmps130
   try go_wp2_with (first | ((with_reducible refine yb (N := 4) rfl ?_); refine bx 4 #[.int .i64 0, .slice none 0 0] 28 ?_; intro gbql hg w25 hbox hb; replace HB := bsI HB hb; have BKql := aQ (hbox); have GWql := gw HK hg; have GEql := ge HK HW0 hg; replace HK := kt HK hb; have NB0_ql := nI HI0 hg; have NBql_0 := mI HI0 hg; replace HI0 := bI HI0 hb; clear hb hbox hg) | (refine gq 129 (some 9) Try.func129 #[.pointer (some ⟨g, 0, none⟩), .int .i64 a1] ?_; (with_reducible refine (yaK.calls k g s0_0 s0_1 s0_2 a1 tq0 tqd tqe tqf w0 _ ?side1 ?side2 A3.out).mono ?_); (case side1 => exact pi_ HI0); (case side2 => exact pbI HB); rintro e w26 ⟨vqm, rfl, ho0, hi, hb, hk⟩; refine ⟨_, rfl, ?_⟩; replace BKql := kk BKql hk NBql_0.out; have HOqn := aQ (Kd.R_lower ho0 (yR (w := w) (g := g) (row := none) (pq HK))); replace HK := kh HK hk; replace HB := aQ (hb); replace HI0 := aQ (hi); (try clear hb); (try clear hk); (try clear hi); (try clear ho0)) | ((with_reducible refine yb (N := 5) rfl ?_); refine bx 5 #[.int .i64 0, .slice none 0 0] 28 ?_; intro gbqo hg w27 hbox hb; replace HOqn := aQ (Kd.R_below (pR HOqn.out) hb); replace HB := bsI HB hb; have BKqo := aQ (hbox); have GWqo := gw HK hg; have GEqo := ge HK HW0 hg; replace HK := kt HK hb; have NBql_qo := nl BKql hg; have NBqo_ql := ng BKql hg; replace BKql := bb BKql hb; have NB0_qo := nI HI0 hg; have NBqo_0 := mI HI0 hg; replace HI0 := bI HI0 hb; clear hb hbox hg; have hnb28 := NBqo_ql.out; have hnc28 := NBql_qo.out; have hnb29 := NBqo_0.out; have hnc29 := NB0_qo.out; obtain ⟨hcz30_0, hcz30_1, hfz30_0, hfz30_1⟩ := c2 BKqo; obtain ⟨Ao31, co31, eo31⟩ := Kd.R_slice HOqn.out; subst eo31) | (refine gq 91 (some 11) Try.func91 #[.pointer (some ⟨g, 0, none⟩), .int .i64 10] ?_; (with_reducible refine (yk.calls g s0_0 tqe tqf 10 tq1 tqg tqh w0 _ ?side1 ?side2 A4.out).mono ?_); (case side1 => exact pi_ HI0); (case side2 => exact pbI HB); rintro e w32 ⟨rfl, hi, hb, hk⟩; refine ⟨_, rfl, ?_⟩; replace BKql := aQ (KeepBut.blk hk (g' := gbql) (o := .cells #[.int .i64 0, .slice none 0 0] 28 (0, 0)) (by refine pkx ?_; refine yj ?_ NBql_qo.out _; refine pkx ?_; refine yj ?_ NBql_qo.out _; refine pkx ?_; exact BKql.out) NBql_0.out (by simp)); replace HOqn := aQ (Kd.R_mono (Kd.R_keep (IsS106.apart (show IsS106 w0 _ g s0_0 tqe tqf from pi_ HI0) (by refine pRx ?_; exact (Kd.R_mono (Kd.R_far (p := ⟨gbqo, 1, none⟩) (Kd.R_far (p := ⟨gbqo, 0, none⟩) (Kd.R_types HOqn.out BKqo.out (by decide)) (fun _ hk => hk.2) (.int .i64 tq0)) (fun _ hk => hk.2) (.slice Ao31 tqd.length co31)) (fun _ h_ => h_.1))) (by decide)) hk (fun _ h => h.2)) (fun _ h => h.1)); replace BKqo := aQ (KeepBut.blk hk (g' := gbqo) (o := .cells #[.int .i64 tq0, .slice Ao31 tqd.length co31] 28 (0, 0)) (by refine pkx ?_; refine yh (cs := #[.int .i64 tq0, .slice none 0 0]) ?_ 1 _ rfl; refine pkx ?_; refine yh (cs := #[.int .i64 0, .slice none 0 0]) ?_ 0 _ rfl; refine pkx ?_; exact BKqo.out) NBqo_0.out (by simp)); replace HK := kh HK hk; replace HB := aQ (hb); replace HI0 := aQ (hi); (try clear hb); (try clear hk); (try clear hi)))
   replace HOqn := aQ (Kd.R_drew HOqn.out); replace BKql := aQ (yF BKql.out); replace BKqo := aQ (yF BKqo.out); replace HI0 := aQ (IsS106.drew HI0.out); replace HK := aQ (ybx HK.out); replace HB := aQ (yK HB.out)
   refine ya0 (n := 8) (S := fun w' => w'.cell? ⟨gbqo, 0, none⟩ = some (.int .i64 tq0) ∧ w'.cell? ⟨gbqo, 1, none⟩ = some (.slice Ao31 tqd.length co31)) (ds := [7]) _ (by kernel_rfl) rfl rfl ⟨(ya BKqo.out 0).trans rfl, (ya BKqo.out 1).trans rfl⟩ (fun hHeld => ?_); refine yaw yan.tab6 yan.bits6 (fun HT_ HW_ => ?_)
   generalize w32.drew = w33 at HOqn BKql BKqo HI0 HK HB hHeld ⊢
   refine pJ 0 (some 20) HT_ #[true, false, false, false, false, false, false, false] ?_
   refine pJ 2 (some 22) HT_ #[true, false, true, false, false, false, false, false] ?_
   refine take_ (i := 1) (N := some 21) (v := ?_) (a' := ?_) #[true, true, true, false, false, false, false, false] rfl rfl (ybK HT_.out HW_.out (by kernel_rfl)) (fun _ _ _ h => h) (Or.inl ⟨by rfl, ?_⟩) hHeld ?_ ?_
   rotate_left
   ·rintro w' ⟨s0, s1⟩
    go_simp
    with_reducible rfl
   rotate_left
   ·simp only [Act.put, List.setIfInBounds_toArray, List.set_cons_zero, List.set_cons_succ, i64_w, ybq]
    rfl
   refine one_ (i := 3) (N := some 23) #[true, true, true, true, false, false, false, false] rfl rfl (ybP HT_.out (by kernel_rfl)) (by decide) (fun K hK => ?_)
   refine gs Try.func96 #[.pointer (some ⟨g, 0, none⟩)] ?_
   with_reducible refine (ybF.calls g s0_0 tqg tqh tq3 tqr tqs w0 _ ?side1 ?side2 A23.out).mono ?_
   (case side1 => exact pi_ HI0)
   (case side2 => exact pbI HB)
   rintro e w34 ⟨rfl, hi, hb, hk⟩
   refine ⟨_, rfl, ?_⟩
   replace BKql := kk BKql hk NBql_0.out; replace HOqn := aQ (Kd.R_mono (Kd.R_keep (IsS106.apart (show IsS106 w0 _ g s0_0 tqg tqh from pi_ HI0) (pR HOqn.out) (by decide)) hk (fun _ h => h.2)) (fun _ h => h.1)); replace BKqo := kk BKqo hk NBqo_0.out; replace HK := kh HK hk; replace HB := aQ (hb); replace HI0 := aQ (hi)
   (try clear hb)
   (try clear hb2)
   (try clear hk)
   (try clear hi)
   refine hK.out _ _ ⟨(ya BKqo.out 0).trans rfl, (ya BKqo.out 1).trans rfl⟩ (fun hHeld => ?_)
   clear hK K
   refine noN (some 23) (h := ?_)
   refine one_ (i := 4) (N := some 24) #[true, true, true, true, true, false, false, false] rfl rfl (ybP HT_.out (by kernel_rfl)) (by decide) (fun K hK => ?_)
   refine ygk (w1 := ?_) (v := ?_) (by rfl) rfl ?_ ?_
   rotate_left 2
   ·go_simp
    constructor
    ·rfl
    ·rfl
   refine hK.out _ _ ⟨(ya (ybQ BKqo.out _) 0).trans rfl, (ya (ybQ BKqo.out _) 1).trans rfl⟩ (fun hHeld => ?_)
   clear hK K
   refine noN (some 24) (h := ?_)
   refine one_ (i := 5) (N := some 25) #[true, true, true, true, true, true, false, false] rfl rfl (ybP HT_.out (by kernel_rfl)) (by decide) (fun K hK => ?_)
   refine Kd.R_append_step (Kd.int .i64) w.heap.size (by rfl) (.tmp 21) (.tmp 24) 22 3 (.int .i64 0) 8 rfl Try.underlying22 yaU rfl (by decide) (by omega) (.slice Ao31 tqd.length co31) tqd tq3 [.int .i64 tq3] (fun _ => True) (fun _ => False) rfl rfl ?aP (fun _ hk => hk.elim) ?aF ?aO (Below.refl _ _) ?aS ?aL ?_
   (case aP => exact rfl)
   (case aF => exact (fun _ _ => trivial))
   (case aO => exact (pR HOqn.out))
   (case aS => exact (yR (w := w) (g := g) (row := none) (pq HK)))
   (case aL => have := LMc24.out; omega)
   intro vqu w35 ho hb hg hat
   rw [← Nyqt.out] at ho
   replace HI0 := aQ (IsS106.grown (pi_ HI0) hg (IsS106.own_ne HI0.out HOqn.out (by decide))); replace BKql := aQ (ybu (g := gbql) (o := .cells #[.int .i64 0, .slice none 0 0] 28 (0, 0)) (pk BKql.out) hg (Kd.R_ne HOqn.out BKql.out (by decide))); replace BKqo := aQ (ybu (g := gbqo) (o := .cells #[.int .i64 tq0, .slice Ao31 tqd.length co31] 28 (0, 0)) (pk BKqo.out) hg (Kd.R_ne HOqn.out BKqo.out (by decide))); replace HB := aQ (ybo (pbI HB) HL.out hb); replace HK := aQ (KeepBut.trans (pq HK) (KeepBut.of_grown hg g) (Kd.R_base2 HOqn.out)); have HOqv := aQ (ho); clear HOqn
   clear ho hb hg hat
   obtain ⟨Ao36, co36, eo36⟩ := Kd.R_slice HOqv.out
   (first | subst eo36 | (injection eo36 with f1_ f2_ f3_; have f4_ := f1_.symm; have f5_ := f3_.symm; clear f1_ f2_ f3_; subst f4_; subst f5_))
   refine hK.out _ _ ⟨(ya BKqo.out 0).trans rfl, (ya BKqo.out 1).trans rfl⟩ (fun hHeld => ?_)
   clear hK K
   refine noN (some 25) (h := ?_)
   refine pJ 6 (some 26) HT_ #[true, true, true, true, true, true, true, false] ?_
   refine yhn (i := 7) (N := none) #[true, true, true, true, true, true, true, true] rfl rfl (ybP HT_.out (by kernel_rfl)) (by decide) (fun K hK => ?_)
   have hs37 : w35.cell? ⟨gbqo, 1, none⟩ = some (.slice Ao31 tqd.length co31) := (ya BKqo.out 1).trans rfl
   have hfs37 := yl BKqo.out 1
   have hns37_0 := NBql_qo.out
   have hms37_0 := NBqo_ql.out
   refine ybU (w1 := ?_) (by rfl) rfl ?_ ?_
   rotate_left
   ·go_simp
    rfl
   refine hK.out _ _ ?_
   clear hK K
   refine ybs (yaZ HT_.out (by kernel_rfl)) ?_
   obtain ⟨hcz38_0, hcz38_1, hfz38_0, hfz38_1⟩ := c2 BKqo
   have hnb39 := NBql_0.out
   have hnc39 := NB0_ql.out
   obtain ⟨hcz40_0, hcz40_1, hfz40_0, hfz40_1⟩ := c2 BKql
   try go_wp2
   refine bodyPost_ret (results_cell_row rfl _ _ gbql 28 #[.int .i64 tq0, .slice Ao36 yqt.length co36] (0, 0) _ rfl (by refine pkx ?_; refine yh (cs := #[.int .i64 tq0, .slice none 0 0]) ?_ 1 _ rfl; refine pkx ?_; refine yh (cs := #[.int .i64 0, .slice none 0 0]) ?_ 0 _ rfl; refine pkx ?_; refine yj ?_ NBql_qo.out _; refine pkx ?_; exact BKql.out) Try.underlying28 rfl (by kernel_rfl)) rfl ?_
   exact ⟨_, by first | rfl | (simp [errW_none, yi] <;> rfl) | (simp [*, errW_none, yi] <;> rfl), by refine pRx ?_; exact Kd.R_mono (Kd.R_far (p := ⟨gbql, 1, none⟩) (Kd.R_far (p := ⟨gbql, 0, none⟩) (Kd.R_far (p := ⟨gbqo, 1, none⟩) (Kd.R_types (Kd.R_types HOqv.out BKqo.out (by decide)) BKql.out (by decide)) (fun _ hk => hk.1.2) (.slice Ao36 yqt.length co36)) (fun _ hk => hk.2) (.int .i64 tq0)) (fun _ hk => hk.2) (.slice Ao36 yqt.length co36)) (fun _ hk => trivial), pi_ HI0, pbI HB, pq HK⟩
  ·rw [if_neg c22] at H
   have c22b0 : (tq1 == 1) = false := beq_eq_false_iff_ne.mpr c22
   have c22b1 : (tq1 != 1) = true := bne_iff_ne.mpr c22
   by_cases c41 : tq1 = 2
   ·rw [if_pos c41] at H
    have c41b0 : (tq1 == 2) = true := beq_iff_eq.mpr c41
    have c41b1 : (tq1 != 2) = false := bne_eq_false_iff_eq.mpr c41
    clear c41
    by_cases c42 : (tqd.length : Int) > 1
    ·rw [if_pos c42] at H
     have c42b0 := decide_eq_true c42
     have c42b1 : decide (1 < tqd.length) = true := decide_eq_true (by omega)
     clear c42
     replace H := bo H; obtain ⟨⟨tq4, tqw, tqx⟩, A43, H⟩ := H
     (try dsimp only at H)
     obtain ⟨yq5, hyq5⟩ : ∃ y_ : List Int, y_ = (([] : List Int)) := ⟨_, rfl⟩
     replace H := yy hyq5 H
     (try dsimp only at H)
     have Nyq5 := aQ hyq5
     clear hyq5
     replace H := gd H; obtain ⟨c44, H⟩ := H
     have c44b0 := eq_true c44
     have c44b1 := decide_eq_true c44
     clear c44
     replace H := gd H; obtain ⟨c45, H⟩ := H
     have c45b0 := eq_true c45
     have c45b1 := decide_eq_true c45
     clear c45
     obtain ⟨yq6, hyq6⟩ : ∃ y_ : List Int, y_ = (tqd.take (tq4 : Int).toNat) := ⟨_, rfl⟩
     replace H : (if yq5.length + yq6.length < 17592186044416 then ((some (yq5 ++ yq6 : List Int)).bind fun yq7 => (if 0 ≤ (wrap64 (tq4 + 1)) then (if (wrap64 (tq4 + 1)) ≤ (tqd.length : Int) then ((some (tqd.drop ((wrap64 (tq4 + 1)) : Int).toNat : List Int)).bind fun yq8 => (if yq7.length + yq8.length < 17592186044416 then (some (tq0, (yq7 ++ yq8), tqw, tqx)) else (none))) else (none)) else (none))) else (none)) = some (r1, r2, r3, r4) := by first | (rw [hyq6]; with_reducible exact H) | (rw [hyq6]; exact H)
     have Nyq6 := aQ hyq6
     clear hyq6
     replace H := gd H; obtain ⟨c46, H⟩ := H
     have LMc46 := aQ c46
     clear c46
     obtain ⟨yq7, hyq7⟩ : ∃ y_ : List Int, y_ = (yq5 ++ yq6) := ⟨_, rfl⟩
     replace H : (if 0 ≤ (wrap64 (tq4 + 1)) then (if (wrap64 (tq4 + 1)) ≤ (tqd.length : Int) then ((some (tqd.drop ((wrap64 (tq4 + 1)) : Int).toNat : List Int)).bind fun yq8 => (if yq7.length + yq8.length < 17592186044416 then (some (tq0, (yq7 ++ yq8), tqw, tqx)) else (none))) else (none)) else (none)) = some (r1, r2, r3, r4) := by first | (rw [hyq7]; with_reducible exact H) | (rw [hyq7]; exact H)
     have Nyq7 := aQ hyq7
     clear hyq7
     obtain ⟨ji47, hji47⟩ : ∃ j_ : Int, (wrap64 (tq4 + 1)) = j_ := ⟨_, rfl⟩
     replace H : (if 0 ≤ (ji47) then (if (ji47) ≤ (tqd.length : Int) then ((some (tqd.drop ((ji47) : Int).toNat : List Int)).bind fun yq8 => (if yq7.length + yq8.length < 17592186044416 then (some (tq0, (yq7 ++ yq8), tqw, tqx)) else (none))) else (none)) else (none)) = some (r1, r2, r3, r4) := by first | (rw [hji47] at H; exact H) | (simp only [hji47] at H ⊢; exact H)
     (try rw [hji47] at A3)
     (try rw [hji47] at A4)
     (try rw [hji47] at A43)
     have hji47w : (IntKind.i64.wrap (tq4 + 1)) = ji47 := (i64_w _).trans hji47
     replace H := gd H; obtain ⟨c48, H⟩ := H
     have c48b0 := eq_true c48
     have c48b1 := decide_eq_true c48
     clear c48
     replace H := gd H; obtain ⟨c49, H⟩ := H
     have c49b0 := eq_true c49
     have c49b1 := decide_eq_true c49
     clear c49
     obtain ⟨yq8, hyq8⟩ : ∃ y_ : List Int, y_ = (tqd.drop ((ji47) : Int).toNat) := ⟨_, rfl⟩
     replace H : (if yq7.length + yq8.length < 17592186044416 then (some (tq0, (yq7 ++ yq8), tqw, tqx)) else (none)) = some (r1, r2, r3, r4) := by first | (rw [hyq8]; with_reducible exact H) | (rw [hyq8]; exact H)
     have Nyq8 := aQ hyq8
     clear hyq8
     replace H := gd H; obtain ⟨c50, H⟩ := H
     have LMc50 := aQ c50
     clear c50
     obtain ⟨yqy, hyqy⟩ : ∃ y_ : List Int, y_ = (yq7 ++ yq8) := ⟨_, rfl⟩
     replace H : (some (tq0, yqy, tqw, tqx)) = some (r1, r2, r3, r4) := by first | (rw [hyqy]; with_reducible exact H) | (rw [hyqy]; exact H)
     have Nyqy := aQ hyqy
     clear hyqy
     simp only [Option.some.injEq, Prod.mk.injEq] at H
     obtain ⟨rfl, rfl, rfl, rfl⟩ := H
     go_enter Try.func130, Try.ntmps130
     try go_wp2_with (first | ((with_reducible refine yb (N := 4) rfl ?_); refine bx 4 #[.int .i64 0, .slice none 0 0] 28 ?_; intro gbql hg w51 hbox hb; replace HB := bsI HB hb; have BKql := aQ (hbox); have GWql := gw HK hg; have GEql := ge HK HW0 hg; replace HK := kt HK hb; have NB0_ql := nI HI0 hg; have NBql_0 := mI HI0 hg; replace HI0 := bI HI0 hb; clear hb hbox hg) | (refine gq 129 (some 9) Try.func129 #[.pointer (some ⟨g, 0, none⟩), .int .i64 a1] ?_; (with_reducible refine (yaK.calls k g s0_0 s0_1 s0_2 a1 tq0 tqd tqe tqf w0 _ ?side1 ?side2 A3.out).mono ?_); (case side1 => exact pi_ HI0); (case side2 => exact pbI HB); rintro e w52 ⟨vqm, rfl, ho0, hi, hb, hk⟩; refine ⟨_, rfl, ?_⟩; replace BKql := kk BKql hk NBql_0.out; have HOqn := aQ (Kd.R_lower ho0 (yR (w := w) (g := g) (row := none) (pq HK))); replace HK := kh HK hk; replace HB := aQ (hb); replace HI0 := aQ (hi); (try clear hb); (try clear hk); (try clear hi); (try clear ho0)) | ((with_reducible refine yb (N := 5) rfl ?_); refine bx 5 #[.int .i64 0, .slice none 0 0] 28 ?_; intro gbqo hg w53 hbox hb; replace HOqn := aQ (Kd.R_below (pR HOqn.out) hb); replace HB := bsI HB hb; have BKqo := aQ (hbox); have GWqo := gw HK hg; have GEqo := ge HK HW0 hg; replace HK := kt HK hb; have NBql_qo := nl BKql hg; have NBqo_ql := ng BKql hg; replace BKql := bb BKql hb; have NB0_qo := nI HI0 hg; have NBqo_0 := mI HI0 hg; replace HI0 := bI HI0 hb; clear hb hbox hg; have hnb54 := NBqo_ql.out; have hnc54 := NBql_qo.out; have hnb55 := NBqo_0.out; have hnc55 := NB0_qo.out; obtain ⟨hcz56_0, hcz56_1, hfz56_0, hfz56_1⟩ := c2 BKqo; obtain ⟨Ao57, co57, eo57⟩ := Kd.R_slice HOqn.out; subst eo57) | (refine gq 91 (some 11) Try.func91 #[.pointer (some ⟨g, 0, none⟩), .int .i64 10] ?_; (with_reducible refine (yk.calls g s0_0 tqe tqf 10 tq1 tqg tqh w0 _ ?side1 ?side2 A4.out).mono ?_); (case side1 => exact pi_ HI0); (case side2 => exact pbI HB); rintro e w58 ⟨rfl, hi, hb, hk⟩; refine ⟨_, rfl, ?_⟩; replace BKql := aQ (KeepBut.blk hk (g' := gbql) (o := .cells #[.int .i64 0, .slice none 0 0] 28 (0, 0)) (by refine pkx ?_; refine yj ?_ NBql_qo.out _; refine pkx ?_; refine yj ?_ NBql_qo.out _; refine pkx ?_; exact BKql.out) NBql_0.out (by simp)); replace HOqn := aQ (Kd.R_mono (Kd.R_keep (IsS106.apart (show IsS106 w0 _ g s0_0 tqe tqf from pi_ HI0) (by refine pRx ?_; exact (Kd.R_mono (Kd.R_far (p := ⟨gbqo, 1, none⟩) (Kd.R_far (p := ⟨gbqo, 0, none⟩) (Kd.R_types HOqn.out BKqo.out (by decide)) (fun _ hk => hk.2) (.int .i64 tq0)) (fun _ hk => hk.2) (.slice Ao57 tqd.length co57)) (fun _ h_ => h_.1))) (by decide)) hk (fun _ h => h.2)) (fun _ h => h.1)); replace BKqo := aQ (KeepBut.blk hk (g' := gbqo) (o := .cells #[.int .i64 tq0, .slice Ao57 tqd.length co57] 28 (0, 0)) (by refine pkx ?_; refine yh (cs := #[.int .i64 tq0, .slice none 0 0]) ?_ 1 _ rfl; refine pkx ?_; refine yh (cs := #[.int .i64 0, .slice none 0 0]) ?_ 0 _ rfl; refine pkx ?_; exact BKqo.out) NBqo_0.out (by simp)); replace HK := kh HK hk; replace HB := aQ (hb); replace HI0 := aQ (hi); (try clear hb); (try clear hk); (try clear hi); obtain ⟨hcz59_0, hcz59_1, hfz59_0, hfz59_1⟩ := c2 BKqo) | (refine gq 91 (some 37) Try.func91 #[.pointer (some ⟨g, 0, none⟩), .int .i64 (tqd.length : Int)] ?_; (with_reducible refine (yk.calls g s0_0 tqg tqh (tqd.length : Int) tq4 tqw tqx w0 _ ?side1 ?side2 A43.out).mono ?_); (case side1 => exact pi_ HI0); (case side2 => exact pbI HB); rintro e w60 ⟨rfl, hi, hb, hk⟩; refine ⟨_, rfl, ?_⟩; replace BKql := kk BKql hk NBql_0.out; replace HOqn := aQ (Kd.R_mono (Kd.R_keep (IsS106.apart (show IsS106 w0 _ g s0_0 tqg tqh from pi_ HI0) (pR HOqn.out) (by decide)) hk (fun _ h => h.2)) (fun _ h => h.1)); replace BKqo := kk BKqo hk NBqo_0.out; replace HK := kh HK hk; replace HB := aQ (hb); replace HI0 := aQ (hi); (try clear hb); (try clear hk); (try clear hi)))
     replace HOqn := aQ (Kd.R_drew HOqn.out); replace BKql := aQ (yF BKql.out); replace BKqo := aQ (yF BKqo.out); replace HI0 := aQ (IsS106.drew HI0.out); replace HK := aQ (ybx HK.out); replace HB := aQ (yK HB.out)
     have q62 : (tq4 : Int) ≤ ((tqd.length : Int) : Int) := of_decide_eq_true as_
     obtain ⟨i062, hi062, _, hsz62, _⟩ := info_parts yaU
     have hroom62 : tqd.length ≤ co57 := (Kd.R_reads' HOqn.out).2.1
     have hC62 : Kd.C (Kd.int .i64) _ Ao57 tqd.length tqd := (Kd.R_reads' HOqn.out).2.2
     have hcut62 := yfe (P := Try.prog) 22 3 .i64 Try.underlying22 hi062 Ao57 tqd.length co57 tq4 (of_decide_eq_true as_) q62 hroom62
     have hr62 := Kd.C_take (m := (tq4 : Int).toNat) hC62 (by omega)
     have hy62 : yq6.length = (tq4 : Int).toNat := (by rw [Nyq6.out, List.length_take]; omega)
     rw [← Nyq6.out] at hr62
     rw [← hy62] at hcut62
     have HRqz := aQ hr62
     have HCqz := aQ (show yq6.length ≤ co57 from by omega)
     clear hr62 hC62 hroom62 hi062 hsz62
     have KY62 := aQ hy62
     clear hy62
     have KL62 := aQ (show (tq4 : Int).toNat ≤ tqd.length from by omega)
     replace q62 := eq_true q62
     have q63 : ((ji47) : Int) ≤ ((tqd.length : Int) : Int) := of_decide_eq_true as_
     obtain ⟨i063, hi063, _, hsz63, _⟩ := info_parts yaU
     have hroom63 : tqd.length ≤ co57 := (Kd.R_reads' HOqn.out).2.1
     have hC63 : Kd.C (Kd.int .i64) _ Ao57 tqd.length tqd := (Kd.R_reads' HOqn.out).2.2
     have q063 : (0 : Int) ≤ ((ji47) : Int) := of_decide_eq_true as_
     have hcut63 := ydA (P := Try.prog) 22 3 .i64 Try.underlying22 hi063 1 hsz63 Ao57 tqd.length co57 (ji47) q063 q63
     have hr63 := Kd.C_drop (m := ((ji47) : Int).toNat) (c := co57) hC63 (by omega) hroom63
     obtain ⟨A63, hA63⟩ : ∃ A1, A1 = (if co57 = ((ji47) : Int).toNat then Ao57 else (Ao57 : Option Addr).map (·.add (((ji47) : Int).toNat * 1))) := ⟨_, rfl⟩
     obtain ⟨c63, hc63⟩ : ∃ c1, c1 = co57 - ((ji47) : Int).toNat := ⟨_, rfl⟩
     have hy63 : yq8.length = tqd.length - ((ji47) : Int).toNat := (by rw [Nyq8.out, List.length_drop] <;> omega)
     rw [show (tqd).drop ((ji47) : Int).toNat = yq8 from Nyq8.out.symm] at hr63
     replace hr63 : Kd.C (Kd.int .i64) _ A63 yq8.length yq8 := (by rw [hA63]; exact hr63)
     rw [← hy63, ← hA63, ← hc63] at hcut63
     have HRq10 := aQ hr63
     have HCq10 := aQ (show yq8.length ≤ c63 from by rw [hy63, hc63]; exact Nat.sub_le_sub_right hroom63 _)
     clear hr63 hC63 hroom63 hi063 hsz63 hc63
     have KY63 := aQ hy63
     have KA63 := aQ hA63
     clear hy63 hA63
     have KL63 := aQ (show ((ji47) : Int).toNat ≤ tqd.length from by omega)
     replace q63 := eq_true q63
     refine ya0 (n := 14) (S := fun w' => w'.cell? ⟨gbqo, 0, none⟩ = some (.int .i64 tq0) ∧ w'.cell? ⟨gbqo, 1, none⟩ = some (.slice Ao57 tqd.length co57)) (ds := [13]) _ (by kernel_rfl) rfl rfl ⟨(ya BKqo.out 0).trans rfl, (ya BKqo.out 1).trans rfl⟩ (fun hHeld => ?_); refine yaw yan.tab10 yan.bits10 (fun HT_ HW_ => ?_)
     generalize w60.drew = w61 at HOqn BKql BKqo HI0 HK HB HRqz HRq10 hHeld ⊢
     refine pJ 1 (some 39) HT_ #[false, true, false, false, false, false, false, false, false, false, false, false, false, false] ?_
     refine pJ 3 (some 41) HT_ #[false, true, false, true, false, false, false, false, false, false, false, false, false, false] ?_
     refine pJ 6 (some 44) HT_ #[false, true, false, true, false, false, true, false, false, false, false, false, false, false] ?_
     refine pJ 8 (some 46) HT_ #[false, true, false, true, false, false, true, false, true, false, false, false, false, false] ?_
     refine pJ 9 (some 47) HT_ #[false, true, false, true, false, false, true, false, true, true, false, false, false, false] ?_
     refine take_ (i := 2) (N := some 40) (v := ?_) (a' := ?_) #[false, true, true, true, false, false, true, false, true, true, false, false, false, false] rfl rfl (ybK HT_.out HW_.out (by kernel_rfl)) (fun _ _ _ h => h) (Or.inl ⟨by rfl, ?_⟩) hHeld ?_ ?_
     rotate_left
     ·rintro w' ⟨s0, s1⟩
      go_simp
      with_reducible rfl
     rotate_left
     ·simp only [Act.put, List.setIfInBounds_toArray, List.set_cons_zero, List.set_cons_succ, i64_w, ybq]
      rfl
     refine pJ 4 (some 42) HT_ #[false, true, true, true, true, false, true, false, true, true, false, false, false, false] ?_
     refine take_ (i := 7) (N := some 45) (v := ?_) (a' := ?_) #[false, true, true, true, true, false, true, true, true, true, false, false, false, false] rfl rfl (ybK HT_.out HW_.out (by kernel_rfl)) (fun _ _ _ h => h) (Or.inl ⟨by rfl, ?_⟩) hHeld ?_ ?_
     rotate_left
     ·rintro w' ⟨s0, s1⟩
      go_simp
      with_reducible rfl
     rotate_left
     ·simp only [Act.put, List.setIfInBounds_toArray, List.set_cons_zero, List.set_cons_succ, i64_w, ybq]
      rfl
     refine pJ 10 (some 48) HT_ #[false, true, true, true, true, false, true, true, true, true, true, false, false, false] ?_
     refine one_ (i := 0) (N := some 38) #[true, true, true, true, true, false, true, true, true, true, true, false, false, false] rfl rfl (ybP HT_.out (by kernel_rfl)) (by decide) (fun K hK => ?_)
     refine Kd.R_lit_step (Kd.int .i64) _ 3 ?hg (N := 38) ?hd (xs := ([] : List Int)) (inner := []) (ok := fun _ => True) (okp := fun _ => True) ?hr ?hp (fun _ hk => hk) trivial (Below.refl _ _) (Nat.le_refl _) (by simp) ?_; (case hd => rfl); (case hg => rfl); (case hr => first | (go_simp; done) | (go_simp; rfl)); (case hp => exact (Reps.none _ _))
     intro vq11 w64 ho65 hb hg_ hnew_
     clear hg_ hnew_
     (first | rw [← Nyq5.out] at ho65 | (simp only [Int.reduceToNat] at ho65; rw [← Nyq5.out] at ho65))
     have HOq12 := aQ (Kd.R_lower (Kd.R_new' ho65 (Kd.R_lt (pR HOqn.out))) (yR (w := w) (g := g) (row := none) (pq HK))); replace HOqn := aQ (Kd.R_elder' (pR HOqn.out) (Kd.R_base ho65) hb); replace HI0 := bI HI0 hb; replace BKql := bb BKql hb; replace BKqo := bb BKqo hb; replace HRqz := aQ (Kd.C_below (by repeat (first | (with_reducible exact HRqz.out) | (with_reducible refine Kd.C_alloc ?_ _) | (with_reducible refine Kd.C_drewN ?_ _) | (with_reducible refine Kd.C_drew ?_) | exact HRqz.out)) hb); replace HRq10 := aQ (Kd.C_below (by repeat (first | (with_reducible exact HRq10.out) | (with_reducible refine Kd.C_alloc ?_ _) | (with_reducible refine Kd.C_drewN ?_ _) | (with_reducible refine Kd.C_drew ?_) | exact HRq10.out)) hb); replace HK := kt HK hb; replace HB := bsI HB hb
     clear hb ho65
     refine hK.out _ _ ⟨(ya BKqo.out 0).trans rfl, (ya BKqo.out 1).trans rfl⟩ (fun hHeld => ?_)
     clear hK K
     refine noN (some 38) (h := ?_)
     refine one_ (i := 5) (N := some 43) #[true, true, true, true, true, true, true, true, true, true, true, false, false, false] rfl rfl (ybP HT_.out (by kernel_rfl)) (by decide) (fun K hK => ?_)
     refine Kd.R_append_rows_step (Kd.int .i64) w.heap.size (by rfl) (.tmp 38) (.tmp 42) 22 3 (.int .i64 0) 8 rfl Try.underlying22 yaU rfl (by decide) (by omega) vq11 yq5 yq6 _ _ _ (fun k_ => some k_ ≠ (.slice Ao57 tqd.length co57 : Value).ownBlock) (fun _ => False) rfl rfl ?aO ?aR (fun _ _ h => h) (fun _ h => h.elim) ?aF (Below.refl _ _) ?aS ?aL ?_
     (case aR => exact pC ((by repeat (first | (with_reducible exact HRqz.out) | (with_reducible refine Kd.C_alloc ?_ _) | (with_reducible refine Kd.C_drewN ?_ _) | (with_reducible refine Kd.C_drew ?_) | exact HRqz.out))))
     (case aF => exact (fun k_ hk => Kd.fresh' (Kd.R_lt (pR HOqn.out)) k_ hk))
     (case aO => exact (by refine pRx ?_; exact Kd.R_mono HOq12.out (fun _ hk => hk.2)))
     (case aS => exact (yR (w := w) (g := g) (row := none) (pq HK)))
     (case aL => have := LMc46.out; omega)
     intro vq13 w66 ho hb hg hat
     rw [← Nyq7.out] at ho
     replace HI0 := aQ (IsS106.grown (pi_ HI0) hg (IsS106.own_ne HI0.out HOq12.out (by decide))); replace BKql := aQ (ybu (g := gbql) (o := .cells #[.int .i64 0, .slice none 0 0] 28 (0, 0)) (pk BKql.out) hg (Kd.R_ne HOq12.out BKql.out (by decide))); replace BKqo := aQ (ybu (g := gbqo) (o := .cells #[.int .i64 tq0, .slice Ao57 tqd.length co57] 28 (0, 0)) (pk BKqo.out) hg (Kd.R_ne HOq12.out BKqo.out (by decide))); replace HB := aQ (ybo (pbI HB) HL.out hb); replace HK := aQ (KeepBut.trans (pq HK) (KeepBut.of_grown hg g) (Kd.R_base2 HOq12.out)); replace HRqz := aQ ((show Kd.C (Kd.int .i64) w66 Ao57 yq6.length yq6 from by rw [Nyq6.out]; exact Kd.C_take (m := (tq4 : Int).toNat) ((Kd.R_reads' (Kd.R_after (ok := (fun _ => True)) (pR HOqn.out) hg hat)).2.2) KL62.out)); replace HRq10 := aQ ((show Kd.C (Kd.int .i64) w66 A63 yq8.length yq8 from by rw [Nyq8.out, KA63.out]; exact Kd.C_drop (m := ((ji47) : Int).toNat) (c := co57) ((Kd.R_reads' (Kd.R_after (ok := (fun _ => True)) (pR HOqn.out) hg hat)).2.2) KL63.out ((Kd.R_reads' (Kd.R_after (ok := (fun _ => True)) (pR HOqn.out) hg hat)).2.1))); replace HOqn := aQ (Kd.R_after (ok := (fun _ => True)) (pR HOqn.out) hg hat); have HOq14 := aQ (ho); clear HOq12
     clear ho hb hg hat
     refine hK.out _ _ ⟨(ya BKqo.out 0).trans rfl, (ya BKqo.out 1).trans rfl⟩ (fun hHeld => ?_)
     clear hK K
     refine noN (some 43) (h := ?_)
     refine one_ (i := 11) (N := some 49) #[true, true, true, true, true, true, true, true, true, true, true, true, false, false] rfl rfl (ybP HT_.out (by kernel_rfl)) (by decide) (fun K hK => ?_)
     refine Kd.R_append_rows_step (Kd.int .i64) w.heap.size (by rfl) (.tmp 43) (.tmp 48) 22 3 (.int .i64 0) 8 rfl Try.underlying22 yaU rfl (by decide) (by omega) vq13 yq7 yq8 _ _ _ (fun k_ => some k_ ≠ (.slice Ao57 tqd.length co57 : Value).ownBlock) (fun _ => False) rfl rfl ?aO ?aR (fun _ _ h => h) (fun _ h => h.elim) ?aF (Below.refl _ _) ?aS ?aL ?_
     (case aR => exact pC ((by repeat (first | (with_reducible exact HRq10.out) | (with_reducible refine Kd.C_alloc ?_ _) | (with_reducible refine Kd.C_drewN ?_ _) | (with_reducible refine Kd.C_drew ?_) | exact HRq10.out))))
     (case aF => exact (fun k_ hk => Kd.fresh' (Kd.R_lt (pR HOqn.out)) k_ hk))
     (case aO => exact (pR HOq14.out))
     (case aS => exact (yR (w := w) (g := g) (row := none) (pq HK)))
     (case aL => have := LMc50.out; omega)
     intro vq15 w67 ho hb hg hat
     rw [← Nyqy.out] at ho
     replace HI0 := aQ (IsS106.grown (pi_ HI0) hg (IsS106.own_ne HI0.out HOq14.out (by decide))); replace BKql := aQ (ybu (g := gbql) (o := .cells #[.int .i64 0, .slice none 0 0] 28 (0, 0)) (pk BKql.out) hg (Kd.R_ne HOq14.out BKql.out (by decide))); replace BKqo := aQ (ybu (g := gbqo) (o := .cells #[.int .i64 tq0, .slice Ao57 tqd.length co57] 28 (0, 0)) (pk BKqo.out) hg (Kd.R_ne HOq14.out BKqo.out (by decide))); replace HB := aQ (ybo (pbI HB) HL.out hb); replace HK := aQ (KeepBut.trans (pq HK) (KeepBut.of_grown hg g) (Kd.R_base2 HOq14.out)); replace HRqz := aQ ((show Kd.C (Kd.int .i64) w67 Ao57 yq6.length yq6 from by rw [Nyq6.out]; exact Kd.C_take (m := (tq4 : Int).toNat) ((Kd.R_reads' (Kd.R_after (ok := (fun _ => True)) (pR HOqn.out) hg hat)).2.2) KL62.out)); replace HRq10 := aQ ((show Kd.C (Kd.int .i64) w67 A63 yq8.length yq8 from by rw [Nyq8.out, KA63.out]; exact Kd.C_drop (m := ((ji47) : Int).toNat) (c := co57) ((Kd.R_reads' (Kd.R_after (ok := (fun _ => True)) (pR HOqn.out) hg hat)).2.2) KL63.out ((Kd.R_reads' (Kd.R_after (ok := (fun _ => True)) (pR HOqn.out) hg hat)).2.1))); replace HOqn := aQ (Kd.R_after (ok := (fun _ => True)) (pR HOqn.out) hg hat); have HOq16 := aQ (ho); clear HOq14
     clear ho hb hg hat
     obtain ⟨Ao68, co68, eo68⟩ := Kd.R_slice HOq16.out
     (first | subst eo68 | (injection eo68 with f1_ f2_ f3_; have f4_ := f1_.symm; have f5_ := f3_.symm; clear f1_ f2_ f3_; subst f4_; subst f5_))
     refine hK.out _ _ ⟨(ya BKqo.out 0).trans rfl, (ya BKqo.out 1).trans rfl⟩ (fun hHeld => ?_)
     clear hK K
     refine noN (some 49) (h := ?_)
     refine pJ 12 (some 50) HT_ #[true, true, true, true, true, true, true, true, true, true, true, true, true, false] ?_
     refine yhn (i := 13) (N := none) #[true, true, true, true, true, true, true, true, true, true, true, true, true, true] rfl rfl (ybP HT_.out (by kernel_rfl)) (by decide) (fun K hK => ?_)
     have hs69 : w67.cell? ⟨gbqo, 1, none⟩ = some (.slice Ao57 tqd.length co57) := (ya BKqo.out 1).trans rfl
     have hfs69 := yl BKqo.out 1
     have hns69_0 := NBql_qo.out
     have hms69_0 := NBqo_ql.out
     refine ybU (w1 := ?_) (by rfl) rfl ?_ ?_
     rotate_left
     ·go_simp
      rfl
     refine hK.out _ _ ?_
     clear hK K
     refine ybs (yaZ HT_.out (by kernel_rfl)) ?_
     obtain ⟨hcz70_0, hcz70_1, hfz70_0, hfz70_1⟩ := c2 BKqo
     have hnb71 := NBql_0.out
     have hnc71 := NB0_ql.out
     obtain ⟨hcz72_0, hcz72_1, hfz72_0, hfz72_1⟩ := c2 BKql
     try go_wp2
     refine bodyPost_ret (results_cell_row rfl _ _ gbql 28 #[.int .i64 tq0, .slice Ao68 yqy.length co68] (0, 0) _ rfl (by refine pkx ?_; refine yh (cs := #[.int .i64 tq0, .slice none 0 0]) ?_ 1 _ rfl; refine pkx ?_; refine yh (cs := #[.int .i64 0, .slice none 0 0]) ?_ 0 _ rfl; refine pkx ?_; refine yj ?_ NBql_qo.out _; refine pkx ?_; exact BKql.out) Try.underlying28 rfl (by kernel_rfl)) rfl ?_
     exact ⟨_, by first | rfl | (simp [errW_none, yi] <;> rfl) | (simp only [← hji47]; first | rfl | (simp [errW_none, yi] <;> rfl)) | (simp [*, errW_none, yi] <;> rfl), by refine pRx ?_; exact Kd.R_mono (Kd.R_far (p := ⟨gbql, 1, none⟩) (Kd.R_far (p := ⟨gbql, 0, none⟩) (Kd.R_far (p := ⟨gbqo, 1, none⟩) (Kd.R_types (Kd.R_types HOq16.out BKqo.out (by decide)) BKql.out (by decide)) (fun _ hk => hk.1.2) (.slice Ao68 yqy.length co68)) (fun _ hk => hk.2) (.int .i64 tq0)) (fun _ hk => hk.2) (.slice Ao68 yqy.length co68)) (fun _ hk => trivial), pi_ HI0, pbI HB, pq HK⟩
    ·rw [if_neg c42] at H
     have c42b0 := decide_eq_false c42
     have c42b1 : decide (1 < tqd.length) = false := decide_eq_false (by omega)
     clear c42
     simp only [Option.some.injEq, Prod.mk.injEq] at H
     obtain ⟨rfl, rfl, rfl, rfl⟩ := H
     go_enter Try.func130, Try.ntmps130
     go_wp2_with (first | ((with_reducible refine yb (N := 4) rfl ?_); refine bx 4 #[.int .i64 0, .slice none 0 0] 28 ?_; intro gbql hg w73 hbox hb; replace HB := bsI HB hb; have BKql := aQ (hbox); have GWql := gw HK hg; have GEql := ge HK HW0 hg; replace HK := kt HK hb; have NB0_ql := nI HI0 hg; have NBql_0 := mI HI0 hg; replace HI0 := bI HI0 hb; clear hb hbox hg) | (refine gq 129 (some 9) Try.func129 #[.pointer (some ⟨g, 0, none⟩), .int .i64 a1] ?_; (with_reducible refine (yaK.calls k g s0_0 s0_1 s0_2 a1 tq0 tqd tqe tqf w0 _ ?side1 ?side2 A3.out).mono ?_); (case side1 => exact pi_ HI0); (case side2 => exact pbI HB); rintro e w74 ⟨vqm, rfl, ho0, hi, hb, hk⟩; refine ⟨_, rfl, ?_⟩; replace BKql := kk BKql hk NBql_0.out; have HOqn := aQ (Kd.R_lower ho0 (yR (w := w) (g := g) (row := none) (pq HK))); replace HK := kh HK hk; replace HB := aQ (hb); replace HI0 := aQ (hi); (try clear hb); (try clear hk); (try clear hi); (try clear ho0)) | ((with_reducible refine yb (N := 5) rfl ?_); refine bx 5 #[.int .i64 0, .slice none 0 0] 28 ?_; intro gbqo hg w75 hbox hb; replace HOqn := aQ (Kd.R_below (pR HOqn.out) hb); replace HB := bsI HB hb; have BKqo := aQ (hbox); have GWqo := gw HK hg; have GEqo := ge HK HW0 hg; replace HK := kt HK hb; have NBql_qo := nl BKql hg; have NBqo_ql := ng BKql hg; replace BKql := bb BKql hb; have NB0_qo := nI HI0 hg; have NBqo_0 := mI HI0 hg; replace HI0 := bI HI0 hb; clear hb hbox hg; have hnb76 := NBqo_ql.out; have hnc76 := NBql_qo.out; have hnb77 := NBqo_0.out; have hnc77 := NB0_qo.out; obtain ⟨hcz78_0, hcz78_1, hfz78_0, hfz78_1⟩ := c2 BKqo; obtain ⟨Ao79, co79, eo79⟩ := Kd.R_slice HOqn.out; subst eo79) | (refine gq 91 (some 11) Try.func91 #[.pointer (some ⟨g, 0, none⟩), .int .i64 10] ?_; (with_reducible refine (yk.calls g s0_0 tqe tqf 10 tq1 tqg tqh w0 _ ?side1 ?side2 A4.out).mono ?_); (case side1 => exact pi_ HI0); (case side2 => exact pbI HB); rintro e w80 ⟨rfl, hi, hb, hk⟩; refine ⟨_, rfl, ?_⟩; replace BKql := aQ (KeepBut.blk hk (g' := gbql) (o := .cells #[.int .i64 0, .slice none 0 0] 28 (0, 0)) (by refine pkx ?_; refine yj ?_ NBql_qo.out _; refine pkx ?_; refine yj ?_ NBql_qo.out _; refine pkx ?_; exact BKql.out) NBql_0.out (by simp)); replace HOqn := aQ (Kd.R_mono (Kd.R_keep (IsS106.apart (show IsS106 w0 _ g s0_0 tqe tqf from pi_ HI0) (by refine pRx ?_; exact (Kd.R_mono (Kd.R_far (p := ⟨gbqo, 1, none⟩) (Kd.R_far (p := ⟨gbqo, 0, none⟩) (Kd.R_types HOqn.out BKqo.out (by decide)) (fun _ hk => hk.2) (.int .i64 tq0)) (fun _ hk => hk.2) (.slice Ao79 tqd.length co79)) (fun _ h_ => h_.1))) (by decide)) hk (fun _ h => h.2)) (fun _ h => h.1)); replace BKqo := aQ (KeepBut.blk hk (g' := gbqo) (o := .cells #[.int .i64 tq0, .slice Ao79 tqd.length co79] 28 (0, 0)) (by refine pkx ?_; refine yh (cs := #[.int .i64 tq0, .slice none 0 0]) ?_ 1 _ rfl; refine pkx ?_; refine yh (cs := #[.int .i64 0, .slice none 0 0]) ?_ 0 _ rfl; refine pkx ?_; exact BKqo.out) NBqo_0.out (by simp)); replace HK := kh HK hk; replace HB := aQ (hb); replace HI0 := aQ (hi); (try clear hb); (try clear hk); (try clear hi); obtain ⟨hcz81_0, hcz81_1, hfz81_0, hfz81_1⟩ := c2 BKqo; have hnb82 := NBql_0.out; have hnc82 := NB0_ql.out; obtain ⟨hcz83_0, hcz83_1, hfz83_0, hfz83_1⟩ := c2 BKql))
     refine bodyPost_ret (results_cell_row rfl _ _ gbql 28 #[.int .i64 tq0, .slice Ao79 tqd.length co79] (0, 0) _ rfl (by refine pkx ?_; refine yh (cs := #[.int .i64 tq0, .slice none 0 0]) ?_ 1 _ rfl; refine pkx ?_; refine yh (cs := #[.int .i64 0, .slice none 0 0]) ?_ 0 _ rfl; refine pkx ?_; exact BKql.out) Try.underlying28 rfl (by kernel_rfl)) rfl ?_
     exact ⟨_, by first | rfl | (simp [errW_none, yi] <;> rfl) | (simp [*, errW_none, yi] <;> rfl), by refine pRx ?_; exact rf HOqn BKql, pi_ HI0, pbI HB, pq HK⟩
   ·rw [if_neg c41] at H
    have c41b0 : (tq1 == 2) = false := beq_eq_false_iff_ne.mpr c41
    have c41b1 : (tq1 != 2) = true := bne_iff_ne.mpr c41
    by_cases c84 : tq1 = 3
    ·rw [if_pos c84] at H
     have c84b0 : (tq1 == 3) = true := beq_iff_eq.mpr c84
     have c84b1 : (tq1 != 3) = false := bne_eq_false_iff_eq.mpr c84
     clear c84
     replace H := bo H; obtain ⟨tq9, A85, H⟩ := H
     (try dsimp only at H)
     replace H := bo H; obtain ⟨tqa, A86, H⟩ := H
     (try dsimp only at H)
     replace H := bo H; obtain ⟨⟨tqb, tq17, tq18⟩, A87, H⟩ := H
     (try dsimp only at H)
     replace H := bo H; obtain ⟨tqc, A88, H⟩ := H
     (try dsimp only at H)
     simp only [Option.some.injEq, Prod.mk.injEq] at H
     obtain ⟨rfl, rfl, rfl, rfl⟩ := H
     go_enter Try.func130, Try.ntmps130
     go_wp2_with (first | ((with_reducible refine yb (N := 4) rfl ?_); refine bx 4 #[.int .i64 0, .slice none 0 0] 28 ?_; intro gbql hg w89 hbox hb; replace HB := bsI HB hb; have BKql := aQ (hbox); have GWql := gw HK hg; have GEql := ge HK HW0 hg; replace HK := kt HK hb; have NB0_ql := nI HI0 hg; have NBql_0 := mI HI0 hg; replace HI0 := bI HI0 hb; clear hb hbox hg) | (refine gq 129 (some 9) Try.func129 #[.pointer (some ⟨g, 0, none⟩), .int .i64 a1] ?_; (with_reducible refine (yaK.calls k g s0_0 s0_1 s0_2 a1 tq0 tqd tqe tqf w0 _ ?side1 ?side2 A3.out).mono ?_); (case side1 => exact pi_ HI0); (case side2 => exact pbI HB); rintro e w90 ⟨vqm, rfl, ho0, hi, hb, hk⟩; refine ⟨_, rfl, ?_⟩; replace BKql := kk BKql hk NBql_0.out; have HOqn := aQ (Kd.R_lower ho0 (yR (w := w) (g := g) (row := none) (pq HK))); replace HK := kh HK hk; replace HB := aQ (hb); replace HI0 := aQ (hi); (try clear hb); (try clear hk); (try clear hi); (try clear ho0)) | ((with_reducible refine yb (N := 5) rfl ?_); refine bx 5 #[.int .i64 0, .slice none 0 0] 28 ?_; intro gbqo hg w91 hbox hb; replace HOqn := aQ (Kd.R_below (pR HOqn.out) hb); replace HB := bsI HB hb; have BKqo := aQ (hbox); have GWqo := gw HK hg; have GEqo := ge HK HW0 hg; replace HK := kt HK hb; have NBql_qo := nl BKql hg; have NBqo_ql := ng BKql hg; replace BKql := bb BKql hb; have NB0_qo := nI HI0 hg; have NBqo_0 := mI HI0 hg; replace HI0 := bI HI0 hb; clear hb hbox hg; have hnb92 := NBqo_ql.out; have hnc92 := NBql_qo.out; have hnb93 := NBqo_0.out; have hnc93 := NB0_qo.out; obtain ⟨hcz94_0, hcz94_1, hfz94_0, hfz94_1⟩ := c2 BKqo; obtain ⟨Ao95, co95, eo95⟩ := Kd.R_slice HOqn.out; subst eo95) | (refine gq 91 (some 11) Try.func91 #[.pointer (some ⟨g, 0, none⟩), .int .i64 10] ?_; (with_reducible refine (yk.calls g s0_0 tqe tqf 10 tq1 tqg tqh w0 _ ?side1 ?side2 A4.out).mono ?_); (case side1 => exact pi_ HI0); (case side2 => exact pbI HB); rintro e w96 ⟨rfl, hi, hb, hk⟩; refine ⟨_, rfl, ?_⟩; replace BKql := aQ (KeepBut.blk hk (g' := gbql) (o := .cells #[.int .i64 0, .slice none 0 0] 28 (0, 0)) (by refine pkx ?_; refine yj ?_ NBql_qo.out _; refine pkx ?_; refine yj ?_ NBql_qo.out _; refine pkx ?_; exact BKql.out) NBql_0.out (by simp)); replace HOqn := aQ (Kd.R_mono (Kd.R_keep (IsS106.apart (show IsS106 w0 _ g s0_0 tqe tqf from pi_ HI0) (by refine pRx ?_; exact (Kd.R_mono (Kd.R_far (p := ⟨gbqo, 1, none⟩) (Kd.R_far (p := ⟨gbqo, 0, none⟩) (Kd.R_types HOqn.out BKqo.out (by decide)) (fun _ hk => hk.2) (.int .i64 tq0)) (fun _ hk => hk.2) (.slice Ao95 tqd.length co95)) (fun _ h_ => h_.1))) (by decide)) hk (fun _ h => h.2)) (fun _ h => h.1)); replace BKqo := aQ (KeepBut.blk hk (g' := gbqo) (o := .cells #[.int .i64 tq0, .slice Ao95 tqd.length co95] 28 (0, 0)) (by refine pkx ?_; refine yh (cs := #[.int .i64 tq0, .slice none 0 0]) ?_ 1 _ rfl; refine pkx ?_; refine yh (cs := #[.int .i64 0, .slice none 0 0]) ?_ 0 _ rfl; refine pkx ?_; exact BKqo.out) NBqo_0.out (by simp)); replace HK := kh HK hk; replace HB := aQ (hb); replace HI0 := aQ (hi); (try clear hb); (try clear hk); (try clear hi); obtain ⟨hcz97_0, hcz97_1, hfz97_0, hfz97_1⟩ := c2 BKqo) | (refine gq 168 (some 56) Try.func168 #[.int .i64 tq0, .int .i64 8] ?_; (with_reducible refine (ycl.calls tq0 8 tq9 _ A85.out).mono ?_); rintro e w' ⟨rfl, ⟨nd, rfl⟩⟩; refine ⟨_, rfl, ?_⟩; (try (rw [ya1 w96]; generalize hq_ : World.drewN w96 _ = w96; have n0_ : Aside0 (Kd.R (Kd.int .i64) 3 w96 w.heap.size (fun _ => True) (.slice Ao95 tqd.length co95) tqd) := ⟨by rw [← hq_]; exact (pR HOqn.out)⟩; have n1_ : Aside0 (w96.heap[gbql]? = some (.cells #[.int .i64 0, .slice none 0 0] 28 (0, 0))) := ⟨by rw [← hq_]; exact (pk BKql.out)⟩; have n2_ : Aside0 (w96.heap[gbqo]? = some (.cells #[.int .i64 tq0, .slice Ao95 tqd.length co95] 28 (0, 0))) := ⟨by rw [← hq_]; exact (pk BKqo.out)⟩; have n3_ : Aside0 (IsS106 w0 w96 g s0_0 tqg tqh) := ⟨by rw [← hq_]; exact (pi_ HI0)⟩; have n4_ : Aside0 (KeepBut w w96 g none) := ⟨by rw [← hq_]; exact (pq HK)⟩; have n5_ : Aside0 (Below w0.heap.size w0 w96) := ⟨by rw [← hq_]; exact (pbI HB)⟩; clear HOqn BKql BKqo HI0 HK HB hq_; have HOqn := n0_; have BKql := n1_; have BKqo := n2_; have HI0 := n3_; have HK := n4_; have HB := n5_; clear n0_ n1_ n2_ n3_ n4_ n5_))) | (refine gq 138 (some 57) Try.func138 #[.int .i64 0, .int .i64 tq9] ?_; (with_reducible refine (ybD.calls 0 tq9 tqa _ A86.out).mono ?_); rintro e w' ⟨rfl, ⟨nd, rfl⟩⟩; refine ⟨_, rfl, ?_⟩; (try (rw [ya1 w96]; generalize hq_ : World.drewN w96 _ = w96; have n0_ : Aside0 (Kd.R (Kd.int .i64) 3 w96 w.heap.size (fun _ => True) (.slice Ao95 tqd.length co95) tqd) := ⟨by rw [← hq_]; exact (pR HOqn.out)⟩; have n1_ : Aside0 (w96.heap[gbql]? = some (.cells #[.int .i64 0, .slice none 0 0] 28 (0, 0))) := ⟨by rw [← hq_]; exact (pk BKql.out)⟩; have n2_ : Aside0 (w96.heap[gbqo]? = some (.cells #[.int .i64 tq0, .slice Ao95 tqd.length co95] 28 (0, 0))) := ⟨by rw [← hq_]; exact (pk BKqo.out)⟩; have n3_ : Aside0 (IsS106 w0 w96 g s0_0 tqg tqh) := ⟨by rw [← hq_]; exact (pi_ HI0)⟩; have n4_ : Aside0 (KeepBut w w96 g none) := ⟨by rw [← hq_]; exact (pq HK)⟩; have n5_ : Aside0 (Below w0.heap.size w0 w96) := ⟨by rw [← hq_]; exact (pbI HB)⟩; clear HOqn BKql BKqo HI0 HK HB hq_; have HOqn := n0_; have BKql := n1_; have BKqo := n2_; have HI0 := n3_; have HK := n4_; have HB := n5_; clear n0_ n1_ n2_ n3_ n4_ n5_))) | (refine gq 167 (some 58) Try.func167 #[.pointer (some ⟨g, 0, none⟩), .int .i64 tqa] ?_; (with_reducible refine (yau.calls k g s0_0 tqg tqh tqa tqb tq17 tq18 w0 _ ?side1 ?side2 A87.out).mono ?_); (case side1 => exact pi_ HI0); (case side2 => exact pbI HB); rintro e w98 ⟨vq19, rfl, ho0, hi, hb, hk⟩; refine ⟨_, rfl, ?_⟩; replace BKql := kk BKql hk NBql_0.out; replace BKqo := kk BKqo hk NBqo_0.out; have HOq1a := aQ (Kd.R_lower (Kd.R_new' ho0 (Kd.R_lt (pR HOqn.out))) (yR (w := w) (g := g) (row := none) (pq HK))); replace HOqn := aQ (Kd.R_mono (Kd.R_told (Kd.R_oldK (IsS106.apart (show IsS106 w0 _ g s0_0 tqg tqh from pi_ HI0) (pR HOqn.out) (by decide)) hk) (Kd.R_base ho0)) (fun _ h_ => h_.1)); replace HK := kh HK hk; replace HB := aQ (hb); replace HI0 := aQ (hi); (try clear hb); (try clear hk); (try clear hi); (try clear ho0); obtain ⟨Ao99, co99, eo99⟩ := Kd.R_slice HOq1a.out; subst eo99) | (refine gq 143 (some 59) Try.func143 #[.slice Ao99 tqb.length co99] ?_; (with_reducible refine (yf.calls k _ _ tqb tqc _ ?side1 ?side2 A88.out).mono ?_); (case side1 => exact pC ((Kd.R_reads' HOq1a.out).2.2)); (case side2 => exact (Kd.R_reads' HOq1a.out).2.1); rintro e w100 ⟨vq1b, rfl, ho0, hb⟩; refine ⟨_, rfl, ?_⟩; have HOq1c := aQ (Kd.R_lower (Kd.R_new' (Kd.R_new' ho0 (Kd.R_lt (pR HOqn.out))) (Kd.R_lt (pR HOq1a.out))) (yR (w := w) (g := g) (row := none) (pq HK))); replace HOqn := aQ (Kd.R_elder' (pR HOqn.out) (Kd.R_base ho0) hb); replace HOq1a := aQ (Kd.R_elder' (pR HOq1a.out) (Kd.R_base ho0) hb); replace BKql := bb BKql hb; replace BKqo := bb BKqo hb; replace HK := kt HK hb; replace HB := bsI HB hb; replace HI0 := bI HI0 hb; (try clear hb); (try clear ho0); obtain ⟨Ao101, co101, eo101⟩ := Kd.R_slice HOq1c.out; subst eo101; obtain ⟨hcz102_0, hcz102_1, hfz102_0, hfz102_1⟩ := c2 BKqo; have hnb103 := NBql_0.out; have hnc103 := NB0_ql.out; obtain ⟨hcz104_0, hcz104_1, hfz104_0, hfz104_1⟩ := c2 BKql))
     refine bodyPost_ret (results_cell_row rfl _ _ gbql 28 #[.int .i64 tq0, .slice Ao101 tqc.length co101] (0, 0) _ rfl (by refine pkx ?_; refine yh (cs := #[.int .i64 tq0, .slice none 0 0]) ?_ 1 _ rfl; refine pkx ?_; refine yh (cs := #[.int .i64 0, .slice none 0 0]) ?_ 0 _ rfl; refine pkx ?_; refine yj ?_ NBql_qo.out _; refine pkx ?_; exact BKql.out) Try.underlying28 rfl (by kernel_rfl)) rfl ?_
     exact ⟨_, by first | rfl | (simp [errW_none, yi] <;> rfl) | (simp [*, errW_none, yi] <;> rfl), by refine pRx ?_; exact Kd.R_mono (Kd.R_far (p := ⟨gbql, 1, none⟩) (Kd.R_far (p := ⟨gbql, 0, none⟩) (Kd.R_far (p := ⟨gbqo, 1, none⟩) (Kd.R_types (Kd.R_types HOq1c.out BKqo.out (by decide)) BKql.out (by decide)) (fun _ hk => hk.1.2) (.slice Ao101 tqc.length co101)) (fun _ hk => hk.2) (.int .i64 tq0)) (fun _ hk => hk.2) (.slice Ao101 tqc.length co101)) (fun _ hk => trivial), pi_ HI0, pbI HB, pq HK⟩
    ·rw [if_neg c84] at H
     have c84b0 : (tq1 == 3) = false := beq_eq_false_iff_ne.mpr c84
     have c84b1 : (tq1 != 3) = true := bne_iff_ne.mpr c84
     simp only [Option.some.injEq, Prod.mk.injEq] at H
     obtain ⟨rfl, rfl, rfl, rfl⟩ := H
     go_enter Try.func130, Try.ntmps130
     go_wp2_with (first | ((with_reducible refine yb (N := 4) rfl ?_); refine bx 4 #[.int .i64 0, .slice none 0 0] 28 ?_; intro gbql hg w105 hbox hb; replace HB := bsI HB hb; have BKql := aQ (hbox); have GWql := gw HK hg; have GEql := ge HK HW0 hg; replace HK := kt HK hb; have NB0_ql := nI HI0 hg; have NBql_0 := mI HI0 hg; replace HI0 := bI HI0 hb; clear hb hbox hg) | (refine gq 129 (some 9) Try.func129 #[.pointer (some ⟨g, 0, none⟩), .int .i64 a1] ?_; (with_reducible refine (yaK.calls k g s0_0 s0_1 s0_2 a1 tq0 tqd tqe tqf w0 _ ?side1 ?side2 A3.out).mono ?_); (case side1 => exact pi_ HI0); (case side2 => exact pbI HB); rintro e w106 ⟨vqm, rfl, ho0, hi, hb, hk⟩; refine ⟨_, rfl, ?_⟩; replace BKql := kk BKql hk NBql_0.out; have HOqn := aQ (Kd.R_lower ho0 (yR (w := w) (g := g) (row := none) (pq HK))); replace HK := kh HK hk; replace HB := aQ (hb); replace HI0 := aQ (hi); (try clear hb); (try clear hk); (try clear hi); (try clear ho0)) | ((with_reducible refine yb (N := 5) rfl ?_); refine bx 5 #[.int .i64 0, .slice none 0 0] 28 ?_; intro gbqo hg w107 hbox hb; replace HOqn := aQ (Kd.R_below (pR HOqn.out) hb); replace HB := bsI HB hb; have BKqo := aQ (hbox); have GWqo := gw HK hg; have GEqo := ge HK HW0 hg; replace HK := kt HK hb; have NBql_qo := nl BKql hg; have NBqo_ql := ng BKql hg; replace BKql := bb BKql hb; have NB0_qo := nI HI0 hg; have NBqo_0 := mI HI0 hg; replace HI0 := bI HI0 hb; clear hb hbox hg; have hnb108 := NBqo_ql.out; have hnc108 := NBql_qo.out; have hnb109 := NBqo_0.out; have hnc109 := NB0_qo.out; obtain ⟨hcz110_0, hcz110_1, hfz110_0, hfz110_1⟩ := c2 BKqo; obtain ⟨Ao111, co111, eo111⟩ := Kd.R_slice HOqn.out; subst eo111) | (refine gq 91 (some 11) Try.func91 #[.pointer (some ⟨g, 0, none⟩), .int .i64 10] ?_; (with_reducible refine (yk.calls g s0_0 tqe tqf 10 tq1 tqg tqh w0 _ ?side1 ?side2 A4.out).mono ?_); (case side1 => exact pi_ HI0); (case side2 => exact pbI HB); rintro e w112 ⟨rfl, hi, hb, hk⟩; refine ⟨_, rfl, ?_⟩; replace BKql := aQ (KeepBut.blk hk (g' := gbql) (o := .cells #[.int .i64 0, .slice none 0 0] 28 (0, 0)) (by refine pkx ?_; refine yj ?_ NBql_qo.out _; refine pkx ?_; refine yj ?_ NBql_qo.out _; refine pkx ?_; exact BKql.out) NBql_0.out (by simp)); replace HOqn := aQ (Kd.R_mono (Kd.R_keep (IsS106.apart (show IsS106 w0 _ g s0_0 tqe tqf from pi_ HI0) (by refine pRx ?_; exact (Kd.R_mono (Kd.R_far (p := ⟨gbqo, 1, none⟩) (Kd.R_far (p := ⟨gbqo, 0, none⟩) (Kd.R_types HOqn.out BKqo.out (by decide)) (fun _ hk => hk.2) (.int .i64 tq0)) (fun _ hk => hk.2) (.slice Ao111 tqd.length co111)) (fun _ h_ => h_.1))) (by decide)) hk (fun _ h => h.2)) (fun _ h => h.1)); replace BKqo := aQ (KeepBut.blk hk (g' := gbqo) (o := .cells #[.int .i64 tq0, .slice Ao111 tqd.length co111] 28 (0, 0)) (by refine pkx ?_; refine yh (cs := #[.int .i64 tq0, .slice none 0 0]) ?_ 1 _ rfl; refine pkx ?_; refine yh (cs := #[.int .i64 0, .slice none 0 0]) ?_ 0 _ rfl; refine pkx ?_; exact BKqo.out) NBqo_0.out (by simp)); replace HK := kh HK hk; replace HB := aQ (hb); replace HI0 := aQ (hi); (try clear hb); (try clear hk); (try clear hi); obtain ⟨hcz113_0, hcz113_1, hfz113_0, hfz113_1⟩ := c2 BKqo; have hnb114 := NBql_0.out; have hnc114 := NB0_ql.out; obtain ⟨hcz115_0, hcz115_1, hfz115_0, hfz115_1⟩ := c2 BKql))
     refine bodyPost_ret (results_cell_row rfl _ _ gbql 28 #[.int .i64 tq0, .slice Ao111 tqd.length co111] (0, 0) _ rfl (by refine pkx ?_; refine yh (cs := #[.int .i64 tq0, .slice none 0 0]) ?_ 1 _ rfl; refine pkx ?_; refine yh (cs := #[.int .i64 0, .slice none 0 0]) ?_ 0 _ rfl; refine pkx ?_; exact BKql.out) Try.underlying28 rfl (by kernel_rfl)) rfl ?_
     exact ⟨_, by first | rfl | (simp [errW_none, yi] <;> rfl) | (simp [*, errW_none, yi] <;> rfl), by refine pRx ?_; exact rf HOqn BKql, pi_ HI0, pbI HB, pq HK⟩
def yaC.l0 : Nat → List Int → Int → Int → Int → Option (Int)
 | 0, _, _, _, _ => none
 | k + 1, x0, x1, x5, x6 => if x6 < (x0.length : Int) then ((yU.f x1 x6).bind fun tq0 => (if tq0 = true then (if 0 ≤ x6 then (if 0 ≤ (IntKind.u64.wrap (rd x0 x6)) then (yaC.l0 k x0 x1 (Go.bits .or .i64 x5 (shl .i64 1 (IntKind.u64.wrap (rd x0 x6)))) (wrap64 (x6 + 1))) else (none)) else (none)) else (yaC.l0 k x0 x1 x5 (wrap64 (x6 + 1))))) else (some x5)
def yaC.f (k : Nat) (l0 : List Int) (a1 : Int) : Option (Int) := yaC.l0 k l0 a1 0 0
theorem yaC.calls (k : Nat) (A0 : Option Addr) (c0 : Nat) (l0 : List Int) (a1 : Int) (r : Int) (w : World) (hr0 : Kd.C (Kd.int .i64) w A0 l0.length l0) (hc0 : l0.length ≤ c0) (h : yaC.f k l0 a1 = some r) :
  Calls Try.prog 145 #[.slice A0 l0.length c0, .int .i64 a1] w fun e w' => e = .returned (.int .i64 r) ∧ Drawn0 w w' := by
 have HR0 := aQ hr0
 have HC0 := aQ hc0
 clear hr0 hc0
 have H : (yaC.l0 k l0 a1 0 0) = some r := h
 clear h
 have H' := aQ H
 clear H
 go_enter Try.func145, Try.ntmps145
 go_wp2
 go_loopg [5, 6] k (fun kq v5 v6 w' => ∃ (x5_1 : Int) (x6_1 : Int), v5 = .int .i64 x5_1 ∧ v6 = .int .i64 x6_1 ∧ Aside0 (yaC.l0 kq l0 a1 x5_1 x6_1 = some r) ∧ Aside0 (kq ≤ k) ∧ Drawn0 w w')
 case atStart => exact ⟨(0), (0), rs_, rs_, H', ⟨Nat.le_refl _⟩, rd_⟩
 clear H'
 try clear c1
 try clear p2
 obtain ⟨x5_1, x6_1, rfl, rfl, HA, HK1, ⟨m1, rfl⟩⟩ := hrel
 rcases gk with _ | k1
 ·exact absurd HA.out (by simp [yaC.l0])
 have H := HA.out
 clear HA
 simp only [yaC.l0] at H
 by_cases c3 : x6_1 < (l0.length : Int)
 ·rw [if_pos c3] at H
  have c3b0 := decide_eq_true c3
  clear c3
  replace H := bo H; obtain ⟨tq0, A4, H⟩ := H
  (try dsimp only at H)
  by_cases c5 : tq0 = true
  ·subst c5
   rw [if_pos rfl] at H
   replace H := gd H; obtain ⟨c6, H⟩ := H
   have c6b0 := decide_eq_true c6
   clear c6
   obtain ⟨ji7, hji7⟩ : ∃ j_ : Int, (IntKind.u64.wrap (rd l0 x6_1)) = j_ := ⟨_, rfl⟩
   replace H : (if 0 ≤ (ji7) then (yaC.l0 k1 l0 a1 (Go.bits .or .i64 x5_1 (shl .i64 1 (ji7))) (wrap64 (x6_1 + 1))) else (none)) = some r := by first | (rw [hji7] at H; exact H) | (simp only [hji7] at H ⊢; exact H)
   (try rw [hji7] at A4)
   replace H := gd H; obtain ⟨c8, H⟩ := H
   have c8b0 := eq_true c8
   have c8b1 := decide_eq_true c8
   clear c8
   obtain ⟨ji9, hji9⟩ : ∃ j_ : Int, (shl .i64 1 (ji7)) = j_ := ⟨_, rfl⟩
   replace H : (yaC.l0 k1 l0 a1 (Go.bits .or .i64 x5_1 (ji9)) (wrap64 (x6_1 + 1))) = some r := by first | (rw [hji9] at H; exact H) | (simp only [hji9] at H ⊢; exact H)
   (try rw [hji9] at A4)
   have hji9_ : (IntKind.i64.wrap (1 * 2 ^ min (ji7).toNat 64)) = ji9 := hji9
   have hji9z : (ji7) ≤ 64 → (IntKind.i64.wrap (1 * 2 ^ (ji7).toNat)) = ji9 := ybA hji9
   have hji9u : (IntKind.i64.wrap (2 ^ min (ji7).toNat 64)) = ji9 := by have h_ := hji9_; rw [Int.one_mul] at h_; exact h_
   have hji9v : (ji7) ≤ 64 → (IntKind.i64.wrap (2 ^ (ji7).toNat)) = ji9 := fun hle_ => by have h_ := hji9z hle_; rw [Int.one_mul] at h_; exact h_
   have hji9y : (wrap64 (1 * 2 ^ min (ji7).toNat 64)) = ji9 := (i64_w _).symm.trans hji9_
   have hji9x : (ji7) ≤ 64 → (wrap64 (1 * 2 ^ (ji7).toNat)) = ji9 := fun h_ => (i64_w _).symm.trans (hji9z h_)
   have H' := aQ H
   clear H
   go_wp2_with (first | (refine gq 69 (some 15) Try.func69 #[.int .i64 a1, .int .i64 x6_1] ?_; (with_reducible refine (yU.calls a1 x6_1 true _ A4.out).mono ?_); rintro e w' ⟨rfl, ⟨nd, rfl⟩⟩; refine ⟨_, rfl, ?_⟩; have pq1 : 0 ≤ (x6_1 : Int) := of_decide_eq_true as_; have qq1 : x6_1 < (l0.length : Int) := of_decide_eq_true as_; obtain ⟨adq1, eq1, hxq1_0⟩ := Kd.at_int HR0.out x6_1 pq1 qq1; cases eq1; replace pq1 := eq_true pq1; replace qq1 := eq_true qq1))
   go_roundg k1
   case measure => have := HK1.out; omega
   case rel => exact ⟨(Go.bits .or .i64 x5_1 (ji9)), (wrap64 (x6_1 + 1)), (by first | rfl | (simp; done) | (simp only [← hji9] <;> (first | rfl | simp)) | (simp [*]; done)), rs_, H', ⟨by have := HK1.out; omega⟩, rd_⟩
  ·replace c5 := Bool.eq_false_iff.mpr c5
   subst c5
   have H1 : (yaC.l0 k1 l0 a1 x5_1 (wrap64 (x6_1 + 1))) = some r := by rw [if_neg (show ¬ (false = true) by decide)] at H; exact H
   clear H
   have H := H1
   clear H1
   have H' := aQ H
   clear H
   go_wp2_with (first | (refine gq 69 (some 15) Try.func69 #[.int .i64 a1, .int .i64 x6_1] ?_; (with_reducible refine (yU.calls a1 x6_1 false _ A4.out).mono ?_); rintro e w' ⟨rfl, ⟨nd, rfl⟩⟩; refine ⟨_, rfl, ?_⟩))
   go_roundg k1
   case measure => have := HK1.out; omega
   case rel => exact ⟨(x5_1), (wrap64 (x6_1 + 1)), rs_, rs_, H', ⟨by have := HK1.out; omega⟩, rd_⟩
 ·rw [if_neg c3] at H
  have c3b0 := decide_eq_false c3
  clear c3
  obtain rfl := Option.some.inj H
  go_wp2
  go_ret
  exact ⟨rs_, rd_⟩
def yaz.l0 : Nat → List Int → List Int → List Int → Int → Option (List Int)
 | 0, _, _, _, _ => none
 | k + 1, x0, x1, x5, x6 => if x6 < (x1.length : Int) then (if 0 ≤ x6 then ((yaC.f k x0 (rd x1 x6)).bind fun tq0 => (if x5.length < 17592186044416 then (yaz.l0 k x0 x1 (x5 ++ [tq0]) (wrap64 (x6 + 1))) else (none))) else (none)) else ((yf.f k x5).bind fun tq1 => (some tq1))
def yaz.f (k : Nat) (l0 : List Int) (l1 : List Int) : Option (List Int) := yaz.l0 k l0 l1 (([] : List Int)) 0
theorem yaz.calls (k : Nat) (A0 : Option Addr) (c0 : Nat) (l0 : List Int) (A1 : Option Addr) (c1 : Nat) (l1 : List Int) (r : List Int) (w : World) (hr0 : Kd.C (Kd.int .i64) w A0 l0.length l0) (hc0 : l0.length ≤ c0) (hr1 : Kd.C (Kd.int .i64) w A1 l1.length l1) (hc1 : l1.length ≤ c1) (h : yaz.f k l0 l1 = some r) :
  Calls Try.prog 114 #[.slice A0 l0.length c0, .slice A1 l1.length c1] w fun e w' => ∃ v0_ : Value, e = .returned (v0_) ∧ Kd.R (Kd.int .i64) 3 w' w.heap.size (fun _ => True) v0_ r ∧ Below w.heap.size w w' := by
 have HR0 := aQ hr0
 have HC0 := aQ hc0
 clear hr0 hc0
 have HR1 := aQ hr1
 have HC1 := aQ hc1
 clear hr1 hc1
 have HB := aQ (Below.refl w.heap.size w)
 have H : (yaz.l0 k l0 l1 (([] : List Int)) 0) = some r := h
 clear h
 obtain ⟨yq2, hyq2⟩ : ∃ y_ : List Int, y_ = (([] : List Int)) := ⟨_, rfl⟩
 replace H : (yaz.l0 k l0 l1 yq2 0) = some r := by first | (rw [hyq2]; with_reducible exact H) | (rw [hyq2]; exact H)
 have Nyq2 := aQ hyq2
 clear hyq2
 have H' := aQ H
 clear H
 go_enter Try.func114, Try.ntmps114
 go_wp2_with (first | ((with_reducible refine yb (N := 7) rfl ?_); refine Kd.R_lit (Kd.int .i64) _ 3 ?hg (N := 7) ?hd (xs := ([] : List Int)) (inner := []) (ok := fun _ => True) (okp := fun _ => True) ?hr ?hp (fun _ hk => hk) trivial (Below.refl _ _) (Nat.le_refl _) (by simp) ?_; (case hd => rfl); (case hg => rfl); (case hr => first | (go_simp; done) | (go_simp; rfl)); (case hp => exact (Reps.none _ _)); intro vq3 w3 ho4 hb hg_ hnew_; clear hg_ hnew_; (first | rw [← Nyq2.out] at ho4 | (simp only [Int.reduceToNat] at ho4; rw [← Nyq2.out] at ho4)); have HOq4 := aQ (Kd.R_lower ho4 (yc (pB HB.out))); replace HB := bs HB hb; clear hb ho4))
 go_loopg [5, 6] k (fun kq v5 v6 w' => ∃ (x5_1 : List Int) (x6_1 : Int), v6 = .int .i64 x6_1 ∧ Aside0 (yaz.l0 kq l0 l1 x5_1 x6_1 = some r) ∧ Aside0 (kq ≤ k) ∧ Aside0 (Kd.R (Kd.int .i64) 3 w' w.heap.size (fun _ => True) v5 x5_1) ∧ Aside0 (Below w.heap.size w w'))
 case atStart => exact ⟨(yq2), (0), rs_, H', ⟨Nat.le_refl _⟩, ⟨pR HOq4.out⟩, ⟨pB HB.out⟩⟩
 clear H'
 try clear c1
 try clear p2
 obtain ⟨x5_1, x6_1, rfl, HA, HK1, HO_5, HB⟩ := hrel
 rcases gk with _ | k1
 ·exact absurd HA.out (by simp [yaz.l0])
 have H := HA.out
 clear HA
 simp only [yaz.l0] at H
 by_cases c5 : x6_1 < (l1.length : Int)
 ·rw [if_pos c5] at H
  have c5b0 := decide_eq_true c5
  clear c5
  replace H := gd H; obtain ⟨c6, H⟩ := H
  have c6b0 := decide_eq_true c6
  clear c6
  replace H := bo H; obtain ⟨tq0, A7, H⟩ := H
  (try dsimp only at H)
  replace H := gd H; obtain ⟨c8, H⟩ := H
  have LMc8 := aQ c8
  clear c8
  obtain ⟨yq5, hyq5⟩ : ∃ y_ : List Int, y_ = (x5_1 ++ [tq0]) := ⟨_, rfl⟩
  replace H : (yaz.l0 k1 l0 l1 yq5 (wrap64 (x6_1 + 1))) = some r := by first | (rw [hyq5]; with_reducible exact H) | (rw [hyq5]; exact H)
  have Nyq5 := aQ hyq5
  clear hyq5
  have H' := aQ H
  clear H
  have pq6 : 0 ≤ (x6_1 : Int) := of_decide_eq_true as_
  have qq6 : x6_1 < (l1.length : Int) := of_decide_eq_true as_
  obtain ⟨adq6, eq6, hxq6_0⟩ := Kd.at_int HR1.out x6_1 pq6 qq6
  cases eq6
  replace hxq6_0 := (HB.out.cell (World.block_lt_of_cell? w _ hxq6_0)).trans hxq6_0
  replace pq6 := eq_true pq6
  replace qq6 := eq_true qq6
  go_wp2_with (first | (refine gq 145 (some 20) Try.func145 #[.slice A0 l0.length c0, .int .i64 (rd l1 x6_1)] ?_; (with_reducible refine (yaC.calls k1 _ _ l0 (rd l1 x6_1) tq0 _ ?side1 ?side2 A7.out).mono ?_); (case side1 => exact pC (Kd.C_below HR0.out HB.out)); (case side2 => exact HC0.out); rintro e w' ⟨rfl, ⟨nd, rfl⟩⟩; refine ⟨_, rfl, ?_⟩) | ((with_reducible refine yO (b := .append) (xs := #[.tmp 14, .tmp 21]) rfl ?_); at_builtin; refine Kd.R_append (Kd.int .i64) (w0 := w) w.heap.size rfl (.tmp 14) (.tmp 21) 22 3 (.int .i64 0) 8 rfl Try.underlying22 yaU rfl (by decide) (by omega) u5 x5_1 tq0 [.int .i64 tq0] (fun _ => True) (fun _ => False) rfl rfl ?aP (fun _ hk => hk.elim) ?aF ?aO ?aB ?aS ?aL ?_; (case aP => exact rfl); (case aB => exact (pB HB.out)); (case aF => exact (fun _ _ => trivial)); (case aO => exact (pR HO_5.out)); (case aS => exact (yc (pB HB.out))); (case aL => have := LMc8.out; omega); intro vq7 w9 ho hb hg hat; rw [← Nyq5.out] at ho; replace HB := aQ (hb); have HOq8 := aQ (ho); clear HO_5; clear ho hb hg hat))
  go_roundg k1
  case measure => have := HK1.out; omega
  case rel => exact ⟨(yq5), (wrap64 (x6_1 + 1)), rs_, H', ⟨by have := HK1.out; omega⟩, ⟨pR HOq8.out⟩, ⟨pB HB.out⟩⟩
 ·rw [if_neg c5] at H
  have c5b0 := decide_eq_false c5
  clear c5
  replace H := bo H; obtain ⟨tq1, A10, H⟩ := H
  (try dsimp only at H)
  obtain rfl := Option.some.inj H
  obtain ⟨Ao11, co11, eo11⟩ := Kd.R_slice HO_5.out
  subst eo11
  go_wp2_with (first | (refine gq 143 (some 24) Try.func143 #[.slice Ao11 x5_1.length co11] ?_; (with_reducible refine (yf.calls k1 _ _ x5_1 tq1 _ ?side1 ?side2 A10.out).mono ?_); (case side1 => exact pC ((Kd.R_reads' HO_5.out).2.2)); (case side2 => exact (Kd.R_reads' HO_5.out).2.1); rintro e w12 ⟨vq9, rfl, ho0, hb⟩; refine ⟨_, rfl, ?_⟩; have HOqa := aQ (Kd.R_lower (Kd.R_new' ho0 (Kd.R_lt (pR HO_5.out))) (yc (pB HB.out))); replace HO_5 := aQ (Kd.R_elder' (pR HO_5.out) (Kd.R_base ho0) hb); replace HB := bs HB hb; (try clear hb); (try clear ho0)))
  go_ret
  exact ⟨_, by first | rfl | (simp [errW_none, yi] <;> rfl) | (simp [*, errW_none, yi] <;> rfl), by refine pRx ?_; exact Kd.R_mono HOqa.out (fun _ hk => trivial), pB HB.out⟩
mutual
def yI.j0 : Nat → Int → List Int → Bool → Option (Bool)
 | 0, _, _, _ => none
 | k + 1, x0, x1, x14 => if x14 = true then (some false) else (yI.l0 k x0 x1 0 0)
def yI.l0 : Nat → Int → List Int → Int → Int → Option (Bool)
 | 0, _, _, _, _ => none
 | k + 1, x0, x1, x5, x6 => if x6 < x0 then (if 0 ≤ x6 then (if x6 < (x1.length : Int) then ((yaf.f (rd x1 x6) 0 (wrap64 (x0 - 1))).bind fun tq0 => (if tq0 = true then ((yU.f x5 (rd x1 x6)).bind fun tq1 => (if tq1 = true then (some false) else (if 0 ≤ (IntKind.u64.wrap (rd x1 x6)) then (yI.l0 k x0 x1 (Go.bits .or .i64 x5 (shl .i64 1 (IntKind.u64.wrap (rd x1 x6)))) (wrap64 (x6 + 1))) else (none)))) else (some false))) else (none)) else (none)) else (some true)
end
def yI.f (k : Nat) (a0 : Int) (l1 : List Int) : Option (Bool) := if (l1.length : Int) = a0 then (yI.j0 k a0 l1 (decide (a0 > 8))) else (yI.j0 k a0 l1 true)
theorem yI.calls (k : Nat) (a0 : Int) (A1 : Option Addr) (c1 : Nat) (l1 : List Int) (r : Bool) (w : World) (hr1 : Kd.C (Kd.int .i64) w A1 l1.length l1) (hc1 : l1.length ≤ c1) (h : yI.f k a0 l1 = some r) :
  Calls Try.prog 169 #[.int .i64 a0, .slice A1 l1.length c1] w fun e w' => e = .returned (.bool r) ∧ Drawn0 w w' := by
 have HR1 := aQ hr1
 have HC1 := aQ hc1
 clear hr1 hc1
 have H := h
 clear h
 unfold yI.f at H
 (try dsimp only at H)
 have HC3 := aQ H
 clear H
 go_enter Try.func169, Try.ntmps169
 go_upto_region 1 with (fail)
 go_cut [14] (fun v14 wc => ∃ (kq : Nat) (x14_2 : Bool), v14 = .bool x14_2 ∧ Aside0 (yI.j0 kq a0 l1 x14_2 = some r) ∧ Aside0 (kq ≤ k) ∧ Drawn0 w wc)
 case first =>
  have H := HC3.out
  clear HC3
  by_cases c4 : (l1.length : Int) = a0
  ·rw [if_pos c4] at H
   have c4b0 : ((l1.length : Int) == a0) = true := beq_iff_eq.mpr c4
   have c4b1 : ((l1.length : Int) != a0) = false := bne_eq_false_iff_eq.mpr c4
   clear c4
   (first | rw [c4b0] | (simp only [i64_w, ybq]; rw [c4b0]) | skip)
   have H' := aQ H
   clear H
   go_wp2
   go_meet
   case rel => exact ⟨_, (decide (a0 > 8)), rs_, H', ⟨by first | omega | exact Nat.le_refl _⟩, rd_⟩
  ·rw [if_neg c4] at H
   have c4b0 : ((l1.length : Int) == a0) = false := beq_eq_false_iff_ne.mpr c4
   have c4b1 : ((l1.length : Int) != a0) = true := bne_iff_ne.mpr c4
   (first | rw [c4b0] | (simp only [i64_w, ybq]; rw [c4b0]) | skip)
   have H' := aQ H
   clear H
   go_wp2
   go_meet
   case rel => exact ⟨_, (true), rs_, H', ⟨by first | omega | exact Nat.le_refl _⟩, rd_⟩
 case rest =>
  clear HC3
  try clear c1
  try clear p2
  try clear c4
  try clear c4b0
  try clear c4b1
  obtain ⟨kq, x14_2, rfl, HA, HJ2, ⟨mc2, rfl⟩⟩ := hcut
  cases kq with
  | zero => exact absurd HA.out (by simp [yI.j0])
  | succ kj2 =>
   have H := HA.out
   clear HA
   simp only [yI.j0] at H
   by_cases c5 : x14_2 = true
   ·subst c5
    rw [if_pos rfl] at H
    obtain rfl := Option.some.inj H
    go_wp2
    go_ret
    exact ⟨rs_, rd_⟩
   ·replace c5 := Bool.eq_false_iff.mpr c5
    subst c5
    have H1 : (yI.l0 kj2 a0 l1 0 0) = some r := by rw [if_neg (show ¬ (false = true) by decide)] at H; exact H
    clear H
    have H := H1
    clear H1
    have H' := aQ H
    clear H
    go_wp2
    go_loopg [5, 6] kj2 (fun kq v5 v6 w' => ∃ (x5_2 : Int) (x6_2 : Int), v5 = .int .i64 x5_2 ∧ v6 = .int .i64 x6_2 ∧ Aside0 (yI.l0 kq a0 l1 x5_2 x6_2 = some r) ∧ Aside0 (kq ≤ kj2) ∧ Drawn0 w w')
    case atStart => exact ⟨(0), (0), rs_, rs_, H', ⟨Nat.le_refl _⟩, rd_⟩
    clear H'
    try clear c1
    try clear c2
    try clear p2
    try clear c4
    try clear c4b0
    try clear c4b1
    try clear c5
    try clear p2
    obtain ⟨x5_2, x6_2, rfl, rfl, HA, HK2, ⟨m2, rfl⟩⟩ := hrel
    rcases gk with _ | k2
    ·exact absurd HA.out (by simp [yI.l0])
    have H := HA.out
    clear HA
    simp only [yI.l0] at H
    by_cases c6 : x6_2 < a0
    ·rw [if_pos c6] at H
     have c6b0 := decide_eq_true c6
     clear c6
     replace H := gd H; obtain ⟨c7, H⟩ := H
     have c7b0 := decide_eq_true c7
     clear c7
     replace H := gd H; obtain ⟨c8, H⟩ := H
     have c8b0 := decide_eq_true c8
     clear c8
     replace H := bo H; obtain ⟨tq0, A9, H⟩ := H
     (try dsimp only at H)
     by_cases c10 : tq0 = true
     ·subst c10
      rw [if_pos rfl] at H
      replace H := bo H; obtain ⟨tq1, A11, H⟩ := H
      (try dsimp only at H)
      by_cases c12 : tq1 = true
      ·subst c12
       rw [if_pos rfl] at H
       obtain rfl := Option.some.inj H
       have pq2 : 0 ≤ (x6_2 : Int) := of_decide_eq_true as_
       have qq2 : x6_2 < (l1.length : Int) := of_decide_eq_true as_
       obtain ⟨adq2, eq2, hxq2_0⟩ := Kd.at_int HR1.out x6_2 pq2 qq2
       cases eq2
       replace pq2 := eq_true pq2
       replace qq2 := eq_true qq2
       go_wp2_with (first | (refine gq 98 (some 26) Try.func98 #[.int .i64 (rd l1 x6_2), .int .i64 0, .int .i64 (wrap64 (a0 - 1))] ?_; (with_reducible refine (yaf.calls (rd l1 x6_2) 0 (wrap64 (a0 - 1)) true _ A9.out).mono ?_); rintro e w' ⟨rfl, ⟨nd, rfl⟩⟩; refine ⟨_, rfl, ?_⟩; have pq3 : 0 ≤ (x6_2 : Int) := of_decide_eq_true as_; have qq3 : x6_2 < (l1.length : Int) := of_decide_eq_true as_; obtain ⟨adq3, eq3, hxq3_0⟩ := Kd.at_int HR1.out x6_2 pq3 qq3; obtain rfl : adq2 = adq3 := (by injection eq3); replace pq3 := eq_true pq3; replace qq3 := eq_true qq3) | (go_at_call 69; (with_reducible refine (yU.calls x5_2 (rd l1 x6_2) true _ A11.out).mono ?_); rintro e w' ⟨rfl, ⟨nd, rfl⟩⟩))
       go_ret
       exact ⟨rs_, rd_⟩
      ·replace c12 := Bool.eq_false_iff.mpr c12
       subst c12
       have H1 : (if 0 ≤ (IntKind.u64.wrap (rd l1 x6_2)) then (yI.l0 k2 a0 l1 (Go.bits .or .i64 x5_2 (shl .i64 1 (IntKind.u64.wrap (rd l1 x6_2)))) (wrap64 (x6_2 + 1))) else (none)) = some r := by rw [if_neg (show ¬ (false = true) by decide)] at H; exact H
       clear H
       have H := H1
       clear H1
       obtain ⟨ji13, hji13⟩ : ∃ j_ : Int, (IntKind.u64.wrap (rd l1 x6_2)) = j_ := ⟨_, rfl⟩
       replace H : (if 0 ≤ (ji13) then (yI.l0 k2 a0 l1 (Go.bits .or .i64 x5_2 (shl .i64 1 (ji13))) (wrap64 (x6_2 + 1))) else (none)) = some r := by first | (rw [hji13] at H; exact H) | (simp only [hji13] at H ⊢; exact H)
       (try rw [hji13] at A9)
       (try rw [hji13] at A11)
       replace H := gd H; obtain ⟨c14, H⟩ := H
       have c14b0 := eq_true c14
       have c14b1 := decide_eq_true c14
       clear c14
       obtain ⟨ji15, hji15⟩ : ∃ j_ : Int, (shl .i64 1 (ji13)) = j_ := ⟨_, rfl⟩
       replace H : (yI.l0 k2 a0 l1 (Go.bits .or .i64 x5_2 (ji15)) (wrap64 (x6_2 + 1))) = some r := by first | (rw [hji15] at H; exact H) | (simp only [hji15] at H ⊢; exact H)
       (try rw [hji15] at A9)
       (try rw [hji15] at A11)
       have hji15_ : (IntKind.i64.wrap (1 * 2 ^ min (ji13).toNat 64)) = ji15 := hji15
       have hji15z : (ji13) ≤ 64 → (IntKind.i64.wrap (1 * 2 ^ (ji13).toNat)) = ji15 := ybA hji15
       have hji15u : (IntKind.i64.wrap (2 ^ min (ji13).toNat 64)) = ji15 := by have h_ := hji15_; rw [Int.one_mul] at h_; exact h_
       have hji15v : (ji13) ≤ 64 → (IntKind.i64.wrap (2 ^ (ji13).toNat)) = ji15 := fun hle_ => by have h_ := hji15z hle_; rw [Int.one_mul] at h_; exact h_
       have hji15y : (wrap64 (1 * 2 ^ min (ji13).toNat 64)) = ji15 := (i64_w _).symm.trans hji15_
       have hji15x : (ji13) ≤ 64 → (wrap64 (1 * 2 ^ (ji13).toNat)) = ji15 := fun h_ => (i64_w _).symm.trans (hji15z h_)
       have H' := aQ H
       clear H
       have pq2 : 0 ≤ (x6_2 : Int) := of_decide_eq_true as_
       have qq2 : x6_2 < (l1.length : Int) := of_decide_eq_true as_
       obtain ⟨adq2, eq2, hxq2_0⟩ := Kd.at_int HR1.out x6_2 pq2 qq2
       cases eq2
       replace pq2 := eq_true pq2
       replace qq2 := eq_true qq2
       go_wp2_with (first | (refine gq 98 (some 26) Try.func98 #[.int .i64 (rd l1 x6_2), .int .i64 0, .int .i64 (wrap64 (a0 - 1))] ?_; (with_reducible refine (yaf.calls (rd l1 x6_2) 0 (wrap64 (a0 - 1)) true _ A9.out).mono ?_); rintro e w' ⟨rfl, ⟨nd, rfl⟩⟩; refine ⟨_, rfl, ?_⟩; have pq3 : 0 ≤ (x6_2 : Int) := of_decide_eq_true as_; have qq3 : x6_2 < (l1.length : Int) := of_decide_eq_true as_; obtain ⟨adq3, eq3, hxq3_0⟩ := Kd.at_int HR1.out x6_2 pq3 qq3; obtain rfl : adq2 = adq3 := (by injection eq3); replace pq3 := eq_true pq3; replace qq3 := eq_true qq3) | (go_at_call 69; (with_reducible refine (yU.calls x5_2 (rd l1 x6_2) false _ A11.out).mono ?_); rintro e w' ⟨rfl, ⟨nd, rfl⟩⟩; have pq4 : 0 ≤ (x6_2 : Int) := of_decide_eq_true as_; have qq4 : x6_2 < (l1.length : Int) := of_decide_eq_true as_; obtain ⟨adq4, eq4, hxq4_0⟩ := Kd.at_int HR1.out x6_2 pq4 qq4; obtain rfl : adq2 = adq4 := (by injection eq4); replace pq4 := eq_true pq4; replace qq4 := eq_true qq4))
       go_roundg k2
       case measure => have := HJ2.out; have := HK2.out; omega
       case rel => exact ⟨(Go.bits .or .i64 x5_2 (ji15)), (wrap64 (x6_2 + 1)), (by first | rfl | (simp; done) | (simp only [← hji15] <;> (first | rfl | simp)) | (simp [*]; done)), rs_, H', ⟨by have := HJ2.out; have := HK2.out; omega⟩, rd_⟩
     ·replace c10 := Bool.eq_false_iff.mpr c10
      subst c10
      have H1 : (some false) = some r := by rw [if_neg (show ¬ (false = true) by decide)] at H; exact H
      clear H
      have H := H1
      clear H1
      obtain rfl := Option.some.inj H
      have pq2 : 0 ≤ (x6_2 : Int) := of_decide_eq_true as_
      have qq2 : x6_2 < (l1.length : Int) := of_decide_eq_true as_
      obtain ⟨adq2, eq2, hxq2_0⟩ := Kd.at_int HR1.out x6_2 pq2 qq2
      cases eq2
      replace pq2 := eq_true pq2
      replace qq2 := eq_true qq2
      go_wp2_with (first | (refine gq 98 (some 26) Try.func98 #[.int .i64 (rd l1 x6_2), .int .i64 0, .int .i64 (wrap64 (a0 - 1))] ?_; (with_reducible refine (yaf.calls (rd l1 x6_2) 0 (wrap64 (a0 - 1)) false _ A9.out).mono ?_); rintro e w' ⟨rfl, ⟨nd, rfl⟩⟩; refine ⟨_, rfl, ?_⟩))
      go_ret
      exact ⟨rs_, rd_⟩
    ·rw [if_neg c6] at H
     have c6b0 := decide_eq_false c6
     clear c6
     obtain rfl := Option.some.inj H
     go_wp2
     go_ret
     exact ⟨rs_, rd_⟩
def yV.f (k : Nat) (a0_0 : Int) (l0_1 : List Int) (l1 : List Int) : Option (Int × List Int × Bool) := (yM.f k a0_0 l0_1).bind fun tq0 => (if tq0 = true then ((yI.f k a0_0 l1).bind fun tq1 => (if tq1 = true then ((yaz.f k l1 l0_1).bind fun tq2 => (some (a0_0, tq2, true))) else (some (0, ([] : List Int), false)))) else (some (0, ([] : List Int), false)))
def yV.T3 : Bool × List (List Nat × List Nat) := (true, [([], []), ([0], [0]), ([], []), ([], []), ([3], [3]), ([2, 4], [2, 4]), ([1, 5], [1, 5]), ([6, 5, 0, 1, 2, 3, 4, 5, 6], [6]), ([7, 0, 1, 2, 3, 4, 5, 6, 7], [])])
def yV.B3 : List Nat := [0, 1, 0, 0, 8, 28, 63, 127, 255]
theorem yV.tab3 : rtab .any (yco Try.f131 3) = yV.T3 := by kernel_rfl
theorem yV.bits3 : ybf yV.T3.2 yV.B3 = true := by kernel_rfl
theorem yV.calls (k : Nat) (a0_0 : Int) (A0_1 : Option Addr) (c0_1 : Nat) (l0_1 : List Int) (A1 : Option Addr) (c1 : Nat) (l1 : List Int) (r1 : Int) (r2 : List Int) (r3 : Bool) (w : World) (hr0_1 : Kd.C (Kd.int .i64) w A0_1 l0_1.length l0_1) (hc0_1 : l0_1.length ≤ c0_1) (hr1 : Kd.C (Kd.int .i64) w A1 l1.length l1) (hc1 : l1.length ≤ c1) (h : yV.f k a0_0 l0_1 l1 = some (r1, r2, r3)) :
  Calls Try.prog 131 #[.agg #[.int .i64 a0_0, .slice A0_1 l0_1.length c0_1], .slice A1 l1.length c1] w fun e w' => ∃ v1_ : Value, e = .returned (.tuple #[.agg #[.int .i64 r1, v1_], .bool r3]) ∧ Kd.R (Kd.int .i64) 3 w' w.heap.size (fun _ => True) v1_ r2 ∧ Below w.heap.size w w' := by
 have hu28 := Try.underlying28
 have HR0_1 := aQ hr0_1
 have HC0_1 := aQ hc0_1
 clear hr0_1 hc0_1
 have HR1 := aQ hr1
 have HC1 := aQ hc1
 clear hr1 hc1
 have HB := aQ (Below.refl w.heap.size w)
 have H := h
 clear h
 unfold yV.f at H
 (try dsimp only at H)
 replace H := bo H; obtain ⟨tq0, A3, H⟩ := H
 (try dsimp only at H)
 by_cases c4 : tq0 = true
 ·subst c4
  rw [if_pos rfl] at H
  replace H := bo H; obtain ⟨tq1, A5, H⟩ := H
  (try dsimp only at H)
  by_cases c6 : tq1 = true
  ·subst c6
   rw [if_pos rfl] at H
   replace H := bo H; obtain ⟨tq2, A7, H⟩ := H
   (try dsimp only at H)
   simp only [Option.some.injEq, Prod.mk.injEq] at H
   obtain ⟨rfl, rfl, rfl⟩ := H
   go_enter Try.func131, Try.ntmps131
   try go_wp2_with (first | ((with_reducible refine yb (N := 2) rfl ?_); refine bx 2 #[.int .i64 a0_0, .slice A0_1 l0_1.length c0_1] 28 ?_; intro gbq3 hg w8 hbox hb; have BKq3 := aQ (hbox); have GWq3 := gB HB hg; have GEq3 := gB HB hg; replace HB := bs HB hb; clear hb hbox hg) | ((with_reducible refine yb (N := 4) rfl ?_); refine bx 4 #[.int .i64 0, .slice none 0 0] 28 ?_; intro gbq4 hg w9 hbox hb; have BKq4 := aQ (hbox); have GWq4 := gB HB hg; have GEq4 := gB HB hg; replace HB := bs HB hb; have NBq3_q4 := nl BKq3 hg; have NBq4_q3 := ng BKq3 hg; replace BKq3 := bb BKq3 hb; clear hb hbox hg; have hnb10 := NBq3_q4.out; have hnc10 := NBq4_q3.out; obtain ⟨hcz11_0, hcz11_1, hfz11_0, hfz11_1⟩ := c2 BKq3) | (refine gq 52 (some 7) Try.func52 #[.agg #[.int .i64 a0_0, .slice A0_1 l0_1.length c0_1]] ?_; (with_reducible refine (yM.calls k a0_0 _ _ l0_1 true _ ?side1 ?side2 A3.out).mono ?_); (case side1 => exact pC (Kd.C_below HR0_1.out HB.out)); (case side2 => exact HC0_1.out); rintro e w12 ⟨rfl, hb⟩; refine ⟨_, rfl, ?_⟩; replace BKq3 := bb BKq3 hb; replace BKq4 := bb BKq4 hb; replace HB := bs HB hb; (try clear hb); obtain ⟨hcz13_0, hcz13_1, hfz13_0, hfz13_1⟩ := c2 BKq3) | (go_at_call 169; (with_reducible refine (yI.calls k a0_0 _ _ l1 true _ ?side1 ?side2 A5.out).mono ?_); (case side1 => exact pC (Kd.C_below HR1.out HB.out)); (case side2 => exact HC1.out); rintro e w' ⟨rfl, ⟨nd, rfl⟩⟩; (try (rw [ya1 w12]; generalize hq_ : World.drewN w12 _ = w12; have n0_ : Aside0 (w12.heap[gbq3]? = some (.cells #[.int .i64 a0_0, .slice A0_1 l0_1.length c0_1] 28 (0, 0))) := ⟨by rw [← hq_]; exact (pk BKq3.out)⟩; have n1_ : Aside0 (w12.heap[gbq4]? = some (.cells #[.int .i64 0, .slice none 0 0] 28 (0, 0))) := ⟨by rw [← hq_]; exact (pk BKq4.out)⟩; have n2_ : Aside0 (Below w.heap.size w w12) := ⟨by rw [← hq_]; exact (pB2 HB.out GEq3.out GEq4.out)⟩; clear BKq3 BKq4 HB hq_; have BKq3 := n0_; have BKq4 := n1_; have HB := n2_; clear n0_ n1_ n2_))))
   replace BKq3 := aQ (yF BKq3.out); replace BKq4 := aQ (yF BKq4.out); replace HB := aQ (yK HB.out)
   refine ya0 (n := 9) (S := fun w' => w'.cell? ⟨gbq3, 0, none⟩ = some (.int .i64 a0_0) ∧ w'.cell? ⟨gbq3, 1, none⟩ = some (.slice A0_1 l0_1.length c0_1)) (ds := []) _ (by kernel_rfl) rfl rfl ⟨(ya BKq3.out 0).trans rfl, (ya BKq3.out 1).trans rfl⟩ (fun hHeld => ?_); refine yaw yV.tab3 yV.bits3 (fun HT_ HW_ => ?_)
   generalize w12.drew = w14 at BKq3 BKq4 HB hHeld ⊢
   refine pA 0 (some 17) HT_ ?_
   refine pA 2 (some 19) HT_ ?_
   refine pA 3 (some 20) HT_ ?_
   refine tA2 1 (some 18) HT_ HW_ hHeld ?_
   refine tA2 4 (some 21) HT_ HW_ hHeld ?_
   refine onA (i := 5) (N := some 22) HT_ (h := fun K hK => ?_)
   refine gs Try.func114 #[.slice A1 l1.length c1, .slice A0_1 l0_1.length c0_1] ?_
   with_reducible refine (yaz.calls k _ _ l1 _ _ l0_1 tq2 _ ?side1 ?side2 ?side3 ?side4 A7.out).mono ?_
   (case side1 => exact pC (Kd.C_below HR1.out HB.out))
   (case side2 => exact HC1.out)
   (case side3 => exact pC (Kd.C_below HR0_1.out HB.out))
   (case side4 => exact HC0_1.out)
   rintro e w15 ⟨vq5, rfl, ho0, hb⟩
   refine ⟨_, rfl, ?_⟩
   have HOq6 := aQ (Kd.R_lower ho0 (yc (pB2 HB.out GEq3.out GEq4.out))); replace BKq3 := bb BKq3 hb; replace BKq4 := bb BKq4 hb; replace HB := bs HB hb
   (try clear hb)
   (try clear hb2)
   (try clear hk)
   (try clear hi)
   (try clear ho0)
   obtain ⟨Ao16, co16, eo16⟩ := Kd.R_slice HOq6.out
   (first | subst eo16 | (injection eo16 with f1_ f2_ f3_; have f4_ := f1_.symm; have f5_ := f3_.symm; clear f1_ f2_ f3_; subst f4_; subst f5_))
   refine hK.out _ _ ⟨(ya BKq3.out 0).trans rfl, (ya BKq3.out 1).trans rfl⟩ (fun hHeld => ?_)
   clear hK K
   refine noN (some 22) (h := ?_)
   refine pA 6 (some 23) HT_ ?_
   refine onA (i := 7) (N := none) HT_ (h := fun K hK => ?_)
   have hs17 : w15.cell? ⟨gbq4, 0, none⟩ = some (.int .i64 0) := (ya BKq4.out 0).trans rfl
   have hfs17 := yl BKq4.out 0
   have hns17_0 := NBq3_q4.out
   have hms17_0 := NBq4_q3.out
   have hs18 : w15.cell? ⟨gbq4, 1, none⟩ = some (.slice none 0 0) := (ya BKq4.out 1).trans rfl
   have hfs18 := yl BKq4.out 1
   have hns18_0 := NBq3_q4.out
   have hms18_0 := NBq4_q3.out
   refine ybU (w1 := ?_) (by rfl) rfl ?_ ?_
   rotate_left
   ·go_simp
    rfl
   refine hK.out _ _ ⟨((ym (p := ⟨gbq4, _, none⟩) NBq3_q4.out _).trans (((ym (p := ⟨gbq4, _, none⟩) NBq3_q4.out _).trans (hHeld.1)))), ((ym (p := ⟨gbq4, _, none⟩) NBq3_q4.out _).trans (((ym (p := ⟨gbq4, _, none⟩) NBq3_q4.out _).trans (hHeld.2))))⟩ (fun hHeld => ?_)
   clear hK K
   refine pA 8 (some 5) HT_ ?_
   refine ybs (yaZ HT_.out (by kernel_rfl)) ?_
   try go_wp2
   refine bodyPost_ret (ya7 rfl _ _ gbq4 28 #[.int .i64 a0_0, .slice Ao16 tq2.length co16] (0, 0) _ rfl (by refine pkx ?_; refine yh (cs := #[.int .i64 a0_0, .slice none 0 0]) ?_ 1 _ rfl; refine pkx ?_; refine yh (cs := #[.int .i64 0, .slice none 0 0]) ?_ 0 _ rfl; refine pkx ?_; exact BKq4.out) Try.underlying28 rfl (by kernel_rfl)) rfl ?_
   exact ⟨_, by first | rfl | (simp [errW_none, yi] <;> rfl) | (simp [*, errW_none, yi] <;> rfl), by refine pRx ?_; exact rf HOq6 BKq4, pB2 HB.out GEq3.out GEq4.out⟩
  ·replace c6 := Bool.eq_false_iff.mpr c6
   subst c6
   have H1 : (some (0, ([] : List Int), false)) = some (r1, r2, r3) := by rw [if_neg (show ¬ (false = true) by decide)] at H; exact H
   clear H
   have H := H1
   clear H1
   simp only [Option.some.injEq, Prod.mk.injEq] at H
   obtain ⟨rfl, rfl, rfl⟩ := H
   go_enter Try.func131, Try.ntmps131
   go_wp2_with (first | ((with_reducible refine yb (N := 2) rfl ?_); refine bx 2 #[.int .i64 a0_0, .slice A0_1 l0_1.length c0_1] 28 ?_; intro gbq3 hg w19 hbox hb; have BKq3 := aQ (hbox); have GWq3 := gB HB hg; have GEq3 := gB HB hg; replace HB := bs HB hb; clear hb hbox hg) | ((with_reducible refine yb (N := 4) rfl ?_); refine bx 4 #[.int .i64 0, .slice none 0 0] 28 ?_; intro gbq4 hg w20 hbox hb; have BKq4 := aQ (hbox); have GWq4 := gB HB hg; have GEq4 := gB HB hg; replace HB := bs HB hb; have NBq3_q4 := nl BKq3 hg; have NBq4_q3 := ng BKq3 hg; replace BKq3 := bb BKq3 hb; clear hb hbox hg; have hnb21 := NBq3_q4.out; have hnc21 := NBq4_q3.out; obtain ⟨hcz22_0, hcz22_1, hfz22_0, hfz22_1⟩ := c2 BKq3) | (refine gq 52 (some 7) Try.func52 #[.agg #[.int .i64 a0_0, .slice A0_1 l0_1.length c0_1]] ?_; (with_reducible refine (yM.calls k a0_0 _ _ l0_1 true _ ?side1 ?side2 A3.out).mono ?_); (case side1 => exact pC (Kd.C_below HR0_1.out HB.out)); (case side2 => exact HC0_1.out); rintro e w23 ⟨rfl, hb⟩; refine ⟨_, rfl, ?_⟩; replace BKq3 := bb BKq3 hb; replace BKq4 := bb BKq4 hb; replace HB := bs HB hb; (try clear hb); obtain ⟨hcz24_0, hcz24_1, hfz24_0, hfz24_1⟩ := c2 BKq3) | (go_at_call 169; (with_reducible refine (yI.calls k a0_0 _ _ l1 false _ ?side1 ?side2 A5.out).mono ?_); (case side1 => exact pC (Kd.C_below HR1.out HB.out)); (case side2 => exact HC1.out); rintro e w' ⟨rfl, ⟨nd, rfl⟩⟩; (try (rw [ya1 w23]; generalize hq_ : World.drewN w23 _ = w23; have n0_ : Aside0 (w23.heap[gbq3]? = some (.cells #[.int .i64 a0_0, .slice A0_1 l0_1.length c0_1] 28 (0, 0))) := ⟨by rw [← hq_]; exact (pk BKq3.out)⟩; have n1_ : Aside0 (w23.heap[gbq4]? = some (.cells #[.int .i64 0, .slice none 0 0] 28 (0, 0))) := ⟨by rw [← hq_]; exact (pk BKq4.out)⟩; have n2_ : Aside0 (Below w.heap.size w w23) := ⟨by rw [← hq_]; exact (pB2 HB.out GEq3.out GEq4.out)⟩; clear BKq3 BKq4 HB hq_; have BKq3 := n0_; have BKq4 := n1_; have HB := n2_; clear n0_ n1_ n2_)); obtain ⟨hcz25_0, hcz25_1, hfz25_0, hfz25_1⟩ := c2 BKq4))
   refine bodyPost_ret (ya7 rfl _ _ gbq4 28 #[.int .i64 0, .slice none 0 0] (0, 0) _ rfl (by refine pkx ?_; refine yh (cs := #[.int .i64 0, .slice none 0 0]) ?_ 1 _ rfl; refine pkx ?_; refine yh (cs := #[.int .i64 0, .slice none 0 0]) ?_ 0 _ rfl; refine pkx ?_; exact BKq4.out) Try.underlying28 rfl (by kernel_rfl)) rfl ?_
   exact ⟨_, by first | rfl | (simp [errW_none, yi] <;> rfl) | (simp [*, errW_none, yi] <;> rfl), by first | exact Kd.R_nil _ _ _ _ _ | exact Kd.N_nil _ _ _ _ _ | exact Kd.V_nil _ _ _ _ _ | exact Kd.Q_nil _ _ _ _ _ | exact Kd.S_nil _ _ _ _ _, pB2 HB.out GEq3.out GEq4.out⟩
 ·replace c4 := Bool.eq_false_iff.mpr c4
  subst c4
  have H1 : (some (0, ([] : List Int), false)) = some (r1, r2, r3) := by rw [if_neg (show ¬ (false = true) by decide)] at H; exact H
  clear H
  have H := H1
  clear H1
  simp only [Option.some.injEq, Prod.mk.injEq] at H
  obtain ⟨rfl, rfl, rfl⟩ := H
  go_enter Try.func131, Try.ntmps131
  go_wp2_with (first | ((with_reducible refine yb (N := 2) rfl ?_); refine bx 2 #[.int .i64 a0_0, .slice A0_1 l0_1.length c0_1] 28 ?_; intro gbq3 hg w26 hbox hb; have BKq3 := aQ (hbox); have GWq3 := gB HB hg; have GEq3 := gB HB hg; replace HB := bs HB hb; clear hb hbox hg) | ((with_reducible refine yb (N := 4) rfl ?_); refine bx 4 #[.int .i64 0, .slice none 0 0] 28 ?_; intro gbq4 hg w27 hbox hb; have BKq4 := aQ (hbox); have GWq4 := gB HB hg; have GEq4 := gB HB hg; replace HB := bs HB hb; have NBq3_q4 := nl BKq3 hg; have NBq4_q3 := ng BKq3 hg; replace BKq3 := bb BKq3 hb; clear hb hbox hg; have hnb28 := NBq3_q4.out; have hnc28 := NBq4_q3.out; obtain ⟨hcz29_0, hcz29_1, hfz29_0, hfz29_1⟩ := c2 BKq3) | (refine gq 52 (some 7) Try.func52 #[.agg #[.int .i64 a0_0, .slice A0_1 l0_1.length c0_1]] ?_; (with_reducible refine (yM.calls k a0_0 _ _ l0_1 false _ ?side1 ?side2 A3.out).mono ?_); (case side1 => exact pC (Kd.C_below HR0_1.out HB.out)); (case side2 => exact HC0_1.out); rintro e w30 ⟨rfl, hb⟩; refine ⟨_, rfl, ?_⟩; replace BKq3 := bb BKq3 hb; replace BKq4 := bb BKq4 hb; replace HB := bs HB hb; (try clear hb); obtain ⟨hcz31_0, hcz31_1, hfz31_0, hfz31_1⟩ := c2 BKq4))
  refine bodyPost_ret (ya7 rfl _ _ gbq4 28 #[.int .i64 0, .slice none 0 0] (0, 0) _ rfl (by refine pkx ?_; refine yh (cs := #[.int .i64 0, .slice none 0 0]) ?_ 1 _ rfl; refine pkx ?_; refine yh (cs := #[.int .i64 0, .slice none 0 0]) ?_ 0 _ rfl; refine pkx ?_; exact BKq4.out) Try.underlying28 rfl (by kernel_rfl)) rfl ?_
  exact ⟨_, by first | rfl | (simp [errW_none, yi] <;> rfl) | (simp [*, errW_none, yi] <;> rfl), by first | exact Kd.R_nil _ _ _ _ _ | exact Kd.N_nil _ _ _ _ _ | exact Kd.V_nil _ _ _ _ _ | exact Kd.Q_nil _ _ _ _ _ | exact Kd.S_nil _ _ _ _ _, pB2 HB.out GEq3.out GEq4.out⟩
end Go.Proofs.Ytimkekeaeojpkaa.A
namespace Go.Proofs.Ytimkekeaeojpkaa.A
open Go.RowKit Go.Proofs.YtimkekeaeojpkaaW.PrintWords Go.Proofs.YtimkekeaeojpkaaW.PrintLast Go.Proofs.YtimkekeaeojpkaaW.PrintMore Go.Proofs.Ytimkekeaeojpkaa.Z
attribute [local go_sem] ya8 yba ybm ybn yaY yaX ya6 ya9
set_option linter.unusedVariables false
set_option linter.unusedSimpArgs false
def yS.l0 : Nat → Int → List Int → Int → List Int → Int → Int → Option (List Int × Int × Int)
 | 0, _, _, _, _, _, _ => none
 | k + 1, x1, x5, x6, xq0, xq1, xq2 => if x6 < x1 then ((yk.f xq0 xq1 xq2 (wrap64 ((x5.length : Int) + 1))).bind fun btq3 => ((some (([] : List Int) : List Int)).bind fun yq4 => (if 0 ≤ btq3.1 then (if btq3.1 ≤ (x5.length : Int) then ((some (x5.drop (btq3.1 : Int).toNat : List Int)).bind fun yq5 => (if yq4.length + yq5.length < 17592186044416 then ((some (yq4 ++ yq5 : List Int)).bind fun yq6 => ((some (x5.take (btq3.1 : Int).toNat : List Int)).bind fun yq7 => (if yq7.length < 17592186044416 then ((some (yq7 ++ [x6] : List Int)).bind fun yq8 => (if yq8.length + yq6.length < 17592186044416 then (yS.l0 k x1 (yq8 ++ yq6) (wrap64 (x6 + 1)) xq0 btq3.2.1 btq3.2.2) else (none))) else (none)))) else (none))) else (none)) else (none)))) else (some (x5, xq1, xq2))
def yS.f (k : Nat) (s0_0 : List Int) (s0_1 : Int) (s0_2 : Int) (a1 : Int) : Option (List Int × Int × Int) := yS.l0 k a1 (([] : List Int)) 0 s0_0 s0_1 s0_2
theorem yS.calls (k : Nat) (g : Nat) (s0_0 : List Int) (s0_1 : Int) (s0_2 : Int) (a1 : Int) (r1 : List Int) (r2 : Int) (r3 : Int) (w0 w : World) (hI : IsS106 w0 w g s0_0 s0_1 s0_2) (hB : Below w0.heap.size w0 w) (h : yS.f k s0_0 s0_1 s0_2 a1 = some (r1, r2, r3)) :
  Calls Try.prog 132 #[.pointer (some ⟨g, 0, none⟩), .int .i64 a1] w fun e w' => ∃ v0_ : Value, e = .returned (v0_) ∧ Kd.R (Kd.int .i64) 3 w' w.heap.size (fun _ => True) v0_ r1 ∧ IsS106 w0 w' g s0_0 r2 r3 ∧ Below w0.heap.size w0 w' ∧ KeepBut w w' g none := by
 have HI0 := aQ hI
 have HK := aQ (KeepBut.refl w g none)
 have HL := aQ hB.size
 clear hI
 have HW0 := aQ hB.size
 have HB := aQ hB
 clear hB
 have H := h
 clear h
 unfold yS.f at H
 (try dsimp only at H)
 obtain ⟨yq9, hyq9⟩ : ∃ y_ : List Int, y_ = (([] : List Int)) := ⟨_, rfl⟩
 replace H : (yS.l0 k a1 yq9 0 s0_0 s0_1 s0_2) = some (r1, r2, r3) := by first | (rw [hyq9]; with_reducible exact H) | (rw [hyq9]; exact H)
 have Nyq9 := aQ hyq9
 clear hyq9
 have H' := aQ H
 clear H
 go_enter Try.func132, Try.ntmps132
 go_wp2_with (first | ((with_reducible refine yb (N := 9) rfl ?_); refine Kd.R_lit (Kd.int .i64) _ 3 ?hg (N := 9) ?hd (xs := ([] : List Int)) (inner := []) (ok := fun _ => True) (okp := fun _ => True) ?hr ?hp (fun _ hk => hk) trivial (Below.refl _ _) (Nat.le_refl _) (by simp) ?_; (case hd => rfl); (case hg => rfl); (case hr => first | (go_simp; done) | (go_simp; rfl)); (case hp => exact (Reps.none _ _)); intro vqa w3 ho4 hb hg_ hnew_; clear hg_ hnew_; (first | rw [← Nyq9.out] at ho4 | (simp only [Int.reduceToNat] at ho4; rw [← Nyq9.out] at ho4)); have HOqb := aQ (Kd.R_lower ho4 (yR (w := w) (g := g) (row := none) (pq HK))); replace HK := kt HK hb; replace HB := bsI HB hb; replace HI0 := bI HI0 hb; clear hb ho4))
 go_loopg [5, 6] k (fun kq v5 v6 w' => ∃ (x5_1 : List Int) (x6_1 : Int) (xq1_1 : Int) (xq2_1 : Int), v6 = .int .i64 x6_1 ∧ Aside0 (yS.l0 kq a1 x5_1 x6_1 s0_0 xq1_1 xq2_1 = some (r1, r2, r3)) ∧ Aside0 (kq ≤ k) ∧ Aside0 (Kd.R (Kd.int .i64) 3 w' w.heap.size (fun _ => True) v5 x5_1) ∧ Aside0 (IsS106 w0 w' g s0_0 xq1_1 xq2_1) ∧ Aside0 (KeepBut w w' g none) ∧ Aside0 (Below w0.heap.size w0 w'))
 case atStart => exact ⟨(yq9), (0), (s0_1), (s0_2), rs_, H', ⟨Nat.le_refl _⟩, ⟨pR HOqb.out⟩, ⟨pi_ HI0⟩, ⟨pq HK⟩, ⟨pbI HB⟩⟩
 clear H'
 try clear c1
 try clear p2
 obtain ⟨x5_1, x6_1, xq1_1, xq2_1, rfl, HA, HK1, HO_5, HI0, HK, HB⟩ := hrel
 rcases gk with _ | k1
 ·exact absurd HA.out (by simp [yS.l0])
 have H := HA.out
 clear HA
 simp only [yS.l0] at H
 by_cases c5 : x6_1 < a1
 ·rw [if_pos c5] at H
  have c5b0 := decide_eq_true c5
  clear c5
  replace H := bo H; obtain ⟨⟨tq3, tqc, tqd⟩, A6, H⟩ := H
  (try dsimp only at H)
  obtain ⟨yq4, hyq4⟩ : ∃ y_ : List Int, y_ = (([] : List Int)) := ⟨_, rfl⟩
  replace H := yy hyq4 H
  (try dsimp only at H)
  have Nyq4 := aQ hyq4
  clear hyq4
  replace H := gd H; obtain ⟨c7, H⟩ := H
  have c7b0 := eq_true c7
  have c7b1 := decide_eq_true c7
  clear c7
  replace H := gd H; obtain ⟨c8, H⟩ := H
  have c8b0 := eq_true c8
  have c8b1 := decide_eq_true c8
  clear c8
  obtain ⟨yq5, hyq5⟩ : ∃ y_ : List Int, y_ = (x5_1.drop (tq3 : Int).toNat) := ⟨_, rfl⟩
  replace H : (if yq4.length + yq5.length < 17592186044416 then ((some (yq4 ++ yq5 : List Int)).bind fun yq6 => ((some (x5_1.take (tq3 : Int).toNat : List Int)).bind fun yq7 => (if yq7.length < 17592186044416 then ((some (yq7 ++ [x6_1] : List Int)).bind fun yq8 => (if yq8.length + yq6.length < 17592186044416 then (yS.l0 k1 a1 (yq8 ++ yq6) (wrap64 (x6_1 + 1)) s0_0 tqc tqd) else (none))) else (none)))) else (none)) = some (r1, r2, r3) := by first | (rw [hyq5]; with_reducible exact H) | (rw [hyq5]; exact H)
  have Nyq5 := aQ hyq5
  clear hyq5
  replace H := gd H; obtain ⟨c9, H⟩ := H
  have LMc9 := aQ c9
  clear c9
  obtain ⟨yq6, hyq6⟩ : ∃ y_ : List Int, y_ = (yq4 ++ yq5) := ⟨_, rfl⟩
  replace H : ((some (x5_1.take (tq3 : Int).toNat : List Int)).bind fun yq7 => (if yq7.length < 17592186044416 then ((some (yq7 ++ [x6_1] : List Int)).bind fun yq8 => (if yq8.length + yq6.length < 17592186044416 then (yS.l0 k1 a1 (yq8 ++ yq6) (wrap64 (x6_1 + 1)) s0_0 tqc tqd) else (none))) else (none))) = some (r1, r2, r3) := by first | (rw [hyq6]; with_reducible exact H) | (rw [hyq6]; exact H)
  have Nyq6 := aQ hyq6
  clear hyq6
  have c10b0 := eq_true (of_decide_eq_true as_ : tq3 ≤ (x5_1.length : Int))
  obtain ⟨yq7, hyq7⟩ : ∃ y_ : List Int, y_ = (x5_1.take (tq3 : Int).toNat) := ⟨_, rfl⟩
  replace H := yy hyq7 H
  (try dsimp only at H)
  have Nyq7 := aQ hyq7
  clear hyq7
  replace H := gd H; obtain ⟨c11, H⟩ := H
  have LMc11 := aQ c11
  clear c11
  obtain ⟨yq8, hyq8⟩ : ∃ y_ : List Int, y_ = (yq7 ++ [x6_1]) := ⟨_, rfl⟩
  replace H : (if yq8.length + yq6.length < 17592186044416 then (yS.l0 k1 a1 (yq8 ++ yq6) (wrap64 (x6_1 + 1)) s0_0 tqc tqd) else (none)) = some (r1, r2, r3) := by first | (rw [hyq8]; with_reducible exact H) | (rw [hyq8]; exact H)
  have Nyq8 := aQ hyq8
  clear hyq8
  replace H := gd H; obtain ⟨c12, H⟩ := H
  have LMc12 := aQ c12
  clear c12
  obtain ⟨yqe, hyqe⟩ : ∃ y_ : List Int, y_ = (yq8 ++ yq6) := ⟨_, rfl⟩
  replace H : (yS.l0 k1 a1 yqe (wrap64 (x6_1 + 1)) s0_0 tqc tqd) = some (r1, r2, r3) := by first | (rw [hyqe]; with_reducible exact H) | (rw [hyqe]; exact H)
  have Nyqe := aQ hyqe
  clear hyqe
  have H' := aQ H
  clear H
  obtain ⟨Ao13, co13, eo13⟩ := Kd.R_slice HO_5.out
  subst eo13
  go_wp2_with (first | (refine gq 91 (some 19) Try.func91 #[.pointer (some ⟨g, 0, none⟩), .int .i64 (wrap64 ((x5_1.length : Int) + 1))] ?_; (with_reducible refine (yk.calls g s0_0 xq1_1 xq2_1 (wrap64 ((x5_1.length : Int) + 1)) tq3 tqc tqd w0 _ ?side1 ?side2 A6.out).mono ?_); (case side1 => exact pi_ HI0); (case side2 => exact pbI HB); rintro e w14 ⟨rfl, hi, hb, hk⟩; refine ⟨_, rfl, ?_⟩; replace HO_5 := aQ (Kd.R_mono (Kd.R_keep (IsS106.apart (show IsS106 w0 _ g s0_0 xq1_1 xq2_1 from pi_ HI0) (pR HO_5.out) (by decide)) hk (fun _ h => h.2)) (fun _ h => h.1)); replace HK := kh HK hk; replace HB := aQ (hb); replace HI0 := aQ (hi); (try clear hb); (try clear hk); (try clear hi)) | ((with_reducible refine yb (N := 20) rfl ?_); refine Kd.R_lit (Kd.int .i64) _ 3 ?hg (N := 20) ?hd (xs := ([] : List Int)) (inner := []) (ok := fun _ => True) (okp := fun _ => True) ?hr ?hp (fun _ hk => hk) trivial (Below.refl _ _) (Nat.le_refl _) (by simp) ?_; (case hd => rfl); (case hg => rfl); (case hr => first | (go_simp; done) | (go_simp; rfl)); (case hp => exact (Reps.none _ _)); intro vqf w15 ho16 hb hg_ hnew_; clear hg_ hnew_; (first | rw [← Nyq4.out] at ho16 | (simp only [Int.reduceToNat] at ho16; rw [← Nyq4.out] at ho16)); have HOqg := aQ (Kd.R_lower (Kd.R_new' ho16 (Kd.R_lt (pR HO_5.out))) (yR (w := w) (g := g) (row := none) (pq HK))); replace HO_5 := aQ (Kd.R_elder' (pR HO_5.out) (Kd.R_base ho16) hb); replace HK := kt HK hb; replace HB := bsI HB hb; replace HI0 := bI HI0 hb; clear hb ho16; have q17 : (tq3 : Int) ≤ ((x5_1.length : Int) : Int) := of_decide_eq_true as_; obtain ⟨i017, hi017, _, hsz17, _⟩ := info_parts yaU; have hroom17 : x5_1.length ≤ co13 := (Kd.R_reads' HO_5.out).2.1; have hC17 : Kd.C (Kd.int .i64) _ Ao13 x5_1.length x5_1 := (Kd.R_reads' HO_5.out).2.2; have q017 : (0 : Int) ≤ (tq3 : Int) := of_decide_eq_true as_; have hcut17 := ydA (P := Try.prog) 22 3 .i64 Try.underlying22 hi017 1 hsz17 Ao13 x5_1.length co13 tq3 q017 q17; have hr17 := Kd.C_drop (m := (tq3 : Int).toNat) (c := co13) hC17 (by omega) hroom17; obtain ⟨A17, hA17⟩ : ∃ A1, A1 = (if co13 = (tq3 : Int).toNat then Ao13 else (Ao13 : Option Addr).map (·.add ((tq3 : Int).toNat * 1))) := ⟨_, rfl⟩; obtain ⟨c17, hc17⟩ : ∃ c1, c1 = co13 - (tq3 : Int).toNat := ⟨_, rfl⟩; have hy17 : yq5.length = x5_1.length - (tq3 : Int).toNat := (by rw [Nyq5.out, List.length_drop] <;> omega); rw [show (x5_1).drop (tq3 : Int).toNat = yq5 from Nyq5.out.symm] at hr17; replace hr17 : Kd.C (Kd.int .i64) _ A17 yq5.length yq5 := (by rw [hA17]; exact hr17); rw [← hy17, ← hA17, ← hc17] at hcut17; have HRqh := aQ hr17; have HCqh := aQ (show yq5.length ≤ c17 from by rw [hy17, hc17]; exact Nat.sub_le_sub_right hroom17 _); clear hr17 hC17 hroom17 hi017 hsz17 hc17; have KY17 := aQ hy17; have KA17 := aQ hA17; clear hy17 hA17; have KL17 := aQ (show (tq3 : Int).toNat ≤ x5_1.length from by omega); replace q17 := eq_true q17) | ((with_reducible refine yO (b := .append) (xs := #[.tmp 20, .tmp 23]) rfl ?_); at_builtin; refine Kd.R_append_rows (Kd.int .i64) w.heap.size rfl (.tmp 20) (.tmp 23) 22 3 (.int .i64 0) 8 rfl Try.underlying22 yaU rfl (by decide) (by omega) vqf yq4 yq5 _ _ _ (fun k_ => some k_ ≠ (.slice Ao13 x5_1.length co13 : Value).ownBlock) (fun _ => False) rfl rfl ?aO ?aR (fun _ _ h => h) (fun _ h => h.elim) ?aF (Below.refl _ _) ?aS ?aL ?_; (case aR => exact pC ((by repeat (first | (with_reducible exact HRqh.out) | (with_reducible refine Kd.C_alloc ?_ _) | (with_reducible refine Kd.C_drewN ?_ _) | (with_reducible refine Kd.C_drew ?_) | exact HRqh.out)))); (case aF => exact (fun k_ hk => Kd.fresh' (Kd.R_lt (pR HO_5.out)) k_ hk)); (case aO => exact (by refine pRx ?_; exact Kd.R_mono HOqg.out (fun _ hk => hk.2))); (case aS => exact (yR (w := w) (g := g) (row := none) (pq HK))); (case aL => have := LMc9.out; omega); intro vqi w18 ho hb hg hat; rw [← Nyq6.out] at ho; replace HB := aQ (ybo (pbI HB) HL.out hb); replace HI0 := aQ (IsS106.grown (pi_ HI0) hg (IsS106.own_ne HI0.out HOqg.out (by decide))); replace HK := aQ (KeepBut.trans (pq HK) (KeepBut.of_grown hg g) (Kd.R_base2 HOqg.out)); replace HRqh := aQ ((show Kd.C (Kd.int .i64) w18 A17 yq5.length yq5 from by rw [Nyq5.out, KA17.out]; exact Kd.C_drop (m := (tq3 : Int).toNat) (c := co13) ((Kd.R_reads' (Kd.R_after (ok := (fun _ => True)) (pR HO_5.out) hg hat)).2.2) KL17.out ((Kd.R_reads' (Kd.R_after (ok := (fun _ => True)) (pR HO_5.out) hg hat)).2.1))); replace HO_5 := aQ (Kd.R_after (ok := (fun _ => True)) (pR HO_5.out) hg hat); have HOqj := aQ (ho); clear HOqg; clear ho hb hg hat; have q19 : (tq3 : Int) ≤ ((x5_1.length : Int) : Int) := of_decide_eq_true as_; obtain ⟨i019, hi019, _, hsz19, _⟩ := info_parts yaU; have hcut19 := yfe (P := Try.prog) 22 3 .i64 Try.underlying22 hi019 Ao13 x5_1.length co13 tq3 (of_decide_eq_true as_) q19 (Kd.R_reads' HO_5.out).2.1; have hr19 := Kd.R_take (m := (tq3 : Int).toNat) HO_5.out (by omega); have hy19 : yq7.length = (tq3 : Int).toNat := (by rw [Nyq7.out, List.length_take]; omega); rw [← Nyq7.out] at hr19; rw [← hy19] at hr19 hcut19; clear hy19 hi019 hsz19 HO_5; have HOqk := aQ hr19; clear hr19; replace q19 := eq_true q19) | ((with_reducible refine yO (b := .append) (xs := #[.tmp 27, .tmp 29]) rfl ?_); at_builtin; refine Kd.R_append (Kd.int .i64) w.heap.size rfl (.tmp 27) (.tmp 29) 22 3 (.int .i64 0) 8 rfl Try.underlying22 yaU rfl (by decide) (by omega) (.slice Ao13 yq7.length co13) yq7 x6_1 [.int .i64 x6_1] (fun k_ => some k_ ≠ (vqi : Value).ownBlock) (fun _ => False) rfl rfl ?aP (fun _ hk => hk.elim) ?aF ?aO (Below.refl _ _) ?aS ?aL ?_; (case aP => exact rfl); (case aF => exact (fun k_ hk => Kd.fresh' (Kd.R_lt (pR HOqj.out)) k_ hk)); (case aO => exact (by refine pRx ?_; exact Kd.R_mono HOqk.out (fun _ hk => hk.2))); (case aS => exact (yR (w := w) (g := g) (row := none) (pq HK))); (case aL => have := LMc11.out; omega); intro vql w20 ho hb hg hat; rw [← Nyq8.out] at ho; replace HOqj := aQ (Kd.R_after (ok := (fun _ => True)) (by refine pRx ?_; exact Kd.R_mono HOqj.out (fun _ hk => ⟨trivial, by first | exact hk | exact fun h_ => hk (h_.trans (ygl _ _ _ _))⟩)) hg hat); replace HB := aQ (ybo (pbI HB) HL.out hb); replace HI0 := aQ (IsS106.grown (pi_ HI0) hg (IsS106.own_ne HI0.out HOqk.out (by decide))); replace HK := aQ (KeepBut.trans (pq HK) (KeepBut.of_grown hg g) (Kd.R_base2 HOqk.out)); have HOqm := aQ (ho); clear HOqk; clear ho hb hg hat; obtain ⟨Ao22, co22, eo22⟩ := Kd.R_slice HOqj.out; subst eo22) | ((with_reducible refine yO (b := .append) (xs := #[.tmp 30, .tmp 31]) rfl ?_); at_builtin; refine Kd.R_append_rows (Kd.int .i64) w.heap.size rfl (.tmp 30) (.tmp 31) 22 3 (.int .i64 0) 8 rfl Try.underlying22 yaU rfl (by decide) (by omega) vql yq8 yq6 _ _ _ (fun k_ => some k_ ≠ (.slice Ao22 yq6.length co22 : Value).ownBlock) (fun _ => False) rfl rfl ?aO ?aR (fun _ _ h => h) (fun _ h => h.elim) ?aF (Below.refl _ _) ?aS ?aL ?_; (case aR => exact pC ((Kd.R_reads' HOqj.out).2.2)); (case aF => exact (fun k_ hk => Kd.fresh' (Kd.R_lt (pR HOqj.out)) k_ hk)); (case aO => exact (pR HOqm.out)); (case aS => exact (yR (w := w) (g := g) (row := none) (pq HK))); (case aL => have := LMc12.out; omega); intro vqn w21 ho hb hg hat; rw [← Nyqe.out] at ho; replace HOqj := aQ (Kd.R_after (ok := (fun _ => True)) (pR HOqj.out) hg hat); replace HB := aQ (ybo (pbI HB) HL.out hb); replace HI0 := aQ (IsS106.grown (pi_ HI0) hg (IsS106.own_ne HI0.out HOqm.out (by decide))); replace HK := aQ (KeepBut.trans (pq HK) (KeepBut.of_grown hg g) (Kd.R_base2 HOqm.out)); have HOqo := aQ (ho); clear HOqm; clear ho hb hg hat))
  go_roundg k1
  case measure => have := HK1.out; omega
  case rel => exact ⟨(yqe), (wrap64 (x6_1 + 1)), (tqc), (tqd), rs_, H', ⟨by have := HK1.out; omega⟩, ⟨by refine pRx ?_; exact Kd.R_mono HOqo.out (fun _ hk => trivial)⟩, ⟨pi_ HI0⟩, ⟨pq HK⟩, ⟨pbI HB⟩⟩
 ·rw [if_neg c5] at H
  have c5b0 := decide_eq_false c5
  clear c5
  simp only [Option.some.injEq, Prod.mk.injEq] at H
  obtain ⟨rfl, rfl, rfl⟩ := H
  go_wp2
  go_ret
  exact ⟨_, by first | rfl | (simp [errW_none, yi] <;> rfl) | (simp [*, errW_none, yi] <;> rfl), by refine pRx ?_; exact HO_5.out, pi_ HI0, pbI HB, pq HK⟩
end Go.Proofs.Ytimkekeaeojpkaa.A
