/- Machine side of the law FnGreedy: Go functions as Lean functions, and proofs that calls come to what these tell. Conditions: those in each theorem. -/
import Derived.Test.YtimkekeaeojpkaaGreatMFnGreedywRepsOne
import Derived.Test.YtimkekeaeojpkaaGreatMFnGreedy0
import Derived.Test.YtimkekeaeojpkaaGreatMFnGreedyq0
import Derived.Test.YtimkekeaeojpkaaGreatMFnGreedy1
import Derived.Test.YtimkekeaeojpkaaGreatMFnGreedy2
set_option maxHeartbeats 8000000
set_option maxRecDepth 100000
namespace Go.Proofs.YtimkekeaeojpkaaGreat.A
open Go.RowKit Go.Proofs.YtimkekeaeojpkaaGreatW.PrintWords Go.Proofs.YtimkekeaeojpkaaGreatW.PrintLast Go.Proofs.YtimkekeaeojpkaaGreatW.PrintMore
attribute [local go_sem] cC cE cW cX co cp cD cG
set_option linter.unusedVariables false
set_option linter.unusedSimpArgs false
def bw.f (k : Nat) (a0 : ByteArray) : Option (Int × List Int × Bool) := (ay.f k a0 32).bind fun tq0 => (if (tq0.length : Int) = 2 then (if 0 < (tq0.length : Int) then ((b9.f k (rdOf ByteArray.empty tq0 0)).bind fun btq1 => (if 1 < (tq0.length : Int) then ((ao.f k btq1.1 (rdOf ByteArray.empty tq0 1)).bind fun btq2 => (if btq1.2 = true then (if btq2.2 = true then ((bj.f k btq1.1 btq2.1).bind fun tq3 => (if tq3.toList = a0.toList then (some (btq1.1, btq2.1, true)) else (some (0, ([] : List Int), false)))) else (some (0, ([] : List Int), false))) else (some (0, ([] : List Int), false)))) else (none))) else (none)) else (some (0, ([] : List Int), false)))
theorem bw.mono : ∀ a0 k, LeO (bw.f k a0) (bw.f (k + 1) a0) := by
 intro a0 k
 unfold bw.f
 repeat' first | (with_reducible first | exact bj.mono _ _ _ | exact ao.mono _ _ _ | exact b9.mono _ _ | exact ay.mono _ _ _ | exact LeO.refl _ | exact LeO.none _ | refine LeO.ite ?_ ?_ | refine LeO.bind ?_ (fun _ => ?_)) | exact LeO.none _ | refine LeO.ite ?_ ?_ | refine LeO.bind ?_ (fun _ => ?_)
theorem bw.calls (k : Nat) (a0 : ByteArray) (r1 : Int) (r2 : List Int) (r3 : Bool) (w : World) (h : bw.f k a0 = some (r1, r2, r3)) :
  Calls Tryz.prog 260 #[.string a0] w fun e w' => ∃ v1_ : Value, e = .returned (.tuple #[.agg #[.int .i64 r1, v1_], .bool r3]) ∧ Kd.R (Kd.int .i64) 3 w' w.heap.size (fun _ => True) v1_ r2 ∧ Below w.heap.size w w' := by
 have hu26 := Tryz.underlying26
 have HB := aQ (Below.refl w.heap.size w)
 have H := h
 clear h
 unfold bw.f at H
 (try dsimp only at H)
 replace H := bo H; obtain ⟨tq0, A2, H⟩ := H
 (try dsimp only at H)
 by_cases c3 : (tq0.length : Int) = 2
 ·rw [if_pos c3] at H
  have c3b0 : ((tq0.length : Int) == 2) = true := beq_iff_eq.mpr c3
  have c3b1 : ((tq0.length : Int) != 2) = false := bne_eq_false_iff_eq.mpr c3
  clear c3
  replace H := gd H; obtain ⟨c4, H⟩ := H
  have c4b0 := decide_eq_true c4
  have c4b1 : decide (0 < tq0.length) = true := decide_eq_true (by omega)
  clear c4
  replace H := bo H; obtain ⟨⟨tq1, tq4⟩, A5, H⟩ := H
  (try dsimp only at H)
  replace H := gd H; obtain ⟨c6, H⟩ := H
  have c6b0 := decide_eq_true c6
  have c6b1 : decide (1 < tq0.length) = true := decide_eq_true (by omega)
  clear c6
  replace H := bo H; obtain ⟨⟨tq2, tq5⟩, A7, H⟩ := H
  (try dsimp only at H)
  by_cases c8 : tq4 = true
  ·subst c8
   rw [if_pos rfl] at H
   by_cases c9 : tq5 = true
   ·subst c9
    rw [if_pos rfl] at H
    replace H := bo H; obtain ⟨tq3, A10, H⟩ := H
    (try dsimp only at H)
    by_cases c11 : tq3.toList = a0.toList
    ·rw [if_pos c11] at H
     have c11b0 : (tq3.toList == a0.toList) = true := beq_iff_eq.mpr c11
     have c11b1 : (tq3.toList != a0.toList) = false := bne_eq_false_iff_eq.mpr c11
     clear c11
     simp only [Option.some.injEq, Prod.mk.injEq] at H
     obtain ⟨rfl, rfl, rfl⟩ := H
     go_enter Tryz.func260, Tryz.ntmps260
     go_wp2_with (first | ((with_reducible refine af (N := 2) rfl ?_); refine bx 2 #[.int .i64 0, .slice none 0 0] 26 ?_; intro gbq6 hg w12 hbox hb; have BKq6 := aQ (hbox); have GWq6 := gB HB hg; have GEq6 := gB HB hg; replace HB := bs HB hb; clear hb hbox hg) | (refine gq 283 (some 11) Tryz.func283 #[.string a0, .int .u8 32] ?_; (with_reducible refine (ay.calls k a0 32 tq0 _ A2.out).mono ?_); rintro e w13 ⟨vq7, rfl, ho0, hb⟩; refine ⟨_, rfl, ?_⟩; have HOq8 := aQ (Kd.R_lower ho0 (aa (pB1 HB.out GEq6.out))); replace BKq6 := bb BKq6 hb; replace HB := bs HB hb; (try clear hb); (try clear ho0); obtain ⟨Ao14, co14, eo14⟩ := Kd.R_slice HOq8.out; subst eo14; have pq9 : 0 ≤ (0 : Int) := (by omega); have qq9 : 0 < (tq0.length : Int) := of_decide_eq_true as_; obtain ⟨adq9, eq9, hxq9_0⟩ := Kd.at_string (Kd.R_reads' HOq8.out).2.2 0 pq9 qq9; cases eq9; have qiq9 : (0 < tq0.length) = True := eq_true (by omega); (try rw [show ((0 : Int)).toNat = 0 from rfl] at hxq9_0); (try rw [Addr.add_zero'] at hxq9_0); replace pq9 := eq_true pq9; replace qq9 := eq_true qq9) | (refine gq 284 (some 20) Tryz.func284 #[.string (rdOf ByteArray.empty tq0 0)] ?_; (with_reducible refine (b9.calls k (rdOf ByteArray.empty tq0 0) tq1 true _ A5.out).mono ?_); rintro e w15 ⟨rfl, hb⟩; refine ⟨_, rfl, ?_⟩; replace HOq8 := aQ (Kd.R_below (pR HOq8.out) hb); replace BKq6 := bb BKq6 hb; replace HB := bs HB hb; (try clear hb); have pqa : 0 ≤ (1 : Int) := (by omega); have qqa : 1 < (tq0.length : Int) := of_decide_eq_true as_; obtain ⟨adqa, eqa, hxqa_0⟩ := Kd.at_string (Kd.R_reads' HOq8.out).2.2 1 pqa qqa; obtain rfl : adq9 = adqa := (by injection eqa); (try simp only [show (1 : Int).toNat = 1 from rfl, Nat.reduceMul, Nat.reduceEqDiff, Go.Addr.add, ↓reduceIte] at hxqa_0); have qiqa : (1 < tq0.length) = True := eq_true (by omega); (try rw [show ((1 : Int)).toNat = 1 from rfl] at hxqa_0); replace pqa := eq_true pqa; replace qqa := eq_true qqa) | (refine gq 285 (some 28) Tryz.func285 #[.int .i64 tq1, .string (rdOf ByteArray.empty tq0 1)] ?_; (with_reducible refine (ao.calls k tq1 (rdOf ByteArray.empty tq0 1) tq2 true _ A7.out).mono ?_); rintro e w16 ⟨vqb, rfl, ho0, hb⟩; refine ⟨_, rfl, ?_⟩; replace HOq8 := aQ (Kd.R_below (pR HOq8.out) hb); have HOqc := aQ (Kd.R_lower ho0 (aa (pB1 HB.out GEq6.out))); replace BKq6 := bb BKq6 hb; replace HB := bs HB hb; (try clear hb); (try clear ho0); obtain ⟨Ao17, co17, eo17⟩ := Kd.R_slice HOqc.out; subst eo17) | ((with_reducible refine af (N := 9) rfl ?_); refine bx 9 #[.int .i64 0, .slice none 0 0] 26 ?_; intro gbqd hg w18 hbox hb; replace HOq8 := aQ (Kd.R_below (pR HOq8.out) hb); replace HOqc := aQ (Kd.R_below (pR HOqc.out) hb); have BKqd := aQ (hbox); have GWqd := gB HB hg; have GEqd := gB HB hg; replace HB := bs HB hb; have NBq6_qd := nl BKq6 hg; have NBqd_q6 := ng BKq6 hg; replace BKq6 := bb BKq6 hb; clear hb hbox hg; have hnb19 := NBqd_q6.out; have hnc19 := NBq6_qd.out; obtain ⟨hcz20_0, hcz20_1, hfz20_0, hfz20_1⟩ := c2 BKqd) | (go_at_call 286; (with_reducible refine (bj.calls k tq1 _ _ tq2 tq3 _ ?side1 ?side2 A10.out).mono ?_); (case side1 => refine (Kd.R_reads' (e := 3) (base := w.heap.size) (ok := fun k_ => True) (n := tq2.length) (c := co17) ?_).2.2; exact (by refine pRx ?_; exact (Kd.R_mono (Kd.R_far (p := ⟨gbqd, 1, none⟩) (Kd.R_far (p := ⟨gbqd, 0, none⟩) (Kd.R_types HOqc.out BKqd.out (by decide)) (fun _ hk => hk.2) (.int .i64 tq1)) (fun _ hk => hk.2) (.slice Ao17 tq2.length co17)) (fun _ h_ => h_.1)))); (case side2 => exact (Kd.R_reads' HOqc.out).2.1); rintro e w21 ⟨rfl, hb⟩; replace HOq8 := aQ (Kd.R_below (by refine pRx ?_; exact (Kd.R_mono (Kd.R_far (p := ⟨gbqd, 1, none⟩) (Kd.R_far (p := ⟨gbqd, 0, none⟩) (Kd.R_types HOq8.out BKqd.out (by decide)) (fun _ hk => hk.2) (.int .i64 tq1)) (fun _ hk => hk.2) (.slice Ao17 tq2.length co17)) (fun _ h_ => h_.1))) hb); replace HOqc := aQ (Kd.R_below (by refine pRx ?_; exact (Kd.R_mono (Kd.R_far (p := ⟨gbqd, 1, none⟩) (Kd.R_far (p := ⟨gbqd, 0, none⟩) (Kd.R_types HOqc.out BKqd.out (by decide)) (fun _ hk => hk.2) (.int .i64 tq1)) (fun _ hk => hk.2) (.slice Ao17 tq2.length co17)) (fun _ h_ => h_.1))) hb); replace BKq6 := aQ (bq (g := gbq6) (o := .cells #[.int .i64 0, .slice none 0 0] 26 (0, 0)) (by refine pkx ?_; refine aU ?_ NBq6_qd.out _; refine pkx ?_; refine aU ?_ NBq6_qd.out _; refine pkx ?_; exact BKq6.out) hb); replace BKqd := aQ (bq (g := gbqd) (o := .cells #[.int .i64 tq1, .slice Ao17 tq2.length co17] 26 (0, 0)) (by refine pkx ?_; refine al (cs := #[.int .i64 tq1, .slice none 0 0]) ?_ 1 _ rfl; refine pkx ?_; refine al (cs := #[.int .i64 0, .slice none 0 0]) ?_ 0 _ rfl; refine pkx ?_; exact BKqd.out) hb); replace HB := bs HB hb; (try clear hb); (try clear hk); obtain ⟨hcz22_0, hcz22_1, hfz22_0, hfz22_1⟩ := c2 BKqd; obtain ⟨hcz23_0, hcz23_1, hfz23_0, hfz23_1⟩ := c2 BKq6))
     refine bodyPost_ret (cK rfl _ _ gbq6 26 #[.int .i64 tq1, .slice Ao17 tq2.length co17] (0, 0) _ rfl (by refine pkx ?_; refine al (cs := #[.int .i64 tq1, .slice none 0 0]) ?_ 1 _ rfl; refine pkx ?_; refine al (cs := #[.int .i64 0, .slice none 0 0]) ?_ 0 _ rfl; refine pkx ?_; exact BKq6.out) Tryz.underlying26 rfl (by kernel_rfl)) rfl ?_
     exact ⟨_, by first | rfl | (simp [errW_none, aj] <;> rfl) | (simp [*, errW_none, aj] <;> rfl), by refine pRx ?_; exact rf HOqc BKq6, pB2 HB.out GEq6.out GEqd.out⟩
    ·rw [if_neg c11] at H
     have c11b0 : (tq3.toList == a0.toList) = false := beq_eq_false_iff_ne.mpr c11
     have c11b1 : (tq3.toList != a0.toList) = true := bne_iff_ne.mpr c11
     simp only [Option.some.injEq, Prod.mk.injEq] at H
     obtain ⟨rfl, rfl, rfl⟩ := H
     go_enter Tryz.func260, Tryz.ntmps260
     go_wp2_with (first | ((with_reducible refine af (N := 2) rfl ?_); refine bx 2 #[.int .i64 0, .slice none 0 0] 26 ?_; intro gbq6 hg w24 hbox hb; have BKq6 := aQ (hbox); have GWq6 := gB HB hg; have GEq6 := gB HB hg; replace HB := bs HB hb; clear hb hbox hg) | (refine gq 283 (some 11) Tryz.func283 #[.string a0, .int .u8 32] ?_; (with_reducible refine (ay.calls k a0 32 tq0 _ A2.out).mono ?_); rintro e w25 ⟨vq7, rfl, ho0, hb⟩; refine ⟨_, rfl, ?_⟩; have HOq8 := aQ (Kd.R_lower ho0 (aa (pB1 HB.out GEq6.out))); replace BKq6 := bb BKq6 hb; replace HB := bs HB hb; (try clear hb); (try clear ho0); obtain ⟨Ao26, co26, eo26⟩ := Kd.R_slice HOq8.out; subst eo26; have pq9 : 0 ≤ (0 : Int) := (by omega); have qq9 : 0 < (tq0.length : Int) := of_decide_eq_true as_; obtain ⟨adq9, eq9, hxq9_0⟩ := Kd.at_string (Kd.R_reads' HOq8.out).2.2 0 pq9 qq9; cases eq9; have qiq9 : (0 < tq0.length) = True := eq_true (by omega); (try rw [show ((0 : Int)).toNat = 0 from rfl] at hxq9_0); (try rw [Addr.add_zero'] at hxq9_0); replace pq9 := eq_true pq9; replace qq9 := eq_true qq9) | (refine gq 284 (some 20) Tryz.func284 #[.string (rdOf ByteArray.empty tq0 0)] ?_; (with_reducible refine (b9.calls k (rdOf ByteArray.empty tq0 0) tq1 true _ A5.out).mono ?_); rintro e w27 ⟨rfl, hb⟩; refine ⟨_, rfl, ?_⟩; replace HOq8 := aQ (Kd.R_below (pR HOq8.out) hb); replace BKq6 := bb BKq6 hb; replace HB := bs HB hb; (try clear hb); have pqa : 0 ≤ (1 : Int) := (by omega); have qqa : 1 < (tq0.length : Int) := of_decide_eq_true as_; obtain ⟨adqa, eqa, hxqa_0⟩ := Kd.at_string (Kd.R_reads' HOq8.out).2.2 1 pqa qqa; obtain rfl : adq9 = adqa := (by injection eqa); (try simp only [show (1 : Int).toNat = 1 from rfl, Nat.reduceMul, Nat.reduceEqDiff, Go.Addr.add, ↓reduceIte] at hxqa_0); have qiqa : (1 < tq0.length) = True := eq_true (by omega); (try rw [show ((1 : Int)).toNat = 1 from rfl] at hxqa_0); replace pqa := eq_true pqa; replace qqa := eq_true qqa) | (refine gq 285 (some 28) Tryz.func285 #[.int .i64 tq1, .string (rdOf ByteArray.empty tq0 1)] ?_; (with_reducible refine (ao.calls k tq1 (rdOf ByteArray.empty tq0 1) tq2 true _ A7.out).mono ?_); rintro e w28 ⟨vqb, rfl, ho0, hb⟩; refine ⟨_, rfl, ?_⟩; replace HOq8 := aQ (Kd.R_below (pR HOq8.out) hb); have HOqc := aQ (Kd.R_lower ho0 (aa (pB1 HB.out GEq6.out))); replace BKq6 := bb BKq6 hb; replace HB := bs HB hb; (try clear hb); (try clear ho0); obtain ⟨Ao29, co29, eo29⟩ := Kd.R_slice HOqc.out; subst eo29) | ((with_reducible refine af (N := 9) rfl ?_); refine bx 9 #[.int .i64 0, .slice none 0 0] 26 ?_; intro gbqd hg w30 hbox hb; replace HOq8 := aQ (Kd.R_below (pR HOq8.out) hb); replace HOqc := aQ (Kd.R_below (pR HOqc.out) hb); have BKqd := aQ (hbox); have GWqd := gB HB hg; have GEqd := gB HB hg; replace HB := bs HB hb; have NBq6_qd := nl BKq6 hg; have NBqd_q6 := ng BKq6 hg; replace BKq6 := bb BKq6 hb; clear hb hbox hg; have hnb31 := NBqd_q6.out; have hnc31 := NBq6_qd.out; obtain ⟨hcz32_0, hcz32_1, hfz32_0, hfz32_1⟩ := c2 BKqd) | (go_at_call 286; (with_reducible refine (bj.calls k tq1 _ _ tq2 tq3 _ ?side1 ?side2 A10.out).mono ?_); (case side1 => refine (Kd.R_reads' (e := 3) (base := w.heap.size) (ok := fun k_ => True) (n := tq2.length) (c := co29) ?_).2.2; exact (by refine pRx ?_; exact (Kd.R_mono (Kd.R_far (p := ⟨gbqd, 1, none⟩) (Kd.R_far (p := ⟨gbqd, 0, none⟩) (Kd.R_types HOqc.out BKqd.out (by decide)) (fun _ hk => hk.2) (.int .i64 tq1)) (fun _ hk => hk.2) (.slice Ao29 tq2.length co29)) (fun _ h_ => h_.1)))); (case side2 => exact (Kd.R_reads' HOqc.out).2.1); rintro e w33 ⟨rfl, hb⟩; replace HOq8 := aQ (Kd.R_below (by refine pRx ?_; exact (Kd.R_mono (Kd.R_far (p := ⟨gbqd, 1, none⟩) (Kd.R_far (p := ⟨gbqd, 0, none⟩) (Kd.R_types HOq8.out BKqd.out (by decide)) (fun _ hk => hk.2) (.int .i64 tq1)) (fun _ hk => hk.2) (.slice Ao29 tq2.length co29)) (fun _ h_ => h_.1))) hb); replace HOqc := aQ (Kd.R_below (by refine pRx ?_; exact (Kd.R_mono (Kd.R_far (p := ⟨gbqd, 1, none⟩) (Kd.R_far (p := ⟨gbqd, 0, none⟩) (Kd.R_types HOqc.out BKqd.out (by decide)) (fun _ hk => hk.2) (.int .i64 tq1)) (fun _ hk => hk.2) (.slice Ao29 tq2.length co29)) (fun _ h_ => h_.1))) hb); replace BKq6 := aQ (bq (g := gbq6) (o := .cells #[.int .i64 0, .slice none 0 0] 26 (0, 0)) (by refine pkx ?_; refine aU ?_ NBq6_qd.out _; refine pkx ?_; refine aU ?_ NBq6_qd.out _; refine pkx ?_; exact BKq6.out) hb); replace BKqd := aQ (bq (g := gbqd) (o := .cells #[.int .i64 tq1, .slice Ao29 tq2.length co29] 26 (0, 0)) (by refine pkx ?_; refine al (cs := #[.int .i64 tq1, .slice none 0 0]) ?_ 1 _ rfl; refine pkx ?_; refine al (cs := #[.int .i64 0, .slice none 0 0]) ?_ 0 _ rfl; refine pkx ?_; exact BKqd.out) hb); replace HB := bs HB hb; (try clear hb); (try clear hk); obtain ⟨hcz34_0, hcz34_1, hfz34_0, hfz34_1⟩ := c2 BKq6))
     refine bodyPost_ret (cK rfl _ _ gbq6 26 #[.int .i64 0, .slice none 0 0] (0, 0) _ rfl (by refine pkx ?_; refine al (cs := #[.int .i64 0, .slice none 0 0]) ?_ 1 _ rfl; refine pkx ?_; refine al (cs := #[.int .i64 0, .slice none 0 0]) ?_ 0 _ rfl; refine pkx ?_; exact BKq6.out) Tryz.underlying26 rfl (by kernel_rfl)) rfl ?_
     exact ⟨_, by first | rfl | (simp [errW_none, aj] <;> rfl) | (simp [*, errW_none, aj] <;> rfl), by first | exact Kd.R_nil _ _ _ _ _ | exact Kd.N_nil _ _ _ _ _ | exact Kd.V_nil _ _ _ _ _ | exact Kd.Q_nil _ _ _ _ _ | exact Kd.S_nil _ _ _ _ _, pB2 HB.out GEq6.out GEqd.out⟩
   ·replace c9 := Bool.eq_false_iff.mpr c9
    subst c9
    have H1 : (some (0, ([] : List Int), false)) = some (r1, r2, r3) := by rw [if_neg (show ¬ (false = true) by decide)] at H; exact H
    clear H
    have H := H1
    clear H1
    simp only [Option.some.injEq, Prod.mk.injEq] at H
    obtain ⟨rfl, rfl, rfl⟩ := H
    go_enter Tryz.func260, Tryz.ntmps260
    go_wp2_with (first | ((with_reducible refine af (N := 2) rfl ?_); refine bx 2 #[.int .i64 0, .slice none 0 0] 26 ?_; intro gbq6 hg w35 hbox hb; have BKq6 := aQ (hbox); have GWq6 := gB HB hg; have GEq6 := gB HB hg; replace HB := bs HB hb; clear hb hbox hg) | (refine gq 283 (some 11) Tryz.func283 #[.string a0, .int .u8 32] ?_; (with_reducible refine (ay.calls k a0 32 tq0 _ A2.out).mono ?_); rintro e w36 ⟨vq7, rfl, ho0, hb⟩; refine ⟨_, rfl, ?_⟩; have HOq8 := aQ (Kd.R_lower ho0 (aa (pB1 HB.out GEq6.out))); replace BKq6 := bb BKq6 hb; replace HB := bs HB hb; (try clear hb); (try clear ho0); obtain ⟨Ao37, co37, eo37⟩ := Kd.R_slice HOq8.out; subst eo37; have pq9 : 0 ≤ (0 : Int) := (by omega); have qq9 : 0 < (tq0.length : Int) := of_decide_eq_true as_; obtain ⟨adq9, eq9, hxq9_0⟩ := Kd.at_string (Kd.R_reads' HOq8.out).2.2 0 pq9 qq9; cases eq9; have qiq9 : (0 < tq0.length) = True := eq_true (by omega); (try rw [show ((0 : Int)).toNat = 0 from rfl] at hxq9_0); (try rw [Addr.add_zero'] at hxq9_0); replace pq9 := eq_true pq9; replace qq9 := eq_true qq9) | (refine gq 284 (some 20) Tryz.func284 #[.string (rdOf ByteArray.empty tq0 0)] ?_; (with_reducible refine (b9.calls k (rdOf ByteArray.empty tq0 0) tq1 true _ A5.out).mono ?_); rintro e w38 ⟨rfl, hb⟩; refine ⟨_, rfl, ?_⟩; replace HOq8 := aQ (Kd.R_below (pR HOq8.out) hb); replace BKq6 := bb BKq6 hb; replace HB := bs HB hb; (try clear hb); have pqa : 0 ≤ (1 : Int) := (by omega); have qqa : 1 < (tq0.length : Int) := of_decide_eq_true as_; obtain ⟨adqa, eqa, hxqa_0⟩ := Kd.at_string (Kd.R_reads' HOq8.out).2.2 1 pqa qqa; obtain rfl : adq9 = adqa := (by injection eqa); (try simp only [show (1 : Int).toNat = 1 from rfl, Nat.reduceMul, Nat.reduceEqDiff, Go.Addr.add, ↓reduceIte] at hxqa_0); have qiqa : (1 < tq0.length) = True := eq_true (by omega); (try rw [show ((1 : Int)).toNat = 1 from rfl] at hxqa_0); replace pqa := eq_true pqa; replace qqa := eq_true qqa) | (refine gq 285 (some 28) Tryz.func285 #[.int .i64 tq1, .string (rdOf ByteArray.empty tq0 1)] ?_; (with_reducible refine (ao.calls k tq1 (rdOf ByteArray.empty tq0 1) tq2 false _ A7.out).mono ?_); rintro e w39 ⟨vqb, rfl, ho0, hb⟩; refine ⟨_, rfl, ?_⟩; replace HOq8 := aQ (Kd.R_below (pR HOq8.out) hb); have HOqc := aQ (Kd.R_lower ho0 (aa (pB1 HB.out GEq6.out))); replace BKq6 := bb BKq6 hb; replace HB := bs HB hb; (try clear hb); (try clear ho0); obtain ⟨Ao40, co40, eo40⟩ := Kd.R_slice HOqc.out; subst eo40) | ((with_reducible refine af (N := 9) rfl ?_); refine bx 9 #[.int .i64 0, .slice none 0 0] 26 ?_; intro gbqd hg w41 hbox hb; replace HOq8 := aQ (Kd.R_below (pR HOq8.out) hb); replace HOqc := aQ (Kd.R_below (pR HOqc.out) hb); have BKqd := aQ (hbox); have GWqd := gB HB hg; have GEqd := gB HB hg; replace HB := bs HB hb; have NBq6_qd := nl BKq6 hg; have NBqd_q6 := ng BKq6 hg; replace BKq6 := bb BKq6 hb; clear hb hbox hg; have hnb42 := NBqd_q6.out; have hnc42 := NBq6_qd.out; obtain ⟨hcz43_0, hcz43_1, hfz43_0, hfz43_1⟩ := c2 BKqd; obtain ⟨hcz44_0, hcz44_1, hfz44_0, hfz44_1⟩ := c2 BKq6))
    refine bodyPost_ret (cK rfl _ _ gbq6 26 #[.int .i64 0, .slice none 0 0] (0, 0) _ rfl (by refine pkx ?_; refine al (cs := #[.int .i64 0, .slice none 0 0]) ?_ 1 _ rfl; refine pkx ?_; refine al (cs := #[.int .i64 0, .slice none 0 0]) ?_ 0 _ rfl; refine pkx ?_; refine aU ?_ NBq6_qd.out _; refine pkx ?_; refine aU ?_ NBq6_qd.out _; refine pkx ?_; exact BKq6.out) Tryz.underlying26 rfl (by kernel_rfl)) rfl ?_
    exact ⟨_, by first | rfl | (simp [errW_none, aj] <;> rfl) | (simp [*, errW_none, aj] <;> rfl), by first | exact Kd.R_nil _ _ _ _ _ | exact Kd.N_nil _ _ _ _ _ | exact Kd.V_nil _ _ _ _ _ | exact Kd.Q_nil _ _ _ _ _ | exact Kd.S_nil _ _ _ _ _, pB2 HB.out GEq6.out GEqd.out⟩
  ·replace c8 := Bool.eq_false_iff.mpr c8
   subst c8
   have H1 : (some (0, ([] : List Int), false)) = some (r1, r2, r3) := by rw [if_neg (show ¬ (false = true) by decide)] at H; exact H
   clear H
   have H := H1
   clear H1
   simp only [Option.some.injEq, Prod.mk.injEq] at H
   obtain ⟨rfl, rfl, rfl⟩ := H
   go_enter Tryz.func260, Tryz.ntmps260
   go_wp2_with (first | ((with_reducible refine af (N := 2) rfl ?_); refine bx 2 #[.int .i64 0, .slice none 0 0] 26 ?_; intro gbq6 hg w45 hbox hb; have BKq6 := aQ (hbox); have GWq6 := gB HB hg; have GEq6 := gB HB hg; replace HB := bs HB hb; clear hb hbox hg) | (refine gq 283 (some 11) Tryz.func283 #[.string a0, .int .u8 32] ?_; (with_reducible refine (ay.calls k a0 32 tq0 _ A2.out).mono ?_); rintro e w46 ⟨vq7, rfl, ho0, hb⟩; refine ⟨_, rfl, ?_⟩; have HOq8 := aQ (Kd.R_lower ho0 (aa (pB1 HB.out GEq6.out))); replace BKq6 := bb BKq6 hb; replace HB := bs HB hb; (try clear hb); (try clear ho0); obtain ⟨Ao47, co47, eo47⟩ := Kd.R_slice HOq8.out; subst eo47; have pq9 : 0 ≤ (0 : Int) := (by omega); have qq9 : 0 < (tq0.length : Int) := of_decide_eq_true as_; obtain ⟨adq9, eq9, hxq9_0⟩ := Kd.at_string (Kd.R_reads' HOq8.out).2.2 0 pq9 qq9; cases eq9; have qiq9 : (0 < tq0.length) = True := eq_true (by omega); (try rw [show ((0 : Int)).toNat = 0 from rfl] at hxq9_0); (try rw [Addr.add_zero'] at hxq9_0); replace pq9 := eq_true pq9; replace qq9 := eq_true qq9) | (refine gq 284 (some 20) Tryz.func284 #[.string (rdOf ByteArray.empty tq0 0)] ?_; (with_reducible refine (b9.calls k (rdOf ByteArray.empty tq0 0) tq1 false _ A5.out).mono ?_); rintro e w48 ⟨rfl, hb⟩; refine ⟨_, rfl, ?_⟩; replace HOq8 := aQ (Kd.R_below (pR HOq8.out) hb); replace BKq6 := bb BKq6 hb; replace HB := bs HB hb; (try clear hb); have pqa : 0 ≤ (1 : Int) := (by omega); have qqa : 1 < (tq0.length : Int) := of_decide_eq_true as_; obtain ⟨adqa, eqa, hxqa_0⟩ := Kd.at_string (Kd.R_reads' HOq8.out).2.2 1 pqa qqa; obtain rfl : adq9 = adqa := (by injection eqa); (try simp only [show (1 : Int).toNat = 1 from rfl, Nat.reduceMul, Nat.reduceEqDiff, Go.Addr.add, ↓reduceIte] at hxqa_0); have qiqa : (1 < tq0.length) = True := eq_true (by omega); (try rw [show ((1 : Int)).toNat = 1 from rfl] at hxqa_0); replace pqa := eq_true pqa; replace qqa := eq_true qqa) | (refine gq 285 (some 28) Tryz.func285 #[.int .i64 tq1, .string (rdOf ByteArray.empty tq0 1)] ?_; (with_reducible refine (ao.calls k tq1 (rdOf ByteArray.empty tq0 1) tq2 tq5 _ A7.out).mono ?_); rintro e w49 ⟨vqb, rfl, ho0, hb⟩; refine ⟨_, rfl, ?_⟩; replace HOq8 := aQ (Kd.R_below (pR HOq8.out) hb); have HOqc := aQ (Kd.R_lower ho0 (aa (pB1 HB.out GEq6.out))); replace BKq6 := bb BKq6 hb; replace HB := bs HB hb; (try clear hb); (try clear ho0); obtain ⟨Ao50, co50, eo50⟩ := Kd.R_slice HOqc.out; subst eo50) | ((with_reducible refine af (N := 9) rfl ?_); refine bx 9 #[.int .i64 0, .slice none 0 0] 26 ?_; intro gbqd hg w51 hbox hb; replace HOq8 := aQ (Kd.R_below (pR HOq8.out) hb); replace HOqc := aQ (Kd.R_below (pR HOqc.out) hb); have BKqd := aQ (hbox); have GWqd := gB HB hg; have GEqd := gB HB hg; replace HB := bs HB hb; have NBq6_qd := nl BKq6 hg; have NBqd_q6 := ng BKq6 hg; replace BKq6 := bb BKq6 hb; clear hb hbox hg; have hnb52 := NBqd_q6.out; have hnc52 := NBq6_qd.out; obtain ⟨hcz53_0, hcz53_1, hfz53_0, hfz53_1⟩ := c2 BKqd; obtain ⟨hcz54_0, hcz54_1, hfz54_0, hfz54_1⟩ := c2 BKq6))
   refine bodyPost_ret (cK rfl _ _ gbq6 26 #[.int .i64 0, .slice none 0 0] (0, 0) _ rfl (by refine pkx ?_; refine al (cs := #[.int .i64 0, .slice none 0 0]) ?_ 1 _ rfl; refine pkx ?_; refine al (cs := #[.int .i64 0, .slice none 0 0]) ?_ 0 _ rfl; refine pkx ?_; refine aU ?_ NBq6_qd.out _; refine pkx ?_; refine aU ?_ NBq6_qd.out _; refine pkx ?_; exact BKq6.out) Tryz.underlying26 rfl (by kernel_rfl)) rfl ?_
   exact ⟨_, by first | rfl | (simp [errW_none, aj] <;> rfl) | (simp [*, errW_none, aj] <;> rfl), by first | exact Kd.R_nil _ _ _ _ _ | exact Kd.N_nil _ _ _ _ _ | exact Kd.V_nil _ _ _ _ _ | exact Kd.Q_nil _ _ _ _ _ | exact Kd.S_nil _ _ _ _ _, pB2 HB.out GEq6.out GEqd.out⟩
 ·rw [if_neg c3] at H
  have c3b0 : ((tq0.length : Int) == 2) = false := beq_eq_false_iff_ne.mpr c3
  have c3b1 : ((tq0.length : Int) != 2) = true := bne_iff_ne.mpr c3
  simp only [Option.some.injEq, Prod.mk.injEq] at H
  obtain ⟨rfl, rfl, rfl⟩ := H
  go_enter Tryz.func260, Tryz.ntmps260
  go_wp2_with (first | ((with_reducible refine af (N := 2) rfl ?_); refine bx 2 #[.int .i64 0, .slice none 0 0] 26 ?_; intro gbq6 hg w55 hbox hb; have BKq6 := aQ (hbox); have GWq6 := gB HB hg; have GEq6 := gB HB hg; replace HB := bs HB hb; clear hb hbox hg) | (refine gq 283 (some 11) Tryz.func283 #[.string a0, .int .u8 32] ?_; (with_reducible refine (ay.calls k a0 32 tq0 _ A2.out).mono ?_); rintro e w56 ⟨vq7, rfl, ho0, hb⟩; refine ⟨_, rfl, ?_⟩; have HOq8 := aQ (Kd.R_lower ho0 (aa (pB1 HB.out GEq6.out))); replace BKq6 := bb BKq6 hb; replace HB := bs HB hb; (try clear hb); (try clear ho0); obtain ⟨Ao57, co57, eo57⟩ := Kd.R_slice HOq8.out; subst eo57; obtain ⟨hcz58_0, hcz58_1, hfz58_0, hfz58_1⟩ := c2 BKq6))
  refine bodyPost_ret (cK rfl _ _ gbq6 26 #[.int .i64 0, .slice none 0 0] (0, 0) _ rfl (by refine pkx ?_; refine al (cs := #[.int .i64 0, .slice none 0 0]) ?_ 1 _ rfl; refine pkx ?_; refine al (cs := #[.int .i64 0, .slice none 0 0]) ?_ 0 _ rfl; refine pkx ?_; exact BKq6.out) Tryz.underlying26 rfl (by kernel_rfl)) rfl ?_
  exact ⟨_, by first | rfl | (simp [errW_none, aj] <;> rfl) | (simp [*, errW_none, aj] <;> rfl), by first | exact Kd.R_nil _ _ _ _ _ | exact Kd.N_nil _ _ _ _ _ | exact Kd.V_nil _ _ _ _ _ | exact Kd.Q_nil _ _ _ _ _ | exact Kd.S_nil _ _ _ _ _, pB1 HB.out GEq6.out⟩
def di.f (s0_0 : List Int) (s0_1 : Int) (s0_2 : Int) (l1 : List ByteArray) : Option (ByteArray × Int × Int) := (ak.f s0_0 s0_1 s0_2 (l1.length : Int)).bind fun btq0 => (if 0 ≤ btq0.1 then (if btq0.1 < (l1.length : Int) then (some (rdOf ByteArray.empty l1 btq0.1, btq0.2.1, btq0.2.2)) else (none)) else (none))
theorem di.calls (g : Nat) (s0_0 : List Int) (s0_1 : Int) (s0_2 : Int) (A1 : Option Addr) (c1 : Nat) (l1 : List ByteArray) (r1 : ByteArray) (r2 : Int) (r3 : Int) (w0 w : World) (hI : IsS126 w0 w g s0_0 s0_1 s0_2) (hB : Below w0.heap.size w0 w) (hr1 : Kd.C Kd.string w A1 l1.length l1) (hc1 : l1.length ≤ c1) (hf1 : ∀ ad, A1 = some ad → 0 < l1.length → ad.block ≠ g) (h : di.f s0_0 s0_1 s0_2 l1 = some (r1, r2, r3)) :
  Calls Tryz.prog 261 #[.pointer (some ⟨g, 0, none⟩), .slice A1 l1.length c1] w fun e w' => e = .returned (.string r1) ∧ IsS126 w0 w' g s0_0 r2 r3 ∧ Below w0.heap.size w0 w' ∧ KeepBut w w' g none := by
 have HR1 := aQ hr1
 have HC1 := aQ hc1
 clear hr1 hc1
 have HI0 := aQ hI
 have HK := aQ (KeepBut.refl w g none)
 have HL := aQ hB.size
 clear hI
 have HW0 := aQ hB.size
 have HB := aQ hB
 clear hB
 have H := h
 clear h
 unfold di.f at H
 (try dsimp only at H)
 replace H := bo H; obtain ⟨⟨tq0, tq1, tq2⟩, A3, H⟩ := H
 (try dsimp only at H)
 replace H := gd H; obtain ⟨c4, H⟩ := H
 have c4b0 := decide_eq_true c4
 clear c4
 replace H := gd H; obtain ⟨c5, H⟩ := H
 have c5b0 := decide_eq_true c5
 clear c5
 simp only [Option.some.injEq, Prod.mk.injEq] at H
 obtain ⟨rfl, rfl, rfl⟩ := H
 go_enter Tryz.func261, Tryz.ntmps261
 go_wp2_with (first | (refine gq 99 (some 9) Tryz.func99 #[.pointer (some ⟨g, 0, none⟩), .int .i64 (l1.length : Int)] ?_; (with_reducible refine (ak.calls g s0_0 s0_1 s0_2 (l1.length : Int) tq0 tq1 tq2 w0 _ ?side1 ?side2 A3.out).mono ?_); (case side1 => exact pi_ HI0); (case side2 => exact pbI HB); rintro e w6 ⟨rfl, hi, hb, hk⟩; refine ⟨_, rfl, ?_⟩; replace HK := kh HK hk; replace HB := aQ (hb); replace HI0 := aQ (hi); (try clear hb); (try clear hk); (try clear hi); have pq3 : 0 ≤ (tq0 : Int) := of_decide_eq_true as_; have qq3 : tq0 < (l1.length : Int) := of_decide_eq_true as_; obtain ⟨adq3, eq3, hxq3_0⟩ := Kd.at_string HR1.out tq0 pq3 qq3; cases eq3; replace hxq3_0 := iW HK.out hxq3_0 (by first | (rw [dx]; exact hf1 _ rfl (by omega)) | exact hf1 _ rfl (by omega) | exact hf1 adq3 rfl (by omega)); replace pq3 := eq_true pq3; replace qq3 := eq_true qq3))
 go_ret
 exact ⟨re_, pi_ HI0, pbI HB, pq HK⟩
def db.f (k : Nat) (s0_0 : List Int) (s0_1 : Int) (s0_2 : Int) : Option (Int × List Int × Int × Int) := (di.f s0_0 s0_1 s0_2 (([(⟨#[48, 32, 45]⟩ : ByteArray), (⟨#[49, 32, 45]⟩ : ByteArray), (⟨#[49, 32, 97]⟩ : ByteArray), (⟨#[52, 32, 97, 98, 44, 97, 99, 44, 98, 99, 44, 97, 100, 44, 98, 100, 44, 99, 100]⟩ : ByteArray), (⟨#[52, 32, 97, 98, 44, 97, 99, 44, 97, 100, 44, 98, 100, 44, 99, 100]⟩ : ByteArray), (⟨#[51, 32, 97, 44, 98]⟩ : ByteArray), (⟨#[53, 32, 97, 98, 44, 97, 99, 44, 98, 99, 44, 97, 100, 44, 98, 100]⟩ : ByteArray), (⟨#[50, 32, 45]⟩ : ByteArray), (⟨#[51, 32, 97, 98, 99]⟩ : ByteArray)] : List ByteArray))).bind fun btq0 => ((bw.f k btq0.1).bind fun btq1 => (some (btq1.1, btq1.2.1, btq0.2.1, btq0.2.2)))
theorem db.calls (k : Nat) (g : Nat) (s0_0 : List Int) (s0_1 : Int) (s0_2 : Int) (r1 : Int) (r2 : List Int) (r3 : Int) (r4 : Int) (w0 w : World) (hI : IsS126 w0 w g s0_0 s0_1 s0_2) (hB : Below w0.heap.size w0 w) (h : db.f k s0_0 s0_1 s0_2 = some (r1, r2, r3, r4)) :
  Calls Tryz.prog 225 #[.pointer (some ⟨g, 0, none⟩)] w fun e w' => ∃ v1_ : Value, e = .returned (.agg #[.int .i64 r1, v1_]) ∧ Kd.R (Kd.int .i64) 3 w' w.heap.size (fun _ => True) v1_ r2 ∧ IsS126 w0 w' g s0_0 r3 r4 ∧ Below w0.heap.size w0 w' ∧ KeepBut w w' g none := by
 have hu26 := Tryz.underlying26
 have HI0 := aQ hI
 have HK := aQ (KeepBut.refl w g none)
 have HL := aQ hB.size
 clear hI
 have HW0 := aQ hB.size
 have HB := aQ hB
 clear hB
 have H := h
 clear h
 unfold db.f at H
 (try dsimp only at H)
 obtain ⟨yq2, hyq2⟩ : ∃ y_ : List ByteArray, y_ = (([(⟨#[48, 32, 45]⟩ : ByteArray), (⟨#[49, 32, 45]⟩ : ByteArray), (⟨#[49, 32, 97]⟩ : ByteArray), (⟨#[52, 32, 97, 98, 44, 97, 99, 44, 98, 99, 44, 97, 100, 44, 98, 100, 44, 99, 100]⟩ : ByteArray), (⟨#[52, 32, 97, 98, 44, 97, 99, 44, 97, 100, 44, 98, 100, 44, 99, 100]⟩ : ByteArray), (⟨#[51, 32, 97, 44, 98]⟩ : ByteArray), (⟨#[53, 32, 97, 98, 44, 97, 99, 44, 98, 99, 44, 97, 100, 44, 98, 100]⟩ : ByteArray), (⟨#[50, 32, 45]⟩ : ByteArray), (⟨#[51, 32, 97, 98, 99]⟩ : ByteArray)] : List ByteArray)) := ⟨_, rfl⟩
 replace H : ((di.f s0_0 s0_1 s0_2 yq2).bind fun btq0 => ((bw.f k btq0.1).bind fun btq1 => (some (btq1.1, btq1.2.1, btq0.2.1, btq0.2.2)))) = some (r1, r2, r3, r4) := by first | (rw [hyq2]; with_reducible exact H) | (rw [hyq2]; exact H)
 have Nyq2 := aQ hyq2
 clear hyq2
 replace H := bo H; obtain ⟨⟨tq0, tq3, tq4⟩, A2, H⟩ := H
 (try dsimp only at H)
 replace H := bo H; obtain ⟨⟨tq1, tq5, tq6⟩, A3, H⟩ := H
 (try dsimp only at H)
 simp only [Option.some.injEq, Prod.mk.injEq] at H
 obtain ⟨rfl, rfl, rfl, rfl⟩ := H
 go_enter Tryz.func225, Tryz.ntmps225
 go_wp2_with (first | ((with_reducible refine af (N := 2) rfl ?_); refine bx 2 #[.int .i64 0, .slice none 0 0] 26 ?_; intro gbq7 hg w4 hbox hb; replace HB := bsI HB hb; have BKq7 := aQ (hbox); have GWq7 := gw HK hg; have GEq7 := ge HK HW0 hg; replace HK := kt HK hb; have NB0_q7 := nI HI0 hg; have NBq7_0 := mI HI0 hg; replace HI0 := bI HI0 hb; clear hb hbox hg) | ((with_reducible refine af (N := 7) rfl ?_); refine Kd.R_lit Kd.string _ 9 ?hg (N := 7) ?hd (xs := ([(⟨#[48, 32, 45]⟩ : ByteArray), (⟨#[49, 32, 45]⟩ : ByteArray), (⟨#[49, 32, 97]⟩ : ByteArray), (⟨#[52, 32, 97, 98, 44, 97, 99, 44, 98, 99, 44, 97, 100, 44, 98, 100, 44, 99, 100]⟩ : ByteArray), (⟨#[52, 32, 97, 98, 44, 97, 99, 44, 97, 100, 44, 98, 100, 44, 99, 100]⟩ : ByteArray), (⟨#[51, 32, 97, 44, 98]⟩ : ByteArray), (⟨#[53, 32, 97, 98, 44, 97, 99, 44, 98, 99, 44, 97, 100, 44, 98, 100]⟩ : ByteArray), (⟨#[50, 32, 45]⟩ : ByteArray), (⟨#[51, 32, 97, 98, 99]⟩ : ByteArray)] : List ByteArray)) (inner := [.string (⟨#[48, 32, 45]⟩ : ByteArray), .string (⟨#[49, 32, 45]⟩ : ByteArray), .string (⟨#[49, 32, 97]⟩ : ByteArray), .string (⟨#[52, 32, 97, 98, 44, 97, 99, 44, 98, 99, 44, 97, 100, 44, 98, 100, 44, 99, 100]⟩ : ByteArray), .string (⟨#[52, 32, 97, 98, 44, 97, 99, 44, 97, 100, 44, 98, 100, 44, 99, 100]⟩ : ByteArray), .string (⟨#[51, 32, 97, 44, 98]⟩ : ByteArray), .string (⟨#[53, 32, 97, 98, 44, 97, 99, 44, 98, 99, 44, 97, 100, 44, 98, 100]⟩ : ByteArray), .string (⟨#[50, 32, 45]⟩ : ByteArray), .string (⟨#[51, 32, 97, 98, 99]⟩ : ByteArray)]) (ok := fun _ => True) (okp := fun _ => True) ?hr ?hp (fun _ hk => hk) trivial (Below.refl _ _) (Nat.le_refl _) (by simp) ?_; (case hd => rfl); (case hg => rfl); (case hr => first | (go_simp; done) | (go_simp; rfl)); (case hp => exact (Reps.one (show Kd.M Kd.string _ _ _ (⟨#[48, 32, 45]⟩ : ByteArray) [.string (⟨#[48, 32, 45]⟩ : ByteArray)] from rfl) (Reps.one (show Kd.M Kd.string _ _ _ (⟨#[49, 32, 45]⟩ : ByteArray) [.string (⟨#[49, 32, 45]⟩ : ByteArray)] from rfl) (Reps.one (show Kd.M Kd.string _ _ _ (⟨#[49, 32, 97]⟩ : ByteArray) [.string (⟨#[49, 32, 97]⟩ : ByteArray)] from rfl) (Reps.one (show Kd.M Kd.string _ _ _ (⟨#[52, 32, 97, 98, 44, 97, 99, 44, 98, 99, 44, 97, 100, 44, 98, 100, 44, 99, 100]⟩ : ByteArray) [.string (⟨#[52, 32, 97, 98, 44, 97, 99, 44, 98, 99, 44, 97, 100, 44, 98, 100, 44, 99, 100]⟩ : ByteArray)] from rfl) (Reps.one (show Kd.M Kd.string _ _ _ (⟨#[52, 32, 97, 98, 44, 97, 99, 44, 97, 100, 44, 98, 100, 44, 99, 100]⟩ : ByteArray) [.string (⟨#[52, 32, 97, 98, 44, 97, 99, 44, 97, 100, 44, 98, 100, 44, 99, 100]⟩ : ByteArray)] from rfl) (Reps.one (show Kd.M Kd.string _ _ _ (⟨#[51, 32, 97, 44, 98]⟩ : ByteArray) [.string (⟨#[51, 32, 97, 44, 98]⟩ : ByteArray)] from rfl) (Reps.one (show Kd.M Kd.string _ _ _ (⟨#[53, 32, 97, 98, 44, 97, 99, 44, 98, 99, 44, 97, 100, 44, 98, 100]⟩ : ByteArray) [.string (⟨#[53, 32, 97, 98, 44, 97, 99, 44, 98, 99, 44, 97, 100, 44, 98, 100]⟩ : ByteArray)] from rfl) (Reps.one (show Kd.M Kd.string _ _ _ (⟨#[50, 32, 45]⟩ : ByteArray) [.string (⟨#[50, 32, 45]⟩ : ByteArray)] from rfl) (Reps.one (show Kd.M Kd.string _ _ _ (⟨#[51, 32, 97, 98, 99]⟩ : ByteArray) [.string (⟨#[51, 32, 97, 98, 99]⟩ : ByteArray)] from rfl) (Reps.none _ _))))))))))); intro vq8 w5 ho6 hb hg_ hnew_; clear hg_ hnew_; (first | rw [← Nyq2.out] at ho6 | (simp only [Int.reduceToNat] at ho6; rw [← Nyq2.out] at ho6)); have HOq9 := aQ (Kd.R_lower ho6 (bp (w := w) (g := g) (row := none) (pq HK))); replace BKq7 := bb BKq7 hb; replace HK := kt HK hb; replace HB := bsI HB hb; replace HI0 := bI HI0 hb; clear hb ho6; obtain ⟨Ao7, co7, eo7⟩ := Kd.R_slice HOq9.out; subst eo7) | (refine gq 261 (some 8) Tryz.func261 #[.pointer (some ⟨g, 0, none⟩), .slice Ao7 yq2.length co7] ?_; (with_reducible refine (di.calls g s0_0 s0_1 s0_2 _ _ yq2 tq0 tq3 tq4 w0 _ ?side1 ?side2 ?side3 ?side4 ?side5 A2.out).mono ?_); (case side1 => exact pi_ HI0); (case side2 => exact pbI HB); (case side3 => exact pC ((Kd.R_reads' HOq9.out).2.2)); (case side4 => exact (Kd.R_reads' HOq9.out).2.1); (case side5 => exact eI (IsS126.own_ne HI0.out HOq9.out (by decide))); rintro e w8 ⟨rfl, hi, hb, hk⟩; refine ⟨_, rfl, ?_⟩; replace BKq7 := kk BKq7 hk NBq7_0.out; replace HOq9 := aQ (Kd.R_mono (Kd.R_keep (IsS126.apart (show IsS126 w0 _ g s0_0 s0_1 s0_2 from pi_ HI0) (pR HOq9.out) (by decide)) hk (fun _ h => h.2)) (fun _ h => h.1)); replace HK := kh HK hk; replace HB := aQ (hb); replace HI0 := aQ (hi); (try clear hb); (try clear hk); (try clear hi)) | (refine gq 260 (some 9) Tryz.func260 #[.string tq0] ?_; (with_reducible refine (bw.calls k tq0 tq1 tq5 tq6 _ A3.out).mono ?_); rintro e w9 ⟨vqa, rfl, ho0, hb⟩; refine ⟨_, rfl, ?_⟩; replace HOq9 := aQ (Kd.R_below (pR HOq9.out) hb); have HOqb := aQ (Kd.R_lower ho0 (bp (w := w) (g := g) (row := none) (pq HK))); replace BKq7 := bb BKq7 hb; replace HK := kt HK hb; replace HB := bsI HB hb; replace HI0 := bI HI0 hb; (try clear hb); (try clear ho0)) | ((with_reducible refine af (N := 3) rfl ?_); refine bx 3 #[.int .i64 0, .slice none 0 0] 26 ?_; intro gbqc hg w10 hbox hb; replace HOq9 := aQ (Kd.R_below (pR HOq9.out) hb); replace HOqb := aQ (Kd.R_below (pR HOqb.out) hb); replace HB := bsI HB hb; have BKqc := aQ (hbox); have GWqc := gw HK hg; have GEqc := ge HK HW0 hg; replace HK := kt HK hb; have NBq7_qc := nl BKq7 hg; have NBqc_q7 := ng BKq7 hg; replace BKq7 := bb BKq7 hb; have NB0_qc := nI HI0 hg; have NBqc_0 := mI HI0 hg; replace HI0 := bI HI0 hb; clear hb hbox hg; have hnb11 := NBqc_q7.out; have hnc11 := NBq7_qc.out; have hnb12 := NBqc_0.out; have hnc12 := NB0_qc.out; obtain ⟨hcz13_0, hcz13_1, hfz13_0, hfz13_1⟩ := c2 BKqc; obtain ⟨Ao14, co14, eo14⟩ := Kd.R_slice HOqb.out; subst eo14; have hnb15 := NBq7_0.out; have hnc15 := NB0_q7.out; obtain ⟨hcz16_0, hcz16_1, hfz16_0, hfz16_1⟩ := c2 BKq7))
 refine bodyPost_ret (results_cell_row rfl _ _ gbq7 26 #[.int .i64 tq1, .slice Ao14 tq5.length co14] (0, 0) _ rfl (by refine pkx ?_; refine al (cs := #[.int .i64 tq1, .slice none 0 0]) ?_ 1 _ rfl; refine pkx ?_; refine al (cs := #[.int .i64 0, .slice none 0 0]) ?_ 0 _ rfl; refine pkx ?_; refine aU ?_ NBq7_qc.out _; refine pkx ?_; refine aU ?_ NBq7_qc.out _; refine pkx ?_; exact BKq7.out) Tryz.underlying26 rfl (by kernel_rfl)) rfl ?_
 exact ⟨_, by first | rfl | (simp [errW_none, aj] <;> rfl) | (simp [*, errW_none, aj] <;> rfl), by refine pRx ?_; exact Kd.R_mono (Kd.R_far (p := ⟨gbq7, 1, none⟩) (Kd.R_far (p := ⟨gbq7, 0, none⟩) (Kd.R_far (p := ⟨gbqc, 1, none⟩) (Kd.R_far (p := ⟨gbqc, 0, none⟩) (Kd.R_types (Kd.R_types HOqb.out BKqc.out (by decide)) BKq7.out (by decide)) (fun _ hk => hk.1.2) (.int .i64 tq1)) (fun _ hk => hk.1.2) (.slice Ao14 tq5.length co14)) (fun _ hk => hk.2) (.int .i64 tq1)) (fun _ hk => hk.2) (.slice Ao14 tq5.length co14)) (fun _ hk => trivial), pi_ HI0, pbI HB, pq HK⟩
def ch.f (k : Nat) (s0_0 : List Int) (s0_1 : Int) (s0_2 : Int) (a1 : Int) : Option (Int × List Int × Int × Int) := (ak.f s0_0 s0_1 s0_2 6).bind fun btq0 => (if btq0.1 = 0 then ((ak.f s0_0 btq0.2.1 btq0.2.2 (wrap64 (a1 + 1))).bind fun btq1 => ((ak.f s0_0 btq1.2.1 btq1.2.2 (wrap64 (btq1.1 + 1))).bind fun btq2 => ((bf.f k btq2.1 btq1.1).bind fun btq3 => (some (btq3.1, btq3.2, btq2.2.1, btq2.2.2))))) else (if btq0.1 = 1 then ((db.f k s0_0 btq0.2.1 btq0.2.2).bind fun btq4 => (if btq4.1 ≤ a1 then (some (btq4.1, btq4.2.1, btq4.2.2.1, btq4.2.2.2)) else ((ak.f s0_0 btq4.2.2.1 btq4.2.2.2 (wrap64 (a1 + 1))).bind fun btq5 => ((bk.f k s0_0 btq5.2.1 btq5.2.2 btq5.1).bind fun btq6 => (some (btq6.1, btq6.2.1, btq6.2.2.1, btq6.2.2.2)))))) else ((ak.f s0_0 btq0.2.1 btq0.2.2 (wrap64 (a1 + 1))).bind fun btq7 => ((bk.f k s0_0 btq7.2.1 btq7.2.2 btq7.1).bind fun btq8 => (some (btq8.1, btq8.2.1, btq8.2.2.1, btq8.2.2.2))))))
theorem ch.calls (k : Nat) (g : Nat) (s0_0 : List Int) (s0_1 : Int) (s0_2 : Int) (a1 : Int) (r1 : Int) (r2 : List Int) (r3 : Int) (r4 : Int) (w0 w : World) (hI : IsS126 w0 w g s0_0 s0_1 s0_2) (hB : Below w0.heap.size w0 w) (h : ch.f k s0_0 s0_1 s0_2 a1 = some (r1, r2, r3, r4)) :
  Calls Tryz.prog 163 #[.pointer (some ⟨g, 0, none⟩), .int .i64 a1] w fun e w' => ∃ v1_ : Value, e = .returned (.agg #[.int .i64 r1, v1_]) ∧ Kd.R (Kd.int .i64) 3 w' w.heap.size (fun _ => True) v1_ r2 ∧ IsS126 w0 w' g s0_0 r3 r4 ∧ Below w0.heap.size w0 w' ∧ KeepBut w w' g none := by
 have hu26 := Tryz.underlying26
 have HI0 := aQ hI
 have HK := aQ (KeepBut.refl w g none)
 have HL := aQ hB.size
 clear hI
 have HW0 := aQ hB.size
 have HB := aQ hB
 clear hB
 have H := h
 clear h
 unfold ch.f at H
 (try dsimp only at H)
 replace H := bo H; obtain ⟨⟨tq0, tq9, tqa⟩, A3, H⟩ := H
 (try dsimp only at H)
 by_cases c4 : tq0 = 0
 ·rw [if_pos c4] at H
  have c4b0 : (tq0 == 0) = true := beq_iff_eq.mpr c4
  have c4b1 : (tq0 != 0) = false := bne_eq_false_iff_eq.mpr c4
  clear c4
  replace H := bo H; obtain ⟨⟨tq1, tqb, tqc⟩, A5, H⟩ := H
  (try dsimp only at H)
  replace H := bo H; obtain ⟨⟨tq2, tqd, tqe⟩, A6, H⟩ := H
  (try dsimp only at H)
  replace H := bo H; obtain ⟨⟨tq3, tqf⟩, A7, H⟩ := H
  (try dsimp only at H)
  simp only [Option.some.injEq, Prod.mk.injEq] at H
  obtain ⟨rfl, rfl, rfl, rfl⟩ := H
  go_enter Tryz.func163, Tryz.ntmps163
  go_wp2_with (first | ((with_reducible refine af (N := 4) rfl ?_); refine bx 4 #[.int .i64 0, .slice none 0 0] 26 ?_; intro gbqg hg w8 hbox hb; replace HB := bsI HB hb; have BKqg := aQ (hbox); have GWqg := gw HK hg; have GEqg := ge HK HW0 hg; replace HK := kt HK hb; have NB0_qg := nI HI0 hg; have NBqg_0 := mI HI0 hg; replace HI0 := bI HI0 hb; clear hb hbox hg) | (refine gq 99 (some 8) Tryz.func99 #[.pointer (some ⟨g, 0, none⟩), .int .i64 6] ?_; (with_reducible refine (ak.calls g s0_0 s0_1 s0_2 6 tq0 tq9 tqa w0 _ ?side1 ?side2 A3.out).mono ?_); (case side1 => exact pi_ HI0); (case side2 => exact pbI HB); rintro e w9 ⟨rfl, hi, hb, hk⟩; refine ⟨_, rfl, ?_⟩; replace BKqg := kk BKqg hk NBqg_0.out; replace HK := kh HK hk; replace HB := aQ (hb); replace HI0 := aQ (hi); (try clear hb); (try clear hk); (try clear hi)) | (refine gq 99 (some 14) Tryz.func99 #[.pointer (some ⟨g, 0, none⟩), .int .i64 (wrap64 (a1 + 1))] ?_; (with_reducible refine (ak.calls g s0_0 tq9 tqa (wrap64 (a1 + 1)) tq1 tqb tqc w0 _ ?side1 ?side2 A5.out).mono ?_); (case side1 => exact pi_ HI0); (case side2 => exact pbI HB); rintro e w10 ⟨rfl, hi, hb, hk⟩; refine ⟨_, rfl, ?_⟩; replace BKqg := kk BKqg hk NBqg_0.out; replace HK := kh HK hk; replace HB := aQ (hb); replace HI0 := aQ (hi); (try clear hb); (try clear hk); (try clear hi)) | (refine gq 99 (some 18) Tryz.func99 #[.pointer (some ⟨g, 0, none⟩), .int .i64 (wrap64 (tq1 + 1))] ?_; (with_reducible refine (ak.calls g s0_0 tqb tqc (wrap64 (tq1 + 1)) tq2 tqd tqe w0 _ ?side1 ?side2 A6.out).mono ?_); (case side1 => exact pi_ HI0); (case side2 => exact pbI HB); rintro e w11 ⟨rfl, hi, hb, hk⟩; refine ⟨_, rfl, ?_⟩; replace BKqg := kk BKqg hk NBqg_0.out; replace HK := kh HK hk; replace HB := aQ (hb); replace HI0 := aQ (hi); (try clear hb); (try clear hk); (try clear hi)) | (refine gq 224 (some 20) Tryz.func224 #[.int .i64 tq2, .int .i64 tq1] ?_; (with_reducible refine (bf.calls k tq2 tq1 tq3 tqf _ A7.out).mono ?_); rintro e w12 ⟨vqh, rfl, ho0, hb⟩; refine ⟨_, rfl, ?_⟩; have HOqi := aQ (Kd.R_lower ho0 (bp (w := w) (g := g) (row := none) (pq HK))); replace BKqg := bb BKqg hb; replace HK := kt HK hb; replace HB := bsI HB hb; replace HI0 := bI HI0 hb; (try clear hb); (try clear ho0); have hnb13 := NBqg_0.out; have hnc13 := NB0_qg.out; obtain ⟨hcz14_0, hcz14_1, hfz14_0, hfz14_1⟩ := c2 BKqg; obtain ⟨Ao15, co15, eo15⟩ := Kd.R_slice HOqi.out; subst eo15))
  refine bodyPost_ret (results_cell_row rfl _ _ gbqg 26 #[.int .i64 tq3, .slice Ao15 tqf.length co15] (0, 0) _ rfl (by refine pkx ?_; refine al (cs := #[.int .i64 tq3, .slice none 0 0]) ?_ 1 _ rfl; refine pkx ?_; refine al (cs := #[.int .i64 0, .slice none 0 0]) ?_ 0 _ rfl; refine pkx ?_; exact BKqg.out) Tryz.underlying26 rfl (by kernel_rfl)) rfl ?_
  exact ⟨_, by first | rfl | (simp [errW_none, aj] <;> rfl) | (simp [*, errW_none, aj] <;> rfl), by refine pRx ?_; exact rf HOqi BKqg, pi_ HI0, pbI HB, pq HK⟩
 ·rw [if_neg c4] at H
  have c4b0 : (tq0 == 0) = false := beq_eq_false_iff_ne.mpr c4
  have c4b1 : (tq0 != 0) = true := bne_iff_ne.mpr c4
  by_cases c16 : tq0 = 1
  ·rw [if_pos c16] at H
   have c16b0 : (tq0 == 1) = true := beq_iff_eq.mpr c16
   have c16b1 : (tq0 != 1) = false := bne_eq_false_iff_eq.mpr c16
   clear c16
   replace H := bo H; obtain ⟨⟨tq4, tqj, tqk, tql⟩, A17, H⟩ := H
   (try dsimp only at H)
   by_cases c18 : tq4 ≤ a1
   ·rw [if_pos c18] at H
    have c18b0 := decide_eq_true c18
    clear c18
    simp only [Option.some.injEq, Prod.mk.injEq] at H
    obtain ⟨rfl, rfl, rfl, rfl⟩ := H
    go_enter Tryz.func163, Tryz.ntmps163
    go_wp2_with (first | ((with_reducible refine af (N := 4) rfl ?_); refine bx 4 #[.int .i64 0, .slice none 0 0] 26 ?_; intro gbqg hg w19 hbox hb; replace HB := bsI HB hb; have BKqg := aQ (hbox); have GWqg := gw HK hg; have GEqg := ge HK HW0 hg; replace HK := kt HK hb; have NB0_qg := nI HI0 hg; have NBqg_0 := mI HI0 hg; replace HI0 := bI HI0 hb; clear hb hbox hg) | (refine gq 99 (some 8) Tryz.func99 #[.pointer (some ⟨g, 0, none⟩), .int .i64 6] ?_; (with_reducible refine (ak.calls g s0_0 s0_1 s0_2 6 tq0 tq9 tqa w0 _ ?side1 ?side2 A3.out).mono ?_); (case side1 => exact pi_ HI0); (case side2 => exact pbI HB); rintro e w20 ⟨rfl, hi, hb, hk⟩; refine ⟨_, rfl, ?_⟩; replace BKqg := kk BKqg hk NBqg_0.out; replace HK := kh HK hk; replace HB := aQ (hb); replace HI0 := aQ (hi); (try clear hb); (try clear hk); (try clear hi)) | (refine gq 225 (some 24) Tryz.func225 #[.pointer (some ⟨g, 0, none⟩)] ?_; (with_reducible refine (db.calls k g s0_0 tq9 tqa tq4 tqj tqk tql w0 _ ?side1 ?side2 A17.out).mono ?_); (case side1 => exact pi_ HI0); (case side2 => exact pbI HB); rintro e w21 ⟨vqm, rfl, ho0, hi, hb, hk⟩; refine ⟨_, rfl, ?_⟩; replace BKqg := kk BKqg hk NBqg_0.out; have HOqn := aQ (Kd.R_lower ho0 (bp (w := w) (g := g) (row := none) (pq HK))); replace HK := kh HK hk; replace HB := aQ (hb); replace HI0 := aQ (hi); (try clear hb); (try clear hk); (try clear hi); (try clear ho0)) | ((with_reducible refine af (N := 6) rfl ?_); refine bx 6 #[.int .i64 0, .slice none 0 0] 26 ?_; intro gbqo hg w22 hbox hb; replace HOqn := aQ (Kd.R_below (pR HOqn.out) hb); replace HB := bsI HB hb; have BKqo := aQ (hbox); have GWqo := gw HK hg; have GEqo := ge HK HW0 hg; replace HK := kt HK hb; have NBqg_qo := nl BKqg hg; have NBqo_qg := ng BKqg hg; replace BKqg := bb BKqg hb; have NB0_qo := nI HI0 hg; have NBqo_0 := mI HI0 hg; replace HI0 := bI HI0 hb; clear hb hbox hg; have hnb23 := NBqo_qg.out; have hnc23 := NBqg_qo.out; have hnb24 := NBqo_0.out; have hnc24 := NB0_qo.out; obtain ⟨hcz25_0, hcz25_1, hfz25_0, hfz25_1⟩ := c2 BKqo; obtain ⟨Ao26, co26, eo26⟩ := Kd.R_slice HOqn.out; subst eo26; have hnb27 := NBqg_0.out; have hnc27 := NB0_qg.out; obtain ⟨hcz28_0, hcz28_1, hfz28_0, hfz28_1⟩ := c2 BKqg))
    refine bodyPost_ret (results_cell_row rfl _ _ gbqg 26 #[.int .i64 tq4, .slice Ao26 tqj.length co26] (0, 0) _ rfl (by refine pkx ?_; refine al (cs := #[.int .i64 tq4, .slice none 0 0]) ?_ 1 _ rfl; refine pkx ?_; refine al (cs := #[.int .i64 0, .slice none 0 0]) ?_ 0 _ rfl; refine pkx ?_; refine aU ?_ NBqg_qo.out _; refine pkx ?_; refine aU ?_ NBqg_qo.out _; refine pkx ?_; exact BKqg.out) Tryz.underlying26 rfl (by kernel_rfl)) rfl ?_
    exact ⟨_, by first | rfl | (simp [errW_none, aj] <;> rfl) | (simp [*, errW_none, aj] <;> rfl), by refine pRx ?_; exact Kd.R_mono (Kd.R_far (p := ⟨gbqg, 1, none⟩) (Kd.R_far (p := ⟨gbqg, 0, none⟩) (Kd.R_far (p := ⟨gbqo, 1, none⟩) (Kd.R_far (p := ⟨gbqo, 0, none⟩) (Kd.R_types (Kd.R_types HOqn.out BKqo.out (by decide)) BKqg.out (by decide)) (fun _ hk => hk.1.2) (.int .i64 tq4)) (fun _ hk => hk.1.2) (.slice Ao26 tqj.length co26)) (fun _ hk => hk.2) (.int .i64 tq4)) (fun _ hk => hk.2) (.slice Ao26 tqj.length co26)) (fun _ hk => trivial), pi_ HI0, pbI HB, pq HK⟩
   ·rw [if_neg c18] at H
    have c18b0 := decide_eq_false c18
    clear c18
    replace H := bo H; obtain ⟨⟨tq5, tqp, tqq⟩, A29, H⟩ := H
    (try dsimp only at H)
    replace H := bo H; obtain ⟨⟨tq6, tqr, tqs, tqt⟩, A30, H⟩ := H
    (try dsimp only at H)
    simp only [Option.some.injEq, Prod.mk.injEq] at H
    obtain ⟨rfl, rfl, rfl, rfl⟩ := H
    go_enter Tryz.func163, Tryz.ntmps163
    go_wp2_with (first | ((with_reducible refine af (N := 4) rfl ?_); refine bx 4 #[.int .i64 0, .slice none 0 0] 26 ?_; intro gbqg hg w31 hbox hb; replace HB := bsI HB hb; have BKqg := aQ (hbox); have GWqg := gw HK hg; have GEqg := ge HK HW0 hg; replace HK := kt HK hb; have NB0_qg := nI HI0 hg; have NBqg_0 := mI HI0 hg; replace HI0 := bI HI0 hb; clear hb hbox hg) | (refine gq 99 (some 8) Tryz.func99 #[.pointer (some ⟨g, 0, none⟩), .int .i64 6] ?_; (with_reducible refine (ak.calls g s0_0 s0_1 s0_2 6 tq0 tq9 tqa w0 _ ?side1 ?side2 A3.out).mono ?_); (case side1 => exact pi_ HI0); (case side2 => exact pbI HB); rintro e w32 ⟨rfl, hi, hb, hk⟩; refine ⟨_, rfl, ?_⟩; replace BKqg := kk BKqg hk NBqg_0.out; replace HK := kh HK hk; replace HB := aQ (hb); replace HI0 := aQ (hi); (try clear hb); (try clear hk); (try clear hi)) | (refine gq 225 (some 24) Tryz.func225 #[.pointer (some ⟨g, 0, none⟩)] ?_; (with_reducible refine (db.calls k g s0_0 tq9 tqa tq4 tqj tqk tql w0 _ ?side1 ?side2 A17.out).mono ?_); (case side1 => exact pi_ HI0); (case side2 => exact pbI HB); rintro e w33 ⟨vqm, rfl, ho0, hi, hb, hk⟩; refine ⟨_, rfl, ?_⟩; replace BKqg := kk BKqg hk NBqg_0.out; have HOqn := aQ (Kd.R_lower ho0 (bp (w := w) (g := g) (row := none) (pq HK))); replace HK := kh HK hk; replace HB := aQ (hb); replace HI0 := aQ (hi); (try clear hb); (try clear hk); (try clear hi); (try clear ho0)) | ((with_reducible refine af (N := 6) rfl ?_); refine bx 6 #[.int .i64 0, .slice none 0 0] 26 ?_; intro gbqo hg w34 hbox hb; replace HOqn := aQ (Kd.R_below (pR HOqn.out) hb); replace HB := bsI HB hb; have BKqo := aQ (hbox); have GWqo := gw HK hg; have GEqo := ge HK HW0 hg; replace HK := kt HK hb; have NBqg_qo := nl BKqg hg; have NBqo_qg := ng BKqg hg; replace BKqg := bb BKqg hb; have NB0_qo := nI HI0 hg; have NBqo_0 := mI HI0 hg; replace HI0 := bI HI0 hb; clear hb hbox hg; have hnb35 := NBqo_qg.out; have hnc35 := NBqg_qo.out; have hnb36 := NBqo_0.out; have hnc36 := NB0_qo.out; obtain ⟨hcz37_0, hcz37_1, hfz37_0, hfz37_1⟩ := c2 BKqo; obtain ⟨Ao38, co38, eo38⟩ := Kd.R_slice HOqn.out; subst eo38) | (refine gq 99 (some 34) Tryz.func99 #[.pointer (some ⟨g, 0, none⟩), .int .i64 (wrap64 (a1 + 1))] ?_; (with_reducible refine (ak.calls g s0_0 tqk tql (wrap64 (a1 + 1)) tq5 tqp tqq w0 _ ?side1 ?side2 A29.out).mono ?_); (case side1 => exact pi_ HI0); (case side2 => exact pbI HB); rintro e w39 ⟨rfl, hi, hb, hk⟩; refine ⟨_, rfl, ?_⟩; replace BKqg := aQ (KeepBut.blk hk (g' := gbqg) (o := .cells #[.int .i64 0, .slice none 0 0] 26 (0, 0)) (by refine pkx ?_; refine aU ?_ NBqg_qo.out _; refine pkx ?_; refine aU ?_ NBqg_qo.out _; refine pkx ?_; exact BKqg.out) NBqg_0.out (by simp)); replace HOqn := aQ (Kd.R_mono (Kd.R_keep (IsS126.apart (show IsS126 w0 _ g s0_0 tqk tql from pi_ HI0) (by refine pRx ?_; exact (Kd.R_mono (Kd.R_far (p := ⟨gbqo, 1, none⟩) (Kd.R_far (p := ⟨gbqo, 0, none⟩) (Kd.R_types HOqn.out BKqo.out (by decide)) (fun _ hk => hk.2) (.int .i64 tq4)) (fun _ hk => hk.2) (.slice Ao38 tqj.length co38)) (fun _ h_ => h_.1))) (by decide)) hk (fun _ h => h.2)) (fun _ h => h.1)); replace BKqo := aQ (KeepBut.blk hk (g' := gbqo) (o := .cells #[.int .i64 tq4, .slice Ao38 tqj.length co38] 26 (0, 0)) (by refine pkx ?_; refine al (cs := #[.int .i64 tq4, .slice none 0 0]) ?_ 1 _ rfl; refine pkx ?_; refine al (cs := #[.int .i64 0, .slice none 0 0]) ?_ 0 _ rfl; refine pkx ?_; exact BKqo.out) NBqo_0.out (by simp)); replace HK := kh HK hk; replace HB := aQ (hb); replace HI0 := aQ (hi); (try clear hb); (try clear hk); (try clear hi)) | (refine gq 202 (some 35) Tryz.func202 #[.pointer (some ⟨g, 0, none⟩), .int .i64 tq5] ?_; (with_reducible refine (bk.calls k g s0_0 tqp tqq tq5 tq6 tqr tqs tqt w0 _ ?side1 ?side2 A30.out).mono ?_); (case side1 => exact pi_ HI0); (case side2 => exact pbI HB); rintro e w40 ⟨vqu, rfl, ho0, hi, hb, hk⟩; refine ⟨_, rfl, ?_⟩; replace BKqg := kk BKqg hk NBqg_0.out; replace BKqo := kk BKqo hk NBqo_0.out; have HOqv := aQ (Kd.R_lower (Kd.R_new' ho0 (Kd.R_lt (pR HOqn.out))) (bp (w := w) (g := g) (row := none) (pq HK))); replace HOqn := aQ (Kd.R_mono (Kd.R_told (Kd.R_oldK (IsS126.apart (show IsS126 w0 _ g s0_0 tqp tqq from pi_ HI0) (pR HOqn.out) (by decide)) hk) (Kd.R_base ho0)) (fun _ h_ => h_.1)); replace HK := kh HK hk; replace HB := aQ (hb); replace HI0 := aQ (hi); (try clear hb); (try clear hk); (try clear hi); (try clear ho0); have hnb41 := NBqg_0.out; have hnc41 := NB0_qg.out; obtain ⟨hcz42_0, hcz42_1, hfz42_0, hfz42_1⟩ := c2 BKqg; obtain ⟨Ao43, co43, eo43⟩ := Kd.R_slice HOqv.out; subst eo43))
    refine bodyPost_ret (results_cell_row rfl _ _ gbqg 26 #[.int .i64 tq6, .slice Ao43 tqr.length co43] (0, 0) _ rfl (by refine pkx ?_; refine al (cs := #[.int .i64 tq6, .slice none 0 0]) ?_ 1 _ rfl; refine pkx ?_; refine al (cs := #[.int .i64 0, .slice none 0 0]) ?_ 0 _ rfl; refine pkx ?_; exact BKqg.out) Tryz.underlying26 rfl (by kernel_rfl)) rfl ?_
    exact ⟨_, by first | rfl | (simp [errW_none, aj] <;> rfl) | (simp [*, errW_none, aj] <;> rfl), by refine pRx ?_; exact rf HOqv BKqg, pi_ HI0, pbI HB, pq HK⟩
  ·rw [if_neg c16] at H
   have c16b0 : (tq0 == 1) = false := beq_eq_false_iff_ne.mpr c16
   have c16b1 : (tq0 != 1) = true := bne_iff_ne.mpr c16
   replace H := bo H; obtain ⟨⟨tq7, tqw, tqx⟩, A44, H⟩ := H
   (try dsimp only at H)
   replace H := bo H; obtain ⟨⟨tq8, tqy, tqz, tq10⟩, A45, H⟩ := H
   (try dsimp only at H)
   simp only [Option.some.injEq, Prod.mk.injEq] at H
   obtain ⟨rfl, rfl, rfl, rfl⟩ := H
   go_enter Tryz.func163, Tryz.ntmps163
   go_wp2_with (first | ((with_reducible refine af (N := 4) rfl ?_); refine bx 4 #[.int .i64 0, .slice none 0 0] 26 ?_; intro gbqg hg w46 hbox hb; replace HB := bsI HB hb; have BKqg := aQ (hbox); have GWqg := gw HK hg; have GEqg := ge HK HW0 hg; replace HK := kt HK hb; have NB0_qg := nI HI0 hg; have NBqg_0 := mI HI0 hg; replace HI0 := bI HI0 hb; clear hb hbox hg) | (refine gq 99 (some 8) Tryz.func99 #[.pointer (some ⟨g, 0, none⟩), .int .i64 6] ?_; (with_reducible refine (ak.calls g s0_0 s0_1 s0_2 6 tq0 tq9 tqa w0 _ ?side1 ?side2 A3.out).mono ?_); (case side1 => exact pi_ HI0); (case side2 => exact pbI HB); rintro e w47 ⟨rfl, hi, hb, hk⟩; refine ⟨_, rfl, ?_⟩; replace BKqg := kk BKqg hk NBqg_0.out; replace HK := kh HK hk; replace HB := aQ (hb); replace HI0 := aQ (hi); (try clear hb); (try clear hk); (try clear hi)) | (refine gq 99 (some 34) Tryz.func99 #[.pointer (some ⟨g, 0, none⟩), .int .i64 (wrap64 (a1 + 1))] ?_; (with_reducible refine (ak.calls g s0_0 tq9 tqa (wrap64 (a1 + 1)) tq7 tqw tqx w0 _ ?side1 ?side2 A44.out).mono ?_); (case side1 => exact pi_ HI0); (case side2 => exact pbI HB); rintro e w48 ⟨rfl, hi, hb, hk⟩; refine ⟨_, rfl, ?_⟩; replace BKqg := kk BKqg hk NBqg_0.out; replace HK := kh HK hk; replace HB := aQ (hb); replace HI0 := aQ (hi); (try clear hb); (try clear hk); (try clear hi)) | (refine gq 202 (some 35) Tryz.func202 #[.pointer (some ⟨g, 0, none⟩), .int .i64 tq7] ?_; (with_reducible refine (bk.calls k g s0_0 tqw tqx tq7 tq8 tqy tqz tq10 w0 _ ?side1 ?side2 A45.out).mono ?_); (case side1 => exact pi_ HI0); (case side2 => exact pbI HB); rintro e w49 ⟨vq11, rfl, ho0, hi, hb, hk⟩; refine ⟨_, rfl, ?_⟩; replace BKqg := kk BKqg hk NBqg_0.out; have HOq12 := aQ (Kd.R_lower ho0 (bp (w := w) (g := g) (row := none) (pq HK))); replace HK := kh HK hk; replace HB := aQ (hb); replace HI0 := aQ (hi); (try clear hb); (try clear hk); (try clear hi); (try clear ho0); have hnb50 := NBqg_0.out; have hnc50 := NB0_qg.out; obtain ⟨hcz51_0, hcz51_1, hfz51_0, hfz51_1⟩ := c2 BKqg; obtain ⟨Ao52, co52, eo52⟩ := Kd.R_slice HOq12.out; subst eo52))
   refine bodyPost_ret (results_cell_row rfl _ _ gbqg 26 #[.int .i64 tq8, .slice Ao52 tqy.length co52] (0, 0) _ rfl (by refine pkx ?_; refine al (cs := #[.int .i64 tq8, .slice none 0 0]) ?_ 1 _ rfl; refine pkx ?_; refine al (cs := #[.int .i64 0, .slice none 0 0]) ?_ 0 _ rfl; refine pkx ?_; exact BKqg.out) Tryz.underlying26 rfl (by kernel_rfl)) rfl ?_
   exact ⟨_, by first | rfl | (simp [errW_none, aj] <;> rfl) | (simp [*, errW_none, aj] <;> rfl), by refine pRx ?_; exact rf HOq12 BKqg, pi_ HI0, pbI HB, pq HK⟩
def bO.l0 : Nat → Int → List Int → Int → Int → List Int → Int → Int → Option (List Int × Int × Int)
 | 0, _, _, _, _, _, _, _ => none
 | k + 1, x1, x5, x6, x7, xq0, xq1, xq2 => if x7 < x6 then (if 0 ≤ (IntKind.u64.wrap (x1)) then ((ak.f xq0 xq1 xq2 (shl .i64 1 (IntKind.u64.wrap (x1)))).bind fun btq3 => (if x5.length < 17592186044416 then (bO.l0 k x1 (x5 ++ [btq3.1]) x6 (wrap64 (x7 + 1)) xq0 btq3.2.1 btq3.2.2) else (none))) else (none)) else (some (x5, xq1, xq2))
def bO.f (k : Nat) (s0_0 : List Int) (s0_1 : Int) (s0_2 : Int) (a1 : Int) : Option (List Int × Int × Int) := (ak.f s0_0 s0_1 s0_2 6).bind fun btq4 => (bO.l0 k a1 (([] : List Int)) btq4.1 0 s0_0 btq4.2.1 btq4.2.2)
theorem bO.calls (k : Nat) (g : Nat) (s0_0 : List Int) (s0_1 : Int) (s0_2 : Int) (a1 : Int) (r1 : List Int) (r2 : Int) (r3 : Int) (w0 w : World) (hI : IsS126 w0 w g s0_0 s0_1 s0_2) (hB : Below w0.heap.size w0 w) (h : bO.f k s0_0 s0_1 s0_2 a1 = some (r1, r2, r3)) :
  Calls Tryz.prog 216 #[.pointer (some ⟨g, 0, none⟩), .int .i64 a1] w fun e w' => ∃ v0_ : Value, e = .returned (v0_) ∧ Kd.R (Kd.int .i64) 3 w' w.heap.size (fun _ => True) v0_ r1 ∧ IsS126 w0 w' g s0_0 r2 r3 ∧ Below w0.heap.size w0 w' ∧ KeepBut w w' g none := by
 have HI0 := aQ hI
 have HK := aQ (KeepBut.refl w g none)
 have HL := aQ hB.size
 clear hI
 have HW0 := aQ hB.size
 have HB := aQ hB
 clear hB
 have H := h
 clear h
 unfold bO.f at H
 (try dsimp only at H)
 obtain ⟨yq5, hyq5⟩ : ∃ y_ : List Int, y_ = (([] : List Int)) := ⟨_, rfl⟩
 replace H : ((ak.f s0_0 s0_1 s0_2 6).bind fun btq4 => (bO.l0 k a1 yq5 btq4.1 0 s0_0 btq4.2.1 btq4.2.2)) = some (r1, r2, r3) := by first | (rw [hyq5]; with_reducible exact H) | (rw [hyq5]; exact H)
 have Nyq5 := aQ hyq5
 clear hyq5
 replace H := bo H; obtain ⟨⟨tq4, tq6, tq7⟩, A3, H⟩ := H
 (try dsimp only at H)
 have H' := aQ H
 clear H
 go_enter Tryz.func216, Tryz.ntmps216
 go_wp2_with (first | ((with_reducible refine af (N := 8) rfl ?_); refine Kd.R_lit (Kd.int .i64) _ 3 ?hg (N := 8) ?hd (xs := ([] : List Int)) (inner := []) (ok := fun _ => True) (okp := fun _ => True) ?hr ?hp (fun _ hk => hk) trivial (Below.refl _ _) (Nat.le_refl _) (by simp) ?_; (case hd => rfl); (case hg => rfl); (case hr => first | (go_simp; done) | (go_simp; rfl)); (case hp => exact (Reps.none _ _)); intro vq8 w4 ho5 hb hg_ hnew_; clear hg_ hnew_; (first | rw [← Nyq5.out] at ho5 | (simp only [Int.reduceToNat] at ho5; rw [← Nyq5.out] at ho5)); have HOq9 := aQ (Kd.R_lower ho5 (bp (w := w) (g := g) (row := none) (pq HK))); replace HK := kt HK hb; replace HB := bsI HB hb; replace HI0 := bI HI0 hb; clear hb ho5) | (refine gq 99 (some 10) Tryz.func99 #[.pointer (some ⟨g, 0, none⟩), .int .i64 6] ?_; (with_reducible refine (ak.calls g s0_0 s0_1 s0_2 6 tq4 tq6 tq7 w0 _ ?side1 ?side2 A3.out).mono ?_); (case side1 => exact pi_ HI0); (case side2 => exact pbI HB); rintro e w6 ⟨rfl, hi, hb, hk⟩; refine ⟨_, rfl, ?_⟩; replace HOq9 := aQ (Kd.R_mono (Kd.R_keep (IsS126.apart (show IsS126 w0 _ g s0_0 s0_1 s0_2 from pi_ HI0) (pR HOq9.out) (by decide)) hk (fun _ h => h.2)) (fun _ h => h.1)); replace HK := kh HK hk; replace HB := aQ (hb); replace HI0 := aQ (hi); (try clear hb); (try clear hk); (try clear hi)))
 go_loopg [5, 7] k (fun kq v5 v7 w' => ∃ (x5_1 : List Int) (x7_1 : Int) (xq1_1 : Int) (xq2_1 : Int), v7 = .int .i64 x7_1 ∧ Aside0 (bO.l0 kq a1 x5_1 tq4 x7_1 s0_0 xq1_1 xq2_1 = some (r1, r2, r3)) ∧ Aside0 (kq ≤ k) ∧ Aside0 (Kd.R (Kd.int .i64) 3 w' w.heap.size (fun _ => True) v5 x5_1) ∧ Aside0 (IsS126 w0 w' g s0_0 xq1_1 xq2_1) ∧ Aside0 (KeepBut w w' g none) ∧ Aside0 (Below w0.heap.size w0 w'))
 case atStart => exact ⟨(yq5), (0), (tq6), (tq7), rs_, H', ⟨Nat.le_refl _⟩, ⟨pR HOq9.out⟩, ⟨pi_ HI0⟩, ⟨pq HK⟩, ⟨pbI HB⟩⟩
 clear H'
 obtain ⟨x5_1, x7_1, xq1_1, xq2_1, rfl, HA, HK1, HO_5, HI0, HK, HB⟩ := hrel
 rcases gk with _ | k1
 ·exact absurd HA.out (by simp [bO.l0])
 have H := HA.out
 clear HA
 simp only [bO.l0] at H
 by_cases c7 : x7_1 < tq4
 ·rw [if_pos c7] at H
  have c7b0 := decide_eq_true c7
  clear c7
  obtain ⟨ji8, hji8⟩ : ∃ j_ : Int, (IntKind.u64.wrap (a1)) = j_ := ⟨_, rfl⟩
  replace H : (if 0 ≤ (ji8) then ((ak.f s0_0 xq1_1 xq2_1 (shl .i64 1 (ji8))).bind fun btq3 => (if x5_1.length < 17592186044416 then (bO.l0 k1 a1 (x5_1 ++ [btq3.1]) tq4 (wrap64 (x7_1 + 1)) s0_0 btq3.2.1 btq3.2.2) else (none))) else (none)) = some (r1, r2, r3) := by first | (rw [hji8] at H; exact H) | (simp only [hji8] at H ⊢; exact H)
  replace H := gd H; obtain ⟨c9, H⟩ := H
  have c9b0 := eq_true c9
  have c9b1 := decide_eq_true c9
  clear c9
  obtain ⟨ji10, hji10⟩ : ∃ j_ : Int, (shl .i64 1 (ji8)) = j_ := ⟨_, rfl⟩
  replace H : ((ak.f s0_0 xq1_1 xq2_1 (ji10)).bind fun btq3 => (if x5_1.length < 17592186044416 then (bO.l0 k1 a1 (x5_1 ++ [btq3.1]) tq4 (wrap64 (x7_1 + 1)) s0_0 btq3.2.1 btq3.2.2) else (none))) = some (r1, r2, r3) := by first | (rw [hji10] at H; exact H) | (simp only [hji10] at H ⊢; exact H)
  have hji10_ : (IntKind.i64.wrap (1 * 2 ^ min (ji8).toNat 64)) = ji10 := hji10
  have hji10z : (ji8) ≤ 64 → (IntKind.i64.wrap (1 * 2 ^ (ji8).toNat)) = ji10 := cP hji10
  have hji10u : (IntKind.i64.wrap (2 ^ min (ji8).toNat 64)) = ji10 := by have h_ := hji10_; rw [Int.one_mul] at h_; exact h_
  have hji10v : (ji8) ≤ 64 → (IntKind.i64.wrap (2 ^ (ji8).toNat)) = ji10 := fun hle_ => by have h_ := hji10z hle_; rw [Int.one_mul] at h_; exact h_
  have hji10y : (wrap64 (1 * 2 ^ min (ji8).toNat 64)) = ji10 := (i64_w _).symm.trans hji10_
  have hji10x : (ji8) ≤ 64 → (wrap64 (1 * 2 ^ (ji8).toNat)) = ji10 := fun h_ => (i64_w _).symm.trans (hji10z h_)
  replace H := bo H; obtain ⟨⟨tq3, tqa, tqb⟩, A11, H⟩ := H
  (try dsimp only at H)
  replace H := gd H; obtain ⟨c12, H⟩ := H
  have LMc12 := aQ c12
  clear c12
  obtain ⟨yqc, hyqc⟩ : ∃ y_ : List Int, y_ = (x5_1 ++ [tq3]) := ⟨_, rfl⟩
  replace H : (bO.l0 k1 a1 yqc tq4 (wrap64 (x7_1 + 1)) s0_0 tqa tqb) = some (r1, r2, r3) := by first | (rw [hyqc]; with_reducible exact H) | (rw [hyqc]; exact H)
  have Nyqc := aQ hyqc
  clear hyqc
  have H' := aQ H
  clear H
  go_wp2_with (first | ((with_reducible refine bi (f := 99) rfl ?_); refine fo (some 21) rfl rfl Tryz.func99 (by kernel_rfl) rfl #[.pointer (some ⟨g, 0, none⟩), .int .i64 ji10] rfl (by (try simp only [List.map_toArray, List.map_cons, List.map_nil]); first | done | (simp only [hji10]; rfl) | rfl | (simp only [List.length_drop, List.length_take]; rfl)) ?_; (with_reducible refine (ak.calls g s0_0 xq1_1 xq2_1 ji10 tq3 tqa tqb w0 _ ?side1 ?side2 A11.out).mono ?_); (case side1 => exact pi_ HI0); (case side2 => exact pbI HB); rintro e w13 ⟨rfl, hi, hb, hk⟩; refine ⟨_, rfl, ?_⟩; replace HO_5 := aQ (Kd.R_mono (Kd.R_keep (IsS126.apart (show IsS126 w0 _ g s0_0 xq1_1 xq2_1 from pi_ HI0) (pR HO_5.out) (by decide)) hk (fun _ h => h.2)) (fun _ h => h.1)); replace HK := kh HK hk; replace HB := aQ (hb); replace HI0 := aQ (hi); (try clear hb); (try clear hk); (try clear hi)) | ((with_reducible refine aW (b := .append) (xs := #[.tmp 16, .tmp 22]) rfl ?_); at_builtin; refine Kd.R_append (Kd.int .i64) w.heap.size rfl (.tmp 16) (.tmp 22) 24 3 (.int .i64 0) 8 rfl Tryz.underlying24 bR rfl (by decide) (by omega) u5 x5_1 tq3 [.int .i64 tq3] (fun _ => True) (fun _ => False) rfl rfl ?aP (fun _ hk => hk.elim) ?aF ?aO (Below.refl _ _) ?aS ?aL ?_; (case aP => exact rfl); (case aF => exact (fun _ _ => trivial)); (case aO => exact (pR HO_5.out)); (case aS => exact (bp (w := w) (g := g) (row := none) (pq HK))); (case aL => have := LMc12.out; omega); intro vqd w14 ho hb hg hat; rw [← Nyqc.out] at ho; replace HB := aQ (dj (pbI HB) HL.out hb); replace HI0 := aQ (IsS126.grown (pi_ HI0) hg (IsS126.own_ne HI0.out HO_5.out (by decide))); replace HK := aQ (KeepBut.trans (pq HK) (KeepBut.of_grown hg g) (Kd.R_base2 HO_5.out)); have HOqe := aQ (ho); clear HO_5; clear ho hb hg hat))
  go_roundg k1
  case measure => have := HK1.out; omega
  case rel => exact ⟨(yqc), (wrap64 (x7_1 + 1)), (tqa), (tqb), rs_, H', ⟨by have := HK1.out; omega⟩, ⟨pR HOqe.out⟩, ⟨pi_ HI0⟩, ⟨pq HK⟩, ⟨pbI HB⟩⟩
 ·rw [if_neg c7] at H
  have c7b0 := decide_eq_false c7
  clear c7
  simp only [Option.some.injEq, Prod.mk.injEq] at H
  obtain ⟨rfl, rfl, rfl⟩ := H
  go_wp2
  go_ret
  exact ⟨_, by first | rfl | (simp [errW_none, aj] <;> rfl) | (simp [*, errW_none, aj] <;> rfl), by refine pRx ?_; exact HO_5.out, pi_ HI0, pbI HB, pq HK⟩
def bB.f (k : Nat) (s0_0 : List Int) (s0_1 : Int) (s0_2 : Int) (a1 : Int) : Option (Int × List Int × Int × Int) := (ch.f k s0_0 s0_1 s0_2 a1).bind fun btq0 => ((ak.f s0_0 btq0.2.2.1 btq0.2.2.2 10).bind fun btq1 => (if btq1.1 = 0 then ((bE.f s0_0 btq1.2.1 btq1.2.2 (([(-1), 0, 2, 9] : List Int))).bind fun btq2 => (some (btq2.1, btq0.2.1, btq2.2.1, btq2.2.2))) else (if btq1.1 = 1 then ((dc.f s0_0 btq1.2.1 btq1.2.2).bind fun btq3 => (if btq0.2.1.length < 17592186044416 then (some (btq0.1, (btq0.2.1 ++ [btq3.1]), btq3.2.1, btq3.2.2)) else (none))) else (if btq1.1 = 2 then (if (btq0.2.1.length : Int) > 1 then ((ak.f s0_0 btq1.2.1 btq1.2.2 (btq0.2.1.length : Int)).bind fun btq4 => ((some (([] : List Int) : List Int)).bind fun yq5 => (if 0 ≤ btq4.1 then (if btq4.1 ≤ (btq0.2.1.length : Int) then ((some (btq0.2.1.take (btq4.1 : Int).toNat : List Int)).bind fun yq6 => (if yq5.length + yq6.length < 17592186044416 then ((some (yq5 ++ yq6 : List Int)).bind fun yq7 => (if 0 ≤ (wrap64 (btq4.1 + 1)) then (if (wrap64 (btq4.1 + 1)) ≤ (btq0.2.1.length : Int) then ((some (btq0.2.1.drop ((wrap64 (btq4.1 + 1)) : Int).toNat : List Int)).bind fun yq8 => (if yq7.length + yq8.length < 17592186044416 then (some (btq0.1, (yq7 ++ yq8), btq4.2.1, btq4.2.2)) else (none))) else (none)) else (none))) else (none))) else (none)) else (none)))) else (some (btq0.1, btq0.2.1, btq1.2.1, btq1.2.2))) else (if btq1.1 = 3 then ((cV.f btq0.1 8).bind fun tq9 => ((bM.f 0 tq9).bind fun tqa => ((bO.f k s0_0 btq1.2.1 btq1.2.2 tqa).bind fun btqb => ((ag.f k btqb.1).bind fun tqc => (some (btq0.1, tqc, btqb.2.1, btqb.2.2)))))) else (some (btq0.1, btq0.2.1, btq1.2.1, btq1.2.2)))))))
def bB.T6 : Bool × List (List Nat × List Nat) := (true, [([], []), ([0], [0]), ([], []), ([2], [2]), ([3], [3]), ([1, 4, 3], [1, 4]), ([0, 1, 2, 3, 4, 5], []), ([6, 5, 5, 0, 1, 2, 3, 4, 5], [5, 6])])
def bB.B6 : List Nat := [0, 1, 0, 4, 12, 31, 63, 127]
theorem bB.tab6 : rtab .any (eV Tryz.f141 6) = bB.T6 := by kernel_rfl
theorem bB.bits6 : cY bB.T6.2 bB.B6 = true := by kernel_rfl
def bB.T10 : Bool × List (List Nat × List Nat) := (true, [([], []), ([], []), ([1], [1]), ([], []), ([2, 3], [2, 3]), ([0, 4], [0, 4]), ([], []), ([6], [6]), ([], []), ([8], [8]), ([7, 9], [7, 9]), ([5, 10, 5], [5, 10]), ([0, 1, 2, 3, 4, 5, 6, 7, 8, 9, 10, 11], []), ([12, 11, 11, 0, 1, 2, 3, 4, 5, 6, 7, 8, 9, 10, 11], [11, 12])])
def bB.B10 : List Nat := [0, 0, 2, 0, 14, 31, 0, 64, 0, 256, 960, 2047, 4095, 8191]
theorem bB.tab10 : rtab .any (eV Tryz.f141 10) = bB.T10 := by kernel_rfl
theorem bB.bits10 : cY bB.T10.2 bB.B10 = true := by kernel_rfl
theorem bB.calls (k : Nat) (g : Nat) (s0_0 : List Int) (s0_1 : Int) (s0_2 : Int) (a1 : Int) (r1 : Int) (r2 : List Int) (r3 : Int) (r4 : Int) (w0 w : World) (hI : IsS126 w0 w g s0_0 s0_1 s0_2) (hB : Below w0.heap.size w0 w) (h : bB.f k s0_0 s0_1 s0_2 a1 = some (r1, r2, r3, r4)) :
  Calls Tryz.prog 141 #[.pointer (some ⟨g, 0, none⟩), .int .i64 a1] w fun e w' => ∃ v1_ : Value, e = .returned (.agg #[.int .i64 r1, v1_]) ∧ Kd.R (Kd.int .i64) 3 w' w.heap.size (fun _ => True) v1_ r2 ∧ IsS126 w0 w' g s0_0 r3 r4 ∧ Below w0.heap.size w0 w' ∧ KeepBut w w' g none := by
 have hu26 := Tryz.underlying26
 have HI0 := aQ hI
 have HK := aQ (KeepBut.refl w g none)
 have HL := aQ hB.size
 clear hI
 have HW0 := aQ hB.size
 have HB := aQ hB
 clear hB
 have H := h
 clear h
 unfold bB.f at H
 (try dsimp only at H)
 replace H := bo H; obtain ⟨⟨tq0, tqd, tqe, tqf⟩, A3, H⟩ := H
 (try dsimp only at H)
 replace H := bo H; obtain ⟨⟨tq1, tqg, tqh⟩, A4, H⟩ := H
 (try dsimp only at H)
 by_cases c5 : tq1 = 0
 ·rw [if_pos c5] at H
  have c5b0 : (tq1 == 0) = true := beq_iff_eq.mpr c5
  have c5b1 : (tq1 != 0) = false := bne_eq_false_iff_eq.mpr c5
  clear c5
  obtain ⟨yqi, hyqi⟩ : ∃ y_ : List Int, y_ = (([(-1), 0, 2, 9] : List Int)) := ⟨_, rfl⟩
  replace H : ((bE.f s0_0 tqg tqh yqi).bind fun btq2 => (some (btq2.1, tqd, btq2.2.1, btq2.2.2))) = some (r1, r2, r3, r4) := by first | (rw [hyqi]; with_reducible exact H) | (rw [hyqi]; exact H)
  have Nyqi := aQ hyqi
  clear hyqi
  replace H := bo H; obtain ⟨⟨tq2, tqj, tqk⟩, A6, H⟩ := H
  (try dsimp only at H)
  simp only [Option.some.injEq, Prod.mk.injEq] at H
  obtain ⟨rfl, rfl, rfl, rfl⟩ := H
  go_enter Tryz.func141, Tryz.ntmps141
  go_wp2_with (first | ((with_reducible refine af (N := 4) rfl ?_); refine bx 4 #[.int .i64 0, .slice none 0 0] 26 ?_; intro gbql hg w7 hbox hb; replace HB := bsI HB hb; have BKql := aQ (hbox); have GWql := gw HK hg; have GEql := ge HK HW0 hg; replace HK := kt HK hb; have NB0_ql := nI HI0 hg; have NBql_0 := mI HI0 hg; replace HI0 := bI HI0 hb; clear hb hbox hg) | (refine gq 163 (some 9) Tryz.func163 #[.pointer (some ⟨g, 0, none⟩), .int .i64 a1] ?_; (with_reducible refine (ch.calls k g s0_0 s0_1 s0_2 a1 tq0 tqd tqe tqf w0 _ ?side1 ?side2 A3.out).mono ?_); (case side1 => exact pi_ HI0); (case side2 => exact pbI HB); rintro e w8 ⟨vqm, rfl, ho0, hi, hb, hk⟩; refine ⟨_, rfl, ?_⟩; replace BKql := kk BKql hk NBql_0.out; have HOqn := aQ (Kd.R_lower ho0 (bp (w := w) (g := g) (row := none) (pq HK))); replace HK := kh HK hk; replace HB := aQ (hb); replace HI0 := aQ (hi); (try clear hb); (try clear hk); (try clear hi); (try clear ho0)) | ((with_reducible refine af (N := 5) rfl ?_); refine bx 5 #[.int .i64 0, .slice none 0 0] 26 ?_; intro gbqo hg w9 hbox hb; replace HOqn := aQ (Kd.R_below (pR HOqn.out) hb); replace HB := bsI HB hb; have BKqo := aQ (hbox); have GWqo := gw HK hg; have GEqo := ge HK HW0 hg; replace HK := kt HK hb; have NBql_qo := nl BKql hg; have NBqo_ql := ng BKql hg; replace BKql := bb BKql hb; have NB0_qo := nI HI0 hg; have NBqo_0 := mI HI0 hg; replace HI0 := bI HI0 hb; clear hb hbox hg; have hnb10 := NBqo_ql.out; have hnc10 := NBql_qo.out; have hnb11 := NBqo_0.out; have hnc11 := NB0_qo.out; obtain ⟨hcz12_0, hcz12_1, hfz12_0, hfz12_1⟩ := c2 BKqo; obtain ⟨Ao13, co13, eo13⟩ := Kd.R_slice HOqn.out; subst eo13) | (refine gq 99 (some 11) Tryz.func99 #[.pointer (some ⟨g, 0, none⟩), .int .i64 10] ?_; (with_reducible refine (ak.calls g s0_0 tqe tqf 10 tq1 tqg tqh w0 _ ?side1 ?side2 A4.out).mono ?_); (case side1 => exact pi_ HI0); (case side2 => exact pbI HB); rintro e w14 ⟨rfl, hi, hb, hk⟩; refine ⟨_, rfl, ?_⟩; replace BKql := aQ (KeepBut.blk hk (g' := gbql) (o := .cells #[.int .i64 0, .slice none 0 0] 26 (0, 0)) (by refine pkx ?_; refine aU ?_ NBql_qo.out _; refine pkx ?_; refine aU ?_ NBql_qo.out _; refine pkx ?_; exact BKql.out) NBql_0.out (by simp)); replace HOqn := aQ (Kd.R_mono (Kd.R_keep (IsS126.apart (show IsS126 w0 _ g s0_0 tqe tqf from pi_ HI0) (by refine pRx ?_; exact (Kd.R_mono (Kd.R_far (p := ⟨gbqo, 1, none⟩) (Kd.R_far (p := ⟨gbqo, 0, none⟩) (Kd.R_types HOqn.out BKqo.out (by decide)) (fun _ hk => hk.2) (.int .i64 tq0)) (fun _ hk => hk.2) (.slice Ao13 tqd.length co13)) (fun _ h_ => h_.1))) (by decide)) hk (fun _ h => h.2)) (fun _ h => h.1)); replace BKqo := aQ (KeepBut.blk hk (g' := gbqo) (o := .cells #[.int .i64 tq0, .slice Ao13 tqd.length co13] 26 (0, 0)) (by refine pkx ?_; refine al (cs := #[.int .i64 tq0, .slice none 0 0]) ?_ 1 _ rfl; refine pkx ?_; refine al (cs := #[.int .i64 0, .slice none 0 0]) ?_ 0 _ rfl; refine pkx ?_; exact BKqo.out) NBqo_0.out (by simp)); replace HK := kh HK hk; replace HB := aQ (hb); replace HI0 := aQ (hi); (try clear hb); (try clear hk); (try clear hi)) | ((with_reducible refine af (N := 15) rfl ?_); refine Kd.R_lit (Kd.int .i64) _ 3 ?hg (N := 15) ?hd (xs := ([(-1), 0, 2, 9] : List Int)) (inner := [.int .i64 (-1), .int .i64 0, .int .i64 2, .int .i64 9]) (ok := fun _ => True) (okp := fun _ => True) ?hr ?hp (fun _ hk => hk) trivial (Below.refl _ _) (Nat.le_refl _) (by simp) ?_; (case hd => rfl); (case hg => rfl); (case hr => first | (go_simp; done) | (go_simp; rfl)); (case hp => exact (Reps.one (show Kd.M (Kd.int .i64) _ _ _ (-1) [.int .i64 (-1)] from rfl) (Reps.one (show Kd.M (Kd.int .i64) _ _ _ 0 [.int .i64 0] from rfl) (Reps.one (show Kd.M (Kd.int .i64) _ _ _ 2 [.int .i64 2] from rfl) (Reps.one (show Kd.M (Kd.int .i64) _ _ _ 9 [.int .i64 9] from rfl) (Reps.none _ _)))))); intro vqp w15 ho16 hb hg_ hnew_; clear hg_ hnew_; (first | rw [← Nyqi.out] at ho16 | (simp only [Int.reduceToNat] at ho16; rw [← Nyqi.out] at ho16)); have HOqq := aQ (Kd.R_lower (Kd.R_new' ho16 (Kd.R_lt (pR HOqn.out))) (bp (w := w) (g := g) (row := none) (pq HK))); replace HOqn := aQ (Kd.R_elder' (pR HOqn.out) (Kd.R_base ho16) hb); replace BKql := bb BKql hb; replace BKqo := bb BKqo hb; replace HK := kt HK hb; replace HB := bsI HB hb; replace HI0 := bI HI0 hb; clear hb ho16; obtain ⟨Ao17, co17, eo17⟩ := Kd.R_slice HOqq.out; subst eo17) | (refine gq 172 (some 16) Tryz.func172 #[.pointer (some ⟨g, 0, none⟩), .slice Ao17 yqi.length co17] ?_; (with_reducible refine (bE.calls g s0_0 tqg tqh _ _ yqi tq2 tqj tqk w0 _ ?side1 ?side2 ?side3 ?side4 ?side5 A6.out).mono ?_); (case side1 => exact pi_ HI0); (case side2 => exact pbI HB); (case side3 => exact pC ((Kd.R_reads' HOqq.out).2.2)); (case side4 => exact (Kd.R_reads' HOqq.out).2.1); (case side5 => exact eI (IsS126.own_ne HI0.out HOqq.out (by decide))); rintro e w18 ⟨rfl, hi, hb, hk⟩; refine ⟨_, rfl, ?_⟩; replace BKql := kk BKql hk NBql_0.out; replace HOqn := aQ (Kd.R_mono (Kd.R_keep (IsS126.apart (show IsS126 w0 _ g s0_0 tqg tqh from pi_ HI0) (pR HOqn.out) (by decide)) hk (fun _ h => h.2)) (fun _ h => h.1)); replace BKqo := kk BKqo hk NBqo_0.out; replace HOqq := aQ (Kd.R_mono (Kd.R_keep (IsS126.apart (show IsS126 w0 _ g s0_0 tqg tqh from pi_ HI0) (pR HOqq.out) (by decide)) hk (fun _ h => h.2)) (fun _ h => h.1)); replace HK := kh HK hk; replace HB := aQ (hb); replace HI0 := aQ (hi); (try clear hb); (try clear hk); (try clear hi); obtain ⟨hcz19_0, hcz19_1, hfz19_0, hfz19_1⟩ := c2 BKqo; have hnb20 := NBql_0.out; have hnc20 := NB0_ql.out; obtain ⟨hcz21_0, hcz21_1, hfz21_0, hfz21_1⟩ := c2 BKql))
  refine bodyPost_ret (results_cell_row rfl _ _ gbql 26 #[.int .i64 tq2, .slice Ao13 tqd.length co13] (0, 0) _ rfl (by refine pkx ?_; refine al (cs := #[.int .i64 tq2, .slice none 0 0]) ?_ 1 _ rfl; refine pkx ?_; refine al (cs := #[.int .i64 0, .slice none 0 0]) ?_ 0 _ rfl; refine pkx ?_; refine aU ?_ NBql_qo.out _; refine pkx ?_; exact BKql.out) Tryz.underlying26 rfl (by kernel_rfl)) rfl ?_
  exact ⟨_, by first | rfl | (simp [errW_none, aj] <;> rfl) | (simp [*, errW_none, aj] <;> rfl), by refine pRx ?_; exact Kd.R_mono (Kd.R_far (p := ⟨gbql, 1, none⟩) (Kd.R_far (p := ⟨gbql, 0, none⟩) (Kd.R_far (p := ⟨gbqo, 0, none⟩) (Kd.R_types (Kd.R_types HOqn.out BKqo.out (by decide)) BKql.out (by decide)) (fun _ hk => hk.1.2) (.int .i64 tq2)) (fun _ hk => hk.2) (.int .i64 tq2)) (fun _ hk => hk.2) (.slice Ao13 tqd.length co13)) (fun _ hk => trivial), pi_ HI0, pbI HB, pq HK⟩
 ·rw [if_neg c5] at H
  have c5b0 : (tq1 == 0) = false := beq_eq_false_iff_ne.mpr c5
  have c5b1 : (tq1 != 0) = true := bne_iff_ne.mpr c5
  by_cases c22 : tq1 = 1
  ·rw [if_pos c22] at H
   have c22b0 : (tq1 == 1) = true := beq_iff_eq.mpr c22
   have c22b1 : (tq1 != 1) = false := bne_eq_false_iff_eq.mpr c22
   clear c22
   replace H := bo H; obtain ⟨⟨tq3, tqr, tqs⟩, A23, H⟩ := H
   (try dsimp only at H)
   replace H := gd H; obtain ⟨c24, H⟩ := H
   have LMc24 := aQ c24
   clear c24
   obtain ⟨yqt, hyqt⟩ : ∃ y_ : List Int, y_ = (tqd ++ [tq3]) := ⟨_, rfl⟩
   replace H : (some (tq0, yqt, tqr, tqs)) = some (r1, r2, r3, r4) := by first | (rw [hyqt]; with_reducible exact H) | (rw [hyqt]; exact H)
   have Nyqt := aQ hyqt
   clear hyqt
   simp only [Option.some.injEq, Prod.mk.injEq] at H
   obtain ⟨rfl, rfl, rfl, rfl⟩ := H
   go_enter Tryz.func141, Tryz.ntmps141
   try go_wp2_with (first | ((with_reducible refine af (N := 4) rfl ?_); refine bx 4 #[.int .i64 0, .slice none 0 0] 26 ?_; intro gbql hg w25 hbox hb; replace HB := bsI HB hb; have BKql := aQ (hbox); have GWql := gw HK hg; have GEql := ge HK HW0 hg; replace HK := kt HK hb; have NB0_ql := nI HI0 hg; have NBql_0 := mI HI0 hg; replace HI0 := bI HI0 hb; clear hb hbox hg) | (refine gq 163 (some 9) Tryz.func163 #[.pointer (some ⟨g, 0, none⟩), .int .i64 a1] ?_; (with_reducible refine (ch.calls k g s0_0 s0_1 s0_2 a1 tq0 tqd tqe tqf w0 _ ?side1 ?side2 A3.out).mono ?_); (case side1 => exact pi_ HI0); (case side2 => exact pbI HB); rintro e w26 ⟨vqm, rfl, ho0, hi, hb, hk⟩; refine ⟨_, rfl, ?_⟩; replace BKql := kk BKql hk NBql_0.out; have HOqn := aQ (Kd.R_lower ho0 (bp (w := w) (g := g) (row := none) (pq HK))); replace HK := kh HK hk; replace HB := aQ (hb); replace HI0 := aQ (hi); (try clear hb); (try clear hk); (try clear hi); (try clear ho0)) | ((with_reducible refine af (N := 5) rfl ?_); refine bx 5 #[.int .i64 0, .slice none 0 0] 26 ?_; intro gbqo hg w27 hbox hb; replace HOqn := aQ (Kd.R_below (pR HOqn.out) hb); replace HB := bsI HB hb; have BKqo := aQ (hbox); have GWqo := gw HK hg; have GEqo := ge HK HW0 hg; replace HK := kt HK hb; have NBql_qo := nl BKql hg; have NBqo_ql := ng BKql hg; replace BKql := bb BKql hb; have NB0_qo := nI HI0 hg; have NBqo_0 := mI HI0 hg; replace HI0 := bI HI0 hb; clear hb hbox hg; have hnb28 := NBqo_ql.out; have hnc28 := NBql_qo.out; have hnb29 := NBqo_0.out; have hnc29 := NB0_qo.out; obtain ⟨hcz30_0, hcz30_1, hfz30_0, hfz30_1⟩ := c2 BKqo; obtain ⟨Ao31, co31, eo31⟩ := Kd.R_slice HOqn.out; subst eo31) | (refine gq 99 (some 11) Tryz.func99 #[.pointer (some ⟨g, 0, none⟩), .int .i64 10] ?_; (with_reducible refine (ak.calls g s0_0 tqe tqf 10 tq1 tqg tqh w0 _ ?side1 ?side2 A4.out).mono ?_); (case side1 => exact pi_ HI0); (case side2 => exact pbI HB); rintro e w32 ⟨rfl, hi, hb, hk⟩; refine ⟨_, rfl, ?_⟩; replace BKql := aQ (KeepBut.blk hk (g' := gbql) (o := .cells #[.int .i64 0, .slice none 0 0] 26 (0, 0)) (by refine pkx ?_; refine aU ?_ NBql_qo.out _; refine pkx ?_; refine aU ?_ NBql_qo.out _; refine pkx ?_; exact BKql.out) NBql_0.out (by simp)); replace HOqn := aQ (Kd.R_mono (Kd.R_keep (IsS126.apart (show IsS126 w0 _ g s0_0 tqe tqf from pi_ HI0) (by refine pRx ?_; exact (Kd.R_mono (Kd.R_far (p := ⟨gbqo, 1, none⟩) (Kd.R_far (p := ⟨gbqo, 0, none⟩) (Kd.R_types HOqn.out BKqo.out (by decide)) (fun _ hk => hk.2) (.int .i64 tq0)) (fun _ hk => hk.2) (.slice Ao31 tqd.length co31)) (fun _ h_ => h_.1))) (by decide)) hk (fun _ h => h.2)) (fun _ h => h.1)); replace BKqo := aQ (KeepBut.blk hk (g' := gbqo) (o := .cells #[.int .i64 tq0, .slice Ao31 tqd.length co31] 26 (0, 0)) (by refine pkx ?_; refine al (cs := #[.int .i64 tq0, .slice none 0 0]) ?_ 1 _ rfl; refine pkx ?_; refine al (cs := #[.int .i64 0, .slice none 0 0]) ?_ 0 _ rfl; refine pkx ?_; exact BKqo.out) NBqo_0.out (by simp)); replace HK := kh HK hk; replace HB := aQ (hb); replace HI0 := aQ (hi); (try clear hb); (try clear hk); (try clear hi)))
   replace HOqn := aQ (Kd.R_drew HOqn.out); replace BKql := aQ (b7 BKql.out); replace BKqo := aQ (b7 BKqo.out); replace HI0 := aQ (IsS126.drew HI0.out); replace HK := aQ (dQ HK.out); replace HB := aQ (a7 HB.out)
   refine cN (n := 8) (S := fun w' => w'.cell? ⟨gbqo, 0, none⟩ = some (.int .i64 tq0) ∧ w'.cell? ⟨gbqo, 1, none⟩ = some (.slice Ao31 tqd.length co31)) (ds := [7]) _ (by kernel_rfl) rfl rfl ⟨(ac BKqo.out 0).trans rfl, (ac BKqo.out 1).trans rfl⟩ (fun hHeld => ?_); refine b0 bB.tab6 bB.bits6 (fun HT_ HW_ => ?_)
   generalize w32.drew = w33 at HOqn BKql BKqo HI0 HK HB hHeld ⊢
   refine pJ 0 (some 20) HT_ #[true, false, false, false, false, false, false, false] ?_
   refine pJ 2 (some 22) HT_ #[true, false, true, false, false, false, false, false] ?_
   refine take_ (i := 1) (N := some 21) (v := ?_) (a' := ?_) #[true, true, true, false, false, false, false, false] rfl rfl (dZ HT_.out HW_.out (by kernel_rfl)) (fun _ _ _ h => h) (Or.inl ⟨by rfl, ?_⟩) hHeld ?_ ?_
   rotate_left
   ·rintro w' ⟨s0, s1⟩
    go_simp
    with_reducible rfl
   rotate_left
   ·simp only [Act.put, List.setIfInBounds_toArray, List.set_cons_zero, List.set_cons_succ, i64_w, cI]
    rfl
   refine one_ (i := 3) (N := some 23) #[true, true, true, true, false, false, false, false] rfl rfl (eB HT_.out (by kernel_rfl)) (by decide) (fun K hK => ?_)
   refine gs Tryz.func127 #[.pointer (some ⟨g, 0, none⟩)] ?_
   with_reducible refine (dc.calls g s0_0 tqg tqh tq3 tqr tqs w0 _ ?side1 ?side2 A23.out).mono ?_
   (case side1 => exact pi_ HI0)
   (case side2 => exact pbI HB)
   rintro e w34 ⟨rfl, hi, hb, hk⟩
   refine ⟨_, rfl, ?_⟩
   replace BKql := kk BKql hk NBql_0.out; replace HOqn := aQ (Kd.R_mono (Kd.R_keep (IsS126.apart (show IsS126 w0 _ g s0_0 tqg tqh from pi_ HI0) (pR HOqn.out) (by decide)) hk (fun _ h => h.2)) (fun _ h => h.1)); replace BKqo := kk BKqo hk NBqo_0.out; replace HK := kh HK hk; replace HB := aQ (hb); replace HI0 := aQ (hi)
   (try clear hb)
   (try clear hb2)
   (try clear hk)
   (try clear hi)
   refine hK.out _ _ ⟨(ac BKqo.out 0).trans rfl, (ac BKqo.out 1).trans rfl⟩ (fun hHeld => ?_)
   clear hK K
   refine noN (some 23) (h := ?_)
   refine one_ (i := 4) (N := some 24) #[true, true, true, true, true, false, false, false] rfl rfl (eB HT_.out (by kernel_rfl)) (by decide) (fun K hK => ?_)
   refine ky (w1 := ?_) (v := ?_) (by rfl) rfl ?_ ?_
   rotate_left 2
   ·go_simp
    constructor
    ·rfl
    ·rfl
   refine hK.out _ _ ⟨(ac (dJ BKqo.out _) 0).trans rfl, (ac (dJ BKqo.out _) 1).trans rfl⟩ (fun hHeld => ?_)
   clear hK K
   refine noN (some 24) (h := ?_)
   refine one_ (i := 5) (N := some 25) #[true, true, true, true, true, true, false, false] rfl rfl (eB HT_.out (by kernel_rfl)) (by decide) (fun K hK => ?_)
   refine Kd.R_append_step (Kd.int .i64) w.heap.size (by rfl) (.tmp 21) (.tmp 24) 24 3 (.int .i64 0) 8 rfl Tryz.underlying24 bR rfl (by decide) (by omega) (.slice Ao31 tqd.length co31) tqd tq3 [.int .i64 tq3] (fun _ => True) (fun _ => False) rfl rfl ?aP (fun _ hk => hk.elim) ?aF ?aO (Below.refl _ _) ?aS ?aL ?_
   (case aP => exact rfl)
   (case aF => exact (fun _ _ => trivial))
   (case aO => exact (pR HOqn.out))
   (case aS => exact (bp (w := w) (g := g) (row := none) (pq HK)))
   (case aL => have := LMc24.out; omega)
   intro vqu w35 ho hb hg hat
   rw [← Nyqt.out] at ho
   replace HI0 := aQ (IsS126.grown (pi_ HI0) hg (IsS126.own_ne HI0.out HOqn.out (by decide))); replace BKql := aQ (cQ (g := gbql) (o := .cells #[.int .i64 0, .slice none 0 0] 26 (0, 0)) (pk BKql.out) hg (Kd.R_ne HOqn.out BKql.out (by decide))); replace BKqo := aQ (cQ (g := gbqo) (o := .cells #[.int .i64 tq0, .slice Ao31 tqd.length co31] 26 (0, 0)) (pk BKqo.out) hg (Kd.R_ne HOqn.out BKqo.out (by decide))); replace HB := aQ (dj (pbI HB) HL.out hb); replace HK := aQ (KeepBut.trans (pq HK) (KeepBut.of_grown hg g) (Kd.R_base2 HOqn.out)); have HOqv := aQ (ho); clear HOqn
   clear ho hb hg hat
   obtain ⟨Ao36, co36, eo36⟩ := Kd.R_slice HOqv.out
   (first | subst eo36 | (injection eo36 with f1_ f2_ f3_; have f4_ := f1_.symm; have f5_ := f3_.symm; clear f1_ f2_ f3_; subst f4_; subst f5_))
   refine hK.out _ _ ⟨(ac BKqo.out 0).trans rfl, (ac BKqo.out 1).trans rfl⟩ (fun hHeld => ?_)
   clear hK K
   refine noN (some 25) (h := ?_)
   refine pJ 6 (some 26) HT_ #[true, true, true, true, true, true, true, false] ?_
   refine l5 (i := 7) (N := none) #[true, true, true, true, true, true, true, true] rfl rfl (eB HT_.out (by kernel_rfl)) (by decide) (fun K hK => ?_)
   have hs37 : w35.cell? ⟨gbqo, 1, none⟩ = some (.slice Ao31 tqd.length co31) := (ac BKqo.out 1).trans rfl
   have hfs37 := aH BKqo.out 1
   have hns37_0 := NBql_qo.out
   have hms37_0 := NBqo_ql.out
   refine iK (w1 := ?_) (by rfl) rfl ?_ ?_
   rotate_left
   ·go_simp
    rfl
   refine hK.out _ _ ?_
   clear hK K
   refine dn (cB HT_.out (by kernel_rfl)) ?_
   obtain ⟨hcz38_0, hcz38_1, hfz38_0, hfz38_1⟩ := c2 BKqo
   have hnb39 := NBql_0.out
   have hnc39 := NB0_ql.out
   obtain ⟨hcz40_0, hcz40_1, hfz40_0, hfz40_1⟩ := c2 BKql
   try go_wp2
   refine bodyPost_ret (results_cell_row rfl _ _ gbql 26 #[.int .i64 tq0, .slice Ao36 yqt.length co36] (0, 0) _ rfl (by refine pkx ?_; refine al (cs := #[.int .i64 tq0, .slice none 0 0]) ?_ 1 _ rfl; refine pkx ?_; refine al (cs := #[.int .i64 0, .slice none 0 0]) ?_ 0 _ rfl; refine pkx ?_; refine aU ?_ NBql_qo.out _; refine pkx ?_; exact BKql.out) Tryz.underlying26 rfl (by kernel_rfl)) rfl ?_
   exact ⟨_, by first | rfl | (simp [errW_none, aj] <;> rfl) | (simp [*, errW_none, aj] <;> rfl), by refine pRx ?_; exact Kd.R_mono (Kd.R_far (p := ⟨gbql, 1, none⟩) (Kd.R_far (p := ⟨gbql, 0, none⟩) (Kd.R_far (p := ⟨gbqo, 1, none⟩) (Kd.R_types (Kd.R_types HOqv.out BKqo.out (by decide)) BKql.out (by decide)) (fun _ hk => hk.1.2) (.slice Ao36 yqt.length co36)) (fun _ hk => hk.2) (.int .i64 tq0)) (fun _ hk => hk.2) (.slice Ao36 yqt.length co36)) (fun _ hk => trivial), pi_ HI0, pbI HB, pq HK⟩
  ·rw [if_neg c22] at H
   have c22b0 : (tq1 == 1) = false := beq_eq_false_iff_ne.mpr c22
   have c22b1 : (tq1 != 1) = true := bne_iff_ne.mpr c22
   by_cases c41 : tq1 = 2
   ·rw [if_pos c41] at H
    have c41b0 : (tq1 == 2) = true := beq_iff_eq.mpr c41
    have c41b1 : (tq1 != 2) = false := bne_eq_false_iff_eq.mpr c41
    clear c41
    by_cases c42 : (tqd.length : Int) > 1
    ·rw [if_pos c42] at H
     have c42b0 := decide_eq_true c42
     have c42b1 : decide (1 < tqd.length) = true := decide_eq_true (by omega)
     clear c42
     replace H := bo H; obtain ⟨⟨tq4, tqw, tqx⟩, A43, H⟩ := H
     (try dsimp only at H)
     obtain ⟨yq5, hyq5⟩ : ∃ y_ : List Int, y_ = (([] : List Int)) := ⟨_, rfl⟩
     replace H := yy hyq5 H
     (try dsimp only at H)
     have Nyq5 := aQ hyq5
     clear hyq5
     replace H := gd H; obtain ⟨c44, H⟩ := H
     have c44b0 := eq_true c44
     have c44b1 := decide_eq_true c44
     clear c44
     replace H := gd H; obtain ⟨c45, H⟩ := H
     have c45b0 := eq_true c45
     have c45b1 := decide_eq_true c45
     clear c45
     obtain ⟨yq6, hyq6⟩ : ∃ y_ : List Int, y_ = (tqd.take (tq4 : Int).toNat) := ⟨_, rfl⟩
     replace H : (if yq5.length + yq6.length < 17592186044416 then ((some (yq5 ++ yq6 : List Int)).bind fun yq7 => (if 0 ≤ (wrap64 (tq4 + 1)) then (if (wrap64 (tq4 + 1)) ≤ (tqd.length : Int) then ((some (tqd.drop ((wrap64 (tq4 + 1)) : Int).toNat : List Int)).bind fun yq8 => (if yq7.length + yq8.length < 17592186044416 then (some (tq0, (yq7 ++ yq8), tqw, tqx)) else (none))) else (none)) else (none))) else (none)) = some (r1, r2, r3, r4) := by first | (rw [hyq6]; with_reducible exact H) | (rw [hyq6]; exact H)
     have Nyq6 := aQ hyq6
     clear hyq6
     replace H := gd H; obtain ⟨c46, H⟩ := H
     have LMc46 := aQ c46
     clear c46
     obtain ⟨yq7, hyq7⟩ : ∃ y_ : List Int, y_ = (yq5 ++ yq6) := ⟨_, rfl⟩
     replace H : (if 0 ≤ (wrap64 (tq4 + 1)) then (if (wrap64 (tq4 + 1)) ≤ (tqd.length : Int) then ((some (tqd.drop ((wrap64 (tq4 + 1)) : Int).toNat : List Int)).bind fun yq8 => (if yq7.length + yq8.length < 17592186044416 then (some (tq0, (yq7 ++ yq8), tqw, tqx)) else (none))) else (none)) else (none)) = some (r1, r2, r3, r4) := by first | (rw [hyq7]; with_reducible exact H) | (rw [hyq7]; exact H)
     have Nyq7 := aQ hyq7
     clear hyq7
     obtain ⟨ji47, hji47⟩ : ∃ j_ : Int, (wrap64 (tq4 + 1)) = j_ := ⟨_, rfl⟩
     replace H : (if 0 ≤ (ji47) then (if (ji47) ≤ (tqd.length : Int) then ((some (tqd.drop ((ji47) : Int).toNat : List Int)).bind fun yq8 => (if yq7.length + yq8.length < 17592186044416 then (some (tq0, (yq7 ++ yq8), tqw, tqx)) else (none))) else (none)) else (none)) = some (r1, r2, r3, r4) := by first | (rw [hji47] at H; exact H) | (simp only [hji47] at H ⊢; exact H)
     (try rw [hji47] at A3)
     (try rw [hji47] at A4)
     (try rw [hji47] at A43)
     have hji47w : (IntKind.i64.wrap (tq4 + 1)) = ji47 := (i64_w _).trans hji47
     replace H := gd H; obtain ⟨c48, H⟩ := H
     have c48b0 := eq_true c48
     have c48b1 := decide_eq_true c48
     clear c48
     replace H := gd H; obtain ⟨c49, H⟩ := H
     have c49b0 := eq_true c49
     have c49b1 := decide_eq_true c49
     clear c49
     obtain ⟨yq8, hyq8⟩ : ∃ y_ : List Int, y_ = (tqd.drop ((ji47) : Int).toNat) := ⟨_, rfl⟩
     replace H : (if yq7.length + yq8.length < 17592186044416 then (some (tq0, (yq7 ++ yq8), tqw, tqx)) else (none)) = some (r1, r2, r3, r4) := by first | (rw [hyq8]; with_reducible exact H) | (rw [hyq8]; exact H)
     have Nyq8 := aQ hyq8
     clear hyq8
     replace H := gd H; obtain ⟨c50, H⟩ := H
     have LMc50 := aQ c50
     clear c50
     obtain ⟨yqy, hyqy⟩ : ∃ y_ : List Int, y_ = (yq7 ++ yq8) := ⟨_, rfl⟩
     replace H : (some (tq0, yqy, tqw, tqx)) = some (r1, r2, r3, r4) := by first | (rw [hyqy]; with_reducible exact H) | (rw [hyqy]; exact H)
     have Nyqy := aQ hyqy
     clear hyqy
     simp only [Option.some.injEq, Prod.mk.injEq] at H
     obtain ⟨rfl, rfl, rfl, rfl⟩ := H
     go_enter Tryz.func141, Tryz.ntmps141
     try go_wp2_with (first | ((with_reducible refine af (N := 4) rfl ?_); refine bx 4 #[.int .i64 0, .slice none 0 0] 26 ?_; intro gbql hg w51 hbox hb; replace HB := bsI HB hb; have BKql := aQ (hbox); have GWql := gw HK hg; have GEql := ge HK HW0 hg; replace HK := kt HK hb; have NB0_ql := nI HI0 hg; have NBql_0 := mI HI0 hg; replace HI0 := bI HI0 hb; clear hb hbox hg) | (refine gq 163 (some 9) Tryz.func163 #[.pointer (some ⟨g, 0, none⟩), .int .i64 a1] ?_; (with_reducible refine (ch.calls k g s0_0 s0_1 s0_2 a1 tq0 tqd tqe tqf w0 _ ?side1 ?side2 A3.out).mono ?_); (case side1 => exact pi_ HI0); (case side2 => exact pbI HB); rintro e w52 ⟨vqm, rfl, ho0, hi, hb, hk⟩; refine ⟨_, rfl, ?_⟩; replace BKql := kk BKql hk NBql_0.out; have HOqn := aQ (Kd.R_lower ho0 (bp (w := w) (g := g) (row := none) (pq HK))); replace HK := kh HK hk; replace HB := aQ (hb); replace HI0 := aQ (hi); (try clear hb); (try clear hk); (try clear hi); (try clear ho0)) | ((with_reducible refine af (N := 5) rfl ?_); refine bx 5 #[.int .i64 0, .slice none 0 0] 26 ?_; intro gbqo hg w53 hbox hb; replace HOqn := aQ (Kd.R_below (pR HOqn.out) hb); replace HB := bsI HB hb; have BKqo := aQ (hbox); have GWqo := gw HK hg; have GEqo := ge HK HW0 hg; replace HK := kt HK hb; have NBql_qo := nl BKql hg; have NBqo_ql := ng BKql hg; replace BKql := bb BKql hb; have NB0_qo := nI HI0 hg; have NBqo_0 := mI HI0 hg; replace HI0 := bI HI0 hb; clear hb hbox hg; have hnb54 := NBqo_ql.out; have hnc54 := NBql_qo.out; have hnb55 := NBqo_0.out; have hnc55 := NB0_qo.out; obtain ⟨hcz56_0, hcz56_1, hfz56_0, hfz56_1⟩ := c2 BKqo; obtain ⟨Ao57, co57, eo57⟩ := Kd.R_slice HOqn.out; subst eo57) | (refine gq 99 (some 11) Tryz.func99 #[.pointer (some ⟨g, 0, none⟩), .int .i64 10] ?_; (with_reducible refine (ak.calls g s0_0 tqe tqf 10 tq1 tqg tqh w0 _ ?side1 ?side2 A4.out).mono ?_); (case side1 => exact pi_ HI0); (case side2 => exact pbI HB); rintro e w58 ⟨rfl, hi, hb, hk⟩; refine ⟨_, rfl, ?_⟩; replace BKql := aQ (KeepBut.blk hk (g' := gbql) (o := .cells #[.int .i64 0, .slice none 0 0] 26 (0, 0)) (by refine pkx ?_; refine aU ?_ NBql_qo.out _; refine pkx ?_; refine aU ?_ NBql_qo.out _; refine pkx ?_; exact BKql.out) NBql_0.out (by simp)); replace HOqn := aQ (Kd.R_mono (Kd.R_keep (IsS126.apart (show IsS126 w0 _ g s0_0 tqe tqf from pi_ HI0) (by refine pRx ?_; exact (Kd.R_mono (Kd.R_far (p := ⟨gbqo, 1, none⟩) (Kd.R_far (p := ⟨gbqo, 0, none⟩) (Kd.R_types HOqn.out BKqo.out (by decide)) (fun _ hk => hk.2) (.int .i64 tq0)) (fun _ hk => hk.2) (.slice Ao57 tqd.length co57)) (fun _ h_ => h_.1))) (by decide)) hk (fun _ h => h.2)) (fun _ h => h.1)); replace BKqo := aQ (KeepBut.blk hk (g' := gbqo) (o := .cells #[.int .i64 tq0, .slice Ao57 tqd.length co57] 26 (0, 0)) (by refine pkx ?_; refine al (cs := #[.int .i64 tq0, .slice none 0 0]) ?_ 1 _ rfl; refine pkx ?_; refine al (cs := #[.int .i64 0, .slice none 0 0]) ?_ 0 _ rfl; refine pkx ?_; exact BKqo.out) NBqo_0.out (by simp)); replace HK := kh HK hk; replace HB := aQ (hb); replace HI0 := aQ (hi); (try clear hb); (try clear hk); (try clear hi); obtain ⟨hcz59_0, hcz59_1, hfz59_0, hfz59_1⟩ := c2 BKqo) | (refine gq 99 (some 37) Tryz.func99 #[.pointer (some ⟨g, 0, none⟩), .int .i64 (tqd.length : Int)] ?_; (with_reducible refine (ak.calls g s0_0 tqg tqh (tqd.length : Int) tq4 tqw tqx w0 _ ?side1 ?side2 A43.out).mono ?_); (case side1 => exact pi_ HI0); (case side2 => exact pbI HB); rintro e w60 ⟨rfl, hi, hb, hk⟩; refine ⟨_, rfl, ?_⟩; replace BKql := kk BKql hk NBql_0.out; replace HOqn := aQ (Kd.R_mono (Kd.R_keep (IsS126.apart (show IsS126 w0 _ g s0_0 tqg tqh from pi_ HI0) (pR HOqn.out) (by decide)) hk (fun _ h => h.2)) (fun _ h => h.1)); replace BKqo := kk BKqo hk NBqo_0.out; replace HK := kh HK hk; replace HB := aQ (hb); replace HI0 := aQ (hi); (try clear hb); (try clear hk); (try clear hi)))
     replace HOqn := aQ (Kd.R_drew HOqn.out); replace BKql := aQ (b7 BKql.out); replace BKqo := aQ (b7 BKqo.out); replace HI0 := aQ (IsS126.drew HI0.out); replace HK := aQ (dQ HK.out); replace HB := aQ (a7 HB.out)
     have q62 : (tq4 : Int) ≤ ((tqd.length : Int) : Int) := of_decide_eq_true as_
     obtain ⟨i062, hi062, _, hsz62, _⟩ := info_parts bR
     have hroom62 : tqd.length ≤ co57 := (Kd.R_reads' HOqn.out).2.1
     have hC62 : Kd.C (Kd.int .i64) _ Ao57 tqd.length tqd := (Kd.R_reads' HOqn.out).2.2
     have hcut62 := eA (P := Tryz.prog) 24 3 .i64 Tryz.underlying24 hi062 Ao57 tqd.length co57 tq4 (of_decide_eq_true as_) q62 hroom62
     have hr62 := Kd.C_take (m := (tq4 : Int).toNat) hC62 (by omega)
     have hy62 : yq6.length = (tq4 : Int).toNat := (by rw [Nyq6.out, List.length_take]; omega)
     rw [← Nyq6.out] at hr62
     rw [← hy62] at hcut62
     have HRqz := aQ hr62
     have HCqz := aQ (show yq6.length ≤ co57 from by omega)
     clear hr62 hC62 hroom62 hi062 hsz62
     have KY62 := aQ hy62
     clear hy62
     have KL62 := aQ (show (tq4 : Int).toNat ≤ tqd.length from by omega)
     replace q62 := eq_true q62
     have q63 : ((ji47) : Int) ≤ ((tqd.length : Int) : Int) := of_decide_eq_true as_
     obtain ⟨i063, hi063, _, hsz63, _⟩ := info_parts bR
     have hroom63 : tqd.length ≤ co57 := (Kd.R_reads' HOqn.out).2.1
     have hC63 : Kd.C (Kd.int .i64) _ Ao57 tqd.length tqd := (Kd.R_reads' HOqn.out).2.2
     have q063 : (0 : Int) ≤ ((ji47) : Int) := of_decide_eq_true as_
     have hcut63 := dK (P := Tryz.prog) 24 3 .i64 Tryz.underlying24 hi063 1 hsz63 Ao57 tqd.length co57 (ji47) q063 q63
     have hr63 := Kd.C_drop (m := ((ji47) : Int).toNat) (c := co57) hC63 (by omega) hroom63
     obtain ⟨A63, hA63⟩ : ∃ A1, A1 = (if co57 = ((ji47) : Int).toNat then Ao57 else (Ao57 : Option Addr).map (·.add (((ji47) : Int).toNat * 1))) := ⟨_, rfl⟩
     obtain ⟨c63, hc63⟩ : ∃ c1, c1 = co57 - ((ji47) : Int).toNat := ⟨_, rfl⟩
     have hy63 : yq8.length = tqd.length - ((ji47) : Int).toNat := (by rw [Nyq8.out, List.length_drop] <;> omega)
     rw [show (tqd).drop ((ji47) : Int).toNat = yq8 from Nyq8.out.symm] at hr63
     replace hr63 : Kd.C (Kd.int .i64) _ A63 yq8.length yq8 := (by rw [hA63]; exact hr63)
     rw [← hy63, ← hA63, ← hc63] at hcut63
     have HRq10 := aQ hr63
     have HCq10 := aQ (show yq8.length ≤ c63 from by rw [hy63, hc63]; exact Nat.sub_le_sub_right hroom63 _)
     clear hr63 hC63 hroom63 hi063 hsz63 hc63
     have KY63 := aQ hy63
     have KA63 := aQ hA63
     clear hy63 hA63
     have KL63 := aQ (show ((ji47) : Int).toNat ≤ tqd.length from by omega)
     replace q63 := eq_true q63
     refine cN (n := 14) (S := fun w' => w'.cell? ⟨gbqo, 0, none⟩ = some (.int .i64 tq0) ∧ w'.cell? ⟨gbqo, 1, none⟩ = some (.slice Ao57 tqd.length co57)) (ds := [13]) _ (by kernel_rfl) rfl rfl ⟨(ac BKqo.out 0).trans rfl, (ac BKqo.out 1).trans rfl⟩ (fun hHeld => ?_); refine b0 bB.tab10 bB.bits10 (fun HT_ HW_ => ?_)
     generalize w60.drew = w61 at HOqn BKql BKqo HI0 HK HB HRqz HRq10 hHeld ⊢
     refine pJ 1 (some 39) HT_ #[false, true, false, false, false, false, false, false, false, false, false, false, false, false] ?_
     refine pJ 3 (some 41) HT_ #[false, true, false, true, false, false, false, false, false, false, false, false, false, false] ?_
     refine pJ 6 (some 44) HT_ #[false, true, false, true, false, false, true, false, false, false, false, false, false, false] ?_
     refine pJ 8 (some 46) HT_ #[false, true, false, true, false, false, true, false, true, false, false, false, false, false] ?_
     refine pJ 9 (some 47) HT_ #[false, true, false, true, false, false, true, false, true, true, false, false, false, false] ?_
     refine take_ (i := 2) (N := some 40) (v := ?_) (a' := ?_) #[false, true, true, true, false, false, true, false, true, true, false, false, false, false] rfl rfl (dZ HT_.out HW_.out (by kernel_rfl)) (fun _ _ _ h => h) (Or.inl ⟨by rfl, ?_⟩) hHeld ?_ ?_
     rotate_left
     ·rintro w' ⟨s0, s1⟩
      go_simp
      with_reducible rfl
     rotate_left
     ·simp only [Act.put, List.setIfInBounds_toArray, List.set_cons_zero, List.set_cons_succ, i64_w, cI]
      rfl
     refine pJ 4 (some 42) HT_ #[false, true, true, true, true, false, true, false, true, true, false, false, false, false] ?_
     refine take_ (i := 7) (N := some 45) (v := ?_) (a' := ?_) #[false, true, true, true, true, false, true, true, true, true, false, false, false, false] rfl rfl (dZ HT_.out HW_.out (by kernel_rfl)) (fun _ _ _ h => h) (Or.inl ⟨by rfl, ?_⟩) hHeld ?_ ?_
     rotate_left
     ·rintro w' ⟨s0, s1⟩
      go_simp
      with_reducible rfl
     rotate_left
     ·simp only [Act.put, List.setIfInBounds_toArray, List.set_cons_zero, List.set_cons_succ, i64_w, cI]
      rfl
     refine pJ 10 (some 48) HT_ #[false, true, true, true, true, false, true, true, true, true, true, false, false, false] ?_
     refine one_ (i := 0) (N := some 38) #[true, true, true, true, true, false, true, true, true, true, true, false, false, false] rfl rfl (eB HT_.out (by kernel_rfl)) (by decide) (fun K hK => ?_)
     refine Kd.R_lit_step (Kd.int .i64) _ 3 ?hg (N := 38) ?hd (xs := ([] : List Int)) (inner := []) (ok := fun _ => True) (okp := fun _ => True) ?hr ?hp (fun _ hk => hk) trivial (Below.refl _ _) (Nat.le_refl _) (by simp) ?_; (case hd => rfl); (case hg => rfl); (case hr => first | (go_simp; done) | (go_simp; rfl)); (case hp => exact (Reps.none _ _))
     intro vq11 w64 ho65 hb hg_ hnew_
     clear hg_ hnew_
     (first | rw [← Nyq5.out] at ho65 | (simp only [Int.reduceToNat] at ho65; rw [← Nyq5.out] at ho65))
     have HOq12 := aQ (Kd.R_lower (Kd.R_new' ho65 (Kd.R_lt (pR HOqn.out))) (bp (w := w) (g := g) (row := none) (pq HK))); replace HOqn := aQ (Kd.R_elder' (pR HOqn.out) (Kd.R_base ho65) hb); replace HI0 := bI HI0 hb; replace BKql := bb BKql hb; replace BKqo := bb BKqo hb; replace HRqz := aQ (Kd.C_below (by repeat (first | (with_reducible exact HRqz.out) | (with_reducible refine Kd.C_alloc ?_ _) | (with_reducible refine Kd.C_drewN ?_ _) | (with_reducible refine Kd.C_drew ?_) | exact HRqz.out)) hb); replace HRq10 := aQ (Kd.C_below (by repeat (first | (with_reducible exact HRq10.out) | (with_reducible refine Kd.C_alloc ?_ _) | (with_reducible refine Kd.C_drewN ?_ _) | (with_reducible refine Kd.C_drew ?_) | exact HRq10.out)) hb); replace HK := kt HK hb; replace HB := bsI HB hb
     clear hb ho65
     refine hK.out _ _ ⟨(ac BKqo.out 0).trans rfl, (ac BKqo.out 1).trans rfl⟩ (fun hHeld => ?_)
     clear hK K
     refine noN (some 38) (h := ?_)
     refine one_ (i := 5) (N := some 43) #[true, true, true, true, true, true, true, true, true, true, true, false, false, false] rfl rfl (eB HT_.out (by kernel_rfl)) (by decide) (fun K hK => ?_)
     refine Kd.R_append_rows_step (Kd.int .i64) w.heap.size (by rfl) (.tmp 38) (.tmp 42) 24 3 (.int .i64 0) 8 rfl Tryz.underlying24 bR rfl (by decide) (by omega) vq11 yq5 yq6 _ _ _ (fun k_ => some k_ ≠ (.slice Ao57 tqd.length co57 : Value).ownBlock) (fun _ => False) rfl rfl ?aO ?aR (fun _ _ h => h) (fun _ h => h.elim) ?aF (Below.refl _ _) ?aS ?aL ?_
     (case aR => exact pC ((by repeat (first | (with_reducible exact HRqz.out) | (with_reducible refine Kd.C_alloc ?_ _) | (with_reducible refine Kd.C_drewN ?_ _) | (with_reducible refine Kd.C_drew ?_) | exact HRqz.out))))
     (case aF => exact (fun k_ hk => Kd.fresh' (Kd.R_lt (pR HOqn.out)) k_ hk))
     (case aO => exact (by refine pRx ?_; exact Kd.R_mono HOq12.out (fun _ hk => hk.2)))
     (case aS => exact (bp (w := w) (g := g) (row := none) (pq HK)))
     (case aL => have := LMc46.out; omega)
     intro vq13 w66 ho hb hg hat
     rw [← Nyq7.out] at ho
     replace HI0 := aQ (IsS126.grown (pi_ HI0) hg (IsS126.own_ne HI0.out HOq12.out (by decide))); replace BKql := aQ (cQ (g := gbql) (o := .cells #[.int .i64 0, .slice none 0 0] 26 (0, 0)) (pk BKql.out) hg (Kd.R_ne HOq12.out BKql.out (by decide))); replace BKqo := aQ (cQ (g := gbqo) (o := .cells #[.int .i64 tq0, .slice Ao57 tqd.length co57] 26 (0, 0)) (pk BKqo.out) hg (Kd.R_ne HOq12.out BKqo.out (by decide))); replace HB := aQ (dj (pbI HB) HL.out hb); replace HK := aQ (KeepBut.trans (pq HK) (KeepBut.of_grown hg g) (Kd.R_base2 HOq12.out)); replace HRqz := aQ ((show Kd.C (Kd.int .i64) w66 Ao57 yq6.length yq6 from by rw [Nyq6.out]; exact Kd.C_take (m := (tq4 : Int).toNat) ((Kd.R_reads' (Kd.R_after (ok := (fun _ => True)) (pR HOqn.out) hg hat)).2.2) KL62.out)); replace HRq10 := aQ ((show Kd.C (Kd.int .i64) w66 A63 yq8.length yq8 from by rw [Nyq8.out, KA63.out]; exact Kd.C_drop (m := ((ji47) : Int).toNat) (c := co57) ((Kd.R_reads' (Kd.R_after (ok := (fun _ => True)) (pR HOqn.out) hg hat)).2.2) KL63.out ((Kd.R_reads' (Kd.R_after (ok := (fun _ => True)) (pR HOqn.out) hg hat)).2.1))); replace HOqn := aQ (Kd.R_after (ok := (fun _ => True)) (pR HOqn.out) hg hat); have HOq14 := aQ (ho); clear HOq12
     clear ho hb hg hat
     refine hK.out _ _ ⟨(ac BKqo.out 0).trans rfl, (ac BKqo.out 1).trans rfl⟩ (fun hHeld => ?_)
     clear hK K
     refine noN (some 43) (h := ?_)
     refine one_ (i := 11) (N := some 49) #[true, true, true, true, true, true, true, true, true, true, true, true, false, false] rfl rfl (eB HT_.out (by kernel_rfl)) (by decide) (fun K hK => ?_)
     refine Kd.R_append_rows_step (Kd.int .i64) w.heap.size (by rfl) (.tmp 43) (.tmp 48) 24 3 (.int .i64 0) 8 rfl Tryz.underlying24 bR rfl (by decide) (by omega) vq13 yq7 yq8 _ _ _ (fun k_ => some k_ ≠ (.slice Ao57 tqd.length co57 : Value).ownBlock) (fun _ => False) rfl rfl ?aO ?aR (fun _ _ h => h) (fun _ h => h.elim) ?aF (Below.refl _ _) ?aS ?aL ?_
     (case aR => exact pC ((by repeat (first | (with_reducible exact HRq10.out) | (with_reducible refine Kd.C_alloc ?_ _) | (with_reducible refine Kd.C_drewN ?_ _) | (with_reducible refine Kd.C_drew ?_) | exact HRq10.out))))
     (case aF => exact (fun k_ hk => Kd.fresh' (Kd.R_lt (pR HOqn.out)) k_ hk))
     (case aO => exact (pR HOq14.out))
     (case aS => exact (bp (w := w) (g := g) (row := none) (pq HK)))
     (case aL => have := LMc50.out; omega)
     intro vq15 w67 ho hb hg hat
     rw [← Nyqy.out] at ho
     replace HI0 := aQ (IsS126.grown (pi_ HI0) hg (IsS126.own_ne HI0.out HOq14.out (by decide))); replace BKql := aQ (cQ (g := gbql) (o := .cells #[.int .i64 0, .slice none 0 0] 26 (0, 0)) (pk BKql.out) hg (Kd.R_ne HOq14.out BKql.out (by decide))); replace BKqo := aQ (cQ (g := gbqo) (o := .cells #[.int .i64 tq0, .slice Ao57 tqd.length co57] 26 (0, 0)) (pk BKqo.out) hg (Kd.R_ne HOq14.out BKqo.out (by decide))); replace HB := aQ (dj (pbI HB) HL.out hb); replace HK := aQ (KeepBut.trans (pq HK) (KeepBut.of_grown hg g) (Kd.R_base2 HOq14.out)); replace HRqz := aQ ((show Kd.C (Kd.int .i64) w67 Ao57 yq6.length yq6 from by rw [Nyq6.out]; exact Kd.C_take (m := (tq4 : Int).toNat) ((Kd.R_reads' (Kd.R_after (ok := (fun _ => True)) (pR HOqn.out) hg hat)).2.2) KL62.out)); replace HRq10 := aQ ((show Kd.C (Kd.int .i64) w67 A63 yq8.length yq8 from by rw [Nyq8.out, KA63.out]; exact Kd.C_drop (m := ((ji47) : Int).toNat) (c := co57) ((Kd.R_reads' (Kd.R_after (ok := (fun _ => True)) (pR HOqn.out) hg hat)).2.2) KL63.out ((Kd.R_reads' (Kd.R_after (ok := (fun _ => True)) (pR HOqn.out) hg hat)).2.1))); replace HOqn := aQ (Kd.R_after (ok := (fun _ => True)) (pR HOqn.out) hg hat); have HOq16 := aQ (ho); clear HOq14
     clear ho hb hg hat
     obtain ⟨Ao68, co68, eo68⟩ := Kd.R_slice HOq16.out
     (first | subst eo68 | (injection eo68 with f1_ f2_ f3_; have f4_ := f1_.symm; have f5_ := f3_.symm; clear f1_ f2_ f3_; subst f4_; subst f5_))
     refine hK.out _ _ ⟨(ac BKqo.out 0).trans rfl, (ac BKqo.out 1).trans rfl⟩ (fun hHeld => ?_)
     clear hK K
     refine noN (some 49) (h := ?_)
     refine pJ 12 (some 50) HT_ #[true, true, true, true, true, true, true, true, true, true, true, true, true, false] ?_
     refine l5 (i := 13) (N := none) #[true, true, true, true, true, true, true, true, true, true, true, true, true, true] rfl rfl (eB HT_.out (by kernel_rfl)) (by decide) (fun K hK => ?_)
     have hs69 : w67.cell? ⟨gbqo, 1, none⟩ = some (.slice Ao57 tqd.length co57) := (ac BKqo.out 1).trans rfl
     have hfs69 := aH BKqo.out 1
     have hns69_0 := NBql_qo.out
     have hms69_0 := NBqo_ql.out
     refine iK (w1 := ?_) (by rfl) rfl ?_ ?_
     rotate_left
     ·go_simp
      rfl
     refine hK.out _ _ ?_
     clear hK K
     refine dn (cB HT_.out (by kernel_rfl)) ?_
     obtain ⟨hcz70_0, hcz70_1, hfz70_0, hfz70_1⟩ := c2 BKqo
     have hnb71 := NBql_0.out
     have hnc71 := NB0_ql.out
     obtain ⟨hcz72_0, hcz72_1, hfz72_0, hfz72_1⟩ := c2 BKql
     try go_wp2
     refine bodyPost_ret (results_cell_row rfl _ _ gbql 26 #[.int .i64 tq0, .slice Ao68 yqy.length co68] (0, 0) _ rfl (by refine pkx ?_; refine al (cs := #[.int .i64 tq0, .slice none 0 0]) ?_ 1 _ rfl; refine pkx ?_; refine al (cs := #[.int .i64 0, .slice none 0 0]) ?_ 0 _ rfl; refine pkx ?_; refine aU ?_ NBql_qo.out _; refine pkx ?_; exact BKql.out) Tryz.underlying26 rfl (by kernel_rfl)) rfl ?_
     exact ⟨_, by first | rfl | (simp [errW_none, aj] <;> rfl) | (simp only [← hji47]; first | rfl | (simp [errW_none, aj] <;> rfl)) | (simp [*, errW_none, aj] <;> rfl), by refine pRx ?_; exact Kd.R_mono (Kd.R_far (p := ⟨gbql, 1, none⟩) (Kd.R_far (p := ⟨gbql, 0, none⟩) (Kd.R_far (p := ⟨gbqo, 1, none⟩) (Kd.R_types (Kd.R_types HOq16.out BKqo.out (by decide)) BKql.out (by decide)) (fun _ hk => hk.1.2) (.slice Ao68 yqy.length co68)) (fun _ hk => hk.2) (.int .i64 tq0)) (fun _ hk => hk.2) (.slice Ao68 yqy.length co68)) (fun _ hk => trivial), pi_ HI0, pbI HB, pq HK⟩
    ·rw [if_neg c42] at H
     have c42b0 := decide_eq_false c42
     have c42b1 : decide (1 < tqd.length) = false := decide_eq_false (by omega)
     clear c42
     simp only [Option.some.injEq, Prod.mk.injEq] at H
     obtain ⟨rfl, rfl, rfl, rfl⟩ := H
     go_enter Tryz.func141, Tryz.ntmps141
     go_wp2_with (first | ((with_reducible refine af (N := 4) rfl ?_); refine bx 4 #[.int .i64 0, .slice none 0 0] 26 ?_; intro gbql hg w73 hbox hb; replace HB := bsI HB hb; have BKql := aQ (hbox); have GWql := gw HK hg; have GEql := ge HK HW0 hg; replace HK := kt HK hb; have NB0_ql := nI HI0 hg; have NBql_0 := mI HI0 hg; replace HI0 := bI HI0 hb; clear hb hbox hg) | (refine gq 163 (some 9) Tryz.func163 #[.pointer (some ⟨g, 0, none⟩), .int .i64 a1] ?_; (with_reducible refine (ch.calls k g s0_0 s0_1 s0_2 a1 tq0 tqd tqe tqf w0 _ ?side1 ?side2 A3.out).mono ?_); (case side1 => exact pi_ HI0); (case side2 => exact pbI HB); rintro e w74 ⟨vqm, rfl, ho0, hi, hb, hk⟩; refine ⟨_, rfl, ?_⟩; replace BKql := kk BKql hk NBql_0.out; have HOqn := aQ (Kd.R_lower ho0 (bp (w := w) (g := g) (row := none) (pq HK))); replace HK := kh HK hk; replace HB := aQ (hb); replace HI0 := aQ (hi); (try clear hb); (try clear hk); (try clear hi); (try clear ho0)) | ((with_reducible refine af (N := 5) rfl ?_); refine bx 5 #[.int .i64 0, .slice none 0 0] 26 ?_; intro gbqo hg w75 hbox hb; replace HOqn := aQ (Kd.R_below (pR HOqn.out) hb); replace HB := bsI HB hb; have BKqo := aQ (hbox); have GWqo := gw HK hg; have GEqo := ge HK HW0 hg; replace HK := kt HK hb; have NBql_qo := nl BKql hg; have NBqo_ql := ng BKql hg; replace BKql := bb BKql hb; have NB0_qo := nI HI0 hg; have NBqo_0 := mI HI0 hg; replace HI0 := bI HI0 hb; clear hb hbox hg; have hnb76 := NBqo_ql.out; have hnc76 := NBql_qo.out; have hnb77 := NBqo_0.out; have hnc77 := NB0_qo.out; obtain ⟨hcz78_0, hcz78_1, hfz78_0, hfz78_1⟩ := c2 BKqo; obtain ⟨Ao79, co79, eo79⟩ := Kd.R_slice HOqn.out; subst eo79) | (refine gq 99 (some 11) Tryz.func99 #[.pointer (some ⟨g, 0, none⟩), .int .i64 10] ?_; (with_reducible refine (ak.calls g s0_0 tqe tqf 10 tq1 tqg tqh w0 _ ?side1 ?side2 A4.out).mono ?_); (case side1 => exact pi_ HI0); (case side2 => exact pbI HB); rintro e w80 ⟨rfl, hi, hb, hk⟩; refine ⟨_, rfl, ?_⟩; replace BKql := aQ (KeepBut.blk hk (g' := gbql) (o := .cells #[.int .i64 0, .slice none 0 0] 26 (0, 0)) (by refine pkx ?_; refine aU ?_ NBql_qo.out _; refine pkx ?_; refine aU ?_ NBql_qo.out _; refine pkx ?_; exact BKql.out) NBql_0.out (by simp)); replace HOqn := aQ (Kd.R_mono (Kd.R_keep (IsS126.apart (show IsS126 w0 _ g s0_0 tqe tqf from pi_ HI0) (by refine pRx ?_; exact (Kd.R_mono (Kd.R_far (p := ⟨gbqo, 1, none⟩) (Kd.R_far (p := ⟨gbqo, 0, none⟩) (Kd.R_types HOqn.out BKqo.out (by decide)) (fun _ hk => hk.2) (.int .i64 tq0)) (fun _ hk => hk.2) (.slice Ao79 tqd.length co79)) (fun _ h_ => h_.1))) (by decide)) hk (fun _ h => h.2)) (fun _ h => h.1)); replace BKqo := aQ (KeepBut.blk hk (g' := gbqo) (o := .cells #[.int .i64 tq0, .slice Ao79 tqd.length co79] 26 (0, 0)) (by refine pkx ?_; refine al (cs := #[.int .i64 tq0, .slice none 0 0]) ?_ 1 _ rfl; refine pkx ?_; refine al (cs := #[.int .i64 0, .slice none 0 0]) ?_ 0 _ rfl; refine pkx ?_; exact BKqo.out) NBqo_0.out (by simp)); replace HK := kh HK hk; replace HB := aQ (hb); replace HI0 := aQ (hi); (try clear hb); (try clear hk); (try clear hi); obtain ⟨hcz81_0, hcz81_1, hfz81_0, hfz81_1⟩ := c2 BKqo; have hnb82 := NBql_0.out; have hnc82 := NB0_ql.out; obtain ⟨hcz83_0, hcz83_1, hfz83_0, hfz83_1⟩ := c2 BKql))
     refine bodyPost_ret (results_cell_row rfl _ _ gbql 26 #[.int .i64 tq0, .slice Ao79 tqd.length co79] (0, 0) _ rfl (by refine pkx ?_; refine al (cs := #[.int .i64 tq0, .slice none 0 0]) ?_ 1 _ rfl; refine pkx ?_; refine al (cs := #[.int .i64 0, .slice none 0 0]) ?_ 0 _ rfl; refine pkx ?_; exact BKql.out) Tryz.underlying26 rfl (by kernel_rfl)) rfl ?_
     exact ⟨_, by first | rfl | (simp [errW_none, aj] <;> rfl) | (simp [*, errW_none, aj] <;> rfl), by refine pRx ?_; exact rf HOqn BKql, pi_ HI0, pbI HB, pq HK⟩
   ·rw [if_neg c41] at H
    have c41b0 : (tq1 == 2) = false := beq_eq_false_iff_ne.mpr c41
    have c41b1 : (tq1 != 2) = true := bne_iff_ne.mpr c41
    by_cases c84 : tq1 = 3
    ·rw [if_pos c84] at H
     have c84b0 : (tq1 == 3) = true := beq_iff_eq.mpr c84
     have c84b1 : (tq1 != 3) = false := bne_eq_false_iff_eq.mpr c84
     clear c84
     replace H := bo H; obtain ⟨tq9, A85, H⟩ := H
     (try dsimp only at H)
     replace H := bo H; obtain ⟨tqa, A86, H⟩ := H
     (try dsimp only at H)
     replace H := bo H; obtain ⟨⟨tqb, tq17, tq18⟩, A87, H⟩ := H
     (try dsimp only at H)
     replace H := bo H; obtain ⟨tqc, A88, H⟩ := H
     (try dsimp only at H)
     simp only [Option.some.injEq, Prod.mk.injEq] at H
     obtain ⟨rfl, rfl, rfl, rfl⟩ := H
     go_enter Tryz.func141, Tryz.ntmps141
     go_wp2_with (first | ((with_reducible refine af (N := 4) rfl ?_); refine bx 4 #[.int .i64 0, .slice none 0 0] 26 ?_; intro gbql hg w89 hbox hb; replace HB := bsI HB hb; have BKql := aQ (hbox); have GWql := gw HK hg; have GEql := ge HK HW0 hg; replace HK := kt HK hb; have NB0_ql := nI HI0 hg; have NBql_0 := mI HI0 hg; replace HI0 := bI HI0 hb; clear hb hbox hg) | (refine gq 163 (some 9) Tryz.func163 #[.pointer (some ⟨g, 0, none⟩), .int .i64 a1] ?_; (with_reducible refine (ch.calls k g s0_0 s0_1 s0_2 a1 tq0 tqd tqe tqf w0 _ ?side1 ?side2 A3.out).mono ?_); (case side1 => exact pi_ HI0); (case side2 => exact pbI HB); rintro e w90 ⟨vqm, rfl, ho0, hi, hb, hk⟩; refine ⟨_, rfl, ?_⟩; replace BKql := kk BKql hk NBql_0.out; have HOqn := aQ (Kd.R_lower ho0 (bp (w := w) (g := g) (row := none) (pq HK))); replace HK := kh HK hk; replace HB := aQ (hb); replace HI0 := aQ (hi); (try clear hb); (try clear hk); (try clear hi); (try clear ho0)) | ((with_reducible refine af (N := 5) rfl ?_); refine bx 5 #[.int .i64 0, .slice none 0 0] 26 ?_; intro gbqo hg w91 hbox hb; replace HOqn := aQ (Kd.R_below (pR HOqn.out) hb); replace HB := bsI HB hb; have BKqo := aQ (hbox); have GWqo := gw HK hg; have GEqo := ge HK HW0 hg; replace HK := kt HK hb; have NBql_qo := nl BKql hg; have NBqo_ql := ng BKql hg; replace BKql := bb BKql hb; have NB0_qo := nI HI0 hg; have NBqo_0 := mI HI0 hg; replace HI0 := bI HI0 hb; clear hb hbox hg; have hnb92 := NBqo_ql.out; have hnc92 := NBql_qo.out; have hnb93 := NBqo_0.out; have hnc93 := NB0_qo.out; obtain ⟨hcz94_0, hcz94_1, hfz94_0, hfz94_1⟩ := c2 BKqo; obtain ⟨Ao95, co95, eo95⟩ := Kd.R_slice HOqn.out; subst eo95) | (refine gq 99 (some 11) Tryz.func99 #[.pointer (some ⟨g, 0, none⟩), .int .i64 10] ?_; (with_reducible refine (ak.calls g s0_0 tqe tqf 10 tq1 tqg tqh w0 _ ?side1 ?side2 A4.out).mono ?_); (case side1 => exact pi_ HI0); (case side2 => exact pbI HB); rintro e w96 ⟨rfl, hi, hb, hk⟩; refine ⟨_, rfl, ?_⟩; replace BKql := aQ (KeepBut.blk hk (g' := gbql) (o := .cells #[.int .i64 0, .slice none 0 0] 26 (0, 0)) (by refine pkx ?_; refine aU ?_ NBql_qo.out _; refine pkx ?_; refine aU ?_ NBql_qo.out _; refine pkx ?_; exact BKql.out) NBql_0.out (by simp)); replace HOqn := aQ (Kd.R_mono (Kd.R_keep (IsS126.apart (show IsS126 w0 _ g s0_0 tqe tqf from pi_ HI0) (by refine pRx ?_; exact (Kd.R_mono (Kd.R_far (p := ⟨gbqo, 1, none⟩) (Kd.R_far (p := ⟨gbqo, 0, none⟩) (Kd.R_types HOqn.out BKqo.out (by decide)) (fun _ hk => hk.2) (.int .i64 tq0)) (fun _ hk => hk.2) (.slice Ao95 tqd.length co95)) (fun _ h_ => h_.1))) (by decide)) hk (fun _ h => h.2)) (fun _ h => h.1)); replace BKqo := aQ (KeepBut.blk hk (g' := gbqo) (o := .cells #[.int .i64 tq0, .slice Ao95 tqd.length co95] 26 (0, 0)) (by refine pkx ?_; refine al (cs := #[.int .i64 tq0, .slice none 0 0]) ?_ 1 _ rfl; refine pkx ?_; refine al (cs := #[.int .i64 0, .slice none 0 0]) ?_ 0 _ rfl; refine pkx ?_; exact BKqo.out) NBqo_0.out (by simp)); replace HK := kh HK hk; replace HB := aQ (hb); replace HI0 := aQ (hi); (try clear hb); (try clear hk); (try clear hi); obtain ⟨hcz97_0, hcz97_1, hfz97_0, hfz97_1⟩ := c2 BKqo) | (refine gq 160 (some 56) Tryz.func160 #[.int .i64 tq0, .int .i64 8] ?_; (with_reducible refine (cV.calls tq0 8 tq9 _ A85.out).mono ?_); rintro e w' ⟨rfl, ⟨nd, rfl⟩⟩; refine ⟨_, rfl, ?_⟩; (try (rw [cT w96]; generalize hq_ : World.drewN w96 _ = w96; have n0_ : Aside0 (Kd.R (Kd.int .i64) 3 w96 w.heap.size (fun _ => True) (.slice Ao95 tqd.length co95) tqd) := ⟨by rw [← hq_]; exact (pR HOqn.out)⟩; have n1_ : Aside0 (w96.heap[gbql]? = some (.cells #[.int .i64 0, .slice none 0 0] 26 (0, 0))) := ⟨by rw [← hq_]; exact (pk BKql.out)⟩; have n2_ : Aside0 (w96.heap[gbqo]? = some (.cells #[.int .i64 tq0, .slice Ao95 tqd.length co95] 26 (0, 0))) := ⟨by rw [← hq_]; exact (pk BKqo.out)⟩; have n3_ : Aside0 (IsS126 w0 w96 g s0_0 tqg tqh) := ⟨by rw [← hq_]; exact (pi_ HI0)⟩; have n4_ : Aside0 (KeepBut w w96 g none) := ⟨by rw [← hq_]; exact (pq HK)⟩; have n5_ : Aside0 (Below w0.heap.size w0 w96) := ⟨by rw [← hq_]; exact (pbI HB)⟩; clear HOqn BKql BKqo HI0 HK HB hq_; have HOqn := n0_; have BKql := n1_; have BKqo := n2_; have HI0 := n3_; have HK := n4_; have HB := n5_; clear n0_ n1_ n2_ n3_ n4_ n5_))) | (refine gq 107 (some 57) Tryz.func107 #[.int .i64 0, .int .i64 tq9] ?_; (with_reducible refine (bM.calls 0 tq9 tqa _ A86.out).mono ?_); rintro e w' ⟨rfl, ⟨nd, rfl⟩⟩; refine ⟨_, rfl, ?_⟩; (try (rw [cT w96]; generalize hq_ : World.drewN w96 _ = w96; have n0_ : Aside0 (Kd.R (Kd.int .i64) 3 w96 w.heap.size (fun _ => True) (.slice Ao95 tqd.length co95) tqd) := ⟨by rw [← hq_]; exact (pR HOqn.out)⟩; have n1_ : Aside0 (w96.heap[gbql]? = some (.cells #[.int .i64 0, .slice none 0 0] 26 (0, 0))) := ⟨by rw [← hq_]; exact (pk BKql.out)⟩; have n2_ : Aside0 (w96.heap[gbqo]? = some (.cells #[.int .i64 tq0, .slice Ao95 tqd.length co95] 26 (0, 0))) := ⟨by rw [← hq_]; exact (pk BKqo.out)⟩; have n3_ : Aside0 (IsS126 w0 w96 g s0_0 tqg tqh) := ⟨by rw [← hq_]; exact (pi_ HI0)⟩; have n4_ : Aside0 (KeepBut w w96 g none) := ⟨by rw [← hq_]; exact (pq HK)⟩; have n5_ : Aside0 (Below w0.heap.size w0 w96) := ⟨by rw [← hq_]; exact (pbI HB)⟩; clear HOqn BKql BKqo HI0 HK HB hq_; have HOqn := n0_; have BKql := n1_; have BKqo := n2_; have HI0 := n3_; have HK := n4_; have HB := n5_; clear n0_ n1_ n2_ n3_ n4_ n5_))) | (refine gq 216 (some 58) Tryz.func216 #[.pointer (some ⟨g, 0, none⟩), .int .i64 tqa] ?_; (with_reducible refine (bO.calls k g s0_0 tqg tqh tqa tqb tq17 tq18 w0 _ ?side1 ?side2 A87.out).mono ?_); (case side1 => exact pi_ HI0); (case side2 => exact pbI HB); rintro e w98 ⟨vq19, rfl, ho0, hi, hb, hk⟩; refine ⟨_, rfl, ?_⟩; replace BKql := kk BKql hk NBql_0.out; replace BKqo := kk BKqo hk NBqo_0.out; have HOq1a := aQ (Kd.R_lower (Kd.R_new' ho0 (Kd.R_lt (pR HOqn.out))) (bp (w := w) (g := g) (row := none) (pq HK))); replace HOqn := aQ (Kd.R_mono (Kd.R_told (Kd.R_oldK (IsS126.apart (show IsS126 w0 _ g s0_0 tqg tqh from pi_ HI0) (pR HOqn.out) (by decide)) hk) (Kd.R_base ho0)) (fun _ h_ => h_.1)); replace HK := kh HK hk; replace HB := aQ (hb); replace HI0 := aQ (hi); (try clear hb); (try clear hk); (try clear hi); (try clear ho0); obtain ⟨Ao99, co99, eo99⟩ := Kd.R_slice HOq1a.out; subst eo99) | (refine gq 140 (some 59) Tryz.func140 #[.slice Ao99 tqb.length co99] ?_; (with_reducible refine (ag.calls k _ _ tqb tqc _ ?side1 ?side2 A88.out).mono ?_); (case side1 => exact pC ((Kd.R_reads' HOq1a.out).2.2)); (case side2 => exact (Kd.R_reads' HOq1a.out).2.1); rintro e w100 ⟨vq1b, rfl, ho0, hb⟩; refine ⟨_, rfl, ?_⟩; have HOq1c := aQ (Kd.R_lower (Kd.R_new' (Kd.R_new' ho0 (Kd.R_lt (pR HOqn.out))) (Kd.R_lt (pR HOq1a.out))) (bp (w := w) (g := g) (row := none) (pq HK))); replace HOqn := aQ (Kd.R_elder' (pR HOqn.out) (Kd.R_base ho0) hb); replace HOq1a := aQ (Kd.R_elder' (pR HOq1a.out) (Kd.R_base ho0) hb); replace BKql := bb BKql hb; replace BKqo := bb BKqo hb; replace HK := kt HK hb; replace HB := bsI HB hb; replace HI0 := bI HI0 hb; (try clear hb); (try clear ho0); obtain ⟨Ao101, co101, eo101⟩ := Kd.R_slice HOq1c.out; subst eo101; obtain ⟨hcz102_0, hcz102_1, hfz102_0, hfz102_1⟩ := c2 BKqo; have hnb103 := NBql_0.out; have hnc103 := NB0_ql.out; obtain ⟨hcz104_0, hcz104_1, hfz104_0, hfz104_1⟩ := c2 BKql))
     refine bodyPost_ret (results_cell_row rfl _ _ gbql 26 #[.int .i64 tq0, .slice Ao101 tqc.length co101] (0, 0) _ rfl (by refine pkx ?_; refine al (cs := #[.int .i64 tq0, .slice none 0 0]) ?_ 1 _ rfl; refine pkx ?_; refine al (cs := #[.int .i64 0, .slice none 0 0]) ?_ 0 _ rfl; refine pkx ?_; refine aU ?_ NBql_qo.out _; refine pkx ?_; exact BKql.out) Tryz.underlying26 rfl (by kernel_rfl)) rfl ?_
     exact ⟨_, by first | rfl | (simp [errW_none, aj] <;> rfl) | (simp [*, errW_none, aj] <;> rfl), by refine pRx ?_; exact Kd.R_mono (Kd.R_far (p := ⟨gbql, 1, none⟩) (Kd.R_far (p := ⟨gbql, 0, none⟩) (Kd.R_far (p := ⟨gbqo, 1, none⟩) (Kd.R_types (Kd.R_types HOq1c.out BKqo.out (by decide)) BKql.out (by decide)) (fun _ hk => hk.1.2) (.slice Ao101 tqc.length co101)) (fun _ hk => hk.2) (.int .i64 tq0)) (fun _ hk => hk.2) (.slice Ao101 tqc.length co101)) (fun _ hk => trivial), pi_ HI0, pbI HB, pq HK⟩
    ·rw [if_neg c84] at H
     have c84b0 : (tq1 == 3) = false := beq_eq_false_iff_ne.mpr c84
     have c84b1 : (tq1 != 3) = true := bne_iff_ne.mpr c84
     simp only [Option.some.injEq, Prod.mk.injEq] at H
     obtain ⟨rfl, rfl, rfl, rfl⟩ := H
     go_enter Tryz.func141, Tryz.ntmps141
     go_wp2_with (first | ((with_reducible refine af (N := 4) rfl ?_); refine bx 4 #[.int .i64 0, .slice none 0 0] 26 ?_; intro gbql hg w105 hbox hb; replace HB := bsI HB hb; have BKql := aQ (hbox); have GWql := gw HK hg; have GEql := ge HK HW0 hg; replace HK := kt HK hb; have NB0_ql := nI HI0 hg; have NBql_0 := mI HI0 hg; replace HI0 := bI HI0 hb; clear hb hbox hg) | (refine gq 163 (some 9) Tryz.func163 #[.pointer (some ⟨g, 0, none⟩), .int .i64 a1] ?_; (with_reducible refine (ch.calls k g s0_0 s0_1 s0_2 a1 tq0 tqd tqe tqf w0 _ ?side1 ?side2 A3.out).mono ?_); (case side1 => exact pi_ HI0); (case side2 => exact pbI HB); rintro e w106 ⟨vqm, rfl, ho0, hi, hb, hk⟩; refine ⟨_, rfl, ?_⟩; replace BKql := kk BKql hk NBql_0.out; have HOqn := aQ (Kd.R_lower ho0 (bp (w := w) (g := g) (row := none) (pq HK))); replace HK := kh HK hk; replace HB := aQ (hb); replace HI0 := aQ (hi); (try clear hb); (try clear hk); (try clear hi); (try clear ho0)) | ((with_reducible refine af (N := 5) rfl ?_); refine bx 5 #[.int .i64 0, .slice none 0 0] 26 ?_; intro gbqo hg w107 hbox hb; replace HOqn := aQ (Kd.R_below (pR HOqn.out) hb); replace HB := bsI HB hb; have BKqo := aQ (hbox); have GWqo := gw HK hg; have GEqo := ge HK HW0 hg; replace HK := kt HK hb; have NBql_qo := nl BKql hg; have NBqo_ql := ng BKql hg; replace BKql := bb BKql hb; have NB0_qo := nI HI0 hg; have NBqo_0 := mI HI0 hg; replace HI0 := bI HI0 hb; clear hb hbox hg; have hnb108 := NBqo_ql.out; have hnc108 := NBql_qo.out; have hnb109 := NBqo_0.out; have hnc109 := NB0_qo.out; obtain ⟨hcz110_0, hcz110_1, hfz110_0, hfz110_1⟩ := c2 BKqo; obtain ⟨Ao111, co111, eo111⟩ := Kd.R_slice HOqn.out; subst eo111) | (refine gq 99 (some 11) Tryz.func99 #[.pointer (some ⟨g, 0, none⟩), .int .i64 10] ?_; (with_reducible refine (ak.calls g s0_0 tqe tqf 10 tq1 tqg tqh w0 _ ?side1 ?side2 A4.out).mono ?_); (case side1 => exact pi_ HI0); (case side2 => exact pbI HB); rintro e w112 ⟨rfl, hi, hb, hk⟩; refine ⟨_, rfl, ?_⟩; replace BKql := aQ (KeepBut.blk hk (g' := gbql) (o := .cells #[.int .i64 0, .slice none 0 0] 26 (0, 0)) (by refine pkx ?_; refine aU ?_ NBql_qo.out _; refine pkx ?_; refine aU ?_ NBql_qo.out _; refine pkx ?_; exact BKql.out) NBql_0.out (by simp)); replace HOqn := aQ (Kd.R_mono (Kd.R_keep (IsS126.apart (show IsS126 w0 _ g s0_0 tqe tqf from pi_ HI0) (by refine pRx ?_; exact (Kd.R_mono (Kd.R_far (p := ⟨gbqo, 1, none⟩) (Kd.R_far (p := ⟨gbqo, 0, none⟩) (Kd.R_types HOqn.out BKqo.out (by decide)) (fun _ hk => hk.2) (.int .i64 tq0)) (fun _ hk => hk.2) (.slice Ao111 tqd.length co111)) (fun _ h_ => h_.1))) (by decide)) hk (fun _ h => h.2)) (fun _ h => h.1)); replace BKqo := aQ (KeepBut.blk hk (g' := gbqo) (o := .cells #[.int .i64 tq0, .slice Ao111 tqd.length co111] 26 (0, 0)) (by refine pkx ?_; refine al (cs := #[.int .i64 tq0, .slice none 0 0]) ?_ 1 _ rfl; refine pkx ?_; refine al (cs := #[.int .i64 0, .slice none 0 0]) ?_ 0 _ rfl; refine pkx ?_; exact BKqo.out) NBqo_0.out (by simp)); replace HK := kh HK hk; replace HB := aQ (hb); replace HI0 := aQ (hi); (try clear hb); (try clear hk); (try clear hi); obtain ⟨hcz113_0, hcz113_1, hfz113_0, hfz113_1⟩ := c2 BKqo; have hnb114 := NBql_0.out; have hnc114 := NB0_ql.out; obtain ⟨hcz115_0, hcz115_1, hfz115_0, hfz115_1⟩ := c2 BKql))
     refine bodyPost_ret (results_cell_row rfl _ _ gbql 26 #[.int .i64 tq0, .slice Ao111 tqd.length co111] (0, 0) _ rfl (by refine pkx ?_; refine al (cs := #[.int .i64 tq0, .slice none 0 0]) ?_ 1 _ rfl; refine pkx ?_; refine al (cs := #[.int .i64 0, .slice none 0 0]) ?_ 0 _ rfl; refine pkx ?_; exact BKql.out) Tryz.underlying26 rfl (by kernel_rfl)) rfl ?_
     exact ⟨_, by first | rfl | (simp [errW_none, aj] <;> rfl) | (simp [*, errW_none, aj] <;> rfl), by refine pRx ?_; exact rf HOqn BKql, pi_ HI0, pbI HB, pq HK⟩
def bn.f (k : Nat) (l0 : List Int) : Option (Int × List Int × List Int × Int) := (bS.f k l0).bind fun btq0 => ((ch.f k btq0.1 btq0.2.1 btq0.2.2 6).bind fun btq1 => ((cJ.f btq0.1 btq1.2.2.1 btq1.2.2.2 12).bind fun btq2 => (if btq2.1 = true then ((bB.f k btq0.1 btq2.2.1 btq2.2.2 5).bind fun btq3 => ((b6.f k btq0.1 btq3.2.2.1 btq3.2.2.2 btq3.1).bind fun btq4 => ((ak.f btq0.1 btq4.2.1 btq4.2.2 8).bind fun btq5 => (some (btq3.1, btq3.2.1, btq4.1, wrap64 (btq5.1 - 1)))))) else ((b6.f k btq0.1 btq2.2.1 btq2.2.2 btq1.1).bind fun btq6 => ((ak.f btq0.1 btq6.2.1 btq6.2.2 8).bind fun btq7 => (some (btq1.1, btq1.2.1, btq6.1, wrap64 (btq7.1 - 1))))))))
def bn.T6 : Bool × List (List Nat × List Nat) := (true, [([], []), ([], []), ([], []), ([2], [2]), ([3], [3]), ([0, 3, 0], [0]), ([1, 5, 0, 1, 5], [1]), ([4, 6, 0, 1, 2, 3, 4, 5, 6], [4])])
def bn.B6 : List Nat := [0, 0, 0, 4, 12, 13, 47, 127]
theorem bn.tab6 : rtab .any (eV Tryz.f113 6) = bn.T6 := by kernel_rfl
theorem bn.bits6 : cY bn.T6.2 bn.B6 = true := by kernel_rfl
theorem bn.calls (k : Nat) (A0 : Option Addr) (c0 : Nat) (l0 : List Int) (r1 : Int) (r2 : List Int) (r3 : List Int) (r4 : Int) (w : World) (hr0 : Kd.C (Kd.int .u8) w A0 l0.length l0) (hc0 : l0.length ≤ c0) (h : bn.f k l0 = some (r1, r2, r3, r4)) :
  Calls Tryz.prog 113 #[.slice A0 l0.length c0] w fun e w' => ∃ v1_ v2_ : Value, e = .returned (.tuple #[.agg #[.int .i64 r1, v1_], v2_, .int .i64 r4]) ∧ Kd.R (Kd.int .i64) 3 w' w.heap.size (fun k_ => some k_ ≠ (v2_ : Value).ownBlock) v1_ r2 ∧ Kd.R (Kd.int .i64) 3 w' w.heap.size (fun k_ => some k_ ≠ (v1_ : Value).ownBlock) v2_ r3 ∧ Below w.heap.size w w' := by
 have hu26 := Tryz.underlying26
 have HR0 := aQ hr0
 have HC0 := aQ hc0
 clear hr0 hc0
 have HB := aQ (Below.refl w.heap.size w)
 have H := h
 clear h
 unfold bn.f at H
 (try dsimp only at H)
 replace H := bo H; obtain ⟨⟨tq0, tq8, tq9⟩, A2, H⟩ := H
 (try dsimp only at H)
 replace H := bo H; obtain ⟨⟨tq1, tqa, tqb, tqc⟩, A3, H⟩ := H
 (try dsimp only at H)
 replace H := bo H; obtain ⟨⟨tq2, tqd, tqe⟩, A4, H⟩ := H
 (try dsimp only at H)
 by_cases c5 : tq2 = true
 ·subst c5
  rw [if_pos rfl] at H
  replace H := bo H; obtain ⟨⟨tq3, tqf, tqg, tqh⟩, A6, H⟩ := H
  (try dsimp only at H)
  replace H := bo H; obtain ⟨⟨tq4, tqi, tqj⟩, A7, H⟩ := H
  (try dsimp only at H)
  replace H := bo H; obtain ⟨⟨tq5, tqk, tql⟩, A8, H⟩ := H
  (try dsimp only at H)
  simp only [Option.some.injEq, Prod.mk.injEq] at H
  obtain ⟨rfl, rfl, rfl, rfl⟩ := H
  go_enter Tryz.func113, Tryz.ntmps113
  try go_wp2_with (first | ((with_reducible refine af (N := 2) rfl ?_); refine bx 2 #[.int .i64 0, .slice none 0 0] 26 ?_; intro gbqm hg w9 hbox hb; have BKqm := aQ (hbox); have GWqm := gB HB hg; have GEqm := gB HB hg; replace HB := bs HB hb; clear hb hbox hg) | (refine gq 96 (some 9) Tryz.func96 #[.slice A0 l0.length c0] ?_; (with_reducible refine (bS.calls k _ _ l0 tq0 tq8 tq9 w _ ?side1 ?side2 ?side3 A2.out).mono ?_); (case side1 => exact pb HB); (case side2 => exact HR0.out); (case side3 => exact HC0.out); rintro e w10 ⟨gqn, rfl, hi, hb, hb2⟩; refine ⟨_, rfl, ?_⟩; replace HB := aQ (hb); have HIqn := aQ (hi); have NBqn_qm := aQ (IsS126.ne_blk hi (bq (g := gbqm) (o := .cells #[.int .i64 0, .slice none 0 0] 26 (0, 0)) (pk BKqm.out) hb2) (by decide)); have NBqm_qn := aQ (Ne.symm (IsS126.ne_blk hi (bq (g := gbqm) (o := .cells #[.int .i64 0, .slice none 0 0] 26 (0, 0)) (pk BKqm.out) hb2) (by decide))); replace BKqm := aQ (bq (g := gbqm) (o := .cells #[.int .i64 0, .slice none 0 0] 26 (0, 0)) (pk BKqm.out) hb2); (try clear hb); (try clear hb2); (try clear hi)) | (refine gq 163 (some 11) Tryz.func163 #[.pointer (some ⟨gqn, 0, none⟩), .int .i64 6] ?_; (with_reducible refine (ch.calls k gqn tq0 tq8 tq9 6 tq1 tqa tqb tqc w _ ?side1 ?side2 A3.out).mono ?_); (case side1 => exact pi_ HIqn); (case side2 => exact pbI HB); rintro e w11 ⟨vqo, rfl, ho0, hi, hb, hk⟩; refine ⟨_, rfl, ?_⟩; replace BKqm := kk BKqm hk NBqm_qn.out; have HOqp := aQ (Kd.R_lower ho0 (aa (pbI HB))); replace HB := aQ (hb); replace HIqn := aQ (hi); (try clear hb); (try clear hk); (try clear hi); (try clear ho0)) | ((with_reducible refine af (N := 6) rfl ?_); refine bx 6 #[.int .i64 0, .slice none 0 0] 26 ?_; intro gbqq hg w12 hbox hb; replace HOqp := aQ (Kd.R_below (pR HOqp.out) hb); have BKqq := aQ (hbox); have GWqq := aQ ((by rw [hg]; exact (aa (pbI HB)) : w.heap.size ≤ gbqq)); have GEqq := aQ ((by rw [hg]; exact (aa (pbI HB)) : w.heap.size ≤ gbqq)); replace HB := bsI HB hb; have NBqm_qq := nl BKqm hg; have NBqq_qm := ng BKqm hg; replace BKqm := bb BKqm hb; have NBqn_qq := aQ ((by rw [hg]; exact Nat.ne_of_lt (IsS126.lt (show IsS126 w _ gqn tq0 tqb tqc from pi_ HIqn)) : gqn ≠ gbqq)); have NBqq_qn := aQ ((by rw [hg]; exact Nat.ne_of_gt (IsS126.lt (show IsS126 w _ gqn tq0 tqb tqc from pi_ HIqn)) : gbqq ≠ gqn)); replace HIqn := aQ (IsS126.below (pi_ HIqn) hb); clear hb hbox hg; have hnb13 := NBqq_qm.out; have hnc13 := NBqm_qq.out; have hnb14 := NBqq_qn.out; have hnc14 := NBqn_qq.out; obtain ⟨hcz15_0, hcz15_1, hfz15_0, hfz15_1⟩ := c2 BKqq; obtain ⟨Ao16, co16, eo16⟩ := Kd.R_slice HOqp.out; subst eo16) | (refine gq 106 (some 13) Tryz.func106 #[.pointer (some ⟨gqn, 0, none⟩), .int .i64 12] ?_; (with_reducible refine (cJ.calls gqn tq0 tqb tqc 12 true tqd tqe w _ ?side1 ?side2 A4.out).mono ?_); (case side1 => exact pi_ HIqn); (case side2 => exact pbI HB); rintro e w17 ⟨rfl, hi, hb, hk⟩; refine ⟨_, rfl, ?_⟩; replace BKqm := aQ (KeepBut.blk hk (g' := gbqm) (o := .cells #[.int .i64 0, .slice none 0 0] 26 (0, 0)) (by refine pkx ?_; refine aU ?_ NBqm_qq.out _; refine pkx ?_; refine aU ?_ NBqm_qq.out _; refine pkx ?_; exact BKqm.out) NBqm_qn.out (by simp)); replace HOqp := aQ (Kd.R_mono (Kd.R_keep (IsS126.apart (show IsS126 w _ gqn tq0 tqb tqc from pi_ HIqn) (by refine pRx ?_; exact (Kd.R_mono (Kd.R_far (p := ⟨gbqq, 1, none⟩) (Kd.R_far (p := ⟨gbqq, 0, none⟩) (Kd.R_types HOqp.out BKqq.out (by decide)) (fun _ hk => hk.2) (.int .i64 tq1)) (fun _ hk => hk.2) (.slice Ao16 tqa.length co16)) (fun _ h_ => h_.1))) (by decide)) hk (fun _ h => h.2)) (fun _ h => h.1)); replace BKqq := aQ (KeepBut.blk hk (g' := gbqq) (o := .cells #[.int .i64 tq1, .slice Ao16 tqa.length co16] 26 (0, 0)) (by refine pkx ?_; refine al (cs := #[.int .i64 tq1, .slice none 0 0]) ?_ 1 _ rfl; refine pkx ?_; refine al (cs := #[.int .i64 0, .slice none 0 0]) ?_ 0 _ rfl; refine pkx ?_; exact BKqq.out) NBqq_qn.out (by simp)); replace HB := aQ (hb); replace HIqn := aQ (hi); (try clear hb); (try clear hk); (try clear hi)) | (refine gq 141 (some 15) Tryz.func141 #[.pointer (some ⟨gqn, 0, none⟩), .int .i64 5] ?_; (with_reducible refine (bB.calls k gqn tq0 tqd tqe 5 tq3 tqf tqg tqh w _ ?side1 ?side2 A6.out).mono ?_); (case side1 => exact pi_ HIqn); (case side2 => exact pbI HB); rintro e w18 ⟨vqr, rfl, ho0, hi, hb, hk⟩; refine ⟨_, rfl, ?_⟩; replace BKqm := kk BKqm hk NBqm_qn.out; replace BKqq := kk BKqq hk NBqq_qn.out; have HOqs := aQ (Kd.R_lower (Kd.R_new' ho0 (Kd.R_lt (pR HOqp.out))) (aa (pbI HB))); replace HOqp := aQ (Kd.R_mono (Kd.R_told (Kd.R_oldK (IsS126.apart (show IsS126 w _ gqn tq0 tqd tqe from pi_ HIqn) (pR HOqp.out) (by decide)) hk) (Kd.R_base ho0)) (fun _ h_ => h_.1)); replace HB := aQ (hb); replace HIqn := aQ (hi); (try clear hb); (try clear hk); (try clear hi); (try clear ho0); obtain ⟨hcz19_0, hcz19_1, hfz19_0, hfz19_1⟩ := c2 BKqq; obtain ⟨Ao20, co20, eo20⟩ := Kd.R_slice HOqs.out; subst eo20) | (refine gq 98 (some 19) Tryz.func98 #[.pointer (some ⟨gqn, 0, none⟩), .int .i64 tq3] ?_; (with_reducible refine (b6.calls k gqn tq0 tqg tqh tq3 tq4 tqi tqj w _ ?side1 ?side2 A7.out).mono ?_); (case side1 => exact pi_ HIqn); (case side2 => exact pbI HB); rintro e w21 ⟨vqt, rfl, ho0, hi, hb, hk⟩; refine ⟨_, rfl, ?_⟩; replace BKqm := aQ (KeepBut.blk hk (g' := gbqm) (o := .cells #[.int .i64 0, .slice none 0 0] 26 (0, 0)) (by refine pkx ?_; refine aU ?_ NBqm_qq.out _; refine pkx ?_; refine aU ?_ NBqm_qq.out _; refine pkx ?_; exact BKqm.out) NBqm_qn.out (by simp)); have HOqu := aQ (Kd.R_lower (Kd.R_new' (Kd.R_new' ho0 (Kd.R_lt (by refine pRx ?_; exact (Kd.R_mono (Kd.R_far (p := ⟨gbqq, 1, none⟩) (Kd.R_far (p := ⟨gbqq, 0, none⟩) (Kd.R_types HOqp.out BKqq.out (by decide)) (fun _ hk => hk.2) (.int .i64 tq3)) (fun _ hk => hk.2) (.slice Ao20 tqf.length co20)) (fun _ h_ => h_.1))))) (Kd.R_lt (by refine pRx ?_; exact (Kd.R_mono (Kd.R_far (p := ⟨gbqq, 1, none⟩) (Kd.R_far (p := ⟨gbqq, 0, none⟩) (Kd.R_types HOqs.out BKqq.out (by decide)) (fun _ hk => hk.2) (.int .i64 tq3)) (fun _ hk => hk.2) (.slice Ao20 tqf.length co20)) (fun _ h_ => h_.1))))) (aa (pbI HB))); replace HOqp := aQ (Kd.R_mono (Kd.R_told (Kd.R_oldK (IsS126.apart (show IsS126 w _ gqn tq0 tqg tqh from pi_ HIqn) (by refine pRx ?_; exact (Kd.R_mono (Kd.R_far (p := ⟨gbqq, 1, none⟩) (Kd.R_far (p := ⟨gbqq, 0, none⟩) (Kd.R_types HOqp.out BKqq.out (by decide)) (fun _ hk => hk.2) (.int .i64 tq3)) (fun _ hk => hk.2) (.slice Ao20 tqf.length co20)) (fun _ h_ => h_.1))) (by decide)) hk) (Kd.R_base ho0)) (fun _ h_ => h_.1)); replace HOqs := aQ (Kd.R_mono (Kd.R_told (Kd.R_oldK (IsS126.apart (show IsS126 w _ gqn tq0 tqg tqh from pi_ HIqn) (by refine pRx ?_; exact (Kd.R_mono (Kd.R_far (p := ⟨gbqq, 1, none⟩) (Kd.R_far (p := ⟨gbqq, 0, none⟩) (Kd.R_types HOqs.out BKqq.out (by decide)) (fun _ hk => hk.2) (.int .i64 tq3)) (fun _ hk => hk.2) (.slice Ao20 tqf.length co20)) (fun _ h_ => h_.1))) (by decide)) hk) (Kd.R_base ho0)) (fun _ h_ => h_.1)); replace BKqq := aQ (KeepBut.blk hk (g' := gbqq) (o := .cells #[.int .i64 tq3, .slice Ao20 tqf.length co20] 26 (0, 0)) (by refine pkx ?_; refine al (cs := #[.int .i64 tq3, .slice Ao16 tqa.length co16]) ?_ 1 _ rfl; refine pkx ?_; refine al (cs := #[.int .i64 tq1, .slice Ao16 tqa.length co16]) ?_ 0 _ rfl; refine pkx ?_; exact BKqq.out) NBqq_qn.out (by simp)); replace HB := aQ (hb); replace HIqn := aQ (hi); (try clear hb); (try clear hk); (try clear hi); (try clear ho0)))
  replace HOqp := aQ (Kd.R_drew HOqp.out); replace HOqs := aQ (Kd.R_drew HOqs.out); replace HOqu := aQ (Kd.R_drew HOqu.out); replace BKqm := aQ (b7 BKqm.out); replace BKqq := aQ (b7 BKqq.out); replace HIqn := aQ (IsS126.drew HIqn.out); replace HB := aQ (a7 HB.out)
  refine cN (n := 8) (S := fun w' => w'.cell? ⟨gbqq, 0, none⟩ = some (.int .i64 tq3) ∧ w'.cell? ⟨gbqq, 1, none⟩ = some (.slice Ao20 tqf.length co20)) (ds := []) _ (by kernel_rfl) rfl rfl ⟨(ac BKqq.out 0).trans rfl, (ac BKqq.out 1).trans rfl⟩ (fun hHeld => ?_); refine b0 bn.tab6 bn.bits6 (fun HT_ HW_ => ?_)
  generalize w21.drew = w22 at HOqp HOqs HOqu BKqm BKqq HIqn HB hHeld ⊢
  refine pA 1 (some 21) HT_ ?_
  refine pA 2 (some 22) HT_ ?_
  refine tA2 0 (some 20) HT_ HW_ hHeld ?_
  refine onA (i := 3) (N := some 23) HT_ (h := fun K hK => ?_)
  refine gs Tryz.func99 #[.pointer (some ⟨gqn, 0, none⟩), .int .i64 8] ?_
  with_reducible refine (ak.calls gqn tq0 tqi tqj 8 tq5 tqk tql w _ ?side1 ?side2 A8.out).mono ?_
  (case side1 => exact pi_ HIqn)
  (case side2 => exact pbI HB)
  rintro e w23 ⟨rfl, hi, hb, hk⟩
  refine ⟨_, rfl, ?_⟩
  replace BKqm := kk BKqm hk NBqm_qn.out; replace HOqp := aQ (Kd.R_mono (Kd.R_keep (IsS126.apart (show IsS126 w _ gqn tq0 tqi tqj from pi_ HIqn) (pR HOqp.out) (by decide)) hk (fun _ h => h.2)) (fun _ h => h.1)); replace BKqq := kk BKqq hk NBqq_qn.out; replace HOqs := aQ (Kd.R_mono (Kd.R_keep (IsS126.apart (show IsS126 w _ gqn tq0 tqi tqj from pi_ HIqn) (pR HOqs.out) (by decide)) hk (fun _ h => h.2)) (fun _ h => h.1)); replace HOqu := aQ (Kd.R_mono (Kd.R_keep (IsS126.apart (show IsS126 w _ gqn tq0 tqi tqj from pi_ HIqn) (pR HOqu.out) (by decide)) hk (fun _ h => h.2)) (fun _ h => h.1)); replace HB := aQ (hb); replace HIqn := aQ (hi)
  (try clear hb)
  (try clear hb2)
  (try clear hk)
  (try clear hi)
  refine hK.out _ _ ⟨(ac BKqq.out 0).trans rfl, (ac BKqq.out 1).trans rfl⟩ (fun hHeld => ?_)
  clear hK K
  refine noN (some 23) (h := ?_)
  refine pA 4 (some 24) HT_ ?_
  refine onA (i := 5) (N := none) HT_ (h := fun K hK => ?_)
  have hs24 : w23.cell? ⟨gbqm, 0, none⟩ = some (.int .i64 0) := (ac BKqm.out 0).trans rfl
  have hfs24 := aH BKqm.out 0
  have hns24_1 := NBqq_qm.out
  have hms24_1 := NBqm_qq.out
  have hs25 : w23.cell? ⟨gbqm, 1, none⟩ = some (.slice none 0 0) := (ac BKqm.out 1).trans rfl
  have hfs25 := aH BKqm.out 1
  have hns25_1 := NBqq_qm.out
  have hms25_1 := NBqm_qq.out
  refine iK (w1 := ?_) (by rfl) rfl ?_ ?_
  rotate_left
  ·go_simp
   rfl
  refine hK.out _ _ ⟨((cR (p := ⟨gbqm, _, none⟩) NBqq_qm.out _).trans (((cR (p := ⟨gbqm, _, none⟩) NBqq_qm.out _).trans (hHeld.1)))), ((cR (p := ⟨gbqm, _, none⟩) NBqq_qm.out _).trans (((cR (p := ⟨gbqm, _, none⟩) NBqq_qm.out _).trans (hHeld.2))))⟩ (fun hHeld => ?_)
  clear hK K
  refine pA 6 (some 3) HT_ ?_
  refine pA 7 (some 4) HT_ ?_
  refine dn (cB HT_.out (by kernel_rfl)) ?_
  try go_wp2
  refine bodyPost_ret (dw rfl _ _ gbqm 26 #[.int .i64 tq3, .slice Ao20 tqf.length co20] (0, 0) _ rfl (by refine pkx ?_; refine al (cs := #[.int .i64 tq3, .slice none 0 0]) ?_ 1 _ rfl; refine pkx ?_; refine al (cs := #[.int .i64 0, .slice none 0 0]) ?_ 0 _ rfl; refine pkx ?_; exact BKqm.out) Tryz.underlying26 rfl (by kernel_rfl)) rfl ?_
  exact ⟨_, _, by first | rfl | (simp [errW_none, aj] <;> rfl) | (simp [*, errW_none, aj] <;> rfl), by refine pRx ?_; exact Kd.R_mono (Kd.R_far (p := ⟨gbqm, 1, none⟩) (Kd.R_far (p := ⟨gbqm, 0, none⟩) (Kd.R_types HOqs.out BKqm.out (by decide)) (fun _ hk => hk.2) (.int .i64 tq3)) (fun _ hk => hk.2) (.slice Ao20 tqf.length co20)) (fun _ hk => hk.1.2), by refine pRx ?_; exact Kd.R_mono (Kd.R_far (p := ⟨gbqm, 1, none⟩) (Kd.R_far (p := ⟨gbqm, 0, none⟩) (Kd.R_types HOqu.out BKqm.out (by decide)) (fun _ hk => hk.2) (.int .i64 tq3)) (fun _ hk => hk.2) (.slice Ao20 tqf.length co20)) (fun _ hk => hk.1.2), pbI HB⟩
 ·replace c5 := Bool.eq_false_iff.mpr c5
  subst c5
  have H1 : ((b6.f k tq0 tqd tqe tq1).bind fun btq6 => ((ak.f tq0 btq6.2.1 btq6.2.2 8).bind fun btq7 => (some (tq1, tqa, btq6.1, wrap64 (btq7.1 - 1))))) = some (r1, r2, r3, r4) := by rw [if_neg (show ¬ (false = true) by decide)] at H; exact H
  clear H
  have H := H1
  clear H1
  replace H := bo H; obtain ⟨⟨tq6, tqv, tqw⟩, A26, H⟩ := H
  (try dsimp only at H)
  replace H := bo H; obtain ⟨⟨tq7, tqx, tqy⟩, A27, H⟩ := H
  (try dsimp only at H)
  simp only [Option.some.injEq, Prod.mk.injEq] at H
  obtain ⟨rfl, rfl, rfl, rfl⟩ := H
  go_enter Tryz.func113, Tryz.ntmps113
  try go_wp2_with (first | ((with_reducible refine af (N := 2) rfl ?_); refine bx 2 #[.int .i64 0, .slice none 0 0] 26 ?_; intro gbqm hg w28 hbox hb; have BKqm := aQ (hbox); have GWqm := gB HB hg; have GEqm := gB HB hg; replace HB := bs HB hb; clear hb hbox hg) | (refine gq 96 (some 9) Tryz.func96 #[.slice A0 l0.length c0] ?_; (with_reducible refine (bS.calls k _ _ l0 tq0 tq8 tq9 w _ ?side1 ?side2 ?side3 A2.out).mono ?_); (case side1 => exact pb HB); (case side2 => exact HR0.out); (case side3 => exact HC0.out); rintro e w29 ⟨gqn, rfl, hi, hb, hb2⟩; refine ⟨_, rfl, ?_⟩; replace HB := aQ (hb); have HIqn := aQ (hi); have NBqn_qm := aQ (IsS126.ne_blk hi (bq (g := gbqm) (o := .cells #[.int .i64 0, .slice none 0 0] 26 (0, 0)) (pk BKqm.out) hb2) (by decide)); have NBqm_qn := aQ (Ne.symm (IsS126.ne_blk hi (bq (g := gbqm) (o := .cells #[.int .i64 0, .slice none 0 0] 26 (0, 0)) (pk BKqm.out) hb2) (by decide))); replace BKqm := aQ (bq (g := gbqm) (o := .cells #[.int .i64 0, .slice none 0 0] 26 (0, 0)) (pk BKqm.out) hb2); (try clear hb); (try clear hb2); (try clear hi)) | (refine gq 163 (some 11) Tryz.func163 #[.pointer (some ⟨gqn, 0, none⟩), .int .i64 6] ?_; (with_reducible refine (ch.calls k gqn tq0 tq8 tq9 6 tq1 tqa tqb tqc w _ ?side1 ?side2 A3.out).mono ?_); (case side1 => exact pi_ HIqn); (case side2 => exact pbI HB); rintro e w30 ⟨vqo, rfl, ho0, hi, hb, hk⟩; refine ⟨_, rfl, ?_⟩; replace BKqm := kk BKqm hk NBqm_qn.out; have HOqp := aQ (Kd.R_lower ho0 (aa (pbI HB))); replace HB := aQ (hb); replace HIqn := aQ (hi); (try clear hb); (try clear hk); (try clear hi); (try clear ho0)) | ((with_reducible refine af (N := 6) rfl ?_); refine bx 6 #[.int .i64 0, .slice none 0 0] 26 ?_; intro gbqq hg w31 hbox hb; replace HOqp := aQ (Kd.R_below (pR HOqp.out) hb); have BKqq := aQ (hbox); have GWqq := aQ ((by rw [hg]; exact (aa (pbI HB)) : w.heap.size ≤ gbqq)); have GEqq := aQ ((by rw [hg]; exact (aa (pbI HB)) : w.heap.size ≤ gbqq)); replace HB := bsI HB hb; have NBqm_qq := nl BKqm hg; have NBqq_qm := ng BKqm hg; replace BKqm := bb BKqm hb; have NBqn_qq := aQ ((by rw [hg]; exact Nat.ne_of_lt (IsS126.lt (show IsS126 w _ gqn tq0 tqb tqc from pi_ HIqn)) : gqn ≠ gbqq)); have NBqq_qn := aQ ((by rw [hg]; exact Nat.ne_of_gt (IsS126.lt (show IsS126 w _ gqn tq0 tqb tqc from pi_ HIqn)) : gbqq ≠ gqn)); replace HIqn := aQ (IsS126.below (pi_ HIqn) hb); clear hb hbox hg; have hnb32 := NBqq_qm.out; have hnc32 := NBqm_qq.out; have hnb33 := NBqq_qn.out; have hnc33 := NBqn_qq.out; obtain ⟨hcz34_0, hcz34_1, hfz34_0, hfz34_1⟩ := c2 BKqq; obtain ⟨Ao35, co35, eo35⟩ := Kd.R_slice HOqp.out; subst eo35) | (refine gq 106 (some 13) Tryz.func106 #[.pointer (some ⟨gqn, 0, none⟩), .int .i64 12] ?_; (with_reducible refine (cJ.calls gqn tq0 tqb tqc 12 false tqd tqe w _ ?side1 ?side2 A4.out).mono ?_); (case side1 => exact pi_ HIqn); (case side2 => exact pbI HB); rintro e w36 ⟨rfl, hi, hb, hk⟩; refine ⟨_, rfl, ?_⟩; replace BKqm := aQ (KeepBut.blk hk (g' := gbqm) (o := .cells #[.int .i64 0, .slice none 0 0] 26 (0, 0)) (by refine pkx ?_; refine aU ?_ NBqm_qq.out _; refine pkx ?_; refine aU ?_ NBqm_qq.out _; refine pkx ?_; exact BKqm.out) NBqm_qn.out (by simp)); replace HOqp := aQ (Kd.R_mono (Kd.R_keep (IsS126.apart (show IsS126 w _ gqn tq0 tqb tqc from pi_ HIqn) (by refine pRx ?_; exact (Kd.R_mono (Kd.R_far (p := ⟨gbqq, 1, none⟩) (Kd.R_far (p := ⟨gbqq, 0, none⟩) (Kd.R_types HOqp.out BKqq.out (by decide)) (fun _ hk => hk.2) (.int .i64 tq1)) (fun _ hk => hk.2) (.slice Ao35 tqa.length co35)) (fun _ h_ => h_.1))) (by decide)) hk (fun _ h => h.2)) (fun _ h => h.1)); replace BKqq := aQ (KeepBut.blk hk (g' := gbqq) (o := .cells #[.int .i64 tq1, .slice Ao35 tqa.length co35] 26 (0, 0)) (by refine pkx ?_; refine al (cs := #[.int .i64 tq1, .slice none 0 0]) ?_ 1 _ rfl; refine pkx ?_; refine al (cs := #[.int .i64 0, .slice none 0 0]) ?_ 0 _ rfl; refine pkx ?_; exact BKqq.out) NBqq_qn.out (by simp)); replace HB := aQ (hb); replace HIqn := aQ (hi); (try clear hb); (try clear hk); (try clear hi); obtain ⟨hcz37_0, hcz37_1, hfz37_0, hfz37_1⟩ := c2 BKqq) | (refine gq 98 (some 19) Tryz.func98 #[.pointer (some ⟨gqn, 0, none⟩), .int .i64 tq1] ?_; (with_reducible refine (b6.calls k gqn tq0 tqd tqe tq1 tq6 tqv tqw w _ ?side1 ?side2 A26.out).mono ?_); (case side1 => exact pi_ HIqn); (case side2 => exact pbI HB); rintro e w38 ⟨vqz, rfl, ho0, hi, hb, hk⟩; refine ⟨_, rfl, ?_⟩; replace BKqm := kk BKqm hk NBqm_qn.out; replace BKqq := kk BKqq hk NBqq_qn.out; have HOq10 := aQ (Kd.R_lower (Kd.R_new' ho0 (Kd.R_lt (pR HOqp.out))) (aa (pbI HB))); replace HOqp := aQ (Kd.R_mono (Kd.R_told (Kd.R_oldK (IsS126.apart (show IsS126 w _ gqn tq0 tqd tqe from pi_ HIqn) (pR HOqp.out) (by decide)) hk) (Kd.R_base ho0)) (fun _ h_ => h_.1)); replace HB := aQ (hb); replace HIqn := aQ (hi); (try clear hb); (try clear hk); (try clear hi); (try clear ho0)))
  replace HOqp := aQ (Kd.R_drew HOqp.out); replace HOq10 := aQ (Kd.R_drew HOq10.out); replace BKqm := aQ (b7 BKqm.out); replace BKqq := aQ (b7 BKqq.out); replace HIqn := aQ (IsS126.drew HIqn.out); replace HB := aQ (a7 HB.out)
  refine cN (n := 8) (S := fun w' => w'.cell? ⟨gbqq, 0, none⟩ = some (.int .i64 tq1) ∧ w'.cell? ⟨gbqq, 1, none⟩ = some (.slice Ao35 tqa.length co35)) (ds := []) _ (by kernel_rfl) rfl rfl ⟨(ac BKqq.out 0).trans rfl, (ac BKqq.out 1).trans rfl⟩ (fun hHeld => ?_); refine b0 bn.tab6 bn.bits6 (fun HT_ HW_ => ?_)
  generalize w38.drew = w39 at HOqp HOq10 BKqm BKqq HIqn HB hHeld ⊢
  refine pA 1 (some 21) HT_ ?_
  refine pA 2 (some 22) HT_ ?_
  refine tA2 0 (some 20) HT_ HW_ hHeld ?_
  refine onA (i := 3) (N := some 23) HT_ (h := fun K hK => ?_)
  refine gs Tryz.func99 #[.pointer (some ⟨gqn, 0, none⟩), .int .i64 8] ?_
  with_reducible refine (ak.calls gqn tq0 tqv tqw 8 tq7 tqx tqy w _ ?side1 ?side2 A27.out).mono ?_
  (case side1 => exact pi_ HIqn)
  (case side2 => exact pbI HB)
  rintro e w40 ⟨rfl, hi, hb, hk⟩
  refine ⟨_, rfl, ?_⟩
  replace BKqm := kk BKqm hk NBqm_qn.out; replace HOqp := aQ (Kd.R_mono (Kd.R_keep (IsS126.apart (show IsS126 w _ gqn tq0 tqv tqw from pi_ HIqn) (pR HOqp.out) (by decide)) hk (fun _ h => h.2)) (fun _ h => h.1)); replace BKqq := kk BKqq hk NBqq_qn.out; replace HOq10 := aQ (Kd.R_mono (Kd.R_keep (IsS126.apart (show IsS126 w _ gqn tq0 tqv tqw from pi_ HIqn) (pR HOq10.out) (by decide)) hk (fun _ h => h.2)) (fun _ h => h.1)); replace HB := aQ (hb); replace HIqn := aQ (hi)
  (try clear hb)
  (try clear hb2)
  (try clear hk)
  (try clear hi)
  refine hK.out _ _ ⟨(ac BKqq.out 0).trans rfl, (ac BKqq.out 1).trans rfl⟩ (fun hHeld => ?_)
  clear hK K
  refine noN (some 23) (h := ?_)
  refine pA 4 (some 24) HT_ ?_
  refine onA (i := 5) (N := none) HT_ (h := fun K hK => ?_)
  have hs41 : w40.cell? ⟨gbqm, 0, none⟩ = some (.int .i64 0) := (ac BKqm.out 0).trans rfl
  have hfs41 := aH BKqm.out 0
  have hns41_1 := NBqq_qm.out
  have hms41_1 := NBqm_qq.out
  have hs42 : w40.cell? ⟨gbqm, 1, none⟩ = some (.slice none 0 0) := (ac BKqm.out 1).trans rfl
  have hfs42 := aH BKqm.out 1
  have hns42_1 := NBqq_qm.out
  have hms42_1 := NBqm_qq.out
  refine iK (w1 := ?_) (by rfl) rfl ?_ ?_
  rotate_left
  ·go_simp
   rfl
  refine hK.out _ _ ⟨((cR (p := ⟨gbqm, _, none⟩) NBqq_qm.out _).trans (((cR (p := ⟨gbqm, _, none⟩) NBqq_qm.out _).trans (hHeld.1)))), ((cR (p := ⟨gbqm, _, none⟩) NBqq_qm.out _).trans (((cR (p := ⟨gbqm, _, none⟩) NBqq_qm.out _).trans (hHeld.2))))⟩ (fun hHeld => ?_)
  clear hK K
  refine pA 6 (some 3) HT_ ?_
  refine pA 7 (some 4) HT_ ?_
  refine dn (cB HT_.out (by kernel_rfl)) ?_
  try go_wp2
  refine bodyPost_ret (dw rfl _ _ gbqm 26 #[.int .i64 tq1, .slice Ao35 tqa.length co35] (0, 0) _ rfl (by refine pkx ?_; refine al (cs := #[.int .i64 tq1, .slice none 0 0]) ?_ 1 _ rfl; refine pkx ?_; refine al (cs := #[.int .i64 0, .slice none 0 0]) ?_ 0 _ rfl; refine pkx ?_; exact BKqm.out) Tryz.underlying26 rfl (by kernel_rfl)) rfl ?_
  exact ⟨_, _, by first | rfl | (simp [errW_none, aj] <;> rfl) | (simp [*, errW_none, aj] <;> rfl), by refine pRx ?_; exact Kd.R_mono (Kd.R_far (p := ⟨gbqm, 1, none⟩) (Kd.R_far (p := ⟨gbqm, 0, none⟩) (Kd.R_types HOqp.out BKqm.out (by decide)) (fun _ hk => hk.2) (.int .i64 tq1)) (fun _ hk => hk.2) (.slice Ao35 tqa.length co35)) (fun _ hk => hk.1.2), by refine pRx ?_; exact Kd.R_mono (Kd.R_far (p := ⟨gbqm, 1, none⟩) (Kd.R_far (p := ⟨gbqm, 0, none⟩) (Kd.R_types HOq10.out BKqm.out (by decide)) (fun _ hk => hk.2) (.int .i64 tq1)) (fun _ hk => hk.2) (.slice Ao35 tqa.length co35)) (fun _ hk => hk.1.2), pbI HB⟩
def ca.f (k : Nat) (l0 : List Int) : Option (Int × List Int × List Int) := (bn.f k l0).bind fun btq0 => (some (btq0.1, btq0.2.1, btq0.2.2.1))
theorem ca.calls (k : Nat) (A0 : Option Addr) (c0 : Nat) (l0 : List Int) (r1 : Int) (r2 : List Int) (r3 : List Int) (w : World) (hr0 : Kd.C (Kd.int .u8) w A0 l0.length l0) (hc0 : l0.length ≤ c0) (h : ca.f k l0 = some (r1, r2, r3)) :
  Calls Tryz.prog 24 #[.slice A0 l0.length c0] w fun e w' => ∃ v1_ v2_ : Value, e = .returned (.tuple #[.agg #[.int .i64 r1, v1_], v2_]) ∧ Kd.R (Kd.int .i64) 3 w' w.heap.size (fun k_ => some k_ ≠ (v2_ : Value).ownBlock) v1_ r2 ∧ Kd.R (Kd.int .i64) 3 w' w.heap.size (fun k_ => some k_ ≠ (v1_ : Value).ownBlock) v2_ r3 ∧ Below w.heap.size w w' := by
 have hu26 := Tryz.underlying26
 have HR0 := aQ hr0
 have HC0 := aQ hc0
 clear hr0 hc0
 have HB := aQ (Below.refl w.heap.size w)
 have H := h
 clear h
 unfold ca.f at H
 (try dsimp only at H)
 replace H := bo H; obtain ⟨⟨tq0, tq1, tq2, tq3⟩, A2, H⟩ := H
 (try dsimp only at H)
 simp only [Option.some.injEq, Prod.mk.injEq] at H
 obtain ⟨rfl, rfl, rfl⟩ := H
 go_enter Tryz.func24, Tryz.ntmps24
 go_wp2_with (first | ((with_reducible refine af (N := 2) rfl ?_); refine bx 2 #[.int .i64 0, .slice none 0 0] 26 ?_; intro gbq4 hg w3 hbox hb; have BKq4 := aQ (hbox); have GWq4 := gB HB hg; have GEq4 := gB HB hg; replace HB := bs HB hb; clear hb hbox hg) | (refine gq 113 (some 9) Tryz.func113 #[.slice A0 l0.length c0] ?_; (with_reducible refine (bn.calls k _ _ l0 tq0 tq1 tq2 tq3 _ ?side1 ?side2 A2.out).mono ?_); (case side1 => exact pC (Kd.C_below HR0.out HB.out)); (case side2 => exact HC0.out); rintro e w4 ⟨vq5, vq6, rfl, ho0, ho1, hb⟩; refine ⟨_, rfl, ?_⟩; have HOq7 := aQ (Kd.R_lower ho0 (aa (pB1 HB.out GEq4.out))); have HOq8 := aQ (Kd.R_lower ho1 (aa (pB1 HB.out GEq4.out))); replace BKq4 := bb BKq4 hb; replace HB := bs HB hb; (try clear hb); (try clear ho0); (try clear ho1)) | ((with_reducible refine af (N := 4) rfl ?_); refine bx 4 #[.int .i64 0, .slice none 0 0] 26 ?_; intro gbq9 hg w5 hbox hb; replace HOq7 := aQ (Kd.R_below (pR HOq7.out) hb); replace HOq8 := aQ (Kd.R_below (pR HOq8.out) hb); have BKq9 := aQ (hbox); have GWq9 := gB HB hg; have GEq9 := gB HB hg; replace HB := bs HB hb; have NBq4_q9 := nl BKq4 hg; have NBq9_q4 := ng BKq4 hg; replace BKq4 := bb BKq4 hb; clear hb hbox hg; have hnb6 := NBq9_q4.out; have hnc6 := NBq4_q9.out; obtain ⟨hcz7_0, hcz7_1, hfz7_0, hfz7_1⟩ := c2 BKq9; obtain ⟨Ao8, co8, eo8⟩ := Kd.R_slice HOq7.out; subst eo8; obtain ⟨hcz9_0, hcz9_1, hfz9_0, hfz9_1⟩ := c2 BKq4))
 refine bodyPost_ret (cK rfl _ _ gbq4 26 #[.int .i64 tq0, .slice Ao8 tq1.length co8] (0, 0) _ rfl (by refine pkx ?_; refine al (cs := #[.int .i64 tq0, .slice none 0 0]) ?_ 1 _ rfl; refine pkx ?_; refine al (cs := #[.int .i64 0, .slice none 0 0]) ?_ 0 _ rfl; refine pkx ?_; refine aU ?_ NBq4_q9.out _; refine pkx ?_; refine aU ?_ NBq4_q9.out _; refine pkx ?_; exact BKq4.out) Tryz.underlying26 rfl (by kernel_rfl)) rfl ?_
 exact ⟨_, _, by first | rfl | (simp [errW_none, aj] <;> rfl) | (simp [*, errW_none, aj] <;> rfl), by refine pRx ?_; exact Kd.R_mono (Kd.R_far (p := ⟨gbq4, 1, none⟩) (Kd.R_far (p := ⟨gbq4, 0, none⟩) (Kd.R_far (p := ⟨gbq9, 1, none⟩) (Kd.R_far (p := ⟨gbq9, 0, none⟩) (Kd.R_types (Kd.R_types HOq7.out BKq9.out (by decide)) BKq4.out (by decide)) (fun _ hk => hk.1.2) (.int .i64 tq0)) (fun _ hk => hk.1.2) (.slice Ao8 tq1.length co8)) (fun _ hk => hk.2) (.int .i64 tq0)) (fun _ hk => hk.2) (.slice Ao8 tq1.length co8)) (fun _ hk => hk.1.1), by refine pRx ?_; exact Kd.R_mono (Kd.R_far (p := ⟨gbq4, 1, none⟩) (Kd.R_far (p := ⟨gbq4, 0, none⟩) (Kd.R_far (p := ⟨gbq9, 1, none⟩) (Kd.R_far (p := ⟨gbq9, 0, none⟩) (Kd.R_types (Kd.R_types HOq8.out BKq9.out (by decide)) BKq4.out (by decide)) (fun _ hk => hk.1.2) (.int .i64 tq0)) (fun _ hk => hk.1.2) (.slice Ao8 tq1.length co8)) (fun _ hk => hk.2) (.int .i64 tq0)) (fun _ hk => hk.2) (.slice Ao8 tq1.length co8)) (fun _ hk => hk.1.1), pB2 HB.out GEq4.out GEq9.out⟩
def ce.f (a0 : Int) : Option (Bool) := if a0 ≥ 0 then (some (decide (a0 ≤ 8))) else (some false)
theorem ce.calls (a0 : Int) (r : Bool) (w : World) (h : ce.f a0 = some r) :
  Calls Tryz.prog 128 #[.int .i64 a0] w fun e w' => e = .returned (.bool r) ∧ Drawn0 w w' := by
 have H : (if a0 ≥ 0 then (some (decide (a0 ≤ 8))) else (some false)) = some r := h
 clear h
 by_cases c2 : a0 ≥ 0
 ·rw [if_pos c2] at H
  have c2b0 := decide_eq_true c2
  clear c2
  obtain rfl := Option.some.inj H
  go_enter Tryz.func128, Tryz.ntmps128
  go_wp2
  go_ret
  exact ⟨rs_, rd_⟩
 ·rw [if_neg c2] at H
  have c2b0 := decide_eq_false c2
  clear c2
  obtain rfl := Option.some.inj H
  go_enter Tryz.func128, Tryz.ntmps128
  go_wp2
  go_ret
  exact ⟨rs_, rd_⟩
def aV.l0 : Nat → Int → List Int → List Int → Int → Int → Option (Bool)
 | 0, _, _, _, _, _ => none
 | k + 1, x0, x1, x7, x8, x9 => if x9 < x8 then (if 0 ≤ x9 then (if x9 < (x7.length : Int) then (if (rd x7 x9) < (-1000) then (some false) else (if (rd x7 x9) > 1000 then (some false) else (aV.l0 k x0 x1 x7 x8 (wrap64 (x9 + 1))))) else (none)) else (none)) else ((ce.f x0).bind fun tq0 => (if tq0 = true then (some ((x1.length : Int) == x0)) else (some false)))
def aV.f (k : Nat) (a0 : Int) (l1 : List Int) : Option (Bool) := aV.l0 k a0 l1 l1 (l1.length : Int) 0
theorem aV.calls (k : Nat) (a0 : Int) (A1 : Option Addr) (c1 : Nat) (l1 : List Int) (r : Bool) (w : World) (hr1 : Kd.C (Kd.int .i64) w A1 l1.length l1) (hc1 : l1.length ≤ c1) (h : aV.f k a0 l1 = some r) :
  Calls Tryz.prog 38 #[.int .i64 a0, .slice A1 l1.length c1] w fun e w' => e = .returned (.bool r) ∧ Drawn0 w w' := by
 have HR1 := aQ hr1
 have HC1 := aQ hc1
 clear hr1 hc1
 have H : (aV.l0 k a0 l1 l1 (l1.length : Int) 0) = some r := h
 clear h
 have H' := aQ H
 clear H
 go_enter Tryz.func38, Tryz.ntmps38
 go_wp2
 go_loopg [9] k (fun kq v9 w' => ∃ (x9_1 : Int), v9 = .int .i64 x9_1 ∧ Aside0 (aV.l0 kq a0 l1 l1 (l1.length : Int) x9_1 = some r) ∧ Aside0 (kq ≤ k) ∧ Drawn0 w w')
 case atStart => exact ⟨(0), rs_, H', ⟨Nat.le_refl _⟩, rd_⟩
 clear H'
 try clear c1
 obtain ⟨x9_1, rfl, HA, HK1, ⟨m1, rfl⟩⟩ := hrel
 rcases gk with _ | k1
 ·exact absurd HA.out (by simp [aV.l0])
 have H := HA.out
 clear HA
 simp only [aV.l0] at H
 by_cases c3 : x9_1 < (l1.length : Int)
 ·rw [if_pos c3] at H
  have c3b0 := decide_eq_true c3
  clear c3
  replace H := gd H; obtain ⟨c4, H⟩ := H
  have c4b0 := decide_eq_true c4
  clear c4
  replace H := gd H; obtain ⟨c5, H⟩ := H
  have c5b0 := decide_eq_true c5
  clear c5
  by_cases c6 : (rd l1 x9_1) < (-1000)
  ·rw [if_pos c6] at H
   have c6b0 := decide_eq_true c6
   clear c6
   obtain rfl := Option.some.inj H
   have pq1 : 0 ≤ (x9_1 : Int) := of_decide_eq_true as_
   have qq1 : x9_1 < (l1.length : Int) := of_decide_eq_true as_
   obtain ⟨adq1, eq1, hxq1_0⟩ := Kd.at_int HR1.out x9_1 pq1 qq1
   cases eq1
   replace pq1 := eq_true pq1
   replace qq1 := eq_true qq1
   go_wp2
   go_ret
   exact ⟨rs_, rd_⟩
  ·rw [if_neg c6] at H
   have c6b0 := decide_eq_false c6
   clear c6
   by_cases c7 : (rd l1 x9_1) > 1000
   ·rw [if_pos c7] at H
    have c7b0 := decide_eq_true c7
    clear c7
    obtain rfl := Option.some.inj H
    have pq1 : 0 ≤ (x9_1 : Int) := of_decide_eq_true as_
    have qq1 : x9_1 < (l1.length : Int) := of_decide_eq_true as_
    obtain ⟨adq1, eq1, hxq1_0⟩ := Kd.at_int HR1.out x9_1 pq1 qq1
    cases eq1
    replace pq1 := eq_true pq1
    replace qq1 := eq_true qq1
    go_wp2
    go_ret
    exact ⟨rs_, rd_⟩
   ·rw [if_neg c7] at H
    have c7b0 := decide_eq_false c7
    clear c7
    have H' := aQ H
    clear H
    have pq1 : 0 ≤ (x9_1 : Int) := of_decide_eq_true as_
    have qq1 : x9_1 < (l1.length : Int) := of_decide_eq_true as_
    obtain ⟨adq1, eq1, hxq1_0⟩ := Kd.at_int HR1.out x9_1 pq1 qq1
    cases eq1
    replace pq1 := eq_true pq1
    replace qq1 := eq_true qq1
    go_wp2
    go_roundg k1
    case measure => have := HK1.out; omega
    case rel => exact ⟨(wrap64 (x9_1 + 1)), rs_, H', ⟨by have := HK1.out; omega⟩, rd_⟩
 ·rw [if_neg c3] at H
  have c3b0 := decide_eq_false c3
  clear c3
  replace H := bo H; obtain ⟨tq0, A8, H⟩ := H
  (try dsimp only at H)
  by_cases c9 : tq0 = true
  ·subst c9
   rw [if_pos rfl] at H
   obtain rfl := Option.some.inj H
   go_wp2_with (first | (refine gq 128 (some 21) Tryz.func128 #[.int .i64 a0] ?_; (with_reducible refine (ce.calls a0 true _ A8.out).mono ?_); rintro e w' ⟨rfl, ⟨nd, rfl⟩⟩; refine ⟨_, rfl, ?_⟩))
   go_ret
   exact ⟨rs_, rd_⟩
  ·replace c9 := Bool.eq_false_iff.mpr c9
   subst c9
   have H1 : (some false) = some r := by rw [if_neg (show ¬ (false = true) by decide)] at H; exact H
   clear H
   have H := H1
   clear H1
   obtain rfl := Option.some.inj H
   go_wp2_with (first | (refine gq 128 (some 21) Tryz.func128 #[.int .i64 a0] ?_; (with_reducible refine (ce.calls a0 false _ A8.out).mono ?_); rintro e w' ⟨rfl, ⟨nd, rfl⟩⟩; refine ⟨_, rfl, ?_⟩))
   go_ret
   exact ⟨rs_, rd_⟩
def de.f (a0 : Int) (a1 : Int) : Option (Bool) := (ce.f a0).bind fun tq0 => (if tq0 = true then (if a1 ≥ 0 then (if 0 ≤ a0 then (some (decide (a1 < (shl .i64 1 a0)))) else (none)) else (some false)) else (some false))
theorem de.calls (a0 : Int) (a1 : Int) (r : Bool) (w : World) (h : de.f a0 a1 = some r) :
  Calls Tryz.prog 177 #[.int .i64 a0, .int .i64 a1] w fun e w' => e = .returned (.bool r) ∧ Drawn0 w w' := by
 have H := h
 clear h
 unfold de.f at H
 (try dsimp only at H)
 replace H := bo H; obtain ⟨tq0, A3, H⟩ := H
 (try dsimp only at H)
 by_cases c4 : tq0 = true
 ·subst c4
  rw [if_pos rfl] at H
  by_cases c5 : a1 ≥ 0
  ·rw [if_pos c5] at H
   have c5b0 := decide_eq_true c5
   clear c5
   replace H := gd H; obtain ⟨c6, H⟩ := H
   have c6b0 := eq_true c6
   have c6b1 := decide_eq_true c6
   clear c6
   obtain ⟨ji7, hji7⟩ : ∃ j_ : Int, (shl .i64 1 a0) = j_ := ⟨_, rfl⟩
   replace H : (some (decide (a1 < (ji7)))) = some r := by first | (rw [hji7] at H; exact H) | (simp only [hji7] at H ⊢; exact H)
   (try rw [hji7] at A3)
   have hji7_ : (IntKind.i64.wrap (1 * 2 ^ min a0.toNat 64)) = ji7 := hji7
   have hji7z : a0 ≤ 64 → (IntKind.i64.wrap (1 * 2 ^ a0.toNat)) = ji7 := cP hji7
   have hji7u : (IntKind.i64.wrap (2 ^ min a0.toNat 64)) = ji7 := by have h_ := hji7_; rw [Int.one_mul] at h_; exact h_
   have hji7v : a0 ≤ 64 → (IntKind.i64.wrap (2 ^ a0.toNat)) = ji7 := fun hle_ => by have h_ := hji7z hle_; rw [Int.one_mul] at h_; exact h_
   have hji7y : (wrap64 (1 * 2 ^ min a0.toNat 64)) = ji7 := (i64_w _).symm.trans hji7_
   have hji7x : a0 ≤ 64 → (wrap64 (1 * 2 ^ a0.toNat)) = ji7 := fun h_ => (i64_w _).symm.trans (hji7z h_)
   obtain rfl := Option.some.inj H
   go_enter Tryz.func177, Tryz.ntmps177
   go_wp2_with (first | (refine gq 128 (some 6) Tryz.func128 #[.int .i64 a0] ?_; (with_reducible refine (ce.calls a0 true _ A3.out).mono ?_); rintro e w' ⟨rfl, ⟨nd, rfl⟩⟩; refine ⟨_, rfl, ?_⟩))
   go_ret
   exact ⟨by first | rfl | (simp; done) | (simp only [← hji7] <;> (first | rfl | simp)) | (simp [*]; done), rd_⟩
  ·rw [if_neg c5] at H
   have c5b0 := decide_eq_false c5
   clear c5
   obtain rfl := Option.some.inj H
   go_enter Tryz.func177, Tryz.ntmps177
   go_wp2_with (first | (refine gq 128 (some 6) Tryz.func128 #[.int .i64 a0] ?_; (with_reducible refine (ce.calls a0 true _ A3.out).mono ?_); rintro e w' ⟨rfl, ⟨nd, rfl⟩⟩; refine ⟨_, rfl, ?_⟩))
   go_ret
   exact ⟨rs_, rd_⟩
 ·replace c4 := Bool.eq_false_iff.mpr c4
  subst c4
  have H1 : (some false) = some r := by rw [if_neg (show ¬ (false = true) by decide)] at H; exact H
  clear H
  have H := H1
  clear H1
  obtain rfl := Option.some.inj H
  go_enter Tryz.func177, Tryz.ntmps177
  go_wp2_with (first | (refine gq 128 (some 6) Tryz.func128 #[.int .i64 a0] ?_; (with_reducible refine (ce.calls a0 false _ A3.out).mono ?_); rintro e w' ⟨rfl, ⟨nd, rfl⟩⟩; refine ⟨_, rfl, ?_⟩))
  go_ret
  exact ⟨rs_, rd_⟩
def br.l0 : Nat → Int → List Int → List Int → Int → Int → Option (Bool)
 | 0, _, _, _, _, _ => none
 | k + 1, x0, x1, x7, x8, x9 => if x9 < x8 then (if 0 ≤ x9 then (if x9 < (x7.length : Int) then ((de.f x0 (rd x7 x9)).bind fun tq0 => (if tq0 = true then (if x9 > 0 then (if 0 ≤ (wrap64 (x9 - 1)) then (if (wrap64 (x9 - 1)) < (x1.length : Int) then (if (rd x7 x9) ≤ (rd x1 (wrap64 (x9 - 1))) then (some false) else (br.l0 k x0 x1 x7 x8 (wrap64 (x9 + 1)))) else (none)) else (none)) else (br.l0 k x0 x1 x7 x8 (wrap64 (x9 + 1)))) else (some false))) else (none)) else (none)) else ((ce.f x0).bind fun tq1 => (some tq1))
def br.f (k : Nat) (a0 : Int) (l1 : List Int) : Option (Bool) := br.l0 k a0 l1 l1 (l1.length : Int) 0
theorem br.calls (k : Nat) (a0 : Int) (A1 : Option Addr) (c1 : Nat) (l1 : List Int) (r : Bool) (w : World) (hr1 : Kd.C (Kd.int .i64) w A1 l1.length l1) (hc1 : l1.length ≤ c1) (h : br.f k a0 l1 = some r) :
  Calls Tryz.prog 154 #[.int .i64 a0, .slice A1 l1.length c1] w fun e w' => e = .returned (.bool r) ∧ Drawn0 w w' := by
 have HR1 := aQ hr1
 have HC1 := aQ hc1
 clear hr1 hc1
 have H : (br.l0 k a0 l1 l1 (l1.length : Int) 0) = some r := h
 clear h
 have H' := aQ H
 clear H
 go_enter Tryz.func154, Tryz.ntmps154
 go_wp2
 go_loopg [9] k (fun kq v9 w' => ∃ (x9_1 : Int), v9 = .int .i64 x9_1 ∧ Aside0 (br.l0 kq a0 l1 l1 (l1.length : Int) x9_1 = some r) ∧ Aside0 (kq ≤ k) ∧ Drawn0 w w')
 case atStart => exact ⟨(0), rs_, H', ⟨Nat.le_refl _⟩, rd_⟩
 clear H'
 try clear c1
 obtain ⟨x9_1, rfl, HA, HK1, ⟨m1, rfl⟩⟩ := hrel
 rcases gk with _ | k1
 ·exact absurd HA.out (by simp [br.l0])
 have H := HA.out
 clear HA
 simp only [br.l0] at H
 by_cases c3 : x9_1 < (l1.length : Int)
 ·rw [if_pos c3] at H
  have c3b0 := decide_eq_true c3
  clear c3
  replace H := gd H; obtain ⟨c4, H⟩ := H
  have c4b0 := decide_eq_true c4
  clear c4
  replace H := gd H; obtain ⟨c5, H⟩ := H
  have c5b0 := decide_eq_true c5
  clear c5
  replace H := bo H; obtain ⟨tq0, A6, H⟩ := H
  (try dsimp only at H)
  by_cases c7 : tq0 = true
  ·subst c7
   rw [if_pos rfl] at H
   by_cases c8 : x9_1 > 0
   ·rw [if_pos c8] at H
    have c8b0 := decide_eq_true c8
    clear c8
    obtain ⟨ji9, hji9⟩ : ∃ j_ : Int, (wrap64 (x9_1 - 1)) = j_ := ⟨_, rfl⟩
    replace H : (if 0 ≤ (ji9) then (if (ji9) < (l1.length : Int) then (if (rd l1 x9_1) ≤ (rd l1 (ji9)) then (some false) else (br.l0 k1 a0 l1 l1 (l1.length : Int) (wrap64 (x9_1 + 1)))) else (none)) else (none)) = some r := by first | (rw [hji9] at H; exact H) | (simp only [hji9] at H ⊢; exact H)
    (try rw [hji9] at A6)
    have hji9w : (IntKind.i64.wrap (x9_1 - 1)) = ji9 := (i64_w _).trans hji9
    replace H := gd H; obtain ⟨c10, H⟩ := H
    have c10b0 := decide_eq_true c10
    clear c10
    replace H := gd H; obtain ⟨c11, H⟩ := H
    have c11b0 := decide_eq_true c11
    clear c11
    by_cases c12 : (rd l1 x9_1) ≤ (rd l1 (ji9))
    ·rw [if_pos c12] at H
     have c12b0 := decide_eq_true c12
     clear c12
     obtain rfl := Option.some.inj H
     have pq2 : 0 ≤ (x9_1 : Int) := of_decide_eq_true as_
     have qq2 : x9_1 < (l1.length : Int) := of_decide_eq_true as_
     obtain ⟨adq2, eq2, hxq2_0⟩ := Kd.at_int HR1.out x9_1 pq2 qq2
     cases eq2
     replace pq2 := eq_true pq2
     replace qq2 := eq_true qq2
     go_wp2_with (first | (refine gq 177 (some 16) Tryz.func177 #[.int .i64 a0, .int .i64 (rd l1 x9_1)] ?_; (with_reducible refine (de.calls a0 (rd l1 x9_1) true _ A6.out).mono ?_); rintro e w' ⟨rfl, ⟨nd, rfl⟩⟩; refine ⟨_, rfl, ?_⟩; have pq3 : 0 ≤ ((ji9) : Int) := of_decide_eq_true as_; have qq3 : (ji9) < (l1.length : Int) := of_decide_eq_true as_; obtain ⟨adq3, eq3, hxq3_0⟩ := Kd.at_int HR1.out (ji9) pq3 qq3; obtain rfl : adq2 = adq3 := (by injection eq3); replace pq3 := eq_true pq3; replace qq3 := eq_true qq3))
     go_ret
     exact ⟨by first | rfl | (simp; done) | (simp only [← hji9] <;> (first | rfl | simp)) | (simp [*]; done), rd_⟩
    ·rw [if_neg c12] at H
     have c12b0 := decide_eq_false c12
     clear c12
     have H' := aQ H
     clear H
     have pq2 : 0 ≤ (x9_1 : Int) := of_decide_eq_true as_
     have qq2 : x9_1 < (l1.length : Int) := of_decide_eq_true as_
     obtain ⟨adq2, eq2, hxq2_0⟩ := Kd.at_int HR1.out x9_1 pq2 qq2
     cases eq2
     replace pq2 := eq_true pq2
     replace qq2 := eq_true qq2
     go_wp2_with (first | (refine gq 177 (some 16) Tryz.func177 #[.int .i64 a0, .int .i64 (rd l1 x9_1)] ?_; (with_reducible refine (de.calls a0 (rd l1 x9_1) true _ A6.out).mono ?_); rintro e w' ⟨rfl, ⟨nd, rfl⟩⟩; refine ⟨_, rfl, ?_⟩; have pq3 : 0 ≤ ((ji9) : Int) := of_decide_eq_true as_; have qq3 : (ji9) < (l1.length : Int) := of_decide_eq_true as_; obtain ⟨adq3, eq3, hxq3_0⟩ := Kd.at_int HR1.out (ji9) pq3 qq3; obtain rfl : adq2 = adq3 := (by injection eq3); replace pq3 := eq_true pq3; replace qq3 := eq_true qq3))
     go_roundg k1
     case measure => have := HK1.out; omega
     case rel => exact ⟨(wrap64 (x9_1 + 1)), rs_, H', ⟨by have := HK1.out; omega⟩, rd_⟩
   ·rw [if_neg c8] at H
    have c8b0 := decide_eq_false c8
    clear c8
    have H' := aQ H
    clear H
    have pq2 : 0 ≤ (x9_1 : Int) := of_decide_eq_true as_
    have qq2 : x9_1 < (l1.length : Int) := of_decide_eq_true as_
    obtain ⟨adq2, eq2, hxq2_0⟩ := Kd.at_int HR1.out x9_1 pq2 qq2
    cases eq2
    replace pq2 := eq_true pq2
    replace qq2 := eq_true qq2
    go_wp2_with (first | (refine gq 177 (some 16) Tryz.func177 #[.int .i64 a0, .int .i64 (rd l1 x9_1)] ?_; (with_reducible refine (de.calls a0 (rd l1 x9_1) true _ A6.out).mono ?_); rintro e w' ⟨rfl, ⟨nd, rfl⟩⟩; refine ⟨_, rfl, ?_⟩))
    go_roundg k1
    case measure => have := HK1.out; omega
    case rel => exact ⟨(wrap64 (x9_1 + 1)), rs_, H', ⟨by have := HK1.out; omega⟩, rd_⟩
  ·replace c7 := Bool.eq_false_iff.mpr c7
   subst c7
   have H1 : (some false) = some r := by rw [if_neg (show ¬ (false = true) by decide)] at H; exact H
   clear H
   have H := H1
   clear H1
   obtain rfl := Option.some.inj H
   have pq2 : 0 ≤ (x9_1 : Int) := of_decide_eq_true as_
   have qq2 : x9_1 < (l1.length : Int) := of_decide_eq_true as_
   obtain ⟨adq2, eq2, hxq2_0⟩ := Kd.at_int HR1.out x9_1 pq2 qq2
   cases eq2
   replace pq2 := eq_true pq2
   replace qq2 := eq_true qq2
   go_wp2_with (first | (refine gq 177 (some 16) Tryz.func177 #[.int .i64 a0, .int .i64 (rd l1 x9_1)] ?_; (with_reducible refine (de.calls a0 (rd l1 x9_1) false _ A6.out).mono ?_); rintro e w' ⟨rfl, ⟨nd, rfl⟩⟩; refine ⟨_, rfl, ?_⟩))
   go_ret
   exact ⟨rs_, rd_⟩
 ·rw [if_neg c3] at H
  have c3b0 := decide_eq_false c3
  clear c3
  replace H := bo H; obtain ⟨tq1, A13, H⟩ := H
  (try dsimp only at H)
  obtain rfl := Option.some.inj H
  go_wp2_with (first | (refine gq 128 (some 33) Tryz.func128 #[.int .i64 a0] ?_; (with_reducible refine (ce.calls a0 tq1 _ A13.out).mono ?_); rintro e w' ⟨rfl, ⟨nd, rfl⟩⟩; refine ⟨_, rfl, ?_⟩))
  go_ret
  exact ⟨rs_, rd_⟩
def bL.f (a0 : Int) : Option (Bool) := if a0 ≥ 0 then (some (decide (a0 < 256))) else (some false)
theorem bL.calls (a0 : Int) (r : Bool) (w : World) (h : bL.f a0 = some r) :
  Calls Tryz.prog 205 #[.int .i64 a0] w fun e w' => e = .returned (.bool r) ∧ Drawn0 w w' := by
 have H : (if a0 ≥ 0 then (some (decide (a0 < 256))) else (some false)) = some r := h
 clear h
 by_cases c2 : a0 ≥ 0
 ·rw [if_pos c2] at H
  have c2b0 := decide_eq_true c2
  clear c2
  obtain rfl := Option.some.inj H
  go_enter Tryz.func205, Tryz.ntmps205
  go_wp2
  go_ret
  exact ⟨rs_, rd_⟩
 ·rw [if_neg c2] at H
  have c2b0 := decide_eq_false c2
  clear c2
  obtain rfl := Option.some.inj H
  go_enter Tryz.func205, Tryz.ntmps205
  go_wp2
  go_ret
  exact ⟨rs_, rd_⟩
def bP.f (a0 : Int) (a1 : Int) : Option (Bool) := (bL.f a0).bind fun tq0 => (if tq0 = true then (if a1 ≥ 0 then (if a1 < 8 then (if 0 ≤ a1 then (some ((Go.bits .and .i64 (shr .i64 a0 a1) 1) == 1)) else (none)) else (some false)) else (some false)) else (some false))
theorem bP.calls (a0 : Int) (a1 : Int) (r : Bool) (w : World) (h : bP.f a0 a1 = some r) :
  Calls Tryz.prog 120 #[.int .i64 a0, .int .i64 a1] w fun e w' => e = .returned (.bool r) ∧ Drawn0 w w' := by
 have H := h
 clear h
 unfold bP.f at H
 (try dsimp only at H)
 replace H := bo H; obtain ⟨tq0, A3, H⟩ := H
 (try dsimp only at H)
 by_cases c4 : tq0 = true
 ·subst c4
  rw [if_pos rfl] at H
  by_cases c5 : a1 ≥ 0
  ·rw [if_pos c5] at H
   have c5b0 := decide_eq_true c5
   clear c5
   by_cases c6 : a1 < 8
   ·rw [if_pos c6] at H
    have c6b0 := decide_eq_true c6
    clear c6
    replace H := gd H; obtain ⟨c7, H⟩ := H
    have c7b0 := eq_true c7
    have c7b1 := decide_eq_true c7
    clear c7
    obtain ⟨ji8, hji8⟩ : ∃ j_ : Int, (shr .i64 a0 a1) = j_ := ⟨_, rfl⟩
    replace H : (some ((Go.bits .and .i64 (ji8) 1) == 1)) = some r := by first | (rw [hji8] at H; exact H) | (simp only [hji8] at H ⊢; exact H)
    (try rw [hji8] at A3)
    have hji8_ : (a0 / 2 ^ min a1.toNat 64) = ji8 := hji8
    have hji8z : a1 ≤ 64 → (a0 / 2 ^ a1.toNat) = ji8 := iE hji8
    obtain rfl := Option.some.inj H
    go_enter Tryz.func120, Tryz.ntmps120
    go_wp2_with (first | (refine gq 205 (some 6) Tryz.func205 #[.int .i64 a0] ?_; (with_reducible refine (bL.calls a0 true _ A3.out).mono ?_); rintro e w' ⟨rfl, ⟨nd, rfl⟩⟩; refine ⟨_, rfl, ?_⟩))
    go_ret
    exact ⟨by first | rfl | (simp; done) | (simp only [← hji8] <;> (first | rfl | simp)) | (simp [*]; done), rd_⟩
   ·rw [if_neg c6] at H
    have c6b0 := decide_eq_false c6
    clear c6
    obtain rfl := Option.some.inj H
    go_enter Tryz.func120, Tryz.ntmps120
    go_wp2_with (first | (refine gq 205 (some 6) Tryz.func205 #[.int .i64 a0] ?_; (with_reducible refine (bL.calls a0 true _ A3.out).mono ?_); rintro e w' ⟨rfl, ⟨nd, rfl⟩⟩; refine ⟨_, rfl, ?_⟩))
    go_ret
    exact ⟨rs_, rd_⟩
  ·rw [if_neg c5] at H
   have c5b0 := decide_eq_false c5
   clear c5
   obtain rfl := Option.some.inj H
   go_enter Tryz.func120, Tryz.ntmps120
   go_wp2_with (first | (refine gq 205 (some 6) Tryz.func205 #[.int .i64 a0] ?_; (with_reducible refine (bL.calls a0 true _ A3.out).mono ?_); rintro e w' ⟨rfl, ⟨nd, rfl⟩⟩; refine ⟨_, rfl, ?_⟩))
   go_ret
   exact ⟨rs_, rd_⟩
 ·replace c4 := Bool.eq_false_iff.mpr c4
  subst c4
  have H1 : (some false) = some r := by rw [if_neg (show ¬ (false = true) by decide)] at H; exact H
  clear H
  have H := H1
  clear H1
  obtain rfl := Option.some.inj H
  go_enter Tryz.func120, Tryz.ntmps120
  go_wp2_with (first | (refine gq 205 (some 6) Tryz.func205 #[.int .i64 a0] ?_; (with_reducible refine (bL.calls a0 false _ A3.out).mono ?_); rintro e w' ⟨rfl, ⟨nd, rfl⟩⟩; refine ⟨_, rfl, ?_⟩))
  go_ret
  exact ⟨rs_, rd_⟩
def au.l0 : Nat → Int → List Int → Int → Option (List Int)
 | 0, _, _, _ => none
 | k + 1, x0, x3, x4 => if x4 < 8 then ((bP.f x0 x4).bind fun tq0 => (if tq0 = true then (if x3.length < 17592186044416 then (au.l0 k x0 (x3 ++ [x4]) (wrap64 (x4 + 1))) else (none)) else (au.l0 k x0 x3 (wrap64 (x4 + 1))))) else (some x3)
def au.f (k : Nat) (a0 : Int) : Option (List Int) := au.l0 k a0 (([] : List Int)) 0
theorem au.mono_l : ∀ k, (∀ y0 y1 y2, LeO (au.l0 k y0 y1 y2) (au.l0 (k + 1) y0 y1 y2))
 | 0 => fun _ _ _ r h => by simp [au.l0] at h
 | k + 1 => by
  have ih0 := au.mono_l k
  ·intro y0 y1 y2
   unfold au.l0
   repeat' first | (with_reducible first | exact ih0 _ _ _ | exact LeO.refl _ | exact LeO.none _ | refine LeO.ite ?_ ?_ | refine LeO.bind ?_ (fun _ => ?_)) | exact ih0 _ _ _ | exact LeO.none _ | refine LeO.ite ?_ ?_ | refine LeO.bind ?_ (fun _ => ?_)
theorem au.mono : ∀ a0 k, LeO (au.f k a0) (au.f (k + 1) a0) := by
 intro a0 k
 have ih0 := au.mono_l k
 unfold au.f
 repeat' first | (with_reducible first | exact ih0 _ _ _ | exact LeO.refl _ | exact LeO.none _ | refine LeO.ite ?_ ?_ | refine LeO.bind ?_ (fun _ => ?_)) | exact ih0 _ _ _ | exact LeO.none _ | refine LeO.ite ?_ ?_ | refine LeO.bind ?_ (fun _ => ?_)
theorem au.calls (k : Nat) (a0 : Int) (r : List Int) (w : World) (h : au.f k a0 = some r) :
  Calls Tryz.prog 129 #[.int .i64 a0] w fun e w' => ∃ v0_ : Value, e = .returned (v0_) ∧ Kd.R (Kd.int .i64) 3 w' w.heap.size (fun _ => True) v0_ r ∧ Below w.heap.size w w' := by
 have HB := aQ (Below.refl w.heap.size w)
 have H : (au.l0 k a0 (([] : List Int)) 0) = some r := h
 clear h
 obtain ⟨yq1, hyq1⟩ : ∃ y_ : List Int, y_ = (([] : List Int)) := ⟨_, rfl⟩
 replace H : (au.l0 k a0 yq1 0) = some r := by first | (rw [hyq1]; with_reducible exact H) | (rw [hyq1]; exact H)
 have Nyq1 := aQ hyq1
 clear hyq1
 have H' := aQ H
 clear H
 go_enter Tryz.func129, Tryz.ntmps129
 go_wp2_with (first | ((with_reducible refine af (N := 5) rfl ?_); refine Kd.R_lit (Kd.int .i64) _ 3 ?hg (N := 5) ?hd (xs := ([] : List Int)) (inner := []) (ok := fun _ => True) (okp := fun _ => True) ?hr ?hp (fun _ hk => hk) trivial (Below.refl _ _) (Nat.le_refl _) (by simp) ?_; (case hd => rfl); (case hg => rfl); (case hr => first | (go_simp; done) | (go_simp; rfl)); (case hp => exact (Reps.none _ _)); intro vq2 w2 ho3 hb hg_ hnew_; clear hg_ hnew_; (first | rw [← Nyq1.out] at ho3 | (simp only [Int.reduceToNat] at ho3; rw [← Nyq1.out] at ho3)); have HOq3 := aQ (Kd.R_lower ho3 (aa (pB HB.out))); replace HB := bs HB hb; clear hb ho3))
 go_loopg [3, 4] k (fun kq v3 v4 w' => ∃ (x3_1 : List Int) (x4_1 : Int), v4 = .int .i64 x4_1 ∧ Aside0 (au.l0 kq a0 x3_1 x4_1 = some r) ∧ Aside0 (kq ≤ k) ∧ Aside0 (Kd.R (Kd.int .i64) 3 w' w.heap.size (fun _ => True) v3 x3_1) ∧ Aside0 (Below w.heap.size w w'))
 case atStart => exact ⟨(yq1), (0), rs_, H', ⟨Nat.le_refl _⟩, ⟨pR HOq3.out⟩, ⟨pB HB.out⟩⟩
 clear H'
 obtain ⟨x3_1, x4_1, rfl, HA, HK1, HO_3, HB⟩ := hrel
 rcases gk with _ | k1
 ·exact absurd HA.out (by simp [au.l0])
 have H := HA.out
 clear HA
 simp only [au.l0] at H
 by_cases c4 : x4_1 < 8
 ·rw [if_pos c4] at H
  have c4b0 := decide_eq_true c4
  clear c4
  replace H := bo H; obtain ⟨tq0, A5, H⟩ := H
  (try dsimp only at H)
  by_cases c6 : tq0 = true
  ·subst c6
   rw [if_pos rfl] at H
   replace H := gd H; obtain ⟨c7, H⟩ := H
   have LMc7 := aQ c7
   clear c7
   obtain ⟨yq4, hyq4⟩ : ∃ y_ : List Int, y_ = (x3_1 ++ [x4_1]) := ⟨_, rfl⟩
   replace H : (au.l0 k1 a0 yq4 (wrap64 (x4_1 + 1))) = some r := by first | (rw [hyq4]; with_reducible exact H) | (rw [hyq4]; exact H)
   have Nyq4 := aQ hyq4
   clear hyq4
   have H' := aQ H
   clear H
   go_wp2_with (first | (refine gq 120 (some 12) Tryz.func120 #[.int .i64 a0, .int .i64 x4_1] ?_; (with_reducible refine (bP.calls a0 x4_1 true _ A5.out).mono ?_); rintro e w' ⟨rfl, ⟨nd, rfl⟩⟩; refine ⟨_, rfl, ?_⟩) | ((with_reducible refine aW (b := .append) (xs := #[.tmp 13, .tmp 15]) rfl ?_); at_builtin; refine Kd.R_append (Kd.int .i64) (w0 := w) w.heap.size rfl (.tmp 13) (.tmp 15) 24 3 (.int .i64 0) 8 rfl Tryz.underlying24 bR rfl (by decide) (by omega) u3 x3_1 x4_1 [.int .i64 x4_1] (fun _ => True) (fun _ => False) rfl rfl ?aP (fun _ hk => hk.elim) ?aF ?aO ?aB ?aS ?aL ?_; (case aP => exact rfl); (case aB => exact (pB HB.out)); (case aF => exact (fun _ _ => trivial)); (case aO => exact (pR HO_3.out)); (case aS => exact (aa (pB HB.out))); (case aL => have := LMc7.out; omega); intro vq5 w8 ho hb hg hat; rw [← Nyq4.out] at ho; replace HB := aQ (hb); have HOq6 := aQ (ho); clear HO_3; clear ho hb hg hat))
   go_roundg k1
   case measure => have := HK1.out; omega
   case rel => exact ⟨(yq4), (wrap64 (x4_1 + 1)), rs_, H', ⟨by have := HK1.out; omega⟩, ⟨pR HOq6.out⟩, ⟨pB HB.out⟩⟩
  ·replace c6 := Bool.eq_false_iff.mpr c6
   subst c6
   have H1 : (au.l0 k1 a0 x3_1 (wrap64 (x4_1 + 1))) = some r := by rw [if_neg (show ¬ (false = true) by decide)] at H; exact H
   clear H
   have H := H1
   clear H1
   have H' := aQ H
   clear H
   go_wp2_with (first | (refine gq 120 (some 12) Tryz.func120 #[.int .i64 a0, .int .i64 x4_1] ?_; (with_reducible refine (bP.calls a0 x4_1 false _ A5.out).mono ?_); rintro e w' ⟨rfl, ⟨nd, rfl⟩⟩; refine ⟨_, rfl, ?_⟩))
   go_roundg k1
   case measure => have := HK1.out; omega
   case rel => exact ⟨(x3_1), (wrap64 (x4_1 + 1)), rs_, H', ⟨by have := HK1.out; omega⟩, ⟨pR HO_3.out⟩, ⟨pB HB.out⟩⟩
 ·rw [if_neg c4] at H
  have c4b0 := decide_eq_false c4
  clear c4
  obtain rfl := Option.some.inj H
  go_wp2
  go_ret
  exact ⟨_, by first | rfl | (simp [errW_none, aj] <;> rfl) | (simp [*, errW_none, aj] <;> rfl), by refine pRx ?_; exact HO_3.out, pB HB.out⟩
end Go.Proofs.YtimkekeaeojpkaaGreat.A
namespace Go.Proofs.YtimkekeaeojpkaaGreat.A
open Go.RowKit Go.Proofs.YtimkekeaeojpkaaGreatW.PrintWords Go.Proofs.YtimkekeaeojpkaaGreatW.PrintLast Go.Proofs.YtimkekeaeojpkaaGreatW.PrintMore Go.Proofs.YtimkekeaeojpkaaGreat.Z
attribute [local go_sem] cC cE cW cX co cp cD cG
set_option linter.unusedVariables false
set_option linter.unusedSimpArgs false
theorem kZ {P : Program} {f : FuncId} {fn : Func} {c : Code} (hf : P.funcs[f]? = some fn) (hname : (fn.name == "runtime.NumGoroutine") = false) (hb : fn.body = some c) : ∀ (args : Array Value) (w : World), (callFunc f args).run P w = .ok (.enter f args) w := by
 intro args w
 have h1 : fn.name ≠ "runtime.NumGoroutine" := by simpa using hname
 simp [callFunc, hf, h1, hb, mark]
set_option maxHeartbeats 2000000 in
theorem gM (g : Int → Option Bool) (K : Nat) (lb : Array Value) (eg : ∀ args w, (callFunc K args).run Tryz.prog w = .ok (.enter K args) w) (A : Option Addr) (c : Nat) (l : List Int) (r : Int) (w : World)
  (hr : Kd.C (Kd.int .i64) w A l.length l) (h : idxO g l 0 = some r)
  (hp : ∀ (W : World) (x : Int) (b : Bool), Below w.heap.size w W → g x = some b → Calls Tryz.prog K (#[.int .i64 x] ++ lb) W fun e w' => e = .returned (.bool b) ∧ Below W.heap.size W w') :
  Calls Tryz.prog 239 #[.slice A l.length c, .func (.func K) #[] lb] w fun e w' => e = .returned (.int .i64 r) ∧ Below w.heap.size w w' := by
 have hbig : l.length ≤ 9223372036854775807 := hr.2.1
 have HR := aQ hr
 have HP := Lib.hid hp
 have H' := aQ h
 clear hr h hp
 go_enter Tryz.func239, Tryz.ntmps239
 go_wp2
 go_loopg [5, 8] l.length (fun gg _ s8 wr => ∃ x : Int, s8 = .int .i64 x ∧ Aside0 (0 ≤ x ∧ x ≤ (l.length : Int)) ∧ Aside0 (l.length - x.toNat ≤ gg) ∧ Aside0 (Below w.heap.size w wr) ∧ Aside0 (idxO g (l.drop x.toNat) x.toNat = some r))
 case atStart => exact ⟨0, rfl, ⟨by omega⟩, ⟨by omega⟩, ⟨Below.refl _ w⟩, ⟨H'.out⟩⟩
 clear H'
 obtain ⟨x, rfl, HX, HG, HB, HI⟩ := hrel
 by_cases hlt : x < (l.length : Int)
 ·have p1 : 0 ≤ x := HX.out.1
  have l1 : decide (x < (l.length : Int)) = true := decide_eq_true hlt
  obtain ⟨ad, ea, hx⟩ := Kd.at_int HR.out x p1 hlt
  cases ea
  replace hx := (HB.out.cell (World.block_lt_of_cell? w _ hx)).trans hx
  have hI := HI.out
  rw [eS l x p1 hlt] at hI
  simp only [idxO] at hI
  obtain ⟨b, hgb, hI⟩ := Option.bind_eq_some_iff.1 hI
  have hcall := HP.out wr (rd l x) b HB.out hgb
  have HC := Lib.hid hI
  have e1 : wrap64 (x + 1) = x + 1 := be (by omega) (by omega)
  have E1 := Lib.hid e1
  have Q1 := aQ hlt
  replace p1 := eq_true p1
  replace hlt := eq_true hlt
  clear HI hgb hI e1
  cases b with
  | true =>
   go_wp2_with fail
   refine hcall.mono ?_
   rintro e w' ⟨rfl, hb'⟩
   go_wp2
   go_ret
   have h2 := HC.out
   simp only [if_pos, Option.some.injEq] at h2
   refine ⟨?_, fl HB.out HB.out.size hb'⟩
   rw [← h2, Int.toNat_of_nonneg HX.out.1]
   rfl
  | false =>
   go_wp2_with fail
   refine hcall.mono ?_
   rintro e w' ⟨rfl, hb'⟩
   go_wp2
   go_roundg (l.length - (x + 1).toNat)
   case measure => have := HG.out; have := HX.out; have := Q1.out; omega
   case rel =>
    have h2 := HC.out
    rw [if_neg (by decide)] at h2
    refine ⟨x + 1, by rw [E1.out], ⟨by have := HX.out; have := Q1.out; omega⟩, ⟨by omega⟩, ⟨fl HB.out HB.out.size hb'⟩, ⟨?_⟩⟩
    rw [show (x + 1).toNat = x.toNat + 1 from by have := HX.out; omega] at h2 ⊢
    exact h2
 ·have l1 : decide (x < (l.length : Int)) = false := decide_eq_false hlt
  have h2 := HI.out
  rw [dP l x hlt] at h2
  simp only [idxO, Option.some.injEq] at h2
  have H2 := Lib.hid h2
  clear h2 HI hlt
  go_wp2
  go_ret
  exact ⟨by rw [← H2.out]; rfl, HB.out⟩
set_option maxHeartbeats 2000000 in
theorem fI (g : Int → Option Bool) (K : Nat) (lb : Array Value) (eg : ∀ args w, (callFunc K args).run Tryz.prog w = .ok (.enter K args) w) (A : Option Addr) (c : Nat) (l : List Int) (r : Bool) (w : World)
  (hr : Kd.C (Kd.int .i64) w A l.length l) (h : anyO g l = some r)
  (hp : ∀ (W : World) (x : Int) (b : Bool), Below w.heap.size w W → g x = some b → Calls Tryz.prog K (#[.int .i64 x] ++ lb) W fun e w' => e = .returned (.bool b) ∧ Below W.heap.size W w') :
  Calls Tryz.prog 197 #[.slice A l.length c, .func (.func K) #[] lb] w fun e w' => e = .returned (.bool r) ∧ Below w.heap.size w w' := by
 obtain ⟨i, hi, rfl⟩ := lL g l 0 r h
 have HC := Lib.hid (gM g K lb eg A c l i w hr hi hp)
 clear hr h hp hi
 go_enter Tryz.func197, Tryz.ntmps197
 go_wp2_with (go_at_call 239; refine HC.out.mono ?_; rintro e w' ⟨rfl, hb'⟩)
 go_ret
 exact ⟨by first | rfl | simp, hb'⟩
end Go.Proofs.YtimkekeaeojpkaaGreat.A
namespace Go.Proofs.YtimkekeaeojpkaaGreat.A
open Go.RowKit Go.Proofs.YtimkekeaeojpkaaGreatW.PrintWords Go.Proofs.YtimkekeaeojpkaaGreatW.PrintLast Go.Proofs.YtimkekeaeojpkaaGreatW.PrintMore
attribute [local go_sem] cC cE cW cX co cp cD cG
set_option linter.unusedVariables false
set_option linter.unusedSimpArgs false
def ar.l0 : Nat → List Int → Int → Int → Int → Option (Int)
 | 0, _, _, _, _ => none
 | k + 1, x0, x1, x7, x8 => if x8 < x7 then (if 0 ≤ x8 then (if x8 < (x0.length : Int) then (if x1 = (rd x0 x8) then (some x8) else (ar.l0 k x0 x1 x7 (wrap64 (x8 + 1)))) else (none)) else (none)) else (some (-1))
def ar.f (k : Nat) (l0 : List Int) (a1 : Int) : Option (Int) := ar.l0 k l0 a1 (l0.length : Int) 0
theorem ar.mono_l : ∀ k, (∀ y0 y1 y2 y3, LeO (ar.l0 k y0 y1 y2 y3) (ar.l0 (k + 1) y0 y1 y2 y3))
 | 0 => fun _ _ _ _ r h => by simp [ar.l0] at h
 | k + 1 => by
  have ih0 := ar.mono_l k
  ·intro y0 y1 y2 y3
   unfold ar.l0
   repeat' first | (with_reducible first | exact ih0 _ _ _ _ | exact LeO.refl _ | exact LeO.none _ | refine LeO.ite ?_ ?_ | refine LeO.bind ?_ (fun _ => ?_)) | exact ih0 _ _ _ _ | exact LeO.none _ | refine LeO.ite ?_ ?_ | refine LeO.bind ?_ (fun _ => ?_)
theorem ar.mono : ∀ a0 a1 k, LeO (ar.f k a0 a1) (ar.f (k + 1) a0 a1) := by
 intro a0 a1 k
 have ih0 := ar.mono_l k
 unfold ar.f
 repeat' first | (with_reducible first | exact ih0 _ _ _ _ | exact LeO.refl _ | exact LeO.none _ | refine LeO.ite ?_ ?_ | refine LeO.bind ?_ (fun _ => ?_)) | exact ih0 _ _ _ _ | exact LeO.none _ | refine LeO.ite ?_ ?_ | refine LeO.bind ?_ (fun _ => ?_)
theorem ar.calls (k : Nat) (A0 : Option Addr) (c0 : Nat) (l0 : List Int) (a1 : Int) (r : Int) (w : World) (hr0 : Kd.C (Kd.int .i64) w A0 l0.length l0) (hc0 : l0.length ≤ c0) (h : ar.f k l0 a1 = some r) :
  Calls Tryz.prog 248 #[.slice A0 l0.length c0, .int .i64 a1] w fun e w' => e = .returned (.int .i64 r) ∧ Drawn0 w w' := by
 have HR0 := aQ hr0
 have HC0 := aQ hc0
 clear hr0 hc0
 have H : (ar.l0 k l0 a1 (l0.length : Int) 0) = some r := h
 clear h
 have H' := aQ H
 clear H
 go_enter Tryz.func248, Tryz.ntmps248
 go_wp2
 go_loopg [8] k (fun kq v8 w' => ∃ (x8_1 : Int), v8 = .int .i64 x8_1 ∧ Aside0 (ar.l0 kq l0 a1 (l0.length : Int) x8_1 = some r) ∧ Aside0 (kq ≤ k) ∧ Drawn0 w w')
 case atStart => exact ⟨(0), rs_, H', ⟨Nat.le_refl _⟩, rd_⟩
 clear H'
 obtain ⟨x8_1, rfl, HA, HK1, ⟨m1, rfl⟩⟩ := hrel
 rcases gk with _ | k1
 ·exact absurd HA.out (by simp [ar.l0])
 have H := HA.out
 clear HA
 simp only [ar.l0] at H
 by_cases c3 : x8_1 < (l0.length : Int)
 ·rw [if_pos c3] at H
  have c3b0 := decide_eq_true c3
  clear c3
  replace H := gd H; obtain ⟨c4, H⟩ := H
  have c4b0 := decide_eq_true c4
  clear c4
  replace H := gd H; obtain ⟨c5, H⟩ := H
  have c5b0 := decide_eq_true c5
  clear c5
  by_cases c6 : a1 = (rd l0 x8_1)
  ·rw [if_pos c6] at H
   have c6b0 : (a1 == (rd l0 x8_1)) = true := beq_iff_eq.mpr c6
   have c6b1 : (a1 != (rd l0 x8_1)) = false := bne_eq_false_iff_eq.mpr c6
   clear c6
   obtain rfl := Option.some.inj H
   have pq0 : 0 ≤ (x8_1 : Int) := of_decide_eq_true as_
   have qq0 : x8_1 < (l0.length : Int) := of_decide_eq_true as_
   obtain ⟨adq0, eq0, hxq0_0⟩ := Kd.at_int HR0.out x8_1 pq0 qq0
   cases eq0
   replace pq0 := eq_true pq0
   replace qq0 := eq_true qq0
   go_wp2
   go_ret
   exact ⟨rs_, rd_⟩
  ·rw [if_neg c6] at H
   have c6b0 : (a1 == (rd l0 x8_1)) = false := beq_eq_false_iff_ne.mpr c6
   have c6b1 : (a1 != (rd l0 x8_1)) = true := bne_iff_ne.mpr c6
   have H' := aQ H
   clear H
   have pq0 : 0 ≤ (x8_1 : Int) := of_decide_eq_true as_
   have qq0 : x8_1 < (l0.length : Int) := of_decide_eq_true as_
   obtain ⟨adq0, eq0, hxq0_0⟩ := Kd.at_int HR0.out x8_1 pq0 qq0
   cases eq0
   replace pq0 := eq_true pq0
   replace qq0 := eq_true qq0
   go_wp2
   go_roundg k1
   case measure => have := HK1.out; omega
   case rel => exact ⟨(wrap64 (x8_1 + 1)), rs_, H', ⟨by have := HK1.out; omega⟩, rd_⟩
 ·rw [if_neg c3] at H
  have c3b0 := decide_eq_false c3
  clear c3
  obtain rfl := Option.some.inj H
  go_wp2
  go_ret
  exact ⟨rs_, rd_⟩
def bm.f (k : Nat) (l0 : List Int) (a1 : Int) : Option (Bool) := (ar.f k l0 a1).bind fun tq0 => (some (decide (tq0 ≥ 0)))
theorem bm.mono : ∀ a0 a1 k, LeO (bm.f k a0 a1) (bm.f (k + 1) a0 a1) := by
 intro a0 a1 k
 unfold bm.f
 repeat' first | (with_reducible first | exact ar.mono _ _ _ | exact LeO.refl _ | exact LeO.none _ | refine LeO.ite ?_ ?_ | refine LeO.bind ?_ (fun _ => ?_)) | exact LeO.none _ | refine LeO.ite ?_ ?_ | refine LeO.bind ?_ (fun _ => ?_)
theorem bm.calls (k : Nat) (A0 : Option Addr) (c0 : Nat) (l0 : List Int) (a1 : Int) (r : Bool) (w : World) (hr0 : Kd.C (Kd.int .i64) w A0 l0.length l0) (hc0 : l0.length ≤ c0) (h : bm.f k l0 a1 = some r) :
  Calls Tryz.prog 212 #[.slice A0 l0.length c0, .int .i64 a1] w fun e w' => e = .returned (.bool r) ∧ Drawn0 w w' := by
 have HR0 := aQ hr0
 have HC0 := aQ hc0
 clear hr0 hc0
 have H := h
 clear h
 unfold bm.f at H
 (try dsimp only at H)
 replace H := bo H; obtain ⟨tq0, A3, H⟩ := H
 (try dsimp only at H)
 obtain rfl := Option.some.inj H
 go_enter Tryz.func212, Tryz.ntmps212
 go_wp2_with (first | (refine gq 248 (some 7) Tryz.func248 #[.slice A0 l0.length c0, .int .i64 a1] ?_; (with_reducible refine (ar.calls k _ _ l0 a1 tq0 _ ?side1 ?side2 A3.out).mono ?_); (case side1 => exact pC HR0.out); (case side2 => exact HC0.out); rintro e w' ⟨rfl, ⟨nd, rfl⟩⟩; refine ⟨_, rfl, ?_⟩))
 go_ret
 exact ⟨rs_, rd_⟩
def cm.f (k : Nat) (l0 : List Int) (a1 : Int) : Option (Bool) := (bm.f k l0 a1).bind fun tq0 => (some tq0)
theorem cm.mono : ∀ a0 a1 k, LeO (cm.f k a0 a1) (cm.f (k + 1) a0 a1) := by
 intro a0 a1 k
 unfold cm.f
 repeat' first | (with_reducible first | exact bm.mono _ _ _ | exact LeO.refl _ | exact LeO.none _ | refine LeO.ite ?_ ?_ | refine LeO.bind ?_ (fun _ => ?_)) | exact LeO.none _ | refine LeO.ite ?_ ?_ | refine LeO.bind ?_ (fun _ => ?_)
theorem cm.calls (k : Nat) (A0 : Option Addr) (c0 : Nat) (l0 : List Int) (a1 : Int) (r : Bool) (w : World) (hr0 : Kd.C (Kd.int .i64) w A0 l0.length l0) (hc0 : l0.length ≤ c0) (h : cm.f k l0 a1 = some r) :
  Calls Tryz.prog 119 #[.slice A0 l0.length c0, .int .i64 a1] w fun e w' => e = .returned (.bool r) ∧ Drawn0 w w' := by
 have HR0 := aQ hr0
 have HC0 := aQ hc0
 clear hr0 hc0
 have H := h
 clear h
 unfold cm.f at H
 (try dsimp only at H)
 replace H := bo H; obtain ⟨tq0, A3, H⟩ := H
 (try dsimp only at H)
 obtain rfl := Option.some.inj H
 go_enter Tryz.func119, Tryz.ntmps119
 go_wp2_with (first | (refine gq 212 (some 7) Tryz.func212 #[.slice A0 l0.length c0, .int .i64 a1] ?_; (with_reducible refine (bm.calls k _ _ l0 a1 tq0 _ ?side1 ?side2 A3.out).mono ?_); (case side1 => exact pC HR0.out); (case side2 => exact HC0.out); rintro e w' ⟨rfl, ⟨nd, rfl⟩⟩; refine ⟨_, rfl, ?_⟩))
 go_ret
 exact ⟨rs_, rd_⟩
end Go.Proofs.YtimkekeaeojpkaaGreat.A
