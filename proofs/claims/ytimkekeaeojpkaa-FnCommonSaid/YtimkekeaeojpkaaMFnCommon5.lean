/- Machine side of the law FnCommon: Go functions as Lean functions, and proofs that calls come to what these tell. Conditions: those in each theorem. -/
import Derived.Test.YtimkekeaeojpkaaMFnCommon0
import Derived.Test.YtimkekeaeojpkaaMFnCommonq0
import Derived.Test.YtimkekeaeojpkaaMFnCommon1
import Derived.Test.YtimkekeaeojpkaaMFnCommon2
import Derived.Test.YtimkekeaeojpkaaMFnCommon3
import Derived.Test.YtimkekeaeojpkaaMFnCommon4
set_option maxHeartbeats 8000000
set_option maxRecDepth 100000
namespace Go.Proofs.Ytimkekeaeojpkaa.A
open Go.RowKit Go.Proofs.YtimkekeaeojpkaaW.PrintWords Go.Proofs.YtimkekeaeojpkaaW.PrintLast Go.Proofs.YtimkekeaeojpkaaW.PrintMore
attribute [local go_sem] ya8 yba ybm ybn yaY yaX ya6 ya9
set_option linter.unusedVariables false
set_option linter.unusedSimpArgs false
def yai.f (k : Nat) (s0_0 : List Int) (s0_1 : Int) (s0_2 : Int) : Option (Int × List Int × Int × List Int × Int × Int) := (yaK.f k s0_0 s0_1 s0_2 6).bind fun btq0 => ((ya3.f s0_0 btq0.2.2.1 btq0.2.2.2 12).bind fun btq1 => (if btq1.1 = true then ((yan.f k s0_0 btq1.2.1 btq1.2.2 4).bind fun btq2 => (some (btq0.1, btq0.2.1, btq2.1, btq2.2.1, btq2.2.2.1, btq2.2.2.2))) else ((yk.f s0_0 btq1.2.1 btq1.2.2 3).bind fun btq3 => (if btq3.1 = 0 then ((yS.f k s0_0 btq3.2.1 btq3.2.2 btq0.1).bind fun btq4 => ((yV.f k btq0.1 btq0.2.1 btq4.1).bind fun btq5 => (some (btq0.1, btq0.2.1, btq5.1, btq5.2.1, btq4.2.1, btq4.2.2)))) else (if btq3.1 = 1 then ((yaq.f k s0_0 btq3.2.1 btq3.2.2 btq0.1).bind fun btq6 => ((yag.f k btq0.1 btq6.1).bind fun btq7 => (some (btq0.1, btq0.2.1, btq7.1, btq7.2, btq6.2.1, btq6.2.2)))) else ((yX.f k s0_0 btq3.2.1 btq3.2.2 btq0.1).bind fun btq8 => (some (btq0.1, btq0.2.1, btq8.1, btq8.2.1, btq8.2.2.1, btq8.2.2.2))))))))
def yai.T6 : Bool × List (List Nat × List Nat) := (true, [([], []), ([], []), ([], []), ([2], [2]), ([1, 3], [1, 3]), ([0, 4, 4], [0, 4]), ([5], [5]), ([6], [6]), ([6], [6]), ([], []), ([9, 7, 5, 0, 1, 2, 3, 4, 5, 6, 7, 9], [7, 9]), ([8, 10, 0, 1, 2, 3, 4, 5, 6, 7, 8, 9, 10], [8])])
def yai.B6 : List Nat := [0, 0, 0, 4, 14, 31, 63, 127, 127, 0, 767, 2047]
theorem yai.tab6 : rtab .any (yco Try.f76 6) = yai.T6 := by kernel_rfl
theorem yai.bits6 : ybf yai.T6.2 yai.B6 = true := by kernel_rfl
def yai.T9 : Bool × List (List Nat × List Nat) := (true, [([], []), ([], []), ([1], [1]), ([], []), ([], []), ([4], [4]), ([3, 5], [3, 5]), ([2, 6, 6], [2, 6]), ([0, 7, 0], [0]), ([7, 8, 0, 1, 2, 3, 4, 5, 6, 7, 8], [7])])
def yai.B9 : List Nat := [0, 0, 2, 0, 0, 16, 56, 126, 255, 511]
theorem yai.tab9 : rtab .any (yco Try.f76 9) = yai.T9 := by kernel_rfl
theorem yai.bits9 : ybf yai.T9.2 yai.B9 = true := by kernel_rfl
theorem yai.calls (k : Nat) (g : Nat) (s0_0 : List Int) (s0_1 : Int) (s0_2 : Int) (r1 : Int) (r2 : List Int) (r3 : Int) (r4 : List Int) (r5 : Int) (r6 : Int) (w0 w : World) (hI : IsS106 w0 w g s0_0 s0_1 s0_2) (hB : Below w0.heap.size w0 w) (h : yai.f k s0_0 s0_1 s0_2 = some (r1, r2, r3, r4, r5, r6)) :
  Calls Try.prog 76 #[.pointer (some ⟨g, 0, none⟩)] w fun e w' => ∃ v1_ v3_ : Value, e = .returned (.tuple #[.agg #[.int .i64 r1, v1_], .agg #[.int .i64 r3, v3_]]) ∧ Kd.R (Kd.int .i64) 3 w' w.heap.size (fun k_ => some k_ ≠ (v3_ : Value).ownBlock) v1_ r2 ∧ Kd.R (Kd.int .i64) 3 w' w.heap.size (fun k_ => some k_ ≠ (v1_ : Value).ownBlock) v3_ r4 ∧ IsS106 w0 w' g s0_0 r5 r6 ∧ Below w0.heap.size w0 w' ∧ KeepBut w w' g none := by
 have hu28 := Try.underlying28
 have HI0 := aQ hI
 have HK := aQ (KeepBut.refl w g none)
 have HL := aQ hB.size
 clear hI
 have HW0 := aQ hB.size
 have HB := aQ hB
 clear hB
 have H := h
 clear h
 unfold yai.f at H
 (try dsimp only at H)
 replace H := bo H; obtain ⟨⟨tq0, tq9, tqa, tqb⟩, A2, H⟩ := H
 (try dsimp only at H)
 replace H := bo H; obtain ⟨⟨tq1, tqc, tqd⟩, A3, H⟩ := H
 (try dsimp only at H)
 by_cases c4 : tq1 = true
 ·subst c4
  rw [if_pos rfl] at H
  replace H := bo H; obtain ⟨⟨tq2, tqe, tqf, tqg⟩, A5, H⟩ := H
  (try dsimp only at H)
  simp only [Option.some.injEq, Prod.mk.injEq] at H
  obtain ⟨rfl, rfl, rfl, rfl, rfl, rfl⟩ := H
  go_enter Try.func76, Try.ntmps76
  try go_wp2_with (first | ((with_reducible refine yb (N := 2) rfl ?_); refine bx 2 #[.int .i64 0, .slice none 0 0] 28 ?_; intro gbqh hg w6 hbox hb; replace HB := bsI HB hb; have BKqh := aQ (hbox); have GWqh := gw HK hg; have GEqh := ge HK HW0 hg; replace HK := kt HK hb; have NB0_qh := nI HI0 hg; have NBqh_0 := mI HI0 hg; replace HI0 := bI HI0 hb; clear hb hbox hg) | ((with_reducible refine yb (N := 3) rfl ?_); refine bx 3 #[.int .i64 0, .slice none 0 0] 28 ?_; intro gbqi hg w7 hbox hb; replace HB := bsI HB hb; have BKqi := aQ (hbox); have GWqi := gw HK hg; have GEqi := ge HK HW0 hg; replace HK := kt HK hb; have NBqh_qi := nl BKqh hg; have NBqi_qh := ng BKqh hg; replace BKqh := bb BKqh hb; have NB0_qi := nI HI0 hg; have NBqi_0 := mI HI0 hg; replace HI0 := bI HI0 hb; clear hb hbox hg) | (refine gq 129 (some 8) Try.func129 #[.pointer (some ⟨g, 0, none⟩), .int .i64 6] ?_; (with_reducible refine (yaK.calls k g s0_0 s0_1 s0_2 6 tq0 tq9 tqa tqb w0 _ ?side1 ?side2 A2.out).mono ?_); (case side1 => exact pi_ HI0); (case side2 => exact pbI HB); rintro e w8 ⟨vqj, rfl, ho0, hi, hb, hk⟩; refine ⟨_, rfl, ?_⟩; replace BKqh := kk BKqh hk NBqh_0.out; replace BKqi := kk BKqi hk NBqi_0.out; have HOqk := aQ (Kd.R_lower ho0 (yR (w := w) (g := g) (row := none) (pq HK))); replace HK := kh HK hk; replace HB := aQ (hb); replace HI0 := aQ (hi); (try clear hb); (try clear hk); (try clear hi); (try clear ho0)) | ((with_reducible refine yb (N := 4) rfl ?_); refine bx 4 #[.int .i64 0, .slice none 0 0] 28 ?_; intro gbql hg w9 hbox hb; replace HOqk := aQ (Kd.R_below (pR HOqk.out) hb); replace HB := bsI HB hb; have BKql := aQ (hbox); have GWql := gw HK hg; have GEql := ge HK HW0 hg; replace HK := kt HK hb; have NBqh_ql := nl BKqh hg; have NBql_qh := ng BKqh hg; replace BKqh := bb BKqh hb; have NBqi_ql := nl BKqi hg; have NBql_qi := ng BKqi hg; replace BKqi := bb BKqi hb; have NB0_ql := nI HI0 hg; have NBql_0 := mI HI0 hg; replace HI0 := bI HI0 hb; clear hb hbox hg; have hnb10 := NBql_qh.out; have hnc10 := NBqh_ql.out; have hnb11 := NBql_qi.out; have hnc11 := NBqi_ql.out; have hnb12 := NBql_0.out; have hnc12 := NB0_ql.out; obtain ⟨hcz13_0, hcz13_1, hfz13_0, hfz13_1⟩ := c2 BKql; obtain ⟨Ao14, co14, eo14⟩ := Kd.R_slice HOqk.out; subst eo14) | (refine gq 89 (some 10) Try.func89 #[.pointer (some ⟨g, 0, none⟩), .int .i64 12] ?_; (with_reducible refine (ya3.calls g s0_0 tqa tqb 12 true tqc tqd w0 _ ?side1 ?side2 A3.out).mono ?_); (case side1 => exact pi_ HI0); (case side2 => exact pbI HB); rintro e w15 ⟨rfl, hi, hb, hk⟩; refine ⟨_, rfl, ?_⟩; replace BKqh := aQ (KeepBut.blk hk (g' := gbqh) (o := .cells #[.int .i64 0, .slice none 0 0] 28 (0, 0)) (by refine pkx ?_; refine yj ?_ NBqh_ql.out _; refine pkx ?_; refine yj ?_ NBqh_ql.out _; refine pkx ?_; exact BKqh.out) NBqh_0.out (by simp)); replace BKqi := aQ (KeepBut.blk hk (g' := gbqi) (o := .cells #[.int .i64 0, .slice none 0 0] 28 (0, 0)) (by refine pkx ?_; refine yj ?_ NBqi_ql.out _; refine pkx ?_; refine yj ?_ NBqi_ql.out _; refine pkx ?_; exact BKqi.out) NBqi_0.out (by simp)); replace HOqk := aQ (Kd.R_mono (Kd.R_keep (IsS106.apart (show IsS106 w0 _ g s0_0 tqa tqb from pi_ HI0) (by refine pRx ?_; exact (Kd.R_mono (Kd.R_far (p := ⟨gbql, 1, none⟩) (Kd.R_far (p := ⟨gbql, 0, none⟩) (Kd.R_types HOqk.out BKql.out (by decide)) (fun _ hk => hk.2) (.int .i64 tq0)) (fun _ hk => hk.2) (.slice Ao14 tq9.length co14)) (fun _ h_ => h_.1))) (by decide)) hk (fun _ h => h.2)) (fun _ h => h.1)); replace BKql := aQ (KeepBut.blk hk (g' := gbql) (o := .cells #[.int .i64 tq0, .slice Ao14 tq9.length co14] 28 (0, 0)) (by refine pkx ?_; refine yh (cs := #[.int .i64 tq0, .slice none 0 0]) ?_ 1 _ rfl; refine pkx ?_; refine yh (cs := #[.int .i64 0, .slice none 0 0]) ?_ 0 _ rfl; refine pkx ?_; exact BKql.out) NBql_0.out (by simp)); replace HK := kh HK hk; replace HB := aQ (hb); replace HI0 := aQ (hi); (try clear hb); (try clear hk); (try clear hi)))
  replace HOqk := aQ (Kd.R_drew HOqk.out); replace BKqh := aQ (yF BKqh.out); replace BKqi := aQ (yF BKqi.out); replace BKql := aQ (yF BKql.out); replace HI0 := aQ (IsS106.drew HI0.out); replace HK := aQ (ybx HK.out); replace HB := aQ (yK HB.out)
  refine ya0 (n := 5) (S := fun w' => w'.cell? ⟨gbql, 0, none⟩ = some (.int .i64 tq0) ∧ w'.cell? ⟨gbql, 1, none⟩ = some (.slice Ao14 tq9.length co14)) (ds := []) _ (by kernel_rfl) rfl rfl ⟨(ya BKql.out 0).trans rfl, (ya BKql.out 1).trans rfl⟩ (fun hHeld => ?_)
  generalize w15.drew = w16 at HOqk BKqh BKqi BKql HI0 HK HB hHeld ⊢
  refine pN 1 (some 12) ?_
  refine tN2 0 (some 11) hHeld ?_
  refine onN (i := 2) (N := some 13) (h := fun K hK => ?_)
  refine gs Try.func130 #[.pointer (some ⟨g, 0, none⟩), .int .i64 4] ?_
  with_reducible refine (yan.calls k g s0_0 tqc tqd 4 tq2 tqe tqf tqg w0 _ ?side1 ?side2 A5.out).mono ?_
  (case side1 => exact pi_ HI0)
  (case side2 => exact pbI HB)
  rintro e w17 ⟨vqm, rfl, ho0, hi, hb, hk⟩
  refine ⟨_, rfl, ?_⟩
  replace BKqh := kk BKqh hk NBqh_0.out; replace BKqi := kk BKqi hk NBqi_0.out; replace BKql := kk BKql hk NBql_0.out; have HOqn := aQ (Kd.R_lower (Kd.R_new' ho0 (Kd.R_lt (pR HOqk.out))) (yR (w := w) (g := g) (row := none) (pq HK))); replace HOqk := aQ (Kd.R_mono (Kd.R_told (Kd.R_oldK (IsS106.apart (show IsS106 w0 _ g s0_0 tqc tqd from pi_ HI0) (pR HOqk.out) (by decide)) hk) (Kd.R_base ho0)) (fun _ h_ => h_.1)); replace HK := kh HK hk; replace HB := aQ (hb); replace HI0 := aQ (hi)
  (try clear hb)
  (try clear hb2)
  (try clear hk)
  (try clear hi)
  (try clear ho0)
  obtain ⟨Ao21, co21, eo21⟩ := Kd.R_slice HOqn.out
  (first | subst eo21 | (injection eo21 with f1_ f2_ f3_; have f4_ := f1_.symm; have f5_ := f3_.symm; clear f1_ f2_ f3_; subst f4_; subst f5_))
  refine hK.out _ _ ⟨(ya BKql.out 0).trans rfl, (ya BKql.out 1).trans rfl⟩ (fun hHeld => ?_)
  clear hK K
  refine noN (some 13) (h := ?_)
  refine onN (i := 3) (N := none) (h := fun K hK => ?_)
  have hs18 : w17.cell? ⟨gbqh, 0, none⟩ = some (.int .i64 0) := (ya BKqh.out 0).trans rfl
  have hfs18 := yl BKqh.out 0
  have hns18_1 := NBqi_qh.out
  have hns18_2 := NBql_qh.out
  have hms18_1 := NBqh_qi.out
  have hms18_2 := NBqh_ql.out
  have hs19 : w17.cell? ⟨gbqh, 1, none⟩ = some (.slice none 0 0) := (ya BKqh.out 1).trans rfl
  have hfs19 := yl BKqh.out 1
  have hns19_1 := NBqi_qh.out
  have hns19_2 := NBql_qh.out
  have hms19_1 := NBqh_qi.out
  have hms19_2 := NBqh_ql.out
  refine ybU (w1 := ?_) (by rfl) rfl ?_ ?_
  rotate_left
  ·go_simp
   rfl
  refine hK.out _ _ ⟨((ym (p := ⟨gbqh, _, none⟩) NBql_qh.out _).trans (((ym (p := ⟨gbqh, _, none⟩) NBql_qh.out _).trans (hHeld.1)))), ((ym (p := ⟨gbqh, _, none⟩) NBql_qh.out _).trans (((ym (p := ⟨gbqh, _, none⟩) NBql_qh.out _).trans (hHeld.2))))⟩ (fun hHeld => ?_)
  clear hK K
  refine onN (i := 4) (N := none) (h := fun K hK => ?_)
  have hs20 : w17.cell? ⟨gbqi, 0, none⟩ = some (.int .i64 0) := (ya BKqi.out 0).trans rfl
  have hfs20 := yl BKqi.out 0
  have hns20_0 := NBqh_qi.out
  have hns20_2 := NBql_qi.out
  have hms20_0 := NBqi_qh.out
  have hms20_2 := NBqi_ql.out
  have hs22 : w17.cell? ⟨gbqi, 1, none⟩ = some (.slice none 0 0) := (ya BKqi.out 1).trans rfl
  have hfs22 := yl BKqi.out 1
  have hns22_0 := NBqh_qi.out
  have hns22_2 := NBql_qi.out
  have hms22_0 := NBqi_qh.out
  have hms22_2 := NBqi_ql.out
  refine ybU (w1 := ?_) (by rfl) rfl ?_ ?_
  rotate_left
  ·go_simp
   rfl
  refine hK.out _ _ ⟨((ym (p := ⟨gbqi, _, none⟩) NBql_qi.out _).trans (((ym (p := ⟨gbqi, _, none⟩) NBql_qi.out _).trans (hHeld.1)))), ((ym (p := ⟨gbqi, _, none⟩) NBql_qi.out _).trans (((ym (p := ⟨gbqi, _, none⟩) NBql_qi.out _).trans (hHeld.2))))⟩ (fun hHeld => ?_)
  clear hK K
  refine ybs (by kernel_rfl) ?_
  try go_wp2
  refine bodyPost_ret (yce rfl _ _ gbqh gbqi 28 28 #[.int .i64 tq0, .slice Ao14 tq9.length co14] #[.int .i64 tq2, .slice Ao21 tqe.length co21] (0, 0) (0, 0) _ _ rfl (by refine pkx ?_; refine yj ?_ NBqh_qi.out _; refine pkx ?_; refine yj ?_ NBqh_qi.out _; refine pkx ?_; refine yh (cs := #[.int .i64 tq0, .slice none 0 0]) ?_ 1 _ rfl; refine pkx ?_; refine yh (cs := #[.int .i64 0, .slice none 0 0]) ?_ 0 _ rfl; refine pkx ?_; exact BKqh.out) Try.underlying28 rfl (by kernel_rfl) rfl (by refine pkx ?_; refine yh (cs := #[.int .i64 tq2, .slice none 0 0]) ?_ 1 _ rfl; refine pkx ?_; refine yh (cs := #[.int .i64 0, .slice none 0 0]) ?_ 0 _ rfl; refine pkx ?_; refine yj ?_ NBqi_qh.out _; refine pkx ?_; refine yj ?_ NBqi_qh.out _; refine pkx ?_; exact BKqi.out) Try.underlying28 rfl (by kernel_rfl)) rfl ?_
  exact ⟨_, _, by first | rfl | (simp [errW_none, yi] <;> rfl) | (simp [*, errW_none, yi] <;> rfl), by refine pRx ?_; exact Kd.R_mono (Kd.R_far (p := ⟨gbqi, 1, none⟩) (Kd.R_far (p := ⟨gbqi, 0, none⟩) (Kd.R_far (p := ⟨gbqh, 1, none⟩) (Kd.R_far (p := ⟨gbqh, 0, none⟩) (Kd.R_types (Kd.R_types HOqk.out BKqh.out (by decide)) BKqi.out (by decide)) (fun _ hk => hk.1.2) (.int .i64 tq0)) (fun _ hk => hk.1.2) (.slice Ao14 tq9.length co14)) (fun _ hk => hk.2) (.int .i64 tq2)) (fun _ hk => hk.2) (.slice Ao21 tqe.length co21)) (fun _ hk => hk.1.1.2), by refine pRx ?_; exact Kd.R_mono (Kd.R_far (p := ⟨gbqi, 1, none⟩) (Kd.R_far (p := ⟨gbqi, 0, none⟩) (Kd.R_far (p := ⟨gbqh, 1, none⟩) (Kd.R_far (p := ⟨gbqh, 0, none⟩) (Kd.R_types (Kd.R_types HOqn.out BKqh.out (by decide)) BKqi.out (by decide)) (fun _ hk => hk.1.2) (.int .i64 tq0)) (fun _ hk => hk.1.2) (.slice Ao14 tq9.length co14)) (fun _ hk => hk.2) (.int .i64 tq2)) (fun _ hk => hk.2) (.slice Ao21 tqe.length co21)) (fun _ hk => hk.1.1.2), pi_ HI0, pbI HB, pq HK⟩
 ·replace c4 := Bool.eq_false_iff.mpr c4
  subst c4
  have H1 : ((yk.f s0_0 tqc tqd 3).bind fun btq3 => (if btq3.1 = 0 then ((yS.f k s0_0 btq3.2.1 btq3.2.2 tq0).bind fun btq4 => ((yV.f k tq0 tq9 btq4.1).bind fun btq5 => (some (tq0, tq9, btq5.1, btq5.2.1, btq4.2.1, btq4.2.2)))) else (if btq3.1 = 1 then ((yaq.f k s0_0 btq3.2.1 btq3.2.2 tq0).bind fun btq6 => ((yag.f k tq0 btq6.1).bind fun btq7 => (some (tq0, tq9, btq7.1, btq7.2, btq6.2.1, btq6.2.2)))) else ((yX.f k s0_0 btq3.2.1 btq3.2.2 tq0).bind fun btq8 => (some (tq0, tq9, btq8.1, btq8.2.1, btq8.2.2.1, btq8.2.2.2)))))) = some (r1, r2, r3, r4, r5, r6) := by rw [if_neg (show ¬ (false = true) by decide)] at H; exact H
  clear H
  have H := H1
  clear H1
  replace H := bo H; obtain ⟨⟨tq3, tqo, tqp⟩, A23, H⟩ := H
  (try dsimp only at H)
  by_cases c24 : tq3 = 0
  ·rw [if_pos c24] at H
   have c24b0 : (tq3 == 0) = true := beq_iff_eq.mpr c24
   have c24b1 : (tq3 != 0) = false := bne_eq_false_iff_eq.mpr c24
   clear c24
   replace H := bo H; obtain ⟨⟨tq4, tqq, tqr⟩, A25, H⟩ := H
   (try dsimp only at H)
   replace H := bo H; obtain ⟨⟨tq5, tqs, tqt⟩, A26, H⟩ := H
   (try dsimp only at H)
   simp only [Option.some.injEq, Prod.mk.injEq] at H
   obtain ⟨rfl, rfl, rfl, rfl, rfl, rfl⟩ := H
   go_enter Try.func76, Try.ntmps76
   try go_wp2_with (first | ((with_reducible refine yb (N := 2) rfl ?_); refine bx 2 #[.int .i64 0, .slice none 0 0] 28 ?_; intro gbqh hg w27 hbox hb; replace HB := bsI HB hb; have BKqh := aQ (hbox); have GWqh := gw HK hg; have GEqh := ge HK HW0 hg; replace HK := kt HK hb; have NB0_qh := nI HI0 hg; have NBqh_0 := mI HI0 hg; replace HI0 := bI HI0 hb; clear hb hbox hg) | ((with_reducible refine yb (N := 3) rfl ?_); refine bx 3 #[.int .i64 0, .slice none 0 0] 28 ?_; intro gbqi hg w28 hbox hb; replace HB := bsI HB hb; have BKqi := aQ (hbox); have GWqi := gw HK hg; have GEqi := ge HK HW0 hg; replace HK := kt HK hb; have NBqh_qi := nl BKqh hg; have NBqi_qh := ng BKqh hg; replace BKqh := bb BKqh hb; have NB0_qi := nI HI0 hg; have NBqi_0 := mI HI0 hg; replace HI0 := bI HI0 hb; clear hb hbox hg) | (refine gq 129 (some 8) Try.func129 #[.pointer (some ⟨g, 0, none⟩), .int .i64 6] ?_; (with_reducible refine (yaK.calls k g s0_0 s0_1 s0_2 6 tq0 tq9 tqa tqb w0 _ ?side1 ?side2 A2.out).mono ?_); (case side1 => exact pi_ HI0); (case side2 => exact pbI HB); rintro e w29 ⟨vqj, rfl, ho0, hi, hb, hk⟩; refine ⟨_, rfl, ?_⟩; replace BKqh := kk BKqh hk NBqh_0.out; replace BKqi := kk BKqi hk NBqi_0.out; have HOqk := aQ (Kd.R_lower ho0 (yR (w := w) (g := g) (row := none) (pq HK))); replace HK := kh HK hk; replace HB := aQ (hb); replace HI0 := aQ (hi); (try clear hb); (try clear hk); (try clear hi); (try clear ho0)) | ((with_reducible refine yb (N := 4) rfl ?_); refine bx 4 #[.int .i64 0, .slice none 0 0] 28 ?_; intro gbql hg w30 hbox hb; replace HOqk := aQ (Kd.R_below (pR HOqk.out) hb); replace HB := bsI HB hb; have BKql := aQ (hbox); have GWql := gw HK hg; have GEql := ge HK HW0 hg; replace HK := kt HK hb; have NBqh_ql := nl BKqh hg; have NBql_qh := ng BKqh hg; replace BKqh := bb BKqh hb; have NBqi_ql := nl BKqi hg; have NBql_qi := ng BKqi hg; replace BKqi := bb BKqi hb; have NB0_ql := nI HI0 hg; have NBql_0 := mI HI0 hg; replace HI0 := bI HI0 hb; clear hb hbox hg; have hnb31 := NBql_qh.out; have hnc31 := NBqh_ql.out; have hnb32 := NBql_qi.out; have hnc32 := NBqi_ql.out; have hnb33 := NBql_0.out; have hnc33 := NB0_ql.out; obtain ⟨hcz34_0, hcz34_1, hfz34_0, hfz34_1⟩ := c2 BKql; obtain ⟨Ao35, co35, eo35⟩ := Kd.R_slice HOqk.out; subst eo35) | (refine gq 89 (some 10) Try.func89 #[.pointer (some ⟨g, 0, none⟩), .int .i64 12] ?_; (with_reducible refine (ya3.calls g s0_0 tqa tqb 12 false tqc tqd w0 _ ?side1 ?side2 A3.out).mono ?_); (case side1 => exact pi_ HI0); (case side2 => exact pbI HB); rintro e w36 ⟨rfl, hi, hb, hk⟩; refine ⟨_, rfl, ?_⟩; replace BKqh := aQ (KeepBut.blk hk (g' := gbqh) (o := .cells #[.int .i64 0, .slice none 0 0] 28 (0, 0)) (by refine pkx ?_; refine yj ?_ NBqh_ql.out _; refine pkx ?_; refine yj ?_ NBqh_ql.out _; refine pkx ?_; exact BKqh.out) NBqh_0.out (by simp)); replace BKqi := aQ (KeepBut.blk hk (g' := gbqi) (o := .cells #[.int .i64 0, .slice none 0 0] 28 (0, 0)) (by refine pkx ?_; refine yj ?_ NBqi_ql.out _; refine pkx ?_; refine yj ?_ NBqi_ql.out _; refine pkx ?_; exact BKqi.out) NBqi_0.out (by simp)); replace HOqk := aQ (Kd.R_mono (Kd.R_keep (IsS106.apart (show IsS106 w0 _ g s0_0 tqa tqb from pi_ HI0) (by refine pRx ?_; exact (Kd.R_mono (Kd.R_far (p := ⟨gbql, 1, none⟩) (Kd.R_far (p := ⟨gbql, 0, none⟩) (Kd.R_types HOqk.out BKql.out (by decide)) (fun _ hk => hk.2) (.int .i64 tq0)) (fun _ hk => hk.2) (.slice Ao35 tq9.length co35)) (fun _ h_ => h_.1))) (by decide)) hk (fun _ h => h.2)) (fun _ h => h.1)); replace BKql := aQ (KeepBut.blk hk (g' := gbql) (o := .cells #[.int .i64 tq0, .slice Ao35 tq9.length co35] 28 (0, 0)) (by refine pkx ?_; refine yh (cs := #[.int .i64 tq0, .slice none 0 0]) ?_ 1 _ rfl; refine pkx ?_; refine yh (cs := #[.int .i64 0, .slice none 0 0]) ?_ 0 _ rfl; refine pkx ?_; exact BKql.out) NBql_0.out (by simp)); replace HK := kh HK hk; replace HB := aQ (hb); replace HI0 := aQ (hi); (try clear hb); (try clear hk); (try clear hi)) | (refine gq 91 (some 15) Try.func91 #[.pointer (some ⟨g, 0, none⟩), .int .i64 3] ?_; (with_reducible refine (yk.calls g s0_0 tqc tqd 3 tq3 tqo tqp w0 _ ?side1 ?side2 A23.out).mono ?_); (case side1 => exact pi_ HI0); (case side2 => exact pbI HB); rintro e w37 ⟨rfl, hi, hb, hk⟩; refine ⟨_, rfl, ?_⟩; replace BKqh := kk BKqh hk NBqh_0.out; replace BKqi := kk BKqi hk NBqi_0.out; replace HOqk := aQ (Kd.R_mono (Kd.R_keep (IsS106.apart (show IsS106 w0 _ g s0_0 tqc tqd from pi_ HI0) (pR HOqk.out) (by decide)) hk (fun _ h => h.2)) (fun _ h => h.1)); replace BKql := kk BKql hk NBql_0.out; replace HK := kh HK hk; replace HB := aQ (hb); replace HI0 := aQ (hi); (try clear hb); (try clear hk); (try clear hi)))
   replace HOqk := aQ (Kd.R_drew HOqk.out); replace BKqh := aQ (yF BKqh.out); replace BKqi := aQ (yF BKqi.out); replace BKql := aQ (yF BKql.out); replace HI0 := aQ (IsS106.drew HI0.out); replace HK := aQ (ybx HK.out); replace HB := aQ (yK HB.out)
   refine ya0 (n := 12) (S := fun w' => w'.cell? ⟨gbql, 0, none⟩ = some (.int .i64 tq0) ∧ w'.cell? ⟨gbql, 1, none⟩ = some (.slice Ao35 tq9.length co35)) (ds := []) _ (by kernel_rfl) rfl rfl ⟨(ya BKql.out 0).trans rfl, (ya BKql.out 1).trans rfl⟩ (fun hHeld => ?_); refine yaw yai.tab6 yai.bits6 (fun HT_ HW_ => ?_)
   generalize w37.drew = w38 at HOqk BKqh BKqi BKql HI0 HK HB hHeld ⊢
   refine pJ 1 (some 20) HT_ #[false, true, false, false, false, false, false, false, false, false, false, false] ?_
   refine pJ 2 (some 21) HT_ #[false, true, true, false, false, false, false, false, false, false, false, false] ?_
   refine take_ (i := 0) (N := some 19) (v := ?_) (a' := ?_) #[true, true, true, false, false, false, false, false, false, false, false, false] rfl rfl (ybK HT_.out HW_.out (by kernel_rfl)) (fun _ _ _ h => h) (Or.inl ⟨by rfl, ?_⟩) hHeld ?_ ?_
   rotate_left
   ·rintro w' ⟨s0, s1⟩
    go_simp
    with_reducible rfl
   rotate_left
   ·simp only [Act.put, List.setIfInBounds_toArray, List.set_cons_zero, List.set_cons_succ, i64_w, ybq]
    rfl
   refine take_ (i := 3) (N := some 22) (v := ?_) (a' := ?_) #[true, true, true, true, false, false, false, false, false, false, false, false] rfl rfl (ybK HT_.out HW_.out (by kernel_rfl)) (fun _ _ _ h => h) (Or.inl ⟨by rfl, ?_⟩) hHeld ?_ ?_
   rotate_left
   ·rintro w' ⟨s0, s1⟩
    go_simp
    with_reducible rfl
   rotate_left
   ·simp only [Act.put, List.setIfInBounds_toArray, List.set_cons_zero, List.set_cons_succ, i64_w, ybq]
    rfl
   refine yiv (σ := Value × Value × Nat) 2 #[true, true, true, true, true, true, true, true, true, true, false, false] (fun s_ => [(23, s_.1), (24, .tuple #[.agg #[.int .i64 tq5, s_.2.1], .bool tqt]), (5, .pointer (some ⟨s_.2.2, 0, none⟩)), (18, .tuple #[.agg #[.int .i64 tq5, s_.2.1], .bool tqt]), (25, .agg #[.int .i64 tq5, s_.2.1]), (26, .bool tqt)]) (fun s_ w' => (w'.cell? ⟨gbql, 0, none⟩ = some (.int .i64 tq0) ∧ w'.cell? ⟨gbql, 1, none⟩ = some (.slice Ao35 tq9.length co35)) ∧ (Kd.R (Kd.int .i64) 3 w' w.heap.size (fun k_ => some k_ ≠ (s_.1 : Value).ownBlock ∧ some k_ ≠ (s_.2.1 : Value).ownBlock) (.slice Ao35 tq9.length co35) tq9) ∧ (Kd.R (Kd.int .i64) 3 w' w.heap.size (fun k_ => some k_ ≠ (.slice Ao35 tq9.length co35 : Value).ownBlock ∧ some k_ ≠ (s_.2.1 : Value).ownBlock) s_.1 tq4) ∧ (Kd.R (Kd.int .i64) 3 w' w.heap.size (fun k_ => some k_ ≠ (.slice Ao35 tq9.length co35 : Value).ownBlock ∧ some k_ ≠ (s_.1 : Value).ownBlock) s_.2.1 tqs) ∧ (w'.heap[gbqh]? = some (.cells #[.int .i64 0, .slice none 0 0] 28 (0, 0))) ∧ (w'.heap[gbqi]? = some (.cells #[.int .i64 0, .slice none 0 0] 28 (0, 0))) ∧ (w'.heap[gbql]? = some (.cells #[.int .i64 tq0, .slice Ao35 tq9.length co35] 28 (0, 0))) ∧ (w'.heap[s_.2.2]? = some (.cells #[.int .i64 0, .slice none 0 0] 28 (0, 0))) ∧ (w.heap.size ≤ s_.2.2) ∧ (w0.heap.size ≤ s_.2.2) ∧ (g ≠ s_.2.2) ∧ (s_.2.2 ≠ g) ∧ (gbqh ≠ s_.2.2) ∧ (s_.2.2 ≠ gbqh) ∧ (gbqi ≠ s_.2.2) ∧ (s_.2.2 ≠ gbqi) ∧ (gbql ≠ s_.2.2) ∧ (s_.2.2 ≠ gbql) ∧ (IsS106 w0 w' g s0_0 tqq tqr) ∧ (KeepBut w w' g none) ∧ (Below w0.heap.size w0 w')) ?_ ?_
   rotate_left
   ·intro hCont
    refine two_ (i := 4) (j := 9) (Ni := some 23) (Nj := some 5) #[true, true, true, true, true, false, false, false, false, false, false, false] #[true, true, true, true, false, false, false, false, false, true, false, false] rfl rfl rfl rfl (yhk HT_.out (by kernel_rfl)) (by decide) (by decide) (fun K hK => ?_) (fun K hK => ?_)
    ·skip
     refine gs Try.func132 #[.pointer (some ⟨g, 0, none⟩), .int .i64 tq0] ?_
     with_reducible refine (yS.calls k g s0_0 tqo tqp tq0 tq4 tqq tqr w0 _ ?side1 ?side2 A25.out).mono ?_
     (case side1 => exact pi_ HI0)
     (case side2 => exact pbI HB)
     rintro e w39 ⟨vqu, rfl, ho0, hi, hb, hk⟩
     refine ⟨_, rfl, ?_⟩
     replace BKqh := kk BKqh hk NBqh_0.out; replace BKqi := kk BKqi hk NBqi_0.out; replace BKql := kk BKql hk NBql_0.out; have HOqv := aQ (Kd.R_lower (Kd.R_new' ho0 (Kd.R_lt (pR HOqk.out))) (yR (w := w) (g := g) (row := none) (pq HK))); replace HOqk := aQ (Kd.R_mono (Kd.R_told (Kd.R_oldK (IsS106.apart (show IsS106 w0 _ g s0_0 tqo tqp from pi_ HI0) (pR HOqk.out) (by decide)) hk) (Kd.R_base ho0)) (fun _ h_ => h_.1)); replace HK := kh HK hk; replace HB := aQ (hb); replace HI0 := aQ (hi)
     (try clear hb)
     (try clear hb2)
     (try clear hk)
     (try clear hi)
     (try clear ho0)
     obtain ⟨Ao40, co40, eo40⟩ := Kd.R_slice HOqv.out
     (first | subst eo40 | (injection eo40 with f1_ f2_ f3_; have f4_ := f1_.symm; have f5_ := f3_.symm; clear f1_ f2_ f3_; subst f4_; subst f5_))
     refine hK.out _ _ ⟨(ya BKql.out 0).trans rfl, (ya BKql.out 1).trans rfl⟩ (fun hHeld => ?_)
     clear hK K
     refine noN (some 23) (h := ?_)
     refine two_ (i := 5) (j := 9) (Ni := some 24) (Nj := some 5) #[true, true, true, true, true, true, false, false, false, false, false, false] #[true, true, true, true, true, false, false, false, false, true, false, false] rfl rfl rfl rfl (yhk HT_.out (by kernel_rfl)) (by decide) (by decide) (fun K hK => ?_) (fun K hK => ?_)
     ·skip
      refine gs Try.func131 #[.agg #[.int .i64 tq0, .slice Ao35 tq9.length co35], .slice Ao40 tq4.length co40] ?_
      with_reducible refine (yV.calls k tq0 _ _ tq9 _ _ tq4 tq5 tqs tqt _ ?side1 ?side2 ?side3 ?side4 A26.out).mono ?_
      (case side1 => exact pC ((Kd.R_reads' HOqk.out).2.2))
      (case side2 => exact (Kd.R_reads' HOqk.out).2.1)
      (case side3 => exact pC ((Kd.R_reads' HOqv.out).2.2))
      (case side4 => exact (Kd.R_reads' HOqv.out).2.1)
      rintro e w41 ⟨vqw, rfl, ho0, hb⟩
      refine ⟨_, rfl, ?_⟩
      have HOqx := aQ (Kd.R_lower (Kd.R_new' (Kd.R_new' ho0 (Kd.R_lt (pR HOqk.out))) (Kd.R_lt (pR HOqv.out))) (yR (w := w) (g := g) (row := none) (pq HK))); replace HOqk := aQ (Kd.R_elder' (pR HOqk.out) (Kd.R_base ho0) hb); replace HOqv := aQ (Kd.R_elder' (pR HOqv.out) (Kd.R_base ho0) hb); replace HI0 := bI HI0 hb; replace BKqh := bb BKqh hb; replace BKqi := bb BKqi hb; replace BKql := bb BKql hb; replace HK := kt HK hb; replace HB := bsI HB hb
      (try clear hb)
      (try clear hb2)
      (try clear hk)
      (try clear hi)
      (try clear ho0)
      refine hK.out _ _ ⟨(ya BKql.out 0).trans rfl, (ya BKql.out 1).trans rfl⟩ (fun hHeld => ?_)
      clear hK K
      refine noN (some 24) (h := ?_)
      refine pJ 6 (some 18) HT_ #[true, true, true, true, true, true, true, false, false, false, false, false] ?_
      refine pJ 7 (some 25) HT_ #[true, true, true, true, true, true, true, true, false, false, false, false] ?_
      refine pJ 8 (some 26) HT_ #[true, true, true, true, true, true, true, true, true, false, false, false] ?_
      refine one_ (i := 9) (N := some 5) #[true, true, true, true, true, true, true, true, true, true, false, false] rfl rfl (ybP HT_.out (by kernel_rfl)) (by decide) (fun K hK => ?_)
      refine yep ?hg (N := 5) ?hd (cs := #[.int .i64 0, .slice none 0 0]) (t := 28) ?hr ?_; (case hd => rfl); (case hg => rfl); (case hr => first | (go_simp; done) | (go_simp; rfl))
      intro gbqy hg w42 hbox hb
      replace HOqk := aQ (Kd.R_below (pR HOqk.out) hb); replace HOqv := aQ (Kd.R_below (pR HOqv.out) hb); replace HOqx := aQ (Kd.R_below (pR HOqx.out) hb); replace HB := bsI HB hb; have BKqy := aQ (hbox); have GWqy := gw HK hg; have GEqy := ge HK HW0 hg; replace HK := kt HK hb; have NBqh_qy := nl BKqh hg; have NBqy_qh := ng BKqh hg; replace BKqh := bb BKqh hb; have NBqi_qy := nl BKqi hg; have NBqy_qi := ng BKqi hg; replace BKqi := bb BKqi hb; have NBql_qy := nl BKql hg; have NBqy_ql := ng BKql hg; replace BKql := bb BKql hb; have NB0_qy := nI HI0 hg; have NBqy_0 := mI HI0 hg; replace HI0 := bI HI0 hb
      clear hb hbox hg
      refine hK.out _ _ ⟨(ya BKql.out 0).trans rfl, (ya BKql.out 1).trans rfl⟩ (fun hHeld => ?_)
      clear hK K
      refine noN (some 5) (h := ?_)
      exact yfV (by simp only [ydf, Act.put, List.setIfInBounds_toArray, List.set_cons_zero, List.set_cons_succ]) (hCont (.slice Ao40 tq4.length co40, vqw, gbqy) _ ⟨hHeld, (by refine pRx ?_; exact Kd.R_mono HOqk.out (fun _ hk => ⟨hk.1.2, hk.2⟩)), (by refine pRx ?_; exact Kd.R_mono HOqv.out (fun _ hk => ⟨hk.1.2, hk.2⟩)), (by refine pRx ?_; exact Kd.R_mono HOqx.out (fun _ hk => ⟨hk.1.2, hk.2⟩)), (pk BKqh.out), (pk BKqi.out), (pk BKql.out), (pk BKqy.out), GWqy.out, GEqy.out, NB0_qy.out, NBqy_0.out, NBqh_qy.out, NBqy_qh.out, NBqi_qy.out, NBqy_qi.out, NBql_qy.out, NBqy_ql.out, (pi_ HI0), (pq HK), (pbI HB)⟩)
     ·skip
      refine yep ?hg (N := 5) ?hd (cs := #[.int .i64 0, .slice none 0 0]) (t := 28) ?hr ?_; (case hd => rfl); (case hg => rfl); (case hr => first | (go_simp; done) | (go_simp; rfl))
      intro gbqy hg w40 hbox hb
      replace HOqk := aQ (Kd.R_below (pR HOqk.out) hb); replace HOqv := aQ (Kd.R_below (pR HOqv.out) hb); replace HB := bsI HB hb; have BKqy := aQ (hbox); have GWqy := gw HK hg; have GEqy := ge HK HW0 hg; replace HK := kt HK hb; have NBqh_qy := nl BKqh hg; have NBqy_qh := ng BKqh hg; replace BKqh := bb BKqh hb; have NBqi_qy := nl BKqi hg; have NBqy_qi := ng BKqi hg; replace BKqi := bb BKqi hb; have NBql_qy := nl BKql hg; have NBqy_ql := ng BKql hg; replace BKql := bb BKql hb; have NB0_qy := nI HI0 hg; have NBqy_0 := mI HI0 hg; replace HI0 := bI HI0 hb
      clear hb hbox hg
      obtain ⟨Ao41, co41, eo41⟩ := Kd.R_slice HOqv.out
      (first | subst eo41 | (injection eo41 with f1_ f2_ f3_; have f4_ := f1_.symm; have f5_ := f3_.symm; clear f1_ f2_ f3_; subst f4_; subst f5_))
      refine hK.out _ _ ⟨(ya BKql.out 0).trans rfl, (ya BKql.out 1).trans rfl⟩ (fun hHeld => ?_)
      clear hK K
      refine noN (some 5) (h := ?_)
      refine one_ (i := 5) (N := some 24) #[true, true, true, true, true, true, false, false, false, true, false, false] rfl rfl (ybP HT_.out (by kernel_rfl)) (by decide) (fun K hK => ?_)
      refine gs Try.func131 #[.agg #[.int .i64 tq0, .slice Ao35 tq9.length co35], .slice Ao41 tq4.length co41] ?_
      with_reducible refine (yV.calls k tq0 _ _ tq9 _ _ tq4 tq5 tqs tqt _ ?side1 ?side2 ?side3 ?side4 A26.out).mono ?_
      (case side1 => exact pC ((Kd.R_reads' HOqk.out).2.2))
      (case side2 => exact (Kd.R_reads' HOqk.out).2.1)
      (case side3 => exact pC ((Kd.R_reads' HOqv.out).2.2))
      (case side4 => exact (Kd.R_reads' HOqv.out).2.1)
      rintro e w42 ⟨vqw, rfl, ho0, hb⟩
      refine ⟨_, rfl, ?_⟩
      have HOqx := aQ (Kd.R_lower (Kd.R_new' (Kd.R_new' ho0 (Kd.R_lt (pR HOqk.out))) (Kd.R_lt (pR HOqv.out))) (yR (w := w) (g := g) (row := none) (pq HK))); replace HOqk := aQ (Kd.R_elder' (pR HOqk.out) (Kd.R_base ho0) hb); replace HOqv := aQ (Kd.R_elder' (pR HOqv.out) (Kd.R_base ho0) hb); replace HI0 := bI HI0 hb; replace BKqh := bb BKqh hb; replace BKqi := bb BKqi hb; replace BKql := bb BKql hb; replace BKqy := bb BKqy hb; replace HK := kt HK hb; replace HB := bsI HB hb
      (try clear hb)
      (try clear hb2)
      (try clear hk)
      (try clear hi)
      (try clear ho0)
      refine hK.out _ _ ⟨(ya BKql.out 0).trans rfl, (ya BKql.out 1).trans rfl⟩ (fun hHeld => ?_)
      clear hK K
      refine noN (some 24) (h := ?_)
      refine pJ 6 (some 18) HT_ #[true, true, true, true, true, true, true, false, false, true, false, false] ?_
      refine pJ 7 (some 25) HT_ #[true, true, true, true, true, true, true, true, false, true, false, false] ?_
      refine pJ 8 (some 26) HT_ #[true, true, true, true, true, true, true, true, true, true, false, false] ?_
      exact yfV (by simp only [ydf, Act.put, List.setIfInBounds_toArray, List.set_cons_zero, List.set_cons_succ]) (hCont (.slice Ao41 tq4.length co41, vqw, gbqy) _ ⟨hHeld, (by refine pRx ?_; exact Kd.R_mono HOqk.out (fun _ hk => ⟨hk.1.2, hk.2⟩)), (by refine pRx ?_; exact Kd.R_mono HOqv.out (fun _ hk => ⟨hk.1.2, hk.2⟩)), (by refine pRx ?_; exact Kd.R_mono HOqx.out (fun _ hk => ⟨hk.1.2, hk.2⟩)), (pk BKqh.out), (pk BKqi.out), (pk BKql.out), (pk BKqy.out), GWqy.out, GEqy.out, NB0_qy.out, NBqy_0.out, NBqh_qy.out, NBqy_qh.out, NBqi_qy.out, NBqy_qi.out, NBql_qy.out, NBqy_ql.out, (pi_ HI0), (pq HK), (pbI HB)⟩)
    ·skip
     refine yep ?hg (N := 5) ?hd (cs := #[.int .i64 0, .slice none 0 0]) (t := 28) ?hr ?_; (case hd => rfl); (case hg => rfl); (case hr => first | (go_simp; done) | (go_simp; rfl))
     intro gbqy hg w39 hbox hb
     replace HOqk := aQ (Kd.R_below (pR HOqk.out) hb); replace HB := bsI HB hb; have BKqy := aQ (hbox); have GWqy := gw HK hg; have GEqy := ge HK HW0 hg; replace HK := kt HK hb; have NBqh_qy := nl BKqh hg; have NBqy_qh := ng BKqh hg; replace BKqh := bb BKqh hb; have NBqi_qy := nl BKqi hg; have NBqy_qi := ng BKqi hg; replace BKqi := bb BKqi hb; have NBql_qy := nl BKql hg; have NBqy_ql := ng BKql hg; replace BKql := bb BKql hb; have NB0_qy := nI HI0 hg; have NBqy_0 := mI HI0 hg; replace HI0 := bI HI0 hb
     clear hb hbox hg
     refine hK.out _ _ ⟨(ya BKql.out 0).trans rfl, (ya BKql.out 1).trans rfl⟩ (fun hHeld => ?_)
     clear hK K
     refine noN (some 5) (h := ?_)
     refine one_ (i := 4) (N := some 23) #[true, true, true, true, true, false, false, false, false, true, false, false] rfl rfl (ybP HT_.out (by kernel_rfl)) (by decide) (fun K hK => ?_)
     refine gs Try.func132 #[.pointer (some ⟨g, 0, none⟩), .int .i64 tq0] ?_
     with_reducible refine (yS.calls k g s0_0 tqo tqp tq0 tq4 tqq tqr w0 _ ?side1 ?side2 A25.out).mono ?_
     (case side1 => exact pi_ HI0)
     (case side2 => exact pbI HB)
     rintro e w40 ⟨vqu, rfl, ho0, hi, hb, hk⟩
     refine ⟨_, rfl, ?_⟩
     replace BKqh := kk BKqh hk NBqh_0.out; replace BKqi := kk BKqi hk NBqi_0.out; replace BKql := kk BKql hk NBql_0.out; replace BKqy := kk BKqy hk NBqy_0.out; have HOqv := aQ (Kd.R_lower (Kd.R_new' ho0 (Kd.R_lt (pR HOqk.out))) (yR (w := w) (g := g) (row := none) (pq HK))); replace HOqk := aQ (Kd.R_mono (Kd.R_told (Kd.R_oldK (IsS106.apart (show IsS106 w0 _ g s0_0 tqo tqp from pi_ HI0) (pR HOqk.out) (by decide)) hk) (Kd.R_base ho0)) (fun _ h_ => h_.1)); replace HK := kh HK hk; replace HB := aQ (hb); replace HI0 := aQ (hi)
     (try clear hb)
     (try clear hb2)
     (try clear hk)
     (try clear hi)
     (try clear ho0)
     obtain ⟨Ao41, co41, eo41⟩ := Kd.R_slice HOqv.out
     (first | subst eo41 | (injection eo41 with f1_ f2_ f3_; have f4_ := f1_.symm; have f5_ := f3_.symm; clear f1_ f2_ f3_; subst f4_; subst f5_))
     refine hK.out _ _ ⟨(ya BKql.out 0).trans rfl, (ya BKql.out 1).trans rfl⟩ (fun hHeld => ?_)
     clear hK K
     refine noN (some 23) (h := ?_)
     refine one_ (i := 5) (N := some 24) #[true, true, true, true, true, true, false, false, false, true, false, false] rfl rfl (ybP HT_.out (by kernel_rfl)) (by decide) (fun K hK => ?_)
     refine gs Try.func131 #[.agg #[.int .i64 tq0, .slice Ao35 tq9.length co35], .slice Ao41 tq4.length co41] ?_
     with_reducible refine (yV.calls k tq0 _ _ tq9 _ _ tq4 tq5 tqs tqt _ ?side1 ?side2 ?side3 ?side4 A26.out).mono ?_
     (case side1 => exact pC ((Kd.R_reads' HOqk.out).2.2))
     (case side2 => exact (Kd.R_reads' HOqk.out).2.1)
     (case side3 => exact pC ((Kd.R_reads' HOqv.out).2.2))
     (case side4 => exact (Kd.R_reads' HOqv.out).2.1)
     rintro e w42 ⟨vqw, rfl, ho0, hb⟩
     refine ⟨_, rfl, ?_⟩
     have HOqx := aQ (Kd.R_lower (Kd.R_new' (Kd.R_new' ho0 (Kd.R_lt (pR HOqk.out))) (Kd.R_lt (pR HOqv.out))) (yR (w := w) (g := g) (row := none) (pq HK))); replace HOqk := aQ (Kd.R_elder' (pR HOqk.out) (Kd.R_base ho0) hb); replace HOqv := aQ (Kd.R_elder' (pR HOqv.out) (Kd.R_base ho0) hb); replace HI0 := bI HI0 hb; replace BKqh := bb BKqh hb; replace BKqi := bb BKqi hb; replace BKql := bb BKql hb; replace BKqy := bb BKqy hb; replace HK := kt HK hb; replace HB := bsI HB hb
     (try clear hb)
     (try clear hb2)
     (try clear hk)
     (try clear hi)
     (try clear ho0)
     refine hK.out _ _ ⟨(ya BKql.out 0).trans rfl, (ya BKql.out 1).trans rfl⟩ (fun hHeld => ?_)
     clear hK K
     refine noN (some 24) (h := ?_)
     refine pJ 6 (some 18) HT_ #[true, true, true, true, true, true, true, false, false, true, false, false] ?_
     refine pJ 7 (some 25) HT_ #[true, true, true, true, true, true, true, true, false, true, false, false] ?_
     refine pJ 8 (some 26) HT_ #[true, true, true, true, true, true, true, true, true, true, false, false] ?_
     exact yfV (by simp only [ydf, Act.put, List.setIfInBounds_toArray, List.set_cons_zero, List.set_cons_succ]) (hCont (.slice Ao41 tq4.length co41, vqw, gbqy) _ ⟨hHeld, (by refine pRx ?_; exact Kd.R_mono HOqk.out (fun _ hk => ⟨hk.1.2, hk.2⟩)), (by refine pRx ?_; exact Kd.R_mono HOqv.out (fun _ hk => ⟨hk.1.2, hk.2⟩)), (by refine pRx ?_; exact Kd.R_mono HOqx.out (fun _ hk => ⟨hk.1.2, hk.2⟩)), (pk BKqh.out), (pk BKqi.out), (pk BKql.out), (pk BKqy.out), GWqy.out, GEqy.out, NB0_qy.out, NBqy_0.out, NBqh_qy.out, NBqy_qh.out, NBqi_qy.out, NBqy_qi.out, NBql_qy.out, NBqy_ql.out, (pi_ HI0), (pq HK), (pbI HB)⟩)
   rintro ⟨vqu, vqw, gbqy⟩ w43 ⟨hS_, h0_, h1_, h2_, h3_, h4_, h5_, h6_, h7_, h8_, h9_, h10_, h11_, h12_, h13_, h14_, h15_, h16_, h17_, h18_, h19_⟩
   have n0_ : Aside0 (Kd.R (Kd.int .i64) 3 w43 w.heap.size (fun k_ => some k_ ≠ (vqu : Value).ownBlock ∧ some k_ ≠ (vqw : Value).ownBlock) (.slice Ao35 tq9.length co35) tq9) := ⟨h0_⟩
   have n1_ : Aside0 (Kd.R (Kd.int .i64) 3 w43 w.heap.size (fun k_ => some k_ ≠ (.slice Ao35 tq9.length co35 : Value).ownBlock ∧ some k_ ≠ (vqw : Value).ownBlock) vqu tq4) := ⟨h1_⟩
   have n2_ : Aside0 (Kd.R (Kd.int .i64) 3 w43 w.heap.size (fun k_ => some k_ ≠ (.slice Ao35 tq9.length co35 : Value).ownBlock ∧ some k_ ≠ (vqu : Value).ownBlock) vqw tqs) := ⟨h2_⟩
   have n3_ : Aside0 (w43.heap[gbqh]? = some (.cells #[.int .i64 0, .slice none 0 0] 28 (0, 0))) := ⟨h3_⟩
   have n4_ : Aside0 (w43.heap[gbqi]? = some (.cells #[.int .i64 0, .slice none 0 0] 28 (0, 0))) := ⟨h4_⟩
   have n5_ : Aside0 (w43.heap[gbql]? = some (.cells #[.int .i64 tq0, .slice Ao35 tq9.length co35] 28 (0, 0))) := ⟨h5_⟩
   have n6_ : Aside0 (w43.heap[gbqy]? = some (.cells #[.int .i64 0, .slice none 0 0] 28 (0, 0))) := ⟨h6_⟩
   have n7_ : Aside0 (w.heap.size ≤ gbqy) := ⟨h7_⟩
   have n8_ : Aside0 (w0.heap.size ≤ gbqy) := ⟨h8_⟩
   have n9_ : Aside0 (g ≠ gbqy) := ⟨h9_⟩
   have n10_ : Aside0 (gbqy ≠ g) := ⟨h10_⟩
   have n11_ : Aside0 (gbqh ≠ gbqy) := ⟨h11_⟩
   have n12_ : Aside0 (gbqy ≠ gbqh) := ⟨h12_⟩
   have n13_ : Aside0 (gbqi ≠ gbqy) := ⟨h13_⟩
   have n14_ : Aside0 (gbqy ≠ gbqi) := ⟨h14_⟩
   have n15_ : Aside0 (gbql ≠ gbqy) := ⟨h15_⟩
   have n16_ : Aside0 (gbqy ≠ gbql) := ⟨h16_⟩
   have n17_ : Aside0 (IsS106 w0 w43 g s0_0 tqq tqr) := ⟨h17_⟩
   have n18_ : Aside0 (KeepBut w w43 g none) := ⟨h18_⟩
   have n19_ : Aside0 (Below w0.heap.size w0 w43) := ⟨h19_⟩
   clear HOqk
   clear BKqh
   clear BKqi
   clear BKql
   clear HI0
   clear HK
   clear HB
   clear h0_ h1_ h2_ h3_ h4_ h5_ h6_ h7_ h8_ h9_ h10_ h11_ h12_ h13_ h14_ h15_ h16_ h17_ h18_ h19_
   have HOqk := n0_
   have HOqv := n1_
   have HOqx := n2_
   have BKqh := n3_
   have BKqi := n4_
   have BKql := n5_
   have BKqy := n6_
   have GWqy := n7_
   have GEqy := n8_
   have NB0_qy := n9_
   have NBqy_0 := n10_
   have NBqh_qy := n11_
   have NBqy_qh := n12_
   have NBqi_qy := n13_
   have NBqy_qi := n14_
   have NBql_qy := n15_
   have NBqy_ql := n16_
   have HI0 := n17_
   have HK := n18_
   have HB := n19_
   clear n0_ n1_ n2_ n3_ n4_ n5_ n6_ n7_ n8_ n9_ n10_ n11_ n12_ n13_ n14_ n15_ n16_ n17_ n18_ n19_
   have hHeld : w43.cell? ⟨gbql, 0, none⟩ = some (.int .i64 tq0) ∧ w43.cell? ⟨gbql, 1, none⟩ = some (.slice Ao35 tq9.length co35) := hS_
   obtain ⟨Ao45, co45, eo45⟩ := Kd.R_slice HOqx.out
   (first | subst eo45 | (injection eo45 with f1_ f2_ f3_; have f4_ := f1_.symm; have f5_ := f3_.symm; clear f1_ f2_ f3_; subst f4_; subst f5_))
   refine yfV (a' := ?_) ?_ ?_
   rotate_left
   ·simp only [ydf, Act.put, List.setIfInBounds_toArray, List.set_cons_zero, List.set_cons_succ]
    rfl
   refine one_ (i := 10) (N := none) #[true, true, true, true, true, true, true, true, true, true, true, false] rfl rfl (ybP HT_.out (by kernel_rfl)) (by decide) (fun K hK => ?_)
   have hs44 : w43.cell? ⟨gbqy, 0, none⟩ = some (.int .i64 0) := (ya BKqy.out 0).trans rfl
   have hfs44 := yl BKqy.out 0
   have hns44_0 := NBqh_qy.out
   have hns44_1 := NBqi_qy.out
   have hns44_2 := NBql_qy.out
   have hms44_0 := NBqy_qh.out
   have hms44_1 := NBqy_qi.out
   have hms44_2 := NBqy_ql.out
   have hs46 : w43.cell? ⟨gbqy, 1, none⟩ = some (.slice none 0 0) := (ya BKqy.out 1).trans rfl
   have hfs46 := yl BKqy.out 1
   have hns46_0 := NBqh_qy.out
   have hns46_1 := NBqi_qy.out
   have hns46_2 := NBql_qy.out
   have hms46_0 := NBqy_qh.out
   have hms46_1 := NBqy_qi.out
   have hms46_2 := NBqy_ql.out
   refine ybU (w1 := ?_) (by rfl) rfl ?_ ?_
   rotate_left
   ·go_simp
    rfl
   refine hK.out _ _ ⟨((ym (p := ⟨gbqy, _, none⟩) NBql_qy.out _).trans (((ym (p := ⟨gbqy, _, none⟩) NBql_qy.out _).trans (hHeld.1)))), ((ym (p := ⟨gbqy, _, none⟩) NBql_qy.out _).trans (((ym (p := ⟨gbqy, _, none⟩) NBql_qy.out _).trans (hHeld.2))))⟩ (fun hHeld => ?_)
   clear hK K
   refine pJ 11 (some 6) HT_ #[true, true, true, true, true, true, true, true, true, true, true, true] ?_
   refine ybs (yaZ HT_.out (by kernel_rfl)) ?_
   try go_wp2
   have n0_ : Aside0 (Kd.R (Kd.int .i64) 3 ((w43.setCell ⟨gbqy, 0, none⟩ (.int .i64 tq5)).setCell ⟨gbqy, 1, none⟩ (.slice Ao45 tqs.length co45)) w.heap.size (fun k_ => some k_ ≠ (vqu : Value).ownBlock ∧ some k_ ≠ (.slice Ao45 tqs.length co45 : Value).ownBlock) (.slice Ao35 tq9.length co35) tq9) := ⟨by refine pRx ?_; exact Kd.R_mono (Kd.R_far (p := ⟨gbqy, 1, none⟩) (Kd.R_far (p := ⟨gbqy, 0, none⟩) (Kd.R_types HOqk.out BKqy.out (by decide)) (fun _ hk => hk.2) (.int .i64 tq5)) (fun _ hk => hk.2) (.slice Ao45 tqs.length co45)) (fun _ hk => ⟨hk.1.1, hk.1.2⟩)⟩
   have n1_ : Aside0 (Kd.R (Kd.int .i64) 3 ((w43.setCell ⟨gbqy, 0, none⟩ (.int .i64 tq5)).setCell ⟨gbqy, 1, none⟩ (.slice Ao45 tqs.length co45)) w.heap.size (fun k_ => some k_ ≠ (.slice Ao35 tq9.length co35 : Value).ownBlock ∧ some k_ ≠ (.slice Ao45 tqs.length co45 : Value).ownBlock) vqu tq4) := ⟨by refine pRx ?_; exact Kd.R_mono (Kd.R_far (p := ⟨gbqy, 1, none⟩) (Kd.R_far (p := ⟨gbqy, 0, none⟩) (Kd.R_types HOqv.out BKqy.out (by decide)) (fun _ hk => hk.2) (.int .i64 tq5)) (fun _ hk => hk.2) (.slice Ao45 tqs.length co45)) (fun _ hk => ⟨hk.1.1, hk.1.2⟩)⟩
   have n2_ : Aside0 (Kd.R (Kd.int .i64) 3 ((w43.setCell ⟨gbqy, 0, none⟩ (.int .i64 tq5)).setCell ⟨gbqy, 1, none⟩ (.slice Ao45 tqs.length co45)) w.heap.size (fun k_ => some k_ ≠ (.slice Ao35 tq9.length co35 : Value).ownBlock ∧ some k_ ≠ (vqu : Value).ownBlock) (.slice Ao45 tqs.length co45) tqs) := ⟨by refine pRx ?_; exact Kd.R_mono (Kd.R_far (p := ⟨gbqy, 1, none⟩) (Kd.R_far (p := ⟨gbqy, 0, none⟩) (Kd.R_types HOqx.out BKqy.out (by decide)) (fun _ hk => hk.2) (.int .i64 tq5)) (fun _ hk => hk.2) (.slice Ao45 tqs.length co45)) (fun _ hk => ⟨hk.1.1, hk.1.2⟩)⟩
   have n3_ : Aside0 (((w43.setCell ⟨gbqy, 0, none⟩ (.int .i64 tq5)).setCell ⟨gbqy, 1, none⟩ (.slice Ao45 tqs.length co45)).heap[gbqh]? = some (.cells #[.int .i64 0, .slice none 0 0] 28 (0, 0))) := ⟨by refine pkx ?_; refine yj ?_ NBqh_qy.out _; refine pkx ?_; refine yj ?_ NBqh_qy.out _; refine pkx ?_; exact BKqh.out⟩
   have n4_ : Aside0 (((w43.setCell ⟨gbqy, 0, none⟩ (.int .i64 tq5)).setCell ⟨gbqy, 1, none⟩ (.slice Ao45 tqs.length co45)).heap[gbqi]? = some (.cells #[.int .i64 0, .slice none 0 0] 28 (0, 0))) := ⟨by refine pkx ?_; refine yj ?_ NBqi_qy.out _; refine pkx ?_; refine yj ?_ NBqi_qy.out _; refine pkx ?_; exact BKqi.out⟩
   have n5_ : Aside0 (((w43.setCell ⟨gbqy, 0, none⟩ (.int .i64 tq5)).setCell ⟨gbqy, 1, none⟩ (.slice Ao45 tqs.length co45)).heap[gbql]? = some (.cells #[.int .i64 tq0, .slice Ao35 tq9.length co35] 28 (0, 0))) := ⟨by refine pkx ?_; refine yj ?_ NBql_qy.out _; refine pkx ?_; refine yj ?_ NBql_qy.out _; refine pkx ?_; exact BKql.out⟩
   have n6_ : Aside0 (((w43.setCell ⟨gbqy, 0, none⟩ (.int .i64 tq5)).setCell ⟨gbqy, 1, none⟩ (.slice Ao45 tqs.length co45)).heap[gbqy]? = some (.cells #[.int .i64 tq5, .slice Ao45 tqs.length co45] 28 (0, 0))) := ⟨by refine pkx ?_; refine yh (cs := #[.int .i64 tq5, .slice none 0 0]) ?_ 1 _ rfl; refine pkx ?_; refine yh (cs := #[.int .i64 0, .slice none 0 0]) ?_ 0 _ rfl; refine pkx ?_; exact BKqy.out⟩
   have n7_ : Aside0 (IsS106 w0 ((w43.setCell ⟨gbqy, 0, none⟩ (.int .i64 tq5)).setCell ⟨gbqy, 1, none⟩ (.slice Ao45 tqs.length co45)) g s0_0 tqq tqr) := ⟨pi_ HI0⟩
   have n8_ : Aside0 (KeepBut w ((w43.setCell ⟨gbqy, 0, none⟩ (.int .i64 tq5)).setCell ⟨gbqy, 1, none⟩ (.slice Ao45 tqs.length co45)) g none) := ⟨pq HK⟩
   have n9_ : Aside0 (Below w0.heap.size w0 ((w43.setCell ⟨gbqy, 0, none⟩ (.int .i64 tq5)).setCell ⟨gbqy, 1, none⟩ (.slice Ao45 tqs.length co45))) := ⟨pbI HB⟩
   (try clear HOqk)
   (try clear HOqv)
   (try clear HOqx)
   (try clear BKqh)
   (try clear BKqi)
   (try clear BKql)
   (try clear BKqy)
   (try clear HI0)
   (try clear HK)
   (try clear HB)
   generalize ((w43.setCell ⟨gbqy, 0, none⟩ (.int .i64 tq5)).setCell ⟨gbqy, 1, none⟩ (.slice Ao45 tqs.length co45)) = w47 at n0_ n1_ n2_ n3_ n4_ n5_ n6_ n7_ n8_ n9_ ⊢
   have HOqk := n0_
   have HOqv := n1_
   have HOqx := n2_
   have BKqh := n3_
   have BKqi := n4_
   have BKql := n5_
   have BKqy := n6_
   have HI0 := n7_
   have HK := n8_
   have HB := n9_
   clear n0_ n1_ n2_ n3_ n4_ n5_ n6_ n7_ n8_ n9_
   replace HOqk := aQ (Kd.R_drew HOqk.out); replace HOqv := aQ (Kd.R_drew HOqv.out); replace HOqx := aQ (Kd.R_drew HOqx.out); replace BKqh := aQ (yF BKqh.out); replace BKqi := aQ (yF BKqi.out); replace BKql := aQ (yF BKql.out); replace BKqy := aQ (yF BKqy.out); replace HI0 := aQ (IsS106.drew HI0.out); replace HK := aQ (ybx HK.out); replace HB := aQ (yK HB.out)
   refine ya0 (n := 4) (S := fun w' => w'.cell? ⟨gbql, 0, none⟩ = some (.int .i64 tq0) ∧ w'.cell? ⟨gbql, 1, none⟩ = some (.slice Ao35 tq9.length co35) ∧ w'.cell? ⟨gbqy, 0, none⟩ = some (.int .i64 tq5) ∧ w'.cell? ⟨gbqy, 1, none⟩ = some (.slice Ao45 tqs.length co45)) (ds := []) _ (by kernel_rfl) rfl rfl ⟨(ya BKql.out 0).trans rfl, (ya BKql.out 1).trans rfl, (ya BKqy.out 0).trans rfl, (ya BKqy.out 1).trans rfl⟩ (fun hHeld => ?_)
   generalize w47.drew = w48 at HOqk HOqv HOqx BKqh BKqi BKql BKqy HI0 HK HB hHeld ⊢
   refine tN4 0 (some 27) hHeld ?_
   refine tN4 1 (some 28) hHeld ?_
   refine onN (i := 2) (N := none) (h := fun K hK => ?_)
   have hs49 : w48.cell? ⟨gbqh, 0, none⟩ = some (.int .i64 0) := (ya BKqh.out 0).trans rfl
   have hfs49 := yl BKqh.out 0
   have hns49_1 := NBqi_qh.out
   have hns49_2 := NBql_qh.out
   have hns49_3 := NBqy_qh.out
   have hms49_1 := NBqh_qi.out
   have hms49_2 := NBqh_ql.out
   have hms49_3 := NBqh_qy.out
   have hs50 : w48.cell? ⟨gbqh, 1, none⟩ = some (.slice none 0 0) := (ya BKqh.out 1).trans rfl
   have hfs50 := yl BKqh.out 1
   have hns50_1 := NBqi_qh.out
   have hns50_2 := NBql_qh.out
   have hns50_3 := NBqy_qh.out
   have hms50_1 := NBqh_qi.out
   have hms50_2 := NBqh_ql.out
   have hms50_3 := NBqh_qy.out
   refine ybU (w1 := ?_) (by rfl) rfl ?_ ?_
   rotate_left
   ·go_simp
    rfl
   refine hK.out _ _ ⟨((ym (p := ⟨gbqh, _, none⟩) NBql_qh.out _).trans (((ym (p := ⟨gbqh, _, none⟩) NBql_qh.out _).trans (hHeld.1)))), ((ym (p := ⟨gbqh, _, none⟩) NBql_qh.out _).trans (((ym (p := ⟨gbqh, _, none⟩) NBql_qh.out _).trans (hHeld.2.1)))), ((ym (p := ⟨gbqh, _, none⟩) NBqy_qh.out _).trans (((ym (p := ⟨gbqh, _, none⟩) NBqy_qh.out _).trans (hHeld.2.2.1)))), ((ym (p := ⟨gbqh, _, none⟩) NBqy_qh.out _).trans (((ym (p := ⟨gbqh, _, none⟩) NBqy_qh.out _).trans (hHeld.2.2.2))))⟩ (fun hHeld => ?_)
   clear hK K
   refine onN (i := 3) (N := none) (h := fun K hK => ?_)
   have hs51 : w48.cell? ⟨gbqi, 0, none⟩ = some (.int .i64 0) := (ya BKqi.out 0).trans rfl
   have hfs51 := yl BKqi.out 0
   have hns51_0 := NBqh_qi.out
   have hns51_2 := NBql_qi.out
   have hns51_3 := NBqy_qi.out
   have hms51_0 := NBqi_qh.out
   have hms51_2 := NBqi_ql.out
   have hms51_3 := NBqi_qy.out
   have hs52 : w48.cell? ⟨gbqi, 1, none⟩ = some (.slice none 0 0) := (ya BKqi.out 1).trans rfl
   have hfs52 := yl BKqi.out 1
   have hns52_0 := NBqh_qi.out
   have hns52_2 := NBql_qi.out
   have hns52_3 := NBqy_qi.out
   have hms52_0 := NBqi_qh.out
   have hms52_2 := NBqi_ql.out
   have hms52_3 := NBqi_qy.out
   refine ybU (w1 := ?_) (by rfl) rfl ?_ ?_
   rotate_left
   ·go_simp
    rfl
   refine hK.out _ _ ⟨((ym (p := ⟨gbqi, _, none⟩) NBql_qi.out _).trans (((ym (p := ⟨gbqi, _, none⟩) NBql_qi.out _).trans (hHeld.1)))), ((ym (p := ⟨gbqi, _, none⟩) NBql_qi.out _).trans (((ym (p := ⟨gbqi, _, none⟩) NBql_qi.out _).trans (hHeld.2.1)))), ((ym (p := ⟨gbqi, _, none⟩) NBqy_qi.out _).trans (((ym (p := ⟨gbqi, _, none⟩) NBqy_qi.out _).trans (hHeld.2.2.1)))), ((ym (p := ⟨gbqi, _, none⟩) NBqy_qi.out _).trans (((ym (p := ⟨gbqi, _, none⟩) NBqy_qi.out _).trans (hHeld.2.2.2))))⟩ (fun hHeld => ?_)
   clear hK K
   refine ybs (by kernel_rfl) ?_
   try go_wp2
   refine bodyPost_ret (yce rfl _ _ gbqh gbqi 28 28 #[.int .i64 tq0, .slice Ao35 tq9.length co35] #[.int .i64 tq5, .slice Ao45 tqs.length co45] (0, 0) (0, 0) _ _ rfl (by refine pkx ?_; refine yj ?_ NBqh_qi.out _; refine pkx ?_; refine yj ?_ NBqh_qi.out _; refine pkx ?_; refine yh (cs := #[.int .i64 tq0, .slice none 0 0]) ?_ 1 _ rfl; refine pkx ?_; refine yh (cs := #[.int .i64 0, .slice none 0 0]) ?_ 0 _ rfl; refine pkx ?_; exact BKqh.out) Try.underlying28 rfl (by kernel_rfl) rfl (by refine pkx ?_; refine yh (cs := #[.int .i64 tq5, .slice none 0 0]) ?_ 1 _ rfl; refine pkx ?_; refine yh (cs := #[.int .i64 0, .slice none 0 0]) ?_ 0 _ rfl; refine pkx ?_; refine yj ?_ NBqi_qh.out _; refine pkx ?_; refine yj ?_ NBqi_qh.out _; refine pkx ?_; exact BKqi.out) Try.underlying28 rfl (by kernel_rfl)) rfl ?_
   exact ⟨_, _, by first | rfl | (simp [errW_none, yi] <;> rfl) | (simp [*, errW_none, yi] <;> rfl), by refine pRx ?_; exact Kd.R_mono (Kd.R_far (p := ⟨gbqi, 1, none⟩) (Kd.R_far (p := ⟨gbqi, 0, none⟩) (Kd.R_far (p := ⟨gbqh, 1, none⟩) (Kd.R_far (p := ⟨gbqh, 0, none⟩) (Kd.R_types (Kd.R_types HOqk.out BKqh.out (by decide)) BKqi.out (by decide)) (fun _ hk => hk.1.2) (.int .i64 tq0)) (fun _ hk => hk.1.2) (.slice Ao35 tq9.length co35)) (fun _ hk => hk.2) (.int .i64 tq5)) (fun _ hk => hk.2) (.slice Ao45 tqs.length co45)) (fun _ hk => hk.1.1.2), by refine pRx ?_; exact Kd.R_mono (Kd.R_far (p := ⟨gbqi, 1, none⟩) (Kd.R_far (p := ⟨gbqi, 0, none⟩) (Kd.R_far (p := ⟨gbqh, 1, none⟩) (Kd.R_far (p := ⟨gbqh, 0, none⟩) (Kd.R_types (Kd.R_types HOqx.out BKqh.out (by decide)) BKqi.out (by decide)) (fun _ hk => hk.1.2) (.int .i64 tq0)) (fun _ hk => hk.1.2) (.slice Ao35 tq9.length co35)) (fun _ hk => hk.2) (.int .i64 tq5)) (fun _ hk => hk.2) (.slice Ao45 tqs.length co45)) (fun _ hk => hk.1.1.1), pi_ HI0, pbI HB, pq HK⟩
  ·rw [if_neg c24] at H
   have c24b0 : (tq3 == 0) = false := beq_eq_false_iff_ne.mpr c24
   have c24b1 : (tq3 != 0) = true := bne_iff_ne.mpr c24
   by_cases c53 : tq3 = 1
   ·rw [if_pos c53] at H
    have c53b0 : (tq3 == 1) = true := beq_iff_eq.mpr c53
    have c53b1 : (tq3 != 1) = false := bne_eq_false_iff_eq.mpr c53
    clear c53
    replace H := bo H; obtain ⟨⟨tq6, tqz, tq10⟩, A54, H⟩ := H
    (try dsimp only at H)
    replace H := bo H; obtain ⟨⟨tq7, tq11⟩, A55, H⟩ := H
    (try dsimp only at H)
    simp only [Option.some.injEq, Prod.mk.injEq] at H
    obtain ⟨rfl, rfl, rfl, rfl, rfl, rfl⟩ := H
    go_enter Try.func76, Try.ntmps76
    try go_wp2_with (first | ((with_reducible refine yb (N := 2) rfl ?_); refine bx 2 #[.int .i64 0, .slice none 0 0] 28 ?_; intro gbqh hg w56 hbox hb; replace HB := bsI HB hb; have BKqh := aQ (hbox); have GWqh := gw HK hg; have GEqh := ge HK HW0 hg; replace HK := kt HK hb; have NB0_qh := nI HI0 hg; have NBqh_0 := mI HI0 hg; replace HI0 := bI HI0 hb; clear hb hbox hg) | ((with_reducible refine yb (N := 3) rfl ?_); refine bx 3 #[.int .i64 0, .slice none 0 0] 28 ?_; intro gbqi hg w57 hbox hb; replace HB := bsI HB hb; have BKqi := aQ (hbox); have GWqi := gw HK hg; have GEqi := ge HK HW0 hg; replace HK := kt HK hb; have NBqh_qi := nl BKqh hg; have NBqi_qh := ng BKqh hg; replace BKqh := bb BKqh hb; have NB0_qi := nI HI0 hg; have NBqi_0 := mI HI0 hg; replace HI0 := bI HI0 hb; clear hb hbox hg) | (refine gq 129 (some 8) Try.func129 #[.pointer (some ⟨g, 0, none⟩), .int .i64 6] ?_; (with_reducible refine (yaK.calls k g s0_0 s0_1 s0_2 6 tq0 tq9 tqa tqb w0 _ ?side1 ?side2 A2.out).mono ?_); (case side1 => exact pi_ HI0); (case side2 => exact pbI HB); rintro e w58 ⟨vqj, rfl, ho0, hi, hb, hk⟩; refine ⟨_, rfl, ?_⟩; replace BKqh := kk BKqh hk NBqh_0.out; replace BKqi := kk BKqi hk NBqi_0.out; have HOqk := aQ (Kd.R_lower ho0 (yR (w := w) (g := g) (row := none) (pq HK))); replace HK := kh HK hk; replace HB := aQ (hb); replace HI0 := aQ (hi); (try clear hb); (try clear hk); (try clear hi); (try clear ho0)) | ((with_reducible refine yb (N := 4) rfl ?_); refine bx 4 #[.int .i64 0, .slice none 0 0] 28 ?_; intro gbql hg w59 hbox hb; replace HOqk := aQ (Kd.R_below (pR HOqk.out) hb); replace HB := bsI HB hb; have BKql := aQ (hbox); have GWql := gw HK hg; have GEql := ge HK HW0 hg; replace HK := kt HK hb; have NBqh_ql := nl BKqh hg; have NBql_qh := ng BKqh hg; replace BKqh := bb BKqh hb; have NBqi_ql := nl BKqi hg; have NBql_qi := ng BKqi hg; replace BKqi := bb BKqi hb; have NB0_ql := nI HI0 hg; have NBql_0 := mI HI0 hg; replace HI0 := bI HI0 hb; clear hb hbox hg; have hnb60 := NBql_qh.out; have hnc60 := NBqh_ql.out; have hnb61 := NBql_qi.out; have hnc61 := NBqi_ql.out; have hnb62 := NBql_0.out; have hnc62 := NB0_ql.out; obtain ⟨hcz63_0, hcz63_1, hfz63_0, hfz63_1⟩ := c2 BKql; obtain ⟨Ao64, co64, eo64⟩ := Kd.R_slice HOqk.out; subst eo64) | (refine gq 89 (some 10) Try.func89 #[.pointer (some ⟨g, 0, none⟩), .int .i64 12] ?_; (with_reducible refine (ya3.calls g s0_0 tqa tqb 12 false tqc tqd w0 _ ?side1 ?side2 A3.out).mono ?_); (case side1 => exact pi_ HI0); (case side2 => exact pbI HB); rintro e w65 ⟨rfl, hi, hb, hk⟩; refine ⟨_, rfl, ?_⟩; replace BKqh := aQ (KeepBut.blk hk (g' := gbqh) (o := .cells #[.int .i64 0, .slice none 0 0] 28 (0, 0)) (by refine pkx ?_; refine yj ?_ NBqh_ql.out _; refine pkx ?_; refine yj ?_ NBqh_ql.out _; refine pkx ?_; exact BKqh.out) NBqh_0.out (by simp)); replace BKqi := aQ (KeepBut.blk hk (g' := gbqi) (o := .cells #[.int .i64 0, .slice none 0 0] 28 (0, 0)) (by refine pkx ?_; refine yj ?_ NBqi_ql.out _; refine pkx ?_; refine yj ?_ NBqi_ql.out _; refine pkx ?_; exact BKqi.out) NBqi_0.out (by simp)); replace HOqk := aQ (Kd.R_mono (Kd.R_keep (IsS106.apart (show IsS106 w0 _ g s0_0 tqa tqb from pi_ HI0) (by refine pRx ?_; exact (Kd.R_mono (Kd.R_far (p := ⟨gbql, 1, none⟩) (Kd.R_far (p := ⟨gbql, 0, none⟩) (Kd.R_types HOqk.out BKql.out (by decide)) (fun _ hk => hk.2) (.int .i64 tq0)) (fun _ hk => hk.2) (.slice Ao64 tq9.length co64)) (fun _ h_ => h_.1))) (by decide)) hk (fun _ h => h.2)) (fun _ h => h.1)); replace BKql := aQ (KeepBut.blk hk (g' := gbql) (o := .cells #[.int .i64 tq0, .slice Ao64 tq9.length co64] 28 (0, 0)) (by refine pkx ?_; refine yh (cs := #[.int .i64 tq0, .slice none 0 0]) ?_ 1 _ rfl; refine pkx ?_; refine yh (cs := #[.int .i64 0, .slice none 0 0]) ?_ 0 _ rfl; refine pkx ?_; exact BKql.out) NBql_0.out (by simp)); replace HK := kh HK hk; replace HB := aQ (hb); replace HI0 := aQ (hi); (try clear hb); (try clear hk); (try clear hi)) | (refine gq 91 (some 15) Try.func91 #[.pointer (some ⟨g, 0, none⟩), .int .i64 3] ?_; (with_reducible refine (yk.calls g s0_0 tqc tqd 3 tq3 tqo tqp w0 _ ?side1 ?side2 A23.out).mono ?_); (case side1 => exact pi_ HI0); (case side2 => exact pbI HB); rintro e w66 ⟨rfl, hi, hb, hk⟩; refine ⟨_, rfl, ?_⟩; replace BKqh := kk BKqh hk NBqh_0.out; replace BKqi := kk BKqi hk NBqi_0.out; replace HOqk := aQ (Kd.R_mono (Kd.R_keep (IsS106.apart (show IsS106 w0 _ g s0_0 tqc tqd from pi_ HI0) (pR HOqk.out) (by decide)) hk (fun _ h => h.2)) (fun _ h => h.1)); replace BKql := kk BKql hk NBql_0.out; replace HK := kh HK hk; replace HB := aQ (hb); replace HI0 := aQ (hi); (try clear hb); (try clear hk); (try clear hi)))
    replace HOqk := aQ (Kd.R_drew HOqk.out); replace BKqh := aQ (yF BKqh.out); replace BKqi := aQ (yF BKqi.out); replace BKql := aQ (yF BKql.out); replace HI0 := aQ (IsS106.drew HI0.out); replace HK := aQ (ybx HK.out); replace HB := aQ (yK HB.out)
    refine ya0 (n := 10) (S := fun w' => w'.cell? ⟨gbql, 0, none⟩ = some (.int .i64 tq0) ∧ w'.cell? ⟨gbql, 1, none⟩ = some (.slice Ao64 tq9.length co64)) (ds := []) _ (by kernel_rfl) rfl rfl ⟨(ya BKql.out 0).trans rfl, (ya BKql.out 1).trans rfl⟩ (fun hHeld => ?_); refine yaw yai.tab9 yai.bits9 (fun HT_ HW_ => ?_)
    generalize w66.drew = w67 at HOqk BKqh BKqi BKql HI0 HK HB hHeld ⊢
    refine pA 1 (some 32) HT_ ?_
    refine pA 3 (some 34) HT_ ?_
    refine pA 4 (some 35) HT_ ?_
    refine tA2 0 (some 31) HT_ HW_ hHeld ?_
    refine tA2 2 (some 33) HT_ HW_ hHeld ?_
    refine tA2 5 (some 36) HT_ HW_ hHeld ?_
    refine onA (i := 6) (N := some 37) HT_ (h := fun K hK => ?_)
    refine gs Try.func133 #[.pointer (some ⟨g, 0, none⟩), .int .i64 tq0] ?_
    with_reducible refine (yaq.calls k g s0_0 tqo tqp tq0 tq6 tqz tq10 w0 _ ?side1 ?side2 A54.out).mono ?_
    (case side1 => exact pi_ HI0)
    (case side2 => exact pbI HB)
    rintro e w68 ⟨vq12, rfl, ho0, hi, hb, hk⟩
    refine ⟨_, rfl, ?_⟩
    replace BKqh := kk BKqh hk NBqh_0.out; replace BKqi := kk BKqi hk NBqi_0.out; replace BKql := kk BKql hk NBql_0.out; have HOq13 := aQ (Kd.R_lower (Kd.R_new' ho0 (Kd.R_lt (pR HOqk.out))) (yR (w := w) (g := g) (row := none) (pq HK))); replace HOqk := aQ (Kd.R_mono (Kd.R_told (Kd.R_oldK (IsS106.apart (show IsS106 w0 _ g s0_0 tqo tqp from pi_ HI0) (pR HOqk.out) (by decide)) hk) (Kd.R_base ho0)) (fun _ h_ => h_.1)); replace HK := kh HK hk; replace HB := aQ (hb); replace HI0 := aQ (hi)
    (try clear hb)
    (try clear hb2)
    (try clear hk)
    (try clear hi)
    (try clear ho0)
    obtain ⟨Ao69, co69, eo69⟩ := Kd.R_slice HOq13.out
    (first | subst eo69 | (injection eo69 with f1_ f2_ f3_; have f4_ := f1_.symm; have f5_ := f3_.symm; clear f1_ f2_ f3_; subst f4_; subst f5_))
    refine hK.out _ _ ⟨(ya BKql.out 0).trans rfl, (ya BKql.out 1).trans rfl⟩ (fun hHeld => ?_)
    clear hK K
    refine noN (some 37) (h := ?_)
    refine onA (i := 7) (N := some 38) HT_ (h := fun K hK => ?_)
    refine gs Try.func49 #[.int .i64 tq0, .slice Ao69 tq6.length co69] ?_
    with_reducible refine (yag.calls k tq0 _ _ tq6 tq7 tq11 _ ?side1 ?side2 A55.out).mono ?_
    (case side1 => exact pC ((Kd.R_reads' HOq13.out).2.2))
    (case side2 => exact (Kd.R_reads' HOq13.out).2.1)
    rintro e w70 ⟨vq14, rfl, ho0, hb⟩
    refine ⟨_, rfl, ?_⟩
    have HOq15 := aQ (Kd.R_lower (Kd.R_new' (Kd.R_new' ho0 (Kd.R_lt (pR HOqk.out))) (Kd.R_lt (pR HOq13.out))) (yR (w := w) (g := g) (row := none) (pq HK))); replace HOqk := aQ (Kd.R_elder' (pR HOqk.out) (Kd.R_base ho0) hb); replace HOq13 := aQ (Kd.R_elder' (pR HOq13.out) (Kd.R_base ho0) hb); replace HI0 := bI HI0 hb; replace BKqh := bb BKqh hb; replace BKqi := bb BKqi hb; replace BKql := bb BKql hb; replace HK := kt HK hb; replace HB := bsI HB hb
    (try clear hb)
    (try clear hb2)
    (try clear hk)
    (try clear hi)
    (try clear ho0)
    obtain ⟨Ao74, co74, eo74⟩ := Kd.R_slice HOq15.out
    (first | subst eo74 | (injection eo74 with f1_ f2_ f3_; have f4_ := f1_.symm; have f5_ := f3_.symm; clear f1_ f2_ f3_; subst f4_; subst f5_))
    refine hK.out _ _ ⟨(ya BKql.out 0).trans rfl, (ya BKql.out 1).trans rfl⟩ (fun hHeld => ?_)
    clear hK K
    refine noN (some 38) (h := ?_)
    refine onA (i := 8) (N := none) HT_ (h := fun K hK => ?_)
    have hs71 : w70.cell? ⟨gbqh, 0, none⟩ = some (.int .i64 0) := (ya BKqh.out 0).trans rfl
    have hfs71 := yl BKqh.out 0
    have hns71_1 := NBqi_qh.out
    have hns71_2 := NBql_qh.out
    have hms71_1 := NBqh_qi.out
    have hms71_2 := NBqh_ql.out
    have hs72 : w70.cell? ⟨gbqh, 1, none⟩ = some (.slice none 0 0) := (ya BKqh.out 1).trans rfl
    have hfs72 := yl BKqh.out 1
    have hns72_1 := NBqi_qh.out
    have hns72_2 := NBql_qh.out
    have hms72_1 := NBqh_qi.out
    have hms72_2 := NBqh_ql.out
    refine ybU (w1 := ?_) (by rfl) rfl ?_ ?_
    rotate_left
    ·go_simp
     rfl
    refine hK.out _ _ ⟨((ym (p := ⟨gbqh, _, none⟩) NBql_qh.out _).trans (((ym (p := ⟨gbqh, _, none⟩) NBql_qh.out _).trans (hHeld.1)))), ((ym (p := ⟨gbqh, _, none⟩) NBql_qh.out _).trans (((ym (p := ⟨gbqh, _, none⟩) NBql_qh.out _).trans (hHeld.2))))⟩ (fun hHeld => ?_)
    clear hK K
    refine onA (i := 9) (N := none) HT_ (h := fun K hK => ?_)
    have hs73 : w70.cell? ⟨gbqi, 0, none⟩ = some (.int .i64 0) := (ya BKqi.out 0).trans rfl
    have hfs73 := yl BKqi.out 0
    have hns73_0 := NBqh_qi.out
    have hns73_2 := NBql_qi.out
    have hms73_0 := NBqi_qh.out
    have hms73_2 := NBqi_ql.out
    have hs75 : w70.cell? ⟨gbqi, 1, none⟩ = some (.slice none 0 0) := (ya BKqi.out 1).trans rfl
    have hfs75 := yl BKqi.out 1
    have hns75_0 := NBqh_qi.out
    have hns75_2 := NBql_qi.out
    have hms75_0 := NBqi_qh.out
    have hms75_2 := NBqi_ql.out
    refine ybU (w1 := ?_) (by rfl) rfl ?_ ?_
    rotate_left
    ·go_simp
     rfl
    refine hK.out _ _ ⟨((ym (p := ⟨gbqi, _, none⟩) NBql_qi.out _).trans (((ym (p := ⟨gbqi, _, none⟩) NBql_qi.out _).trans (hHeld.1)))), ((ym (p := ⟨gbqi, _, none⟩) NBql_qi.out _).trans (((ym (p := ⟨gbqi, _, none⟩) NBql_qi.out _).trans (hHeld.2))))⟩ (fun hHeld => ?_)
    clear hK K
    refine ybs (yaZ HT_.out (by kernel_rfl)) ?_
    try go_wp2
    refine bodyPost_ret (yce rfl _ _ gbqh gbqi 28 28 #[.int .i64 tq0, .slice Ao64 tq9.length co64] #[.int .i64 tq7, .slice Ao74 tq11.length co74] (0, 0) (0, 0) _ _ rfl (by refine pkx ?_; refine yj ?_ NBqh_qi.out _; refine pkx ?_; refine yj ?_ NBqh_qi.out _; refine pkx ?_; refine yh (cs := #[.int .i64 tq0, .slice none 0 0]) ?_ 1 _ rfl; refine pkx ?_; refine yh (cs := #[.int .i64 0, .slice none 0 0]) ?_ 0 _ rfl; refine pkx ?_; exact BKqh.out) Try.underlying28 rfl (by kernel_rfl) rfl (by refine pkx ?_; refine yh (cs := #[.int .i64 tq7, .slice none 0 0]) ?_ 1 _ rfl; refine pkx ?_; refine yh (cs := #[.int .i64 0, .slice none 0 0]) ?_ 0 _ rfl; refine pkx ?_; refine yj ?_ NBqi_qh.out _; refine pkx ?_; refine yj ?_ NBqi_qh.out _; refine pkx ?_; exact BKqi.out) Try.underlying28 rfl (by kernel_rfl)) rfl ?_
    exact ⟨_, _, by first | rfl | (simp [errW_none, yi] <;> rfl) | (simp [*, errW_none, yi] <;> rfl), by refine pRx ?_; exact Kd.R_mono (Kd.R_far (p := ⟨gbqi, 1, none⟩) (Kd.R_far (p := ⟨gbqi, 0, none⟩) (Kd.R_far (p := ⟨gbqh, 1, none⟩) (Kd.R_far (p := ⟨gbqh, 0, none⟩) (Kd.R_types (Kd.R_types HOqk.out BKqh.out (by decide)) BKqi.out (by decide)) (fun _ hk => hk.1.2) (.int .i64 tq0)) (fun _ hk => hk.1.2) (.slice Ao64 tq9.length co64)) (fun _ hk => hk.2) (.int .i64 tq7)) (fun _ hk => hk.2) (.slice Ao74 tq11.length co74)) (fun _ hk => hk.1.1.2), by refine pRx ?_; exact Kd.R_mono (Kd.R_far (p := ⟨gbqi, 1, none⟩) (Kd.R_far (p := ⟨gbqi, 0, none⟩) (Kd.R_far (p := ⟨gbqh, 1, none⟩) (Kd.R_far (p := ⟨gbqh, 0, none⟩) (Kd.R_types (Kd.R_types HOq15.out BKqh.out (by decide)) BKqi.out (by decide)) (fun _ hk => hk.1.2) (.int .i64 tq0)) (fun _ hk => hk.1.2) (.slice Ao64 tq9.length co64)) (fun _ hk => hk.2) (.int .i64 tq7)) (fun _ hk => hk.2) (.slice Ao74 tq11.length co74)) (fun _ hk => hk.1.1.1.2), pi_ HI0, pbI HB, pq HK⟩
   ·rw [if_neg c53] at H
    have c53b0 : (tq3 == 1) = false := beq_eq_false_iff_ne.mpr c53
    have c53b1 : (tq3 != 1) = true := bne_iff_ne.mpr c53
    replace H := bo H; obtain ⟨⟨tq8, tq16, tq17, tq18⟩, A76, H⟩ := H
    (try dsimp only at H)
    simp only [Option.some.injEq, Prod.mk.injEq] at H
    obtain ⟨rfl, rfl, rfl, rfl, rfl, rfl⟩ := H
    go_enter Try.func76, Try.ntmps76
    try go_wp2_with (first | ((with_reducible refine yb (N := 2) rfl ?_); refine bx 2 #[.int .i64 0, .slice none 0 0] 28 ?_; intro gbqh hg w77 hbox hb; replace HB := bsI HB hb; have BKqh := aQ (hbox); have GWqh := gw HK hg; have GEqh := ge HK HW0 hg; replace HK := kt HK hb; have NB0_qh := nI HI0 hg; have NBqh_0 := mI HI0 hg; replace HI0 := bI HI0 hb; clear hb hbox hg) | ((with_reducible refine yb (N := 3) rfl ?_); refine bx 3 #[.int .i64 0, .slice none 0 0] 28 ?_; intro gbqi hg w78 hbox hb; replace HB := bsI HB hb; have BKqi := aQ (hbox); have GWqi := gw HK hg; have GEqi := ge HK HW0 hg; replace HK := kt HK hb; have NBqh_qi := nl BKqh hg; have NBqi_qh := ng BKqh hg; replace BKqh := bb BKqh hb; have NB0_qi := nI HI0 hg; have NBqi_0 := mI HI0 hg; replace HI0 := bI HI0 hb; clear hb hbox hg) | (refine gq 129 (some 8) Try.func129 #[.pointer (some ⟨g, 0, none⟩), .int .i64 6] ?_; (with_reducible refine (yaK.calls k g s0_0 s0_1 s0_2 6 tq0 tq9 tqa tqb w0 _ ?side1 ?side2 A2.out).mono ?_); (case side1 => exact pi_ HI0); (case side2 => exact pbI HB); rintro e w79 ⟨vqj, rfl, ho0, hi, hb, hk⟩; refine ⟨_, rfl, ?_⟩; replace BKqh := kk BKqh hk NBqh_0.out; replace BKqi := kk BKqi hk NBqi_0.out; have HOqk := aQ (Kd.R_lower ho0 (yR (w := w) (g := g) (row := none) (pq HK))); replace HK := kh HK hk; replace HB := aQ (hb); replace HI0 := aQ (hi); (try clear hb); (try clear hk); (try clear hi); (try clear ho0)) | ((with_reducible refine yb (N := 4) rfl ?_); refine bx 4 #[.int .i64 0, .slice none 0 0] 28 ?_; intro gbql hg w80 hbox hb; replace HOqk := aQ (Kd.R_below (pR HOqk.out) hb); replace HB := bsI HB hb; have BKql := aQ (hbox); have GWql := gw HK hg; have GEql := ge HK HW0 hg; replace HK := kt HK hb; have NBqh_ql := nl BKqh hg; have NBql_qh := ng BKqh hg; replace BKqh := bb BKqh hb; have NBqi_ql := nl BKqi hg; have NBql_qi := ng BKqi hg; replace BKqi := bb BKqi hb; have NB0_ql := nI HI0 hg; have NBql_0 := mI HI0 hg; replace HI0 := bI HI0 hb; clear hb hbox hg; have hnb81 := NBql_qh.out; have hnc81 := NBqh_ql.out; have hnb82 := NBql_qi.out; have hnc82 := NBqi_ql.out; have hnb83 := NBql_0.out; have hnc83 := NB0_ql.out; obtain ⟨hcz84_0, hcz84_1, hfz84_0, hfz84_1⟩ := c2 BKql; obtain ⟨Ao85, co85, eo85⟩ := Kd.R_slice HOqk.out; subst eo85) | (refine gq 89 (some 10) Try.func89 #[.pointer (some ⟨g, 0, none⟩), .int .i64 12] ?_; (with_reducible refine (ya3.calls g s0_0 tqa tqb 12 false tqc tqd w0 _ ?side1 ?side2 A3.out).mono ?_); (case side1 => exact pi_ HI0); (case side2 => exact pbI HB); rintro e w86 ⟨rfl, hi, hb, hk⟩; refine ⟨_, rfl, ?_⟩; replace BKqh := aQ (KeepBut.blk hk (g' := gbqh) (o := .cells #[.int .i64 0, .slice none 0 0] 28 (0, 0)) (by refine pkx ?_; refine yj ?_ NBqh_ql.out _; refine pkx ?_; refine yj ?_ NBqh_ql.out _; refine pkx ?_; exact BKqh.out) NBqh_0.out (by simp)); replace BKqi := aQ (KeepBut.blk hk (g' := gbqi) (o := .cells #[.int .i64 0, .slice none 0 0] 28 (0, 0)) (by refine pkx ?_; refine yj ?_ NBqi_ql.out _; refine pkx ?_; refine yj ?_ NBqi_ql.out _; refine pkx ?_; exact BKqi.out) NBqi_0.out (by simp)); replace HOqk := aQ (Kd.R_mono (Kd.R_keep (IsS106.apart (show IsS106 w0 _ g s0_0 tqa tqb from pi_ HI0) (by refine pRx ?_; exact (Kd.R_mono (Kd.R_far (p := ⟨gbql, 1, none⟩) (Kd.R_far (p := ⟨gbql, 0, none⟩) (Kd.R_types HOqk.out BKql.out (by decide)) (fun _ hk => hk.2) (.int .i64 tq0)) (fun _ hk => hk.2) (.slice Ao85 tq9.length co85)) (fun _ h_ => h_.1))) (by decide)) hk (fun _ h => h.2)) (fun _ h => h.1)); replace BKql := aQ (KeepBut.blk hk (g' := gbql) (o := .cells #[.int .i64 tq0, .slice Ao85 tq9.length co85] 28 (0, 0)) (by refine pkx ?_; refine yh (cs := #[.int .i64 tq0, .slice none 0 0]) ?_ 1 _ rfl; refine pkx ?_; refine yh (cs := #[.int .i64 0, .slice none 0 0]) ?_ 0 _ rfl; refine pkx ?_; exact BKql.out) NBql_0.out (by simp)); replace HK := kh HK hk; replace HB := aQ (hb); replace HI0 := aQ (hi); (try clear hb); (try clear hk); (try clear hi)) | (refine gq 91 (some 15) Try.func91 #[.pointer (some ⟨g, 0, none⟩), .int .i64 3] ?_; (with_reducible refine (yk.calls g s0_0 tqc tqd 3 tq3 tqo tqp w0 _ ?side1 ?side2 A23.out).mono ?_); (case side1 => exact pi_ HI0); (case side2 => exact pbI HB); rintro e w87 ⟨rfl, hi, hb, hk⟩; refine ⟨_, rfl, ?_⟩; replace BKqh := kk BKqh hk NBqh_0.out; replace BKqi := kk BKqi hk NBqi_0.out; replace HOqk := aQ (Kd.R_mono (Kd.R_keep (IsS106.apart (show IsS106 w0 _ g s0_0 tqc tqd from pi_ HI0) (pR HOqk.out) (by decide)) hk (fun _ h => h.2)) (fun _ h => h.1)); replace BKql := kk BKql hk NBql_0.out; replace HK := kh HK hk; replace HB := aQ (hb); replace HI0 := aQ (hi); (try clear hb); (try clear hk); (try clear hi)))
    replace HOqk := aQ (Kd.R_drew HOqk.out); replace BKqh := aQ (yF BKqh.out); replace BKqi := aQ (yF BKqi.out); replace BKql := aQ (yF BKql.out); replace HI0 := aQ (IsS106.drew HI0.out); replace HK := aQ (ybx HK.out); replace HB := aQ (yK HB.out)
    refine ya0 (n := 7) (S := fun w' => w'.cell? ⟨gbql, 0, none⟩ = some (.int .i64 tq0) ∧ w'.cell? ⟨gbql, 1, none⟩ = some (.slice Ao85 tq9.length co85)) (ds := []) _ (by kernel_rfl) rfl rfl ⟨(ya BKql.out 0).trans rfl, (ya BKql.out 1).trans rfl⟩ (fun hHeld => ?_)
    generalize w87.drew = w88 at HOqk BKqh BKqi BKql HI0 HK HB hHeld ⊢
    refine pN 1 (some 40) ?_
    refine pN 2 (some 41) ?_
    refine tN2 0 (some 39) hHeld ?_
    refine tN2 3 (some 42) hHeld ?_
    refine onN (i := 4) (N := some 43) (h := fun K hK => ?_)
    refine gs Try.func134 #[.pointer (some ⟨g, 0, none⟩), .int .i64 tq0] ?_
    with_reducible refine (yX.calls k g s0_0 tqo tqp tq0 tq8 tq16 tq17 tq18 w0 _ ?side1 ?side2 A76.out).mono ?_
    (case side1 => exact pi_ HI0)
    (case side2 => exact pbI HB)
    rintro e w89 ⟨vq19, rfl, ho0, hi, hb, hk⟩
    refine ⟨_, rfl, ?_⟩
    replace BKqh := kk BKqh hk NBqh_0.out; replace BKqi := kk BKqi hk NBqi_0.out; replace BKql := kk BKql hk NBql_0.out; have HOq1a := aQ (Kd.R_lower (Kd.R_new' ho0 (Kd.R_lt (pR HOqk.out))) (yR (w := w) (g := g) (row := none) (pq HK))); replace HOqk := aQ (Kd.R_mono (Kd.R_told (Kd.R_oldK (IsS106.apart (show IsS106 w0 _ g s0_0 tqo tqp from pi_ HI0) (pR HOqk.out) (by decide)) hk) (Kd.R_base ho0)) (fun _ h_ => h_.1)); replace HK := kh HK hk; replace HB := aQ (hb); replace HI0 := aQ (hi)
    (try clear hb)
    (try clear hb2)
    (try clear hk)
    (try clear hi)
    (try clear ho0)
    obtain ⟨Ao93, co93, eo93⟩ := Kd.R_slice HOq1a.out
    (first | subst eo93 | (injection eo93 with f1_ f2_ f3_; have f4_ := f1_.symm; have f5_ := f3_.symm; clear f1_ f2_ f3_; subst f4_; subst f5_))
    refine hK.out _ _ ⟨(ya BKql.out 0).trans rfl, (ya BKql.out 1).trans rfl⟩ (fun hHeld => ?_)
    clear hK K
    refine noN (some 43) (h := ?_)
    refine onN (i := 5) (N := none) (h := fun K hK => ?_)
    have hs90 : w89.cell? ⟨gbqh, 0, none⟩ = some (.int .i64 0) := (ya BKqh.out 0).trans rfl
    have hfs90 := yl BKqh.out 0
    have hns90_1 := NBqi_qh.out
    have hns90_2 := NBql_qh.out
    have hms90_1 := NBqh_qi.out
    have hms90_2 := NBqh_ql.out
    have hs91 : w89.cell? ⟨gbqh, 1, none⟩ = some (.slice none 0 0) := (ya BKqh.out 1).trans rfl
    have hfs91 := yl BKqh.out 1
    have hns91_1 := NBqi_qh.out
    have hns91_2 := NBql_qh.out
    have hms91_1 := NBqh_qi.out
    have hms91_2 := NBqh_ql.out
    refine ybU (w1 := ?_) (by rfl) rfl ?_ ?_
    rotate_left
    ·go_simp
     rfl
    refine hK.out _ _ ⟨((ym (p := ⟨gbqh, _, none⟩) NBql_qh.out _).trans (((ym (p := ⟨gbqh, _, none⟩) NBql_qh.out _).trans (hHeld.1)))), ((ym (p := ⟨gbqh, _, none⟩) NBql_qh.out _).trans (((ym (p := ⟨gbqh, _, none⟩) NBql_qh.out _).trans (hHeld.2))))⟩ (fun hHeld => ?_)
    clear hK K
    refine onN (i := 6) (N := none) (h := fun K hK => ?_)
    have hs92 : w89.cell? ⟨gbqi, 0, none⟩ = some (.int .i64 0) := (ya BKqi.out 0).trans rfl
    have hfs92 := yl BKqi.out 0
    have hns92_0 := NBqh_qi.out
    have hns92_2 := NBql_qi.out
    have hms92_0 := NBqi_qh.out
    have hms92_2 := NBqi_ql.out
    have hs94 : w89.cell? ⟨gbqi, 1, none⟩ = some (.slice none 0 0) := (ya BKqi.out 1).trans rfl
    have hfs94 := yl BKqi.out 1
    have hns94_0 := NBqh_qi.out
    have hns94_2 := NBql_qi.out
    have hms94_0 := NBqi_qh.out
    have hms94_2 := NBqi_ql.out
    refine ybU (w1 := ?_) (by rfl) rfl ?_ ?_
    rotate_left
    ·go_simp
     rfl
    refine hK.out _ _ ⟨((ym (p := ⟨gbqi, _, none⟩) NBql_qi.out _).trans (((ym (p := ⟨gbqi, _, none⟩) NBql_qi.out _).trans (hHeld.1)))), ((ym (p := ⟨gbqi, _, none⟩) NBql_qi.out _).trans (((ym (p := ⟨gbqi, _, none⟩) NBql_qi.out _).trans (hHeld.2))))⟩ (fun hHeld => ?_)
    clear hK K
    refine ybs (by kernel_rfl) ?_
    try go_wp2
    refine bodyPost_ret (yce rfl _ _ gbqh gbqi 28 28 #[.int .i64 tq0, .slice Ao85 tq9.length co85] #[.int .i64 tq8, .slice Ao93 tq16.length co93] (0, 0) (0, 0) _ _ rfl (by refine pkx ?_; refine yj ?_ NBqh_qi.out _; refine pkx ?_; refine yj ?_ NBqh_qi.out _; refine pkx ?_; refine yh (cs := #[.int .i64 tq0, .slice none 0 0]) ?_ 1 _ rfl; refine pkx ?_; refine yh (cs := #[.int .i64 0, .slice none 0 0]) ?_ 0 _ rfl; refine pkx ?_; exact BKqh.out) Try.underlying28 rfl (by kernel_rfl) rfl (by refine pkx ?_; refine yh (cs := #[.int .i64 tq8, .slice none 0 0]) ?_ 1 _ rfl; refine pkx ?_; refine yh (cs := #[.int .i64 0, .slice none 0 0]) ?_ 0 _ rfl; refine pkx ?_; refine yj ?_ NBqi_qh.out _; refine pkx ?_; refine yj ?_ NBqi_qh.out _; refine pkx ?_; exact BKqi.out) Try.underlying28 rfl (by kernel_rfl)) rfl ?_
    exact ⟨_, _, by first | rfl | (simp [errW_none, yi] <;> rfl) | (simp [*, errW_none, yi] <;> rfl), by refine pRx ?_; exact Kd.R_mono (Kd.R_far (p := ⟨gbqi, 1, none⟩) (Kd.R_far (p := ⟨gbqi, 0, none⟩) (Kd.R_far (p := ⟨gbqh, 1, none⟩) (Kd.R_far (p := ⟨gbqh, 0, none⟩) (Kd.R_types (Kd.R_types HOqk.out BKqh.out (by decide)) BKqi.out (by decide)) (fun _ hk => hk.1.2) (.int .i64 tq0)) (fun _ hk => hk.1.2) (.slice Ao85 tq9.length co85)) (fun _ hk => hk.2) (.int .i64 tq8)) (fun _ hk => hk.2) (.slice Ao93 tq16.length co93)) (fun _ hk => hk.1.1.2), by refine pRx ?_; exact Kd.R_mono (Kd.R_far (p := ⟨gbqi, 1, none⟩) (Kd.R_far (p := ⟨gbqi, 0, none⟩) (Kd.R_far (p := ⟨gbqh, 1, none⟩) (Kd.R_far (p := ⟨gbqh, 0, none⟩) (Kd.R_types (Kd.R_types HOq1a.out BKqh.out (by decide)) BKqi.out (by decide)) (fun _ hk => hk.1.2) (.int .i64 tq0)) (fun _ hk => hk.1.2) (.slice Ao85 tq9.length co85)) (fun _ hk => hk.2) (.int .i64 tq8)) (fun _ hk => hk.2) (.slice Ao93 tq16.length co93)) (fun _ hk => hk.1.1.2), pi_ HI0, pbI HB, pq HK⟩
def yaD.f (k : Nat) (l0 : List Int) : Option (Int × List Int × Int × List Int) := (yaQ.f k l0).bind fun btq0 => ((yai.f k btq0.1 btq0.2.1 btq0.2.2).bind fun btq1 => (some (btq1.1, btq1.2.1, btq1.2.2.1, btq1.2.2.2.1)))
theorem yaD.calls (k : Nat) (A0 : Option Addr) (c0 : Nat) (l0 : List Int) (r1 : Int) (r2 : List Int) (r3 : Int) (r4 : List Int) (w : World) (hr0 : Kd.C (Kd.int .u8) w A0 l0.length l0) (hc0 : l0.length ≤ c0) (h : yaD.f k l0 = some (r1, r2, r3, r4)) :
  Calls Try.prog 23 #[.slice A0 l0.length c0] w fun e w' => ∃ v1_ v3_ : Value, e = .returned (.tuple #[.agg #[.int .i64 r1, v1_], .agg #[.int .i64 r3, v3_]]) ∧ Kd.R (Kd.int .i64) 3 w' w.heap.size (fun k_ => some k_ ≠ (v3_ : Value).ownBlock) v1_ r2 ∧ Kd.R (Kd.int .i64) 3 w' w.heap.size (fun k_ => some k_ ≠ (v1_ : Value).ownBlock) v3_ r4 ∧ Below w.heap.size w w' := by
 have hu28 := Try.underlying28
 have HR0 := aQ hr0
 have HC0 := aQ hc0
 clear hr0 hc0
 have HB := aQ (Below.refl w.heap.size w)
 have H := h
 clear h
 unfold yaD.f at H
 (try dsimp only at H)
 replace H := bo H; obtain ⟨⟨tq0, tq2, tq3⟩, A2, H⟩ := H
 (try dsimp only at H)
 replace H := bo H; obtain ⟨⟨tq1, tq4, tq5, tq6, tq7, tq8⟩, A3, H⟩ := H
 (try dsimp only at H)
 simp only [Option.some.injEq, Prod.mk.injEq] at H
 obtain ⟨rfl, rfl, rfl, rfl⟩ := H
 go_enter Try.func23, Try.ntmps23
 try go_wp2_with (first | ((with_reducible refine yb (N := 2) rfl ?_); refine bx 2 #[.int .i64 0, .slice none 0 0] 28 ?_; intro gbq9 hg w4 hbox hb; have BKq9 := aQ (hbox); have GWq9 := gB HB hg; have GEq9 := gB HB hg; replace HB := bs HB hb; clear hb hbox hg) | ((with_reducible refine yb (N := 3) rfl ?_); refine bx 3 #[.int .i64 0, .slice none 0 0] 28 ?_; intro gbqa hg w5 hbox hb; have BKqa := aQ (hbox); have GWqa := gB HB hg; have GEqa := gB HB hg; replace HB := bs HB hb; have NBq9_qa := nl BKq9 hg; have NBqa_q9 := ng BKq9 hg; replace BKq9 := bb BKq9 hb; clear hb hbox hg) | (refine gq 77 (some 8) Try.func77 #[.slice A0 l0.length c0] ?_; (with_reducible refine (yaQ.calls k _ _ l0 tq0 tq2 tq3 w _ ?side1 ?side2 ?side3 A2.out).mono ?_); (case side1 => exact pb HB); (case side2 => exact HR0.out); (case side3 => exact HC0.out); rintro e w6 ⟨gqb, rfl, hi, hb, hb2⟩; refine ⟨_, rfl, ?_⟩; replace HB := aQ (hb); have HIqb := aQ (hi); have NBqb_q9 := aQ (IsS106.ne_blk hi (yab (g := gbq9) (o := .cells #[.int .i64 0, .slice none 0 0] 28 (0, 0)) (pk BKq9.out) hb2) (by decide)); have NBq9_qb := aQ (Ne.symm (IsS106.ne_blk hi (yab (g := gbq9) (o := .cells #[.int .i64 0, .slice none 0 0] 28 (0, 0)) (pk BKq9.out) hb2) (by decide))); replace BKq9 := aQ (yab (g := gbq9) (o := .cells #[.int .i64 0, .slice none 0 0] 28 (0, 0)) (pk BKq9.out) hb2); have NBqb_qa := aQ (IsS106.ne_blk hi (yab (g := gbqa) (o := .cells #[.int .i64 0, .slice none 0 0] 28 (0, 0)) (pk BKqa.out) hb2) (by decide)); have NBqa_qb := aQ (Ne.symm (IsS106.ne_blk hi (yab (g := gbqa) (o := .cells #[.int .i64 0, .slice none 0 0] 28 (0, 0)) (pk BKqa.out) hb2) (by decide))); replace BKqa := aQ (yab (g := gbqa) (o := .cells #[.int .i64 0, .slice none 0 0] 28 (0, 0)) (pk BKqa.out) hb2); (try clear hb); (try clear hb2); (try clear hi)) | (refine gq 76 (some 9) Try.func76 #[.pointer (some ⟨gqb, 0, none⟩)] ?_; (with_reducible refine (yai.calls k gqb tq0 tq2 tq3 tq1 tq4 tq5 tq6 tq7 tq8 w _ ?side1 ?side2 A3.out).mono ?_); (case side1 => exact pi_ HIqb); (case side2 => exact pbI HB); rintro e w7 ⟨vqc, vqd, rfl, ho0, ho1, hi, hb, hk⟩; refine ⟨_, rfl, ?_⟩; replace BKq9 := kk BKq9 hk NBq9_qb.out; replace BKqa := kk BKqa hk NBqa_qb.out; have HOqe := aQ (Kd.R_lower ho0 (yc (pbI HB))); have HOqf := aQ (Kd.R_lower ho1 (yc (pbI HB))); replace HB := aQ (hb); replace HIqb := aQ (hi); (try clear hb); (try clear hk); (try clear hi); (try clear ho0); (try clear ho1)) | ((with_reducible refine yb (N := 4) rfl ?_); refine bx 4 #[.int .i64 0, .slice none 0 0] 28 ?_; intro gbqg hg w8 hbox hb; replace HOqe := aQ (Kd.R_below (pR HOqe.out) hb); replace HOqf := aQ (Kd.R_below (pR HOqf.out) hb); have BKqg := aQ (hbox); have GWqg := aQ ((by rw [hg]; exact (yc (pbI HB)) : w.heap.size ≤ gbqg)); have GEqg := aQ ((by rw [hg]; exact (yc (pbI HB)) : w.heap.size ≤ gbqg)); replace HB := bsI HB hb; have NBq9_qg := nl BKq9 hg; have NBqg_q9 := ng BKq9 hg; replace BKq9 := bb BKq9 hb; have NBqa_qg := nl BKqa hg; have NBqg_qa := ng BKqa hg; replace BKqa := bb BKqa hb; have NBqb_qg := aQ ((by rw [hg]; exact Nat.ne_of_lt (IsS106.lt (show IsS106 w _ gqb tq0 tq7 tq8 from pi_ HIqb)) : gqb ≠ gbqg)); have NBqg_qb := aQ ((by rw [hg]; exact Nat.ne_of_gt (IsS106.lt (show IsS106 w _ gqb tq0 tq7 tq8 from pi_ HIqb)) : gbqg ≠ gqb)); replace HIqb := aQ (IsS106.below (pi_ HIqb) hb); clear hb hbox hg) | ((with_reducible refine yb (N := 5) rfl ?_); refine bx 5 #[.int .i64 0, .slice none 0 0] 28 ?_; intro gbqh hg w9 hbox hb; replace HOqe := aQ (Kd.R_below (pR HOqe.out) hb); replace HOqf := aQ (Kd.R_below (pR HOqf.out) hb); have BKqh := aQ (hbox); have GWqh := aQ ((by rw [hg]; exact (yc (pbI HB)) : w.heap.size ≤ gbqh)); have GEqh := aQ ((by rw [hg]; exact (yc (pbI HB)) : w.heap.size ≤ gbqh)); replace HB := bsI HB hb; have NBq9_qh := nl BKq9 hg; have NBqh_q9 := ng BKq9 hg; replace BKq9 := bb BKq9 hb; have NBqa_qh := nl BKqa hg; have NBqh_qa := ng BKqa hg; replace BKqa := bb BKqa hb; have NBqg_qh := nl BKqg hg; have NBqh_qg := ng BKqg hg; replace BKqg := bb BKqg hb; have NBqb_qh := aQ ((by rw [hg]; exact Nat.ne_of_lt (IsS106.lt (show IsS106 w _ gqb tq0 tq7 tq8 from pi_ HIqb)) : gqb ≠ gbqh)); have NBqh_qb := aQ ((by rw [hg]; exact Nat.ne_of_gt (IsS106.lt (show IsS106 w _ gqb tq0 tq7 tq8 from pi_ HIqb)) : gbqh ≠ gqb)); replace HIqb := aQ (IsS106.below (pi_ HIqb) hb); clear hb hbox hg; have hnb10 := NBqg_q9.out; have hnc10 := NBq9_qg.out; have hnb11 := NBqg_qa.out; have hnc11 := NBqa_qg.out; have hnb12 := NBqg_qh.out; have hnc12 := NBqh_qg.out; have hnb13 := NBqg_qb.out; have hnc13 := NBqb_qg.out; obtain ⟨hcz14_0, hcz14_1, hfz14_0, hfz14_1⟩ := c2 BKqg; obtain ⟨Ao15, co15, eo15⟩ := Kd.R_slice HOqe.out; subst eo15; have hnb16 := NBqh_q9.out; have hnc16 := NBq9_qh.out; have hnb17 := NBqh_qa.out; have hnc17 := NBqa_qh.out; have hnb18 := NBqh_qb.out; have hnc18 := NBqb_qh.out; obtain ⟨hcz19_0, hcz19_1, hfz19_0, hfz19_1⟩ := c2 BKqh; obtain ⟨Ao20, co20, eo20⟩ := Kd.R_slice HOqf.out; subst eo20))
 have n0_ : Aside0 (Kd.R (Kd.int .i64) 3 ((((w9.setCell ⟨gbqg, 0, none⟩ (.int .i64 tq1)).setCell ⟨gbqg, 1, none⟩ (.slice Ao15 tq4.length co15)).setCell ⟨gbqh, 0, none⟩ (.int .i64 tq5)).setCell ⟨gbqh, 1, none⟩ (.slice Ao20 tq6.length co20)) w.heap.size (fun k_ => some k_ ≠ (.slice Ao20 tq6.length co20 : Value).ownBlock) (.slice Ao15 tq4.length co15) tq4) := ⟨by refine pRx ?_; exact Kd.R_mono (Kd.R_far (p := ⟨gbqh, 1, none⟩) (Kd.R_far (p := ⟨gbqh, 0, none⟩) (Kd.R_far (p := ⟨gbqg, 1, none⟩) (Kd.R_far (p := ⟨gbqg, 0, none⟩) (Kd.R_types (Kd.R_types HOqe.out BKqg.out (by decide)) BKqh.out (by decide)) (fun _ hk => hk.1.2) (.int .i64 tq1)) (fun _ hk => hk.1.2) (.slice Ao15 tq4.length co15)) (fun _ hk => hk.2) (.int .i64 tq5)) (fun _ hk => hk.2) (.slice Ao20 tq6.length co20)) (fun _ hk => hk.1.1)⟩
 have n1_ : Aside0 (Kd.R (Kd.int .i64) 3 ((((w9.setCell ⟨gbqg, 0, none⟩ (.int .i64 tq1)).setCell ⟨gbqg, 1, none⟩ (.slice Ao15 tq4.length co15)).setCell ⟨gbqh, 0, none⟩ (.int .i64 tq5)).setCell ⟨gbqh, 1, none⟩ (.slice Ao20 tq6.length co20)) w.heap.size (fun k_ => some k_ ≠ (.slice Ao15 tq4.length co15 : Value).ownBlock) (.slice Ao20 tq6.length co20) tq6) := ⟨by refine pRx ?_; exact Kd.R_mono (Kd.R_far (p := ⟨gbqh, 1, none⟩) (Kd.R_far (p := ⟨gbqh, 0, none⟩) (Kd.R_far (p := ⟨gbqg, 1, none⟩) (Kd.R_far (p := ⟨gbqg, 0, none⟩) (Kd.R_types (Kd.R_types HOqf.out BKqg.out (by decide)) BKqh.out (by decide)) (fun _ hk => hk.1.2) (.int .i64 tq1)) (fun _ hk => hk.1.2) (.slice Ao15 tq4.length co15)) (fun _ hk => hk.2) (.int .i64 tq5)) (fun _ hk => hk.2) (.slice Ao20 tq6.length co20)) (fun _ hk => hk.1.1)⟩
 have n2_ : Aside0 (((((w9.setCell ⟨gbqg, 0, none⟩ (.int .i64 tq1)).setCell ⟨gbqg, 1, none⟩ (.slice Ao15 tq4.length co15)).setCell ⟨gbqh, 0, none⟩ (.int .i64 tq5)).setCell ⟨gbqh, 1, none⟩ (.slice Ao20 tq6.length co20)).heap[gbq9]? = some (.cells #[.int .i64 0, .slice none 0 0] 28 (0, 0))) := ⟨by refine pkx ?_; refine yj ?_ NBq9_qh.out _; refine pkx ?_; refine yj ?_ NBq9_qh.out _; refine pkx ?_; refine yj ?_ NBq9_qg.out _; refine pkx ?_; refine yj ?_ NBq9_qg.out _; refine pkx ?_; exact BKq9.out⟩
 have n3_ : Aside0 (((((w9.setCell ⟨gbqg, 0, none⟩ (.int .i64 tq1)).setCell ⟨gbqg, 1, none⟩ (.slice Ao15 tq4.length co15)).setCell ⟨gbqh, 0, none⟩ (.int .i64 tq5)).setCell ⟨gbqh, 1, none⟩ (.slice Ao20 tq6.length co20)).heap[gbqa]? = some (.cells #[.int .i64 0, .slice none 0 0] 28 (0, 0))) := ⟨by refine pkx ?_; refine yj ?_ NBqa_qh.out _; refine pkx ?_; refine yj ?_ NBqa_qh.out _; refine pkx ?_; refine yj ?_ NBqa_qg.out _; refine pkx ?_; refine yj ?_ NBqa_qg.out _; refine pkx ?_; exact BKqa.out⟩
 have n4_ : Aside0 (((((w9.setCell ⟨gbqg, 0, none⟩ (.int .i64 tq1)).setCell ⟨gbqg, 1, none⟩ (.slice Ao15 tq4.length co15)).setCell ⟨gbqh, 0, none⟩ (.int .i64 tq5)).setCell ⟨gbqh, 1, none⟩ (.slice Ao20 tq6.length co20)).heap[gbqg]? = some (.cells #[.int .i64 tq1, .slice Ao15 tq4.length co15] 28 (0, 0))) := ⟨by refine pkx ?_; refine yj ?_ NBqg_qh.out _; refine pkx ?_; refine yj ?_ NBqg_qh.out _; refine pkx ?_; refine yh (cs := #[.int .i64 tq1, .slice none 0 0]) ?_ 1 _ rfl; refine pkx ?_; refine yh (cs := #[.int .i64 0, .slice none 0 0]) ?_ 0 _ rfl; refine pkx ?_; exact BKqg.out⟩
 have n5_ : Aside0 (((((w9.setCell ⟨gbqg, 0, none⟩ (.int .i64 tq1)).setCell ⟨gbqg, 1, none⟩ (.slice Ao15 tq4.length co15)).setCell ⟨gbqh, 0, none⟩ (.int .i64 tq5)).setCell ⟨gbqh, 1, none⟩ (.slice Ao20 tq6.length co20)).heap[gbqh]? = some (.cells #[.int .i64 tq5, .slice Ao20 tq6.length co20] 28 (0, 0))) := ⟨by refine pkx ?_; refine yh (cs := #[.int .i64 tq5, .slice none 0 0]) ?_ 1 _ rfl; refine pkx ?_; refine yh (cs := #[.int .i64 0, .slice none 0 0]) ?_ 0 _ rfl; refine pkx ?_; refine yj ?_ NBqh_qg.out _; refine pkx ?_; refine yj ?_ NBqh_qg.out _; refine pkx ?_; exact BKqh.out⟩
 have n6_ : Aside0 (IsS106 w ((((w9.setCell ⟨gbqg, 0, none⟩ (.int .i64 tq1)).setCell ⟨gbqg, 1, none⟩ (.slice Ao15 tq4.length co15)).setCell ⟨gbqh, 0, none⟩ (.int .i64 tq5)).setCell ⟨gbqh, 1, none⟩ (.slice Ao20 tq6.length co20)) gqb tq0 tq7 tq8) := ⟨pi_ HIqb⟩
 have n7_ : Aside0 (Below w.heap.size w ((((w9.setCell ⟨gbqg, 0, none⟩ (.int .i64 tq1)).setCell ⟨gbqg, 1, none⟩ (.slice Ao15 tq4.length co15)).setCell ⟨gbqh, 0, none⟩ (.int .i64 tq5)).setCell ⟨gbqh, 1, none⟩ (.slice Ao20 tq6.length co20))) := ⟨pbI HB⟩
 (try clear HOqe)
 (try clear HOqf)
 (try clear BKq9)
 (try clear BKqa)
 (try clear BKqg)
 (try clear BKqh)
 (try clear HIqb)
 (try clear HB)
 generalize ((((w9.setCell ⟨gbqg, 0, none⟩ (.int .i64 tq1)).setCell ⟨gbqg, 1, none⟩ (.slice Ao15 tq4.length co15)).setCell ⟨gbqh, 0, none⟩ (.int .i64 tq5)).setCell ⟨gbqh, 1, none⟩ (.slice Ao20 tq6.length co20)) = w21 at n0_ n1_ n2_ n3_ n4_ n5_ n6_ n7_ ⊢
 have HOqe := n0_
 have HOqf := n1_
 have BKq9 := n2_
 have BKqa := n3_
 have BKqg := n4_
 have BKqh := n5_
 have HIqb := n6_
 have HB := n7_
 clear n0_ n1_ n2_ n3_ n4_ n5_ n6_ n7_
 replace HOqe := aQ (Kd.R_drew HOqe.out); replace HOqf := aQ (Kd.R_drew HOqf.out); replace BKq9 := aQ (yF BKq9.out); replace BKqa := aQ (yF BKqa.out); replace BKqg := aQ (yF BKqg.out); replace BKqh := aQ (yF BKqh.out); replace HIqb := aQ (IsS106.drew HIqb.out); replace HB := aQ (yK HB.out)
 refine ya0 (n := 4) (S := fun w' => w'.cell? ⟨gbqg, 0, none⟩ = some (.int .i64 tq1) ∧ w'.cell? ⟨gbqg, 1, none⟩ = some (.slice Ao15 tq4.length co15) ∧ w'.cell? ⟨gbqh, 0, none⟩ = some (.int .i64 tq5) ∧ w'.cell? ⟨gbqh, 1, none⟩ = some (.slice Ao20 tq6.length co20)) (ds := []) _ (by kernel_rfl) rfl rfl ⟨(ya BKqg.out 0).trans rfl, (ya BKqg.out 1).trans rfl, (ya BKqh.out 0).trans rfl, (ya BKqh.out 1).trans rfl⟩ (fun hHeld => ?_)
 generalize w21.drew = w22 at HOqe HOqf BKq9 BKqa BKqg BKqh HIqb HB hHeld ⊢
 refine tN4 0 (some 12) hHeld ?_
 refine tN4 1 (some 13) hHeld ?_
 refine onN (i := 2) (N := none) (h := fun K hK => ?_)
 have hs23 : w22.cell? ⟨gbq9, 0, none⟩ = some (.int .i64 0) := (ya BKq9.out 0).trans rfl
 have hfs23 := yl BKq9.out 0
 have hns23_1 := NBqa_q9.out
 have hns23_2 := NBqg_q9.out
 have hns23_3 := NBqh_q9.out
 have hms23_1 := NBq9_qa.out
 have hms23_2 := NBq9_qg.out
 have hms23_3 := NBq9_qh.out
 have hs24 : w22.cell? ⟨gbq9, 1, none⟩ = some (.slice none 0 0) := (ya BKq9.out 1).trans rfl
 have hfs24 := yl BKq9.out 1
 have hns24_1 := NBqa_q9.out
 have hns24_2 := NBqg_q9.out
 have hns24_3 := NBqh_q9.out
 have hms24_1 := NBq9_qa.out
 have hms24_2 := NBq9_qg.out
 have hms24_3 := NBq9_qh.out
 refine ybU (w1 := ?_) (by rfl) rfl ?_ ?_
 rotate_left
 ·go_simp
  rfl
 refine hK.out _ _ ⟨((ym (p := ⟨gbq9, _, none⟩) NBqg_q9.out _).trans (((ym (p := ⟨gbq9, _, none⟩) NBqg_q9.out _).trans (hHeld.1)))), ((ym (p := ⟨gbq9, _, none⟩) NBqg_q9.out _).trans (((ym (p := ⟨gbq9, _, none⟩) NBqg_q9.out _).trans (hHeld.2.1)))), ((ym (p := ⟨gbq9, _, none⟩) NBqh_q9.out _).trans (((ym (p := ⟨gbq9, _, none⟩) NBqh_q9.out _).trans (hHeld.2.2.1)))), ((ym (p := ⟨gbq9, _, none⟩) NBqh_q9.out _).trans (((ym (p := ⟨gbq9, _, none⟩) NBqh_q9.out _).trans (hHeld.2.2.2))))⟩ (fun hHeld => ?_)
 clear hK K
 refine onN (i := 3) (N := none) (h := fun K hK => ?_)
 have hs25 : w22.cell? ⟨gbqa, 0, none⟩ = some (.int .i64 0) := (ya BKqa.out 0).trans rfl
 have hfs25 := yl BKqa.out 0
 have hns25_0 := NBq9_qa.out
 have hns25_2 := NBqg_qa.out
 have hns25_3 := NBqh_qa.out
 have hms25_0 := NBqa_q9.out
 have hms25_2 := NBqa_qg.out
 have hms25_3 := NBqa_qh.out
 have hs26 : w22.cell? ⟨gbqa, 1, none⟩ = some (.slice none 0 0) := (ya BKqa.out 1).trans rfl
 have hfs26 := yl BKqa.out 1
 have hns26_0 := NBq9_qa.out
 have hns26_2 := NBqg_qa.out
 have hns26_3 := NBqh_qa.out
 have hms26_0 := NBqa_q9.out
 have hms26_2 := NBqa_qg.out
 have hms26_3 := NBqa_qh.out
 refine ybU (w1 := ?_) (by rfl) rfl ?_ ?_
 rotate_left
 ·go_simp
  rfl
 refine hK.out _ _ ⟨((ym (p := ⟨gbqa, _, none⟩) NBqg_qa.out _).trans (((ym (p := ⟨gbqa, _, none⟩) NBqg_qa.out _).trans (hHeld.1)))), ((ym (p := ⟨gbqa, _, none⟩) NBqg_qa.out _).trans (((ym (p := ⟨gbqa, _, none⟩) NBqg_qa.out _).trans (hHeld.2.1)))), ((ym (p := ⟨gbqa, _, none⟩) NBqh_qa.out _).trans (((ym (p := ⟨gbqa, _, none⟩) NBqh_qa.out _).trans (hHeld.2.2.1)))), ((ym (p := ⟨gbqa, _, none⟩) NBqh_qa.out _).trans (((ym (p := ⟨gbqa, _, none⟩) NBqh_qa.out _).trans (hHeld.2.2.2))))⟩ (fun hHeld => ?_)
 clear hK K
 refine ybs (by kernel_rfl) ?_
 try go_wp2
 refine bodyPost_ret (yce rfl _ _ gbq9 gbqa 28 28 #[.int .i64 tq1, .slice Ao15 tq4.length co15] #[.int .i64 tq5, .slice Ao20 tq6.length co20] (0, 0) (0, 0) _ _ rfl (by refine pkx ?_; refine yj ?_ NBq9_qa.out _; refine pkx ?_; refine yj ?_ NBq9_qa.out _; refine pkx ?_; refine yh (cs := #[.int .i64 tq1, .slice none 0 0]) ?_ 1 _ rfl; refine pkx ?_; refine yh (cs := #[.int .i64 0, .slice none 0 0]) ?_ 0 _ rfl; refine pkx ?_; exact BKq9.out) Try.underlying28 rfl (by kernel_rfl) rfl (by refine pkx ?_; refine yh (cs := #[.int .i64 tq5, .slice none 0 0]) ?_ 1 _ rfl; refine pkx ?_; refine yh (cs := #[.int .i64 0, .slice none 0 0]) ?_ 0 _ rfl; refine pkx ?_; refine yj ?_ NBqa_q9.out _; refine pkx ?_; refine yj ?_ NBqa_q9.out _; refine pkx ?_; exact BKqa.out) Try.underlying28 rfl (by kernel_rfl)) rfl ?_
 exact ⟨_, _, by first | rfl | (simp [errW_none, yi] <;> rfl) | (simp [*, errW_none, yi] <;> rfl), by refine pRx ?_; exact Kd.R_mono (Kd.R_far (p := ⟨gbqa, 1, none⟩) (Kd.R_far (p := ⟨gbqa, 0, none⟩) (Kd.R_far (p := ⟨gbq9, 1, none⟩) (Kd.R_far (p := ⟨gbq9, 0, none⟩) (Kd.R_types (Kd.R_types HOqe.out BKq9.out (by decide)) BKqa.out (by decide)) (fun _ hk => hk.1.2) (.int .i64 tq1)) (fun _ hk => hk.1.2) (.slice Ao15 tq4.length co15)) (fun _ hk => hk.2) (.int .i64 tq5)) (fun _ hk => hk.2) (.slice Ao20 tq6.length co20)) (fun _ hk => hk.1.1), by refine pRx ?_; exact Kd.R_mono (Kd.R_far (p := ⟨gbqa, 1, none⟩) (Kd.R_far (p := ⟨gbqa, 0, none⟩) (Kd.R_far (p := ⟨gbq9, 1, none⟩) (Kd.R_far (p := ⟨gbq9, 0, none⟩) (Kd.R_types (Kd.R_types HOqf.out BKq9.out (by decide)) BKqa.out (by decide)) (fun _ hk => hk.1.2) (.int .i64 tq1)) (fun _ hk => hk.1.2) (.slice Ao15 tq4.length co15)) (fun _ hk => hk.2) (.int .i64 tq5)) (fun _ hk => hk.2) (.slice Ao20 tq6.length co20)) (fun _ hk => hk.1.1), pbI HB⟩
def yaE.f (k : Nat) (a0_0 : Int) (l0_1 : List Int) (a1_0 : Int) (l1_1 : List Int) : Option (Bool) := (yaN.f k a0_0 l0_1).bind fun tq0 => (if tq0 = true then ((yaN.f k a1_0 l1_1).bind fun tq1 => (if tq1 = true then (some (a0_0 == a1_0)) else (some false))) else (some false))
theorem yaE.calls (k : Nat) (a0_0 : Int) (A0_1 : Option Addr) (c0_1 : Nat) (l0_1 : List Int) (a1_0 : Int) (A1_1 : Option Addr) (c1_1 : Nat) (l1_1 : List Int) (r : Bool) (w : World) (hr0_1 : Kd.C (Kd.int .i64) w A0_1 l0_1.length l0_1) (hc0_1 : l0_1.length ≤ c0_1) (hr1_1 : Kd.C (Kd.int .i64) w A1_1 l1_1.length l1_1) (hc1_1 : l1_1.length ≤ c1_1) (h : yaE.f k a0_0 l0_1 a1_0 l1_1 = some r) :
  Calls Try.prog 78 #[.agg #[.int .i64 a0_0, .slice A0_1 l0_1.length c0_1], .agg #[.int .i64 a1_0, .slice A1_1 l1_1.length c1_1]] w fun e w' => e = .returned (.bool r) ∧ Below w.heap.size w w' := by
 have hu28 := Try.underlying28
 have HR0_1 := aQ hr0_1
 have HC0_1 := aQ hc0_1
 clear hr0_1 hc0_1
 have HR1_1 := aQ hr1_1
 have HC1_1 := aQ hc1_1
 clear hr1_1 hc1_1
 have HB := aQ (Below.refl w.heap.size w)
 have H := h
 clear h
 unfold yaE.f at H
 (try dsimp only at H)
 replace H := bo H; obtain ⟨tq0, A3, H⟩ := H
 (try dsimp only at H)
 by_cases c4 : tq0 = true
 ·subst c4
  rw [if_pos rfl] at H
  replace H := bo H; obtain ⟨tq1, A5, H⟩ := H
  (try dsimp only at H)
  by_cases c6 : tq1 = true
  ·subst c6
   rw [if_pos rfl] at H
   obtain rfl := Option.some.inj H
   go_enter Try.func78, Try.ntmps78
   go_wp2_with (first | ((with_reducible refine yb (N := 2) rfl ?_); refine bx 2 #[.int .i64 a0_0, .slice A0_1 l0_1.length c0_1] 28 ?_; intro gbq2 hg w7 hbox hb; have BKq2 := aQ (hbox); have GWq2 := gB HB hg; have GEq2 := gB HB hg; replace HB := bs HB hb; clear hb hbox hg) | ((with_reducible refine yb (N := 3) rfl ?_); refine bx 3 #[.int .i64 a1_0, .slice A1_1 l1_1.length c1_1] 28 ?_; intro gbq3 hg w8 hbox hb; have BKq3 := aQ (hbox); have GWq3 := gB HB hg; have GEq3 := gB HB hg; replace HB := bs HB hb; have NBq2_q3 := nl BKq2 hg; have NBq3_q2 := ng BKq2 hg; replace BKq2 := bb BKq2 hb; clear hb hbox hg; have hnb9 := NBq2_q3.out; have hnc9 := NBq3_q2.out; obtain ⟨hcz10_0, hcz10_1, hfz10_0, hfz10_1⟩ := c2 BKq2) | (refine gq 62 (some 6) Try.func62 #[.agg #[.int .i64 a0_0, .slice A0_1 l0_1.length c0_1]] ?_; (with_reducible refine (yaN.calls k a0_0 _ _ l0_1 true _ ?side1 ?side2 A3.out).mono ?_); (case side1 => exact pC (Kd.C_below HR0_1.out HB.out)); (case side2 => exact HC0_1.out); rintro e w11 ⟨rfl, hb⟩; refine ⟨_, rfl, ?_⟩; replace BKq2 := bb BKq2 hb; replace BKq3 := bb BKq3 hb; replace HB := bs HB hb; (try clear hb); obtain ⟨hcz12_0, hcz12_1, hfz12_0, hfz12_1⟩ := c2 BKq3) | (go_at_call 62; (with_reducible refine (yaN.calls k a1_0 _ _ l1_1 true _ ?side1 ?side2 A5.out).mono ?_); (case side1 => exact pC (Kd.C_below HR1_1.out HB.out)); (case side2 => exact HC1_1.out); rintro e w13 ⟨rfl, hb⟩; replace BKq2 := bb BKq2 hb; replace BKq3 := bb BKq3 hb; replace HB := bs HB hb; (try clear hb); obtain ⟨hcz14_0, hcz14_1, hfz14_0, hfz14_1⟩ := c2 BKq2; obtain ⟨hcz15_0, hcz15_1, hfz15_0, hfz15_1⟩ := c2 BKq3))
   go_ret
   exact ⟨re_, pB2 HB.out GEq2.out GEq3.out⟩
  ·replace c6 := Bool.eq_false_iff.mpr c6
   subst c6
   have H1 : (some false) = some r := by rw [if_neg (show ¬ (false = true) by decide)] at H; exact H
   clear H
   have H := H1
   clear H1
   obtain rfl := Option.some.inj H
   go_enter Try.func78, Try.ntmps78
   go_wp2_with (first | ((with_reducible refine yb (N := 2) rfl ?_); refine bx 2 #[.int .i64 a0_0, .slice A0_1 l0_1.length c0_1] 28 ?_; intro gbq2 hg w16 hbox hb; have BKq2 := aQ (hbox); have GWq2 := gB HB hg; have GEq2 := gB HB hg; replace HB := bs HB hb; clear hb hbox hg) | ((with_reducible refine yb (N := 3) rfl ?_); refine bx 3 #[.int .i64 a1_0, .slice A1_1 l1_1.length c1_1] 28 ?_; intro gbq3 hg w17 hbox hb; have BKq3 := aQ (hbox); have GWq3 := gB HB hg; have GEq3 := gB HB hg; replace HB := bs HB hb; have NBq2_q3 := nl BKq2 hg; have NBq3_q2 := ng BKq2 hg; replace BKq2 := bb BKq2 hb; clear hb hbox hg; have hnb18 := NBq2_q3.out; have hnc18 := NBq3_q2.out; obtain ⟨hcz19_0, hcz19_1, hfz19_0, hfz19_1⟩ := c2 BKq2) | (refine gq 62 (some 6) Try.func62 #[.agg #[.int .i64 a0_0, .slice A0_1 l0_1.length c0_1]] ?_; (with_reducible refine (yaN.calls k a0_0 _ _ l0_1 true _ ?side1 ?side2 A3.out).mono ?_); (case side1 => exact pC (Kd.C_below HR0_1.out HB.out)); (case side2 => exact HC0_1.out); rintro e w20 ⟨rfl, hb⟩; refine ⟨_, rfl, ?_⟩; replace BKq2 := bb BKq2 hb; replace BKq3 := bb BKq3 hb; replace HB := bs HB hb; (try clear hb); obtain ⟨hcz21_0, hcz21_1, hfz21_0, hfz21_1⟩ := c2 BKq3) | (go_at_call 62; (with_reducible refine (yaN.calls k a1_0 _ _ l1_1 false _ ?side1 ?side2 A5.out).mono ?_); (case side1 => exact pC (Kd.C_below HR1_1.out HB.out)); (case side2 => exact HC1_1.out); rintro e w22 ⟨rfl, hb⟩; replace BKq2 := bb BKq2 hb; replace BKq3 := bb BKq3 hb; replace HB := bs HB hb; (try clear hb)))
   go_ret
   exact ⟨re_, pB2 HB.out GEq2.out GEq3.out⟩
 ·replace c4 := Bool.eq_false_iff.mpr c4
  subst c4
  have H1 : (some false) = some r := by rw [if_neg (show ¬ (false = true) by decide)] at H; exact H
  clear H
  have H := H1
  clear H1
  obtain rfl := Option.some.inj H
  go_enter Try.func78, Try.ntmps78
  go_wp2_with (first | ((with_reducible refine yb (N := 2) rfl ?_); refine bx 2 #[.int .i64 a0_0, .slice A0_1 l0_1.length c0_1] 28 ?_; intro gbq2 hg w23 hbox hb; have BKq2 := aQ (hbox); have GWq2 := gB HB hg; have GEq2 := gB HB hg; replace HB := bs HB hb; clear hb hbox hg) | ((with_reducible refine yb (N := 3) rfl ?_); refine bx 3 #[.int .i64 a1_0, .slice A1_1 l1_1.length c1_1] 28 ?_; intro gbq3 hg w24 hbox hb; have BKq3 := aQ (hbox); have GWq3 := gB HB hg; have GEq3 := gB HB hg; replace HB := bs HB hb; have NBq2_q3 := nl BKq2 hg; have NBq3_q2 := ng BKq2 hg; replace BKq2 := bb BKq2 hb; clear hb hbox hg; have hnb25 := NBq2_q3.out; have hnc25 := NBq3_q2.out; obtain ⟨hcz26_0, hcz26_1, hfz26_0, hfz26_1⟩ := c2 BKq2) | (refine gq 62 (some 6) Try.func62 #[.agg #[.int .i64 a0_0, .slice A0_1 l0_1.length c0_1]] ?_; (with_reducible refine (yaN.calls k a0_0 _ _ l0_1 false _ ?side1 ?side2 A3.out).mono ?_); (case side1 => exact pC (Kd.C_below HR0_1.out HB.out)); (case side2 => exact HC0_1.out); rintro e w27 ⟨rfl, hb⟩; refine ⟨_, rfl, ?_⟩; replace BKq2 := bb BKq2 hb; replace BKq3 := bb BKq3 hb; replace HB := bs HB hb; (try clear hb)))
  go_ret
  exact ⟨re_, pB2 HB.out GEq2.out GEq3.out⟩
def yp.l0 : Nat → Int → List Int → Int → Int → Option (Bool)
 | 0, _, _, _, _ => none
 | k + 1, x1, x8, x9, x10 => if x10 < x9 then (if 0 ≤ x10 then (if x10 < (x8.length : Int) then ((ybr.f x1 (rd x8 x10)).bind fun tq0 => (if tq0 = true then (some true) else (yp.l0 k x1 x8 x9 (wrap64 (x10 + 1))))) else (none)) else (none)) else (some false)
def yp.f (k : Nat) (a0_0 : Int) (l0_1 : List Int) (a1 : Int) : Option (Bool) := yp.l0 k a1 l0_1 (l0_1.length : Int) 0
theorem yp.mono_l : ∀ k, (∀ y0 y1 y2 y3, LeO (yp.l0 k y0 y1 y2 y3) (yp.l0 (k + 1) y0 y1 y2 y3))
 | 0 => fun _ _ _ _ r h => by simp [yp.l0] at h
 | k + 1 => by
  have ih0 := yp.mono_l k
  ·intro y0 y1 y2 y3
   unfold yp.l0
   repeat' first | (with_reducible first | exact ih0 _ _ _ _ | exact LeO.refl _ | exact LeO.none _ | refine LeO.ite ?_ ?_ | refine LeO.bind ?_ (fun _ => ?_)) | exact ih0 _ _ _ _ | exact LeO.none _ | refine LeO.ite ?_ ?_ | refine LeO.bind ?_ (fun _ => ?_)
theorem yp.mono : ∀ a0 a1 a2 k, LeO (yp.f k a0 a1 a2) (yp.f (k + 1) a0 a1 a2) := by
 intro a0 a1 a2 k
 have ih0 := yp.mono_l k
 unfold yp.f
 repeat' first | (with_reducible first | exact ih0 _ _ _ _ | exact LeO.refl _ | exact LeO.none _ | refine LeO.ite ?_ ?_ | refine LeO.bind ?_ (fun _ => ?_)) | exact ih0 _ _ _ _ | exact LeO.none _ | refine LeO.ite ?_ ?_ | refine LeO.bind ?_ (fun _ => ?_)
theorem yp.calls (k : Nat) (a0_0 : Int) (A0_1 : Option Addr) (c0_1 : Nat) (l0_1 : List Int) (a1 : Int) (r : Bool) (w : World) (hr0_1 : Kd.C (Kd.int .i64) w A0_1 l0_1.length l0_1) (hc0_1 : l0_1.length ≤ c0_1) (h : yp.f k a0_0 l0_1 a1 = some r) :
  Calls Try.prog 88 #[.agg #[.int .i64 a0_0, .slice A0_1 l0_1.length c0_1], .int .i64 a1] w fun e w' => e = .returned (.bool r) ∧ Below w.heap.size w w' := by
 have hu28 := Try.underlying28
 have HR0_1 := aQ hr0_1
 have HC0_1 := aQ hc0_1
 clear hr0_1 hc0_1
 have HB := aQ (Below.refl w.heap.size w)
 have H : (yp.l0 k a1 l0_1 (l0_1.length : Int) 0) = some r := h
 clear h
 have H' := aQ H
 clear H
 go_enter Try.func88, Try.ntmps88
 go_wp2_with (first | ((with_reducible refine yb (N := 2) rfl ?_); refine bx 2 #[.int .i64 a0_0, .slice A0_1 l0_1.length c0_1] 28 ?_; intro gbq1 hg w3 hbox hb; have BKq1 := aQ (hbox); have GWq1 := gB HB hg; have GEq1 := gB HB hg; replace HB := bs HB hb; clear hb hbox hg; obtain ⟨hcz4_0, hcz4_1, hfz4_0, hfz4_1⟩ := c2 BKq1))
 go_loopg [10] k (fun kq v10 w' => ∃ (x10_1 : Int), v10 = .int .i64 x10_1 ∧ Aside0 (yp.l0 kq a1 l0_1 (l0_1.length : Int) x10_1 = some r) ∧ Aside0 (kq ≤ k) ∧ Aside0 (w'.heap[gbq1]? = some (.cells #[.int .i64 a0_0, (.slice A0_1 l0_1.length c0_1)] 28 (0, 0))) ∧ Aside0 (Below w.heap.size w w'))
 case atStart => exact ⟨(0), rs_, H', ⟨Nat.le_refl _⟩, ⟨pk BKq1.out⟩, ⟨pB1 HB.out GEq1.out⟩⟩
 clear H'
 try clear p2
 try clear hcz4_0
 try clear hcz4_1
 try clear hfz4_0
 try clear hfz4_1
 obtain ⟨x10_1, rfl, HA, HK1, BKq1, HB⟩ := hrel
 rcases gk with _ | k1
 ·exact absurd HA.out (by simp [yp.l0])
 have H := HA.out
 clear HA
 simp only [yp.l0] at H
 by_cases c5 : x10_1 < (l0_1.length : Int)
 ·rw [if_pos c5] at H
  have c5b0 := decide_eq_true c5
  clear c5
  replace H := gd H; obtain ⟨c6, H⟩ := H
  have c6b0 := decide_eq_true c6
  clear c6
  replace H := gd H; obtain ⟨c7, H⟩ := H
  have c7b0 := decide_eq_true c7
  clear c7
  replace H := bo H; obtain ⟨tq0, A8, H⟩ := H
  (try dsimp only at H)
  by_cases c9 : tq0 = true
  ·subst c9
   rw [if_pos rfl] at H
   obtain rfl := Option.some.inj H
   have pq2 : 0 ≤ (x10_1 : Int) := of_decide_eq_true as_
   have qq2 : x10_1 < (l0_1.length : Int) := of_decide_eq_true as_
   obtain ⟨adq2, eq2, hxq2_0⟩ := Kd.at_int HR0_1.out x10_1 pq2 qq2
   cases eq2
   replace hxq2_0 := (HB.out.cell (World.block_lt_of_cell? w _ hxq2_0)).trans hxq2_0
   replace pq2 := eq_true pq2
   replace qq2 := eq_true qq2
   go_wp2_with (first | (refine gq 106 (some 16) Try.func106 #[.int .i64 a1, .int .i64 (rd l0_1 x10_1)] ?_; (with_reducible refine (ybr.calls a1 (rd l0_1 x10_1) true _ A8.out).mono ?_); rintro e w' ⟨rfl, ⟨nd, rfl⟩⟩; refine ⟨_, rfl, ?_⟩))
   go_ret
   exact ⟨re_, pB1 HB.out GEq1.out⟩
  ·replace c9 := Bool.eq_false_iff.mpr c9
   subst c9
   have H1 : (yp.l0 k1 a1 l0_1 (l0_1.length : Int) (wrap64 (x10_1 + 1))) = some r := by rw [if_neg (show ¬ (false = true) by decide)] at H; exact H
   clear H
   have H := H1
   clear H1
   have H' := aQ H
   clear H
   have pq2 : 0 ≤ (x10_1 : Int) := of_decide_eq_true as_
   have qq2 : x10_1 < (l0_1.length : Int) := of_decide_eq_true as_
   obtain ⟨adq2, eq2, hxq2_0⟩ := Kd.at_int HR0_1.out x10_1 pq2 qq2
   cases eq2
   replace hxq2_0 := (HB.out.cell (World.block_lt_of_cell? w _ hxq2_0)).trans hxq2_0
   replace pq2 := eq_true pq2
   replace qq2 := eq_true qq2
   go_wp2_with (first | (refine gq 106 (some 16) Try.func106 #[.int .i64 a1, .int .i64 (rd l0_1 x10_1)] ?_; (with_reducible refine (ybr.calls a1 (rd l0_1 x10_1) false _ A8.out).mono ?_); rintro e w' ⟨rfl, ⟨nd, rfl⟩⟩; refine ⟨_, rfl, ?_⟩))
   go_roundg k1
   case measure => have := HK1.out; omega
   case rel => exact ⟨(wrap64 (x10_1 + 1)), rs_, H', ⟨by have := HK1.out; omega⟩, ⟨pk BKq1.out⟩, ⟨pB1 HB.out GEq1.out⟩⟩
 ·rw [if_neg c5] at H
  have c5b0 := decide_eq_false c5
  clear c5
  obtain rfl := Option.some.inj H
  go_wp2
  go_ret
  exact ⟨re_, pB1 HB.out GEq1.out⟩
end Go.Proofs.Ytimkekeaeojpkaa.A
namespace Go.Proofs.Ytimkekeaeojpkaa.A
open Go.RowKit Go.Proofs.YtimkekeaeojpkaaW.PrintWords Go.Proofs.YtimkekeaeojpkaaW.PrintLast Go.Proofs.YtimkekeaeojpkaaW.PrintMore Go.Proofs.Ytimkekeaeojpkaa.Z
attribute [local go_sem] ya8 yba ybm ybn yaY yaX ya6 ya9
set_option linter.unusedVariables false
set_option linter.unusedSimpArgs false
def yao.c (k : Nat) (n : Int) (l : List Int) (n' : Int) (l' : List Int) (s : Int) : Option Bool := (yp.f k n l s).bind fun t => if t = true then yp.f k n' l' s else some false
theorem yao.c_mono (n : Int) (l : List Int) (n' : Int) (l' : List Int) (s : Int) (k : Nat) : LeO (yao.c k n l n' l' s) (yao.c (k + 1) n l n' l' s) := by
 unfold yao.c
 exact LeO.bind (yp.mono _ _ _ _) (fun t => LeO.ite (yp.mono _ _ _ _) (LeO.refl _))
set_option maxHeartbeats 4000000 in
theorem ydH (k : Nat) (n : Int) (A : Option Addr) (c : Nat) (l : List Int) (n' : Int) (A' : Option Addr) (c' : Nat) (l' : List Int) (s : Int) (b : Bool) (gm gn : Nat) (w : World)
  (hr : Kd.C (Kd.int .i64) w A l.length l) (hc : l.length ≤ c) (hr' : Kd.C (Kd.int .i64) w A' l'.length l') (hc' : l'.length ≤ c')
  (hm : w.heap[gm]? = some (.cells #[.int .i64 n, .slice A l.length c] 28 (0, 0))) (hn : w.heap[gn]? = some (.cells #[.int .i64 n', .slice A' l'.length c'] 28 (0, 0))) (h : yao.c k n l n' l' s = some b) :
  Calls Try.prog 135 #[.int .i64 s, .pointer (some ⟨gm, 0, none⟩), .pointer (some ⟨gn, 0, none⟩)] w fun e w' => e = .returned (.bool b) ∧ Below w.heap.size w w' := by
 unfold yao.c at h
 obtain ⟨t, hT, h⟩ := Option.bind_eq_some_iff.1 h
 have hu := Try.underlying28
 have hcm0 : w.cell? ⟨gm, 0, none⟩ = some (.int .i64 n) := (ya hm 0).trans rfl
 have hcm1 : w.cell? ⟨gm, 1, none⟩ = some (.slice A l.length c) := (ya hm 1).trans rfl
 have hcn0 : w.cell? ⟨gn, 0, none⟩ = some (.int .i64 n') := (ya hn 0).trans rfl
 have hcn1 : w.cell? ⟨gn, 1, none⟩ = some (.slice A' l'.length c') := (ya hn 1).trans rfl
 have HT := Lib.hid hT
 have HR := Lib.hid hr
 have HC := Lib.hid hc
 have HR2 := Lib.hid hr'
 have HC2 := Lib.hid hc'
 have BN := Lib.hid hn
 clear hm hn hr hc hr' hc' hT
 by_cases c3 : t = true
 ·subst c3
  rw [if_pos rfl] at h
  have HU := Lib.hid h
  clear h
  go_enter Try.func135, Try.ntmps135
  go_wp2_with (first | (go_at_call 88; (with_reducible refine (yp.calls k n _ _ l s true _ ?side1 ?side2 HT.out).mono ?_); (case side1 => exact HR.out); (case side2 => exact HC.out); rintro e w1_ ⟨rfl, hb⟩; have HB := aQ hb; have zn0 : w1_.cell? ⟨gn, 0, none⟩ = some (.int .i64 n') := (ya (yab BN.out hb) 0).trans rfl; have zn1 : w1_.cell? ⟨gn, 1, none⟩ = some (.slice A' l'.length c') := (ya (yab BN.out hb) 1).trans rfl; clear hb) | (go_at_call 88; (with_reducible refine (yp.calls k n' _ _ l' s b _ ?side1 ?side2 HU.out).mono ?_); (case side1 => exact (Kd.C_below HR2.out HB.out)); (case side2 => exact HC2.out); rintro e w2_ ⟨rfl, hb⟩; have HB2 := aQ (ybY HB.out hb); clear hb))
  go_ret
  exact ⟨rs_, HB2.out⟩
 ·have c4 := Bool.eq_false_iff.mpr c3
  subst c4
  clear c3
  rw [if_neg (by decide)] at h
  simp only [Option.some.injEq] at h
  subst h
  go_enter Try.func135, Try.ntmps135
  go_wp2_with (first | (go_at_call 88; (with_reducible refine (yp.calls k n _ _ l s false _ ?side1 ?side2 HT.out).mono ?_); (case side1 => exact HR.out); (case side2 => exact HC.out); rintro e w1_ ⟨rfl, hb⟩; have HB := aQ hb; clear hb))
  go_ret
  exact ⟨rs_, HB.out⟩
def yao.f (k : Nat) (a0_0 : Int) (l0_1 : List Int) (a1_0 : Int) (l1_1 : List Int) : Option (List Int) := (yaF.f a0_0).bind fun m => if 0 ≤ m ∧ m ≤ 1000 then yfw (fun s => yao.c k a0_0 l0_1 a1_0 l1_1 s) m else none
set_option maxHeartbeats 4000000 in
theorem yao.calls (k : Nat) (a0_0 : Int) (A0_1 : Option Addr) (c0_1 : Nat) (l0_1 : List Int) (a1_0 : Int) (A1_1 : Option Addr) (c1_1 : Nat) (l1_1 : List Int) (r : List Int) (w : World) (hr0_1 : Kd.C (Kd.int .i64) w A0_1 l0_1.length l0_1) (hc0_1 : l0_1.length ≤ c0_1) (hr1_1 : Kd.C (Kd.int .i64) w A1_1 l1_1.length l1_1) (hc1_1 : l1_1.length ≤ c1_1) (h : yao.f k a0_0 l0_1 a1_0 l1_1 = some r) :
  Calls Try.prog 79 #[.agg #[.int .i64 a0_0, .slice A0_1 l0_1.length c0_1], .agg #[.int .i64 a1_0, .slice A1_1 l1_1.length c1_1]] w fun e w' => ∃ v0_ : Value, e = .returned (v0_) ∧ Kd.R (Kd.int .i64) 3 w' w.heap.size (fun _ => True) v0_ r ∧ Below w.heap.size w w' := by
 have hu := Try.underlying28
 have HR := aQ hr0_1
 have HC := aQ hc0_1
 have HR2 := aQ hr1_1
 have HC2 := aQ hc1_1
 have HB := aQ (Below.refl w.heap.size w)
 clear hr0_1 hc0_1 hr1_1 hc1_1
 have EG := aQ (show ∀ args w, (callFunc 135 args).run Try.prog w = .ok (.enter 135 args) w from ygs Try.func135 (by kernel_rfl) rfl)
 unfold yao.f at h
 obtain ⟨m, hF, h⟩ := Option.bind_eq_some_iff.1 h
 by_cases hm : 0 ≤ m ∧ m ≤ 1000
 ·rw [if_pos hm] at h
  have HF := aQ hF
  have HM := aQ hm
  have HS := Lib.hid h
  clear hF hm h
  go_enter Try.func79, Try.ntmps79
  go_wp2_with (first | ((with_reducible refine yb (N := 2) rfl ?_); refine bx 2 #[.int .i64 a0_0, .slice A0_1 l0_1.length c0_1] 28 ?_; intro gm hg w1_ hbox hb; have n_HB := bs HB hb; have n_GBM := aQ ((by rw [hg]; exact yc (pB HB.out)) : w.heap.size ≤ gm); clear HB; have HB := n_HB; have GBM := n_GBM; have BM := aQ hbox; clear n_HB n_GBM; clear hb hbox hg; have zBM0 : w1_.cell? ⟨gm, 0, none⟩ = some (.int .i64 a0_0) := (ya BM.out 0).trans rfl; have zBM1 : w1_.cell? ⟨gm, 1, none⟩ = some (.slice A0_1 l0_1.length c0_1) := (ya BM.out 1).trans rfl) | ((with_reducible refine yb (N := 3) rfl ?_); refine bx 3 #[.int .i64 a1_0, .slice A1_1 l1_1.length c1_1] 28 ?_; intro gn hg w1_ hbox hb; have n_BM := bb BM hb; have n_NBMBN := aQ ((by rw [hg]; exact Nat.ne_of_lt (ybE (g := gm) (o := .cells #[.int .i64 a0_0, .slice A0_1 l0_1.length c0_1] 28 (0, 0)) (pk BM.out))) : gm ≠ gn); have n_HB := bs HB hb; have n_GBN := aQ ((by rw [hg]; exact yc (pB HB.out)) : w.heap.size ≤ gn); clear BM; clear HB; have HB := n_HB; have GBN := n_GBN; have BN := aQ hbox; have BM := n_BM; have NBMBN := n_NBMBN; clear n_HB n_GBN n_BM n_NBMBN; clear hb hbox hg; have zBM0 : w1_.cell? ⟨gm, 0, none⟩ = some (.int .i64 a0_0) := (ya BM.out 0).trans rfl; have zBM1 : w1_.cell? ⟨gm, 1, none⟩ = some (.slice A0_1 l0_1.length c0_1) := (ya BM.out 1).trans rfl; have zBN0 : w1_.cell? ⟨gn, 0, none⟩ = some (.int .i64 a1_0) := (ya BN.out 0).trans rfl; have zBN1 : w1_.cell? ⟨gn, 1, none⟩ = some (.slice A1_1 l1_1.length c1_1) := (ya BN.out 1).trans rfl))
  refine (yfA (fun s => yao.c k a0_0 l0_1 a1_0 l1_1 s) 135 _ EG.out a0_0 m r _ HF.out HM.out.1 HM.out.2 HS.out (fun W x b hb hg => ycX (by simp) (ydH k a0_0 A0_1 c0_1 l0_1 a1_0 A1_1 c1_1 l1_1 x b gm gn W (Kd.C_below (Kd.C_below HR.out HB.out) hb) HC.out (Kd.C_below (Kd.C_below HR2.out HB.out) hb) HC2.out (yab BM.out hb) (yab BN.out hb) hg))).mono ?_
  rintro e w9_ ⟨v_, rfl, ho_, hb⟩
  have HO := aQ (Kd.R_lower ho_ (yc (pB HB.out)))
  have n_HB := bs HB hb
  clear HB ho_ hb
  have HB := n_HB
  clear n_HB
  obtain ⟨AO, cO, eO⟩ := Kd.R_slice HO.out
  subst eO
  go_wp2
  go_ret
  exact ⟨_, rs_, by refine pRx ?_; exact HO.out, (pB HB.out)⟩
 ·rw [if_neg hm] at h; cases h
end Go.Proofs.Ytimkekeaeojpkaa.A
namespace Go.Proofs.Ytimkekeaeojpkaa.A
open Go.RowKit Go.Proofs.YtimkekeaeojpkaaW.PrintWords Go.Proofs.YtimkekeaeojpkaaW.PrintLast Go.Proofs.YtimkekeaeojpkaaW.PrintMore
attribute [local go_sem] ya8 yba ybm ybn yaY yaX ya6 ya9
set_option linter.unusedVariables false
set_option linter.unusedSimpArgs false
def yQ.l0 : Nat → Int → List Int → Int → Int → Option (Int × Bool)
 | 0, _, _, _, _ => none
 | k + 1, x6, x15, x16, x17 => if x17 < x16 then (if 0 ≤ x17 then (if x17 < (x15.length : Int) then ((yaG.f (rd x15 x17)).bind fun tq0 => ((yaG.f x6).bind fun tq1 => (if tq0 > tq1 then (yQ.l0 k (rd x15 x17) x15 x16 (wrap64 (x17 + 1))) else (yQ.l0 k x6 x15 x16 (wrap64 (x17 + 1)))))) else (none)) else (none)) else (some (x6, true))
def yQ.f (k : Nat) (a0_0 : Int) (l0_1 : List Int) (a1_0 : Int) (l1_1 : List Int) : Option (Int × Bool) := (yaE.f k a0_0 l0_1 a1_0 l1_1).bind fun tq2 => (if tq2 = true then ((yao.f k a0_0 l0_1 a1_0 l1_1).bind fun tq3 => (yQ.l0 k 0 tq3 (tq3.length : Int) 0)) else (some (0, false)))
theorem yQ.calls (k : Nat) (a0_0 : Int) (A0_1 : Option Addr) (c0_1 : Nat) (l0_1 : List Int) (a1_0 : Int) (A1_1 : Option Addr) (c1_1 : Nat) (l1_1 : List Int) (r1 : Int) (r2 : Bool) (w : World) (hr0_1 : Kd.C (Kd.int .i64) w A0_1 l0_1.length l0_1) (hc0_1 : l0_1.length ≤ c0_1) (hr1_1 : Kd.C (Kd.int .i64) w A1_1 l1_1.length l1_1) (hc1_1 : l1_1.length ≤ c1_1) (h : yQ.f k a0_0 l0_1 a1_0 l1_1 = some (r1, r2)) :
  Calls Try.prog 24 #[.agg #[.int .i64 a0_0, .slice A0_1 l0_1.length c0_1], .agg #[.int .i64 a1_0, .slice A1_1 l1_1.length c1_1]] w fun e w' => e = .returned (.tuple #[.int .i64 r1, .bool r2]) ∧ Below w.heap.size w w' := by
 have hu28 := Try.underlying28
 have HR0_1 := aQ hr0_1
 have HC0_1 := aQ hc0_1
 clear hr0_1 hc0_1
 have HR1_1 := aQ hr1_1
 have HC1_1 := aQ hc1_1
 clear hr1_1 hc1_1
 have HB := aQ (Below.refl w.heap.size w)
 have H := h
 clear h
 unfold yQ.f at H
 (try dsimp only at H)
 replace H := bo H; obtain ⟨tq2, A3, H⟩ := H
 (try dsimp only at H)
 by_cases c4 : tq2 = true
 ·subst c4
  rw [if_pos rfl] at H
  replace H := bo H; obtain ⟨tq3, A5, H⟩ := H
  (try dsimp only at H)
  have H' := aQ H
  clear H
  go_enter Try.func24, Try.ntmps24
  go_wp2_with (first | ((with_reducible refine yb (N := 2) rfl ?_); refine bx 2 #[.int .i64 a0_0, .slice A0_1 l0_1.length c0_1] 28 ?_; intro gbq4 hg w6 hbox hb; have BKq4 := aQ (hbox); have GWq4 := gB HB hg; have GEq4 := gB HB hg; replace HB := bs HB hb; clear hb hbox hg) | ((with_reducible refine yb (N := 3) rfl ?_); refine bx 3 #[.int .i64 a1_0, .slice A1_1 l1_1.length c1_1] 28 ?_; intro gbq5 hg w7 hbox hb; have BKq5 := aQ (hbox); have GWq5 := gB HB hg; have GEq5 := gB HB hg; replace HB := bs HB hb; have NBq4_q5 := nl BKq4 hg; have NBq5_q4 := ng BKq4 hg; replace BKq4 := bb BKq4 hb; clear hb hbox hg; have hnb8 := NBq4_q5.out; have hnc8 := NBq5_q4.out; obtain ⟨hcz9_0, hcz9_1, hfz9_0, hfz9_1⟩ := c2 BKq4; obtain ⟨hcz10_0, hcz10_1, hfz10_0, hfz10_1⟩ := c2 BKq5) | (refine gq 78 (some 11) Try.func78 #[.agg #[.int .i64 a0_0, .slice A0_1 l0_1.length c0_1], .agg #[.int .i64 a1_0, .slice A1_1 l1_1.length c1_1]] ?_; (with_reducible refine (yaE.calls k a0_0 _ _ l0_1 a1_0 _ _ l1_1 true _ ?side1 ?side2 ?side3 ?side4 A3.out).mono ?_); (case side1 => exact pC (Kd.C_below HR0_1.out HB.out)); (case side2 => exact HC0_1.out); (case side3 => exact pC (Kd.C_below HR1_1.out HB.out)); (case side4 => exact HC1_1.out); rintro e w11 ⟨rfl, hb⟩; refine ⟨_, rfl, ?_⟩; replace BKq4 := bb BKq4 hb; replace BKq5 := bb BKq5 hb; replace HB := bs HB hb; (try clear hb); obtain ⟨hcz12_0, hcz12_1, hfz12_0, hfz12_1⟩ := c2 BKq4; obtain ⟨hcz13_0, hcz13_1, hfz13_0, hfz13_1⟩ := c2 BKq5) | (refine gq 79 (some 15) Try.func79 #[.agg #[.int .i64 a0_0, .slice A0_1 l0_1.length c0_1], .agg #[.int .i64 a1_0, .slice A1_1 l1_1.length c1_1]] ?_; (with_reducible refine (yao.calls k a0_0 _ _ l0_1 a1_0 _ _ l1_1 tq3 _ ?side1 ?side2 ?side3 ?side4 A5.out).mono ?_); (case side1 => exact pC (Kd.C_below HR0_1.out HB.out)); (case side2 => exact HC0_1.out); (case side3 => exact pC (Kd.C_below HR1_1.out HB.out)); (case side4 => exact HC1_1.out); rintro e w14 ⟨vq6, rfl, ho0, hb⟩; refine ⟨_, rfl, ?_⟩; have HOq7 := aQ (Kd.R_lower ho0 (yc (pB2 HB.out GEq4.out GEq5.out))); replace BKq4 := bb BKq4 hb; replace BKq5 := bb BKq5 hb; replace HB := bs HB hb; (try clear hb); (try clear ho0); obtain ⟨Ao15, co15, eo15⟩ := Kd.R_slice HOq7.out; subst eo15))
  go_loopg [6, 17] k (fun kq v6 v17 w' => ∃ (x6_1 : Int) (x17_1 : Int), v6 = .int .i64 x6_1 ∧ v17 = .int .i64 x17_1 ∧ Aside0 (yQ.l0 kq x6_1 tq3 (tq3.length : Int) x17_1 = some (r1, r2)) ∧ Aside0 (kq ≤ k) ∧ Aside0 (Kd.R (Kd.int .i64) 3 w' w.heap.size (fun _ => True) (.slice Ao15 tq3.length co15) tq3) ∧ Aside0 (w'.heap[gbq4]? = some (.cells #[.int .i64 a0_0, (.slice A0_1 l0_1.length c0_1)] 28 (0, 0))) ∧ Aside0 (w'.heap[gbq5]? = some (.cells #[.int .i64 a1_0, (.slice A1_1 l1_1.length c1_1)] 28 (0, 0))) ∧ Aside0 (Below w.heap.size w w'))
  case atStart => exact ⟨(0), (0), rs_, rs_, H', ⟨Nat.le_refl _⟩, ⟨pR HOq7.out⟩, ⟨pk BKq4.out⟩, ⟨pk BKq5.out⟩, ⟨pB2 HB.out GEq4.out GEq5.out⟩⟩
  clear H'
  try clear c1
  try clear c2
  try clear p2
  try clear c4
  try clear c7
  try clear c8
  try clear hcz10_0
  try clear hcz10_1
  try clear hcz12_0
  try clear hcz12_1
  try clear hcz13_0
  try clear hcz13_1
  try clear hcz9_0
  try clear hcz9_1
  try clear hfz10_0
  try clear hfz10_1
  try clear hfz12_0
  try clear hfz12_1
  try clear hfz13_0
  try clear hfz13_1
  try clear hfz9_0
  try clear hfz9_1
  obtain ⟨x6_1, x17_1, rfl, rfl, HA, HK1, HO_15, BKq4, BKq5, HB⟩ := hrel
  rcases gk with _ | k1
  ·exact absurd HA.out (by simp [yQ.l0])
  have H := HA.out
  clear HA
  simp only [yQ.l0] at H
  by_cases c16 : x17_1 < (tq3.length : Int)
  ·rw [if_pos c16] at H
   have c16b0 := decide_eq_true c16
   clear c16
   replace H := gd H; obtain ⟨c17, H⟩ := H
   have c17b0 := decide_eq_true c17
   clear c17
   replace H := gd H; obtain ⟨c18, H⟩ := H
   have c18b0 := decide_eq_true c18
   clear c18
   replace H := bo H; obtain ⟨tq0, A19, H⟩ := H
   (try dsimp only at H)
   replace H := bo H; obtain ⟨tq1, A20, H⟩ := H
   (try dsimp only at H)
   by_cases c21 : tq0 > tq1
   ·rw [if_pos c21] at H
    have c21b0 := decide_eq_true c21
    clear c21
    have H' := aQ H
    clear H
    have pq8 : 0 ≤ (x17_1 : Int) := of_decide_eq_true as_
    have qq8 : x17_1 < (tq3.length : Int) := of_decide_eq_true as_
    obtain ⟨adq8, eq8, hxq8_0⟩ := Kd.at_int (Kd.R_reads' HO_15.out).2.2 x17_1 pq8 qq8
    cases eq8
    replace pq8 := eq_true pq8
    replace qq8 := eq_true qq8
    go_wp2_with (first | (refine gq 80 (some 22) Try.func80 #[.int .i64 (rd tq3 x17_1)] ?_; (with_reducible refine (yaG.calls (rd tq3 x17_1) tq0 _ A19.out).mono ?_); rintro e w' ⟨rfl, ⟨nd, rfl⟩⟩; refine ⟨_, rfl, ?_⟩) | (refine gq 80 (some 24) Try.func80 #[.int .i64 x6_1] ?_; (with_reducible refine (yaG.calls x6_1 tq1 _ A20.out).mono ?_); rintro e w' ⟨rfl, ⟨nd, rfl⟩⟩; refine ⟨_, rfl, ?_⟩))
    go_roundg k1
    case measure => have := HK1.out; omega
    case rel => exact ⟨(rd tq3 x17_1), (wrap64 (x17_1 + 1)), rs_, rs_, H', ⟨by have := HK1.out; omega⟩, ⟨pR HO_15.out⟩, ⟨pk BKq4.out⟩, ⟨pk BKq5.out⟩, ⟨pB2 HB.out GEq4.out GEq5.out⟩⟩
   ·rw [if_neg c21] at H
    have c21b0 := decide_eq_false c21
    clear c21
    have H' := aQ H
    clear H
    have pq8 : 0 ≤ (x17_1 : Int) := of_decide_eq_true as_
    have qq8 : x17_1 < (tq3.length : Int) := of_decide_eq_true as_
    obtain ⟨adq8, eq8, hxq8_0⟩ := Kd.at_int (Kd.R_reads' HO_15.out).2.2 x17_1 pq8 qq8
    cases eq8
    replace pq8 := eq_true pq8
    replace qq8 := eq_true qq8
    go_wp2_with (first | (refine gq 80 (some 22) Try.func80 #[.int .i64 (rd tq3 x17_1)] ?_; (with_reducible refine (yaG.calls (rd tq3 x17_1) tq0 _ A19.out).mono ?_); rintro e w' ⟨rfl, ⟨nd, rfl⟩⟩; refine ⟨_, rfl, ?_⟩) | (refine gq 80 (some 24) Try.func80 #[.int .i64 x6_1] ?_; (with_reducible refine (yaG.calls x6_1 tq1 _ A20.out).mono ?_); rintro e w' ⟨rfl, ⟨nd, rfl⟩⟩; refine ⟨_, rfl, ?_⟩))
    go_roundg k1
    case measure => have := HK1.out; omega
    case rel => exact ⟨(x6_1), (wrap64 (x17_1 + 1)), rs_, rs_, H', ⟨by have := HK1.out; omega⟩, ⟨pR HO_15.out⟩, ⟨pk BKq4.out⟩, ⟨pk BKq5.out⟩, ⟨pB2 HB.out GEq4.out GEq5.out⟩⟩
  ·rw [if_neg c16] at H
   have c16b0 := decide_eq_false c16
   clear c16
   simp only [Option.some.injEq, Prod.mk.injEq] at H
   obtain ⟨rfl, rfl⟩ := H
   go_wp2
   go_ret2
   exact ⟨re_, pB2 HB.out GEq4.out GEq5.out⟩
 ·replace c4 := Bool.eq_false_iff.mpr c4
  subst c4
  have H1 : (some (0, false)) = some (r1, r2) := by rw [if_neg (show ¬ (false = true) by decide)] at H; exact H
  clear H
  have H := H1
  clear H1
  simp only [Option.some.injEq, Prod.mk.injEq] at H
  obtain ⟨rfl, rfl⟩ := H
  go_enter Try.func24, Try.ntmps24
  go_wp2_with (first | ((with_reducible refine yb (N := 2) rfl ?_); refine bx 2 #[.int .i64 a0_0, .slice A0_1 l0_1.length c0_1] 28 ?_; intro gbq4 hg w22 hbox hb; have BKq4 := aQ (hbox); have GWq4 := gB HB hg; have GEq4 := gB HB hg; replace HB := bs HB hb; clear hb hbox hg) | ((with_reducible refine yb (N := 3) rfl ?_); refine bx 3 #[.int .i64 a1_0, .slice A1_1 l1_1.length c1_1] 28 ?_; intro gbq5 hg w23 hbox hb; have BKq5 := aQ (hbox); have GWq5 := gB HB hg; have GEq5 := gB HB hg; replace HB := bs HB hb; have NBq4_q5 := nl BKq4 hg; have NBq5_q4 := ng BKq4 hg; replace BKq4 := bb BKq4 hb; clear hb hbox hg; have hnb24 := NBq4_q5.out; have hnc24 := NBq5_q4.out; obtain ⟨hcz25_0, hcz25_1, hfz25_0, hfz25_1⟩ := c2 BKq4; obtain ⟨hcz26_0, hcz26_1, hfz26_0, hfz26_1⟩ := c2 BKq5) | (refine gq 78 (some 11) Try.func78 #[.agg #[.int .i64 a0_0, .slice A0_1 l0_1.length c0_1], .agg #[.int .i64 a1_0, .slice A1_1 l1_1.length c1_1]] ?_; (with_reducible refine (yaE.calls k a0_0 _ _ l0_1 a1_0 _ _ l1_1 false _ ?side1 ?side2 ?side3 ?side4 A3.out).mono ?_); (case side1 => exact pC (Kd.C_below HR0_1.out HB.out)); (case side2 => exact HC0_1.out); (case side3 => exact pC (Kd.C_below HR1_1.out HB.out)); (case side4 => exact HC1_1.out); rintro e w27 ⟨rfl, hb⟩; refine ⟨_, rfl, ?_⟩; replace BKq4 := bb BKq4 hb; replace BKq5 := bb BKq5 hb; replace HB := bs HB hb; (try clear hb)))
  go_ret2
  exact ⟨re_, pB2 HB.out GEq4.out GEq5.out⟩
def yaj.l0 : Nat → Int → Int → Int → Int → List Int → Option (Int)
 | 0, _, _, _, _, _ => none
 | k + 1, x1, x5, x6, x85002000, x85002001 => if x6 < (x85002001.length : Int) then (if 0 ≤ x6 then ((yD.f k (Go.bits .and .i64 (rd x85002001 x6) x1)).bind fun tq0 => ((ybD.f x5 tq0).bind fun tq1 => (yaj.l0 k x1 tq1 (wrap64 (x6 + 1)) x85002000 x85002001))) else (none)) else (some x5)
def yaj.f (k : Nat) (a0_0 : Int) (l0_1 : List Int) (a1 : Int) : Option (Int) := yaj.l0 k a1 0 0 a0_0 l0_1
theorem yaj.calls (k : Nat) (a0_0 : Int) (A0_1 : Option Addr) (c0_1 : Nat) (l0_1 : List Int) (a1 : Int) (r : Int) (w : World) (hr0_1 : Kd.C (Kd.int .i64) w A0_1 l0_1.length l0_1) (hc0_1 : l0_1.length ≤ c0_1) (h : yaj.f k a0_0 l0_1 a1 = some r) :
  Calls Try.prog 84 #[.agg #[.int .i64 a0_0, .slice A0_1 l0_1.length c0_1], .int .i64 a1] w fun e w' => e = .returned (.int .i64 r) ∧ Below w.heap.size w w' := by
 have hu28 := Try.underlying28
 have HR0_1 := aQ hr0_1
 have HC0_1 := aQ hc0_1
 clear hr0_1 hc0_1
 have HB := aQ (Below.refl w.heap.size w)
 have H : (yaj.l0 k a1 0 0 a0_0 l0_1) = some r := h
 clear h
 have H' := aQ H
 clear H
 go_enter Try.func84, Try.ntmps84
 go_wp2_with (first | ((with_reducible refine yb (N := 2) rfl ?_); refine bx 2 #[.int .i64 a0_0, .slice A0_1 l0_1.length c0_1] 28 ?_; intro gbq2 hg w3 hbox hb; have BKq2 := aQ (hbox); have GWq2 := gB HB hg; have GEq2 := gB HB hg; replace HB := bs HB hb; clear hb hbox hg))
 go_loopg [5, 6] k (fun kq v5 v6 w' => ∃ (x5_1 : Int) (x6_1 : Int), v5 = .int .i64 x5_1 ∧ v6 = .int .i64 x6_1 ∧ Aside0 (yaj.l0 kq a1 x5_1 x6_1 a0_0 l0_1 = some r) ∧ Aside0 (kq ≤ k) ∧ Aside0 (w'.heap[gbq2]? = some (.cells #[.int .i64 a0_0, (.slice A0_1 l0_1.length c0_1)] 28 (0, 0))) ∧ Aside0 (Below w.heap.size w w'))
 case atStart => exact ⟨(0), (0), rs_, rs_, H', ⟨Nat.le_refl _⟩, ⟨pk BKq2.out⟩, ⟨pB1 HB.out GEq2.out⟩⟩
 clear H'
 try clear p2
 obtain ⟨x5_1, x6_1, rfl, rfl, HA, HK1, BKq2, HB⟩ := hrel
 rcases gk with _ | k1
 ·exact absurd HA.out (by simp [yaj.l0])
 have H := HA.out
 clear HA
 simp only [yaj.l0] at H
 by_cases c4 : x6_1 < (l0_1.length : Int)
 ·rw [if_pos c4] at H
  have c4b0 := decide_eq_true c4
  clear c4
  replace H := gd H; obtain ⟨c5, H⟩ := H
  have c5b0 := decide_eq_true c5
  clear c5
  replace H := bo H; obtain ⟨tq0, A6, H⟩ := H
  (try dsimp only at H)
  replace H := bo H; obtain ⟨tq1, A7, H⟩ := H
  (try dsimp only at H)
  have H' := aQ H
  clear H
  obtain ⟨hcz8_0, hcz8_1, hfz8_0, hfz8_1⟩ := c2 BKq2
  have pq3 : 0 ≤ (x6_1 : Int) := of_decide_eq_true as_
  have qq3 : x6_1 < (l0_1.length : Int) := of_decide_eq_true as_
  obtain ⟨adq3, eq3, hxq3_0⟩ := Kd.at_int HR0_1.out x6_1 pq3 qq3
  cases eq3
  replace hxq3_0 := (HB.out.cell (World.block_lt_of_cell? w _ hxq3_0)).trans hxq3_0
  replace pq3 := eq_true pq3
  replace qq3 := eq_true qq3
  go_wp2_with (first | (refine gq 33 (some 22) Try.func33 #[.int .i64 (Go.bits .and .i64 (rd l0_1 x6_1) a1)] ?_; (with_reducible refine (yD.calls k1 (Go.bits .and .i64 (rd l0_1 x6_1) a1) tq0 _ A6.out).mono ?_); rintro e w' ⟨rfl, ⟨nd, rfl⟩⟩; refine ⟨_, rfl, ?_⟩) | (refine gq 138 (some 23) Try.func138 #[.int .i64 x5_1, .int .i64 tq0] ?_; (with_reducible refine (ybD.calls x5_1 tq0 tq1 _ A7.out).mono ?_); rintro e w' ⟨rfl, ⟨nd, rfl⟩⟩; refine ⟨_, rfl, ?_⟩))
  go_roundg k1
  case measure => have := HK1.out; omega
  case rel => exact ⟨(tq1), (wrap64 (x6_1 + 1)), rs_, rs_, H', ⟨by have := HK1.out; omega⟩, ⟨pk BKq2.out⟩, ⟨pB1 HB.out GEq2.out⟩⟩
 ·rw [if_neg c4] at H
  have c4b0 := decide_eq_false c4
  clear c4
  obtain rfl := Option.some.inj H
  obtain ⟨hcz9_0, hcz9_1, hfz9_0, hfz9_1⟩ := c2 BKq2
  go_wp2
  go_ret
  exact ⟨re_, pB1 HB.out GEq2.out⟩
def yaA.f (k : Nat) (a0_0 : Int) (l0_1 : List Int) (a1 : Int) : Option (Bool) := (yaj.f k a0_0 l0_1 a1).bind fun tq0 => ((yD.f k a1).bind fun tq1 => (some (tq0 == tq1)))
theorem yaA.calls (k : Nat) (a0_0 : Int) (A0_1 : Option Addr) (c0_1 : Nat) (l0_1 : List Int) (a1 : Int) (r : Bool) (w : World) (hr0_1 : Kd.C (Kd.int .i64) w A0_1 l0_1.length l0_1) (hc0_1 : l0_1.length ≤ c0_1) (h : yaA.f k a0_0 l0_1 a1 = some r) :
  Calls Try.prog 82 #[.agg #[.int .i64 a0_0, .slice A0_1 l0_1.length c0_1], .int .i64 a1] w fun e w' => e = .returned (.bool r) ∧ Below w.heap.size w w' := by
 have hu28 := Try.underlying28
 have HR0_1 := aQ hr0_1
 have HC0_1 := aQ hc0_1
 clear hr0_1 hc0_1
 have HB := aQ (Below.refl w.heap.size w)
 have H := h
 clear h
 unfold yaA.f at H
 (try dsimp only at H)
 replace H := bo H; obtain ⟨tq0, A3, H⟩ := H
 (try dsimp only at H)
 replace H := bo H; obtain ⟨tq1, A4, H⟩ := H
 (try dsimp only at H)
 obtain rfl := Option.some.inj H
 go_enter Try.func82, Try.ntmps82
 go_wp2_with (first | ((with_reducible refine yb (N := 2) rfl ?_); refine bx 2 #[.int .i64 a0_0, .slice A0_1 l0_1.length c0_1] 28 ?_; intro gbq2 hg w5 hbox hb; have BKq2 := aQ (hbox); have GWq2 := gB HB hg; have GEq2 := gB HB hg; replace HB := bs HB hb; clear hb hbox hg; obtain ⟨hcz6_0, hcz6_1, hfz6_0, hfz6_1⟩ := c2 BKq2) | (refine gq 84 (some 7) Try.func84 #[.agg #[.int .i64 a0_0, .slice A0_1 l0_1.length c0_1], .int .i64 a1] ?_; (with_reducible refine (yaj.calls k a0_0 _ _ l0_1 a1 tq0 _ ?side1 ?side2 A3.out).mono ?_); (case side1 => exact pC (Kd.C_below HR0_1.out HB.out)); (case side2 => exact HC0_1.out); rintro e w7 ⟨rfl, hb⟩; refine ⟨_, rfl, ?_⟩; replace BKq2 := bb BKq2 hb; replace HB := bs HB hb; (try clear hb)) | (refine gq 33 (some 9) Try.func33 #[.int .i64 a1] ?_; (with_reducible refine (yD.calls k a1 tq1 _ A4.out).mono ?_); rintro e w' ⟨rfl, ⟨nd, rfl⟩⟩; refine ⟨_, rfl, ?_⟩))
 go_ret
 exact ⟨re_, pB1 HB.out GEq2.out⟩
def yaH.f (k : Nat) (a0_0 : Int) (l0_1 : List Int) (a1_0 : Int) (l1_1 : List Int) (a2 : Int) : Option (Bool) := (yM.f k a0_0 l0_1).bind fun tq0 => (if tq0 = true then ((yM.f k a1_0 l1_1).bind fun tq1 => (if tq1 = true then (if a0_0 = a1_0 then ((yJ.f a0_0 a2).bind fun tq2 => (if tq2 = true then ((yaA.f k a0_0 l0_1 a2).bind fun tq3 => (if tq3 = true then ((yaA.f k a1_0 l1_1 a2).bind fun tq4 => (some tq4)) else (some false))) else (some false))) else (some false)) else (some false))) else (some false))
theorem yaH.calls (k : Nat) (a0_0 : Int) (A0_1 : Option Addr) (c0_1 : Nat) (l0_1 : List Int) (a1_0 : Int) (A1_1 : Option Addr) (c1_1 : Nat) (l1_1 : List Int) (a2 : Int) (r : Bool) (w : World) (hr0_1 : Kd.C (Kd.int .i64) w A0_1 l0_1.length l0_1) (hc0_1 : l0_1.length ≤ c0_1) (hr1_1 : Kd.C (Kd.int .i64) w A1_1 l1_1.length l1_1) (hc1_1 : l1_1.length ≤ c1_1) (h : yaH.f k a0_0 l0_1 a1_0 l1_1 a2 = some r) :
  Calls Try.prog 32 #[.agg #[.int .i64 a0_0, .slice A0_1 l0_1.length c0_1], .agg #[.int .i64 a1_0, .slice A1_1 l1_1.length c1_1], .int .i64 a2] w fun e w' => e = .returned (.bool r) ∧ Below w.heap.size w w' := by
 have hu28 := Try.underlying28
 have HR0_1 := aQ hr0_1
 have HC0_1 := aQ hc0_1
 clear hr0_1 hc0_1
 have HR1_1 := aQ hr1_1
 have HC1_1 := aQ hc1_1
 clear hr1_1 hc1_1
 have HB := aQ (Below.refl w.heap.size w)
 have H := h
 clear h
 unfold yaH.f at H
 (try dsimp only at H)
 replace H := bo H; obtain ⟨tq0, A4, H⟩ := H
 (try dsimp only at H)
 by_cases c5 : tq0 = true
 ·subst c5
  rw [if_pos rfl] at H
  replace H := bo H; obtain ⟨tq1, A6, H⟩ := H
  (try dsimp only at H)
  by_cases c7 : tq1 = true
  ·subst c7
   rw [if_pos rfl] at H
   by_cases c8 : a0_0 = a1_0
   ·rw [if_pos c8] at H
    have c8b0 : (a0_0 == a1_0) = true := beq_iff_eq.mpr c8
    have c8b1 : (a0_0 != a1_0) = false := bne_eq_false_iff_eq.mpr c8
    clear c8
    replace H := bo H; obtain ⟨tq2, A9, H⟩ := H
    (try dsimp only at H)
    by_cases c10 : tq2 = true
    ·subst c10
     rw [if_pos rfl] at H
     replace H := bo H; obtain ⟨tq3, A11, H⟩ := H
     (try dsimp only at H)
     by_cases c12 : tq3 = true
     ·subst c12
      rw [if_pos rfl] at H
      replace H := bo H; obtain ⟨tq4, A13, H⟩ := H
      (try dsimp only at H)
      obtain rfl := Option.some.inj H
      go_enter Try.func32, Try.ntmps32
      go_wp2_with (first | ((with_reducible refine yb (N := 3) rfl ?_); refine bx 3 #[.int .i64 a0_0, .slice A0_1 l0_1.length c0_1] 28 ?_; intro gbq5 hg w14 hbox hb; have BKq5 := aQ (hbox); have GWq5 := gB HB hg; have GEq5 := gB HB hg; replace HB := bs HB hb; clear hb hbox hg) | ((with_reducible refine yb (N := 4) rfl ?_); refine bx 4 #[.int .i64 a1_0, .slice A1_1 l1_1.length c1_1] 28 ?_; intro gbq6 hg w15 hbox hb; have BKq6 := aQ (hbox); have GWq6 := gB HB hg; have GEq6 := gB HB hg; replace HB := bs HB hb; have NBq5_q6 := nl BKq5 hg; have NBq6_q5 := ng BKq5 hg; replace BKq5 := bb BKq5 hb; clear hb hbox hg; have hnb16 := NBq5_q6.out; have hnc16 := NBq6_q5.out; obtain ⟨hcz17_0, hcz17_1, hfz17_0, hfz17_1⟩ := c2 BKq5) | (refine gq 52 (some 8) Try.func52 #[.agg #[.int .i64 a0_0, .slice A0_1 l0_1.length c0_1]] ?_; (with_reducible refine (yM.calls k a0_0 _ _ l0_1 true _ ?side1 ?side2 A4.out).mono ?_); (case side1 => exact pC (Kd.C_below HR0_1.out HB.out)); (case side2 => exact HC0_1.out); rintro e w18 ⟨rfl, hb⟩; refine ⟨_, rfl, ?_⟩; replace BKq5 := bb BKq5 hb; replace BKq6 := bb BKq6 hb; replace HB := bs HB hb; (try clear hb); obtain ⟨hcz19_0, hcz19_1, hfz19_0, hfz19_1⟩ := c2 BKq6) | (go_at_call 52; (with_reducible refine (yM.calls k a1_0 _ _ l1_1 true _ ?side1 ?side2 A6.out).mono ?_); (case side1 => exact pC (Kd.C_below HR1_1.out HB.out)); (case side2 => exact HC1_1.out); rintro e w20 ⟨rfl, hb⟩; replace BKq5 := bb BKq5 hb; replace BKq6 := bb BKq6 hb; replace HB := bs HB hb; (try clear hb); obtain ⟨hcz21_0, hcz21_1, hfz21_0, hfz21_1⟩ := c2 BKq5; obtain ⟨hcz22_0, hcz22_1, hfz22_0, hfz22_1⟩ := c2 BKq6) | (go_at_call 55; (with_reducible refine (yJ.calls a0_0 a2 true _ A9.out).mono ?_); rintro e w' ⟨rfl, ⟨nd, rfl⟩⟩) | (go_at_call 82; (with_reducible refine (yaA.calls k a0_0 _ _ l0_1 a2 true _ ?side1 ?side2 A11.out).mono ?_); (case side1 => exact pC ((Kd.C_below HR0_1.out (pB2 HB.out GEq5.out GEq6.out)))); (case side2 => exact HC0_1.out); rintro e w23 ⟨rfl, hb⟩; replace BKq5 := bb BKq5 hb; replace BKq6 := bb BKq6 hb; replace HB := bs HB hb; (try clear hb); obtain ⟨hcz24_0, hcz24_1, hfz24_0, hfz24_1⟩ := c2 BKq6) | (go_at_call 82; (with_reducible refine (yaA.calls k a1_0 _ _ l1_1 a2 tq4 _ ?side1 ?side2 A13.out).mono ?_); (case side1 => exact pC (Kd.C_below HR1_1.out HB.out)); (case side2 => exact HC1_1.out); rintro e w25 ⟨rfl, hb⟩; replace BKq5 := bb BKq5 hb; replace BKq6 := bb BKq6 hb; replace HB := bs HB hb; (try clear hb)))
      go_ret
      exact ⟨re_, pB2 HB.out GEq5.out GEq6.out⟩
     ·replace c12 := Bool.eq_false_iff.mpr c12
      subst c12
      have H1 : (some false) = some r := by rw [if_neg (show ¬ (false = true) by decide)] at H; exact H
      clear H
      have H := H1
      clear H1
      obtain rfl := Option.some.inj H
      go_enter Try.func32, Try.ntmps32
      go_wp2_with (first | ((with_reducible refine yb (N := 3) rfl ?_); refine bx 3 #[.int .i64 a0_0, .slice A0_1 l0_1.length c0_1] 28 ?_; intro gbq5 hg w26 hbox hb; have BKq5 := aQ (hbox); have GWq5 := gB HB hg; have GEq5 := gB HB hg; replace HB := bs HB hb; clear hb hbox hg) | ((with_reducible refine yb (N := 4) rfl ?_); refine bx 4 #[.int .i64 a1_0, .slice A1_1 l1_1.length c1_1] 28 ?_; intro gbq6 hg w27 hbox hb; have BKq6 := aQ (hbox); have GWq6 := gB HB hg; have GEq6 := gB HB hg; replace HB := bs HB hb; have NBq5_q6 := nl BKq5 hg; have NBq6_q5 := ng BKq5 hg; replace BKq5 := bb BKq5 hb; clear hb hbox hg; have hnb28 := NBq5_q6.out; have hnc28 := NBq6_q5.out; obtain ⟨hcz29_0, hcz29_1, hfz29_0, hfz29_1⟩ := c2 BKq5) | (refine gq 52 (some 8) Try.func52 #[.agg #[.int .i64 a0_0, .slice A0_1 l0_1.length c0_1]] ?_; (with_reducible refine (yM.calls k a0_0 _ _ l0_1 true _ ?side1 ?side2 A4.out).mono ?_); (case side1 => exact pC (Kd.C_below HR0_1.out HB.out)); (case side2 => exact HC0_1.out); rintro e w30 ⟨rfl, hb⟩; refine ⟨_, rfl, ?_⟩; replace BKq5 := bb BKq5 hb; replace BKq6 := bb BKq6 hb; replace HB := bs HB hb; (try clear hb); obtain ⟨hcz31_0, hcz31_1, hfz31_0, hfz31_1⟩ := c2 BKq6) | (go_at_call 52; (with_reducible refine (yM.calls k a1_0 _ _ l1_1 true _ ?side1 ?side2 A6.out).mono ?_); (case side1 => exact pC (Kd.C_below HR1_1.out HB.out)); (case side2 => exact HC1_1.out); rintro e w32 ⟨rfl, hb⟩; replace BKq5 := bb BKq5 hb; replace BKq6 := bb BKq6 hb; replace HB := bs HB hb; (try clear hb); obtain ⟨hcz33_0, hcz33_1, hfz33_0, hfz33_1⟩ := c2 BKq5; obtain ⟨hcz34_0, hcz34_1, hfz34_0, hfz34_1⟩ := c2 BKq6) | (go_at_call 55; (with_reducible refine (yJ.calls a0_0 a2 true _ A9.out).mono ?_); rintro e w' ⟨rfl, ⟨nd, rfl⟩⟩) | (go_at_call 82; (with_reducible refine (yaA.calls k a0_0 _ _ l0_1 a2 false _ ?side1 ?side2 A11.out).mono ?_); (case side1 => exact pC ((Kd.C_below HR0_1.out (pB2 HB.out GEq5.out GEq6.out)))); (case side2 => exact HC0_1.out); rintro e w35 ⟨rfl, hb⟩; replace BKq5 := bb BKq5 hb; replace BKq6 := bb BKq6 hb; replace HB := bs HB hb; (try clear hb)))
      go_ret
      exact ⟨re_, pB2 HB.out GEq5.out GEq6.out⟩
    ·replace c10 := Bool.eq_false_iff.mpr c10
     subst c10
     have H1 : (some false) = some r := by rw [if_neg (show ¬ (false = true) by decide)] at H; exact H
     clear H
     have H := H1
     clear H1
     obtain rfl := Option.some.inj H
     go_enter Try.func32, Try.ntmps32
     go_wp2_with (first | ((with_reducible refine yb (N := 3) rfl ?_); refine bx 3 #[.int .i64 a0_0, .slice A0_1 l0_1.length c0_1] 28 ?_; intro gbq5 hg w36 hbox hb; have BKq5 := aQ (hbox); have GWq5 := gB HB hg; have GEq5 := gB HB hg; replace HB := bs HB hb; clear hb hbox hg) | ((with_reducible refine yb (N := 4) rfl ?_); refine bx 4 #[.int .i64 a1_0, .slice A1_1 l1_1.length c1_1] 28 ?_; intro gbq6 hg w37 hbox hb; have BKq6 := aQ (hbox); have GWq6 := gB HB hg; have GEq6 := gB HB hg; replace HB := bs HB hb; have NBq5_q6 := nl BKq5 hg; have NBq6_q5 := ng BKq5 hg; replace BKq5 := bb BKq5 hb; clear hb hbox hg; have hnb38 := NBq5_q6.out; have hnc38 := NBq6_q5.out; obtain ⟨hcz39_0, hcz39_1, hfz39_0, hfz39_1⟩ := c2 BKq5) | (refine gq 52 (some 8) Try.func52 #[.agg #[.int .i64 a0_0, .slice A0_1 l0_1.length c0_1]] ?_; (with_reducible refine (yM.calls k a0_0 _ _ l0_1 true _ ?side1 ?side2 A4.out).mono ?_); (case side1 => exact pC (Kd.C_below HR0_1.out HB.out)); (case side2 => exact HC0_1.out); rintro e w40 ⟨rfl, hb⟩; refine ⟨_, rfl, ?_⟩; replace BKq5 := bb BKq5 hb; replace BKq6 := bb BKq6 hb; replace HB := bs HB hb; (try clear hb); obtain ⟨hcz41_0, hcz41_1, hfz41_0, hfz41_1⟩ := c2 BKq6) | (go_at_call 52; (with_reducible refine (yM.calls k a1_0 _ _ l1_1 true _ ?side1 ?side2 A6.out).mono ?_); (case side1 => exact pC (Kd.C_below HR1_1.out HB.out)); (case side2 => exact HC1_1.out); rintro e w42 ⟨rfl, hb⟩; replace BKq5 := bb BKq5 hb; replace BKq6 := bb BKq6 hb; replace HB := bs HB hb; (try clear hb); obtain ⟨hcz43_0, hcz43_1, hfz43_0, hfz43_1⟩ := c2 BKq5; obtain ⟨hcz44_0, hcz44_1, hfz44_0, hfz44_1⟩ := c2 BKq6) | (go_at_call 55; (with_reducible refine (yJ.calls a0_0 a2 false _ A9.out).mono ?_); rintro e w' ⟨rfl, ⟨nd, rfl⟩⟩))
     go_ret
     exact ⟨re_, pB2 HB.out GEq5.out GEq6.out⟩
   ·rw [if_neg c8] at H
    have c8b0 : (a0_0 == a1_0) = false := beq_eq_false_iff_ne.mpr c8
    have c8b1 : (a0_0 != a1_0) = true := bne_iff_ne.mpr c8
    obtain rfl := Option.some.inj H
    go_enter Try.func32, Try.ntmps32
    go_wp2_with (first | ((with_reducible refine yb (N := 3) rfl ?_); refine bx 3 #[.int .i64 a0_0, .slice A0_1 l0_1.length c0_1] 28 ?_; intro gbq5 hg w45 hbox hb; have BKq5 := aQ (hbox); have GWq5 := gB HB hg; have GEq5 := gB HB hg; replace HB := bs HB hb; clear hb hbox hg) | ((with_reducible refine yb (N := 4) rfl ?_); refine bx 4 #[.int .i64 a1_0, .slice A1_1 l1_1.length c1_1] 28 ?_; intro gbq6 hg w46 hbox hb; have BKq6 := aQ (hbox); have GWq6 := gB HB hg; have GEq6 := gB HB hg; replace HB := bs HB hb; have NBq5_q6 := nl BKq5 hg; have NBq6_q5 := ng BKq5 hg; replace BKq5 := bb BKq5 hb; clear hb hbox hg; have hnb47 := NBq5_q6.out; have hnc47 := NBq6_q5.out; obtain ⟨hcz48_0, hcz48_1, hfz48_0, hfz48_1⟩ := c2 BKq5) | (refine gq 52 (some 8) Try.func52 #[.agg #[.int .i64 a0_0, .slice A0_1 l0_1.length c0_1]] ?_; (with_reducible refine (yM.calls k a0_0 _ _ l0_1 true _ ?side1 ?side2 A4.out).mono ?_); (case side1 => exact pC (Kd.C_below HR0_1.out HB.out)); (case side2 => exact HC0_1.out); rintro e w49 ⟨rfl, hb⟩; refine ⟨_, rfl, ?_⟩; replace BKq5 := bb BKq5 hb; replace BKq6 := bb BKq6 hb; replace HB := bs HB hb; (try clear hb); obtain ⟨hcz50_0, hcz50_1, hfz50_0, hfz50_1⟩ := c2 BKq6) | (go_at_call 52; (with_reducible refine (yM.calls k a1_0 _ _ l1_1 true _ ?side1 ?side2 A6.out).mono ?_); (case side1 => exact pC (Kd.C_below HR1_1.out HB.out)); (case side2 => exact HC1_1.out); rintro e w51 ⟨rfl, hb⟩; replace BKq5 := bb BKq5 hb; replace BKq6 := bb BKq6 hb; replace HB := bs HB hb; (try clear hb); obtain ⟨hcz52_0, hcz52_1, hfz52_0, hfz52_1⟩ := c2 BKq5; obtain ⟨hcz53_0, hcz53_1, hfz53_0, hfz53_1⟩ := c2 BKq6))
    go_ret
    exact ⟨re_, pB2 HB.out GEq5.out GEq6.out⟩
  ·replace c7 := Bool.eq_false_iff.mpr c7
   subst c7
   have H1 : (some false) = some r := by rw [if_neg (show ¬ (false = true) by decide)] at H; exact H
   clear H
   have H := H1
   clear H1
   obtain rfl := Option.some.inj H
   go_enter Try.func32, Try.ntmps32
   go_wp2_with (first | ((with_reducible refine yb (N := 3) rfl ?_); refine bx 3 #[.int .i64 a0_0, .slice A0_1 l0_1.length c0_1] 28 ?_; intro gbq5 hg w54 hbox hb; have BKq5 := aQ (hbox); have GWq5 := gB HB hg; have GEq5 := gB HB hg; replace HB := bs HB hb; clear hb hbox hg) | ((with_reducible refine yb (N := 4) rfl ?_); refine bx 4 #[.int .i64 a1_0, .slice A1_1 l1_1.length c1_1] 28 ?_; intro gbq6 hg w55 hbox hb; have BKq6 := aQ (hbox); have GWq6 := gB HB hg; have GEq6 := gB HB hg; replace HB := bs HB hb; have NBq5_q6 := nl BKq5 hg; have NBq6_q5 := ng BKq5 hg; replace BKq5 := bb BKq5 hb; clear hb hbox hg; have hnb56 := NBq5_q6.out; have hnc56 := NBq6_q5.out; obtain ⟨hcz57_0, hcz57_1, hfz57_0, hfz57_1⟩ := c2 BKq5) | (refine gq 52 (some 8) Try.func52 #[.agg #[.int .i64 a0_0, .slice A0_1 l0_1.length c0_1]] ?_; (with_reducible refine (yM.calls k a0_0 _ _ l0_1 true _ ?side1 ?side2 A4.out).mono ?_); (case side1 => exact pC (Kd.C_below HR0_1.out HB.out)); (case side2 => exact HC0_1.out); rintro e w58 ⟨rfl, hb⟩; refine ⟨_, rfl, ?_⟩; replace BKq5 := bb BKq5 hb; replace BKq6 := bb BKq6 hb; replace HB := bs HB hb; (try clear hb); obtain ⟨hcz59_0, hcz59_1, hfz59_0, hfz59_1⟩ := c2 BKq6) | (go_at_call 52; (with_reducible refine (yM.calls k a1_0 _ _ l1_1 false _ ?side1 ?side2 A6.out).mono ?_); (case side1 => exact pC (Kd.C_below HR1_1.out HB.out)); (case side2 => exact HC1_1.out); rintro e w60 ⟨rfl, hb⟩; replace BKq5 := bb BKq5 hb; replace BKq6 := bb BKq6 hb; replace HB := bs HB hb; (try clear hb)))
   go_ret
   exact ⟨re_, pB2 HB.out GEq5.out GEq6.out⟩
 ·replace c5 := Bool.eq_false_iff.mpr c5
  subst c5
  have H1 : (some false) = some r := by rw [if_neg (show ¬ (false = true) by decide)] at H; exact H
  clear H
  have H := H1
  clear H1
  obtain rfl := Option.some.inj H
  go_enter Try.func32, Try.ntmps32
  go_wp2_with (first | ((with_reducible refine yb (N := 3) rfl ?_); refine bx 3 #[.int .i64 a0_0, .slice A0_1 l0_1.length c0_1] 28 ?_; intro gbq5 hg w61 hbox hb; have BKq5 := aQ (hbox); have GWq5 := gB HB hg; have GEq5 := gB HB hg; replace HB := bs HB hb; clear hb hbox hg) | ((with_reducible refine yb (N := 4) rfl ?_); refine bx 4 #[.int .i64 a1_0, .slice A1_1 l1_1.length c1_1] 28 ?_; intro gbq6 hg w62 hbox hb; have BKq6 := aQ (hbox); have GWq6 := gB HB hg; have GEq6 := gB HB hg; replace HB := bs HB hb; have NBq5_q6 := nl BKq5 hg; have NBq6_q5 := ng BKq5 hg; replace BKq5 := bb BKq5 hb; clear hb hbox hg; have hnb63 := NBq5_q6.out; have hnc63 := NBq6_q5.out; obtain ⟨hcz64_0, hcz64_1, hfz64_0, hfz64_1⟩ := c2 BKq5) | (refine gq 52 (some 8) Try.func52 #[.agg #[.int .i64 a0_0, .slice A0_1 l0_1.length c0_1]] ?_; (with_reducible refine (yM.calls k a0_0 _ _ l0_1 false _ ?side1 ?side2 A4.out).mono ?_); (case side1 => exact pC (Kd.C_below HR0_1.out HB.out)); (case side2 => exact HC0_1.out); rintro e w65 ⟨rfl, hb⟩; refine ⟨_, rfl, ?_⟩; replace BKq5 := bb BKq5 hb; replace BKq6 := bb BKq6 hb; replace HB := bs HB hb; (try clear hb)))
  go_ret
  exact ⟨re_, pB2 HB.out GEq5.out GEq6.out⟩
def yw.l0 : Nat → Int → Int → Int → List Int → Int → List Int → Option (Int × Bool)
 | 0, _, _, _, _, _, _ => none
 | k + 1, x6, x7, x26002000, x26002001, x26003000, x26003001 => (yT.f x26002000).bind fun tq0 => (if x7 ≤ tq0 then ((yD.f k x7).bind fun tq1 => ((yD.f k x6).bind fun tq2 => (if tq1 > tq2 then ((yaA.f k x26002000 x26002001 x7).bind fun tq3 => (if tq3 = true then ((yaA.f k x26003000 x26003001 x7).bind fun tq4 => (if tq4 = true then (yw.l0 k x7 (wrap64 (x7 + 1)) x26002000 x26002001 x26003000 x26003001) else (yw.l0 k x6 (wrap64 (x7 + 1)) x26002000 x26002001 x26003000 x26003001))) else (yw.l0 k x6 (wrap64 (x7 + 1)) x26002000 x26002001 x26003000 x26003001))) else (yw.l0 k x6 (wrap64 (x7 + 1)) x26002000 x26002001 x26003000 x26003001)))) else (some (x6, true)))
def yw.f (k : Nat) (a0_0 : Int) (l0_1 : List Int) (a1_0 : Int) (l1_1 : List Int) : Option (Int × Bool) := (yaH.f k a0_0 l0_1 a1_0 l1_1 0).bind fun tq5 => (if tq5 = true then (yw.l0 k 0 0 a0_0 l0_1 a1_0 l1_1) else (some (0, false)))
theorem yw.calls (k : Nat) (a0_0 : Int) (A0_1 : Option Addr) (c0_1 : Nat) (l0_1 : List Int) (a1_0 : Int) (A1_1 : Option Addr) (c1_1 : Nat) (l1_1 : List Int) (r1 : Int) (r2 : Bool) (w : World) (hr0_1 : Kd.C (Kd.int .i64) w A0_1 l0_1.length l0_1) (hc0_1 : l0_1.length ≤ c0_1) (hr1_1 : Kd.C (Kd.int .i64) w A1_1 l1_1.length l1_1) (hc1_1 : l1_1.length ≤ c1_1) (h : yw.f k a0_0 l0_1 a1_0 l1_1 = some (r1, r2)) :
  Calls Try.prog 25 #[.agg #[.int .i64 a0_0, .slice A0_1 l0_1.length c0_1], .agg #[.int .i64 a1_0, .slice A1_1 l1_1.length c1_1]] w fun e w' => e = .returned (.tuple #[.int .i64 r1, .bool r2]) ∧ Below w.heap.size w w' := by
 have hu28 := Try.underlying28
 have HR0_1 := aQ hr0_1
 have HC0_1 := aQ hc0_1
 clear hr0_1 hc0_1
 have HR1_1 := aQ hr1_1
 have HC1_1 := aQ hc1_1
 clear hr1_1 hc1_1
 have HB := aQ (Below.refl w.heap.size w)
 have H := h
 clear h
 unfold yw.f at H
 (try dsimp only at H)
 replace H := bo H; obtain ⟨tq5, A3, H⟩ := H
 (try dsimp only at H)
 by_cases c4 : tq5 = true
 ·subst c4
  rw [if_pos rfl] at H
  have H' := aQ H
  clear H
  go_enter Try.func25, Try.ntmps25
  go_wp2_with (first | ((with_reducible refine yb (N := 2) rfl ?_); refine bx 2 #[.int .i64 a0_0, .slice A0_1 l0_1.length c0_1] 28 ?_; intro gbq6 hg w5 hbox hb; have BKq6 := aQ (hbox); have GWq6 := gB HB hg; have GEq6 := gB HB hg; replace HB := bs HB hb; clear hb hbox hg) | ((with_reducible refine yb (N := 3) rfl ?_); refine bx 3 #[.int .i64 a1_0, .slice A1_1 l1_1.length c1_1] 28 ?_; intro gbq7 hg w6 hbox hb; have BKq7 := aQ (hbox); have GWq7 := gB HB hg; have GEq7 := gB HB hg; replace HB := bs HB hb; have NBq6_q7 := nl BKq6 hg; have NBq7_q6 := ng BKq6 hg; replace BKq6 := bb BKq6 hb; clear hb hbox hg; have hnb7 := NBq6_q7.out; have hnc7 := NBq7_q6.out; obtain ⟨hcz8_0, hcz8_1, hfz8_0, hfz8_1⟩ := c2 BKq6; obtain ⟨hcz9_0, hcz9_1, hfz9_0, hfz9_1⟩ := c2 BKq7) | (refine gq 32 (some 10) Try.func32 #[.agg #[.int .i64 a0_0, .slice A0_1 l0_1.length c0_1], .agg #[.int .i64 a1_0, .slice A1_1 l1_1.length c1_1], .int .i64 0] ?_; (with_reducible refine (yaH.calls k a0_0 _ _ l0_1 a1_0 _ _ l1_1 0 true _ ?side1 ?side2 ?side3 ?side4 A3.out).mono ?_); (case side1 => exact pC (Kd.C_below HR0_1.out HB.out)); (case side2 => exact HC0_1.out); (case side3 => exact pC (Kd.C_below HR1_1.out HB.out)); (case side4 => exact HC1_1.out); rintro e w10 ⟨rfl, hb⟩; refine ⟨_, rfl, ?_⟩; replace BKq6 := bb BKq6 hb; replace BKq7 := bb BKq7 hb; replace HB := bs HB hb; (try clear hb)))
  go_loopg [6, 7] k (fun kq v6 v7 w' => ∃ (x6_1 : Int) (x7_1 : Int), v6 = .int .i64 x6_1 ∧ v7 = .int .i64 x7_1 ∧ Aside0 (yw.l0 kq x6_1 x7_1 a0_0 l0_1 a1_0 l1_1 = some (r1, r2)) ∧ Aside0 (kq ≤ k) ∧ Aside0 (w'.heap[gbq6]? = some (.cells #[.int .i64 a0_0, (.slice A0_1 l0_1.length c0_1)] 28 (0, 0))) ∧ Aside0 (w'.heap[gbq7]? = some (.cells #[.int .i64 a1_0, (.slice A1_1 l1_1.length c1_1)] 28 (0, 0))) ∧ Aside0 (Below w.heap.size w w'))
  case atStart => exact ⟨(0), (0), rs_, rs_, H', ⟨Nat.le_refl _⟩, ⟨pk BKq6.out⟩, ⟨pk BKq7.out⟩, ⟨pB2 HB.out GEq6.out GEq7.out⟩⟩
  clear H'
  try clear c1
  try clear c2
  try clear p2
  try clear c3
  try clear c4
  try clear c7
  try clear hcz8_0
  try clear hcz8_1
  try clear hcz9_0
  try clear hcz9_1
  try clear hfz8_0
  try clear hfz8_1
  try clear hfz9_0
  try clear hfz9_1
  obtain ⟨x6_1, x7_1, rfl, rfl, HA, HK1, BKq6, BKq7, HB⟩ := hrel
  rcases gk with _ | k1
  ·exact absurd HA.out (by simp [yw.l0])
  have H := HA.out
  clear HA
  simp only [yw.l0] at H
  replace H := bo H; obtain ⟨tq0, A11, H⟩ := H
  (try dsimp only at H)
  by_cases c12 : x7_1 ≤ tq0
  ·rw [if_pos c12] at H
   have c12b0 := decide_eq_true c12
   clear c12
   replace H := bo H; obtain ⟨tq1, A13, H⟩ := H
   (try dsimp only at H)
   replace H := bo H; obtain ⟨tq2, A14, H⟩ := H
   (try dsimp only at H)
   by_cases c15 : tq1 > tq2
   ·rw [if_pos c15] at H
    have c15b0 := decide_eq_true c15
    clear c15
    replace H := bo H; obtain ⟨tq3, A16, H⟩ := H
    (try dsimp only at H)
    by_cases c17 : tq3 = true
    ·subst c17
     rw [if_pos rfl] at H
     replace H := bo H; obtain ⟨tq4, A18, H⟩ := H
     (try dsimp only at H)
     by_cases c19 : tq4 = true
     ·subst c19
      rw [if_pos rfl] at H
      have H' := aQ H
      clear H
      have hnb20 := NBq6_q7.out
      have hnc20 := NBq7_q6.out
      obtain ⟨hcz21_0, hcz21_1, hfz21_0, hfz21_1⟩ := c2 BKq6
      go_wp2_with (first | (refine gq 81 (some 15) Try.func81 #[.int .i64 a0_0] ?_; (with_reducible refine (yT.calls a0_0 tq0 _ A11.out).mono ?_); rintro e w' ⟨rfl, ⟨nd, rfl⟩⟩; refine ⟨_, rfl, ?_⟩) | (refine gq 33 (some 20) Try.func33 #[.int .i64 x7_1] ?_; (with_reducible refine (yD.calls k1 x7_1 tq1 _ A13.out).mono ?_); rintro e w' ⟨rfl, ⟨nd, rfl⟩⟩; refine ⟨_, rfl, ?_⟩) | (refine gq 33 (some 22) Try.func33 #[.int .i64 x6_1] ?_; (with_reducible refine (yD.calls k1 x6_1 tq2 _ A14.out).mono ?_); rintro e w' ⟨rfl, ⟨nd, rfl⟩⟩; refine ⟨_, rfl, ?_⟩) | (go_at_call 82; (with_reducible refine (yaA.calls k1 a0_0 _ _ l0_1 x7_1 true _ ?side1 ?side2 A16.out).mono ?_); (case side1 => exact pC ((Kd.C_below HR0_1.out (pB2 HB.out GEq6.out GEq7.out)))); (case side2 => exact HC0_1.out); rintro e w22 ⟨rfl, hb⟩; replace BKq6 := bb BKq6 hb; replace BKq7 := bb BKq7 hb; replace HB := bs HB hb; (try clear hb); obtain ⟨hcz23_0, hcz23_1, hfz23_0, hfz23_1⟩ := c2 BKq7) | (go_at_call 82; (with_reducible refine (yaA.calls k1 a1_0 _ _ l1_1 x7_1 true _ ?side1 ?side2 A18.out).mono ?_); (case side1 => exact pC (Kd.C_below HR1_1.out HB.out)); (case side2 => exact HC1_1.out); rintro e w24 ⟨rfl, hb⟩; replace BKq6 := bb BKq6 hb; replace BKq7 := bb BKq7 hb; replace HB := bs HB hb; (try clear hb)))
      go_roundg k1
      case measure => have := HK1.out; omega
      case rel => exact ⟨(x7_1), (wrap64 (x7_1 + 1)), rs_, rs_, H', ⟨by have := HK1.out; omega⟩, ⟨pk BKq6.out⟩, ⟨pk BKq7.out⟩, ⟨pB2 HB.out GEq6.out GEq7.out⟩⟩
     ·replace c19 := Bool.eq_false_iff.mpr c19
      subst c19
      have H1 : (yw.l0 k1 x6_1 (wrap64 (x7_1 + 1)) a0_0 l0_1 a1_0 l1_1) = some (r1, r2) := by rw [if_neg (show ¬ (false = true) by decide)] at H; exact H
      clear H
      have H := H1
      clear H1
      have H' := aQ H
      clear H
      have hnb25 := NBq6_q7.out
      have hnc25 := NBq7_q6.out
      obtain ⟨hcz26_0, hcz26_1, hfz26_0, hfz26_1⟩ := c2 BKq6
      go_wp2_with (first | (refine gq 81 (some 15) Try.func81 #[.int .i64 a0_0] ?_; (with_reducible refine (yT.calls a0_0 tq0 _ A11.out).mono ?_); rintro e w' ⟨rfl, ⟨nd, rfl⟩⟩; refine ⟨_, rfl, ?_⟩) | (refine gq 33 (some 20) Try.func33 #[.int .i64 x7_1] ?_; (with_reducible refine (yD.calls k1 x7_1 tq1 _ A13.out).mono ?_); rintro e w' ⟨rfl, ⟨nd, rfl⟩⟩; refine ⟨_, rfl, ?_⟩) | (refine gq 33 (some 22) Try.func33 #[.int .i64 x6_1] ?_; (with_reducible refine (yD.calls k1 x6_1 tq2 _ A14.out).mono ?_); rintro e w' ⟨rfl, ⟨nd, rfl⟩⟩; refine ⟨_, rfl, ?_⟩) | (go_at_call 82; (with_reducible refine (yaA.calls k1 a0_0 _ _ l0_1 x7_1 true _ ?side1 ?side2 A16.out).mono ?_); (case side1 => exact pC ((Kd.C_below HR0_1.out (pB2 HB.out GEq6.out GEq7.out)))); (case side2 => exact HC0_1.out); rintro e w27 ⟨rfl, hb⟩; replace BKq6 := bb BKq6 hb; replace BKq7 := bb BKq7 hb; replace HB := bs HB hb; (try clear hb); obtain ⟨hcz28_0, hcz28_1, hfz28_0, hfz28_1⟩ := c2 BKq7) | (go_at_call 82; (with_reducible refine (yaA.calls k1 a1_0 _ _ l1_1 x7_1 false _ ?side1 ?side2 A18.out).mono ?_); (case side1 => exact pC (Kd.C_below HR1_1.out HB.out)); (case side2 => exact HC1_1.out); rintro e w29 ⟨rfl, hb⟩; replace BKq6 := bb BKq6 hb; replace BKq7 := bb BKq7 hb; replace HB := bs HB hb; (try clear hb)))
      go_roundg k1
      case measure => have := HK1.out; omega
      case rel => exact ⟨(x6_1), (wrap64 (x7_1 + 1)), rs_, rs_, H', ⟨by have := HK1.out; omega⟩, ⟨pk BKq6.out⟩, ⟨pk BKq7.out⟩, ⟨pB2 HB.out GEq6.out GEq7.out⟩⟩
    ·replace c17 := Bool.eq_false_iff.mpr c17
     subst c17
     have H1 : (yw.l0 k1 x6_1 (wrap64 (x7_1 + 1)) a0_0 l0_1 a1_0 l1_1) = some (r1, r2) := by rw [if_neg (show ¬ (false = true) by decide)] at H; exact H
     clear H
     have H := H1
     clear H1
     have H' := aQ H
     clear H
     have hnb30 := NBq6_q7.out
     have hnc30 := NBq7_q6.out
     obtain ⟨hcz31_0, hcz31_1, hfz31_0, hfz31_1⟩ := c2 BKq6
     go_wp2_with (first | (refine gq 81 (some 15) Try.func81 #[.int .i64 a0_0] ?_; (with_reducible refine (yT.calls a0_0 tq0 _ A11.out).mono ?_); rintro e w' ⟨rfl, ⟨nd, rfl⟩⟩; refine ⟨_, rfl, ?_⟩) | (refine gq 33 (some 20) Try.func33 #[.int .i64 x7_1] ?_; (with_reducible refine (yD.calls k1 x7_1 tq1 _ A13.out).mono ?_); rintro e w' ⟨rfl, ⟨nd, rfl⟩⟩; refine ⟨_, rfl, ?_⟩) | (refine gq 33 (some 22) Try.func33 #[.int .i64 x6_1] ?_; (with_reducible refine (yD.calls k1 x6_1 tq2 _ A14.out).mono ?_); rintro e w' ⟨rfl, ⟨nd, rfl⟩⟩; refine ⟨_, rfl, ?_⟩) | (go_at_call 82; (with_reducible refine (yaA.calls k1 a0_0 _ _ l0_1 x7_1 false _ ?side1 ?side2 A16.out).mono ?_); (case side1 => exact pC ((Kd.C_below HR0_1.out (pB2 HB.out GEq6.out GEq7.out)))); (case side2 => exact HC0_1.out); rintro e w32 ⟨rfl, hb⟩; replace BKq6 := bb BKq6 hb; replace BKq7 := bb BKq7 hb; replace HB := bs HB hb; (try clear hb)))
     go_roundg k1
     case measure => have := HK1.out; omega
     case rel => exact ⟨(x6_1), (wrap64 (x7_1 + 1)), rs_, rs_, H', ⟨by have := HK1.out; omega⟩, ⟨pk BKq6.out⟩, ⟨pk BKq7.out⟩, ⟨pB2 HB.out GEq6.out GEq7.out⟩⟩
   ·rw [if_neg c15] at H
    have c15b0 := decide_eq_false c15
    clear c15
    have H' := aQ H
    clear H
    have hnb33 := NBq6_q7.out
    have hnc33 := NBq7_q6.out
    obtain ⟨hcz34_0, hcz34_1, hfz34_0, hfz34_1⟩ := c2 BKq6
    go_wp2_with (first | (refine gq 81 (some 15) Try.func81 #[.int .i64 a0_0] ?_; (with_reducible refine (yT.calls a0_0 tq0 _ A11.out).mono ?_); rintro e w' ⟨rfl, ⟨nd, rfl⟩⟩; refine ⟨_, rfl, ?_⟩) | (refine gq 33 (some 20) Try.func33 #[.int .i64 x7_1] ?_; (with_reducible refine (yD.calls k1 x7_1 tq1 _ A13.out).mono ?_); rintro e w' ⟨rfl, ⟨nd, rfl⟩⟩; refine ⟨_, rfl, ?_⟩) | (refine gq 33 (some 22) Try.func33 #[.int .i64 x6_1] ?_; (with_reducible refine (yD.calls k1 x6_1 tq2 _ A14.out).mono ?_); rintro e w' ⟨rfl, ⟨nd, rfl⟩⟩; refine ⟨_, rfl, ?_⟩))
    go_roundg k1
    case measure => have := HK1.out; omega
    case rel => exact ⟨(x6_1), (wrap64 (x7_1 + 1)), rs_, rs_, H', ⟨by have := HK1.out; omega⟩, ⟨pk BKq6.out⟩, ⟨pk BKq7.out⟩, ⟨pB2 HB.out GEq6.out GEq7.out⟩⟩
  ·rw [if_neg c12] at H
   have c12b0 := decide_eq_false c12
   clear c12
   simp only [Option.some.injEq, Prod.mk.injEq] at H
   obtain ⟨rfl, rfl⟩ := H
   have hnb35 := NBq6_q7.out
   have hnc35 := NBq7_q6.out
   obtain ⟨hcz36_0, hcz36_1, hfz36_0, hfz36_1⟩ := c2 BKq6
   go_wp2_with (first | (refine gq 81 (some 15) Try.func81 #[.int .i64 a0_0] ?_; (with_reducible refine (yT.calls a0_0 tq0 _ A11.out).mono ?_); rintro e w' ⟨rfl, ⟨nd, rfl⟩⟩; refine ⟨_, rfl, ?_⟩))
   go_ret2
   exact ⟨re_, pB2 HB.out GEq6.out GEq7.out⟩
 ·replace c4 := Bool.eq_false_iff.mpr c4
  subst c4
  have H1 : (some (0, false)) = some (r1, r2) := by rw [if_neg (show ¬ (false = true) by decide)] at H; exact H
  clear H
  have H := H1
  clear H1
  simp only [Option.some.injEq, Prod.mk.injEq] at H
  obtain ⟨rfl, rfl⟩ := H
  go_enter Try.func25, Try.ntmps25
  go_wp2_with (first | ((with_reducible refine yb (N := 2) rfl ?_); refine bx 2 #[.int .i64 a0_0, .slice A0_1 l0_1.length c0_1] 28 ?_; intro gbq6 hg w37 hbox hb; have BKq6 := aQ (hbox); have GWq6 := gB HB hg; have GEq6 := gB HB hg; replace HB := bs HB hb; clear hb hbox hg) | ((with_reducible refine yb (N := 3) rfl ?_); refine bx 3 #[.int .i64 a1_0, .slice A1_1 l1_1.length c1_1] 28 ?_; intro gbq7 hg w38 hbox hb; have BKq7 := aQ (hbox); have GWq7 := gB HB hg; have GEq7 := gB HB hg; replace HB := bs HB hb; have NBq6_q7 := nl BKq6 hg; have NBq7_q6 := ng BKq6 hg; replace BKq6 := bb BKq6 hb; clear hb hbox hg; have hnb39 := NBq6_q7.out; have hnc39 := NBq7_q6.out; obtain ⟨hcz40_0, hcz40_1, hfz40_0, hfz40_1⟩ := c2 BKq6; obtain ⟨hcz41_0, hcz41_1, hfz41_0, hfz41_1⟩ := c2 BKq7) | (refine gq 32 (some 10) Try.func32 #[.agg #[.int .i64 a0_0, .slice A0_1 l0_1.length c0_1], .agg #[.int .i64 a1_0, .slice A1_1 l1_1.length c1_1], .int .i64 0] ?_; (with_reducible refine (yaH.calls k a0_0 _ _ l0_1 a1_0 _ _ l1_1 0 false _ ?side1 ?side2 ?side3 ?side4 A3.out).mono ?_); (case side1 => exact pC (Kd.C_below HR0_1.out HB.out)); (case side2 => exact HC0_1.out); (case side3 => exact pC (Kd.C_below HR1_1.out HB.out)); (case side4 => exact HC1_1.out); rintro e w42 ⟨rfl, hb⟩; refine ⟨_, rfl, ?_⟩; replace BKq6 := bb BKq6 hb; replace BKq7 := bb BKq7 hb; replace HB := bs HB hb; (try clear hb)))
  go_ret2
  exact ⟨re_, pB2 HB.out GEq6.out GEq7.out⟩
def yav.l0 : Nat → Int → Int → List Int → Int → Int → Option (Int)
 | 0, _, _, _, _, _ => none
 | k + 1, x1, x5, x9, x10, x11 => if x11 < x10 then (if 0 ≤ x11 then (if x11 < (x9.length : Int) then ((yaG.f (Go.bits .and .i64 x1 (rd x9 x11))).bind fun tq0 => (yav.l0 k x1 (mx x5 tq0) x9 x10 (wrap64 (x11 + 1)))) else (none)) else (none)) else (some x5)
def yav.f (k : Nat) (a0_0 : Int) (l0_1 : List Int) (a1 : Int) : Option (Int) := yav.l0 k a1 0 l0_1 (l0_1.length : Int) 0
theorem yav.calls (k : Nat) (a0_0 : Int) (A0_1 : Option Addr) (c0_1 : Nat) (l0_1 : List Int) (a1 : Int) (r : Int) (w : World) (hr0_1 : Kd.C (Kd.int .i64) w A0_1 l0_1.length l0_1) (hc0_1 : l0_1.length ≤ c0_1) (h : yav.f k a0_0 l0_1 a1 = some r) :
  Calls Try.prog 87 #[.agg #[.int .i64 a0_0, .slice A0_1 l0_1.length c0_1], .int .i64 a1] w fun e w' => e = .returned (.int .i64 r) ∧ Below w.heap.size w w' := by
 have hu28 := Try.underlying28
 have HR0_1 := aQ hr0_1
 have HC0_1 := aQ hc0_1
 clear hr0_1 hc0_1
 have HB := aQ (Below.refl w.heap.size w)
 have H : (yav.l0 k a1 0 l0_1 (l0_1.length : Int) 0) = some r := h
 clear h
 have H' := aQ H
 clear H
 go_enter Try.func87, Try.ntmps87
 go_wp2_with (first | ((with_reducible refine yb (N := 2) rfl ?_); refine bx 2 #[.int .i64 a0_0, .slice A0_1 l0_1.length c0_1] 28 ?_; intro gbq1 hg w3 hbox hb; have BKq1 := aQ (hbox); have GWq1 := gB HB hg; have GEq1 := gB HB hg; replace HB := bs HB hb; clear hb hbox hg; obtain ⟨hcz4_0, hcz4_1, hfz4_0, hfz4_1⟩ := c2 BKq1))
 go_loopg [5, 11] k (fun kq v5 v11 w' => ∃ (x5_1 : Int) (x11_1 : Int), v5 = .int .i64 x5_1 ∧ v11 = .int .i64 x11_1 ∧ Aside0 (yav.l0 kq a1 x5_1 l0_1 (l0_1.length : Int) x11_1 = some r) ∧ Aside0 (kq ≤ k) ∧ Aside0 (w'.heap[gbq1]? = some (.cells #[.int .i64 a0_0, (.slice A0_1 l0_1.length c0_1)] 28 (0, 0))) ∧ Aside0 (Below w.heap.size w w'))
 case atStart => exact ⟨(0), (0), rs_, rs_, H', ⟨Nat.le_refl _⟩, ⟨pk BKq1.out⟩, ⟨pB1 HB.out GEq1.out⟩⟩
 clear H'
 try clear p2
 try clear hcz4_0
 try clear hcz4_1
 try clear hfz4_0
 try clear hfz4_1
 obtain ⟨x5_1, x11_1, rfl, rfl, HA, HK1, BKq1, HB⟩ := hrel
 rcases gk with _ | k1
 ·exact absurd HA.out (by simp [yav.l0])
 have H := HA.out
 clear HA
 simp only [yav.l0] at H
 by_cases c5 : x11_1 < (l0_1.length : Int)
 ·rw [if_pos c5] at H
  have c5b0 := decide_eq_true c5
  clear c5
  replace H := gd H; obtain ⟨c6, H⟩ := H
  have c6b0 := decide_eq_true c6
  clear c6
  replace H := gd H; obtain ⟨c7, H⟩ := H
  have c7b0 := decide_eq_true c7
  clear c7
  replace H := bo H; obtain ⟨tq0, A8, H⟩ := H
  (try dsimp only at H)
  obtain ⟨ji9, hji9⟩ : ∃ j_ : Int, (mx x5_1 tq0) = j_ := ⟨_, rfl⟩
  replace H : (yav.l0 k1 a1 ji9 l0_1 (l0_1.length : Int) (wrap64 (x11_1 + 1))) = some r := by first | (rw [hji9] at H; exact H) | (simp only [hji9] at H ⊢; exact H)
  (try rw [hji9] at A8)
  have hji9_ : (if x5_1 < tq0 then tq0 else x5_1) = ji9 := hji9
  have H' := aQ H
  clear H
  have pq2 : 0 ≤ (x11_1 : Int) := of_decide_eq_true as_
  have qq2 : x11_1 < (l0_1.length : Int) := of_decide_eq_true as_
  obtain ⟨adq2, eq2, hxq2_0⟩ := Kd.at_int HR0_1.out x11_1 pq2 qq2
  cases eq2
  replace hxq2_0 := (HB.out.cell (World.block_lt_of_cell? w _ hxq2_0)).trans hxq2_0
  replace pq2 := eq_true pq2
  replace qq2 := eq_true qq2
  go_wp2_with (first | (refine gq 80 (some 19) Try.func80 #[.int .i64 (Go.bits .and .i64 a1 (rd l0_1 x11_1))] ?_; (with_reducible refine (yaG.calls (Go.bits .and .i64 a1 (rd l0_1 x11_1)) tq0 _ A8.out).mono ?_); rintro e w' ⟨rfl, ⟨nd, rfl⟩⟩; refine ⟨_, rfl, ?_⟩))
  go_roundg k1
  case measure => have := HK1.out; omega
  case rel => exact ⟨(ji9), (wrap64 (x11_1 + 1)), (by first | rfl | (simp; done) | (simp only [← hji9] <;> (first | rfl | simp)) | (simp [*]; done)), rs_, H', ⟨by have := HK1.out; omega⟩, ⟨pk BKq1.out⟩, ⟨pB1 HB.out GEq1.out⟩⟩
 ·rw [if_neg c5] at H
  have c5b0 := decide_eq_false c5
  clear c5
  obtain rfl := Option.some.inj H
  go_wp2
  go_ret
  exact ⟨re_, pB1 HB.out GEq1.out⟩
def yN.j0 : Nat → Int → Bool → Int → List Int → Int → List Int → Option (Int)
 | 0, _, _, _, _, _, _ => none
 | k + 1, x2, x17, x30002000, x30002001, x30003000, x30003001 => if x17 = true then (some (-1)) else ((yav.f k x30002000 x30002001 x2).bind fun tq0 => ((yaF.f x30002000).bind fun tq1 => ((yav.f k x30003000 x30003001 (Go.bits .andNot .i64 tq1 x2)).bind fun tq2 => (some (wrap64 (tq0 + tq2))))))
def yN.f (k : Nat) (a0_0 : Int) (l0_1 : List Int) (a1_0 : Int) (l1_1 : List Int) (a2 : Int) : Option (Int) := (yaE.f k a0_0 l0_1 a1_0 l1_1).bind fun tq3 => (if tq3 = true then ((ybj.f a0_0 a2).bind fun tq4 => (yN.j0 k a2 (!tq4) a0_0 l0_1 a1_0 l1_1)) else (yN.j0 k a2 true a0_0 l0_1 a1_0 l1_1))
def yN.T3 : Bool × List (List Nat × List Nat) := (true, [([], []), ([], []), ([0, 1], [0, 1]), ([], []), ([], []), ([4], [4]), ([5, 2], [5]), ([], []), ([6, 7], [6, 7]), ([3, 8, 6], [3, 8]), ([2, 9], [2, 9]), ([10, 9, 0, 1, 2, 3, 4, 5, 6, 7, 8, 9, 10], [10])])
def yN.B3 : List Nat := [0, 0, 3, 0, 0, 16, 55, 0, 247, 511, 1023, 2047]
theorem yN.tab3 : rtab .any (yco Try.f29 3) = yN.T3 := by kernel_rfl
theorem yN.bits3 : ybf yN.T3.2 yN.B3 = true := by kernel_rfl
theorem yN.calls (k : Nat) (a0_0 : Int) (A0_1 : Option Addr) (c0_1 : Nat) (l0_1 : List Int) (a1_0 : Int) (A1_1 : Option Addr) (c1_1 : Nat) (l1_1 : List Int) (a2 : Int) (r : Int) (w : World) (hr0_1 : Kd.C (Kd.int .i64) w A0_1 l0_1.length l0_1) (hc0_1 : l0_1.length ≤ c0_1) (hr1_1 : Kd.C (Kd.int .i64) w A1_1 l1_1.length l1_1) (hc1_1 : l1_1.length ≤ c1_1) (h : yN.f k a0_0 l0_1 a1_0 l1_1 a2 = some r) :
  Calls Try.prog 29 #[.agg #[.int .i64 a0_0, .slice A0_1 l0_1.length c0_1], .agg #[.int .i64 a1_0, .slice A1_1 l1_1.length c1_1], .int .i64 a2] w fun e w' => e = .returned (.int .i64 r) ∧ Below w.heap.size w w' := by
 have hu28 := Try.underlying28
 have HR0_1 := aQ hr0_1
 have HC0_1 := aQ hc0_1
 clear hr0_1 hc0_1
 have HR1_1 := aQ hr1_1
 have HC1_1 := aQ hc1_1
 clear hr1_1 hc1_1
 have HB := aQ (Below.refl w.heap.size w)
 have H := h
 clear h
 unfold yN.f at H
 (try dsimp only at H)
 have HC4 := aQ H
 clear H
 go_enter Try.func29, Try.ntmps29
 go_upto_region 1 with (first | ((with_reducible refine yb (N := 3) rfl ?_); refine bx 3 #[.int .i64 a0_0, .slice A0_1 l0_1.length c0_1] 28 ?_; intro gbq5 hg w5 hbox hb; have BKq5 := aQ (hbox); have GWq5 := gB HB hg; have GEq5 := gB HB hg; replace HB := bs HB hb; clear hb hbox hg) | ((with_reducible refine yb (N := 4) rfl ?_); refine bx 4 #[.int .i64 a1_0, .slice A1_1 l1_1.length c1_1] 28 ?_; intro gbq6 hg w6 hbox hb; have BKq6 := aQ (hbox); have GWq6 := gB HB hg; have GEq6 := gB HB hg; replace HB := bs HB hb; have NBq5_q6 := nl BKq5 hg; have NBq6_q5 := ng BKq5 hg; replace BKq5 := bb BKq5 hb; clear hb hbox hg))
 (try simp only [Act.put, List.setIfInBounds_toArray, List.set_cons_zero, List.set_cons_succ])
 go_cut [17] (fun v17 wc => ∃ (kq : Nat) (x17_3 : Bool), v17 = .bool x17_3 ∧ Aside0 (yN.j0 kq a2 x17_3 a0_0 l0_1 a1_0 l1_1 = some r) ∧ Aside0 (kq ≤ k) ∧ Aside0 (wc.heap[gbq5]? = some (.cells #[.int .i64 a0_0, (.slice A0_1 l0_1.length c0_1)] 28 (0, 0))) ∧ Aside0 (wc.heap[gbq6]? = some (.cells #[.int .i64 a1_0, (.slice A1_1 l1_1.length c1_1)] 28 (0, 0))) ∧ Aside0 (Below w.heap.size w wc))
 case first =>
  have H := HC4.out
  clear HC4
  replace H := bo H; obtain ⟨tq3, A7, H⟩ := H
  (try dsimp only at H)
  by_cases c8 : tq3 = true
  ·subst c8
   rw [if_pos rfl] at H
   replace H := bo H; obtain ⟨tq4, A9, H⟩ := H
   (try dsimp only at H)
   have H' := aQ H
   clear H
   have hnb10 := NBq5_q6.out
   have hnc10 := NBq6_q5.out
   obtain ⟨hcz11_0, hcz11_1, hfz11_0, hfz11_1⟩ := c2 BKq5
   obtain ⟨hcz12_0, hcz12_1, hfz12_0, hfz12_1⟩ := c2 BKq6
   go_wp2_with (first | (refine gq 78 (some 9) Try.func78 #[.agg #[.int .i64 a0_0, .slice A0_1 l0_1.length c0_1], .agg #[.int .i64 a1_0, .slice A1_1 l1_1.length c1_1]] ?_; (with_reducible refine (yaE.calls k a0_0 _ _ l0_1 a1_0 _ _ l1_1 true _ ?side1 ?side2 ?side3 ?side4 A7.out).mono ?_); (case side1 => exact pC (Kd.C_below HR0_1.out HB.out)); (case side2 => exact HC0_1.out); (case side3 => exact pC (Kd.C_below HR1_1.out HB.out)); (case side4 => exact HC1_1.out); rintro e w13 ⟨rfl, hb⟩; refine ⟨_, rfl, ?_⟩; replace BKq5 := bb BKq5 hb; replace BKq6 := bb BKq6 hb; replace HB := bs HB hb; (try clear hb); obtain ⟨hcz14_0, hcz14_1, hfz14_0, hfz14_1⟩ := c2 BKq5) | (go_at_call 86; (with_reducible refine (ybj.calls a0_0 a2 tq4 _ A9.out).mono ?_); rintro e w' ⟨rfl, ⟨nd, rfl⟩⟩))
   go_meet
   case rel => exact ⟨_, (!tq4), rs_, H', ⟨by first | omega | exact Nat.le_refl _⟩, ⟨pk BKq5.out⟩, ⟨pk BKq6.out⟩, ⟨pB2 HB.out GEq5.out GEq6.out⟩⟩
  ·replace c8 := Bool.eq_false_iff.mpr c8
   subst c8
   have H1 : (yN.j0 k a2 true a0_0 l0_1 a1_0 l1_1) = some r := by rw [if_neg (show ¬ (false = true) by decide)] at H; exact H
   clear H
   have H := H1
   clear H1
   have H' := aQ H
   clear H
   have hnb15 := NBq5_q6.out
   have hnc15 := NBq6_q5.out
   obtain ⟨hcz16_0, hcz16_1, hfz16_0, hfz16_1⟩ := c2 BKq5
   obtain ⟨hcz17_0, hcz17_1, hfz17_0, hfz17_1⟩ := c2 BKq6
   go_wp2_with (first | (refine gq 78 (some 9) Try.func78 #[.agg #[.int .i64 a0_0, .slice A0_1 l0_1.length c0_1], .agg #[.int .i64 a1_0, .slice A1_1 l1_1.length c1_1]] ?_; (with_reducible refine (yaE.calls k a0_0 _ _ l0_1 a1_0 _ _ l1_1 false _ ?side1 ?side2 ?side3 ?side4 A7.out).mono ?_); (case side1 => exact pC (Kd.C_below HR0_1.out HB.out)); (case side2 => exact HC0_1.out); (case side3 => exact pC (Kd.C_below HR1_1.out HB.out)); (case side4 => exact HC1_1.out); rintro e w18 ⟨rfl, hb⟩; refine ⟨_, rfl, ?_⟩; replace BKq5 := bb BKq5 hb; replace BKq6 := bb BKq6 hb; replace HB := bs HB hb; (try clear hb)))
   go_meet
   case rel => exact ⟨_, (true), rs_, H', ⟨by first | omega | exact Nat.le_refl _⟩, ⟨pk BKq5.out⟩, ⟨pk BKq6.out⟩, ⟨pB2 HB.out GEq5.out GEq6.out⟩⟩
 case rest =>
  clear HC4
  try clear c1
  try clear c2
  try clear p2
  try clear c7
  try clear c8
  try clear c10
  try clear c15
  try clear hcz11_0
  try clear hcz11_1
  try clear hcz12_0
  try clear hcz12_1
  try clear hcz14_0
  try clear hcz14_1
  try clear hcz16_0
  try clear hcz16_1
  try clear hcz17_0
  try clear hcz17_1
  try clear hfz11_0
  try clear hfz11_1
  try clear hfz12_0
  try clear hfz12_1
  try clear hfz14_0
  try clear hfz14_1
  try clear hfz16_0
  try clear hfz16_1
  try clear hfz17_0
  try clear hfz17_1
  obtain ⟨kq, x17_3, rfl, HA, HJ3, BKq5, BKq6, HB⟩ := hcut
  cases kq with
  | zero => exact absurd HA.out (by simp [yN.j0])
  | succ kj3 =>
   have H := HA.out
   clear HA
   simp only [yN.j0] at H
   by_cases c19 : x17_3 = true
   ·subst c19
    rw [if_pos rfl] at H
    obtain rfl := Option.some.inj H
    go_wp2
    go_ret
    exact ⟨re_, pB2 HB.out GEq5.out GEq6.out⟩
   ·replace c19 := Bool.eq_false_iff.mpr c19
    subst c19
    have H1 : ((yav.f kj3 a0_0 l0_1 a2).bind fun tq0 => ((yaF.f a0_0).bind fun tq1 => ((yav.f kj3 a1_0 l1_1 (Go.bits .andNot .i64 tq1 a2)).bind fun tq2 => (some (wrap64 (tq0 + tq2)))))) = some r := by rw [if_neg (show ¬ (false = true) by decide)] at H; exact H
    clear H
    have H := H1
    clear H1
    replace H := bo H; obtain ⟨tq0, A20, H⟩ := H
    (try dsimp only at H)
    replace H := bo H; obtain ⟨tq1, A21, H⟩ := H
    (try dsimp only at H)
    replace H := bo H; obtain ⟨tq2, A22, H⟩ := H
    (try dsimp only at H)
    obtain rfl := Option.some.inj H
    try go_wp2
    replace BKq5 := aQ (yF BKq5.out); replace BKq6 := aQ (yF BKq6.out); replace HB := aQ (yK HB.out)
    refine ya0 (n := 12) (S := fun w' => w'.cell? ⟨gbq5, 0, none⟩ = some (.int .i64 a0_0) ∧ w'.cell? ⟨gbq5, 1, none⟩ = some (.slice A0_1 l0_1.length c0_1) ∧ w'.cell? ⟨gbq6, 0, none⟩ = some (.int .i64 a1_0) ∧ w'.cell? ⟨gbq6, 1, none⟩ = some (.slice A1_1 l1_1.length c1_1)) (ds := []) _ (by kernel_rfl) rfl rfl ⟨(ya BKq5.out 0).trans rfl, (ya BKq5.out 1).trans rfl, (ya BKq6.out 0).trans rfl, (ya BKq6.out 1).trans rfl⟩ (fun hHeld => ?_); refine yaw yN.tab3 yN.bits3 (fun HT_ HW_ => ?_)
    generalize wc.drew = w23 at BKq5 BKq6 HB hHeld ⊢
    refine pA 1 (some 19) HT_ ?_
    refine pA 4 (some 22) HT_ ?_
    refine pA 7 (some 25) HT_ ?_
    refine tA4 0 (some 18) HT_ HW_ hHeld ?_
    refine tA4 3 (some 21) HT_ HW_ hHeld ?_
    refine tA4 5 (some 23) HT_ HW_ hHeld ?_
    refine onA (i := 2) (N := some 20) HT_ (h := fun K hK => ?_)
    refine gs Try.func87 #[.agg #[.int .i64 a0_0, .slice A0_1 l0_1.length c0_1], .int .i64 a2] ?_
    with_reducible refine (yav.calls kj3 a0_0 _ _ l0_1 a2 tq0 _ ?side1 ?side2 A20.out).mono ?_
    (case side1 => exact pC (Kd.C_below HR0_1.out HB.out))
    (case side2 => exact HC0_1.out)
    rintro e w24 ⟨rfl, hb⟩
    refine ⟨_, rfl, ?_⟩
    replace BKq5 := bb BKq5 hb; replace BKq6 := bb BKq6 hb; replace HB := bs HB hb
    (try clear hb)
    (try clear hb2)
    (try clear hk)
    (try clear hi)
    refine hK.out _ _ ⟨(ya BKq5.out 0).trans rfl, (ya BKq5.out 1).trans rfl, (ya BKq6.out 0).trans rfl, (ya BKq6.out 1).trans rfl⟩ (fun hHeld => ?_)
    clear hK K
    refine noN (some 20) (h := ?_)
    refine onA (i := 6) (N := some 24) HT_ (h := fun K hK => ?_)
    refine gs Try.func83 #[.int .i64 a0_0] ?_
    with_reducible refine (yaF.calls a0_0 tq1 _ A21.out).mono ?_
    rintro e w' ⟨rfl, ⟨nd, rfl⟩⟩
    refine ⟨_, rfl, ?_⟩
    refine hK.out _ _ ⟨(ya BKq5.out 0).trans rfl, (ya BKq5.out 1).trans rfl, (ya BKq6.out 0).trans rfl, (ya BKq6.out 1).trans rfl⟩ (fun hHeld => ?_)
    clear hK K
    refine noN (some 24) (h := ?_)
    refine pA 8 (some 26) HT_ ?_
    refine onA (i := 9) (N := some 27) HT_ (h := fun K hK => ?_)
    refine gs Try.func87 #[.agg #[.int .i64 a1_0, .slice A1_1 l1_1.length c1_1], .int .i64 (Go.bits .andNot .i64 tq1 a2)] ?_
    with_reducible refine (yav.calls kj3 a1_0 _ _ l1_1 (Go.bits .andNot .i64 tq1 a2) tq2 _ ?side1 ?side2 A22.out).mono ?_
    (case side1 => exact pC ((Kd.C_below HR1_1.out (pB2 HB.out GEq5.out GEq6.out))))
    (case side2 => exact HC1_1.out)
    rintro e w25 ⟨rfl, hb⟩
    refine ⟨_, rfl, ?_⟩
    replace BKq5 := bb BKq5 hb; replace BKq6 := bb BKq6 hb; replace HB := bs HB hb
    (try clear hb)
    (try clear hb2)
    (try clear hk)
    (try clear hi)
    refine hK.out _ _ ⟨(ya BKq5.out 0).trans rfl, (ya BKq5.out 1).trans rfl, (ya BKq6.out 0).trans rfl, (ya BKq6.out 1).trans rfl⟩ (fun hHeld => ?_)
    clear hK K
    refine noN (some 27) (h := ?_)
    refine pA 10 (some 28) HT_ ?_
    refine pA 11 (some 6) HT_ ?_
    refine ybs (yaZ HT_.out (by kernel_rfl)) ?_
    try go_wp2
    go_ret
    exact ⟨re_, pB2 HB.out GEq5.out GEq6.out⟩
def yad.l0 : Nat → Int → Int → Int → List Int → Int → List Int → Option (Int × Bool)
 | 0, _, _, _, _, _, _ => none
 | k + 1, x6, x8, x27002000, x27002001, x27003000, x27003001 => (yaF.f x27002000).bind fun tq0 => (if x8 ≤ tq0 then ((yN.f k x27002000 x27002001 x27003000 x27003001 x8).bind fun tq1 => ((yaG.f x6).bind fun tq2 => (if tq1 = tq2 then (some (x8, true)) else (yad.l0 k x6 (wrap64 (x8 + 1)) x27002000 x27002001 x27003000 x27003001)))) else (some (0, false)))
def yad.f (k : Nat) (a0_0 : Int) (l0_1 : List Int) (a1_0 : Int) (l1_1 : List Int) : Option (Int × Bool) := (yQ.f k a0_0 l0_1 a1_0 l1_1).bind fun btq3 => (if btq3.2 = true then (yad.l0 k btq3.1 0 a0_0 l0_1 a1_0 l1_1) else (some (0, false)))
theorem yad.calls (k : Nat) (a0_0 : Int) (A0_1 : Option Addr) (c0_1 : Nat) (l0_1 : List Int) (a1_0 : Int) (A1_1 : Option Addr) (c1_1 : Nat) (l1_1 : List Int) (r1 : Int) (r2 : Bool) (w : World) (hr0_1 : Kd.C (Kd.int .i64) w A0_1 l0_1.length l0_1) (hc0_1 : l0_1.length ≤ c0_1) (hr1_1 : Kd.C (Kd.int .i64) w A1_1 l1_1.length l1_1) (hc1_1 : l1_1.length ≤ c1_1) (h : yad.f k a0_0 l0_1 a1_0 l1_1 = some (r1, r2)) :
  Calls Try.prog 26 #[.agg #[.int .i64 a0_0, .slice A0_1 l0_1.length c0_1], .agg #[.int .i64 a1_0, .slice A1_1 l1_1.length c1_1]] w fun e w' => e = .returned (.tuple #[.int .i64 r1, .bool r2]) ∧ Below w.heap.size w w' := by
 have hu28 := Try.underlying28
 have HR0_1 := aQ hr0_1
 have HC0_1 := aQ hc0_1
 clear hr0_1 hc0_1
 have HR1_1 := aQ hr1_1
 have HC1_1 := aQ hc1_1
 clear hr1_1 hc1_1
 have HB := aQ (Below.refl w.heap.size w)
 have H := h
 clear h
 unfold yad.f at H
 (try dsimp only at H)
 replace H := bo H; obtain ⟨⟨tq3, tq4⟩, A3, H⟩ := H
 (try dsimp only at H)
 by_cases c4 : tq4 = true
 ·subst c4
  rw [if_pos rfl] at H
  have H' := aQ H
  clear H
  go_enter Try.func26, Try.ntmps26
  go_wp2_with (first | ((with_reducible refine yb (N := 2) rfl ?_); refine bx 2 #[.int .i64 a0_0, .slice A0_1 l0_1.length c0_1] 28 ?_; intro gbq5 hg w5 hbox hb; have BKq5 := aQ (hbox); have GWq5 := gB HB hg; have GEq5 := gB HB hg; replace HB := bs HB hb; clear hb hbox hg) | ((with_reducible refine yb (N := 3) rfl ?_); refine bx 3 #[.int .i64 a1_0, .slice A1_1 l1_1.length c1_1] 28 ?_; intro gbq6 hg w6 hbox hb; have BKq6 := aQ (hbox); have GWq6 := gB HB hg; have GEq6 := gB HB hg; replace HB := bs HB hb; have NBq5_q6 := nl BKq5 hg; have NBq6_q5 := ng BKq5 hg; replace BKq5 := bb BKq5 hb; clear hb hbox hg; have hnb7 := NBq5_q6.out; have hnc7 := NBq6_q5.out; obtain ⟨hcz8_0, hcz8_1, hfz8_0, hfz8_1⟩ := c2 BKq5; obtain ⟨hcz9_0, hcz9_1, hfz9_0, hfz9_1⟩ := c2 BKq6) | (refine gq 24 (some 12) Try.func24 #[.agg #[.int .i64 a0_0, .slice A0_1 l0_1.length c0_1], .agg #[.int .i64 a1_0, .slice A1_1 l1_1.length c1_1]] ?_; (with_reducible refine (yQ.calls k a0_0 _ _ l0_1 a1_0 _ _ l1_1 tq3 true _ ?side1 ?side2 ?side3 ?side4 A3.out).mono ?_); (case side1 => exact pC (Kd.C_below HR0_1.out HB.out)); (case side2 => exact HC0_1.out); (case side3 => exact pC (Kd.C_below HR1_1.out HB.out)); (case side4 => exact HC1_1.out); rintro e w10 ⟨rfl, hb⟩; refine ⟨_, rfl, ?_⟩; replace BKq5 := bb BKq5 hb; replace BKq6 := bb BKq6 hb; replace HB := bs HB hb; (try clear hb)))
  go_loopg [8] k (fun kq v8 w' => ∃ (x8_1 : Int), v8 = .int .i64 x8_1 ∧ Aside0 (yad.l0 kq tq3 x8_1 a0_0 l0_1 a1_0 l1_1 = some (r1, r2)) ∧ Aside0 (kq ≤ k) ∧ Aside0 (w'.heap[gbq5]? = some (.cells #[.int .i64 a0_0, (.slice A0_1 l0_1.length c0_1)] 28 (0, 0))) ∧ Aside0 (w'.heap[gbq6]? = some (.cells #[.int .i64 a1_0, (.slice A1_1 l1_1.length c1_1)] 28 (0, 0))) ∧ Aside0 (Below w.heap.size w w'))
  case atStart => exact ⟨(0), rs_, H', ⟨Nat.le_refl _⟩, ⟨pk BKq5.out⟩, ⟨pk BKq6.out⟩, ⟨pB2 HB.out GEq5.out GEq6.out⟩⟩
  clear H'
  try clear c1
  try clear c2
  try clear p2
  try clear c4
  try clear c7
  try clear hcz8_0
  try clear hcz8_1
  try clear hcz9_0
  try clear hcz9_1
  try clear hfz8_0
  try clear hfz8_1
  try clear hfz9_0
  try clear hfz9_1
  obtain ⟨x8_1, rfl, HA, HK1, BKq5, BKq6, HB⟩ := hrel
  rcases gk with _ | k1
  ·exact absurd HA.out (by simp [yad.l0])
  have H := HA.out
  clear HA
  simp only [yad.l0] at H
  replace H := bo H; obtain ⟨tq0, A11, H⟩ := H
  (try dsimp only at H)
  by_cases c12 : x8_1 ≤ tq0
  ·rw [if_pos c12] at H
   have c12b0 := decide_eq_true c12
   clear c12
   replace H := bo H; obtain ⟨tq1, A13, H⟩ := H
   (try dsimp only at H)
   replace H := bo H; obtain ⟨tq2, A14, H⟩ := H
   (try dsimp only at H)
   by_cases c15 : tq1 = tq2
   ·rw [if_pos c15] at H
    have c15b0 : (tq1 == tq2) = true := beq_iff_eq.mpr c15
    have c15b1 : (tq1 != tq2) = false := bne_eq_false_iff_eq.mpr c15
    clear c15
    simp only [Option.some.injEq, Prod.mk.injEq] at H
    obtain ⟨rfl, rfl⟩ := H
    have hnb16 := NBq5_q6.out
    have hnc16 := NBq6_q5.out
    obtain ⟨hcz17_0, hcz17_1, hfz17_0, hfz17_1⟩ := c2 BKq5
    go_wp2_with (first | (refine gq 83 (some 20) Try.func83 #[.int .i64 a0_0] ?_; (with_reducible refine (yaF.calls a0_0 tq0 _ A11.out).mono ?_); rintro e w' ⟨rfl, ⟨nd, rfl⟩⟩; refine ⟨_, rfl, ?_⟩; obtain ⟨hcz18_0, hcz18_1, hfz18_0, hfz18_1⟩ := c2 BKq6) | (refine gq 29 (some 27) Try.func29 #[.agg #[.int .i64 a0_0, .slice A0_1 l0_1.length c0_1], .agg #[.int .i64 a1_0, .slice A1_1 l1_1.length c1_1], .int .i64 x8_1] ?_; (with_reducible refine (yN.calls k1 a0_0 _ _ l0_1 a1_0 _ _ l1_1 x8_1 tq1 _ ?side1 ?side2 ?side3 ?side4 A13.out).mono ?_); (case side1 => exact pC ((Kd.C_below HR0_1.out (pB2 HB.out GEq5.out GEq6.out)))); (case side2 => exact HC0_1.out); (case side3 => exact pC ((Kd.C_below HR1_1.out (pB2 HB.out GEq5.out GEq6.out)))); (case side4 => exact HC1_1.out); rintro e w19 ⟨rfl, hb⟩; refine ⟨_, rfl, ?_⟩; replace BKq5 := bb BKq5 hb; replace BKq6 := bb BKq6 hb; replace HB := bs HB hb; (try clear hb)) | (refine gq 80 (some 29) Try.func80 #[.int .i64 tq3] ?_; (with_reducible refine (yaG.calls tq3 tq2 _ A14.out).mono ?_); rintro e w' ⟨rfl, ⟨nd, rfl⟩⟩; refine ⟨_, rfl, ?_⟩))
    go_ret2
    exact ⟨re_, pB2 HB.out GEq5.out GEq6.out⟩
   ·rw [if_neg c15] at H
    have c15b0 : (tq1 == tq2) = false := beq_eq_false_iff_ne.mpr c15
    have c15b1 : (tq1 != tq2) = true := bne_iff_ne.mpr c15
    have H' := aQ H
    clear H
    have hnb20 := NBq5_q6.out
    have hnc20 := NBq6_q5.out
    obtain ⟨hcz21_0, hcz21_1, hfz21_0, hfz21_1⟩ := c2 BKq5
    go_wp2_with (first | (refine gq 83 (some 20) Try.func83 #[.int .i64 a0_0] ?_; (with_reducible refine (yaF.calls a0_0 tq0 _ A11.out).mono ?_); rintro e w' ⟨rfl, ⟨nd, rfl⟩⟩; refine ⟨_, rfl, ?_⟩; obtain ⟨hcz22_0, hcz22_1, hfz22_0, hfz22_1⟩ := c2 BKq6) | (refine gq 29 (some 27) Try.func29 #[.agg #[.int .i64 a0_0, .slice A0_1 l0_1.length c0_1], .agg #[.int .i64 a1_0, .slice A1_1 l1_1.length c1_1], .int .i64 x8_1] ?_; (with_reducible refine (yN.calls k1 a0_0 _ _ l0_1 a1_0 _ _ l1_1 x8_1 tq1 _ ?side1 ?side2 ?side3 ?side4 A13.out).mono ?_); (case side1 => exact pC ((Kd.C_below HR0_1.out (pB2 HB.out GEq5.out GEq6.out)))); (case side2 => exact HC0_1.out); (case side3 => exact pC ((Kd.C_below HR1_1.out (pB2 HB.out GEq5.out GEq6.out)))); (case side4 => exact HC1_1.out); rintro e w23 ⟨rfl, hb⟩; refine ⟨_, rfl, ?_⟩; replace BKq5 := bb BKq5 hb; replace BKq6 := bb BKq6 hb; replace HB := bs HB hb; (try clear hb)) | (refine gq 80 (some 29) Try.func80 #[.int .i64 tq3] ?_; (with_reducible refine (yaG.calls tq3 tq2 _ A14.out).mono ?_); rintro e w' ⟨rfl, ⟨nd, rfl⟩⟩; refine ⟨_, rfl, ?_⟩))
    go_roundg k1
    case measure => have := HK1.out; omega
    case rel => exact ⟨(wrap64 (x8_1 + 1)), rs_, H', ⟨by have := HK1.out; omega⟩, ⟨pk BKq5.out⟩, ⟨pk BKq6.out⟩, ⟨pB2 HB.out GEq5.out GEq6.out⟩⟩
  ·rw [if_neg c12] at H
   have c12b0 := decide_eq_false c12
   clear c12
   simp only [Option.some.injEq, Prod.mk.injEq] at H
   obtain ⟨rfl, rfl⟩ := H
   have hnb24 := NBq5_q6.out
   have hnc24 := NBq6_q5.out
   obtain ⟨hcz25_0, hcz25_1, hfz25_0, hfz25_1⟩ := c2 BKq5
   go_wp2_with (first | (refine gq 83 (some 20) Try.func83 #[.int .i64 a0_0] ?_; (with_reducible refine (yaF.calls a0_0 tq0 _ A11.out).mono ?_); rintro e w' ⟨rfl, ⟨nd, rfl⟩⟩; refine ⟨_, rfl, ?_⟩))
   go_ret2
   exact ⟨re_, pB2 HB.out GEq5.out GEq6.out⟩
 ·replace c4 := Bool.eq_false_iff.mpr c4
  subst c4
  have H1 : (some (0, false)) = some (r1, r2) := by rw [if_neg (show ¬ (false = true) by decide)] at H; exact H
  clear H
  have H := H1
  clear H1
  simp only [Option.some.injEq, Prod.mk.injEq] at H
  obtain ⟨rfl, rfl⟩ := H
  go_enter Try.func26, Try.ntmps26
  go_wp2_with (first | ((with_reducible refine yb (N := 2) rfl ?_); refine bx 2 #[.int .i64 a0_0, .slice A0_1 l0_1.length c0_1] 28 ?_; intro gbq5 hg w26 hbox hb; have BKq5 := aQ (hbox); have GWq5 := gB HB hg; have GEq5 := gB HB hg; replace HB := bs HB hb; clear hb hbox hg) | ((with_reducible refine yb (N := 3) rfl ?_); refine bx 3 #[.int .i64 a1_0, .slice A1_1 l1_1.length c1_1] 28 ?_; intro gbq6 hg w27 hbox hb; have BKq6 := aQ (hbox); have GWq6 := gB HB hg; have GEq6 := gB HB hg; replace HB := bs HB hb; have NBq5_q6 := nl BKq5 hg; have NBq6_q5 := ng BKq5 hg; replace BKq5 := bb BKq5 hb; clear hb hbox hg; have hnb28 := NBq5_q6.out; have hnc28 := NBq6_q5.out; obtain ⟨hcz29_0, hcz29_1, hfz29_0, hfz29_1⟩ := c2 BKq5; obtain ⟨hcz30_0, hcz30_1, hfz30_0, hfz30_1⟩ := c2 BKq6) | (refine gq 24 (some 12) Try.func24 #[.agg #[.int .i64 a0_0, .slice A0_1 l0_1.length c0_1], .agg #[.int .i64 a1_0, .slice A1_1 l1_1.length c1_1]] ?_; (with_reducible refine (yQ.calls k a0_0 _ _ l0_1 a1_0 _ _ l1_1 tq3 false _ ?side1 ?side2 ?side3 ?side4 A3.out).mono ?_); (case side1 => exact pC (Kd.C_below HR0_1.out HB.out)); (case side2 => exact HC0_1.out); (case side3 => exact pC (Kd.C_below HR1_1.out HB.out)); (case side4 => exact HC1_1.out); rintro e w31 ⟨rfl, hb⟩; refine ⟨_, rfl, ?_⟩; replace BKq5 := bb BKq5 hb; replace BKq6 := bb BKq6 hb; replace HB := bs HB hb; (try clear hb)))
  go_ret2
  exact ⟨re_, pB2 HB.out GEq5.out GEq6.out⟩
end Go.Proofs.Ytimkekeaeojpkaa.A
