/- Machine side of the law FnCommon: Go functions as Lean functions, and proofs that calls come to what these tell. Conditions: those in each theorem. -/
import Derived.Test.YtimkekeaeojpkaaMFnCommon0
import Derived.Test.YtimkekeaeojpkaaMFnCommon1
import Derived.Test.YtimkekeaeojpkaaMFnCommon5
set_option maxHeartbeats 8000000
set_option maxRecDepth 100000
namespace Go.Proofs.Ytimkekeaeojpkaa.A
open Go.RowKit Go.Proofs.YtimkekeaeojpkaaW.PrintWords Go.Proofs.YtimkekeaeojpkaaW.PrintLast Go.Proofs.YtimkekeaeojpkaaW.PrintMore
attribute [local go_sem] ya8 yba ybm ybn yaY yaX ya6 ya9
set_option linter.unusedVariables false
set_option linter.unusedSimpArgs false
def yE.l0 : Nat → Int → Int → Int → List Int → Int → List Int → Option (Int × Bool)
 | 0, _, _, _, _, _, _ => none
 | k + 1, x6, x8, x28002000, x28002001, x28003000, x28003001 => (yaj.f k x28002000 x28002001 x8).bind fun tq0 => ((yT.f x28002000).bind fun tq1 => ((yaj.f k x28003000 x28003001 (wrap64 (tq1 - x8))).bind fun tq2 => ((yD.f k x6).bind fun tq3 => (if (wrap64 (tq0 + tq2)) = tq3 then (some (x8, true)) else (yE.l0 k x6 (wrap64 (x8 + 1)) x28002000 x28002001 x28003000 x28003001)))))
def yE.f (k : Nat) (a0_0 : Int) (l0_1 : List Int) (a1_0 : Int) (l1_1 : List Int) : Option (Int × Bool) := (yw.f k a0_0 l0_1 a1_0 l1_1).bind fun btq4 => (if btq4.2 = true then (yE.l0 k btq4.1 0 a0_0 l0_1 a1_0 l1_1) else (some (0, false)))
def yE.T5 : Bool × List (List Nat × List Nat) := (true, [([], []), ([], []), ([0, 1], [0, 1]), ([], []), ([], []), ([4], [4]), ([5, 2], [5]), ([], []), ([6, 7], [6, 7]), ([3, 8, 6], [3, 8]), ([2, 9], [2, 9]), ([], []), ([11, 9], [11]), ([10, 12], [10, 12])])
def yE.B5 : List Nat := [0, 0, 3, 0, 0, 16, 55, 0, 247, 511, 1023, 0, 3071, 8191]
theorem yE.tab5 : rtab .any (yco Try.f27 5) = yE.T5 := by kernel_rfl
theorem yE.bits5 : ybf yE.T5.2 yE.B5 = true := by kernel_rfl
theorem yE.calls (k : Nat) (a0_0 : Int) (A0_1 : Option Addr) (c0_1 : Nat) (l0_1 : List Int) (a1_0 : Int) (A1_1 : Option Addr) (c1_1 : Nat) (l1_1 : List Int) (r1 : Int) (r2 : Bool) (w : World) (hr0_1 : Kd.C (Kd.int .i64) w A0_1 l0_1.length l0_1) (hc0_1 : l0_1.length ≤ c0_1) (hr1_1 : Kd.C (Kd.int .i64) w A1_1 l1_1.length l1_1) (hc1_1 : l1_1.length ≤ c1_1) (h : yE.f k a0_0 l0_1 a1_0 l1_1 = some (r1, r2)) :
  Calls Try.prog 27 #[.agg #[.int .i64 a0_0, .slice A0_1 l0_1.length c0_1], .agg #[.int .i64 a1_0, .slice A1_1 l1_1.length c1_1]] w fun e w' => e = .returned (.tuple #[.int .i64 r1, .bool r2]) ∧ Below w.heap.size w w' := by
 have hu28 := Try.underlying28
 have HR0_1 := aQ hr0_1
 have HC0_1 := aQ hc0_1
 clear hr0_1 hc0_1
 have HR1_1 := aQ hr1_1
 have HC1_1 := aQ hc1_1
 clear hr1_1 hc1_1
 have HB := aQ (Below.refl w.heap.size w)
 have H := h
 clear h
 unfold yE.f at H
 (try dsimp only at H)
 replace H := bo H; obtain ⟨⟨tq4, tq5⟩, A3, H⟩ := H
 (try dsimp only at H)
 by_cases c4 : tq5 = true
 ·subst c4
  rw [if_pos rfl] at H
  have H' := aQ H
  clear H
  go_enter Try.func27, Try.ntmps27
  go_wp2_with (first | ((with_reducible refine yb (N := 2) rfl ?_); refine bx 2 #[.int .i64 a0_0, .slice A0_1 l0_1.length c0_1] 28 ?_; intro gbq6 hg w5 hbox hb; have BKq6 := aQ (hbox); have GWq6 := gB HB hg; have GEq6 := gB HB hg; replace HB := bs HB hb; clear hb hbox hg) | ((with_reducible refine yb (N := 3) rfl ?_); refine bx 3 #[.int .i64 a1_0, .slice A1_1 l1_1.length c1_1] 28 ?_; intro gbq7 hg w6 hbox hb; have BKq7 := aQ (hbox); have GWq7 := gB HB hg; have GEq7 := gB HB hg; replace HB := bs HB hb; have NBq6_q7 := nl BKq6 hg; have NBq7_q6 := ng BKq6 hg; replace BKq6 := bb BKq6 hb; clear hb hbox hg; have hnb7 := NBq6_q7.out; have hnc7 := NBq7_q6.out; obtain ⟨hcz8_0, hcz8_1, hfz8_0, hfz8_1⟩ := c2 BKq6; obtain ⟨hcz9_0, hcz9_1, hfz9_0, hfz9_1⟩ := c2 BKq7) | (refine gq 25 (some 12) Try.func25 #[.agg #[.int .i64 a0_0, .slice A0_1 l0_1.length c0_1], .agg #[.int .i64 a1_0, .slice A1_1 l1_1.length c1_1]] ?_; (with_reducible refine (yw.calls k a0_0 _ _ l0_1 a1_0 _ _ l1_1 tq4 true _ ?side1 ?side2 ?side3 ?side4 A3.out).mono ?_); (case side1 => exact pC (Kd.C_below HR0_1.out HB.out)); (case side2 => exact HC0_1.out); (case side3 => exact pC (Kd.C_below HR1_1.out HB.out)); (case side4 => exact HC1_1.out); rintro e w10 ⟨rfl, hb⟩; refine ⟨_, rfl, ?_⟩; replace BKq6 := bb BKq6 hb; replace BKq7 := bb BKq7 hb; replace HB := bs HB hb; (try clear hb)))
  go_loopg [8] k (fun kq v8 w' => ∃ (x8_1 : Int), v8 = .int .i64 x8_1 ∧ Aside0 (yE.l0 kq tq4 x8_1 a0_0 l0_1 a1_0 l1_1 = some (r1, r2)) ∧ Aside0 (kq ≤ k) ∧ Aside0 (w'.heap[gbq6]? = some (.cells #[.int .i64 a0_0, (.slice A0_1 l0_1.length c0_1)] 28 (0, 0))) ∧ Aside0 (w'.heap[gbq7]? = some (.cells #[.int .i64 a1_0, (.slice A1_1 l1_1.length c1_1)] 28 (0, 0))) ∧ Aside0 (Below w.heap.size w w'))
  case atStart => exact ⟨(0), rs_, H', ⟨Nat.le_refl _⟩, ⟨pk BKq6.out⟩, ⟨pk BKq7.out⟩, ⟨pB2 HB.out GEq6.out GEq7.out⟩⟩
  clear H'
  try clear c1
  try clear c2
  try clear p2
  try clear c4
  try clear c7
  try clear hcz8_0
  try clear hcz8_1
  try clear hcz9_0
  try clear hcz9_1
  try clear hfz8_0
  try clear hfz8_1
  try clear hfz9_0
  try clear hfz9_1
  obtain ⟨x8_1, rfl, HA, HK1, BKq6, BKq7, HB⟩ := hrel
  rcases gk with _ | k1
  ·exact absurd HA.out (by simp [yE.l0])
  have H := HA.out
  clear HA
  simp only [yE.l0] at H
  replace H := bo H; obtain ⟨tq0, A11, H⟩ := H
  (try dsimp only at H)
  replace H := bo H; obtain ⟨tq1, A12, H⟩ := H
  (try dsimp only at H)
  replace H := bo H; obtain ⟨tq2, A13, H⟩ := H
  (try dsimp only at H)
  replace H := bo H; obtain ⟨tq3, A14, H⟩ := H
  (try dsimp only at H)
  by_cases c15 : (wrap64 (tq0 + tq2)) = tq3
  ·rw [if_pos c15] at H
   have c15b0 : ((wrap64 (tq0 + tq2)) == tq3) = true := beq_iff_eq.mpr c15
   have c15b1 : ((wrap64 (tq0 + tq2)) != tq3) = false := bne_eq_false_iff_eq.mpr c15
   clear c15
   simp only [Option.some.injEq, Prod.mk.injEq] at H
   obtain ⟨rfl, rfl⟩ := H
   try go_wp2
   replace BKq6 := aQ (yF BKq6.out); replace BKq7 := aQ (yF BKq7.out); replace HB := aQ (yK HB.out)
   refine ya0 (n := 14) (S := fun w' => w'.cell? ⟨gbq6, 0, none⟩ = some (.int .i64 a0_0) ∧ w'.cell? ⟨gbq6, 1, none⟩ = some (.slice A0_1 l0_1.length c0_1) ∧ w'.cell? ⟨gbq7, 0, none⟩ = some (.int .i64 a1_0) ∧ w'.cell? ⟨gbq7, 1, none⟩ = some (.slice A1_1 l1_1.length c1_1)) (ds := []) _ (by kernel_rfl) rfl rfl ⟨(ya BKq6.out 0).trans rfl, (ya BKq6.out 1).trans rfl, (ya BKq7.out 0).trans rfl, (ya BKq7.out 1).trans rfl⟩ (fun hHeld => ?_); refine yaw yE.tab5 yE.bits5 (fun HT_ HW_ => ?_)
   generalize wr.drew = w16 at BKq6 BKq7 HB hHeld ⊢
   refine pA 1 (some 18) HT_ ?_
   refine pA 4 (some 21) HT_ ?_
   refine pA 7 (some 24) HT_ ?_
   refine pA 11 (some 28) HT_ ?_
   refine tA4 0 (some 17) HT_ HW_ hHeld ?_
   refine tA4 3 (some 20) HT_ HW_ hHeld ?_
   refine tA4 5 (some 22) HT_ HW_ hHeld ?_
   refine onA (i := 2) (N := some 19) HT_ (h := fun K hK => ?_)
   refine gs Try.func84 #[.agg #[.int .i64 a0_0, .slice A0_1 l0_1.length c0_1], .int .i64 x8_1] ?_
   with_reducible refine (yaj.calls k1 a0_0 _ _ l0_1 x8_1 tq0 _ ?side1 ?side2 A11.out).mono ?_
   (case side1 => exact pC (Kd.C_below HR0_1.out HB.out))
   (case side2 => exact HC0_1.out)
   rintro e w17 ⟨rfl, hb⟩
   refine ⟨_, rfl, ?_⟩
   replace BKq6 := bb BKq6 hb; replace BKq7 := bb BKq7 hb; replace HB := bs HB hb
   (try clear hb)
   (try clear hb2)
   (try clear hk)
   (try clear hi)
   refine hK.out _ _ ⟨(ya BKq6.out 0).trans rfl, (ya BKq6.out 1).trans rfl, (ya BKq7.out 0).trans rfl, (ya BKq7.out 1).trans rfl⟩ (fun hHeld => ?_)
   clear hK K
   refine noN (some 19) (h := ?_)
   refine onA (i := 6) (N := some 23) HT_ (h := fun K hK => ?_)
   refine gs Try.func81 #[.int .i64 a0_0] ?_
   with_reducible refine (yT.calls a0_0 tq1 _ A12.out).mono ?_
   rintro e w' ⟨rfl, ⟨nd, rfl⟩⟩
   refine ⟨_, rfl, ?_⟩
   refine hK.out _ _ ⟨(ya BKq6.out 0).trans rfl, (ya BKq6.out 1).trans rfl, (ya BKq7.out 0).trans rfl, (ya BKq7.out 1).trans rfl⟩ (fun hHeld => ?_)
   clear hK K
   refine noN (some 23) (h := ?_)
   refine pA 8 (some 25) HT_ ?_
   refine onA (i := 9) (N := some 26) HT_ (h := fun K hK => ?_)
   refine gs Try.func84 #[.agg #[.int .i64 a1_0, .slice A1_1 l1_1.length c1_1], .int .i64 (wrap64 (tq1 - x8_1))] ?_
   with_reducible refine (yaj.calls k1 a1_0 _ _ l1_1 (wrap64 (tq1 - x8_1)) tq2 _ ?side1 ?side2 A13.out).mono ?_
   (case side1 => exact pC ((Kd.C_below HR1_1.out (pB2 HB.out GEq6.out GEq7.out))))
   (case side2 => exact HC1_1.out)
   rintro e w18 ⟨rfl, hb⟩
   refine ⟨_, rfl, ?_⟩
   replace BKq6 := bb BKq6 hb; replace BKq7 := bb BKq7 hb; replace HB := bs HB hb
   (try clear hb)
   (try clear hb2)
   (try clear hk)
   (try clear hi)
   refine hK.out _ _ ⟨(ya BKq6.out 0).trans rfl, (ya BKq6.out 1).trans rfl, (ya BKq7.out 0).trans rfl, (ya BKq7.out 1).trans rfl⟩ (fun hHeld => ?_)
   clear hK K
   refine noN (some 26) (h := ?_)
   refine pA 10 (some 27) HT_ ?_
   refine onA (i := 12) (N := some 29) HT_ (h := fun K hK => ?_)
   refine gs Try.func33 #[.int .i64 tq4] ?_
   with_reducible refine (yD.calls k1 tq4 tq3 _ A14.out).mono ?_
   rintro e w' ⟨rfl, ⟨nd, rfl⟩⟩
   refine ⟨_, rfl, ?_⟩
   refine hK.out _ _ ⟨(ya BKq6.out 0).trans rfl, (ya BKq6.out 1).trans rfl, (ya BKq7.out 0).trans rfl, (ya BKq7.out 1).trans rfl⟩ (fun hHeld => ?_)
   clear hK K
   refine noN (some 29) (h := ?_)
   refine pA 13 (some 30) HT_ ?_
   refine ybs (yaZ HT_.out (by kernel_rfl)) ?_
   try go_wp2
   go_ret2
   exact ⟨re_, pB2 HB.out GEq6.out GEq7.out⟩
  ·rw [if_neg c15] at H
   have c15b0 : ((wrap64 (tq0 + tq2)) == tq3) = false := beq_eq_false_iff_ne.mpr c15
   have c15b1 : ((wrap64 (tq0 + tq2)) != tq3) = true := bne_iff_ne.mpr c15
   have H' := aQ H
   clear H
   try go_wp2
   replace BKq6 := aQ (yF BKq6.out); replace BKq7 := aQ (yF BKq7.out); replace HB := aQ (yK HB.out)
   refine ya0 (n := 14) (S := fun w' => w'.cell? ⟨gbq6, 0, none⟩ = some (.int .i64 a0_0) ∧ w'.cell? ⟨gbq6, 1, none⟩ = some (.slice A0_1 l0_1.length c0_1) ∧ w'.cell? ⟨gbq7, 0, none⟩ = some (.int .i64 a1_0) ∧ w'.cell? ⟨gbq7, 1, none⟩ = some (.slice A1_1 l1_1.length c1_1)) (ds := []) _ (by kernel_rfl) rfl rfl ⟨(ya BKq6.out 0).trans rfl, (ya BKq6.out 1).trans rfl, (ya BKq7.out 0).trans rfl, (ya BKq7.out 1).trans rfl⟩ (fun hHeld => ?_); refine yaw yE.tab5 yE.bits5 (fun HT_ HW_ => ?_)
   generalize wr.drew = w19 at BKq6 BKq7 HB hHeld ⊢
   refine pA 1 (some 18) HT_ ?_
   refine pA 4 (some 21) HT_ ?_
   refine pA 7 (some 24) HT_ ?_
   refine pA 11 (some 28) HT_ ?_
   refine tA4 0 (some 17) HT_ HW_ hHeld ?_
   refine tA4 3 (some 20) HT_ HW_ hHeld ?_
   refine tA4 5 (some 22) HT_ HW_ hHeld ?_
   refine onA (i := 2) (N := some 19) HT_ (h := fun K hK => ?_)
   refine gs Try.func84 #[.agg #[.int .i64 a0_0, .slice A0_1 l0_1.length c0_1], .int .i64 x8_1] ?_
   with_reducible refine (yaj.calls k1 a0_0 _ _ l0_1 x8_1 tq0 _ ?side1 ?side2 A11.out).mono ?_
   (case side1 => exact pC (Kd.C_below HR0_1.out HB.out))
   (case side2 => exact HC0_1.out)
   rintro e w20 ⟨rfl, hb⟩
   refine ⟨_, rfl, ?_⟩
   replace BKq6 := bb BKq6 hb; replace BKq7 := bb BKq7 hb; replace HB := bs HB hb
   (try clear hb)
   (try clear hb2)
   (try clear hk)
   (try clear hi)
   refine hK.out _ _ ⟨(ya BKq6.out 0).trans rfl, (ya BKq6.out 1).trans rfl, (ya BKq7.out 0).trans rfl, (ya BKq7.out 1).trans rfl⟩ (fun hHeld => ?_)
   clear hK K
   refine noN (some 19) (h := ?_)
   refine onA (i := 6) (N := some 23) HT_ (h := fun K hK => ?_)
   refine gs Try.func81 #[.int .i64 a0_0] ?_
   with_reducible refine (yT.calls a0_0 tq1 _ A12.out).mono ?_
   rintro e w' ⟨rfl, ⟨nd, rfl⟩⟩
   refine ⟨_, rfl, ?_⟩
   refine hK.out _ _ ⟨(ya BKq6.out 0).trans rfl, (ya BKq6.out 1).trans rfl, (ya BKq7.out 0).trans rfl, (ya BKq7.out 1).trans rfl⟩ (fun hHeld => ?_)
   clear hK K
   refine noN (some 23) (h := ?_)
   refine pA 8 (some 25) HT_ ?_
   refine onA (i := 9) (N := some 26) HT_ (h := fun K hK => ?_)
   refine gs Try.func84 #[.agg #[.int .i64 a1_0, .slice A1_1 l1_1.length c1_1], .int .i64 (wrap64 (tq1 - x8_1))] ?_
   with_reducible refine (yaj.calls k1 a1_0 _ _ l1_1 (wrap64 (tq1 - x8_1)) tq2 _ ?side1 ?side2 A13.out).mono ?_
   (case side1 => exact pC ((Kd.C_below HR1_1.out (pB2 HB.out GEq6.out GEq7.out))))
   (case side2 => exact HC1_1.out)
   rintro e w21 ⟨rfl, hb⟩
   refine ⟨_, rfl, ?_⟩
   replace BKq6 := bb BKq6 hb; replace BKq7 := bb BKq7 hb; replace HB := bs HB hb
   (try clear hb)
   (try clear hb2)
   (try clear hk)
   (try clear hi)
   refine hK.out _ _ ⟨(ya BKq6.out 0).trans rfl, (ya BKq6.out 1).trans rfl, (ya BKq7.out 0).trans rfl, (ya BKq7.out 1).trans rfl⟩ (fun hHeld => ?_)
   clear hK K
   refine noN (some 26) (h := ?_)
   refine pA 10 (some 27) HT_ ?_
   refine onA (i := 12) (N := some 29) HT_ (h := fun K hK => ?_)
   refine gs Try.func33 #[.int .i64 tq4] ?_
   with_reducible refine (yD.calls k1 tq4 tq3 _ A14.out).mono ?_
   rintro e w' ⟨rfl, ⟨nd, rfl⟩⟩
   refine ⟨_, rfl, ?_⟩
   refine hK.out _ _ ⟨(ya BKq6.out 0).trans rfl, (ya BKq6.out 1).trans rfl, (ya BKq7.out 0).trans rfl, (ya BKq7.out 1).trans rfl⟩ (fun hHeld => ?_)
   clear hK K
   refine noN (some 29) (h := ?_)
   refine pA 13 (some 30) HT_ ?_
   refine ybs (yaZ HT_.out (by kernel_rfl)) ?_
   try go_wp2
   go_roundg k1
   case measure => have := HK1.out; omega
   case rel => exact ⟨(wrap64 (x8_1 + 1)), rs_, H', ⟨by have := HK1.out; omega⟩, ⟨pk BKq6.out⟩, ⟨pk BKq7.out⟩, ⟨pB2 HB.out GEq6.out GEq7.out⟩⟩
 ·replace c4 := Bool.eq_false_iff.mpr c4
  subst c4
  have H1 : (some (0, false)) = some (r1, r2) := by rw [if_neg (show ¬ (false = true) by decide)] at H; exact H
  clear H
  have H := H1
  clear H1
  simp only [Option.some.injEq, Prod.mk.injEq] at H
  obtain ⟨rfl, rfl⟩ := H
  go_enter Try.func27, Try.ntmps27
  go_wp2_with (first | ((with_reducible refine yb (N := 2) rfl ?_); refine bx 2 #[.int .i64 a0_0, .slice A0_1 l0_1.length c0_1] 28 ?_; intro gbq6 hg w22 hbox hb; have BKq6 := aQ (hbox); have GWq6 := gB HB hg; have GEq6 := gB HB hg; replace HB := bs HB hb; clear hb hbox hg) | ((with_reducible refine yb (N := 3) rfl ?_); refine bx 3 #[.int .i64 a1_0, .slice A1_1 l1_1.length c1_1] 28 ?_; intro gbq7 hg w23 hbox hb; have BKq7 := aQ (hbox); have GWq7 := gB HB hg; have GEq7 := gB HB hg; replace HB := bs HB hb; have NBq6_q7 := nl BKq6 hg; have NBq7_q6 := ng BKq6 hg; replace BKq6 := bb BKq6 hb; clear hb hbox hg; have hnb24 := NBq6_q7.out; have hnc24 := NBq7_q6.out; obtain ⟨hcz25_0, hcz25_1, hfz25_0, hfz25_1⟩ := c2 BKq6; obtain ⟨hcz26_0, hcz26_1, hfz26_0, hfz26_1⟩ := c2 BKq7) | (refine gq 25 (some 12) Try.func25 #[.agg #[.int .i64 a0_0, .slice A0_1 l0_1.length c0_1], .agg #[.int .i64 a1_0, .slice A1_1 l1_1.length c1_1]] ?_; (with_reducible refine (yw.calls k a0_0 _ _ l0_1 a1_0 _ _ l1_1 tq4 false _ ?side1 ?side2 ?side3 ?side4 A3.out).mono ?_); (case side1 => exact pC (Kd.C_below HR0_1.out HB.out)); (case side2 => exact HC0_1.out); (case side3 => exact pC (Kd.C_below HR1_1.out HB.out)); (case side4 => exact HC1_1.out); rintro e w27 ⟨rfl, hb⟩; refine ⟨_, rfl, ?_⟩; replace BKq6 := bb BKq6 hb; replace BKq7 := bb BKq7 hb; replace HB := bs HB hb; (try clear hb)))
  go_ret2
  exact ⟨re_, pB2 HB.out GEq6.out GEq7.out⟩
def ybi.f (k : Nat) (l0 : List Int) : Option (Int × List Int × Int × List Int × Int) := (yaQ.f k l0).bind fun btq0 => ((yai.f k btq0.1 btq0.2.1 btq0.2.2).bind fun btq1 => ((yk.f btq0.1 btq1.2.2.2.2.1 btq1.2.2.2.2.2 70).bind fun btq2 => (some (btq1.1, btq1.2.1, btq1.2.2.1, btq1.2.2.2.1, btq2.1))))
theorem ybi.calls (k : Nat) (A0 : Option Addr) (c0 : Nat) (l0 : List Int) (r1 : Int) (r2 : List Int) (r3 : Int) (r4 : List Int) (r5 : Int) (w : World) (hr0 : Kd.C (Kd.int .u8) w A0 l0.length l0) (hc0 : l0.length ≤ c0) (h : ybi.f k l0 = some (r1, r2, r3, r4, r5)) :
  Calls Try.prog 85 #[.slice A0 l0.length c0] w fun e w' => ∃ v1_ v3_ : Value, e = .returned (.tuple #[.agg #[.int .i64 r1, v1_], .agg #[.int .i64 r3, v3_], .int .i64 r5]) ∧ Kd.R (Kd.int .i64) 3 w' w.heap.size (fun k_ => some k_ ≠ (v3_ : Value).ownBlock) v1_ r2 ∧ Kd.R (Kd.int .i64) 3 w' w.heap.size (fun k_ => some k_ ≠ (v1_ : Value).ownBlock) v3_ r4 ∧ Below w.heap.size w w' := by
 have hu28 := Try.underlying28
 have HR0 := aQ hr0
 have HC0 := aQ hc0
 clear hr0 hc0
 have HB := aQ (Below.refl w.heap.size w)
 have H := h
 clear h
 unfold ybi.f at H
 (try dsimp only at H)
 replace H := bo H; obtain ⟨⟨tq0, tq3, tq4⟩, A2, H⟩ := H
 (try dsimp only at H)
 replace H := bo H; obtain ⟨⟨tq1, tq5, tq6, tq7, tq8, tq9⟩, A3, H⟩ := H
 (try dsimp only at H)
 replace H := bo H; obtain ⟨⟨tq2, tqa, tqb⟩, A4, H⟩ := H
 (try dsimp only at H)
 simp only [Option.some.injEq, Prod.mk.injEq] at H
 obtain ⟨rfl, rfl, rfl, rfl, rfl⟩ := H
 go_enter Try.func85, Try.ntmps85
 try go_wp2_with (first | ((with_reducible refine yb (N := 2) rfl ?_); refine bx 2 #[.int .i64 0, .slice none 0 0] 28 ?_; intro gbqc hg w5 hbox hb; have BKqc := aQ (hbox); have GWqc := gB HB hg; have GEqc := gB HB hg; replace HB := bs HB hb; clear hb hbox hg) | ((with_reducible refine yb (N := 3) rfl ?_); refine bx 3 #[.int .i64 0, .slice none 0 0] 28 ?_; intro gbqd hg w6 hbox hb; have BKqd := aQ (hbox); have GWqd := gB HB hg; have GEqd := gB HB hg; replace HB := bs HB hb; have NBqc_qd := nl BKqc hg; have NBqd_qc := ng BKqc hg; replace BKqc := bb BKqc hb; clear hb hbox hg) | (refine gq 77 (some 9) Try.func77 #[.slice A0 l0.length c0] ?_; (with_reducible refine (yaQ.calls k _ _ l0 tq0 tq3 tq4 w _ ?side1 ?side2 ?side3 A2.out).mono ?_); (case side1 => exact pb HB); (case side2 => exact HR0.out); (case side3 => exact HC0.out); rintro e w7 ⟨gqe, rfl, hi, hb, hb2⟩; refine ⟨_, rfl, ?_⟩; replace HB := aQ (hb); have HIqe := aQ (hi); have NBqe_qc := aQ (IsS106.ne_blk hi (yab (g := gbqc) (o := .cells #[.int .i64 0, .slice none 0 0] 28 (0, 0)) (pk BKqc.out) hb2) (by decide)); have NBqc_qe := aQ (Ne.symm (IsS106.ne_blk hi (yab (g := gbqc) (o := .cells #[.int .i64 0, .slice none 0 0] 28 (0, 0)) (pk BKqc.out) hb2) (by decide))); replace BKqc := aQ (yab (g := gbqc) (o := .cells #[.int .i64 0, .slice none 0 0] 28 (0, 0)) (pk BKqc.out) hb2); have NBqe_qd := aQ (IsS106.ne_blk hi (yab (g := gbqd) (o := .cells #[.int .i64 0, .slice none 0 0] 28 (0, 0)) (pk BKqd.out) hb2) (by decide)); have NBqd_qe := aQ (Ne.symm (IsS106.ne_blk hi (yab (g := gbqd) (o := .cells #[.int .i64 0, .slice none 0 0] 28 (0, 0)) (pk BKqd.out) hb2) (by decide))); replace BKqd := aQ (yab (g := gbqd) (o := .cells #[.int .i64 0, .slice none 0 0] 28 (0, 0)) (pk BKqd.out) hb2); (try clear hb); (try clear hb2); (try clear hi)) | (refine gq 76 (some 12) Try.func76 #[.pointer (some ⟨gqe, 0, none⟩)] ?_; (with_reducible refine (yai.calls k gqe tq0 tq3 tq4 tq1 tq5 tq6 tq7 tq8 tq9 w _ ?side1 ?side2 A3.out).mono ?_); (case side1 => exact pi_ HIqe); (case side2 => exact pbI HB); rintro e w8 ⟨vqf, vqg, rfl, ho0, ho1, hi, hb, hk⟩; refine ⟨_, rfl, ?_⟩; replace BKqc := kk BKqc hk NBqc_qe.out; replace BKqd := kk BKqd hk NBqd_qe.out; have HOqh := aQ (Kd.R_lower ho0 (yc (pbI HB))); have HOqi := aQ (Kd.R_lower ho1 (yc (pbI HB))); replace HB := aQ (hb); replace HIqe := aQ (hi); (try clear hb); (try clear hk); (try clear hi); (try clear ho0); (try clear ho1)) | ((with_reducible refine yb (N := 6) rfl ?_); refine bx 6 #[.int .i64 0, .slice none 0 0] 28 ?_; intro gbqj hg w9 hbox hb; replace HOqh := aQ (Kd.R_below (pR HOqh.out) hb); replace HOqi := aQ (Kd.R_below (pR HOqi.out) hb); have BKqj := aQ (hbox); have GWqj := aQ ((by rw [hg]; exact (yc (pbI HB)) : w.heap.size ≤ gbqj)); have GEqj := aQ ((by rw [hg]; exact (yc (pbI HB)) : w.heap.size ≤ gbqj)); replace HB := bsI HB hb; have NBqc_qj := nl BKqc hg; have NBqj_qc := ng BKqc hg; replace BKqc := bb BKqc hb; have NBqd_qj := nl BKqd hg; have NBqj_qd := ng BKqd hg; replace BKqd := bb BKqd hb; have NBqe_qj := aQ ((by rw [hg]; exact Nat.ne_of_lt (IsS106.lt (show IsS106 w _ gqe tq0 tq8 tq9 from pi_ HIqe)) : gqe ≠ gbqj)); have NBqj_qe := aQ ((by rw [hg]; exact Nat.ne_of_gt (IsS106.lt (show IsS106 w _ gqe tq0 tq8 tq9 from pi_ HIqe)) : gbqj ≠ gqe)); replace HIqe := aQ (IsS106.below (pi_ HIqe) hb); clear hb hbox hg) | ((with_reducible refine yb (N := 7) rfl ?_); refine bx 7 #[.int .i64 0, .slice none 0 0] 28 ?_; intro gbqk hg w10 hbox hb; replace HOqh := aQ (Kd.R_below (pR HOqh.out) hb); replace HOqi := aQ (Kd.R_below (pR HOqi.out) hb); have BKqk := aQ (hbox); have GWqk := aQ ((by rw [hg]; exact (yc (pbI HB)) : w.heap.size ≤ gbqk)); have GEqk := aQ ((by rw [hg]; exact (yc (pbI HB)) : w.heap.size ≤ gbqk)); replace HB := bsI HB hb; have NBqc_qk := nl BKqc hg; have NBqk_qc := ng BKqc hg; replace BKqc := bb BKqc hb; have NBqd_qk := nl BKqd hg; have NBqk_qd := ng BKqd hg; replace BKqd := bb BKqd hb; have NBqj_qk := nl BKqj hg; have NBqk_qj := ng BKqj hg; replace BKqj := bb BKqj hb; have NBqe_qk := aQ ((by rw [hg]; exact Nat.ne_of_lt (IsS106.lt (show IsS106 w _ gqe tq0 tq8 tq9 from pi_ HIqe)) : gqe ≠ gbqk)); have NBqk_qe := aQ ((by rw [hg]; exact Nat.ne_of_gt (IsS106.lt (show IsS106 w _ gqe tq0 tq8 tq9 from pi_ HIqe)) : gbqk ≠ gqe)); replace HIqe := aQ (IsS106.below (pi_ HIqe) hb); clear hb hbox hg; have hnb11 := NBqj_qc.out; have hnc11 := NBqc_qj.out; have hnb12 := NBqj_qd.out; have hnc12 := NBqd_qj.out; have hnb13 := NBqj_qk.out; have hnc13 := NBqk_qj.out; have hnb14 := NBqj_qe.out; have hnc14 := NBqe_qj.out; obtain ⟨hcz15_0, hcz15_1, hfz15_0, hfz15_1⟩ := c2 BKqj; obtain ⟨Ao16, co16, eo16⟩ := Kd.R_slice HOqh.out; subst eo16; have hnb17 := NBqk_qc.out; have hnc17 := NBqc_qk.out; have hnb18 := NBqk_qd.out; have hnc18 := NBqd_qk.out; have hnb19 := NBqk_qe.out; have hnc19 := NBqe_qk.out; obtain ⟨hcz20_0, hcz20_1, hfz20_0, hfz20_1⟩ := c2 BKqk; obtain ⟨Ao21, co21, eo21⟩ := Kd.R_slice HOqi.out; subst eo21))
 have n0_ : Aside0 (Kd.R (Kd.int .i64) 3 ((((w10.setCell ⟨gbqj, 0, none⟩ (.int .i64 tq1)).setCell ⟨gbqj, 1, none⟩ (.slice Ao16 tq5.length co16)).setCell ⟨gbqk, 0, none⟩ (.int .i64 tq6)).setCell ⟨gbqk, 1, none⟩ (.slice Ao21 tq7.length co21)) w.heap.size (fun k_ => some k_ ≠ (.slice Ao21 tq7.length co21 : Value).ownBlock) (.slice Ao16 tq5.length co16) tq5) := ⟨by refine pRx ?_; exact Kd.R_mono (Kd.R_far (p := ⟨gbqk, 1, none⟩) (Kd.R_far (p := ⟨gbqk, 0, none⟩) (Kd.R_far (p := ⟨gbqj, 1, none⟩) (Kd.R_far (p := ⟨gbqj, 0, none⟩) (Kd.R_types (Kd.R_types HOqh.out BKqj.out (by decide)) BKqk.out (by decide)) (fun _ hk => hk.1.2) (.int .i64 tq1)) (fun _ hk => hk.1.2) (.slice Ao16 tq5.length co16)) (fun _ hk => hk.2) (.int .i64 tq6)) (fun _ hk => hk.2) (.slice Ao21 tq7.length co21)) (fun _ hk => hk.1.1)⟩
 have n1_ : Aside0 (Kd.R (Kd.int .i64) 3 ((((w10.setCell ⟨gbqj, 0, none⟩ (.int .i64 tq1)).setCell ⟨gbqj, 1, none⟩ (.slice Ao16 tq5.length co16)).setCell ⟨gbqk, 0, none⟩ (.int .i64 tq6)).setCell ⟨gbqk, 1, none⟩ (.slice Ao21 tq7.length co21)) w.heap.size (fun k_ => some k_ ≠ (.slice Ao16 tq5.length co16 : Value).ownBlock) (.slice Ao21 tq7.length co21) tq7) := ⟨by refine pRx ?_; exact Kd.R_mono (Kd.R_far (p := ⟨gbqk, 1, none⟩) (Kd.R_far (p := ⟨gbqk, 0, none⟩) (Kd.R_far (p := ⟨gbqj, 1, none⟩) (Kd.R_far (p := ⟨gbqj, 0, none⟩) (Kd.R_types (Kd.R_types HOqi.out BKqj.out (by decide)) BKqk.out (by decide)) (fun _ hk => hk.1.2) (.int .i64 tq1)) (fun _ hk => hk.1.2) (.slice Ao16 tq5.length co16)) (fun _ hk => hk.2) (.int .i64 tq6)) (fun _ hk => hk.2) (.slice Ao21 tq7.length co21)) (fun _ hk => hk.1.1)⟩
 have n2_ : Aside0 (((((w10.setCell ⟨gbqj, 0, none⟩ (.int .i64 tq1)).setCell ⟨gbqj, 1, none⟩ (.slice Ao16 tq5.length co16)).setCell ⟨gbqk, 0, none⟩ (.int .i64 tq6)).setCell ⟨gbqk, 1, none⟩ (.slice Ao21 tq7.length co21)).heap[gbqc]? = some (.cells #[.int .i64 0, .slice none 0 0] 28 (0, 0))) := ⟨by refine pkx ?_; refine yj ?_ NBqc_qk.out _; refine pkx ?_; refine yj ?_ NBqc_qk.out _; refine pkx ?_; refine yj ?_ NBqc_qj.out _; refine pkx ?_; refine yj ?_ NBqc_qj.out _; refine pkx ?_; exact BKqc.out⟩
 have n3_ : Aside0 (((((w10.setCell ⟨gbqj, 0, none⟩ (.int .i64 tq1)).setCell ⟨gbqj, 1, none⟩ (.slice Ao16 tq5.length co16)).setCell ⟨gbqk, 0, none⟩ (.int .i64 tq6)).setCell ⟨gbqk, 1, none⟩ (.slice Ao21 tq7.length co21)).heap[gbqd]? = some (.cells #[.int .i64 0, .slice none 0 0] 28 (0, 0))) := ⟨by refine pkx ?_; refine yj ?_ NBqd_qk.out _; refine pkx ?_; refine yj ?_ NBqd_qk.out _; refine pkx ?_; refine yj ?_ NBqd_qj.out _; refine pkx ?_; refine yj ?_ NBqd_qj.out _; refine pkx ?_; exact BKqd.out⟩
 have n4_ : Aside0 (((((w10.setCell ⟨gbqj, 0, none⟩ (.int .i64 tq1)).setCell ⟨gbqj, 1, none⟩ (.slice Ao16 tq5.length co16)).setCell ⟨gbqk, 0, none⟩ (.int .i64 tq6)).setCell ⟨gbqk, 1, none⟩ (.slice Ao21 tq7.length co21)).heap[gbqj]? = some (.cells #[.int .i64 tq1, .slice Ao16 tq5.length co16] 28 (0, 0))) := ⟨by refine pkx ?_; refine yj ?_ NBqj_qk.out _; refine pkx ?_; refine yj ?_ NBqj_qk.out _; refine pkx ?_; refine yh (cs := #[.int .i64 tq1, .slice none 0 0]) ?_ 1 _ rfl; refine pkx ?_; refine yh (cs := #[.int .i64 0, .slice none 0 0]) ?_ 0 _ rfl; refine pkx ?_; exact BKqj.out⟩
 have n5_ : Aside0 (((((w10.setCell ⟨gbqj, 0, none⟩ (.int .i64 tq1)).setCell ⟨gbqj, 1, none⟩ (.slice Ao16 tq5.length co16)).setCell ⟨gbqk, 0, none⟩ (.int .i64 tq6)).setCell ⟨gbqk, 1, none⟩ (.slice Ao21 tq7.length co21)).heap[gbqk]? = some (.cells #[.int .i64 tq6, .slice Ao21 tq7.length co21] 28 (0, 0))) := ⟨by refine pkx ?_; refine yh (cs := #[.int .i64 tq6, .slice none 0 0]) ?_ 1 _ rfl; refine pkx ?_; refine yh (cs := #[.int .i64 0, .slice none 0 0]) ?_ 0 _ rfl; refine pkx ?_; refine yj ?_ NBqk_qj.out _; refine pkx ?_; refine yj ?_ NBqk_qj.out _; refine pkx ?_; exact BKqk.out⟩
 have n6_ : Aside0 (IsS106 w ((((w10.setCell ⟨gbqj, 0, none⟩ (.int .i64 tq1)).setCell ⟨gbqj, 1, none⟩ (.slice Ao16 tq5.length co16)).setCell ⟨gbqk, 0, none⟩ (.int .i64 tq6)).setCell ⟨gbqk, 1, none⟩ (.slice Ao21 tq7.length co21)) gqe tq0 tq8 tq9) := ⟨pi_ HIqe⟩
 have n7_ : Aside0 (Below w.heap.size w ((((w10.setCell ⟨gbqj, 0, none⟩ (.int .i64 tq1)).setCell ⟨gbqj, 1, none⟩ (.slice Ao16 tq5.length co16)).setCell ⟨gbqk, 0, none⟩ (.int .i64 tq6)).setCell ⟨gbqk, 1, none⟩ (.slice Ao21 tq7.length co21))) := ⟨pbI HB⟩
 (try clear HOqh)
 (try clear HOqi)
 (try clear BKqc)
 (try clear BKqd)
 (try clear BKqj)
 (try clear BKqk)
 (try clear HIqe)
 (try clear HB)
 generalize ((((w10.setCell ⟨gbqj, 0, none⟩ (.int .i64 tq1)).setCell ⟨gbqj, 1, none⟩ (.slice Ao16 tq5.length co16)).setCell ⟨gbqk, 0, none⟩ (.int .i64 tq6)).setCell ⟨gbqk, 1, none⟩ (.slice Ao21 tq7.length co21)) = w22 at n0_ n1_ n2_ n3_ n4_ n5_ n6_ n7_ ⊢
 have HOqh := n0_
 have HOqi := n1_
 have BKqc := n2_
 have BKqd := n3_
 have BKqj := n4_
 have BKqk := n5_
 have HIqe := n6_
 have HB := n7_
 clear n0_ n1_ n2_ n3_ n4_ n5_ n6_ n7_
 replace HOqh := aQ (Kd.R_drew HOqh.out); replace HOqi := aQ (Kd.R_drew HOqi.out); replace BKqc := aQ (yF BKqc.out); replace BKqd := aQ (yF BKqd.out); replace BKqj := aQ (yF BKqj.out); replace BKqk := aQ (yF BKqk.out); replace HIqe := aQ (IsS106.drew HIqe.out); replace HB := aQ (yK HB.out)
 refine ya0 (n := 7) (S := fun w' => w'.cell? ⟨gbqj, 0, none⟩ = some (.int .i64 tq1) ∧ w'.cell? ⟨gbqj, 1, none⟩ = some (.slice Ao16 tq5.length co16) ∧ w'.cell? ⟨gbqk, 0, none⟩ = some (.int .i64 tq6) ∧ w'.cell? ⟨gbqk, 1, none⟩ = some (.slice Ao21 tq7.length co21)) (ds := []) _ (by kernel_rfl) rfl rfl ⟨(ya BKqj.out 0).trans rfl, (ya BKqj.out 1).trans rfl, (ya BKqk.out 0).trans rfl, (ya BKqk.out 1).trans rfl⟩ (fun hHeld => ?_)
 generalize w22.drew = w23 at HOqh HOqi BKqc BKqd BKqj BKqk HIqe HB hHeld ⊢
 refine pN 2 (some 17) ?_
 refine tN4 0 (some 15) hHeld ?_
 refine tN4 1 (some 16) hHeld ?_
 refine onN (i := 3) (N := some 18) (h := fun K hK => ?_)
 refine gs Try.func91 #[.pointer (some ⟨gqe, 0, none⟩), .int .i64 70] ?_
 with_reducible refine (yk.calls gqe tq0 tq8 tq9 70 tq2 tqa tqb w _ ?side1 ?side2 A4.out).mono ?_
 (case side1 => exact pi_ HIqe)
 (case side2 => exact pbI HB)
 rintro e w24 ⟨rfl, hi, hb, hk⟩
 refine ⟨_, rfl, ?_⟩
 replace BKqc := kk BKqc hk NBqc_qe.out; replace BKqd := kk BKqd hk NBqd_qe.out; replace HOqh := aQ (Kd.R_mono (Kd.R_keep (IsS106.apart (show IsS106 w _ gqe tq0 tq8 tq9 from pi_ HIqe) (pR HOqh.out) (by decide)) hk (fun _ h => h.2)) (fun _ h => h.1)); replace HOqi := aQ (Kd.R_mono (Kd.R_keep (IsS106.apart (show IsS106 w _ gqe tq0 tq8 tq9 from pi_ HIqe) (pR HOqi.out) (by decide)) hk (fun _ h => h.2)) (fun _ h => h.1)); replace BKqj := kk BKqj hk NBqj_qe.out; replace BKqk := kk BKqk hk NBqk_qe.out; replace HB := aQ (hb); replace HIqe := aQ (hi)
 (try clear hb)
 (try clear hb2)
 (try clear hk)
 (try clear hi)
 refine hK.out _ _ ⟨(ya BKqj.out 0).trans rfl, (ya BKqj.out 1).trans rfl, (ya BKqk.out 0).trans rfl, (ya BKqk.out 1).trans rfl⟩ (fun hHeld => ?_)
 clear hK K
 refine noN (some 18) (h := ?_)
 refine onN (i := 4) (N := none) (h := fun K hK => ?_)
 have hs25 : w24.cell? ⟨gbqc, 0, none⟩ = some (.int .i64 0) := (ya BKqc.out 0).trans rfl
 have hfs25 := yl BKqc.out 0
 have hns25_1 := NBqd_qc.out
 have hns25_2 := NBqj_qc.out
 have hns25_3 := NBqk_qc.out
 have hms25_1 := NBqc_qd.out
 have hms25_2 := NBqc_qj.out
 have hms25_3 := NBqc_qk.out
 have hs26 : w24.cell? ⟨gbqc, 1, none⟩ = some (.slice none 0 0) := (ya BKqc.out 1).trans rfl
 have hfs26 := yl BKqc.out 1
 have hns26_1 := NBqd_qc.out
 have hns26_2 := NBqj_qc.out
 have hns26_3 := NBqk_qc.out
 have hms26_1 := NBqc_qd.out
 have hms26_2 := NBqc_qj.out
 have hms26_3 := NBqc_qk.out
 refine ybU (w1 := ?_) (by rfl) rfl ?_ ?_
 rotate_left
 ·go_simp
  rfl
 refine hK.out _ _ ⟨((ym (p := ⟨gbqc, _, none⟩) NBqj_qc.out _).trans (((ym (p := ⟨gbqc, _, none⟩) NBqj_qc.out _).trans (hHeld.1)))), ((ym (p := ⟨gbqc, _, none⟩) NBqj_qc.out _).trans (((ym (p := ⟨gbqc, _, none⟩) NBqj_qc.out _).trans (hHeld.2.1)))), ((ym (p := ⟨gbqc, _, none⟩) NBqk_qc.out _).trans (((ym (p := ⟨gbqc, _, none⟩) NBqk_qc.out _).trans (hHeld.2.2.1)))), ((ym (p := ⟨gbqc, _, none⟩) NBqk_qc.out _).trans (((ym (p := ⟨gbqc, _, none⟩) NBqk_qc.out _).trans (hHeld.2.2.2))))⟩ (fun hHeld => ?_)
 clear hK K
 refine onN (i := 5) (N := none) (h := fun K hK => ?_)
 have hs27 : w24.cell? ⟨gbqd, 0, none⟩ = some (.int .i64 0) := (ya BKqd.out 0).trans rfl
 have hfs27 := yl BKqd.out 0
 have hns27_0 := NBqc_qd.out
 have hns27_2 := NBqj_qd.out
 have hns27_3 := NBqk_qd.out
 have hms27_0 := NBqd_qc.out
 have hms27_2 := NBqd_qj.out
 have hms27_3 := NBqd_qk.out
 have hs28 : w24.cell? ⟨gbqd, 1, none⟩ = some (.slice none 0 0) := (ya BKqd.out 1).trans rfl
 have hfs28 := yl BKqd.out 1
 have hns28_0 := NBqc_qd.out
 have hns28_2 := NBqj_qd.out
 have hns28_3 := NBqk_qd.out
 have hms28_0 := NBqd_qc.out
 have hms28_2 := NBqd_qj.out
 have hms28_3 := NBqd_qk.out
 refine ybU (w1 := ?_) (by rfl) rfl ?_ ?_
 rotate_left
 ·go_simp
  rfl
 refine hK.out _ _ ⟨((ym (p := ⟨gbqd, _, none⟩) NBqj_qd.out _).trans (((ym (p := ⟨gbqd, _, none⟩) NBqj_qd.out _).trans (hHeld.1)))), ((ym (p := ⟨gbqd, _, none⟩) NBqj_qd.out _).trans (((ym (p := ⟨gbqd, _, none⟩) NBqj_qd.out _).trans (hHeld.2.1)))), ((ym (p := ⟨gbqd, _, none⟩) NBqk_qd.out _).trans (((ym (p := ⟨gbqd, _, none⟩) NBqk_qd.out _).trans (hHeld.2.2.1)))), ((ym (p := ⟨gbqd, _, none⟩) NBqk_qd.out _).trans (((ym (p := ⟨gbqd, _, none⟩) NBqk_qd.out _).trans (hHeld.2.2.2))))⟩ (fun hHeld => ?_)
 clear hK K
 refine pN 6 (some 4) ?_
 refine ybs (by kernel_rfl) ?_
 try go_wp2
 refine bodyPost_ret (ydj (rs := [.cell 2 28, .cell 3 28, .tmp 4]) rfl (by simp) (.cell gbqc 28 #[.int .i64 tq1, .slice Ao16 tq5.length co16] (0, 0) _ rfl (by refine pkx ?_; refine yj ?_ NBqc_qd.out _; refine pkx ?_; refine yj ?_ NBqc_qd.out _; refine pkx ?_; refine yh (cs := #[.int .i64 tq1, .slice none 0 0]) ?_ 1 _ rfl; refine pkx ?_; refine yh (cs := #[.int .i64 0, .slice none 0 0]) ?_ 0 _ rfl; refine pkx ?_; exact BKqc.out) Try.underlying28 rfl (by kernel_rfl) (.cell gbqd 28 #[.int .i64 tq6, .slice Ao21 tq7.length co21] (0, 0) _ rfl (by refine pkx ?_; refine yh (cs := #[.int .i64 tq6, .slice none 0 0]) ?_ 1 _ rfl; refine pkx ?_; refine yh (cs := #[.int .i64 0, .slice none 0 0]) ?_ 0 _ rfl; refine pkx ?_; refine yj ?_ NBqd_qc.out _; refine pkx ?_; refine yj ?_ NBqd_qc.out _; refine pkx ?_; exact BKqd.out) Try.underlying28 rfl (by kernel_rfl) (.tmp .nil)))) rfl ?_
 exact ⟨_, _, by first | rfl | (simp [errW_none, yi] <;> rfl) | (simp [*, errW_none, yi] <;> rfl), by refine pRx ?_; exact Kd.R_mono (Kd.R_far (p := ⟨gbqd, 1, none⟩) (Kd.R_far (p := ⟨gbqd, 0, none⟩) (Kd.R_far (p := ⟨gbqc, 1, none⟩) (Kd.R_far (p := ⟨gbqc, 0, none⟩) (Kd.R_types (Kd.R_types HOqh.out BKqc.out (by decide)) BKqd.out (by decide)) (fun _ hk => hk.1.2) (.int .i64 tq1)) (fun _ hk => hk.1.2) (.slice Ao16 tq5.length co16)) (fun _ hk => hk.2) (.int .i64 tq6)) (fun _ hk => hk.2) (.slice Ao21 tq7.length co21)) (fun _ hk => hk.1.1), by refine pRx ?_; exact Kd.R_mono (Kd.R_far (p := ⟨gbqd, 1, none⟩) (Kd.R_far (p := ⟨gbqd, 0, none⟩) (Kd.R_far (p := ⟨gbqc, 1, none⟩) (Kd.R_far (p := ⟨gbqc, 0, none⟩) (Kd.R_types (Kd.R_types HOqi.out BKqc.out (by decide)) BKqd.out (by decide)) (fun _ hk => hk.1.2) (.int .i64 tq1)) (fun _ hk => hk.1.2) (.slice Ao16 tq5.length co16)) (fun _ hk => hk.2) (.int .i64 tq6)) (fun _ hk => hk.2) (.slice Ao21 tq7.length co21)) (fun _ hk => hk.1.1), pbI HB⟩
def ya2.f (k : Nat) (l0 : List Int) : Option (Int × List Int × Int × List Int × Int) := (ybi.f k l0).bind fun btq0 => (some (btq0.1, btq0.2.1, btq0.2.2.1, btq0.2.2.2.1, btq0.2.2.2.2))
theorem ya2.calls (k : Nat) (A0 : Option Addr) (c0 : Nat) (l0 : List Int) (r1 : Int) (r2 : List Int) (r3 : Int) (r4 : List Int) (r5 : Int) (w : World) (hr0 : Kd.C (Kd.int .u8) w A0 l0.length l0) (hc0 : l0.length ≤ c0) (h : ya2.f k l0 = some (r1, r2, r3, r4, r5)) :
  Calls Try.prog 28 #[.slice A0 l0.length c0] w fun e w' => ∃ v1_ v3_ : Value, e = .returned (.tuple #[.agg #[.int .i64 r1, v1_], .agg #[.int .i64 r3, v3_], .int .i64 r5]) ∧ Kd.R (Kd.int .i64) 3 w' w.heap.size (fun k_ => some k_ ≠ (v3_ : Value).ownBlock) v1_ r2 ∧ Kd.R (Kd.int .i64) 3 w' w.heap.size (fun k_ => some k_ ≠ (v1_ : Value).ownBlock) v3_ r4 ∧ Below w.heap.size w w' := by
 have hu28 := Try.underlying28
 have HR0 := aQ hr0
 have HC0 := aQ hc0
 clear hr0 hc0
 have HB := aQ (Below.refl w.heap.size w)
 have H := h
 clear h
 unfold ya2.f at H
 (try dsimp only at H)
 replace H := bo H; obtain ⟨⟨tq0, tq1, tq2, tq3, tq4⟩, A2, H⟩ := H
 (try dsimp only at H)
 simp only [Option.some.injEq, Prod.mk.injEq] at H
 obtain ⟨rfl, rfl, rfl, rfl, rfl⟩ := H
 go_enter Try.func28, Try.ntmps28
 try go_wp2_with (first | ((with_reducible refine yb (N := 2) rfl ?_); refine bx 2 #[.int .i64 0, .slice none 0 0] 28 ?_; intro gbq5 hg w3 hbox hb; have BKq5 := aQ (hbox); have GWq5 := gB HB hg; have GEq5 := gB HB hg; replace HB := bs HB hb; clear hb hbox hg) | ((with_reducible refine yb (N := 3) rfl ?_); refine bx 3 #[.int .i64 0, .slice none 0 0] 28 ?_; intro gbq6 hg w4 hbox hb; have BKq6 := aQ (hbox); have GWq6 := gB HB hg; have GEq6 := gB HB hg; replace HB := bs HB hb; have NBq5_q6 := nl BKq5 hg; have NBq6_q5 := ng BKq5 hg; replace BKq5 := bb BKq5 hb; clear hb hbox hg) | (refine gq 85 (some 10) Try.func85 #[.slice A0 l0.length c0] ?_; (with_reducible refine (ybi.calls k _ _ l0 tq0 tq1 tq2 tq3 tq4 _ ?side1 ?side2 A2.out).mono ?_); (case side1 => exact pC (Kd.C_below HR0.out HB.out)); (case side2 => exact HC0.out); rintro e w5 ⟨vq7, vq8, rfl, ho0, ho1, hb⟩; refine ⟨_, rfl, ?_⟩; have HOq9 := aQ (Kd.R_lower ho0 (yc (pB2 HB.out GEq5.out GEq6.out))); have HOqa := aQ (Kd.R_lower ho1 (yc (pB2 HB.out GEq5.out GEq6.out))); replace BKq5 := bb BKq5 hb; replace BKq6 := bb BKq6 hb; replace HB := bs HB hb; (try clear hb); (try clear ho0); (try clear ho1)) | ((with_reducible refine yb (N := 5) rfl ?_); refine bx 5 #[.int .i64 0, .slice none 0 0] 28 ?_; intro gbqb hg w6 hbox hb; replace HOq9 := aQ (Kd.R_below (pR HOq9.out) hb); replace HOqa := aQ (Kd.R_below (pR HOqa.out) hb); have BKqb := aQ (hbox); have GWqb := gB HB hg; have GEqb := gB HB hg; replace HB := bs HB hb; have NBq5_qb := nl BKq5 hg; have NBqb_q5 := ng BKq5 hg; replace BKq5 := bb BKq5 hb; have NBq6_qb := nl BKq6 hg; have NBqb_q6 := ng BKq6 hg; replace BKq6 := bb BKq6 hb; clear hb hbox hg) | ((with_reducible refine yb (N := 6) rfl ?_); refine bx 6 #[.int .i64 0, .slice none 0 0] 28 ?_; intro gbqc hg w7 hbox hb; replace HOq9 := aQ (Kd.R_below (pR HOq9.out) hb); replace HOqa := aQ (Kd.R_below (pR HOqa.out) hb); have BKqc := aQ (hbox); have GWqc := gB HB hg; have GEqc := gB HB hg; replace HB := bs HB hb; have NBq5_qc := nl BKq5 hg; have NBqc_q5 := ng BKq5 hg; replace BKq5 := bb BKq5 hb; have NBq6_qc := nl BKq6 hg; have NBqc_q6 := ng BKq6 hg; replace BKq6 := bb BKq6 hb; have NBqb_qc := nl BKqb hg; have NBqc_qb := ng BKqb hg; replace BKqb := bb BKqb hb; clear hb hbox hg; have hnb8 := NBqb_q5.out; have hnc8 := NBq5_qb.out; have hnb9 := NBqb_q6.out; have hnc9 := NBq6_qb.out; have hnb10 := NBqb_qc.out; have hnc10 := NBqc_qb.out; obtain ⟨hcz11_0, hcz11_1, hfz11_0, hfz11_1⟩ := c2 BKqb; obtain ⟨Ao12, co12, eo12⟩ := Kd.R_slice HOq9.out; subst eo12; have hnb13 := NBqc_q5.out; have hnc13 := NBq5_qc.out; have hnb14 := NBqc_q6.out; have hnc14 := NBq6_qc.out; obtain ⟨hcz15_0, hcz15_1, hfz15_0, hfz15_1⟩ := c2 BKqc; obtain ⟨Ao16, co16, eo16⟩ := Kd.R_slice HOqa.out; subst eo16))
 have n0_ : Aside0 (Kd.R (Kd.int .i64) 3 ((((w7.setCell ⟨gbqb, 0, none⟩ (.int .i64 tq0)).setCell ⟨gbqb, 1, none⟩ (.slice Ao12 tq1.length co12)).setCell ⟨gbqc, 0, none⟩ (.int .i64 tq2)).setCell ⟨gbqc, 1, none⟩ (.slice Ao16 tq3.length co16)) w.heap.size (fun k_ => some k_ ≠ (.slice Ao16 tq3.length co16 : Value).ownBlock) (.slice Ao12 tq1.length co12) tq1) := ⟨by refine pRx ?_; exact Kd.R_mono (Kd.R_far (p := ⟨gbqc, 1, none⟩) (Kd.R_far (p := ⟨gbqc, 0, none⟩) (Kd.R_far (p := ⟨gbqb, 1, none⟩) (Kd.R_far (p := ⟨gbqb, 0, none⟩) (Kd.R_types (Kd.R_types HOq9.out BKqb.out (by decide)) BKqc.out (by decide)) (fun _ hk => hk.1.2) (.int .i64 tq0)) (fun _ hk => hk.1.2) (.slice Ao12 tq1.length co12)) (fun _ hk => hk.2) (.int .i64 tq2)) (fun _ hk => hk.2) (.slice Ao16 tq3.length co16)) (fun _ hk => hk.1.1)⟩
 have n1_ : Aside0 (Kd.R (Kd.int .i64) 3 ((((w7.setCell ⟨gbqb, 0, none⟩ (.int .i64 tq0)).setCell ⟨gbqb, 1, none⟩ (.slice Ao12 tq1.length co12)).setCell ⟨gbqc, 0, none⟩ (.int .i64 tq2)).setCell ⟨gbqc, 1, none⟩ (.slice Ao16 tq3.length co16)) w.heap.size (fun k_ => some k_ ≠ (.slice Ao12 tq1.length co12 : Value).ownBlock) (.slice Ao16 tq3.length co16) tq3) := ⟨by refine pRx ?_; exact Kd.R_mono (Kd.R_far (p := ⟨gbqc, 1, none⟩) (Kd.R_far (p := ⟨gbqc, 0, none⟩) (Kd.R_far (p := ⟨gbqb, 1, none⟩) (Kd.R_far (p := ⟨gbqb, 0, none⟩) (Kd.R_types (Kd.R_types HOqa.out BKqb.out (by decide)) BKqc.out (by decide)) (fun _ hk => hk.1.2) (.int .i64 tq0)) (fun _ hk => hk.1.2) (.slice Ao12 tq1.length co12)) (fun _ hk => hk.2) (.int .i64 tq2)) (fun _ hk => hk.2) (.slice Ao16 tq3.length co16)) (fun _ hk => hk.1.1)⟩
 have n2_ : Aside0 (((((w7.setCell ⟨gbqb, 0, none⟩ (.int .i64 tq0)).setCell ⟨gbqb, 1, none⟩ (.slice Ao12 tq1.length co12)).setCell ⟨gbqc, 0, none⟩ (.int .i64 tq2)).setCell ⟨gbqc, 1, none⟩ (.slice Ao16 tq3.length co16)).heap[gbq5]? = some (.cells #[.int .i64 0, .slice none 0 0] 28 (0, 0))) := ⟨by refine pkx ?_; refine yj ?_ NBq5_qc.out _; refine pkx ?_; refine yj ?_ NBq5_qc.out _; refine pkx ?_; refine yj ?_ NBq5_qb.out _; refine pkx ?_; refine yj ?_ NBq5_qb.out _; refine pkx ?_; exact BKq5.out⟩
 have n3_ : Aside0 (((((w7.setCell ⟨gbqb, 0, none⟩ (.int .i64 tq0)).setCell ⟨gbqb, 1, none⟩ (.slice Ao12 tq1.length co12)).setCell ⟨gbqc, 0, none⟩ (.int .i64 tq2)).setCell ⟨gbqc, 1, none⟩ (.slice Ao16 tq3.length co16)).heap[gbq6]? = some (.cells #[.int .i64 0, .slice none 0 0] 28 (0, 0))) := ⟨by refine pkx ?_; refine yj ?_ NBq6_qc.out _; refine pkx ?_; refine yj ?_ NBq6_qc.out _; refine pkx ?_; refine yj ?_ NBq6_qb.out _; refine pkx ?_; refine yj ?_ NBq6_qb.out _; refine pkx ?_; exact BKq6.out⟩
 have n4_ : Aside0 (((((w7.setCell ⟨gbqb, 0, none⟩ (.int .i64 tq0)).setCell ⟨gbqb, 1, none⟩ (.slice Ao12 tq1.length co12)).setCell ⟨gbqc, 0, none⟩ (.int .i64 tq2)).setCell ⟨gbqc, 1, none⟩ (.slice Ao16 tq3.length co16)).heap[gbqb]? = some (.cells #[.int .i64 tq0, .slice Ao12 tq1.length co12] 28 (0, 0))) := ⟨by refine pkx ?_; refine yj ?_ NBqb_qc.out _; refine pkx ?_; refine yj ?_ NBqb_qc.out _; refine pkx ?_; refine yh (cs := #[.int .i64 tq0, .slice none 0 0]) ?_ 1 _ rfl; refine pkx ?_; refine yh (cs := #[.int .i64 0, .slice none 0 0]) ?_ 0 _ rfl; refine pkx ?_; exact BKqb.out⟩
 have n5_ : Aside0 (((((w7.setCell ⟨gbqb, 0, none⟩ (.int .i64 tq0)).setCell ⟨gbqb, 1, none⟩ (.slice Ao12 tq1.length co12)).setCell ⟨gbqc, 0, none⟩ (.int .i64 tq2)).setCell ⟨gbqc, 1, none⟩ (.slice Ao16 tq3.length co16)).heap[gbqc]? = some (.cells #[.int .i64 tq2, .slice Ao16 tq3.length co16] 28 (0, 0))) := ⟨by refine pkx ?_; refine yh (cs := #[.int .i64 tq2, .slice none 0 0]) ?_ 1 _ rfl; refine pkx ?_; refine yh (cs := #[.int .i64 0, .slice none 0 0]) ?_ 0 _ rfl; refine pkx ?_; refine yj ?_ NBqc_qb.out _; refine pkx ?_; refine yj ?_ NBqc_qb.out _; refine pkx ?_; exact BKqc.out⟩
 have n6_ : Aside0 (Below w.heap.size w ((((w7.setCell ⟨gbqb, 0, none⟩ (.int .i64 tq0)).setCell ⟨gbqb, 1, none⟩ (.slice Ao12 tq1.length co12)).setCell ⟨gbqc, 0, none⟩ (.int .i64 tq2)).setCell ⟨gbqc, 1, none⟩ (.slice Ao16 tq3.length co16))) := ⟨pB4 HB.out GEq5.out GEq6.out GEqb.out GEqc.out⟩
 (try clear HOq9)
 (try clear HOqa)
 (try clear BKq5)
 (try clear BKq6)
 (try clear BKqb)
 (try clear BKqc)
 (try clear HB)
 generalize ((((w7.setCell ⟨gbqb, 0, none⟩ (.int .i64 tq0)).setCell ⟨gbqb, 1, none⟩ (.slice Ao12 tq1.length co12)).setCell ⟨gbqc, 0, none⟩ (.int .i64 tq2)).setCell ⟨gbqc, 1, none⟩ (.slice Ao16 tq3.length co16)) = w17 at n0_ n1_ n2_ n3_ n4_ n5_ n6_ ⊢
 have HOq9 := n0_
 have HOqa := n1_
 have BKq5 := n2_
 have BKq6 := n3_
 have BKqb := n4_
 have BKqc := n5_
 have HB := n6_
 clear n0_ n1_ n2_ n3_ n4_ n5_ n6_
 replace HOq9 := aQ (Kd.R_drew HOq9.out); replace HOqa := aQ (Kd.R_drew HOqa.out); replace BKq5 := aQ (yF BKq5.out); replace BKq6 := aQ (yF BKq6.out); replace BKqb := aQ (yF BKqb.out); replace BKqc := aQ (yF BKqc.out); replace HB := aQ (yK HB.out)
 refine ya0 (n := 6) (S := fun w' => w'.cell? ⟨gbqb, 0, none⟩ = some (.int .i64 tq0) ∧ w'.cell? ⟨gbqb, 1, none⟩ = some (.slice Ao12 tq1.length co12) ∧ w'.cell? ⟨gbqc, 0, none⟩ = some (.int .i64 tq2) ∧ w'.cell? ⟨gbqc, 1, none⟩ = some (.slice Ao16 tq3.length co16)) (ds := []) _ (by kernel_rfl) rfl rfl ⟨(ya BKqb.out 0).trans rfl, (ya BKqb.out 1).trans rfl, (ya BKqc.out 0).trans rfl, (ya BKqc.out 1).trans rfl⟩ (fun hHeld => ?_)
 generalize w17.drew = w18 at HOq9 HOqa BKq5 BKq6 BKqb BKqc HB hHeld ⊢
 refine pN 2 (some 16) ?_
 refine tN4 0 (some 14) hHeld ?_
 refine tN4 1 (some 15) hHeld ?_
 refine onN (i := 3) (N := none) (h := fun K hK => ?_)
 have hs19 : w18.cell? ⟨gbq5, 0, none⟩ = some (.int .i64 0) := (ya BKq5.out 0).trans rfl
 have hfs19 := yl BKq5.out 0
 have hns19_1 := NBq6_q5.out
 have hns19_2 := NBqb_q5.out
 have hns19_3 := NBqc_q5.out
 have hms19_1 := NBq5_q6.out
 have hms19_2 := NBq5_qb.out
 have hms19_3 := NBq5_qc.out
 have hs20 : w18.cell? ⟨gbq5, 1, none⟩ = some (.slice none 0 0) := (ya BKq5.out 1).trans rfl
 have hfs20 := yl BKq5.out 1
 have hns20_1 := NBq6_q5.out
 have hns20_2 := NBqb_q5.out
 have hns20_3 := NBqc_q5.out
 have hms20_1 := NBq5_q6.out
 have hms20_2 := NBq5_qb.out
 have hms20_3 := NBq5_qc.out
 refine ybU (w1 := ?_) (by rfl) rfl ?_ ?_
 rotate_left
 ·go_simp
  rfl
 refine hK.out _ _ ⟨((ym (p := ⟨gbq5, _, none⟩) NBqb_q5.out _).trans (((ym (p := ⟨gbq5, _, none⟩) NBqb_q5.out _).trans (hHeld.1)))), ((ym (p := ⟨gbq5, _, none⟩) NBqb_q5.out _).trans (((ym (p := ⟨gbq5, _, none⟩) NBqb_q5.out _).trans (hHeld.2.1)))), ((ym (p := ⟨gbq5, _, none⟩) NBqc_q5.out _).trans (((ym (p := ⟨gbq5, _, none⟩) NBqc_q5.out _).trans (hHeld.2.2.1)))), ((ym (p := ⟨gbq5, _, none⟩) NBqc_q5.out _).trans (((ym (p := ⟨gbq5, _, none⟩) NBqc_q5.out _).trans (hHeld.2.2.2))))⟩ (fun hHeld => ?_)
 clear hK K
 refine onN (i := 4) (N := none) (h := fun K hK => ?_)
 have hs21 : w18.cell? ⟨gbq6, 0, none⟩ = some (.int .i64 0) := (ya BKq6.out 0).trans rfl
 have hfs21 := yl BKq6.out 0
 have hns21_0 := NBq5_q6.out
 have hns21_2 := NBqb_q6.out
 have hns21_3 := NBqc_q6.out
 have hms21_0 := NBq6_q5.out
 have hms21_2 := NBq6_qb.out
 have hms21_3 := NBq6_qc.out
 have hs22 : w18.cell? ⟨gbq6, 1, none⟩ = some (.slice none 0 0) := (ya BKq6.out 1).trans rfl
 have hfs22 := yl BKq6.out 1
 have hns22_0 := NBq5_q6.out
 have hns22_2 := NBqb_q6.out
 have hns22_3 := NBqc_q6.out
 have hms22_0 := NBq6_q5.out
 have hms22_2 := NBq6_qb.out
 have hms22_3 := NBq6_qc.out
 refine ybU (w1 := ?_) (by rfl) rfl ?_ ?_
 rotate_left
 ·go_simp
  rfl
 refine hK.out _ _ ⟨((ym (p := ⟨gbq6, _, none⟩) NBqb_q6.out _).trans (((ym (p := ⟨gbq6, _, none⟩) NBqb_q6.out _).trans (hHeld.1)))), ((ym (p := ⟨gbq6, _, none⟩) NBqb_q6.out _).trans (((ym (p := ⟨gbq6, _, none⟩) NBqb_q6.out _).trans (hHeld.2.1)))), ((ym (p := ⟨gbq6, _, none⟩) NBqc_q6.out _).trans (((ym (p := ⟨gbq6, _, none⟩) NBqc_q6.out _).trans (hHeld.2.2.1)))), ((ym (p := ⟨gbq6, _, none⟩) NBqc_q6.out _).trans (((ym (p := ⟨gbq6, _, none⟩) NBqc_q6.out _).trans (hHeld.2.2.2))))⟩ (fun hHeld => ?_)
 clear hK K
 refine pN 5 (some 4) ?_
 refine ybs (by kernel_rfl) ?_
 try go_wp2
 refine bodyPost_ret (ydj (rs := [.cell 2 28, .cell 3 28, .tmp 4]) rfl (by simp) (.cell gbq5 28 #[.int .i64 tq0, .slice Ao12 tq1.length co12] (0, 0) _ rfl (by refine pkx ?_; refine yj ?_ NBq5_q6.out _; refine pkx ?_; refine yj ?_ NBq5_q6.out _; refine pkx ?_; refine yh (cs := #[.int .i64 tq0, .slice none 0 0]) ?_ 1 _ rfl; refine pkx ?_; refine yh (cs := #[.int .i64 0, .slice none 0 0]) ?_ 0 _ rfl; refine pkx ?_; exact BKq5.out) Try.underlying28 rfl (by kernel_rfl) (.cell gbq6 28 #[.int .i64 tq2, .slice Ao16 tq3.length co16] (0, 0) _ rfl (by refine pkx ?_; refine yh (cs := #[.int .i64 tq2, .slice none 0 0]) ?_ 1 _ rfl; refine pkx ?_; refine yh (cs := #[.int .i64 0, .slice none 0 0]) ?_ 0 _ rfl; refine pkx ?_; refine yj ?_ NBq6_q5.out _; refine pkx ?_; refine yj ?_ NBq6_q5.out _; refine pkx ?_; exact BKq6.out) Try.underlying28 rfl (by kernel_rfl) (.tmp .nil)))) rfl ?_
 exact ⟨_, _, by first | rfl | (simp [errW_none, yi] <;> rfl) | (simp [*, errW_none, yi] <;> rfl), by refine pRx ?_; exact Kd.R_mono (Kd.R_far (p := ⟨gbq6, 1, none⟩) (Kd.R_far (p := ⟨gbq6, 0, none⟩) (Kd.R_far (p := ⟨gbq5, 1, none⟩) (Kd.R_far (p := ⟨gbq5, 0, none⟩) (Kd.R_types (Kd.R_types HOq9.out BKq5.out (by decide)) BKq6.out (by decide)) (fun _ hk => hk.1.2) (.int .i64 tq0)) (fun _ hk => hk.1.2) (.slice Ao12 tq1.length co12)) (fun _ hk => hk.2) (.int .i64 tq2)) (fun _ hk => hk.2) (.slice Ao16 tq3.length co16)) (fun _ hk => hk.1.1), by refine pRx ?_; exact Kd.R_mono (Kd.R_far (p := ⟨gbq6, 1, none⟩) (Kd.R_far (p := ⟨gbq6, 0, none⟩) (Kd.R_far (p := ⟨gbq5, 1, none⟩) (Kd.R_far (p := ⟨gbq5, 0, none⟩) (Kd.R_types (Kd.R_types HOqa.out BKq5.out (by decide)) BKq6.out (by decide)) (fun _ hk => hk.1.2) (.int .i64 tq0)) (fun _ hk => hk.1.2) (.slice Ao12 tq1.length co12)) (fun _ hk => hk.2) (.int .i64 tq2)) (fun _ hk => hk.2) (.slice Ao16 tq3.length co16)) (fun _ hk => hk.1.1), pB4 HB.out GEq5.out GEq6.out GEqb.out GEqc.out⟩
def yaa.j0 : Nat → Int → Bool → Int → List Int → Int → List Int → Option (Int)
 | 0, _, _, _, _, _, _ => none
 | k + 1, x2, x17, x31002000, x31002001, x31003000, x31003001 => if x17 = true then (some (-1)) else ((yaj.f k x31002000 x31002001 x2).bind fun tq0 => ((yT.f x31002000).bind fun tq1 => ((yaj.f k x31003000 x31003001 (wrap64 (tq1 - x2))).bind fun tq2 => (some (wrap64 (tq0 + tq2))))))
def yaa.f (k : Nat) (a0_0 : Int) (l0_1 : List Int) (a1_0 : Int) (l1_1 : List Int) (a2 : Int) : Option (Int) := (yaH.f k a0_0 l0_1 a1_0 l1_1 0).bind fun tq3 => (if tq3 = true then ((yJ.f a0_0 a2).bind fun tq4 => (yaa.j0 k a2 (!tq4) a0_0 l0_1 a1_0 l1_1)) else (yaa.j0 k a2 true a0_0 l0_1 a1_0 l1_1))
def yaa.T3 : Bool × List (List Nat × List Nat) := (true, [([], []), ([], []), ([0, 1], [0, 1]), ([], []), ([], []), ([4], [4]), ([5, 2], [5]), ([], []), ([6, 7], [6, 7]), ([3, 8, 6], [3, 8]), ([2, 9], [2, 9]), ([10, 9, 0, 1, 2, 3, 4, 5, 6, 7, 8, 9, 10], [10])])
def yaa.B3 : List Nat := [0, 0, 3, 0, 0, 16, 55, 0, 247, 511, 1023, 2047]
theorem yaa.tab3 : rtab .any (yco Try.f30 3) = yaa.T3 := by kernel_rfl
theorem yaa.bits3 : ybf yaa.T3.2 yaa.B3 = true := by kernel_rfl
theorem yaa.calls (k : Nat) (a0_0 : Int) (A0_1 : Option Addr) (c0_1 : Nat) (l0_1 : List Int) (a1_0 : Int) (A1_1 : Option Addr) (c1_1 : Nat) (l1_1 : List Int) (a2 : Int) (r : Int) (w : World) (hr0_1 : Kd.C (Kd.int .i64) w A0_1 l0_1.length l0_1) (hc0_1 : l0_1.length ≤ c0_1) (hr1_1 : Kd.C (Kd.int .i64) w A1_1 l1_1.length l1_1) (hc1_1 : l1_1.length ≤ c1_1) (h : yaa.f k a0_0 l0_1 a1_0 l1_1 a2 = some r) :
  Calls Try.prog 30 #[.agg #[.int .i64 a0_0, .slice A0_1 l0_1.length c0_1], .agg #[.int .i64 a1_0, .slice A1_1 l1_1.length c1_1], .int .i64 a2] w fun e w' => e = .returned (.int .i64 r) ∧ Below w.heap.size w w' := by
 have hu28 := Try.underlying28
 have HR0_1 := aQ hr0_1
 have HC0_1 := aQ hc0_1
 clear hr0_1 hc0_1
 have HR1_1 := aQ hr1_1
 have HC1_1 := aQ hc1_1
 clear hr1_1 hc1_1
 have HB := aQ (Below.refl w.heap.size w)
 have H := h
 clear h
 unfold yaa.f at H
 (try dsimp only at H)
 have HC4 := aQ H
 clear H
 go_enter Try.func30, Try.ntmps30
 go_upto_region 1 with (first | ((with_reducible refine yb (N := 3) rfl ?_); refine bx 3 #[.int .i64 a0_0, .slice A0_1 l0_1.length c0_1] 28 ?_; intro gbq5 hg w5 hbox hb; have BKq5 := aQ (hbox); have GWq5 := gB HB hg; have GEq5 := gB HB hg; replace HB := bs HB hb; clear hb hbox hg) | ((with_reducible refine yb (N := 4) rfl ?_); refine bx 4 #[.int .i64 a1_0, .slice A1_1 l1_1.length c1_1] 28 ?_; intro gbq6 hg w6 hbox hb; have BKq6 := aQ (hbox); have GWq6 := gB HB hg; have GEq6 := gB HB hg; replace HB := bs HB hb; have NBq5_q6 := nl BKq5 hg; have NBq6_q5 := ng BKq5 hg; replace BKq5 := bb BKq5 hb; clear hb hbox hg))
 (try simp only [Act.put, List.setIfInBounds_toArray, List.set_cons_zero, List.set_cons_succ])
 go_cut [17] (fun v17 wc => ∃ (kq : Nat) (x17_3 : Bool), v17 = .bool x17_3 ∧ Aside0 (yaa.j0 kq a2 x17_3 a0_0 l0_1 a1_0 l1_1 = some r) ∧ Aside0 (kq ≤ k) ∧ Aside0 (wc.heap[gbq5]? = some (.cells #[.int .i64 a0_0, (.slice A0_1 l0_1.length c0_1)] 28 (0, 0))) ∧ Aside0 (wc.heap[gbq6]? = some (.cells #[.int .i64 a1_0, (.slice A1_1 l1_1.length c1_1)] 28 (0, 0))) ∧ Aside0 (Below w.heap.size w wc))
 case first =>
  have H := HC4.out
  clear HC4
  replace H := bo H; obtain ⟨tq3, A7, H⟩ := H
  (try dsimp only at H)
  by_cases c8 : tq3 = true
  ·subst c8
   rw [if_pos rfl] at H
   replace H := bo H; obtain ⟨tq4, A9, H⟩ := H
   (try dsimp only at H)
   have H' := aQ H
   clear H
   have hnb10 := NBq5_q6.out
   have hnc10 := NBq6_q5.out
   obtain ⟨hcz11_0, hcz11_1, hfz11_0, hfz11_1⟩ := c2 BKq5
   obtain ⟨hcz12_0, hcz12_1, hfz12_0, hfz12_1⟩ := c2 BKq6
   go_wp2_with (first | (refine gq 32 (some 9) Try.func32 #[.agg #[.int .i64 a0_0, .slice A0_1 l0_1.length c0_1], .agg #[.int .i64 a1_0, .slice A1_1 l1_1.length c1_1], .int .i64 0] ?_; (with_reducible refine (yaH.calls k a0_0 _ _ l0_1 a1_0 _ _ l1_1 0 true _ ?side1 ?side2 ?side3 ?side4 A7.out).mono ?_); (case side1 => exact pC (Kd.C_below HR0_1.out HB.out)); (case side2 => exact HC0_1.out); (case side3 => exact pC (Kd.C_below HR1_1.out HB.out)); (case side4 => exact HC1_1.out); rintro e w13 ⟨rfl, hb⟩; refine ⟨_, rfl, ?_⟩; replace BKq5 := bb BKq5 hb; replace BKq6 := bb BKq6 hb; replace HB := bs HB hb; (try clear hb); obtain ⟨hcz14_0, hcz14_1, hfz14_0, hfz14_1⟩ := c2 BKq5) | (go_at_call 55; (with_reducible refine (yJ.calls a0_0 a2 tq4 _ A9.out).mono ?_); rintro e w' ⟨rfl, ⟨nd, rfl⟩⟩))
   go_meet
   case rel => exact ⟨_, (!tq4), rs_, H', ⟨by first | omega | exact Nat.le_refl _⟩, ⟨pk BKq5.out⟩, ⟨pk BKq6.out⟩, ⟨pB2 HB.out GEq5.out GEq6.out⟩⟩
  ·replace c8 := Bool.eq_false_iff.mpr c8
   subst c8
   have H1 : (yaa.j0 k a2 true a0_0 l0_1 a1_0 l1_1) = some r := by rw [if_neg (show ¬ (false = true) by decide)] at H; exact H
   clear H
   have H := H1
   clear H1
   have H' := aQ H
   clear H
   have hnb15 := NBq5_q6.out
   have hnc15 := NBq6_q5.out
   obtain ⟨hcz16_0, hcz16_1, hfz16_0, hfz16_1⟩ := c2 BKq5
   obtain ⟨hcz17_0, hcz17_1, hfz17_0, hfz17_1⟩ := c2 BKq6
   go_wp2_with (first | (refine gq 32 (some 9) Try.func32 #[.agg #[.int .i64 a0_0, .slice A0_1 l0_1.length c0_1], .agg #[.int .i64 a1_0, .slice A1_1 l1_1.length c1_1], .int .i64 0] ?_; (with_reducible refine (yaH.calls k a0_0 _ _ l0_1 a1_0 _ _ l1_1 0 false _ ?side1 ?side2 ?side3 ?side4 A7.out).mono ?_); (case side1 => exact pC (Kd.C_below HR0_1.out HB.out)); (case side2 => exact HC0_1.out); (case side3 => exact pC (Kd.C_below HR1_1.out HB.out)); (case side4 => exact HC1_1.out); rintro e w18 ⟨rfl, hb⟩; refine ⟨_, rfl, ?_⟩; replace BKq5 := bb BKq5 hb; replace BKq6 := bb BKq6 hb; replace HB := bs HB hb; (try clear hb)))
   go_meet
   case rel => exact ⟨_, (true), rs_, H', ⟨by first | omega | exact Nat.le_refl _⟩, ⟨pk BKq5.out⟩, ⟨pk BKq6.out⟩, ⟨pB2 HB.out GEq5.out GEq6.out⟩⟩
 case rest =>
  clear HC4
  try clear c1
  try clear p2
  try clear c3
  try clear c8
  try clear c10
  try clear c15
  try clear hcz11_0
  try clear hcz11_1
  try clear hcz12_0
  try clear hcz12_1
  try clear hcz14_0
  try clear hcz14_1
  try clear hcz16_0
  try clear hcz16_1
  try clear hcz17_0
  try clear hcz17_1
  try clear hfz11_0
  try clear hfz11_1
  try clear hfz12_0
  try clear hfz12_1
  try clear hfz14_0
  try clear hfz14_1
  try clear hfz16_0
  try clear hfz16_1
  try clear hfz17_0
  try clear hfz17_1
  obtain ⟨kq, x17_3, rfl, HA, HJ3, BKq5, BKq6, HB⟩ := hcut
  cases kq with
  | zero => exact absurd HA.out (by simp [yaa.j0])
  | succ kj3 =>
   have H := HA.out
   clear HA
   simp only [yaa.j0] at H
   by_cases c19 : x17_3 = true
   ·subst c19
    rw [if_pos rfl] at H
    obtain rfl := Option.some.inj H
    go_wp2
    go_ret
    exact ⟨re_, pB2 HB.out GEq5.out GEq6.out⟩
   ·replace c19 := Bool.eq_false_iff.mpr c19
    subst c19
    have H1 : ((yaj.f kj3 a0_0 l0_1 a2).bind fun tq0 => ((yT.f a0_0).bind fun tq1 => ((yaj.f kj3 a1_0 l1_1 (wrap64 (tq1 - a2))).bind fun tq2 => (some (wrap64 (tq0 + tq2)))))) = some r := by rw [if_neg (show ¬ (false = true) by decide)] at H; exact H
    clear H
    have H := H1
    clear H1
    replace H := bo H; obtain ⟨tq0, A20, H⟩ := H
    (try dsimp only at H)
    replace H := bo H; obtain ⟨tq1, A21, H⟩ := H
    (try dsimp only at H)
    replace H := bo H; obtain ⟨tq2, A22, H⟩ := H
    (try dsimp only at H)
    obtain rfl := Option.some.inj H
    try go_wp2
    replace BKq5 := aQ (yF BKq5.out); replace BKq6 := aQ (yF BKq6.out); replace HB := aQ (yK HB.out)
    refine ya0 (n := 12) (S := fun w' => w'.cell? ⟨gbq5, 0, none⟩ = some (.int .i64 a0_0) ∧ w'.cell? ⟨gbq5, 1, none⟩ = some (.slice A0_1 l0_1.length c0_1) ∧ w'.cell? ⟨gbq6, 0, none⟩ = some (.int .i64 a1_0) ∧ w'.cell? ⟨gbq6, 1, none⟩ = some (.slice A1_1 l1_1.length c1_1)) (ds := []) _ (by kernel_rfl) rfl rfl ⟨(ya BKq5.out 0).trans rfl, (ya BKq5.out 1).trans rfl, (ya BKq6.out 0).trans rfl, (ya BKq6.out 1).trans rfl⟩ (fun hHeld => ?_); refine yaw yaa.tab3 yaa.bits3 (fun HT_ HW_ => ?_)
    generalize wc.drew = w23 at BKq5 BKq6 HB hHeld ⊢
    refine pA 1 (some 19) HT_ ?_
    refine pA 4 (some 22) HT_ ?_
    refine pA 7 (some 25) HT_ ?_
    refine tA4 0 (some 18) HT_ HW_ hHeld ?_
    refine tA4 3 (some 21) HT_ HW_ hHeld ?_
    refine tA4 5 (some 23) HT_ HW_ hHeld ?_
    refine onA (i := 2) (N := some 20) HT_ (h := fun K hK => ?_)
    refine gs Try.func84 #[.agg #[.int .i64 a0_0, .slice A0_1 l0_1.length c0_1], .int .i64 a2] ?_
    with_reducible refine (yaj.calls kj3 a0_0 _ _ l0_1 a2 tq0 _ ?side1 ?side2 A20.out).mono ?_
    (case side1 => exact pC (Kd.C_below HR0_1.out HB.out))
    (case side2 => exact HC0_1.out)
    rintro e w24 ⟨rfl, hb⟩
    refine ⟨_, rfl, ?_⟩
    replace BKq5 := bb BKq5 hb; replace BKq6 := bb BKq6 hb; replace HB := bs HB hb
    (try clear hb)
    (try clear hb2)
    (try clear hk)
    (try clear hi)
    refine hK.out _ _ ⟨(ya BKq5.out 0).trans rfl, (ya BKq5.out 1).trans rfl, (ya BKq6.out 0).trans rfl, (ya BKq6.out 1).trans rfl⟩ (fun hHeld => ?_)
    clear hK K
    refine noN (some 20) (h := ?_)
    refine onA (i := 6) (N := some 24) HT_ (h := fun K hK => ?_)
    refine gs Try.func81 #[.int .i64 a0_0] ?_
    with_reducible refine (yT.calls a0_0 tq1 _ A21.out).mono ?_
    rintro e w' ⟨rfl, ⟨nd, rfl⟩⟩
    refine ⟨_, rfl, ?_⟩
    refine hK.out _ _ ⟨(ya BKq5.out 0).trans rfl, (ya BKq5.out 1).trans rfl, (ya BKq6.out 0).trans rfl, (ya BKq6.out 1).trans rfl⟩ (fun hHeld => ?_)
    clear hK K
    refine noN (some 24) (h := ?_)
    refine pA 8 (some 26) HT_ ?_
    refine onA (i := 9) (N := some 27) HT_ (h := fun K hK => ?_)
    refine gs Try.func84 #[.agg #[.int .i64 a1_0, .slice A1_1 l1_1.length c1_1], .int .i64 (wrap64 (tq1 - a2))] ?_
    with_reducible refine (yaj.calls kj3 a1_0 _ _ l1_1 (wrap64 (tq1 - a2)) tq2 _ ?side1 ?side2 A22.out).mono ?_
    (case side1 => exact pC ((Kd.C_below HR1_1.out (pB2 HB.out GEq5.out GEq6.out))))
    (case side2 => exact HC1_1.out)
    rintro e w25 ⟨rfl, hb⟩
    refine ⟨_, rfl, ?_⟩
    replace BKq5 := bb BKq5 hb; replace BKq6 := bb BKq6 hb; replace HB := bs HB hb
    (try clear hb)
    (try clear hb2)
    (try clear hk)
    (try clear hi)
    refine hK.out _ _ ⟨(ya BKq5.out 0).trans rfl, (ya BKq5.out 1).trans rfl, (ya BKq6.out 0).trans rfl, (ya BKq6.out 1).trans rfl⟩ (fun hHeld => ?_)
    clear hK K
    refine noN (some 27) (h := ?_)
    refine pA 10 (some 28) HT_ ?_
    refine pA 11 (some 6) HT_ ?_
    refine ybs (yaZ HT_.out (by kernel_rfl)) ?_
    try go_wp2
    go_ret
    exact ⟨re_, pB2 HB.out GEq5.out GEq6.out⟩
def yaW.f (k : Nat) (a0_0 : Int) (l0_1 : List Int) (a1_0 : Int) (l1_1 : List Int) (a2 : Int) : Option (Bool) := (yaE.f k a0_0 l0_1 a1_0 l1_1).bind fun tq0 => (if tq0 = true then ((yp.f k a0_0 l0_1 a2).bind fun tq1 => (if tq1 = true then ((yp.f k a1_0 l1_1 a2).bind fun tq2 => (some tq2)) else (some false))) else (some false))
theorem yaW.calls (k : Nat) (a0_0 : Int) (A0_1 : Option Addr) (c0_1 : Nat) (l0_1 : List Int) (a1_0 : Int) (A1_1 : Option Addr) (c1_1 : Nat) (l1_1 : List Int) (a2 : Int) (r : Bool) (w : World) (hr0_1 : Kd.C (Kd.int .i64) w A0_1 l0_1.length l0_1) (hc0_1 : l0_1.length ≤ c0_1) (hr1_1 : Kd.C (Kd.int .i64) w A1_1 l1_1.length l1_1) (hc1_1 : l1_1.length ≤ c1_1) (h : yaW.f k a0_0 l0_1 a1_0 l1_1 a2 = some r) :
  Calls Try.prog 31 #[.agg #[.int .i64 a0_0, .slice A0_1 l0_1.length c0_1], .agg #[.int .i64 a1_0, .slice A1_1 l1_1.length c1_1], .int .i64 a2] w fun e w' => e = .returned (.bool r) ∧ Below w.heap.size w w' := by
 have hu28 := Try.underlying28
 have HR0_1 := aQ hr0_1
 have HC0_1 := aQ hc0_1
 clear hr0_1 hc0_1
 have HR1_1 := aQ hr1_1
 have HC1_1 := aQ hc1_1
 clear hr1_1 hc1_1
 have HB := aQ (Below.refl w.heap.size w)
 have H := h
 clear h
 unfold yaW.f at H
 (try dsimp only at H)
 replace H := bo H; obtain ⟨tq0, A4, H⟩ := H
 (try dsimp only at H)
 by_cases c5 : tq0 = true
 ·subst c5
  rw [if_pos rfl] at H
  replace H := bo H; obtain ⟨tq1, A6, H⟩ := H
  (try dsimp only at H)
  by_cases c7 : tq1 = true
  ·subst c7
   rw [if_pos rfl] at H
   replace H := bo H; obtain ⟨tq2, A8, H⟩ := H
   (try dsimp only at H)
   obtain rfl := Option.some.inj H
   go_enter Try.func31, Try.ntmps31
   go_wp2_with (first | ((with_reducible refine yb (N := 3) rfl ?_); refine bx 3 #[.int .i64 a0_0, .slice A0_1 l0_1.length c0_1] 28 ?_; intro gbq3 hg w9 hbox hb; have BKq3 := aQ (hbox); have GWq3 := gB HB hg; have GEq3 := gB HB hg; replace HB := bs HB hb; clear hb hbox hg) | ((with_reducible refine yb (N := 4) rfl ?_); refine bx 4 #[.int .i64 a1_0, .slice A1_1 l1_1.length c1_1] 28 ?_; intro gbq4 hg w10 hbox hb; have BKq4 := aQ (hbox); have GWq4 := gB HB hg; have GEq4 := gB HB hg; replace HB := bs HB hb; have NBq3_q4 := nl BKq3 hg; have NBq4_q3 := ng BKq3 hg; replace BKq3 := bb BKq3 hb; clear hb hbox hg; have hnb11 := NBq3_q4.out; have hnc11 := NBq4_q3.out; obtain ⟨hcz12_0, hcz12_1, hfz12_0, hfz12_1⟩ := c2 BKq3; obtain ⟨hcz13_0, hcz13_1, hfz13_0, hfz13_1⟩ := c2 BKq4) | (refine gq 78 (some 9) Try.func78 #[.agg #[.int .i64 a0_0, .slice A0_1 l0_1.length c0_1], .agg #[.int .i64 a1_0, .slice A1_1 l1_1.length c1_1]] ?_; (with_reducible refine (yaE.calls k a0_0 _ _ l0_1 a1_0 _ _ l1_1 true _ ?side1 ?side2 ?side3 ?side4 A4.out).mono ?_); (case side1 => exact pC (Kd.C_below HR0_1.out HB.out)); (case side2 => exact HC0_1.out); (case side3 => exact pC (Kd.C_below HR1_1.out HB.out)); (case side4 => exact HC1_1.out); rintro e w14 ⟨rfl, hb⟩; refine ⟨_, rfl, ?_⟩; replace BKq3 := bb BKq3 hb; replace BKq4 := bb BKq4 hb; replace HB := bs HB hb; (try clear hb); obtain ⟨hcz15_0, hcz15_1, hfz15_0, hfz15_1⟩ := c2 BKq3) | (go_at_call 88; (with_reducible refine (yp.calls k a0_0 _ _ l0_1 a2 true _ ?side1 ?side2 A6.out).mono ?_); (case side1 => exact pC (Kd.C_below HR0_1.out HB.out)); (case side2 => exact HC0_1.out); rintro e w16 ⟨rfl, hb⟩; replace BKq3 := bb BKq3 hb; replace BKq4 := bb BKq4 hb; replace HB := bs HB hb; (try clear hb); obtain ⟨hcz17_0, hcz17_1, hfz17_0, hfz17_1⟩ := c2 BKq4) | (go_at_call 88; (with_reducible refine (yp.calls k a1_0 _ _ l1_1 a2 tq2 _ ?side1 ?side2 A8.out).mono ?_); (case side1 => exact pC (Kd.C_below HR1_1.out HB.out)); (case side2 => exact HC1_1.out); rintro e w18 ⟨rfl, hb⟩; replace BKq3 := bb BKq3 hb; replace BKq4 := bb BKq4 hb; replace HB := bs HB hb; (try clear hb)))
   go_ret
   exact ⟨re_, pB2 HB.out GEq3.out GEq4.out⟩
  ·replace c7 := Bool.eq_false_iff.mpr c7
   subst c7
   have H1 : (some false) = some r := by rw [if_neg (show ¬ (false = true) by decide)] at H; exact H
   clear H
   have H := H1
   clear H1
   obtain rfl := Option.some.inj H
   go_enter Try.func31, Try.ntmps31
   go_wp2_with (first | ((with_reducible refine yb (N := 3) rfl ?_); refine bx 3 #[.int .i64 a0_0, .slice A0_1 l0_1.length c0_1] 28 ?_; intro gbq3 hg w19 hbox hb; have BKq3 := aQ (hbox); have GWq3 := gB HB hg; have GEq3 := gB HB hg; replace HB := bs HB hb; clear hb hbox hg) | ((with_reducible refine yb (N := 4) rfl ?_); refine bx 4 #[.int .i64 a1_0, .slice A1_1 l1_1.length c1_1] 28 ?_; intro gbq4 hg w20 hbox hb; have BKq4 := aQ (hbox); have GWq4 := gB HB hg; have GEq4 := gB HB hg; replace HB := bs HB hb; have NBq3_q4 := nl BKq3 hg; have NBq4_q3 := ng BKq3 hg; replace BKq3 := bb BKq3 hb; clear hb hbox hg; have hnb21 := NBq3_q4.out; have hnc21 := NBq4_q3.out; obtain ⟨hcz22_0, hcz22_1, hfz22_0, hfz22_1⟩ := c2 BKq3; obtain ⟨hcz23_0, hcz23_1, hfz23_0, hfz23_1⟩ := c2 BKq4) | (refine gq 78 (some 9) Try.func78 #[.agg #[.int .i64 a0_0, .slice A0_1 l0_1.length c0_1], .agg #[.int .i64 a1_0, .slice A1_1 l1_1.length c1_1]] ?_; (with_reducible refine (yaE.calls k a0_0 _ _ l0_1 a1_0 _ _ l1_1 true _ ?side1 ?side2 ?side3 ?side4 A4.out).mono ?_); (case side1 => exact pC (Kd.C_below HR0_1.out HB.out)); (case side2 => exact HC0_1.out); (case side3 => exact pC (Kd.C_below HR1_1.out HB.out)); (case side4 => exact HC1_1.out); rintro e w24 ⟨rfl, hb⟩; refine ⟨_, rfl, ?_⟩; replace BKq3 := bb BKq3 hb; replace BKq4 := bb BKq4 hb; replace HB := bs HB hb; (try clear hb); obtain ⟨hcz25_0, hcz25_1, hfz25_0, hfz25_1⟩ := c2 BKq3) | (go_at_call 88; (with_reducible refine (yp.calls k a0_0 _ _ l0_1 a2 false _ ?side1 ?side2 A6.out).mono ?_); (case side1 => exact pC (Kd.C_below HR0_1.out HB.out)); (case side2 => exact HC0_1.out); rintro e w26 ⟨rfl, hb⟩; replace BKq3 := bb BKq3 hb; replace BKq4 := bb BKq4 hb; replace HB := bs HB hb; (try clear hb)))
   go_ret
   exact ⟨re_, pB2 HB.out GEq3.out GEq4.out⟩
 ·replace c5 := Bool.eq_false_iff.mpr c5
  subst c5
  have H1 : (some false) = some r := by rw [if_neg (show ¬ (false = true) by decide)] at H; exact H
  clear H
  have H := H1
  clear H1
  obtain rfl := Option.some.inj H
  go_enter Try.func31, Try.ntmps31
  go_wp2_with (first | ((with_reducible refine yb (N := 3) rfl ?_); refine bx 3 #[.int .i64 a0_0, .slice A0_1 l0_1.length c0_1] 28 ?_; intro gbq3 hg w27 hbox hb; have BKq3 := aQ (hbox); have GWq3 := gB HB hg; have GEq3 := gB HB hg; replace HB := bs HB hb; clear hb hbox hg) | ((with_reducible refine yb (N := 4) rfl ?_); refine bx 4 #[.int .i64 a1_0, .slice A1_1 l1_1.length c1_1] 28 ?_; intro gbq4 hg w28 hbox hb; have BKq4 := aQ (hbox); have GWq4 := gB HB hg; have GEq4 := gB HB hg; replace HB := bs HB hb; have NBq3_q4 := nl BKq3 hg; have NBq4_q3 := ng BKq3 hg; replace BKq3 := bb BKq3 hb; clear hb hbox hg; have hnb29 := NBq3_q4.out; have hnc29 := NBq4_q3.out; obtain ⟨hcz30_0, hcz30_1, hfz30_0, hfz30_1⟩ := c2 BKq3; obtain ⟨hcz31_0, hcz31_1, hfz31_0, hfz31_1⟩ := c2 BKq4) | (refine gq 78 (some 9) Try.func78 #[.agg #[.int .i64 a0_0, .slice A0_1 l0_1.length c0_1], .agg #[.int .i64 a1_0, .slice A1_1 l1_1.length c1_1]] ?_; (with_reducible refine (yaE.calls k a0_0 _ _ l0_1 a1_0 _ _ l1_1 false _ ?side1 ?side2 ?side3 ?side4 A4.out).mono ?_); (case side1 => exact pC (Kd.C_below HR0_1.out HB.out)); (case side2 => exact HC0_1.out); (case side3 => exact pC (Kd.C_below HR1_1.out HB.out)); (case side4 => exact HC1_1.out); rintro e w32 ⟨rfl, hb⟩; refine ⟨_, rfl, ?_⟩; replace BKq3 := bb BKq3 hb; replace BKq4 := bb BKq4 hb; replace HB := bs HB hb; (try clear hb)))
  go_ret
  exact ⟨re_, pB2 HB.out GEq3.out GEq4.out⟩
mutual
def laws_FnCommon.j0 : Nat → Int → Bool → Int → Int → Bool → Int → List Int → Int → List Int → Int → List Int → Int → List Int → Option (Bool)
 | 0, _, _, _, _, _, _, _, _, _, _, _, _, _ => none
 | k + 1, x5, x6, x9, x16, x96, x6011000, x6011001, x6012000, x6012001, x6030000, x6030001, x6031000, x6031001 => if x96 = true then (some false) else (if x6 = true then ((yaW.f k x6011000 x6011001 x6012000 x6012001 x5).bind fun tq0 => (if tq0 = true then ((yN.f k x6011000 x6011001 x6012000 x6012001 x9).bind fun tq1 => ((yD.f k x5).bind fun tq2 => (laws_FnCommon.j1 k x16 (tq1 != tq2) x6030000 x6030001 x6031000 x6031001))) else (laws_FnCommon.j1 k x16 true x6030000 x6030001 x6031000 x6031001))) else (laws_FnCommon.j1 k x16 false x6030000 x6030001 x6031000 x6031001))
def laws_FnCommon.j1 : Nat → Int → Bool → Int → List Int → Int → List Int → Option (Bool)
 | 0, _, _, _, _, _, _ => none
 | k + 1, x16, x113, x6030000, x6030001, x6031000, x6031001 => if x113 = true then (some false) else ((yw.f k x6030000 x6030001 x6031000 x6031001).bind fun btq3 => (if x16 < 0 then (some true) else (if btq3.2 = true then ((yD.f k btq3.1).bind fun tq4 => (some (decide (x16 ≥ tq4)))) else (some false))))
end
def laws_FnCommon.f (k : Nat) (l0 : List Int) : Option (Bool) := (laws_big.f l0).bind fun tq5 => (if tq5 = true then (some true) else ((yaD.f k l0).bind fun btq6 => ((yQ.f k btq6.1 btq6.2.1 btq6.2.2.1 btq6.2.2.2).bind fun btq7 => ((yw.f k btq6.1 btq6.2.1 btq6.2.2.1 btq6.2.2.2).bind fun btq8 => ((yad.f k btq6.1 btq6.2.1 btq6.2.2.1 btq6.2.2.2).bind fun btq9 => ((yE.f k btq6.1 btq6.2.1 btq6.2.2.1 btq6.2.2.2).bind fun btqa => ((ya2.f k l0).bind fun btqb => ((yN.f k btqb.1 btqb.2.1 btqb.2.2.1 btqb.2.2.2.1 btqb.2.2.2.2).bind fun tqc => (if (btq7.2 != btq8.2) = true then (laws_FnCommon.j0 k btq7.1 btq7.2 btq9.1 tqc true btq6.1 btq6.2.1 btq6.2.2.1 btq6.2.2.2 btqb.1 btqb.2.1 btqb.2.2.1 btqb.2.2.2.1) else (if btq7.1 = btq8.1 then (if (btq9.2 != btqa.2) = true then (laws_FnCommon.j0 k btq7.1 btq7.2 btq9.1 tqc true btq6.1 btq6.2.1 btq6.2.2.1 btq6.2.2.2 btqb.1 btqb.2.1 btqb.2.2.1 btqb.2.2.2.1) else (if btq9.1 = btqa.1 then ((yaa.f k btqb.1 btqb.2.1 btqb.2.2.1 btqb.2.2.2.1 btqb.2.2.2.2).bind fun tqd => (if tqc = tqd then ((yaW.f k btqb.1 btqb.2.1 btqb.2.2.1 btqb.2.2.2.1 btqb.2.2.2.2).bind fun tqe => ((yaH.f k btqb.1 btqb.2.1 btqb.2.2.1 btqb.2.2.2.1 btqb.2.2.2.2).bind fun tqf => (laws_FnCommon.j0 k btq7.1 btq7.2 btq9.1 tqc (tqe != tqf) btq6.1 btq6.2.1 btq6.2.2.1 btq6.2.2.2 btqb.1 btqb.2.1 btqb.2.2.1 btqb.2.2.2.1))) else (laws_FnCommon.j0 k btq7.1 btq7.2 btq9.1 tqc true btq6.1 btq6.2.1 btq6.2.2.1 btq6.2.2.2 btqb.1 btqb.2.1 btqb.2.2.1 btqb.2.2.2.1))) else (laws_FnCommon.j0 k btq7.1 btq7.2 btq9.1 tqc true btq6.1 btq6.2.1 btq6.2.2.1 btq6.2.2.2 btqb.1 btqb.2.1 btqb.2.2.1 btqb.2.2.2.1))) else (laws_FnCommon.j0 k btq7.1 btq7.2 btq9.1 tqc true btq6.1 btq6.2.1 btq6.2.2.1 btq6.2.2.2 btqb.1 btqb.2.1 btqb.2.2.1 btqb.2.2.2.1)))))))))))
def laws_FnCommon.T10 : Bool × List (List Nat × List Nat) := (true, [([], []), ([], []), ([0, 1], [0, 1]), ([2], [2]), ([3], [3]), ([3], [3]), ([4, 5, 3], [3, 4, 5]), ([3, 6], [3, 6]), ([7, 3], [7]), ([8], [8]), ([8], [8]), ([9, 10, 8], [8, 9, 10]), ([8, 11], [8, 11]), ([12, 8], [12]), ([13], [13]), ([13], [13]), ([14, 15, 13], [13, 14, 15]), ([13, 16], [13, 16]), ([17, 13], [17]), ([18], [18]), ([18], [18]), ([18], [18]), ([18], [18]), ([20, 21, 22, 18, 18], [18, 20, 21, 22]), ([19, 23, 18], [18, 19, 23]), ([18, 24], [18, 24]), ([25, 23], [25]), ([26], [26]), ([26], [26]), ([26], [26]), ([27, 28, 29, 26, 26], [26, 27, 28, 29]), ([26], [26]), ([26], [26]), ([26], [26]), ([31, 32, 33, 30, 26], [26, 31, 32, 33]), ([30, 34, 26], [26, 30, 34]), ([26, 35], [26, 35])])
def laws_FnCommon.B10 : List Nat := [0, 0, 3, 7, 15, 15, 63, 127, 255, 511, 511, 2047, 4095, 8191, 16383, 16383, 65535, 131071, 262143, 524287, 524287, 524287, 524287, 7864319, 16777215, 33554431, 67108863, 134217727, 134217727, 134217727, 1073741823, 134217727, 134217727, 134217727, 17179869183, 34359738367, 68719476735]
theorem laws_FnCommon.tab10 : rtab .any (yco Try.f5 10) = laws_FnCommon.T10 := by kernel_rfl
theorem laws_FnCommon.bits10 : ybf laws_FnCommon.T10.2 laws_FnCommon.B10 = true := by kernel_rfl
theorem laws_FnCommon.calls (k : Nat) (A0 : Option Addr) (c0 : Nat) (l0 : List Int) (w : World) (hr0 : Kd.C (Kd.int .u8) w A0 l0.length l0) (hc0 : l0.length ≤ c0) (h : laws_FnCommon.f k l0 = some true) :
  Calls Try.prog 5 #[.slice A0 l0.length c0] w fun e w' => e = .returned (.bool true) ∧ Below w.heap.size w w' := by
 have hu28 := Try.underlying28
 have HR0 := aQ hr0
 have HC0 := aQ hc0
 clear hr0 hc0
 have HB := aQ (Below.refl w.heap.size w)
 have H := h
 clear h
 unfold laws_FnCommon.f at H
 (try dsimp only at H)
 replace H := bo H; obtain ⟨tq5, A2, H⟩ := H
 (try dsimp only at H)
 by_cases c3 : tq5 = true
 ·subst c3
  have H1 : (some true) = some true := rfl
  clear H
  have H := H1
  clear H1
  have HR_ := Option.some.inj H
  (try (have HS_ := HR_; simp only [bne_iff_ne, ne_eq] at HS_))
  clear H
  go_enter Try.func5, Try.ntmps5
  go_wp2_with (first | ((with_reducible refine yaJ (f := 22) rfl ?_); refine gl (some 20) Try.func22 #[.slice A0 l0.length c0] ?_; (with_reducible refine (laws_big.calls _ _ l0 true _ ?side1 ?side2 A2.out).mono ?_); (case side1 => exact pC HR0.out); (case side2 => exact HC0.out); rintro e w' ⟨rfl, ⟨nd, rfl⟩⟩; refine ⟨_, rfl, ?_⟩))
  go_ret
  exact ⟨re_, pB HB.out⟩
 ·replace c3 := Bool.eq_false_iff.mpr c3
  subst c3
  have H1 : ((yaD.f k l0).bind fun btq6 => ((yQ.f k btq6.1 btq6.2.1 btq6.2.2.1 btq6.2.2.2).bind fun btq7 => ((yw.f k btq6.1 btq6.2.1 btq6.2.2.1 btq6.2.2.2).bind fun btq8 => ((yad.f k btq6.1 btq6.2.1 btq6.2.2.1 btq6.2.2.2).bind fun btq9 => ((yE.f k btq6.1 btq6.2.1 btq6.2.2.1 btq6.2.2.2).bind fun btqa => ((ya2.f k l0).bind fun btqb => ((yN.f k btqb.1 btqb.2.1 btqb.2.2.1 btqb.2.2.2.1 btqb.2.2.2.2).bind fun tqc => (if (btq7.2 != btq8.2) = true then (laws_FnCommon.j0 k btq7.1 btq7.2 btq9.1 tqc true btq6.1 btq6.2.1 btq6.2.2.1 btq6.2.2.2 btqb.1 btqb.2.1 btqb.2.2.1 btqb.2.2.2.1) else (if btq7.1 = btq8.1 then (if (btq9.2 != btqa.2) = true then (laws_FnCommon.j0 k btq7.1 btq7.2 btq9.1 tqc true btq6.1 btq6.2.1 btq6.2.2.1 btq6.2.2.2 btqb.1 btqb.2.1 btqb.2.2.1 btqb.2.2.2.1) else (if btq9.1 = btqa.1 then ((yaa.f k btqb.1 btqb.2.1 btqb.2.2.1 btqb.2.2.2.1 btqb.2.2.2.2).bind fun tqd => (if tqc = tqd then ((yaW.f k btqb.1 btqb.2.1 btqb.2.2.1 btqb.2.2.2.1 btqb.2.2.2.2).bind fun tqe => ((yaH.f k btqb.1 btqb.2.1 btqb.2.2.1 btqb.2.2.2.1 btqb.2.2.2.2).bind fun tqf => (laws_FnCommon.j0 k btq7.1 btq7.2 btq9.1 tqc (tqe != tqf) btq6.1 btq6.2.1 btq6.2.2.1 btq6.2.2.2 btqb.1 btqb.2.1 btqb.2.2.1 btqb.2.2.2.1))) else (laws_FnCommon.j0 k btq7.1 btq7.2 btq9.1 tqc true btq6.1 btq6.2.1 btq6.2.2.1 btq6.2.2.2 btqb.1 btqb.2.1 btqb.2.2.1 btqb.2.2.2.1))) else (laws_FnCommon.j0 k btq7.1 btq7.2 btq9.1 tqc true btq6.1 btq6.2.1 btq6.2.2.1 btq6.2.2.2 btqb.1 btqb.2.1 btqb.2.2.1 btqb.2.2.2.1))) else (laws_FnCommon.j0 k btq7.1 btq7.2 btq9.1 tqc true btq6.1 btq6.2.1 btq6.2.2.1 btq6.2.2.2 btqb.1 btqb.2.1 btqb.2.2.1 btqb.2.2.2.1)))))))))) = some true := by rw [if_neg (show ¬ (false = true) by decide)] at H; exact H
  clear H
  have H := H1
  clear H1
  replace H := bo H; obtain ⟨⟨tq6, tqg, tqh, tqi⟩, A4, H⟩ := H
  (try dsimp only at H)
  replace H := bo H; obtain ⟨⟨tq7, tqj⟩, A5, H⟩ := H
  (try dsimp only at H)
  replace H := bo H; obtain ⟨⟨tq8, tqk⟩, A6, H⟩ := H
  (try dsimp only at H)
  replace H := bo H; obtain ⟨⟨tq9, tql⟩, A7, H⟩ := H
  (try dsimp only at H)
  replace H := bo H; obtain ⟨⟨tqa, tqm⟩, A8, H⟩ := H
  (try dsimp only at H)
  replace H := bo H; obtain ⟨⟨tqb, tqn, tqo, tqp, tqq⟩, A9, H⟩ := H
  (try dsimp only at H)
  replace H := bo H; obtain ⟨tqc, A10, H⟩ := H
  (try dsimp only at H)
  have HC11 := aQ H
  clear H
  go_enter Try.func5, Try.ntmps5
  go_upto_region 10 with (first | ((with_reducible refine yaJ (f := 22) rfl ?_); refine gl (some 20) Try.func22 #[.slice A0 l0.length c0] ?_; (with_reducible refine (laws_big.calls _ _ l0 false _ ?side1 ?side2 A2.out).mono ?_); (case side1 => exact pC HR0.out); (case side2 => exact HC0.out); rintro e w' ⟨rfl, ⟨nd, rfl⟩⟩; refine ⟨_, rfl, ?_⟩) | ((with_reducible refine yaJ (f := 23) rfl ?_); refine gl (some 23) Try.func23 #[.slice A0 l0.length c0] ?_; (with_reducible refine (yaD.calls k _ _ l0 tq6 tqg tqh tqi _ ?side1 ?side2 A4.out).mono ?_); (case side1 => exact pC HR0.out); (case side2 => exact HC0.out); rintro e w12 ⟨vqr, vqs, rfl, ho0, ho1, hb⟩; refine ⟨_, rfl, ?_⟩; have HOqt := aQ (Kd.R_lower ho0 (yc (pB HB.out))); have HOqu := aQ (Kd.R_lower ho1 (yc (pB HB.out))); replace HB := bs HB hb; (try clear hb); (try clear ho0); (try clear ho1)) | ((with_reducible refine yb (N := 3) rfl ?_); refine bx 3 #[.int .i64 0, .slice none 0 0] 28 ?_; intro gbqv hg w13 hbox hb; replace HOqt := aQ (Kd.R_below (pR HOqt.out) hb); replace HOqu := aQ (Kd.R_below (pR HOqu.out) hb); have BKqv := aQ (hbox); have GWqv := gB HB hg; have GEqv := gB HB hg; replace HB := bs HB hb; clear hb hbox hg) | ((with_reducible refine yb (N := 4) rfl ?_); refine bx 4 #[.int .i64 0, .slice none 0 0] 28 ?_; intro gbqw hg w14 hbox hb; replace HOqt := aQ (Kd.R_below (pR HOqt.out) hb); replace HOqu := aQ (Kd.R_below (pR HOqu.out) hb); have BKqw := aQ (hbox); have GWqw := gB HB hg; have GEqw := gB HB hg; replace HB := bs HB hb; have NBqv_qw := nl BKqv hg; have NBqw_qv := ng BKqv hg; replace BKqv := bb BKqv hb; clear hb hbox hg; have hnb15 := NBqv_qw.out; have hnc15 := NBqw_qv.out; obtain ⟨hcz16_0, hcz16_1, hfz16_0, hfz16_1⟩ := c2 BKqv; obtain ⟨Ao17, co17, eo17⟩ := Kd.R_slice HOqt.out; subst eo17; obtain ⟨hcz18_0, hcz18_1, hfz18_0, hfz18_1⟩ := c2 BKqw; obtain ⟨Ao19, co19, eo19⟩ := Kd.R_slice HOqu.out; subst eo19) | ((with_reducible refine yaJ (f := 24) rfl ?_); refine gl (some 29) Try.func24 #[.agg #[.int .i64 tq6, .slice Ao17 tqg.length co17], .agg #[.int .i64 tqh, .slice Ao19 tqi.length co19]] ?_; (with_reducible refine (yQ.calls k tq6 _ _ tqg tqh _ _ tqi tq7 tqj _ ?side1 ?side2 ?side3 ?side4 A5.out).mono ?_); (case side1 => refine (Kd.R_reads' (e := 3) (base := w.heap.size) (ok := fun k_ => some k_ ≠ (.slice Ao19 tqi.length co19 : Value).ownBlock) (n := tqg.length) (c := co17) ?_).2.2; exact (by refine pRx ?_; exact (Kd.R_mono (Kd.R_mono (Kd.R_far (p := ⟨gbqw, 1, none⟩) (Kd.R_far (p := ⟨gbqw, 0, none⟩) (Kd.R_far (p := ⟨gbqv, 1, none⟩) (Kd.R_far (p := ⟨gbqv, 0, none⟩) (Kd.R_types (Kd.R_types HOqt.out BKqv.out (by decide)) BKqw.out (by decide)) (fun _ hk => hk.1.2) (.int .i64 tq6)) (fun _ hk => hk.1.2) (.slice Ao17 tqg.length co17)) (fun _ hk => hk.2) (.int .i64 tqh)) (fun _ hk => hk.2) (.slice Ao19 tqi.length co19)) (fun _ h_ => h_.1)) (fun _ h_ => h_.1)))); (case side2 => exact (Kd.R_reads' HOqt.out).2.1); (case side3 => refine (Kd.R_reads' (e := 3) (base := w.heap.size) (ok := fun k_ => some k_ ≠ (.slice Ao17 tqg.length co17 : Value).ownBlock) (n := tqi.length) (c := co19) ?_).2.2; exact (by refine pRx ?_; exact (Kd.R_mono (Kd.R_mono (Kd.R_far (p := ⟨gbqw, 1, none⟩) (Kd.R_far (p := ⟨gbqw, 0, none⟩) (Kd.R_far (p := ⟨gbqv, 1, none⟩) (Kd.R_far (p := ⟨gbqv, 0, none⟩) (Kd.R_types (Kd.R_types HOqu.out BKqv.out (by decide)) BKqw.out (by decide)) (fun _ hk => hk.1.2) (.int .i64 tq6)) (fun _ hk => hk.1.2) (.slice Ao17 tqg.length co17)) (fun _ hk => hk.2) (.int .i64 tqh)) (fun _ hk => hk.2) (.slice Ao19 tqi.length co19)) (fun _ h_ => h_.1)) (fun _ h_ => h_.1)))); (case side4 => exact (Kd.R_reads' HOqu.out).2.1); rintro e w20 ⟨rfl, hb⟩; refine ⟨_, rfl, ?_⟩; replace HOqt := aQ (Kd.R_below (by refine pRx ?_; exact (Kd.R_mono (Kd.R_mono (Kd.R_far (p := ⟨gbqw, 1, none⟩) (Kd.R_far (p := ⟨gbqw, 0, none⟩) (Kd.R_far (p := ⟨gbqv, 1, none⟩) (Kd.R_far (p := ⟨gbqv, 0, none⟩) (Kd.R_types (Kd.R_types HOqt.out BKqv.out (by decide)) BKqw.out (by decide)) (fun _ hk => hk.1.2) (.int .i64 tq6)) (fun _ hk => hk.1.2) (.slice Ao17 tqg.length co17)) (fun _ hk => hk.2) (.int .i64 tqh)) (fun _ hk => hk.2) (.slice Ao19 tqi.length co19)) (fun _ h_ => h_.1)) (fun _ h_ => h_.1))) hb); replace HOqu := aQ (Kd.R_below (by refine pRx ?_; exact (Kd.R_mono (Kd.R_mono (Kd.R_far (p := ⟨gbqw, 1, none⟩) (Kd.R_far (p := ⟨gbqw, 0, none⟩) (Kd.R_far (p := ⟨gbqv, 1, none⟩) (Kd.R_far (p := ⟨gbqv, 0, none⟩) (Kd.R_types (Kd.R_types HOqu.out BKqv.out (by decide)) BKqw.out (by decide)) (fun _ hk => hk.1.2) (.int .i64 tq6)) (fun _ hk => hk.1.2) (.slice Ao17 tqg.length co17)) (fun _ hk => hk.2) (.int .i64 tqh)) (fun _ hk => hk.2) (.slice Ao19 tqi.length co19)) (fun _ h_ => h_.1)) (fun _ h_ => h_.1))) hb); replace BKqv := aQ (yab (g := gbqv) (o := .cells #[.int .i64 tq6, .slice Ao17 tqg.length co17] 28 (0, 0)) (by refine pkx ?_; refine yj ?_ NBqv_qw.out _; refine pkx ?_; refine yj ?_ NBqv_qw.out _; refine pkx ?_; refine yh (cs := #[.int .i64 tq6, .slice none 0 0]) ?_ 1 _ rfl; refine pkx ?_; refine yh (cs := #[.int .i64 0, .slice none 0 0]) ?_ 0 _ rfl; refine pkx ?_; exact BKqv.out) hb); replace BKqw := aQ (yab (g := gbqw) (o := .cells #[.int .i64 tqh, .slice Ao19 tqi.length co19] 28 (0, 0)) (by refine pkx ?_; refine yh (cs := #[.int .i64 tqh, .slice none 0 0]) ?_ 1 _ rfl; refine pkx ?_; refine yh (cs := #[.int .i64 0, .slice none 0 0]) ?_ 0 _ rfl; refine pkx ?_; refine yj ?_ NBqw_qv.out _; refine pkx ?_; refine yj ?_ NBqw_qv.out _; refine pkx ?_; exact BKqw.out) hb); replace HB := bs HB hb; (try clear hb); (try clear hk); obtain ⟨hcz21_0, hcz21_1, hfz21_0, hfz21_1⟩ := c2 BKqv; obtain ⟨hcz22_0, hcz22_1, hfz22_0, hfz22_1⟩ := c2 BKqw) | ((with_reducible refine yaJ (f := 25) rfl ?_); refine gl (some 35) Try.func25 #[.agg #[.int .i64 tq6, .slice Ao17 tqg.length co17], .agg #[.int .i64 tqh, .slice Ao19 tqi.length co19]] ?_; (with_reducible refine (yw.calls k tq6 _ _ tqg tqh _ _ tqi tq8 tqk _ ?side1 ?side2 ?side3 ?side4 A6.out).mono ?_); (case side1 => exact pC ((Kd.R_reads' HOqt.out).2.2)); (case side2 => exact (Kd.R_reads' HOqt.out).2.1); (case side3 => exact pC ((Kd.R_reads' HOqu.out).2.2)); (case side4 => exact (Kd.R_reads' HOqu.out).2.1); rintro e w23 ⟨rfl, hb⟩; refine ⟨_, rfl, ?_⟩; replace HOqt := aQ (Kd.R_below (pR HOqt.out) hb); replace HOqu := aQ (Kd.R_below (pR HOqu.out) hb); replace BKqv := bb BKqv hb; replace BKqw := bb BKqw hb; replace HB := bs HB hb; (try clear hb); obtain ⟨hcz24_0, hcz24_1, hfz24_0, hfz24_1⟩ := c2 BKqv; obtain ⟨hcz25_0, hcz25_1, hfz25_0, hfz25_1⟩ := c2 BKqw) | ((with_reducible refine yaJ (f := 26) rfl ?_); refine gl (some 41) Try.func26 #[.agg #[.int .i64 tq6, .slice Ao17 tqg.length co17], .agg #[.int .i64 tqh, .slice Ao19 tqi.length co19]] ?_; (with_reducible refine (yad.calls k tq6 _ _ tqg tqh _ _ tqi tq9 tql _ ?side1 ?side2 ?side3 ?side4 A7.out).mono ?_); (case side1 => exact pC ((Kd.R_reads' HOqt.out).2.2)); (case side2 => exact (Kd.R_reads' HOqt.out).2.1); (case side3 => exact pC ((Kd.R_reads' HOqu.out).2.2)); (case side4 => exact (Kd.R_reads' HOqu.out).2.1); rintro e w26 ⟨rfl, hb⟩; refine ⟨_, rfl, ?_⟩; replace HOqt := aQ (Kd.R_below (pR HOqt.out) hb); replace HOqu := aQ (Kd.R_below (pR HOqu.out) hb); replace BKqv := bb BKqv hb; replace BKqw := bb BKqw hb; replace HB := bs HB hb; (try clear hb); obtain ⟨hcz27_0, hcz27_1, hfz27_0, hfz27_1⟩ := c2 BKqv; obtain ⟨hcz28_0, hcz28_1, hfz28_0, hfz28_1⟩ := c2 BKqw) | ((with_reducible refine yaJ (f := 27) rfl ?_); refine gl (some 47) Try.func27 #[.agg #[.int .i64 tq6, .slice Ao17 tqg.length co17], .agg #[.int .i64 tqh, .slice Ao19 tqi.length co19]] ?_; (with_reducible refine (yE.calls k tq6 _ _ tqg tqh _ _ tqi tqa tqm _ ?side1 ?side2 ?side3 ?side4 A8.out).mono ?_); (case side1 => exact pC ((Kd.R_reads' HOqt.out).2.2)); (case side2 => exact (Kd.R_reads' HOqt.out).2.1); (case side3 => exact pC ((Kd.R_reads' HOqu.out).2.2)); (case side4 => exact (Kd.R_reads' HOqu.out).2.1); rintro e w29 ⟨rfl, hb⟩; refine ⟨_, rfl, ?_⟩; replace HOqt := aQ (Kd.R_below (pR HOqt.out) hb); replace HOqu := aQ (Kd.R_below (pR HOqu.out) hb); replace BKqv := bb BKqv hb; replace BKqw := bb BKqw hb; replace HB := bs HB hb; (try clear hb)) | ((with_reducible refine yaJ (f := 28) rfl ?_); refine gl (some 52) Try.func28 #[.slice A0 l0.length c0] ?_; (with_reducible refine (ya2.calls k _ _ l0 tqb tqn tqo tqp tqq _ ?side1 ?side2 A9.out).mono ?_); (case side1 => exact pC (Kd.C_below HR0.out HB.out)); (case side2 => exact HC0.out); rintro e w30 ⟨vqx, vqy, rfl, ho0, ho1, hb⟩; refine ⟨_, rfl, ?_⟩; have HOqz := aQ (Kd.R_lower (Kd.R_new' (Kd.R_new' ho0 (Kd.R_lt (pR HOqt.out))) (Kd.R_lt (pR HOqu.out))) (yc (pB2 HB.out GEqv.out GEqw.out))); have HOq10 := aQ (Kd.R_lower (Kd.R_new' (Kd.R_new' ho1 (Kd.R_lt (pR HOqt.out))) (Kd.R_lt (pR HOqu.out))) (yc (pB2 HB.out GEqv.out GEqw.out))); replace HOqt := aQ (Kd.R_mono (Kd.R_told (Kd.R_told (Kd.R_old (pR HOqt.out) hb) (Kd.R_base ho0)) (Kd.R_base ho1)) (fun _ h_ => h_.1)); replace HOqu := aQ (Kd.R_mono (Kd.R_told (Kd.R_told (Kd.R_old (pR HOqu.out) hb) (Kd.R_base ho0)) (Kd.R_base ho1)) (fun _ h_ => h_.1)); replace BKqv := bb BKqv hb; replace BKqw := bb BKqw hb; replace HB := bs HB hb; (try clear hb); (try clear ho0); (try clear ho1)) | ((with_reducible refine yb (N := 13) rfl ?_); refine bx 13 #[.int .i64 0, .slice none 0 0] 28 ?_; intro gbq11 hg w31 hbox hb; replace HOqt := aQ (Kd.R_below (pR HOqt.out) hb); replace HOqu := aQ (Kd.R_below (pR HOqu.out) hb); replace HOqz := aQ (Kd.R_below (pR HOqz.out) hb); replace HOq10 := aQ (Kd.R_below (pR HOq10.out) hb); have BKq11 := aQ (hbox); have GWq11 := gB HB hg; have GEq11 := gB HB hg; replace HB := bs HB hb; have NBqv_q11 := nl BKqv hg; have NBq11_qv := ng BKqv hg; replace BKqv := bb BKqv hb; have NBqw_q11 := nl BKqw hg; have NBq11_qw := ng BKqw hg; replace BKqw := bb BKqw hb; clear hb hbox hg) | ((with_reducible refine yb (N := 14) rfl ?_); refine bx 14 #[.int .i64 0, .slice none 0 0] 28 ?_; intro gbq12 hg w32 hbox hb; replace HOqt := aQ (Kd.R_below (pR HOqt.out) hb); replace HOqu := aQ (Kd.R_below (pR HOqu.out) hb); replace HOqz := aQ (Kd.R_below (pR HOqz.out) hb); replace HOq10 := aQ (Kd.R_below (pR HOq10.out) hb); have BKq12 := aQ (hbox); have GWq12 := gB HB hg; have GEq12 := gB HB hg; replace HB := bs HB hb; have NBqv_q12 := nl BKqv hg; have NBq12_qv := ng BKqv hg; replace BKqv := bb BKqv hb; have NBqw_q12 := nl BKqw hg; have NBq12_qw := ng BKqw hg; replace BKqw := bb BKqw hb; have NBq11_q12 := nl BKq11 hg; have NBq12_q11 := ng BKq11 hg; replace BKq11 := bb BKq11 hb; clear hb hbox hg; have hnb33 := NBq11_qv.out; have hnc33 := NBqv_q11.out; have hnb34 := NBq11_qw.out; have hnc34 := NBqw_q11.out; have hnb35 := NBq11_q12.out; have hnc35 := NBq12_q11.out; obtain ⟨hcz36_0, hcz36_1, hfz36_0, hfz36_1⟩ := c2 BKq11; obtain ⟨Ao37, co37, eo37⟩ := Kd.R_slice HOqz.out; subst eo37; have hnb38 := NBq12_qv.out; have hnc38 := NBqv_q12.out; have hnb39 := NBq12_qw.out; have hnc39 := NBqw_q12.out; obtain ⟨hcz40_0, hcz40_1, hfz40_0, hfz40_1⟩ := c2 BKq12; obtain ⟨Ao41, co41, eo41⟩ := Kd.R_slice HOq10.out; subst eo41) | ((with_reducible refine yaJ (f := 29) rfl ?_); refine gl (some 59) Try.func29 #[.agg #[.int .i64 tqb, .slice Ao37 tqn.length co37], .agg #[.int .i64 tqo, .slice Ao41 tqp.length co41], .int .i64 tqq] ?_; (with_reducible refine (yN.calls k tqb _ _ tqn tqo _ _ tqp tqq tqc _ ?side1 ?side2 ?side3 ?side4 A10.out).mono ?_); (case side1 => refine (Kd.R_reads' (e := 3) (base := w.heap.size) (ok := fun k_ => ((some k_ ≠ (.slice Ao41 tqp.length co41 : Value).ownBlock ∧ some k_ ≠ (.slice Ao17 tqg.length co17 : Value).ownBlock) ∧ some k_ ≠ (.slice Ao19 tqi.length co19 : Value).ownBlock)) (n := tqn.length) (c := co37) ?_).2.2; exact (by refine pRx ?_; exact (Kd.R_mono (Kd.R_mono (Kd.R_far (p := ⟨gbq12, 1, none⟩) (Kd.R_far (p := ⟨gbq12, 0, none⟩) (Kd.R_far (p := ⟨gbq11, 1, none⟩) (Kd.R_far (p := ⟨gbq11, 0, none⟩) (Kd.R_types (Kd.R_types HOqz.out BKq11.out (by decide)) BKq12.out (by decide)) (fun _ hk => hk.1.2) (.int .i64 tqb)) (fun _ hk => hk.1.2) (.slice Ao37 tqn.length co37)) (fun _ hk => hk.2) (.int .i64 tqo)) (fun _ hk => hk.2) (.slice Ao41 tqp.length co41)) (fun _ h_ => h_.1)) (fun _ h_ => h_.1)))); (case side2 => exact (Kd.R_reads' HOqz.out).2.1); (case side3 => refine (Kd.R_reads' (e := 3) (base := w.heap.size) (ok := fun k_ => ((some k_ ≠ (.slice Ao37 tqn.length co37 : Value).ownBlock ∧ some k_ ≠ (.slice Ao17 tqg.length co17 : Value).ownBlock) ∧ some k_ ≠ (.slice Ao19 tqi.length co19 : Value).ownBlock)) (n := tqp.length) (c := co41) ?_).2.2; exact (by refine pRx ?_; exact (Kd.R_mono (Kd.R_mono (Kd.R_far (p := ⟨gbq12, 1, none⟩) (Kd.R_far (p := ⟨gbq12, 0, none⟩) (Kd.R_far (p := ⟨gbq11, 1, none⟩) (Kd.R_far (p := ⟨gbq11, 0, none⟩) (Kd.R_types (Kd.R_types HOq10.out BKq11.out (by decide)) BKq12.out (by decide)) (fun _ hk => hk.1.2) (.int .i64 tqb)) (fun _ hk => hk.1.2) (.slice Ao37 tqn.length co37)) (fun _ hk => hk.2) (.int .i64 tqo)) (fun _ hk => hk.2) (.slice Ao41 tqp.length co41)) (fun _ h_ => h_.1)) (fun _ h_ => h_.1)))); (case side4 => exact (Kd.R_reads' HOq10.out).2.1); rintro e w42 ⟨rfl, hb⟩; refine ⟨_, rfl, ?_⟩; replace HOqt := aQ (Kd.R_below (by refine pRx ?_; exact (Kd.R_mono (Kd.R_mono (Kd.R_far (p := ⟨gbq12, 1, none⟩) (Kd.R_far (p := ⟨gbq12, 0, none⟩) (Kd.R_far (p := ⟨gbq11, 1, none⟩) (Kd.R_far (p := ⟨gbq11, 0, none⟩) (Kd.R_types (Kd.R_types HOqt.out BKq11.out (by decide)) BKq12.out (by decide)) (fun _ hk => hk.1.2) (.int .i64 tqb)) (fun _ hk => hk.1.2) (.slice Ao37 tqn.length co37)) (fun _ hk => hk.2) (.int .i64 tqo)) (fun _ hk => hk.2) (.slice Ao41 tqp.length co41)) (fun _ h_ => h_.1)) (fun _ h_ => h_.1))) hb); replace HOqu := aQ (Kd.R_below (by refine pRx ?_; exact (Kd.R_mono (Kd.R_mono (Kd.R_far (p := ⟨gbq12, 1, none⟩) (Kd.R_far (p := ⟨gbq12, 0, none⟩) (Kd.R_far (p := ⟨gbq11, 1, none⟩) (Kd.R_far (p := ⟨gbq11, 0, none⟩) (Kd.R_types (Kd.R_types HOqu.out BKq11.out (by decide)) BKq12.out (by decide)) (fun _ hk => hk.1.2) (.int .i64 tqb)) (fun _ hk => hk.1.2) (.slice Ao37 tqn.length co37)) (fun _ hk => hk.2) (.int .i64 tqo)) (fun _ hk => hk.2) (.slice Ao41 tqp.length co41)) (fun _ h_ => h_.1)) (fun _ h_ => h_.1))) hb); replace HOqz := aQ (Kd.R_below (by refine pRx ?_; exact (Kd.R_mono (Kd.R_mono (Kd.R_far (p := ⟨gbq12, 1, none⟩) (Kd.R_far (p := ⟨gbq12, 0, none⟩) (Kd.R_far (p := ⟨gbq11, 1, none⟩) (Kd.R_far (p := ⟨gbq11, 0, none⟩) (Kd.R_types (Kd.R_types HOqz.out BKq11.out (by decide)) BKq12.out (by decide)) (fun _ hk => hk.1.2) (.int .i64 tqb)) (fun _ hk => hk.1.2) (.slice Ao37 tqn.length co37)) (fun _ hk => hk.2) (.int .i64 tqo)) (fun _ hk => hk.2) (.slice Ao41 tqp.length co41)) (fun _ h_ => h_.1)) (fun _ h_ => h_.1))) hb); replace HOq10 := aQ (Kd.R_below (by refine pRx ?_; exact (Kd.R_mono (Kd.R_mono (Kd.R_far (p := ⟨gbq12, 1, none⟩) (Kd.R_far (p := ⟨gbq12, 0, none⟩) (Kd.R_far (p := ⟨gbq11, 1, none⟩) (Kd.R_far (p := ⟨gbq11, 0, none⟩) (Kd.R_types (Kd.R_types HOq10.out BKq11.out (by decide)) BKq12.out (by decide)) (fun _ hk => hk.1.2) (.int .i64 tqb)) (fun _ hk => hk.1.2) (.slice Ao37 tqn.length co37)) (fun _ hk => hk.2) (.int .i64 tqo)) (fun _ hk => hk.2) (.slice Ao41 tqp.length co41)) (fun _ h_ => h_.1)) (fun _ h_ => h_.1))) hb); replace BKqv := aQ (yab (g := gbqv) (o := .cells #[.int .i64 tq6, .slice Ao17 tqg.length co17] 28 (0, 0)) (by refine pkx ?_; refine yj ?_ NBqv_q12.out _; refine pkx ?_; refine yj ?_ NBqv_q12.out _; refine pkx ?_; refine yj ?_ NBqv_q11.out _; refine pkx ?_; refine yj ?_ NBqv_q11.out _; refine pkx ?_; exact BKqv.out) hb); replace BKqw := aQ (yab (g := gbqw) (o := .cells #[.int .i64 tqh, .slice Ao19 tqi.length co19] 28 (0, 0)) (by refine pkx ?_; refine yj ?_ NBqw_q12.out _; refine pkx ?_; refine yj ?_ NBqw_q12.out _; refine pkx ?_; refine yj ?_ NBqw_q11.out _; refine pkx ?_; refine yj ?_ NBqw_q11.out _; refine pkx ?_; exact BKqw.out) hb); replace BKq11 := aQ (yab (g := gbq11) (o := .cells #[.int .i64 tqb, .slice Ao37 tqn.length co37] 28 (0, 0)) (by refine pkx ?_; refine yj ?_ NBq11_q12.out _; refine pkx ?_; refine yj ?_ NBq11_q12.out _; refine pkx ?_; refine yh (cs := #[.int .i64 tqb, .slice none 0 0]) ?_ 1 _ rfl; refine pkx ?_; refine yh (cs := #[.int .i64 0, .slice none 0 0]) ?_ 0 _ rfl; refine pkx ?_; exact BKq11.out) hb); replace BKq12 := aQ (yab (g := gbq12) (o := .cells #[.int .i64 tqo, .slice Ao41 tqp.length co41] 28 (0, 0)) (by refine pkx ?_; refine yh (cs := #[.int .i64 tqo, .slice none 0 0]) ?_ 1 _ rfl; refine pkx ?_; refine yh (cs := #[.int .i64 0, .slice none 0 0]) ?_ 0 _ rfl; refine pkx ?_; refine yj ?_ NBq12_q11.out _; refine pkx ?_; refine yj ?_ NBq12_q11.out _; refine pkx ?_; exact BKq12.out) hb); replace HB := bs HB hb; (try clear hb); (try clear hk)))
  (try simp only [Act.put, List.setIfInBounds_toArray, List.set_cons_zero, List.set_cons_succ])
  go_cut [96] (fun v96 wc => ∃ (kq : Nat) (x96_10 : Bool), v96 = .bool x96_10 ∧ Aside0 (laws_FnCommon.j0 kq tq7 tqj tq9 tqc x96_10 tq6 tqg tqh tqi tqb tqn tqo tqp = some true) ∧ Aside0 (kq ≤ k) ∧ Aside0 (Kd.R (Kd.int .i64) 3 wc w.heap.size (fun k_ => some k_ ≠ ((.slice Ao19 tqi.length co19) : Value).ownBlock ∧ some k_ ≠ ((.slice Ao37 tqn.length co37) : Value).ownBlock ∧ some k_ ≠ ((.slice Ao41 tqp.length co41) : Value).ownBlock) (.slice Ao17 tqg.length co17) tqg) ∧ Aside0 (Kd.R (Kd.int .i64) 3 wc w.heap.size (fun k_ => some k_ ≠ ((.slice Ao17 tqg.length co17) : Value).ownBlock ∧ some k_ ≠ ((.slice Ao37 tqn.length co37) : Value).ownBlock ∧ some k_ ≠ ((.slice Ao41 tqp.length co41) : Value).ownBlock) (.slice Ao19 tqi.length co19) tqi) ∧ Aside0 (Kd.R (Kd.int .i64) 3 wc w.heap.size (fun k_ => some k_ ≠ ((.slice Ao17 tqg.length co17) : Value).ownBlock ∧ some k_ ≠ ((.slice Ao19 tqi.length co19) : Value).ownBlock ∧ some k_ ≠ ((.slice Ao41 tqp.length co41) : Value).ownBlock) (.slice Ao37 tqn.length co37) tqn) ∧ Aside0 (Kd.R (Kd.int .i64) 3 wc w.heap.size (fun k_ => some k_ ≠ ((.slice Ao17 tqg.length co17) : Value).ownBlock ∧ some k_ ≠ ((.slice Ao19 tqi.length co19) : Value).ownBlock ∧ some k_ ≠ ((.slice Ao37 tqn.length co37) : Value).ownBlock) (.slice Ao41 tqp.length co41) tqp) ∧ Aside0 (wc.heap[gbqv]? = some (.cells #[.int .i64 tq6, (.slice Ao17 tqg.length co17)] 28 (0, 0))) ∧ Aside0 (wc.heap[gbqw]? = some (.cells #[.int .i64 tqh, (.slice Ao19 tqi.length co19)] 28 (0, 0))) ∧ Aside0 (wc.heap[gbq11]? = some (.cells #[.int .i64 tqb, (.slice Ao37 tqn.length co37)] 28 (0, 0))) ∧ Aside0 (wc.heap[gbq12]? = some (.cells #[.int .i64 tqo, (.slice Ao41 tqp.length co41)] 28 (0, 0))) ∧ Aside0 (Below w.heap.size w wc))
  case first =>
   have H := HC11.out
   clear HC11
   by_cases c43 : (tqj != tqk) = true
   ·rw [if_pos c43] at H
    have c43b0 : (tqj != tqk) = true := c43
    (try (have c43b1 : decide (tqj = tqk) = false := by simpa using c43))
    (try (have c43b2 : (tqj == tqk) = false := by simpa using c43))
    (try (have c43b3 : ¬ (tqj = tqk) := by simpa using c43))
    clear c43
    (first | rw [c43b0] | (simp only [i64_w, ybq]; rw [c43b0]) | skip)
    have H' := aQ H
    clear H
    try go_wp2
    replace HOqt := aQ (Kd.R_drew HOqt.out); replace HOqu := aQ (Kd.R_drew HOqu.out); replace HOqz := aQ (Kd.R_drew HOqz.out); replace HOq10 := aQ (Kd.R_drew HOq10.out); replace BKqv := aQ (yF BKqv.out); replace BKqw := aQ (yF BKqw.out); replace BKq11 := aQ (yF BKq11.out); replace BKq12 := aQ (yF BKq12.out); replace HB := aQ (yK HB.out)
    refine ya0 (n := 37) (S := fun w' => True) (ds := []) _ (by kernel_rfl) rfl rfl trivial (fun hHeld => ?_); refine yaw laws_FnCommon.tab10 laws_FnCommon.bits10 (fun HT_ HW_ => ?_)
    generalize w42.drew = w44 at HOqt HOqu HOqz HOq10 BKqv BKqw BKq11 BKq12 HB hHeld ⊢
    refine pA 0 (some 60) HT_ ?_
    refine pA 1 (some 61) HT_ ?_
    refine pA 2 (some 62) HT_ ?_
    refine pA 3 (some 63) HT_ ?_
    refine pU 4 (some 64) HT_ ?_
    refine pU 5 (some 65) HT_ ?_
    refine pU 6 (some 66) HT_ ?_
    refine pA 7 (some 67) HT_ ?_
    refine pA 8 (some 68) HT_ ?_
    refine pU 9 (some 69) HT_ ?_
    refine pU 10 (some 70) HT_ ?_
    refine pU 11 (some 71) HT_ ?_
    refine pA 12 (some 72) HT_ ?_
    refine pA 13 (some 73) HT_ ?_
    refine pU 14 (some 74) HT_ ?_
    refine pU 15 (some 75) HT_ ?_
    refine pU 16 (some 76) HT_ ?_
    refine pA 17 (some 77) HT_ ?_
    refine pA 18 (some 78) HT_ ?_
    refine pU 19 (some 79) HT_ ?_
    refine pU 20 (some 80) HT_ ?_
    refine pU 21 (some 81) HT_ ?_
    refine pU 22 (some 82) HT_ ?_
    refine pU 23 (some 83) HT_ ?_
    refine pU 24 (some 84) HT_ ?_
    refine pA 25 (some 85) HT_ ?_
    refine pA 26 (some 86) HT_ ?_
    refine pU 27 (some 87) HT_ ?_
    refine pU 28 (some 88) HT_ ?_
    refine pU 29 (some 89) HT_ ?_
    refine pU 30 (some 90) HT_ ?_
    refine pU 31 (some 91) HT_ ?_
    refine pU 32 (some 92) HT_ ?_
    refine pU 33 (some 93) HT_ ?_
    refine pU 34 (some 94) HT_ ?_
    refine pU 35 (some 95) HT_ ?_
    refine pA 36 (some 96) HT_ ?_
    refine ybs (yaZ HT_.out (by kernel_rfl)) ?_
    try go_wp2
    go_meet
    case rel => exact ⟨_, (true), rs_, H', ⟨by first | omega | exact Nat.le_refl _⟩, ⟨by refine pRx ?_; exact Kd.R_mono HOqt.out (fun _ hk => ⟨hk.1.1, ⟨hk.1.2, hk.2⟩⟩)⟩, ⟨by refine pRx ?_; exact Kd.R_mono HOqu.out (fun _ hk => ⟨hk.1.1, ⟨hk.1.2, hk.2⟩⟩)⟩, ⟨by refine pRx ?_; exact Kd.R_mono HOqz.out (fun _ hk => ⟨hk.1.2, ⟨hk.2, hk.1.1⟩⟩)⟩, ⟨by refine pRx ?_; exact Kd.R_mono HOq10.out (fun _ hk => ⟨hk.1.2, ⟨hk.2, hk.1.1⟩⟩)⟩, ⟨pk BKqv.out⟩, ⟨pk BKqw.out⟩, ⟨pk BKq11.out⟩, ⟨pk BKq12.out⟩, ⟨pB4 HB.out GEqv.out GEqw.out GEq11.out GEq12.out⟩⟩
   ·rw [if_neg c43] at H
    have c43b0 : (tqj != tqk) = false := by simpa using c43
    (try (have c43b1 : decide (tqj = tqk) = true := by simpa using c43))
    (try (have c43b2 : (tqj == tqk) = true := by simpa using c43))
    clear c43
    (first | rw [c43b0] | (simp only [i64_w, ybq]; rw [c43b0]) | skip)
    by_cases c45 : tq7 = tq8
    ·rw [if_pos c45] at H
     have c45b0 : (tq7 == tq8) = true := beq_iff_eq.mpr c45
     have c45b1 : (tq7 != tq8) = false := bne_eq_false_iff_eq.mpr c45
     clear c45
     by_cases c46 : (tql != tqm) = true
     ·rw [if_pos c46] at H
      have c46b0 : (tql != tqm) = true := c46
      (try (have c46b1 : decide (tql = tqm) = false := by simpa using c46))
      (try (have c46b2 : (tql == tqm) = false := by simpa using c46))
      (try (have c46b3 : ¬ (tql = tqm) := by simpa using c46))
      clear c46
      have H' := aQ H
      clear H
      try go_wp2
      replace HOqt := aQ (Kd.R_drew HOqt.out); replace HOqu := aQ (Kd.R_drew HOqu.out); replace HOqz := aQ (Kd.R_drew HOqz.out); replace HOq10 := aQ (Kd.R_drew HOq10.out); replace BKqv := aQ (yF BKqv.out); replace BKqw := aQ (yF BKqw.out); replace BKq11 := aQ (yF BKq11.out); replace BKq12 := aQ (yF BKq12.out); replace HB := aQ (yK HB.out)
      refine ya0 (n := 37) (S := fun w' => True) (ds := []) _ (by kernel_rfl) rfl rfl trivial (fun hHeld => ?_); refine yaw laws_FnCommon.tab10 laws_FnCommon.bits10 (fun HT_ HW_ => ?_)
      generalize w42.drew = w47 at HOqt HOqu HOqz HOq10 BKqv BKqw BKq11 BKq12 HB hHeld ⊢
      refine pA 0 (some 60) HT_ ?_
      refine pA 1 (some 61) HT_ ?_
      refine pA 2 (some 62) HT_ ?_
      refine pA 3 (some 63) HT_ ?_
      refine pA 4 (some 64) HT_ ?_
      refine pA 5 (some 65) HT_ ?_
      refine pA 6 (some 66) HT_ ?_
      refine pA 7 (some 67) HT_ ?_
      refine pA 8 (some 68) HT_ ?_
      refine pA 9 (some 69) HT_ ?_
      refine pA 10 (some 70) HT_ ?_
      refine pA 11 (some 71) HT_ ?_
      refine pA 12 (some 72) HT_ ?_
      refine pA 13 (some 73) HT_ ?_
      refine pU 14 (some 74) HT_ ?_
      refine pU 15 (some 75) HT_ ?_
      refine pU 16 (some 76) HT_ ?_
      refine pA 17 (some 77) HT_ ?_
      refine pA 18 (some 78) HT_ ?_
      refine pU 19 (some 79) HT_ ?_
      refine pU 20 (some 80) HT_ ?_
      refine pU 21 (some 81) HT_ ?_
      refine pU 22 (some 82) HT_ ?_
      refine pU 23 (some 83) HT_ ?_
      refine pU 24 (some 84) HT_ ?_
      refine pA 25 (some 85) HT_ ?_
      refine pA 26 (some 86) HT_ ?_
      refine pU 27 (some 87) HT_ ?_
      refine pU 28 (some 88) HT_ ?_
      refine pU 29 (some 89) HT_ ?_
      refine pU 30 (some 90) HT_ ?_
      refine pU 31 (some 91) HT_ ?_
      refine pU 32 (some 92) HT_ ?_
      refine pU 33 (some 93) HT_ ?_
      refine pU 34 (some 94) HT_ ?_
      refine pU 35 (some 95) HT_ ?_
      refine pA 36 (some 96) HT_ ?_
      refine ybs (yaZ HT_.out (by kernel_rfl)) ?_
      try go_wp2
      go_meet
      case rel => exact ⟨_, (true), rs_, H', ⟨by first | omega | exact Nat.le_refl _⟩, ⟨by refine pRx ?_; exact Kd.R_mono HOqt.out (fun _ hk => ⟨hk.1.1, ⟨hk.1.2, hk.2⟩⟩)⟩, ⟨by refine pRx ?_; exact Kd.R_mono HOqu.out (fun _ hk => ⟨hk.1.1, ⟨hk.1.2, hk.2⟩⟩)⟩, ⟨by refine pRx ?_; exact Kd.R_mono HOqz.out (fun _ hk => ⟨hk.1.2, ⟨hk.2, hk.1.1⟩⟩)⟩, ⟨by refine pRx ?_; exact Kd.R_mono HOq10.out (fun _ hk => ⟨hk.1.2, ⟨hk.2, hk.1.1⟩⟩)⟩, ⟨pk BKqv.out⟩, ⟨pk BKqw.out⟩, ⟨pk BKq11.out⟩, ⟨pk BKq12.out⟩, ⟨pB4 HB.out GEqv.out GEqw.out GEq11.out GEq12.out⟩⟩
     ·rw [if_neg c46] at H
      have c46b0 : (tql != tqm) = false := by simpa using c46
      (try (have c46b1 : decide (tql = tqm) = true := by simpa using c46))
      (try (have c46b2 : (tql == tqm) = true := by simpa using c46))
      clear c46
      by_cases c48 : tq9 = tqa
      ·rw [if_pos c48] at H
       have c48b0 : (tq9 == tqa) = true := beq_iff_eq.mpr c48
       have c48b1 : (tq9 != tqa) = false := bne_eq_false_iff_eq.mpr c48
       clear c48
       replace H := bo H; obtain ⟨tqd, A49, H⟩ := H
       (try dsimp only at H)
       by_cases c50 : tqc = tqd
       ·rw [if_pos c50] at H
        have c50b0 : (tqc == tqd) = true := beq_iff_eq.mpr c50
        have c50b1 : (tqc != tqd) = false := bne_eq_false_iff_eq.mpr c50
        clear c50
        replace H := bo H; obtain ⟨tqe, A51, H⟩ := H
        (try dsimp only at H)
        replace H := bo H; obtain ⟨tqf, A52, H⟩ := H
        (try dsimp only at H)
        have H' := aQ H
        clear H
        try go_wp2
        replace HOqt := aQ (Kd.R_drew HOqt.out); replace HOqu := aQ (Kd.R_drew HOqu.out); replace HOqz := aQ (Kd.R_drew HOqz.out); replace HOq10 := aQ (Kd.R_drew HOq10.out); replace BKqv := aQ (yF BKqv.out); replace BKqw := aQ (yF BKqw.out); replace BKq11 := aQ (yF BKq11.out); replace BKq12 := aQ (yF BKq12.out); replace HB := aQ (yK HB.out)
        refine ya0 (n := 37) (S := fun w' => w'.cell? ⟨gbq11, 0, none⟩ = some (.int .i64 tqb) ∧ w'.cell? ⟨gbq11, 1, none⟩ = some (.slice Ao37 tqn.length co37) ∧ w'.cell? ⟨gbq12, 0, none⟩ = some (.int .i64 tqo) ∧ w'.cell? ⟨gbq12, 1, none⟩ = some (.slice Ao41 tqp.length co41)) (ds := []) _ (by kernel_rfl) rfl rfl ⟨(ya BKq11.out 0).trans rfl, (ya BKq11.out 1).trans rfl, (ya BKq12.out 0).trans rfl, (ya BKq12.out 1).trans rfl⟩ (fun hHeld => ?_); refine yaw laws_FnCommon.tab10 laws_FnCommon.bits10 (fun HT_ HW_ => ?_)
        generalize w42.drew = w53 at HOqt HOqu HOqz HOq10 BKqv BKqw BKq11 BKq12 HB hHeld ⊢
        refine pA 0 (some 60) HT_ ?_
        refine pA 1 (some 61) HT_ ?_
        refine pA 2 (some 62) HT_ ?_
        refine pA 3 (some 63) HT_ ?_
        refine pA 4 (some 64) HT_ ?_
        refine pA 5 (some 65) HT_ ?_
        refine pA 6 (some 66) HT_ ?_
        refine pA 7 (some 67) HT_ ?_
        refine pA 8 (some 68) HT_ ?_
        refine pA 9 (some 69) HT_ ?_
        refine pA 10 (some 70) HT_ ?_
        refine pA 11 (some 71) HT_ ?_
        refine pA 12 (some 72) HT_ ?_
        refine pA 13 (some 73) HT_ ?_
        refine pA 14 (some 74) HT_ ?_
        refine pA 15 (some 75) HT_ ?_
        refine pA 16 (some 76) HT_ ?_
        refine pA 17 (some 77) HT_ ?_
        refine pA 18 (some 78) HT_ ?_
        refine pA 19 (some 79) HT_ ?_
        refine pA 22 (some 82) HT_ ?_
        refine tA4 20 (some 80) HT_ HW_ hHeld ?_
        refine tA4 21 (some 81) HT_ HW_ hHeld ?_
        refine onA (i := 23) (N := some 83) HT_ (h := fun K hK => ?_)
        refine gs Try.func30 #[.agg #[.int .i64 tqb, .slice Ao37 tqn.length co37], .agg #[.int .i64 tqo, .slice Ao41 tqp.length co41], .int .i64 tqq] ?_
        with_reducible refine (yaa.calls k tqb _ _ tqn tqo _ _ tqp tqq tqd _ ?side1 ?side2 ?side3 ?side4 A49.out).mono ?_
        (case side1 => exact pC ((Kd.R_reads' HOqz.out).2.2))
        (case side2 => exact (Kd.R_reads' HOqz.out).2.1)
        (case side3 => exact pC ((Kd.R_reads' HOq10.out).2.2))
        (case side4 => exact (Kd.R_reads' HOq10.out).2.1)
        rintro e w54 ⟨rfl, hb⟩
        refine ⟨_, rfl, ?_⟩
        replace HOqt := aQ (Kd.R_below (pR HOqt.out) hb); replace HOqu := aQ (Kd.R_below (pR HOqu.out) hb); replace HOqz := aQ (Kd.R_below (pR HOqz.out) hb); replace HOq10 := aQ (Kd.R_below (pR HOq10.out) hb); replace BKqv := bb BKqv hb; replace BKqw := bb BKqw hb; replace BKq11 := bb BKq11 hb; replace BKq12 := bb BKq12 hb; replace HB := bs HB hb
        (try clear hb)
        (try clear hb2)
        (try clear hk)
        (try clear hi)
        refine hK.out _ _ ⟨(ya BKq11.out 0).trans rfl, (ya BKq11.out 1).trans rfl, (ya BKq12.out 0).trans rfl, (ya BKq12.out 1).trans rfl⟩ (fun hHeld => ?_)
        clear hK K
        refine noN (some 83) (h := ?_)
        refine pA 24 (some 84) HT_ ?_
        refine pA 25 (some 85) HT_ ?_
        refine pA 26 (some 86) HT_ ?_
        refine pA 29 (some 89) HT_ ?_
        refine pA 33 (some 93) HT_ ?_
        refine tA4 27 (some 87) HT_ HW_ hHeld ?_
        refine tA4 28 (some 88) HT_ HW_ hHeld ?_
        refine tA4 31 (some 91) HT_ HW_ hHeld ?_
        refine tA4 32 (some 92) HT_ HW_ hHeld ?_
        refine onA (i := 30) (N := some 90) HT_ (h := fun K hK => ?_)
        refine gs Try.func31 #[.agg #[.int .i64 tqb, .slice Ao37 tqn.length co37], .agg #[.int .i64 tqo, .slice Ao41 tqp.length co41], .int .i64 tqq] ?_
        with_reducible refine (yaW.calls k tqb _ _ tqn tqo _ _ tqp tqq tqe _ ?side1 ?side2 ?side3 ?side4 A51.out).mono ?_
        (case side1 => exact pC ((Kd.R_reads' HOqz.out).2.2))
        (case side2 => exact (Kd.R_reads' HOqz.out).2.1)
        (case side3 => exact pC ((Kd.R_reads' HOq10.out).2.2))
        (case side4 => exact (Kd.R_reads' HOq10.out).2.1)
        rintro e w55 ⟨rfl, hb⟩
        refine ⟨_, rfl, ?_⟩
        replace HOqt := aQ (Kd.R_below (pR HOqt.out) hb); replace HOqu := aQ (Kd.R_below (pR HOqu.out) hb); replace HOqz := aQ (Kd.R_below (pR HOqz.out) hb); replace HOq10 := aQ (Kd.R_below (pR HOq10.out) hb); replace BKqv := bb BKqv hb; replace BKqw := bb BKqw hb; replace BKq11 := bb BKq11 hb; replace BKq12 := bb BKq12 hb; replace HB := bs HB hb
        (try clear hb)
        (try clear hb2)
        (try clear hk)
        (try clear hi)
        refine hK.out _ _ ⟨(ya BKq11.out 0).trans rfl, (ya BKq11.out 1).trans rfl, (ya BKq12.out 0).trans rfl, (ya BKq12.out 1).trans rfl⟩ (fun hHeld => ?_)
        clear hK K
        refine noN (some 90) (h := ?_)
        refine onA (i := 34) (N := some 94) HT_ (h := fun K hK => ?_)
        refine gs Try.func32 #[.agg #[.int .i64 tqb, .slice Ao37 tqn.length co37], .agg #[.int .i64 tqo, .slice Ao41 tqp.length co41], .int .i64 tqq] ?_
        with_reducible refine (yaH.calls k tqb _ _ tqn tqo _ _ tqp tqq tqf _ ?side1 ?side2 ?side3 ?side4 A52.out).mono ?_
        (case side1 => exact pC ((Kd.R_reads' HOqz.out).2.2))
        (case side2 => exact (Kd.R_reads' HOqz.out).2.1)
        (case side3 => exact pC ((Kd.R_reads' HOq10.out).2.2))
        (case side4 => exact (Kd.R_reads' HOq10.out).2.1)
        rintro e w56 ⟨rfl, hb⟩
        refine ⟨_, rfl, ?_⟩
        replace HOqt := aQ (Kd.R_below (pR HOqt.out) hb); replace HOqu := aQ (Kd.R_below (pR HOqu.out) hb); replace HOqz := aQ (Kd.R_below (pR HOqz.out) hb); replace HOq10 := aQ (Kd.R_below (pR HOq10.out) hb); replace BKqv := bb BKqv hb; replace BKqw := bb BKqw hb; replace BKq11 := bb BKq11 hb; replace BKq12 := bb BKq12 hb; replace HB := bs HB hb
        (try clear hb)
        (try clear hb2)
        (try clear hk)
        (try clear hi)
        refine hK.out _ _ ⟨(ya BKq11.out 0).trans rfl, (ya BKq11.out 1).trans rfl, (ya BKq12.out 0).trans rfl, (ya BKq12.out 1).trans rfl⟩ (fun hHeld => ?_)
        clear hK K
        refine noN (some 94) (h := ?_)
        refine pA 35 (some 95) HT_ ?_
        refine pA 36 (some 96) HT_ ?_
        refine ybs (yaZ HT_.out (by kernel_rfl)) ?_
        try go_wp2
        go_meet
        case rel => exact ⟨_, ((tqe != tqf)), rs_, H', ⟨by first | omega | exact Nat.le_refl _⟩, ⟨by refine pRx ?_; exact Kd.R_mono HOqt.out (fun _ hk => ⟨hk.1.1, ⟨hk.1.2, hk.2⟩⟩)⟩, ⟨by refine pRx ?_; exact Kd.R_mono HOqu.out (fun _ hk => ⟨hk.1.1, ⟨hk.1.2, hk.2⟩⟩)⟩, ⟨by refine pRx ?_; exact Kd.R_mono HOqz.out (fun _ hk => ⟨hk.1.2, ⟨hk.2, hk.1.1⟩⟩)⟩, ⟨by refine pRx ?_; exact Kd.R_mono HOq10.out (fun _ hk => ⟨hk.1.2, ⟨hk.2, hk.1.1⟩⟩)⟩, ⟨pk BKqv.out⟩, ⟨pk BKqw.out⟩, ⟨pk BKq11.out⟩, ⟨pk BKq12.out⟩, ⟨pB4 HB.out GEqv.out GEqw.out GEq11.out GEq12.out⟩⟩
       ·rw [if_neg c50] at H
        have c50b0 : (tqc == tqd) = false := beq_eq_false_iff_ne.mpr c50
        have c50b1 : (tqc != tqd) = true := bne_iff_ne.mpr c50
        have H' := aQ H
        clear H
        try go_wp2
        replace HOqt := aQ (Kd.R_drew HOqt.out); replace HOqu := aQ (Kd.R_drew HOqu.out); replace HOqz := aQ (Kd.R_drew HOqz.out); replace HOq10 := aQ (Kd.R_drew HOq10.out); replace BKqv := aQ (yF BKqv.out); replace BKqw := aQ (yF BKqw.out); replace BKq11 := aQ (yF BKq11.out); replace BKq12 := aQ (yF BKq12.out); replace HB := aQ (yK HB.out)
        refine ya0 (n := 37) (S := fun w' => w'.cell? ⟨gbq11, 0, none⟩ = some (.int .i64 tqb) ∧ w'.cell? ⟨gbq11, 1, none⟩ = some (.slice Ao37 tqn.length co37) ∧ w'.cell? ⟨gbq12, 0, none⟩ = some (.int .i64 tqo) ∧ w'.cell? ⟨gbq12, 1, none⟩ = some (.slice Ao41 tqp.length co41)) (ds := []) _ (by kernel_rfl) rfl rfl ⟨(ya BKq11.out 0).trans rfl, (ya BKq11.out 1).trans rfl, (ya BKq12.out 0).trans rfl, (ya BKq12.out 1).trans rfl⟩ (fun hHeld => ?_); refine yaw laws_FnCommon.tab10 laws_FnCommon.bits10 (fun HT_ HW_ => ?_)
        generalize w42.drew = w57 at HOqt HOqu HOqz HOq10 BKqv BKqw BKq11 BKq12 HB hHeld ⊢
        refine pA 0 (some 60) HT_ ?_
        refine pA 1 (some 61) HT_ ?_
        refine pA 2 (some 62) HT_ ?_
        refine pA 3 (some 63) HT_ ?_
        refine pA 4 (some 64) HT_ ?_
        refine pA 5 (some 65) HT_ ?_
        refine pA 6 (some 66) HT_ ?_
        refine pA 7 (some 67) HT_ ?_
        refine pA 8 (some 68) HT_ ?_
        refine pA 9 (some 69) HT_ ?_
        refine pA 10 (some 70) HT_ ?_
        refine pA 11 (some 71) HT_ ?_
        refine pA 12 (some 72) HT_ ?_
        refine pA 13 (some 73) HT_ ?_
        refine pA 14 (some 74) HT_ ?_
        refine pA 15 (some 75) HT_ ?_
        refine pA 16 (some 76) HT_ ?_
        refine pA 17 (some 77) HT_ ?_
        refine pA 18 (some 78) HT_ ?_
        refine pA 19 (some 79) HT_ ?_
        refine pA 22 (some 82) HT_ ?_
        refine tA4 20 (some 80) HT_ HW_ hHeld ?_
        refine tA4 21 (some 81) HT_ HW_ hHeld ?_
        refine onA (i := 23) (N := some 83) HT_ (h := fun K hK => ?_)
        refine gs Try.func30 #[.agg #[.int .i64 tqb, .slice Ao37 tqn.length co37], .agg #[.int .i64 tqo, .slice Ao41 tqp.length co41], .int .i64 tqq] ?_
        with_reducible refine (yaa.calls k tqb _ _ tqn tqo _ _ tqp tqq tqd _ ?side1 ?side2 ?side3 ?side4 A49.out).mono ?_
        (case side1 => exact pC ((Kd.R_reads' HOqz.out).2.2))
        (case side2 => exact (Kd.R_reads' HOqz.out).2.1)
        (case side3 => exact pC ((Kd.R_reads' HOq10.out).2.2))
        (case side4 => exact (Kd.R_reads' HOq10.out).2.1)
        rintro e w58 ⟨rfl, hb⟩
        refine ⟨_, rfl, ?_⟩
        replace HOqt := aQ (Kd.R_below (pR HOqt.out) hb); replace HOqu := aQ (Kd.R_below (pR HOqu.out) hb); replace HOqz := aQ (Kd.R_below (pR HOqz.out) hb); replace HOq10 := aQ (Kd.R_below (pR HOq10.out) hb); replace BKqv := bb BKqv hb; replace BKqw := bb BKqw hb; replace BKq11 := bb BKq11 hb; replace BKq12 := bb BKq12 hb; replace HB := bs HB hb
        (try clear hb)
        (try clear hb2)
        (try clear hk)
        (try clear hi)
        refine hK.out _ _ ⟨(ya BKq11.out 0).trans rfl, (ya BKq11.out 1).trans rfl, (ya BKq12.out 0).trans rfl, (ya BKq12.out 1).trans rfl⟩ (fun hHeld => ?_)
        clear hK K
        refine noN (some 83) (h := ?_)
        refine pA 24 (some 84) HT_ ?_
        refine pA 25 (some 85) HT_ ?_
        refine pA 26 (some 86) HT_ ?_
        refine pU 27 (some 87) HT_ ?_
        refine pU 28 (some 88) HT_ ?_
        refine pU 29 (some 89) HT_ ?_
        refine pU 30 (some 90) HT_ ?_
        refine pU 31 (some 91) HT_ ?_
        refine pU 32 (some 92) HT_ ?_
        refine pU 33 (some 93) HT_ ?_
        refine pU 34 (some 94) HT_ ?_
        refine pU 35 (some 95) HT_ ?_
        refine pA 36 (some 96) HT_ ?_
        refine ybs (yaZ HT_.out (by kernel_rfl)) ?_
        try go_wp2
        go_meet
        case rel => exact ⟨_, (true), rs_, H', ⟨by first | omega | exact Nat.le_refl _⟩, ⟨by refine pRx ?_; exact Kd.R_mono HOqt.out (fun _ hk => ⟨hk.1.1, ⟨hk.1.2, hk.2⟩⟩)⟩, ⟨by refine pRx ?_; exact Kd.R_mono HOqu.out (fun _ hk => ⟨hk.1.1, ⟨hk.1.2, hk.2⟩⟩)⟩, ⟨by refine pRx ?_; exact Kd.R_mono HOqz.out (fun _ hk => ⟨hk.1.2, ⟨hk.2, hk.1.1⟩⟩)⟩, ⟨by refine pRx ?_; exact Kd.R_mono HOq10.out (fun _ hk => ⟨hk.1.2, ⟨hk.2, hk.1.1⟩⟩)⟩, ⟨pk BKqv.out⟩, ⟨pk BKqw.out⟩, ⟨pk BKq11.out⟩, ⟨pk BKq12.out⟩, ⟨pB4 HB.out GEqv.out GEqw.out GEq11.out GEq12.out⟩⟩
      ·rw [if_neg c48] at H
       have c48b0 : (tq9 == tqa) = false := beq_eq_false_iff_ne.mpr c48
       have c48b1 : (tq9 != tqa) = true := bne_iff_ne.mpr c48
       have H' := aQ H
       clear H
       try go_wp2
       replace HOqt := aQ (Kd.R_drew HOqt.out); replace HOqu := aQ (Kd.R_drew HOqu.out); replace HOqz := aQ (Kd.R_drew HOqz.out); replace HOq10 := aQ (Kd.R_drew HOq10.out); replace BKqv := aQ (yF BKqv.out); replace BKqw := aQ (yF BKqw.out); replace BKq11 := aQ (yF BKq11.out); replace BKq12 := aQ (yF BKq12.out); replace HB := aQ (yK HB.out)
       refine ya0 (n := 37) (S := fun w' => True) (ds := []) _ (by kernel_rfl) rfl rfl trivial (fun hHeld => ?_); refine yaw laws_FnCommon.tab10 laws_FnCommon.bits10 (fun HT_ HW_ => ?_)
       generalize w42.drew = w59 at HOqt HOqu HOqz HOq10 BKqv BKqw BKq11 BKq12 HB hHeld ⊢
       refine pA 0 (some 60) HT_ ?_
       refine pA 1 (some 61) HT_ ?_
       refine pA 2 (some 62) HT_ ?_
       refine pA 3 (some 63) HT_ ?_
       refine pA 4 (some 64) HT_ ?_
       refine pA 5 (some 65) HT_ ?_
       refine pA 6 (some 66) HT_ ?_
       refine pA 7 (some 67) HT_ ?_
       refine pA 8 (some 68) HT_ ?_
       refine pA 9 (some 69) HT_ ?_
       refine pA 10 (some 70) HT_ ?_
       refine pA 11 (some 71) HT_ ?_
       refine pA 12 (some 72) HT_ ?_
       refine pA 13 (some 73) HT_ ?_
       refine pA 14 (some 74) HT_ ?_
       refine pA 15 (some 75) HT_ ?_
       refine pA 16 (some 76) HT_ ?_
       refine pA 17 (some 77) HT_ ?_
       refine pA 18 (some 78) HT_ ?_
       refine pU 19 (some 79) HT_ ?_
       refine pU 20 (some 80) HT_ ?_
       refine pU 21 (some 81) HT_ ?_
       refine pU 22 (some 82) HT_ ?_
       refine pU 23 (some 83) HT_ ?_
       refine pU 24 (some 84) HT_ ?_
       refine pA 25 (some 85) HT_ ?_
       refine pA 26 (some 86) HT_ ?_
       refine pU 27 (some 87) HT_ ?_
       refine pU 28 (some 88) HT_ ?_
       refine pU 29 (some 89) HT_ ?_
       refine pU 30 (some 90) HT_ ?_
       refine pU 31 (some 91) HT_ ?_
       refine pU 32 (some 92) HT_ ?_
       refine pU 33 (some 93) HT_ ?_
       refine pU 34 (some 94) HT_ ?_
       refine pU 35 (some 95) HT_ ?_
       refine pA 36 (some 96) HT_ ?_
       refine ybs (yaZ HT_.out (by kernel_rfl)) ?_
       try go_wp2
       go_meet
       case rel => exact ⟨_, (true), rs_, H', ⟨by first | omega | exact Nat.le_refl _⟩, ⟨by refine pRx ?_; exact Kd.R_mono HOqt.out (fun _ hk => ⟨hk.1.1, ⟨hk.1.2, hk.2⟩⟩)⟩, ⟨by refine pRx ?_; exact Kd.R_mono HOqu.out (fun _ hk => ⟨hk.1.1, ⟨hk.1.2, hk.2⟩⟩)⟩, ⟨by refine pRx ?_; exact Kd.R_mono HOqz.out (fun _ hk => ⟨hk.1.2, ⟨hk.2, hk.1.1⟩⟩)⟩, ⟨by refine pRx ?_; exact Kd.R_mono HOq10.out (fun _ hk => ⟨hk.1.2, ⟨hk.2, hk.1.1⟩⟩)⟩, ⟨pk BKqv.out⟩, ⟨pk BKqw.out⟩, ⟨pk BKq11.out⟩, ⟨pk BKq12.out⟩, ⟨pB4 HB.out GEqv.out GEqw.out GEq11.out GEq12.out⟩⟩
    ·rw [if_neg c45] at H
     have c45b0 : (tq7 == tq8) = false := beq_eq_false_iff_ne.mpr c45
     have c45b1 : (tq7 != tq8) = true := bne_iff_ne.mpr c45
     have H' := aQ H
     clear H
     try go_wp2
     replace HOqt := aQ (Kd.R_drew HOqt.out); replace HOqu := aQ (Kd.R_drew HOqu.out); replace HOqz := aQ (Kd.R_drew HOqz.out); replace HOq10 := aQ (Kd.R_drew HOq10.out); replace BKqv := aQ (yF BKqv.out); replace BKqw := aQ (yF BKqw.out); replace BKq11 := aQ (yF BKq11.out); replace BKq12 := aQ (yF BKq12.out); replace HB := aQ (yK HB.out)
     refine ya0 (n := 37) (S := fun w' => True) (ds := []) _ (by kernel_rfl) rfl rfl trivial (fun hHeld => ?_); refine yaw laws_FnCommon.tab10 laws_FnCommon.bits10 (fun HT_ HW_ => ?_)
     generalize w42.drew = w60 at HOqt HOqu HOqz HOq10 BKqv BKqw BKq11 BKq12 HB hHeld ⊢
     refine pA 0 (some 60) HT_ ?_
     refine pA 1 (some 61) HT_ ?_
     refine pA 2 (some 62) HT_ ?_
     refine pA 3 (some 63) HT_ ?_
     refine pA 4 (some 64) HT_ ?_
     refine pA 5 (some 65) HT_ ?_
     refine pA 6 (some 66) HT_ ?_
     refine pA 7 (some 67) HT_ ?_
     refine pA 8 (some 68) HT_ ?_
     refine pU 9 (some 69) HT_ ?_
     refine pU 10 (some 70) HT_ ?_
     refine pU 11 (some 71) HT_ ?_
     refine pA 12 (some 72) HT_ ?_
     refine pA 13 (some 73) HT_ ?_
     refine pU 14 (some 74) HT_ ?_
     refine pU 15 (some 75) HT_ ?_
     refine pU 16 (some 76) HT_ ?_
     refine pA 17 (some 77) HT_ ?_
     refine pA 18 (some 78) HT_ ?_
     refine pU 19 (some 79) HT_ ?_
     refine pU 20 (some 80) HT_ ?_
     refine pU 21 (some 81) HT_ ?_
     refine pU 22 (some 82) HT_ ?_
     refine pU 23 (some 83) HT_ ?_
     refine pU 24 (some 84) HT_ ?_
     refine pA 25 (some 85) HT_ ?_
     refine pA 26 (some 86) HT_ ?_
     refine pU 27 (some 87) HT_ ?_
     refine pU 28 (some 88) HT_ ?_
     refine pU 29 (some 89) HT_ ?_
     refine pU 30 (some 90) HT_ ?_
     refine pU 31 (some 91) HT_ ?_
     refine pU 32 (some 92) HT_ ?_
     refine pU 33 (some 93) HT_ ?_
     refine pU 34 (some 94) HT_ ?_
     refine pU 35 (some 95) HT_ ?_
     refine pA 36 (some 96) HT_ ?_
     refine ybs (yaZ HT_.out (by kernel_rfl)) ?_
     try go_wp2
     go_meet
     case rel => exact ⟨_, (true), rs_, H', ⟨by first | omega | exact Nat.le_refl _⟩, ⟨by refine pRx ?_; exact Kd.R_mono HOqt.out (fun _ hk => ⟨hk.1.1, ⟨hk.1.2, hk.2⟩⟩)⟩, ⟨by refine pRx ?_; exact Kd.R_mono HOqu.out (fun _ hk => ⟨hk.1.1, ⟨hk.1.2, hk.2⟩⟩)⟩, ⟨by refine pRx ?_; exact Kd.R_mono HOqz.out (fun _ hk => ⟨hk.1.2, ⟨hk.2, hk.1.1⟩⟩)⟩, ⟨by refine pRx ?_; exact Kd.R_mono HOq10.out (fun _ hk => ⟨hk.1.2, ⟨hk.2, hk.1.1⟩⟩)⟩, ⟨pk BKqv.out⟩, ⟨pk BKqw.out⟩, ⟨pk BKq11.out⟩, ⟨pk BKq12.out⟩, ⟨pB4 HB.out GEqv.out GEqw.out GEq11.out GEq12.out⟩⟩
  case rest =>
   clear HC11
   try clear p2
   try clear c4
   try clear c45
   try clear c45b0
   try clear c45b1
   try clear c48
   try clear c48b0
   try clear c48b1
   obtain ⟨kq, x96_10, rfl, HA, HJ10, HO_6011001, HO_6012001, HO_6030001, HO_6031001, BKqv, BKqw, BKq11, BKq12, HB⟩ := hcut
   cases kq with
   | zero => exact absurd HA.out (by simp [laws_FnCommon.j0])
   | succ kj10 =>
    have H := HA.out
    clear HA
    simp only [laws_FnCommon.j0] at H
    by_cases c61 : x96_10 = true
    ·subst c61
     rw [if_pos rfl] at H
     exact absurd (Option.some.inj H) (by decide)
    ·replace c61 := Bool.eq_false_iff.mpr c61
     subst c61
     have H1 : (if tqj = true then ((yaW.f kj10 tq6 tqg tqh tqi tq7).bind fun tq0 => (if tq0 = true then ((yN.f kj10 tq6 tqg tqh tqi tq9).bind fun tq1 => ((yD.f kj10 tq7).bind fun tq2 => (laws_FnCommon.j1 kj10 tqc (tq1 != tq2) tqb tqn tqo tqp))) else (laws_FnCommon.j1 kj10 tqc true tqb tqn tqo tqp))) else (laws_FnCommon.j1 kj10 tqc false tqb tqn tqo tqp)) = some true := by rw [if_neg (show ¬ (false = true) by decide)] at H; exact H
     clear H
     have H := H1
     clear H1
     have HC62 := aQ H
     clear H
     go_upto_region 12 with (fail)
     go_cut [113] (fun v113 wc => ∃ (kq : Nat) (x113_61 : Bool), v113 = .bool x113_61 ∧ Aside0 (laws_FnCommon.j1 kq tqc x113_61 tqb tqn tqo tqp = some true) ∧ Aside0 (kq ≤ kj10) ∧ Aside0 (Kd.R (Kd.int .i64) 3 wc w.heap.size (fun k_ => some k_ ≠ ((.slice Ao19 tqi.length co19) : Value).ownBlock ∧ some k_ ≠ ((.slice Ao37 tqn.length co37) : Value).ownBlock ∧ some k_ ≠ ((.slice Ao41 tqp.length co41) : Value).ownBlock) (.slice Ao17 tqg.length co17) tqg) ∧ Aside0 (Kd.R (Kd.int .i64) 3 wc w.heap.size (fun k_ => some k_ ≠ ((.slice Ao17 tqg.length co17) : Value).ownBlock ∧ some k_ ≠ ((.slice Ao37 tqn.length co37) : Value).ownBlock ∧ some k_ ≠ ((.slice Ao41 tqp.length co41) : Value).ownBlock) (.slice Ao19 tqi.length co19) tqi) ∧ Aside0 (Kd.R (Kd.int .i64) 3 wc w.heap.size (fun k_ => some k_ ≠ ((.slice Ao17 tqg.length co17) : Value).ownBlock ∧ some k_ ≠ ((.slice Ao19 tqi.length co19) : Value).ownBlock ∧ some k_ ≠ ((.slice Ao41 tqp.length co41) : Value).ownBlock) (.slice Ao37 tqn.length co37) tqn) ∧ Aside0 (Kd.R (Kd.int .i64) 3 wc w.heap.size (fun k_ => some k_ ≠ ((.slice Ao17 tqg.length co17) : Value).ownBlock ∧ some k_ ≠ ((.slice Ao19 tqi.length co19) : Value).ownBlock ∧ some k_ ≠ ((.slice Ao37 tqn.length co37) : Value).ownBlock) (.slice Ao41 tqp.length co41) tqp) ∧ Aside0 (wc.heap[gbqv]? = some (.cells #[.int .i64 tq6, (.slice Ao17 tqg.length co17)] 28 (0, 0))) ∧ Aside0 (wc.heap[gbqw]? = some (.cells #[.int .i64 tqh, (.slice Ao19 tqi.length co19)] 28 (0, 0))) ∧ Aside0 (wc.heap[gbq11]? = some (.cells #[.int .i64 tqb, (.slice Ao37 tqn.length co37)] 28 (0, 0))) ∧ Aside0 (wc.heap[gbq12]? = some (.cells #[.int .i64 tqo, (.slice Ao41 tqp.length co41)] 28 (0, 0))) ∧ Aside0 (Below w.heap.size w wc))
     case first =>
      have H := HC62.out
      clear HC62
      by_cases c63 : tqj = true
      ·subst c63
       rw [if_pos rfl] at H
       replace H := bo H; obtain ⟨tq0, A64, H⟩ := H
       (try dsimp only at H)
       by_cases c65 : tq0 = true
       ·subst c65
        rw [if_pos rfl] at H
        replace H := bo H; obtain ⟨tq1, A66, H⟩ := H
        (try dsimp only at H)
        replace H := bo H; obtain ⟨tq2, A67, H⟩ := H
        (try dsimp only at H)
        have H' := aQ H
        clear H
        have hnb68 := NBqv_qw.out
        have hnc68 := NBqw_qv.out
        have hnb69 := NBqv_q11.out
        have hnc69 := NBq11_qv.out
        have hnb70 := NBqv_q12.out
        have hnc70 := NBq12_qv.out
        obtain ⟨hcz71_0, hcz71_1, hfz71_0, hfz71_1⟩ := c2 BKqv
        have hnb72 := NBqw_q11.out
        have hnc72 := NBq11_qw.out
        have hnb73 := NBqw_q12.out
        have hnc73 := NBq12_qw.out
        obtain ⟨hcz74_0, hcz74_1, hfz74_0, hfz74_1⟩ := c2 BKqw
        go_wp2_with (first | (go_at_call 31; (with_reducible refine (yaW.calls kj10 tq6 _ _ tqg tqh _ _ tqi tq7 true _ ?side1 ?side2 ?side3 ?side4 A64.out).mono ?_); (case side1 => exact pC ((Kd.R_reads' HO_6011001.out).2.2)); (case side2 => exact (Kd.R_reads' HO_6011001.out).2.1); (case side3 => exact pC ((Kd.R_reads' HO_6012001.out).2.2)); (case side4 => exact (Kd.R_reads' HO_6012001.out).2.1); rintro e w75 ⟨rfl, hb⟩; replace HO_6011001 := aQ (Kd.R_below (pR HO_6011001.out) hb); replace HO_6012001 := aQ (Kd.R_below (pR HO_6012001.out) hb); replace HO_6030001 := aQ (Kd.R_below (pR HO_6030001.out) hb); replace HO_6031001 := aQ (Kd.R_below (pR HO_6031001.out) hb); replace BKqv := bb BKqv hb; replace BKqw := bb BKqw hb; replace BKq11 := bb BKq11 hb; replace BKq12 := bb BKq12 hb; replace HB := bs HB hb; (try clear hb); obtain ⟨hcz76_0, hcz76_1, hfz76_0, hfz76_1⟩ := c2 BKqv; obtain ⟨hcz77_0, hcz77_1, hfz77_0, hfz77_1⟩ := c2 BKqw) | (go_at_call 29; (with_reducible refine (yN.calls kj10 tq6 _ _ tqg tqh _ _ tqi tq9 tq1 _ ?side1 ?side2 ?side3 ?side4 A66.out).mono ?_); (case side1 => exact pC ((Kd.R_reads' HO_6011001.out).2.2)); (case side2 => exact (Kd.R_reads' HO_6011001.out).2.1); (case side3 => exact pC ((Kd.R_reads' HO_6012001.out).2.2)); (case side4 => exact (Kd.R_reads' HO_6012001.out).2.1); rintro e w78 ⟨rfl, hb⟩; replace HO_6011001 := aQ (Kd.R_below (pR HO_6011001.out) hb); replace HO_6012001 := aQ (Kd.R_below (pR HO_6012001.out) hb); replace HO_6030001 := aQ (Kd.R_below (pR HO_6030001.out) hb); replace HO_6031001 := aQ (Kd.R_below (pR HO_6031001.out) hb); replace BKqv := bb BKqv hb; replace BKqw := bb BKqw hb; replace BKq11 := bb BKq11 hb; replace BKq12 := bb BKq12 hb; replace HB := bs HB hb; (try clear hb)) | (go_at_call 33; (with_reducible refine (yD.calls kj10 tq7 tq2 _ A67.out).mono ?_); rintro e w' ⟨rfl, ⟨nd, rfl⟩⟩))
        go_meet
        case rel => exact ⟨_, ((tq1 != tq2)), rs_, H', ⟨by have := HJ10.out; first | omega | exact Nat.le_refl _⟩, ⟨pR HO_6011001.out⟩, ⟨pR HO_6012001.out⟩, ⟨pR HO_6030001.out⟩, ⟨pR HO_6031001.out⟩, ⟨pk BKqv.out⟩, ⟨pk BKqw.out⟩, ⟨pk BKq11.out⟩, ⟨pk BKq12.out⟩, ⟨pB4 HB.out GEqv.out GEqw.out GEq11.out GEq12.out⟩⟩
       ·replace c65 := Bool.eq_false_iff.mpr c65
        subst c65
        have H1 : (laws_FnCommon.j1 kj10 tqc true tqb tqn tqo tqp) = some true := by rw [if_neg (show ¬ (false = true) by decide)] at H; exact H
        clear H
        have H := H1
        clear H1
        have H' := aQ H
        clear H
        have hnb79 := NBqv_qw.out
        have hnc79 := NBqw_qv.out
        have hnb80 := NBqv_q11.out
        have hnc80 := NBq11_qv.out
        have hnb81 := NBqv_q12.out
        have hnc81 := NBq12_qv.out
        obtain ⟨hcz82_0, hcz82_1, hfz82_0, hfz82_1⟩ := c2 BKqv
        have hnb83 := NBqw_q11.out
        have hnc83 := NBq11_qw.out
        have hnb84 := NBqw_q12.out
        have hnc84 := NBq12_qw.out
        obtain ⟨hcz85_0, hcz85_1, hfz85_0, hfz85_1⟩ := c2 BKqw
        go_wp2_with (first | (go_at_call 31; (with_reducible refine (yaW.calls kj10 tq6 _ _ tqg tqh _ _ tqi tq7 false _ ?side1 ?side2 ?side3 ?side4 A64.out).mono ?_); (case side1 => exact pC ((Kd.R_reads' HO_6011001.out).2.2)); (case side2 => exact (Kd.R_reads' HO_6011001.out).2.1); (case side3 => exact pC ((Kd.R_reads' HO_6012001.out).2.2)); (case side4 => exact (Kd.R_reads' HO_6012001.out).2.1); rintro e w86 ⟨rfl, hb⟩; replace HO_6011001 := aQ (Kd.R_below (pR HO_6011001.out) hb); replace HO_6012001 := aQ (Kd.R_below (pR HO_6012001.out) hb); replace HO_6030001 := aQ (Kd.R_below (pR HO_6030001.out) hb); replace HO_6031001 := aQ (Kd.R_below (pR HO_6031001.out) hb); replace BKqv := bb BKqv hb; replace BKqw := bb BKqw hb; replace BKq11 := bb BKq11 hb; replace BKq12 := bb BKq12 hb; replace HB := bs HB hb; (try clear hb)))
        go_meet
        case rel => exact ⟨_, (true), rs_, H', ⟨by have := HJ10.out; first | omega | exact Nat.le_refl _⟩, ⟨pR HO_6011001.out⟩, ⟨pR HO_6012001.out⟩, ⟨pR HO_6030001.out⟩, ⟨pR HO_6031001.out⟩, ⟨pk BKqv.out⟩, ⟨pk BKqw.out⟩, ⟨pk BKq11.out⟩, ⟨pk BKq12.out⟩, ⟨pB4 HB.out GEqv.out GEqw.out GEq11.out GEq12.out⟩⟩
      ·replace c63 := Bool.eq_false_iff.mpr c63
       subst c63
       have H1 : (laws_FnCommon.j1 kj10 tqc false tqb tqn tqo tqp) = some true := by rw [if_neg (show ¬ (false = true) by decide)] at H; exact H
       clear H
       have H := H1
       clear H1
       have H' := aQ H
       clear H
       go_wp2
       go_meet
       case rel => exact ⟨_, (false), rs_, H', ⟨by have := HJ10.out; first | omega | exact Nat.le_refl _⟩, ⟨pR HO_6011001.out⟩, ⟨pR HO_6012001.out⟩, ⟨pR HO_6030001.out⟩, ⟨pR HO_6031001.out⟩, ⟨pk BKqv.out⟩, ⟨pk BKqw.out⟩, ⟨pk BKq11.out⟩, ⟨pk BKq12.out⟩, ⟨pB4 HB.out GEqv.out GEqw.out GEq11.out GEq12.out⟩⟩
     case rest =>
      clear HC62
      try clear p2
      try clear c4
      try clear c6
      try clear c7
      try clear c8
      try clear c45
      try clear c45b0
      try clear c45b1
      try clear c48
      try clear c48b0
      try clear c48b1
      try clear c61
      try clear c63
      try clear c65
      try clear c68
      try clear c69
      try clear c70
      try clear c72
      try clear c73
      try clear c79
      try clear c80
      try clear c81
      try clear c83
      try clear c84
      try clear hcz71_0
      try clear hcz71_1
      try clear hcz74_0
      try clear hcz74_1
      try clear hcz76_0
      try clear hcz76_1
      try clear hcz77_0
      try clear hcz77_1
      try clear hcz82_0
      try clear hcz82_1
      try clear hcz85_0
      try clear hcz85_1
      try clear hfz71_0
      try clear hfz71_1
      try clear hfz74_0
      try clear hfz74_1
      try clear hfz76_0
      try clear hfz76_1
      try clear hfz77_0
      try clear hfz77_1
      try clear hfz82_0
      try clear hfz82_1
      try clear hfz85_0
      try clear hfz85_1
      try clear p2
      obtain ⟨kq, x113_61, rfl, HA, HJ61, HO_6011001, HO_6012001, HO_6030001, HO_6031001, BKqv, BKqw, BKq11, BKq12, HB⟩ := hcut
      cases kq with
      | zero => exact absurd HA.out (by simp [laws_FnCommon.j1])
      | succ kj61 =>
       have H := HA.out
       clear HA
       simp only [laws_FnCommon.j1] at H
       by_cases c87 : x113_61 = true
       ·subst c87
        rw [if_pos rfl] at H
        exact absurd (Option.some.inj H) (by decide)
       ·replace c87 := Bool.eq_false_iff.mpr c87
        subst c87
        have H1 : ((yw.f kj61 tqb tqn tqo tqp).bind fun btq3 => (if tqc < 0 then (some true) else (if btq3.2 = true then ((yD.f kj61 btq3.1).bind fun tq4 => (some (decide (tqc ≥ tq4)))) else (some false)))) = some true := by rw [if_neg (show ¬ (false = true) by decide)] at H; exact H
        clear H
        have H := H1
        clear H1
        replace H := bo H; obtain ⟨⟨tq3, tq13⟩, A88, H⟩ := H
        (try dsimp only at H)
        by_cases c89 : tqc < 0
        ·rw [if_pos c89] at H
         have c89b0 := decide_eq_true c89
         clear c89
         have HR_ := Option.some.inj H
         (try (have HS_ := HR_; simp only [bne_iff_ne, ne_eq] at HS_))
         clear H
         have hnb90 := NBq11_qv.out
         have hnc90 := NBqv_q11.out
         have hnb91 := NBq11_qw.out
         have hnc91 := NBqw_q11.out
         have hnb92 := NBq11_q12.out
         have hnc92 := NBq12_q11.out
         obtain ⟨hcz93_0, hcz93_1, hfz93_0, hfz93_1⟩ := c2 BKq11
         have hnb94 := NBq12_qv.out
         have hnc94 := NBqv_q12.out
         have hnb95 := NBq12_qw.out
         have hnc95 := NBqw_q12.out
         obtain ⟨hcz96_0, hcz96_1, hfz96_0, hfz96_1⟩ := c2 BKq12
         go_wp2_with (first | ((with_reducible refine yaJ (f := 25) rfl ?_); refine gl (some 117) Try.func25 #[.agg #[.int .i64 tqb, .slice Ao37 tqn.length co37], .agg #[.int .i64 tqo, .slice Ao41 tqp.length co41]] ?_; (with_reducible refine (yw.calls kj61 tqb _ _ tqn tqo _ _ tqp tq3 tq13 _ ?side1 ?side2 ?side3 ?side4 A88.out).mono ?_); (case side1 => exact pC ((Kd.R_reads' HO_6030001.out).2.2)); (case side2 => exact (Kd.R_reads' HO_6030001.out).2.1); (case side3 => exact pC ((Kd.R_reads' HO_6031001.out).2.2)); (case side4 => exact (Kd.R_reads' HO_6031001.out).2.1); rintro e w97 ⟨rfl, hb⟩; refine ⟨_, rfl, ?_⟩; replace HO_6011001 := aQ (Kd.R_below (pR HO_6011001.out) hb); replace HO_6012001 := aQ (Kd.R_below (pR HO_6012001.out) hb); replace HO_6030001 := aQ (Kd.R_below (pR HO_6030001.out) hb); replace HO_6031001 := aQ (Kd.R_below (pR HO_6031001.out) hb); replace BKqv := bb BKqv hb; replace BKqw := bb BKqw hb; replace BKq11 := bb BKq11 hb; replace BKq12 := bb BKq12 hb; replace HB := bs HB hb; (try clear hb)))
         go_ret
         exact ⟨re_, pB4 HB.out GEqv.out GEqw.out GEq11.out GEq12.out⟩
        ·rw [if_neg c89] at H
         have c89b0 := decide_eq_false c89
         clear c89
         by_cases c98 : tq13 = true
         ·subst c98
          rw [if_pos rfl] at H
          replace H := bo H; obtain ⟨tq4, A99, H⟩ := H
          (try dsimp only at H)
          have HR_ := Option.some.inj H
          (try (have HS_ := HR_; simp only [bne_iff_ne, ne_eq] at HS_))
          clear H
          have hnb100 := NBq11_qv.out
          have hnc100 := NBqv_q11.out
          have hnb101 := NBq11_qw.out
          have hnc101 := NBqw_q11.out
          have hnb102 := NBq11_q12.out
          have hnc102 := NBq12_q11.out
          obtain ⟨hcz103_0, hcz103_1, hfz103_0, hfz103_1⟩ := c2 BKq11
          have hnb104 := NBq12_qv.out
          have hnc104 := NBqv_q12.out
          have hnb105 := NBq12_qw.out
          have hnc105 := NBqw_q12.out
          obtain ⟨hcz106_0, hcz106_1, hfz106_0, hfz106_1⟩ := c2 BKq12
          go_wp2_with (first | ((with_reducible refine yaJ (f := 25) rfl ?_); refine gl (some 117) Try.func25 #[.agg #[.int .i64 tqb, .slice Ao37 tqn.length co37], .agg #[.int .i64 tqo, .slice Ao41 tqp.length co41]] ?_; (with_reducible refine (yw.calls kj61 tqb _ _ tqn tqo _ _ tqp tq3 true _ ?side1 ?side2 ?side3 ?side4 A88.out).mono ?_); (case side1 => exact pC ((Kd.R_reads' HO_6030001.out).2.2)); (case side2 => exact (Kd.R_reads' HO_6030001.out).2.1); (case side3 => exact pC ((Kd.R_reads' HO_6031001.out).2.2)); (case side4 => exact (Kd.R_reads' HO_6031001.out).2.1); rintro e w107 ⟨rfl, hb⟩; refine ⟨_, rfl, ?_⟩; replace HO_6011001 := aQ (Kd.R_below (pR HO_6011001.out) hb); replace HO_6012001 := aQ (Kd.R_below (pR HO_6012001.out) hb); replace HO_6030001 := aQ (Kd.R_below (pR HO_6030001.out) hb); replace HO_6031001 := aQ (Kd.R_below (pR HO_6031001.out) hb); replace BKqv := bb BKqv hb; replace BKqw := bb BKqw hb; replace BKq11 := bb BKq11 hb; replace BKq12 := bb BKq12 hb; replace HB := bs HB hb; (try clear hb)) | (go_at_call 33; (with_reducible refine (yD.calls kj61 tq3 tq4 _ A99.out).mono ?_); rintro e w' ⟨rfl, ⟨nd, rfl⟩⟩))
          go_ret
          exact ⟨re_, pB4 HB.out GEqv.out GEqw.out GEq11.out GEq12.out⟩
         ·replace c98 := Bool.eq_false_iff.mpr c98
          subst c98
          have H1 : (some false) = some true := by rw [if_neg (show ¬ (false = true) by decide)] at H; exact H
          clear H
          have H := H1
          clear H1
          exact absurd (Option.some.inj H) (by decide)
def laws_FnCommon.Pure : Prop := ∀ (l0 : List Int), l0.length ≤ maxLen → l0.length * 1 ≤ 140737488351232 → (∀ x ∈ l0, (Lit.int .u8 x).wf = true) → ∃ k, laws_FnCommon.f k l0 = some true
theorem laws_FnCommon.walk (P : laws_FnCommon.Pure) (a0 : Option Addr) (len0 cap0 : Nat) (z0 : List Int) (w : World) (w0 : (a0 = none ∧ len0 = 0 ∧ cap0 = 0 ∧ z0 = []) ∨ ∃ x, a0 = some x ∧ len0 ≤ cap0 ∧ cap0 ≤ maxLen ∧ z0.length = cap0 ∧ (∀ i, i < z0.length → w.cell? (x.add i) = some (.int .u8 (z0.getD i 0))) ∧ ∀ n ∈ z0, (Lit.int .u8 n).wf = true) (y0 : len0 * 1 ≤ 140737488351232) :
  Calls Try.prog 5 #[.slice a0 len0 cap0] w fun e w' => e = .returned (.bool true) ∧ Below w.heap.size w w' := by
 obtain ⟨l0, rfl, hr0, hm0, hw0, hc0⟩ := ReadsInt.ofRowC w0
 obtain ⟨k, h⟩ := P l0 hm0 y0 hw0
 refine (laws_FnCommon.calls k _ _ l0 w (Kd.C_of_reads (d := (0 : Int)) (h1 := fun _ => rfl) hr0) hc0 h).mono ?_
 rintro e w' ⟨rfl, hd⟩
 exact ⟨rfl, hd⟩
end Go.Proofs.Ytimkekeaeojpkaa.A
