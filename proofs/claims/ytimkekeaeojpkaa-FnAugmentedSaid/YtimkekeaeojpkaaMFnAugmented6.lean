/- Machine side of the law FnAugmented: Go functions as Lean functions, and proofs that calls come to what these tell. Conditions: those in each theorem. -/
import Derived.Test.YtimkekeaeojpkaaMFnAugmented0
import Derived.Test.YtimkekeaeojpkaaMFnAugmented1
import Derived.Test.YtimkekeaeojpkaaMFnAugmented2
import Derived.Test.YtimkekeaeojpkaaMFnAugmented3
import Derived.Test.YtimkekeaeojpkaaMFnAugmented4
import Derived.Test.YtimkekeaeojpkaaMFnAugmented5
set_option maxHeartbeats 8000000
set_option maxRecDepth 100000
namespace Go.Proofs.Ytimkekeaeojpkaa.A
open Go.RowKit Go.Proofs.YtimkekeaeojpkaaW.PrintWords Go.Proofs.YtimkekeaeojpkaaW.PrintLast Go.Proofs.YtimkekeaeojpkaaW.PrintMore Try
attribute [local go_sem] cN cM df de cB cC cL cK
set_option linter.unusedVariables false
set_option linter.unusedSimpArgs false
def bm.l0 : Nat → Int → List Int → Int → Int → List Int → Int → Int → Option (Int × List Int)
 | 0, _, _, _, _, _, _, _ => none
 | k + 1, x5, x6, x7, x8, x38005000, x38005001, x38005002 => if x8 < x7 then ((ao.f x38005000 x38005001 x38005002 10).bind fun btq0 => (if x6.length < 17592186044416 then (bm.l0 k x5 (x6 ++ [wrap64 (btq0.1 - 1)]) x7 (wrap64 (x8 + 1)) x38005000 btq0.2.1 btq0.2.2) else (none))) else (some (x5, x6))
def bm.f (k : Nat) (l0 : List Int) : Option (Int × List Int) := (cm.f k l0).bind fun btq1 => ((da.f btq1.1 btq1.2.1 btq1.2.2).bind fun btq2 => ((ao.f btq1.1 btq2.2.1 btq2.2.2 4).bind fun btq3 => (bm.l0 k btq2.1 (([] : List Int)) btq3.1 0 btq1.1 btq3.2.1 btq3.2.2)))
theorem bm.n0 (k : Nat) (A0 : Option Addr) (c0 : Nat) (l0 : List Int) (r1 : Int) (r2 : List Int) (w : World) (hr0 : Kd.C (Kd.int .u8) w A0 l0.length l0) (hc0 : l0.length ≤ c0) (h : bm.f k l0 = some (r1, r2)) :
  Calls Try.prog 37 #[.slice A0 l0.length c0] w fun e w' => ∃ v1_ : Value, e = .returned (.tuple #[.int .i64 r1, v1_]) ∧ Kd.R (Kd.int .i64) 3 w' w.heap.size (fun _ => True) v1_ r2 ∧ Below w.heap.size w w' := by
 have HR0 := aQ hr0; have HC0 := aQ hc0; clear hr0 hc0; have HB := aQ (Below.refl w.heap.size w); have H := h; clear h; unfold bm.f at H; (try dsimp only at H); replace H := bo H; obtain ⟨⟨tq1, tq4, tq5⟩, A2, H⟩ := H; (try dsimp only at H); replace H := bo H; obtain ⟨⟨tq2, tq6, tq7⟩, A3, H⟩ := H; (try dsimp only at H); obtain ⟨yq8, hyq8⟩ : ∃ y_ : List Int, y_ = (([] : List Int)) := ⟨_, rfl⟩; replace H : ((ao.f tq1 tq6 tq7 4).bind fun btq3 => (bm.l0 k tq2 yq8 btq3.1 0 tq1 btq3.2.1 btq3.2.2)) = some (r1, r2) := by first | (rw [hyq8]; with_reducible exact H) | (rw [hyq8]; exact H)
 have Nyq8 := aQ hyq8; clear hyq8; replace H := bo H; obtain ⟨⟨tq3, tq9, tqa⟩, A4, H⟩ := H; (try dsimp only at H); have H' := aQ H; clear H; go_enter func37, ntmps37; go_wp2_with (first | (refine gt 77 ?_; refine gc (some 10) func77 (cm.n0 k _ _ l0 tq1 tq4 tq5 w _ (pb HB) HR0.out HC0.out A2.out) ?_; rintro e w5 ⟨gqb, rfl, hi, hb, hb2⟩; refine ⟨_, rfl, ?_⟩; replace HB := aQ (hb); have HIqb := aQ (hi); (try clear hb); (try clear hb2); (try clear hi)) | (refine gt 96 ?_; refine gc (some 12) func96 (da.n0 gqb tq1 tq4 tq5 tq2 tq6 tq7 w _ (pi_ HIqb) (pbI HB) A3.out) ?_; rintro e w6 ⟨rfl, hi, hb, hk⟩; refine ⟨_, rfl, ?_⟩; replace HB := aQ (hb); replace HIqb := aQ (hi); (try clear hb); (try clear hk); (try clear hi)) | (refine lI (d := Kd.int .i64) 13 Nyq8 ?_; intro vqc w7 ho8 hb; have HOqd := aQ (Kd.n6 ho8 (ag (pbI HB))); replace HB := bsI HB hb; replace HIqb := aQ (F4.below (pi_ HIqb) hb); clear hb ho8) | (refine gt 91 ?_; refine gc (some 15) func91 (ao.n0 gqb tq1 tq6 tq7 4 tq3 tq9 tqa w _ (pi_ HIqb) (pbI HB) A4.out) ?_; rintro e w9 ⟨rfl, hi, hb, hk⟩; refine ⟨_, rfl, ?_⟩; replace HOqd := aQ (Kd.n5 (Kd.s6 (F4.apart (show F4 w _ gqb tq1 tq6 tq7 from pi_ HIqb) (ac HOqd) (by decide)) hk (fun _ h => h.2)) (fun _ h => h.1)); replace HB := aQ (hb); replace HIqb := aQ (hi); (try clear hb); (try clear hk); (try clear hi)))
 go_loopg [6, 8] k (fun kq v6 v8 w' => ∃ (x6_1 : List Int) (x8_1 : Int) (x38005001_1 : Int) (x38005002_1 : Int), v8 = .int .i64 x8_1 ∧ Aside0 (bm.l0 kq tq2 x6_1 tq3 x8_1 tq1 x38005001_1 x38005002_1 = some (r1, r2)) ∧ Aside0 (kq ≤ k) ∧ Aside0 (Kd.R (Kd.int .i64) 3 w' w.heap.size (fun _ => True) v6 x6_1) ∧ Aside0 (F4 w w' gqb tq1 x38005001_1 x38005002_1) ∧ Aside0 (Below w.heap.size w w'))
 case atStart => exact ⟨(yq8), (0), (tq9), (tqa), rs_, H', ⟨Nat.le_refl _⟩, ⟨ac HOqd⟩, ⟨pi_ HIqb⟩, ⟨pbI HB⟩⟩
 clear H'; obtain ⟨x6_1, x8_1, x38005001_1, x38005002_1, rfl, HA, HK1, HO_6, HIqb, HB⟩ := hrel; rcases gk with _ | k1
 ·exact absurd HA.out (by simp [bm.l0])
 have H := HA.out; clear HA; simp only [bm.l0] at H; replace H := ckD H; obtain ⟨c10b0, H⟩ | ⟨c10b0, H⟩ := H
 ·replace H := bo H; obtain ⟨⟨tq0, tqe, tqf⟩, A11, H⟩ := H; (try dsimp only at H); replace H := gdA H; obtain ⟨LMc12, H⟩ := H; obtain ⟨yqg, hyqg⟩ : ∃ y_ : List Int, y_ = (x6_1 ++ [wrap64 (tq0 - 1)]) := ⟨_, rfl⟩; replace H : (bm.l0 k1 tq2 yqg tq3 (wrap64 (x8_1 + 1)) tq1 tqe tqf) = some (r1, r2) := by first | (rw [hyqg]; with_reducible exact H) | (rw [hyqg]; exact H)
  have Nyqg := aQ hyqg; clear hyqg; have H' := aQ H; clear H; go_wp2_with (first | (refine gt 91 ?_; refine gc (some 23) func91 (ao.n0 gqb tq1 x38005001_1 x38005002_1 10 tq0 tqe tqf w _ (pi_ HIqb) (pbI HB) A11.out) ?_; rintro e w13 ⟨rfl, hi, hb, hk⟩; refine ⟨_, rfl, ?_⟩; replace HO_6 := aQ (Kd.n5 (Kd.s6 (F4.apart (show F4 w _ gqb tq1 x38005001_1 x38005002_1 from pi_ HIqb) (ac HO_6) (by decide)) hk (fun _ h => h.2)) (fun _ h => h.1)); replace HB := aQ (hb); replace HIqb := aQ (hi); (try clear hb); (try clear hk); (try clear hi)) | ((with_reducible refine gate_builtin (b := .append) (xs := #[.tmp 21, .tmp 25]) rfl ?_); at_builtin; refine Kd.y6 (Kd.int .i64) (w0 := w) w.heap.size rfl (.tmp 21) (.tmp 25) 22 3 (.int .i64 0) 8 rfl underlying22 ck rfl (by decide) (by omega) u6 x6_1 (wrap64 (tq0 - 1)) [.int .i64 (wrap64 (tq0 - 1))] (fun _ => True) (fun _ => False) rfl rfl ?aP (fun _ hk => hk.elim) ?aF ?aO ?aB ?aS ?aL ?_; (case aP => exact rfl); (case aB => exact (pbI HB)); (case aF => exact (fun _ _ => trivial)); (case aO => exact (ac HO_6)); (case aS => exact (ag (pbI HB))); (case aL => have := LMc12.out; omega); intro vqh w14 ho hb hg hat; rw [← Nyqg.out] at ho; replace HIqb := aQ (F4.grown (pi_ HIqb) hg (F4.y7 HIqb.out HO_6.out (by decide))); replace HB := aQ (hb); have HOqi := aQ (ho); clear HO_6; clear ho hb hg hat))
  go_roundg k1
  case measure => exact omeg HK1
  case rel => exact ⟨(yqg), (wrap64 (x8_1 + 1)), (tqe), (tqf), rs_, H', ⟨omeg HK1⟩, ⟨ac HOqi⟩, ⟨pi_ HIqb⟩, ⟨pbI HB⟩⟩
 ·obtain ⟨rfl, rfl⟩ := o2 H; go_wp2
  go_ret2
  exact ⟨_, re_, by refine pRx ?_; exact HO_6.out, pbI HB⟩
def laws_sameInts.l0 : Nat → List Int → List Int → Int → Option (Bool)
 | 0, _, _, _ => none
 | k + 1, x0, x1, x5 => if x5 < (x0.length : Int) then (if 0 ≤ x5 then (if x5 < (x1.length : Int) then (if (rd x0 x5) = (rd x1 x5) then (laws_sameInts.l0 k x0 x1 (wrap64 (x5 + 1))) else (some false)) else (none)) else (none)) else (some true)
def laws_sameInts.f (k : Nat) (l0 : List Int) (l1 : List Int) : Option (Bool) := if (l0.length : Int) = (l1.length : Int) then (laws_sameInts.l0 k l0 l1 0) else (some false)
theorem laws_sameInts.n0 (k : Nat) (A0 : Option Addr) (c0 : Nat) (l0 : List Int) (A1 : Option Addr) (c1 : Nat) (l1 : List Int) (r : Bool) (w : World) (hr0 : Kd.C (Kd.int .i64) w A0 l0.length l0) (hc0 : l0.length ≤ c0) (hr1 : Kd.C (Kd.int .i64) w A1 l1.length l1) (hc1 : l1.length ≤ c1) (h : laws_sameInts.f k l0 l1 = some r) :
  CD Try.prog 38 #[.slice A0 l0.length c0, .slice A1 l1.length c1] w (.bool r) := by
 have HR0 := aQ hr0; have HC0 := aQ hc0; clear hr0 hc0; have HR1 := aQ hr1; have HC1 := aQ hc1; clear hr1 hc1; have H := h; clear h; unfold laws_sameInts.f at H; (try dsimp only at H); by_cases c3 : (l0.length : Int) = (l1.length : Int)
 ·rw [if_pos c3] at H; obtain ⟨c3b0, c3b1⟩ := eqT c3; have c3b2 : (l0.length == l1.length) = true := by first | simpa using c3 | (simp at c3 ⊢; omega)
  clear c3; have H' := aQ H; clear H; go_enter func38, ntmps38; go_wp2
  repeat (go_quiet (fail); try go_wp2)
  go_loopg [5] k (fun kq v5 w' => ∃ (x5_1 : Int), v5 = .int .i64 x5_1 ∧ Aside0 (laws_sameInts.l0 kq l0 l1 x5_1 = some r) ∧ Aside0 (kq ≤ k) ∧ Drawn0 w w')
  case atStart => exact ⟨(0), rs_, H', ⟨Nat.le_refl _⟩, rd_⟩
  clear H'; try clear c1
  try clear c3
  try clear c3b0
  try clear c3b1
  try clear c3b2
  obtain ⟨x5_1, rfl, HA, HK1, ⟨m1, rfl⟩⟩ := hrel; rcases gk with _ | k1
  ·exact absurd HA.out (by simp [laws_sameInts.l0])
  have H := HA.out; clear HA; simp only [laws_sameInts.l0] at H; replace H := ckD H; obtain ⟨c4b0, H⟩ | ⟨c4b0, H⟩ := H
  ·replace H := gdD H; obtain ⟨c5b0, H⟩ := H; replace H := gdD H; obtain ⟨c6b0, H⟩ := H; replace H := ckE H; obtain ⟨c7b0, c7b1, H⟩ | ⟨c7, c7b0, c7b1, H⟩ := H
   ·have H' := aQ H; clear H; have pq0 : 0 ≤ (x5_1 : Int) := of_decide_eq_true as_; have qq0 : x5_1 < (l0.length : Int) := of_decide_eq_true as_; obtain ⟨adq0, eq0, hxq0_0⟩ := Kd.o0 HR0.out x5_1 pq0 qq0; cases eq0; replace pq0 := eq_true pq0; replace qq0 := eq_true qq0; have pq1 : 0 ≤ (x5_1 : Int) := of_decide_eq_true as_; have qq1 : x5_1 < (l1.length : Int) := of_decide_eq_true as_; obtain ⟨adq1, eq1, hxq1_0⟩ := Kd.o0 HR1.out x5_1 pq1 qq1; cases eq1; replace pq1 := eq_true pq1; replace qq1 := eq_true qq1; go_wp2
    repeat (go_quiet (fail); try go_wp2)
    go_roundg k1
    case measure => exact omeg HK1
    case rel => exact ⟨(wrap64 (x5_1 + 1)), rs_, H', ⟨omeg HK1⟩, rd_⟩
   ·obtain rfl := oj H; have pq0 : 0 ≤ (x5_1 : Int) := of_decide_eq_true as_; have qq0 : x5_1 < (l0.length : Int) := of_decide_eq_true as_; obtain ⟨adq0, eq0, hxq0_0⟩ := Kd.o0 HR0.out x5_1 pq0 qq0; cases eq0; replace pq0 := eq_true pq0; replace qq0 := eq_true qq0; have pq1 : 0 ≤ (x5_1 : Int) := of_decide_eq_true as_; have qq1 : x5_1 < (l1.length : Int) := of_decide_eq_true as_; obtain ⟨adq1, eq1, hxq1_0⟩ := Kd.o0 HR1.out x5_1 pq1 qq1; cases eq1; replace pq1 := eq_true pq1; replace qq1 := eq_true qq1; go_wp2
    repeat (go_quiet (fail); try go_wp2)
    go_ret
    exact ⟨rs_, rd_⟩
  ·obtain rfl := oj H; go_wp2
   repeat (go_quiet (fail); try go_wp2)
   go_ret
   exact ⟨rs_, rd_⟩
 ·rw [if_neg c3] at H; obtain ⟨c3b0, c3b1⟩ := eqF c3; have c3b2 : (l0.length == l1.length) = false := by first | simpa using c3 | (simp at c3 ⊢; omega)
  obtain rfl := oj H; go_enter func38, ntmps38; go_wp2
  repeat (go_quiet (fail); try go_wp2)
  go_ret
  exact ⟨rs_, rd_⟩
def bD.l0 : Nat → Int → Int → Int → List Int → Int → Int → Option (Int)
 | 0, _, _, _, _, _, _ => none
 | k + 1, x0, x5, x6, x10, x11, x12 => if x12 < x11 then (if 0 ≤ x12 then (if x12 < (x10.length : Int) then ((bW.f x0).bind fun tq0 => (if tq0 = true then (if (rd x10 x12) < 0 then (some x0) else (if (rd x10 x12) ≥ 8 then (some x0) else ((aE.f x6 (rd x10 x12)).bind fun tq1 => (if tq1 = true then (some x0) else (if 0 ≤ (rd x10 x12) then (bD.l0 k x0 (Go.bits .xor .i64 x5 (shl .i64 1 (rd x10 x12))) (Go.bits .or .i64 x6 (shl .i64 1 (rd x10 x12))) x10 x11 (wrap64 (x12 + 1))) else (none)))))) else (some x0))) else (none)) else (none)) else (some x5)
def bD.f (k : Nat) (a0 : Int) (l1 : List Int) : Option (Int) := bD.l0 k a0 a0 0 l1 (l1.length : Int) 0
theorem bD.n0 (k : Nat) (a0 : Int) (A1 : Option Addr) (c1 : Nat) (l1 : List Int) (r : Int) (w : World) (hr1 : Kd.C (Kd.int .i64) w A1 l1.length l1) (hc1 : l1.length ≤ c1) (h : bD.f k a0 l1 = some r) :
  CD Try.prog 39 #[.int .i64 a0, .slice A1 l1.length c1] w (.int .i64 r) := by
 have HR1 := aQ hr1; have HC1 := aQ hc1; clear hr1 hc1; have H : (bD.l0 k a0 a0 0 l1 (l1.length : Int) 0) = some r := h; clear h; have H' := aQ H; clear H; go_enter func39, ntmps39; go_wp2
 go_loopg [5, 6, 12] k (fun kq v5 v6 v12 w' => ∃ (x5_1 : Int) (x6_1 : Int) (x12_1 : Int), v5 = .int .i64 x5_1 ∧ v6 = .int .i64 x6_1 ∧ v12 = .int .i64 x12_1 ∧ Aside0 (bD.l0 kq a0 x5_1 x6_1 l1 (l1.length : Int) x12_1 = some r) ∧ Aside0 (kq ≤ k) ∧ Drawn0 w w')
 case atStart => exact ⟨(a0), (0), (0), rs_, rs_, rs_, H', ⟨Nat.le_refl _⟩, rd_⟩
 clear H'; try clear c1
 obtain ⟨x5_1, x6_1, x12_1, rfl, rfl, rfl, HA, HK1, ⟨m1, rfl⟩⟩ := hrel; rcases gk with _ | k1
 ·exact absurd HA.out (by simp [bD.l0])
 have H := HA.out; clear HA; simp only [bD.l0] at H; replace H := ckD H; obtain ⟨c3b0, H⟩ | ⟨c3b0, H⟩ := H
 ·replace H := gdD H; obtain ⟨c4b0, H⟩ := H; replace H := gdD H; obtain ⟨c5b0, H⟩ := H; replace H := bo H; obtain ⟨tq0, A6, H⟩ := H; replace H := ckB H; obtain ⟨rfl, H⟩ | ⟨rfl, H⟩ := H
  ·replace H := ckD H; obtain ⟨c8b0, H⟩ | ⟨c8b0, H⟩ := H
   ·obtain rfl := oj H; have pq2 : 0 ≤ (x12_1 : Int) := of_decide_eq_true as_; have qq2 : x12_1 < (l1.length : Int) := of_decide_eq_true as_; obtain ⟨adq2, eq2, hxq2_0⟩ := Kd.o0 HR1.out x12_1 pq2 qq2; cases eq2; replace pq2 := eq_true pq2; replace qq2 := eq_true qq2; go_wp2_with (first | (refine gt 97 ?_; refine gcD (some 17) func97 (bW.n0 a0 true _ A6.out) ?_; intro nd))
    go_ret
    exact ⟨rs_, rd_⟩
   ·replace H := ckD H; obtain ⟨c9b0, H⟩ | ⟨c9b0, H⟩ := H
    ·obtain rfl := oj H; have pq2 : 0 ≤ (x12_1 : Int) := of_decide_eq_true as_; have qq2 : x12_1 < (l1.length : Int) := of_decide_eq_true as_; obtain ⟨adq2, eq2, hxq2_0⟩ := Kd.o0 HR1.out x12_1 pq2 qq2; cases eq2; replace pq2 := eq_true pq2; replace qq2 := eq_true qq2; go_wp2_with (first | (refine gt 97 ?_; refine gcD (some 17) func97 (bW.n0 a0 true _ A6.out) ?_; intro nd))
     go_ret
     exact ⟨rs_, rd_⟩
    ·replace H := bo H; obtain ⟨tq1, A10, H⟩ := H; replace H := ckB H; obtain ⟨rfl, H⟩ | ⟨rfl, H⟩ := H
     ·obtain rfl := oj H; have pq2 : 0 ≤ (x12_1 : Int) := of_decide_eq_true as_; have qq2 : x12_1 < (l1.length : Int) := of_decide_eq_true as_; obtain ⟨adq2, eq2, hxq2_0⟩ := Kd.o0 HR1.out x12_1 pq2 qq2; cases eq2; replace pq2 := eq_true pq2; replace qq2 := eq_true qq2; go_wp2_with (first | (refine gt 97 ?_; refine gcD (some 17) func97 (bW.n0 a0 true _ A6.out) ?_; intro nd) | (go_at_call 92; (with_reducible refine (aE.n0 x6_1 (rd l1 x12_1) true _ A10.out).mono ?_); rintro e w' ⟨rfl, ⟨nd, rfl⟩⟩))
      go_ret
      exact ⟨rs_, rd_⟩
     ·replace H := gdB H; obtain ⟨c12b0, c12b1, H⟩ := H; obtain ⟨ji13, hji13⟩ : ∃ j_ : Int, (shl .i64 1 (rd l1 x12_1)) = j_ := ⟨_, rfl⟩; (first | rw [hji13] at H | simp only [hji13] at H); (try rw [hji13] at A6); (try rw [hji13] at A10); have hji13_ : (IntKind.i64.wrap (1 * 2 ^ min (rd l1 x12_1).toNat 64)) = ji13 := hji13; have hji13z : (rd l1 x12_1) ≤ 64 → (IntKind.i64.wrap (1 * 2 ^ (rd l1 x12_1).toNat)) = ji13 := ce hji13; have hji13u : (IntKind.i64.wrap (2 ^ min (rd l1 x12_1).toNat 64)) = ji13 := by have h_ := hji13_; rw [Int.one_mul] at h_; exact h_
      have hji13v : (rd l1 x12_1) ≤ 64 → (IntKind.i64.wrap (2 ^ (rd l1 x12_1).toNat)) = ji13 := fun hle_ => by have h_ := hji13z hle_; rw [Int.one_mul] at h_; exact h_
      have hji13y : (wrap64 (1 * 2 ^ min (rd l1 x12_1).toNat 64)) = ji13 := (i64_w _).symm.trans hji13_; have hji13x : (rd l1 x12_1) ≤ 64 → (wrap64 (1 * 2 ^ (rd l1 x12_1).toNat)) = ji13 := fun h_ => (i64_w _).symm.trans (hji13z h_)
      have c14b0 := eq_true (of_decide_eq_true as_ : 0 ≤ (rd l1 x12_1)); have H' := aQ H; clear H; have pq2 : 0 ≤ (x12_1 : Int) := of_decide_eq_true as_; have qq2 : x12_1 < (l1.length : Int) := of_decide_eq_true as_; obtain ⟨adq2, eq2, hxq2_0⟩ := Kd.o0 HR1.out x12_1 pq2 qq2; cases eq2; replace pq2 := eq_true pq2; replace qq2 := eq_true qq2; go_wp2_with (first | (refine gt 97 ?_; refine gcD (some 17) func97 (bW.n0 a0 true _ A6.out) ?_; intro nd) | (go_at_call 92; (with_reducible refine (aE.n0 x6_1 (rd l1 x12_1) false _ A10.out).mono ?_); rintro e w' ⟨rfl, ⟨nd, rfl⟩⟩))
      go_roundg k1
      case measure => exact omeg HK1
      case rel => exact ⟨(Go.bits .xor .i64 x5_1 (ji13)), (Go.bits .or .i64 x6_1 (ji13)), (wrap64 (x12_1 + 1)), (by first | rfl | (simp; done) | (simp only [← hji13] <;> (first | rfl | simp)) | (simp [*]; done)), (by first | rfl | (simp; done) | (simp only [← hji13] <;> (first | rfl | simp)) | (simp [*]; done)), rs_, H', ⟨omeg HK1⟩, rd_⟩
  ·obtain rfl := oj H; have pq2 : 0 ≤ (x12_1 : Int) := of_decide_eq_true as_; have qq2 : x12_1 < (l1.length : Int) := of_decide_eq_true as_; obtain ⟨adq2, eq2, hxq2_0⟩ := Kd.o0 HR1.out x12_1 pq2 qq2; cases eq2; replace pq2 := eq_true pq2; replace qq2 := eq_true qq2; go_wp2_with (first | (refine gt 97 ?_; refine gcD (some 17) func97 (bW.n0 a0 false _ A6.out) ?_; intro nd))
   go_ret
   exact ⟨rs_, rd_⟩
 ·obtain rfl := oj H; go_wp2
  go_ret
  exact ⟨rs_, rd_⟩
def bT.l0 : Nat → Int → List Int → Int → Int → Option (Int)
 | 0, _, _, _, _ => none
 | k + 1, x0, x1, x5, x6 => if x6 < (x1.length : Int) then (if 0 ≤ x6 then ((bv.f (rd x1 x6) 0 7).bind fun tq0 => (if tq0 = true then ((az.f x5 (rd x1 x6)).bind fun tq1 => (if tq1 = true then (some x0) else (if 0 ≤ (IntKind.u64.wrap (rd x1 x6)) then (bT.l0 k x0 x1 (Go.bits .or .i64 x5 (shl .i64 1 (IntKind.u64.wrap (rd x1 x6)))) (wrap64 (x6 + 1))) else (none)))) else (some x0))) else (none)) else ((aY.f 8 x0).bind fun tq2 => (if tq2 = true then (some (Go.bits .xor .i64 x0 x5)) else (some x0)))
def bT.f (k : Nat) (a0 : Int) (l1 : List Int) : Option (Int) := bT.l0 k a0 l1 0 0
theorem bT.n0 (k : Nat) (a0 : Int) (A1 : Option Addr) (c1 : Nat) (l1 : List Int) (r : Int) (w : World) (hr1 : Kd.C (Kd.int .i64) w A1 l1.length l1) (hc1 : l1.length ≤ c1) (h : bT.f k a0 l1 = some r) :
  CD Try.prog 40 #[.int .i64 a0, .slice A1 l1.length c1] w (.int .i64 r) := by
 have HR1 := aQ hr1; have HC1 := aQ hc1; clear hr1 hc1; have H : (bT.l0 k a0 l1 0 0) = some r := h; clear h; have H' := aQ H; clear H; go_enter func40, ntmps40; go_wp2
 go_loopg [5, 6] k (fun kq v5 v6 w' => ∃ (x5_1 : Int) (x6_1 : Int), v5 = .int .i64 x5_1 ∧ v6 = .int .i64 x6_1 ∧ Aside0 (bT.l0 kq a0 l1 x5_1 x6_1 = some r) ∧ Aside0 (kq ≤ k) ∧ Drawn0 w w')
 case atStart => exact ⟨(0), (0), rs_, rs_, H', ⟨Nat.le_refl _⟩, rd_⟩
 clear H'; try clear c1
 obtain ⟨x5_1, x6_1, rfl, rfl, HA, HK1, ⟨m1, rfl⟩⟩ := hrel; rcases gk with _ | k1
 ·exact absurd HA.out (by simp [bT.l0])
 have H := HA.out; clear HA; simp only [bT.l0] at H; replace H := ckD H; obtain ⟨c3b0, H⟩ | ⟨c3b0, H⟩ := H
 ·replace H := gdD H; obtain ⟨c4b0, H⟩ := H; replace H := bo H; obtain ⟨tq0, A5, H⟩ := H; replace H := ckB H; obtain ⟨rfl, H⟩ | ⟨rfl, H⟩ := H
  ·replace H := bo H; obtain ⟨tq1, A7, H⟩ := H; replace H := ckB H; obtain ⟨rfl, H⟩ | ⟨rfl, H⟩ := H
   ·obtain rfl := oj H; have pq3 : 0 ≤ (x6_1 : Int) := of_decide_eq_true as_; have qq3 : x6_1 < (l1.length : Int) := of_decide_eq_true as_; obtain ⟨adq3, eq3, hxq3_0⟩ := Kd.o0 HR1.out x6_1 pq3 qq3; cases eq3; replace pq3 := eq_true pq3; replace qq3 := eq_true qq3; go_wp2_with (first | (refine gt 98 ?_; refine gcD (some 17) func98 (bv.n0 (rd l1 x6_1) 0 7 true _ A5.out) ?_; intro nd; obtain ⟨adq4, eq4, hxq4_0, pq4, qq4⟩ := aI HR1.out x6_1; obtain rfl : adq3 = adq4 := (by injection eq4)) | (go_at_call 69; (with_reducible refine (az.n0 x5_1 (rd l1 x6_1) true _ A7.out).mono ?_); rintro e w' ⟨rfl, ⟨nd, rfl⟩⟩))
    go_ret
    exact ⟨rs_, rd_⟩
   ·obtain ⟨ji9, hji9⟩ : ∃ j_ : Int, (IntKind.u64.wrap (rd l1 x6_1)) = j_ := ⟨_, rfl⟩; (first | rw [hji9] at H | simp only [hji9] at H); (try rw [hji9] at A5); (try rw [hji9] at A7); replace H := gdB H; obtain ⟨c10b0, c10b1, H⟩ := H; obtain ⟨ji11, hji11⟩ : ∃ j_ : Int, (shl .i64 1 (ji9)) = j_ := ⟨_, rfl⟩; (first | rw [hji11] at H | simp only [hji11] at H); (try rw [hji11] at A5); (try rw [hji11] at A7); have hji11_ : (IntKind.i64.wrap (1 * 2 ^ min (ji9).toNat 64)) = ji11 := hji11; have hji11z : (ji9) ≤ 64 → (IntKind.i64.wrap (1 * 2 ^ (ji9).toNat)) = ji11 := ce hji11; have hji11u : (IntKind.i64.wrap (2 ^ min (ji9).toNat 64)) = ji11 := by have h_ := hji11_; rw [Int.one_mul] at h_; exact h_
    have hji11v : (ji9) ≤ 64 → (IntKind.i64.wrap (2 ^ (ji9).toNat)) = ji11 := fun hle_ => by have h_ := hji11z hle_; rw [Int.one_mul] at h_; exact h_
    have hji11y : (wrap64 (1 * 2 ^ min (ji9).toNat 64)) = ji11 := (i64_w _).symm.trans hji11_; have hji11x : (ji9) ≤ 64 → (wrap64 (1 * 2 ^ (ji9).toNat)) = ji11 := fun h_ => (i64_w _).symm.trans (hji11z h_)
    have H' := aQ H; clear H; have pq3 : 0 ≤ (x6_1 : Int) := of_decide_eq_true as_; have qq3 : x6_1 < (l1.length : Int) := of_decide_eq_true as_; obtain ⟨adq3, eq3, hxq3_0⟩ := Kd.o0 HR1.out x6_1 pq3 qq3; cases eq3; replace pq3 := eq_true pq3; replace qq3 := eq_true qq3; go_wp2_with (first | (refine gt 98 ?_; refine gcD (some 17) func98 (bv.n0 (rd l1 x6_1) 0 7 true _ A5.out) ?_; intro nd; obtain ⟨adq4, eq4, hxq4_0, pq4, qq4⟩ := aI HR1.out x6_1; obtain rfl : adq3 = adq4 := (by injection eq4)) | (go_at_call 69; (with_reducible refine (az.n0 x5_1 (rd l1 x6_1) false _ A7.out).mono ?_); rintro e w' ⟨rfl, ⟨nd, rfl⟩⟩; obtain ⟨adq5, eq5, hxq5_0, pq5, qq5⟩ := aI HR1.out x6_1; obtain rfl : adq3 = adq5 := (by injection eq5)))
    go_roundg k1
    case measure => exact omeg HK1
    case rel => exact ⟨(Go.bits .or .i64 x5_1 (ji11)), (wrap64 (x6_1 + 1)), (by first | rfl | (simp; done) | (simp only [← hji11] <;> (first | rfl | simp)) | (simp [*]; done)), rs_, H', ⟨omeg HK1⟩, rd_⟩
  ·obtain rfl := oj H; have pq3 : 0 ≤ (x6_1 : Int) := of_decide_eq_true as_; have qq3 : x6_1 < (l1.length : Int) := of_decide_eq_true as_; obtain ⟨adq3, eq3, hxq3_0⟩ := Kd.o0 HR1.out x6_1 pq3 qq3; cases eq3; replace pq3 := eq_true pq3; replace qq3 := eq_true qq3; go_wp2_with (first | (refine gt 98 ?_; refine gcD (some 17) func98 (bv.n0 (rd l1 x6_1) 0 7 false _ A5.out) ?_; intro nd))
   go_ret
   exact ⟨rs_, rd_⟩
 ·replace H := bo H; obtain ⟨tq2, A12, H⟩ := H; replace H := ckB H; obtain ⟨rfl, H⟩ | ⟨rfl, H⟩ := H
  ·obtain rfl := oj H; go_wp2_with (first | (refine gt 55 ?_; refine gcD (some 37) func55 (aY.n0 8 a0 true _ A12.out) ?_; intro nd))
   go_ret
   exact ⟨rs_, rd_⟩
  ·obtain rfl := oj H; go_wp2_with (first | (refine gt 55 ?_; refine gcD (some 37) func55 (aY.n0 8 a0 false _ A12.out) ?_; intro nd))
   go_ret
   exact ⟨rs_, rd_⟩
def laws_FnAugmented.j0 : Nat → Int → List Int → Bool → Bool → Int → List Int → Int → List Int → Option (Bool)
 | 0, _, _, _, _, _, _, _, _ => none
 | k + 1, x5, x6, x7, x59, x7012000, x7012001, x7013000, x7013001 => if x59 = true then (some false) else ((bO.f k x7012000 x7012001 x7013000 x7013001 x5).bind fun tq0 => (if tq0 = true then (if x7 = true then ((bD.f k x5 x6).bind fun tq1 => ((bO.f k x7012000 x7012001 x7013000 x7013001 tq1).bind fun tq2 => (if tq2 = true then ((aN.f k tq1).bind fun tq3 => ((aN.f k x5).bind fun tq4 => (some (tq3 == (wrap64 (tq4 + 1)))))) else (some false)))) else ((ba.f k x7012000 x7012001 x7013000 x7013001).bind fun btq5 => ((aN.f k btq5.1).bind fun tq6 => ((aN.f k x5).bind fun tq7 => (some (tq6 == tq7)))))) else (some (!x7))))
def laws_FnAugmented.f (k : Nat) (l0 : List Int) : Option (Bool) := (laws_big.f l0).bind fun tq8 => (if tq8 = true then (some true) else ((a6.f k l0).bind fun btq9 => ((aa.f k btq9.1 btq9.2.1 btq9.2.2.1 btq9.2.2.2.1 btq9.2.2.2.2).bind fun btqa => ((ab.f k btq9.1 btq9.2.1 btq9.2.2.1 btq9.2.2.2.1 btq9.2.2.2.2).bind fun btqb => ((bm.f k l0).bind fun btqc => (if (btqa.2 != btqb.2) = true then (laws_FnAugmented.j0 k btq9.2.2.2.2 btqa.1 btqa.2 true btq9.1 btq9.2.1 btq9.2.2.1 btq9.2.2.2.1) else ((laws_sameInts.f k btqa.1 btqb.1).bind fun tqd => (if tqd = true then ((bD.f k btqc.1 btqc.2).bind fun tqe => ((bT.f k btqc.1 btqc.2).bind fun tqf => (laws_FnAugmented.j0 k btq9.2.2.2.2 btqa.1 btqa.2 (tqe != tqf) btq9.1 btq9.2.1 btq9.2.2.1 btq9.2.2.2.1))) else (laws_FnAugmented.j0 k btq9.2.2.2.2 btqa.1 btqa.2 true btq9.1 btq9.2.1 btq9.2.2.1 btq9.2.2.2.1)))))))))
theorem laws_FnAugmented.n0 (k : Nat) (A0 : Option Addr) (c0 : Nat) (l0 : List Int) (r : Bool) (w : World) (hr0 : Kd.C (Kd.int .u8) w A0 l0.length l0) (hc0 : l0.length ≤ c0) (h : laws_FnAugmented.f k l0 = some r) :
  CB Try.prog 6 #[.slice A0 l0.length c0] w (.bool r) := by
 have hu28 := underlying28; have HR0 := aQ hr0; have HC0 := aQ hc0; clear hr0 hc0; have HB := aQ (Below.refl w.heap.size w); have H := h; clear h; unfold laws_FnAugmented.f at H; (try dsimp only at H); replace H := bo H; obtain ⟨tq8, A2, H⟩ := H; replace H := ckB H; obtain ⟨rfl, H⟩ | ⟨rfl, H⟩ := H
 ·obtain rfl := oj H; go_enter func6, ntmps6; go_wp2_with (first | ((with_reducible refine bM (f := 22) rfl ?_); refine gl (some 16) func22 #[.slice A0 l0.length c0] ?_; (with_reducible refine (laws_big.n0 _ _ l0 true _ ?side1 ?side2 A2.out).mono ?_); (case side1 => exact pC HR0.out); (case side2 => exact HC0.out); rintro e w' ⟨rfl, ⟨nd, rfl⟩⟩; refine ⟨_, rfl, ?_⟩))
  go_ret
  exact ⟨re_, am HB⟩
 ·replace H := bo H; obtain ⟨⟨tq9, tqg, tqh, tqi, tqj⟩, A4, H⟩ := H; (try dsimp only at H); replace H := bo H; obtain ⟨⟨tqa, tqk⟩, A5, H⟩ := H; (try dsimp only at H); replace H := bo H; obtain ⟨⟨tqb, tql⟩, A6, H⟩ := H; (try dsimp only at H); replace H := bo H; obtain ⟨⟨tqc, tqm⟩, A7, H⟩ := H; (try dsimp only at H); have HC8 := aQ H; clear H; go_enter func6, ntmps6; go_upto_region 7 with (first | ((with_reducible refine bM (f := 22) rfl ?_); refine gl (some 16) func22 #[.slice A0 l0.length c0] ?_; (with_reducible refine (laws_big.n0 _ _ l0 false _ ?side1 ?side2 A2.out).mono ?_); (case side1 => exact pC HR0.out); (case side2 => exact HC0.out); rintro e w' ⟨rfl, ⟨nd, rfl⟩⟩; refine ⟨_, rfl, ?_⟩) | ((with_reducible refine bM (f := 34) rfl ?_); refine gl (some 19) func34 #[.slice A0 l0.length c0] ?_; (with_reducible refine (a6.n0 k _ _ l0 tq9 tqg tqh tqi tqj _ ?side1 ?side2 A4.out).mono ?_); (case side1 => exact pC HR0.out); (case side2 => exact HC0.out); rintro e w9 ⟨vqn, vqo, rfl, ho0, ho1, hb⟩; refine ⟨_, rfl, ?_⟩; obtain ⟨Ao14, co14, rfl, HOqp⟩ := rwe ho0; obtain ⟨Ao16, co16, rfl, HOqq⟩ := rwe ho1; replace HB := bs HB hb; (try clear hb); have D1 := bz w9) | ((with_reducible refine gate_dst (N := 3) rfl ?_); refine bx 3 #[.int .i64 0, .slice none 0 0] 28 ?_; intro gbqr hg w10 hbox hb; have BKqr := aQ (hbox); have GEqr := gB HB hg; have GEqr_D1 := gB D1 hg; replace HB := bs HB hb; replace D1 := bs D1 hb; clear hb hbox hg) | ((with_reducible refine gate_dst (N := 4) rfl ?_); refine bx 4 #[.int .i64 0, .slice none 0 0] 28 ?_; intro gbqs hg w11 hbox hb; have BKqs := aQ (hbox); have GEqs := gB HB hg; have GEqs_D1 := gB D1 hg; replace HB := bs HB hb; replace D1 := bs D1 hb; have NBqr_qs := nl BKqr hg; have NBqs_qr := ng BKqr hg; replace BKqr := bb BKqr hb; clear hb hbox hg; have := NBqr_qs.out; have := NBqs_qr.out; obtain ⟨hcz13_0, hcz13_1, hfz13_0, hfz13_1⟩ := cz2 BKqr; obtain ⟨hcz15_0, hcz15_1, hfz15_0, hfz15_1⟩ := cz2 BKqs) | ((with_reducible refine bM (f := 35) rfl ?_); refine gl (some 27) func35 #[.agg #[.int .i64 tq9, .slice Ao14 tqg.length co14], .agg #[.int .i64 tqh, .slice Ao16 tqi.length co16], .int .i64 tqj] ?_; (with_reducible refine (aa.n0 k tq9 _ _ tqg tqh _ _ tqi tqj tqa tqk _ ?side1 ?side2 ?side3 ?side4 A5.out).mono ?_); (case side1 => exact rC HOqp); (case side2 => exact HOqp.out.1); (case side3 => exact rC HOqq); (case side4 => exact HOqq.out.1); rintro e w17 ⟨vqt, rfl, ho0, hb⟩; refine ⟨_, rfl, ?_⟩; obtain ⟨Ao27, co27, rfl, HOqu⟩ := rwe ho0; replace BKqr := aQ (bV (g := gbqr) (o := .cells #[.int .i64 tq9, .slice Ao14 tqg.length co14] 28 (0, 0)) (by refine pkx ?_; refine bg ?_ NBqr_qs.out _; refine pkx ?_; refine bg ?_ NBqr_qs.out _; refine pkx ?_; refine al (cs := #[.int .i64 tq9, .slice none 0 0]) ?_ 1 _ rfl; refine pkx ?_; refine al (cs := #[.int .i64 0, .slice none 0 0]) ?_ 0 _ rfl; refine pkx ?_; exact BKqr.out) hb); replace BKqs := aQ (bV (g := gbqs) (o := .cells #[.int .i64 tqh, .slice Ao16 tqi.length co16] 28 (0, 0)) (by refine pkx ?_; refine al (cs := #[.int .i64 tqh, .slice none 0 0]) ?_ 1 _ rfl; refine pkx ?_; refine al (cs := #[.int .i64 0, .slice none 0 0]) ?_ 0 _ rfl; refine pkx ?_; refine bg ?_ NBqs_qr.out _; refine pkx ?_; refine bg ?_ NBqs_qr.out _; refine pkx ?_; exact BKqs.out) hb); replace HB := bs HB hb; replace D1 := bs D1 hb; (try clear hb); (try clear hk); obtain ⟨hcz18_0, hcz18_1, hfz18_0, hfz18_1⟩ := cz2 BKqr; obtain ⟨hcz19_0, hcz19_1, hfz19_0, hfz19_1⟩ := cz2 BKqs; have D2 := bz w17) | ((with_reducible refine bM (f := 36) rfl ?_); refine gl (some 34) func36 #[.agg #[.int .i64 tq9, .slice Ao14 tqg.length co14], .agg #[.int .i64 tqh, .slice Ao16 tqi.length co16], .int .i64 tqj] ?_; (with_reducible refine (ab.n0 k tq9 _ _ tqg tqh _ _ tqi tqj tqb tql _ ?side1 ?side2 ?side3 ?side4 A6.out).mono ?_); (case side1 => exact rC HOqp); (case side2 => exact HOqp.out.1); (case side3 => exact rC HOqq); (case side4 => exact HOqq.out.1); rintro e w20 ⟨vqv, rfl, ho0, hb⟩; refine ⟨_, rfl, ?_⟩; obtain ⟨Ao28, co28, rfl, HOqw⟩ := rwe ho0; replace BKqr := bb BKqr hb; replace BKqs := bb BKqs hb; replace HB := bs HB hb; replace D1 := bs D1 hb; replace D2 := bs D2 hb; (try clear hb); have D3 := bz w20) | ((with_reducible refine bM (f := 37) rfl ?_); refine gl (some 39) func37 #[.slice A0 l0.length c0] ?_; (with_reducible refine (bm.n0 k _ _ l0 tqc tqm _ ?side1 ?side2 A7.out).mono ?_); (case side1 => exact pC (Cbel HR0 HB)); (case side2 => exact HC0.out); rintro e w21 ⟨vqx, rfl, ho0, hb⟩; refine ⟨_, rfl, ?_⟩; obtain ⟨Ao29, co29, rfl, HOqy⟩ := rwe ho0; replace BKqr := bb BKqr hb; replace BKqs := bb BKqs hb; replace HB := bs HB hb; replace D1 := bs D1 hb; replace D2 := bs D2 hb; replace D3 := bs D3 hb; (try clear hb); have D4 := bz w21))
  (try simp only [Act.put, List.setIfInBounds_toArray, List.set_cons_zero, List.set_cons_succ]); go_cut [59] (fun v59 wc => ∃ (kq : Nat) (x59_7 : Bool), v59 = .bool x59_7 ∧ Aside0 (laws_FnAugmented.j0 kq tqj tqa tqk x59_7 tq9 tqg tqh tqi = some r) ∧ Aside0 (kq ≤ k) ∧ Aside0 (wc.heap[gbqr]? = some (.cells #[.int .i64 tq9, (.slice Ao14 tqg.length co14)] 28 (0, 0))) ∧ Aside0 (wc.heap[gbqs]? = some (.cells #[.int .i64 tqh, (.slice Ao16 tqi.length co16)] 28 (0, 0))) ∧ Aside0 (Below w9.heap.size w9 wc) ∧ Aside0 (Below w17.heap.size w17 wc) ∧ Aside0 (Below w20.heap.size w20 wc) ∧ Aside0 (Below w21.heap.size w21 wc) ∧ Aside0 (Below w.heap.size w wc))
  case first =>
   as_aux_lemma =>
   have H := HC8.out; clear HC8; by_cases c22 : (tqk != tql) = true
   ·rw [if_pos c22] at H; have c22b0 : (tqk != tql) = true := c22; (try (have c22b1 : decide (tqk = tql) = false := by simpa using c22)); (try (have c22b2 : (tqk == tql) = false := by simpa using c22)); (try (have c22b3 : ¬ (tqk = tql) := by simpa using c22)); clear c22; (first | rw [c22b0] | (simp only [i64_w, cD]; rw [c22b0]) | skip)
    as_aux_lemma =>
    have H' := aQ H; clear H; go_wp2
    go_meet
    case rel => exact ⟨_, (true), rs_, H', ⟨by first | omega | exact Nat.le_refl _⟩, ⟨aj BKqr⟩, ⟨aj BKqs⟩, ⟨pb D1⟩, ⟨pb D2⟩, ⟨pb D3⟩, ⟨pb D4⟩, ⟨ai HB GEqr GEqs⟩⟩
   ·rw [if_neg c22] at H; have c22b0 : (tqk != tql) = false := by simpa using c22
    (try (have c22b1 : decide (tqk = tql) = true := by simpa using c22)); (try (have c22b2 : (tqk == tql) = true := by simpa using c22))
    clear c22; (first | rw [c22b0] | (simp only [i64_w, cD]; rw [c22b0]) | skip); replace H := bo H; obtain ⟨tqd, A23, H⟩ := H; replace H := ckB H; obtain ⟨rfl, H⟩ | ⟨rfl, H⟩ := H
    ·replace H := bo H; obtain ⟨tqe, A25, H⟩ := H; replace H := bo H; obtain ⟨tqf, A26, H⟩ := H
     as_aux_lemma =>
     have H' := aQ H; clear H; go_wp2_with (first | (go_at_call 38; (with_reducible refine (laws_sameInts.n0 k _ _ tqa _ _ tqb true _ ?side1 ?side2 ?side3 ?side4 A23.out).mono ?_); (case side1 => exact rC HOqu); (case side2 => exact HOqu.out.1); (case side3 => exact rC HOqw); (case side4 => exact HOqw.out.1); rintro e w' ⟨rfl, ⟨nd, rfl⟩⟩) | (go_at_call 39; (with_reducible refine (bD.n0 k tqc _ _ tqm tqe _ ?side1 ?side2 A25.out).mono ?_); (case side1 => exact rC HOqy); (case side2 => exact HOqy.out.1); rintro e w' ⟨rfl, ⟨nd, rfl⟩⟩) | (go_at_call 40; (with_reducible refine (bT.n0 k tqc _ _ tqm tqf _ ?side1 ?side2 A26.out).mono ?_); (case side1 => exact rC HOqy); (case side2 => exact HOqy.out.1); rintro e w' ⟨rfl, ⟨nd, rfl⟩⟩))
     go_meet
     case rel => exact ⟨_, ((tqe != tqf)), rs_, H', ⟨by first | omega | exact Nat.le_refl _⟩, ⟨aj BKqr⟩, ⟨aj BKqs⟩, ⟨pb D1⟩, ⟨pb D2⟩, ⟨pb D3⟩, ⟨pb D4⟩, ⟨ai HB GEqr GEqs⟩⟩
    ·as_aux_lemma =>
     have H' := aQ H; clear H; go_wp2_with (first | (go_at_call 38; (with_reducible refine (laws_sameInts.n0 k _ _ tqa _ _ tqb false _ ?side1 ?side2 ?side3 ?side4 A23.out).mono ?_); (case side1 => exact rC HOqu); (case side2 => exact HOqu.out.1); (case side3 => exact rC HOqw); (case side4 => exact HOqw.out.1); rintro e w' ⟨rfl, ⟨nd, rfl⟩⟩))
     go_meet
     case rel => exact ⟨_, (true), rs_, H', ⟨by first | omega | exact Nat.le_refl _⟩, ⟨aj BKqr⟩, ⟨aj BKqs⟩, ⟨pb D1⟩, ⟨pb D2⟩, ⟨pb D3⟩, ⟨pb D4⟩, ⟨ai HB GEqr GEqs⟩⟩
  case rest =>
   as_aux_lemma =>
   clear HC8; try clear c3
   try clear hcz13_0
   try clear hcz13_1
   try clear hcz15_0
   try clear hcz15_1
   try clear hcz18_0
   try clear hcz18_1
   try clear hcz19_0
   try clear hcz19_1
   try clear hfz13_0
   try clear hfz13_1
   try clear hfz15_0
   try clear hfz15_1
   try clear hfz18_0
   try clear hfz18_1
   try clear hfz19_0
   try clear hfz19_1
   obtain ⟨kq, x59_7, rfl, HA, HJ7, BKqr, BKqs, D1, D2, D3, D4, HB⟩ := hcut
   as_aux_lemma =>
   cases kq with
   | zero => exact absurd HA.out (by simp [laws_FnAugmented.j0])
   | succ kj7 =>
    have H := HA.out; clear HA; simp only [laws_FnAugmented.j0] at H; replace H := ckB H; obtain ⟨rfl, H⟩ | ⟨rfl, H⟩ := H
    ·obtain rfl := oj H; go_wp2
     go_ret
     exact ⟨re_, ai HB GEqr GEqs⟩
    ·replace H := bo H; obtain ⟨tq0, A33, H⟩ := H; replace H := ckB H; obtain ⟨rfl, H⟩ | ⟨rfl, H⟩ := H
     ·replace H := ckB H; obtain ⟨rfl, H⟩ | ⟨rfl, H⟩ := H
      ·replace H := bo H; obtain ⟨tq1, A36, H⟩ := H; replace H := bo H; obtain ⟨tq2, A37, H⟩ := H; replace H := ckB H; obtain ⟨rfl, H⟩ | ⟨rfl, H⟩ := H
       ·replace H := bo H; obtain ⟨tq3, A39, H⟩ := H; replace H := bo H; obtain ⟨tq4, A40, H⟩ := H; obtain rfl := oj H; have := NBqr_qs.out; have := NBqs_qr.out; obtain ⟨_, _, _, _⟩ := cz2 BKqr; obtain ⟨_, _, _, _⟩ := cz2 BKqs; go_wp2_with (first | ((with_reducible refine bM (f := 32) rfl ?_); refine gl (some 63) func32 #[.agg #[.int .i64 tq9, .slice Ao14 tqg.length co14], .agg #[.int .i64 tqh, .slice Ao16 tqi.length co16], .int .i64 tqj] ?_; (with_reducible refine (bO.n0 kj7 tq9 _ _ tqg tqh _ _ tqi tqj true _ ?side1 ?side2 ?side3 ?side4 A33.out).mono ?_); (case side1 => exact rC HOqp); (case side2 => exact HOqp.out.1); (case side3 => exact rC HOqq); (case side4 => exact HOqq.out.1); rintro e w44 ⟨rfl, hb⟩; refine ⟨_, rfl, ?_⟩; replace BKqr := bb BKqr hb; replace BKqs := bb BKqs hb; replace HB := bs HB hb; replace D1 := bs D1 hb; replace D2 := bs D2 hb; replace D3 := bs D3 hb; replace D4 := bs D4 hb; (try clear hb)) | ((with_reducible refine bM (f := 39) rfl ?_); refine gl (some 82) func39 #[.int .i64 tqj, .slice Ao27 tqa.length co27] ?_; (with_reducible refine (bD.n0 kj7 tqj _ _ tqa tq1 _ ?side1 ?side2 A36.out).mono ?_); (case side1 => exact rC HOqu); (case side2 => exact HOqu.out.1); rintro e w' ⟨rfl, ⟨nd, rfl⟩⟩; refine ⟨_, rfl, ?_⟩; obtain ⟨_, _, _, _⟩ := cz2 BKqr; obtain ⟨_, _, _, _⟩ := cz2 BKqs) | ((with_reducible refine bM (f := 32) rfl ?_); refine gl (some 86) func32 #[.agg #[.int .i64 tq9, .slice Ao14 tqg.length co14], .agg #[.int .i64 tqh, .slice Ao16 tqi.length co16], .int .i64 tq1] ?_; (with_reducible refine (bO.n0 kj7 tq9 _ _ tqg tqh _ _ tqi tq1 true _ ?side1 ?side2 ?side3 ?side4 A37.out).mono ?_); (case side1 => exact rC HOqp); (case side2 => exact HOqp.out.1); (case side3 => exact rC HOqq); (case side4 => exact HOqq.out.1); rintro e w48 ⟨rfl, hb⟩; refine ⟨_, rfl, ?_⟩; replace BKqr := bb BKqr hb; replace BKqs := bb BKqs hb; replace HB := bs HB hb; replace D1 := bs D1 hb; replace D2 := bs D2 hb; replace D3 := bs D3 hb; replace D4 := bs D4 hb; (try clear hb)) | (go_at_call 33; (with_reducible refine (aN.n0 kj7 tq1 tq3 _ A39.out).mono ?_); rintro e w' ⟨rfl, ⟨nd, rfl⟩⟩) | (go_at_call 33; (with_reducible refine (aN.n0 kj7 tqj tq4 _ A40.out).mono ?_); rintro e w' ⟨rfl, ⟨nd, rfl⟩⟩))
        go_ret
        exact ⟨re_, ai HB GEqr GEqs⟩
       ·obtain rfl := oj H; have := NBqr_qs.out; have := NBqs_qr.out; obtain ⟨_, _, _, _⟩ := cz2 BKqr; obtain ⟨_, _, _, _⟩ := cz2 BKqs; go_wp2_with (first | ((with_reducible refine bM (f := 32) rfl ?_); refine gl (some 63) func32 #[.agg #[.int .i64 tq9, .slice Ao14 tqg.length co14], .agg #[.int .i64 tqh, .slice Ao16 tqi.length co16], .int .i64 tqj] ?_; (with_reducible refine (bO.n0 kj7 tq9 _ _ tqg tqh _ _ tqi tqj true _ ?side1 ?side2 ?side3 ?side4 A33.out).mono ?_); (case side1 => exact rC HOqp); (case side2 => exact HOqp.out.1); (case side3 => exact rC HOqq); (case side4 => exact HOqq.out.1); rintro e w52 ⟨rfl, hb⟩; refine ⟨_, rfl, ?_⟩; replace BKqr := bb BKqr hb; replace BKqs := bb BKqs hb; replace HB := bs HB hb; replace D1 := bs D1 hb; replace D2 := bs D2 hb; replace D3 := bs D3 hb; replace D4 := bs D4 hb; (try clear hb)) | ((with_reducible refine bM (f := 39) rfl ?_); refine gl (some 82) func39 #[.int .i64 tqj, .slice Ao27 tqa.length co27] ?_; (with_reducible refine (bD.n0 kj7 tqj _ _ tqa tq1 _ ?side1 ?side2 A36.out).mono ?_); (case side1 => exact rC HOqu); (case side2 => exact HOqu.out.1); rintro e w' ⟨rfl, ⟨nd, rfl⟩⟩; refine ⟨_, rfl, ?_⟩; obtain ⟨_, _, _, _⟩ := cz2 BKqr; obtain ⟨_, _, _, _⟩ := cz2 BKqs) | ((with_reducible refine bM (f := 32) rfl ?_); refine gl (some 86) func32 #[.agg #[.int .i64 tq9, .slice Ao14 tqg.length co14], .agg #[.int .i64 tqh, .slice Ao16 tqi.length co16], .int .i64 tq1] ?_; (with_reducible refine (bO.n0 kj7 tq9 _ _ tqg tqh _ _ tqi tq1 false _ ?side1 ?side2 ?side3 ?side4 A37.out).mono ?_); (case side1 => exact rC HOqp); (case side2 => exact HOqp.out.1); (case side3 => exact rC HOqq); (case side4 => exact HOqq.out.1); rintro e w56 ⟨rfl, hb⟩; refine ⟨_, rfl, ?_⟩; replace BKqr := bb BKqr hb; replace BKqs := bb BKqs hb; replace HB := bs HB hb; replace D1 := bs D1 hb; replace D2 := bs D2 hb; replace D3 := bs D3 hb; replace D4 := bs D4 hb; (try clear hb)))
        go_ret
        exact ⟨re_, ai HB GEqr GEqs⟩
      ·replace H := bo H; obtain ⟨⟨tq5, tqz⟩, A57, H⟩ := H; (try dsimp only at H); replace H := bo H; obtain ⟨tq6, A58, H⟩ := H; replace H := bo H; obtain ⟨tq7, A59, H⟩ := H; obtain rfl := oj H; have := NBqr_qs.out; have := NBqs_qr.out; obtain ⟨_, _, _, _⟩ := cz2 BKqr; obtain ⟨_, _, _, _⟩ := cz2 BKqs; go_wp2_with (first | ((with_reducible refine bM (f := 32) rfl ?_); refine gl (some 63) func32 #[.agg #[.int .i64 tq9, .slice Ao14 tqg.length co14], .agg #[.int .i64 tqh, .slice Ao16 tqi.length co16], .int .i64 tqj] ?_; (with_reducible refine (bO.n0 kj7 tq9 _ _ tqg tqh _ _ tqi tqj true _ ?side1 ?side2 ?side3 ?side4 A33.out).mono ?_); (case side1 => exact rC HOqp); (case side2 => exact HOqp.out.1); (case side3 => exact rC HOqq); (case side4 => exact HOqq.out.1); rintro e w63 ⟨rfl, hb⟩; refine ⟨_, rfl, ?_⟩; replace BKqr := bb BKqr hb; replace BKqs := bb BKqs hb; replace HB := bs HB hb; replace D1 := bs D1 hb; replace D2 := bs D2 hb; replace D3 := bs D3 hb; replace D4 := bs D4 hb; (try clear hb); obtain ⟨_, _, _, _⟩ := cz2 BKqr; obtain ⟨_, _, _, _⟩ := cz2 BKqs) | ((with_reducible refine bM (f := 25) rfl ?_); refine gl (some 72) func25 #[.agg #[.int .i64 tq9, .slice Ao14 tqg.length co14], .agg #[.int .i64 tqh, .slice Ao16 tqi.length co16]] ?_; (with_reducible refine (ba.n0 kj7 tq9 _ _ tqg tqh _ _ tqi tq5 tqz _ ?side1 ?side2 ?side3 ?side4 A57.out).mono ?_); (case side1 => exact rC HOqp); (case side2 => exact HOqp.out.1); (case side3 => exact rC HOqq); (case side4 => exact HOqq.out.1); rintro e w66 ⟨rfl, hb⟩; refine ⟨_, rfl, ?_⟩; replace BKqr := bb BKqr hb; replace BKqs := bb BKqs hb; replace HB := bs HB hb; replace D1 := bs D1 hb; replace D2 := bs D2 hb; replace D3 := bs D3 hb; replace D4 := bs D4 hb; (try clear hb)) | ((with_reducible refine bM (f := 33) rfl ?_); refine gl (some 76) func33 #[.int .i64 tq5] ?_; (with_reducible refine (aN.n0 kj7 tq5 tq6 _ A58.out).mono ?_); rintro e w' ⟨rfl, ⟨nd, rfl⟩⟩; refine ⟨_, rfl, ?_⟩) | ((with_reducible refine bM (f := 33) rfl ?_); refine gl (some 78) func33 #[.int .i64 tqj] ?_; (with_reducible refine (aN.n0 kj7 tqj tq7 _ A59.out).mono ?_); rintro e w' ⟨rfl, ⟨nd, rfl⟩⟩; refine ⟨_, rfl, ?_⟩))
       go_ret
       exact ⟨re_, ai HB GEqr GEqs⟩
     ·obtain rfl := oj H; have := NBqr_qs.out; have := NBqs_qr.out; obtain ⟨_, _, _, _⟩ := cz2 BKqr; obtain ⟨_, _, _, _⟩ := cz2 BKqs; go_wp2_with (first | ((with_reducible refine bM (f := 32) rfl ?_); refine gl (some 63) func32 #[.agg #[.int .i64 tq9, .slice Ao14 tqg.length co14], .agg #[.int .i64 tqh, .slice Ao16 tqi.length co16], .int .i64 tqj] ?_; (with_reducible refine (bO.n0 kj7 tq9 _ _ tqg tqh _ _ tqi tqj false _ ?side1 ?side2 ?side3 ?side4 A33.out).mono ?_); (case side1 => exact rC HOqp); (case side2 => exact HOqp.out.1); (case side3 => exact rC HOqq); (case side4 => exact HOqq.out.1); rintro e w70 ⟨rfl, hb⟩; refine ⟨_, rfl, ?_⟩; replace BKqr := bb BKqr hb; replace BKqs := bb BKqs hb; replace HB := bs HB hb; replace D1 := bs D1 hb; replace D2 := bs D2 hb; replace D3 := bs D3 hb; replace D4 := bs D4 hb; (try clear hb)))
      go_ret
      exact ⟨re_, ai HB GEqr GEqs⟩
def laws_FnAugmented.Pure : Prop := ∀ (l0 : List Int), l0.length ≤ maxLen → l0.length * 1 ≤ 140737488351232 → (∀ x ∈ l0, (Lit.int .u8 x).wf = true) → ∃ k, laws_FnAugmented.f k l0 = some true
theorem laws_FnAugmented.walk (P : laws_FnAugmented.Pure) (a0 : Option Addr) (len0 cap0 : Nat) (z0 : List Int) (w : World) (w0 : (a0 = none ∧ len0 = 0 ∧ cap0 = 0 ∧ z0 = []) ∨ ∃ x, a0 = some x ∧ len0 ≤ cap0 ∧ cap0 ≤ maxLen ∧ z0.length = cap0 ∧ (∀ i, i < z0.length → w.cell? (x.add i) = some (.int .u8 (z0.getD i 0))) ∧ ∀ n ∈ z0, (Lit.int .u8 n).wf = true) (y0 : len0 * 1 ≤ 140737488351232) :
  CB Try.prog 6 #[.slice a0 len0 cap0] w (.bool true) := by
 obtain ⟨l0, rfl, hr0, hm0, hw0, hc0⟩ := ReadsInt.ofRowC w0; obtain ⟨k, h⟩ := P l0 hm0 y0 hw0; refine (laws_FnAugmented.n0 k _ _ l0 true w (Kd.E6 (d := (0 : Int)) (h1 := fun _ => rfl) hr0) hc0 h).mono ?_; rintro e w' ⟨rfl, hd⟩; exact ⟨rfl, hd⟩
end Go.Proofs.Ytimkekeaeojpkaa.A
