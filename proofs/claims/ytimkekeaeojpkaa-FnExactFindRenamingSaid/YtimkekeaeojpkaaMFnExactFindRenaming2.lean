/- Machine side of the law FnExactFindRenaming: Go functions as Lean functions, and proofs that calls come to what these tell. Conditions: those in each theorem. -/
import Derived.Test.YtimkekeaeojpkaaMFnExactFindRenaming0
import Derived.Test.YtimkekeaeojpkaaMFnExactFindRenamingq0
import Derived.Test.YtimkekeaeojpkaaMFnExactFindRenaming1
set_option maxHeartbeats 8000000
set_option maxRecDepth 100000
namespace Go.Proofs.Ytimkekeaeojpkaa.A
open Go.RowKit Go.Proofs.YtimkekeaeojpkaaW.PrintWords Go.Proofs.YtimkekeaeojpkaaW.PrintLast Go.Proofs.YtimkekeaeojpkaaW.PrintMore Try
attribute [local go_sem] bA bv bK bJ bl bk bw bz
set_option linter.unusedVariables false
set_option linter.unusedSimpArgs false
def aM.l0 : Nat → Int → List Int → List Int → Int → Int → Option (Bool)
 | 0, _, _, _, _, _ => none
 | k + 1, x0, x1, x7, x8, x9 => if x9 < x8 then (if 0 ≤ x9 then (if x9 < (x7.length : Int) then ((b4.f x0 (rd x7 x9)).bind fun tq0 => (if tq0 = true then (if x9 > 0 then (if 0 ≤ (wrap64 (x9 - 1)) then (if (wrap64 (x9 - 1)) < (x1.length : Int) then (if (rd x7 x9) ≤ (rd x1 (wrap64 (x9 - 1))) then (some false) else (aM.l0 k x0 x1 x7 x8 (wrap64 (x9 + 1)))) else (none)) else (none)) else (aM.l0 k x0 x1 x7 x8 (wrap64 (x9 + 1)))) else (some false))) else (none)) else (none)) else ((bW.f x0).bind fun tq1 => (some tq1))
def aM.f (k : Nat) (a0 : Int) (l1 : List Int) : Option (Bool) := aM.l0 k a0 l1 l1 (l1.length : Int) 0
theorem aM.j3 (k : Nat) (a0 : Int) (A1 : Option Addr) (c1 : Nat) (l1 : List Int) (r : Bool) (w : World) (hr1 : Kd.C (Kd.int .i64) w A1 l1.length l1) (hc1 : l1.length ≤ c1) (h : aM.f k a0 l1 = some r) :
  CD Try.prog 117 #[.int .i64 a0, .slice A1 l1.length c1] w (.bool r) := by
 have HR1 := aQ hr1; have HC1 := aQ hc1; clear hr1 hc1; have H : (aM.l0 k a0 l1 l1 (l1.length : Int) 0) = some r := h; clear h; have H' := aQ H; clear H; go_enter func117, ntmps117; go_wp2
 go_loopg [9] k (fun kq v9 w' => ∃ (x9_1 : Int), v9 = .int .i64 x9_1 ∧ Aside0 (aM.l0 kq a0 l1 l1 (l1.length : Int) x9_1 = some r) ∧ Aside0 (kq ≤ k) ∧ Drawn0 w w')
 case atStart => exact ⟨(0), rs_, H', ⟨Nat.le_refl _⟩, rd_⟩
 clear H'; try clear c1
 obtain ⟨x9_1, rfl, HA, HK1, ⟨m1, rfl⟩⟩ := hrel; rcases gk with _ | k1
 ·exact absurd HA.out (by simp [aM.l0])
 have H := HA.out; clear HA; simp only [aM.l0] at H; replace H := ckD H; obtain ⟨c3b0, H⟩ | ⟨c3b0, H⟩ := H
 ·replace H := gdD H; obtain ⟨c4b0, H⟩ := H; replace H := gdD H; obtain ⟨c5b0, H⟩ := H; replace H := bo H; obtain ⟨tq0, A6, H⟩ := H; replace H := ckB H; obtain ⟨rfl, H⟩ | ⟨rfl, H⟩ := H
  ·replace H := ckD H; obtain ⟨c8b0, H⟩ | ⟨c8b0, H⟩ := H
   ·obtain ⟨ji9, hji9⟩ : ∃ j_ : Int, (wrap64 (x9_1 - 1)) = j_ := ⟨_, rfl⟩; (first | rw [hji9] at H | simp only [hji9] at H); (try rw [hji9] at A6); have hji9w : (IntKind.i64.wrap (x9_1 - 1)) = ji9 := (i64_w _).trans hji9; replace H := gdD H; obtain ⟨c10b0, H⟩ := H; replace H := gdD H; obtain ⟨c11b0, H⟩ := H; replace H := ckD H; obtain ⟨c12b0, H⟩ | ⟨c12b0, H⟩ := H
    ·obtain rfl := oj H; have pq2 : 0 ≤ (x9_1 : Int) := of_decide_eq_true as_; have qq2 : x9_1 < (l1.length : Int) := of_decide_eq_true as_; obtain ⟨adq2, eq2, hxq2_0⟩ := Kd.k7 HR1.out x9_1 pq2 qq2; cases eq2; replace pq2 := eq_true pq2; replace qq2 := eq_true qq2; go_wp2_with (first | (refine gt 86 ?_; refine gcD (some 16) func86 (b4.j3 a0 (rd l1 x9_1) true _ A6.out) ?_; intro nd; obtain ⟨adq3, eq3, hxq3_0, pq3, qq3⟩ := aI HR1.out (ji9); obtain rfl : adq2 = adq3 := (by injection eq3)))
     go_ret
     exact ⟨by first | rfl | (simp; done) | (simp only [← hji9] <;> (first | rfl | simp)) | (simp [*]; done), rd_⟩
    ·have H' := aQ H; clear H; have pq2 : 0 ≤ (x9_1 : Int) := of_decide_eq_true as_; have qq2 : x9_1 < (l1.length : Int) := of_decide_eq_true as_; obtain ⟨adq2, eq2, hxq2_0⟩ := Kd.k7 HR1.out x9_1 pq2 qq2; cases eq2; replace pq2 := eq_true pq2; replace qq2 := eq_true qq2; go_wp2_with (first | (refine gt 86 ?_; refine gcD (some 16) func86 (b4.j3 a0 (rd l1 x9_1) true _ A6.out) ?_; intro nd; obtain ⟨adq3, eq3, hxq3_0, pq3, qq3⟩ := aI HR1.out (ji9); obtain rfl : adq2 = adq3 := (by injection eq3)))
     go_roundg k1
     case measure => exact omeg HK1
     case rel => exact ⟨(wrap64 (x9_1 + 1)), rs_, H', ⟨omeg HK1⟩, rd_⟩
   ·have H' := aQ H; clear H; have pq2 : 0 ≤ (x9_1 : Int) := of_decide_eq_true as_; have qq2 : x9_1 < (l1.length : Int) := of_decide_eq_true as_; obtain ⟨adq2, eq2, hxq2_0⟩ := Kd.k7 HR1.out x9_1 pq2 qq2; cases eq2; replace pq2 := eq_true pq2; replace qq2 := eq_true qq2; go_wp2_with (first | (refine gt 86 ?_; refine gcD (some 16) func86 (b4.j3 a0 (rd l1 x9_1) true _ A6.out) ?_; intro nd))
    go_roundg k1
    case measure => exact omeg HK1
    case rel => exact ⟨(wrap64 (x9_1 + 1)), rs_, H', ⟨omeg HK1⟩, rd_⟩
  ·obtain rfl := oj H; have pq2 : 0 ≤ (x9_1 : Int) := of_decide_eq_true as_; have qq2 : x9_1 < (l1.length : Int) := of_decide_eq_true as_; obtain ⟨adq2, eq2, hxq2_0⟩ := Kd.k7 HR1.out x9_1 pq2 qq2; cases eq2; replace pq2 := eq_true pq2; replace qq2 := eq_true qq2; go_wp2_with (first | (refine gt 86 ?_; refine gcD (some 16) func86 (b4.j3 a0 (rd l1 x9_1) false _ A6.out) ?_; intro nd))
   go_ret
   exact ⟨rs_, rd_⟩
 ·replace H := bo H; obtain ⟨tq1, A13, H⟩ := H; obtain rfl := oj H; go_wp2_with (first | (refine gt 137 ?_; refine gcD (some 33) func137 (bW.j3 a0 tq1 _ A13.out) ?_; intro nd))
  go_ret
  exact ⟨rs_, rd_⟩
end Go.Proofs.Ytimkekeaeojpkaa.A
namespace Go.Proofs.Ytimkekeaeojpkaa.A
open Go.RowKit Go.Proofs.YtimkekeaeojpkaaW.PrintWords Go.Proofs.YtimkekeaeojpkaaW.PrintLast Go.Proofs.YtimkekeaeojpkaaW.PrintMore Go.Proofs.Ytimkekeaeojpkaa.Z Try
attribute [local go_sem] bA bv bK bJ bl bk bw bz
set_option linter.unusedVariables false
set_option linter.unusedSimpArgs false
theorem gN {P : Program} {f : FuncId} {fn : Func} {c : Code} (hf : P.funcs[f]? = some fn) (hname : (fn.name == "runtime.NumGoroutine") = false) (hb : fn.body = some c) : ∀ (args : Array Value) (w : World), (callFunc f args).run P w = .ok (.enter f args) w := by
 intro args w; have h1 : fn.name ≠ "runtime.NumGoroutine" := by simpa using hname
 simp [callFunc, hf, h1, hb, mark]
set_option maxHeartbeats 2000000 in
theorem eq (g : Int → Option Bool) (K : Nat) (lb : Array Value) (eg : ∀ args w, (callFunc K args).run Try.prog w = .ok (.enter K args) w) (A : Option Addr) (c : Nat) (l : List Int) (r : Int) (w : World)
  (hr : Kd.C (Kd.int .i64) w A l.length l) (h : idxO g l 0 = some r)
  (hp : ∀ (W : World) (x : Int) (b : Bool), Below w.heap.size w W → g x = some b → Calls Try.prog K (#[.int .i64 x] ++ lb) W fun e w' => e = .returned (.bool b) ∧ Below W.heap.size W w') :
  CB Try.prog 175 #[.slice A l.length c, .func (.func K) #[] lb] w (.int .i64 r) := by
 have hbig : l.length ≤ 9223372036854775807 := hr.2.1; have HR := aQ hr; have HP := Lib.hid hp; have H' := aQ h; clear hr h hp; go_enter func175, ntmps175; go_wp2
 go_loopg [5, 8] l.length (fun gg _ s8 wr => ∃ x : Int, s8 = .int .i64 x ∧ Aside0 (0 ≤ x ∧ x ≤ (l.length : Int)) ∧ Aside0 (l.length - x.toNat ≤ gg) ∧ Aside0 (Below w.heap.size w wr) ∧ Aside0 (idxO g (l.drop x.toNat) x.toNat = some r))
 case atStart => exact ⟨0, rfl, ⟨by omega⟩, ⟨by omega⟩, ⟨Below.refl _ w⟩, ⟨H'.out⟩⟩
 clear H'; obtain ⟨x, rfl, HX, HG, HB, HI⟩ := hrel; by_cases hlt : x < (l.length : Int)
 ·have p1 : 0 ≤ x := HX.out.1; have l1 : decide (x < (l.length : Int)) = true := decide_eq_true hlt; obtain ⟨ad, ea, hx⟩ := Kd.k7 HR.out x p1 hlt; cases ea; replace hx := (HB.out.cell (World.block_lt_of_cell? w _ hx)).trans hx; have hI := HI.out; rw [dE l x p1 hlt] at hI; simp only [idxO] at hI; obtain ⟨b, hgb, hI⟩ := Option.bind_eq_some_iff.1 hI; have hcall := HP.out wr (rd l x) b HB.out hgb; have HC := Lib.hid hI; have e1 : wrap64 (x + 1) = x + 1 := bu (by omega) (by omega); have E1 := Lib.hid e1; have Q1 := aQ hlt; replace p1 := eq_true p1; replace hlt := eq_true hlt; clear HI hgb hI e1; cases b with
  | true =>
   go_wp2_with fail
   refine hcall.mono ?_; rintro e w' ⟨rfl, hb'⟩; go_wp2
   go_ret
   have h2 := HC.out; simp only [if_pos, Option.some.injEq] at h2; refine ⟨?_, dl HB.out HB.out.size hb'⟩; rw [← h2, Int.toNat_of_nonneg HX.out.1]
   rfl
  | false =>
   go_wp2_with fail
   refine hcall.mono ?_; rintro e w' ⟨rfl, hb'⟩; go_wp2
   go_roundg (l.length - (x + 1).toNat)
   case measure => have := HG.out; have := HX.out; have := Q1.out; omega
   case rel =>
    have h2 := HC.out; rw [if_neg (by decide)] at h2; refine ⟨x + 1, by rw [E1.out], ⟨by have := HX.out; have := Q1.out; omega⟩, ⟨by omega⟩, ⟨dl HB.out HB.out.size hb'⟩, ⟨?_⟩⟩; rw [show (x + 1).toNat = x.toNat + 1 from by have := HX.out; omega] at h2 ⊢; exact h2
 ·have l1 : decide (x < (l.length : Int)) = false := decide_eq_false hlt; have h2 := HI.out; rw [cv l x hlt] at h2; simp only [idxO, Option.some.injEq] at h2; have H2 := Lib.hid h2; clear h2 HI hlt; go_wp2
  go_ret
  exact ⟨by rw [← H2.out]; rfl, HB.out⟩
set_option maxHeartbeats 2000000 in
theorem dy (g : Int → Option Bool) (K : Nat) (lb : Array Value) (eg : ∀ args w, (callFunc K args).run Try.prog w = .ok (.enter K args) w) (A : Option Addr) (c : Nat) (l : List Int) (r : Bool) (w : World)
  (hr : Kd.C (Kd.int .i64) w A l.length l) (h : anyO g l = some r)
  (hp : ∀ (W : World) (x : Int) (b : Bool), Below w.heap.size w W → g x = some b → Calls Try.prog K (#[.int .i64 x] ++ lb) W fun e w' => e = .returned (.bool b) ∧ Below W.heap.size W w') :
  CB Try.prog 146 #[.slice A l.length c, .func (.func K) #[] lb] w (.bool r) := by
 obtain ⟨i, hi, rfl⟩ := ik g l 0 r h; have HC := Lib.hid (eq g K lb eg A c l i w hr hi hp); clear hr h hp hi; go_enter func146, ntmps146; go_wp2_with (go_at_call 175; refine HC.out.mono ?_; rintro e w' ⟨rfl, hb'⟩)
 go_ret
 exact ⟨by first | rfl | simp, hb'⟩
end Go.Proofs.Ytimkekeaeojpkaa.A
namespace Go.Proofs.Ytimkekeaeojpkaa.A
open Go.RowKit Go.Proofs.YtimkekeaeojpkaaW.PrintWords Go.Proofs.YtimkekeaeojpkaaW.PrintLast Go.Proofs.YtimkekeaeojpkaaW.PrintMore Try
attribute [local go_sem] bA bv bK bJ bl bk bw bz
set_option linter.unusedVariables false
set_option linter.unusedSimpArgs false
def am.l0 : Nat → List Int → Int → Int → Int → Option (Int)
 | 0, _, _, _, _ => none
 | k + 1, x0, x1, x7, x8 => if x8 < x7 then (if 0 ≤ x8 then (if x8 < (x0.length : Int) then (if x1 = (rd x0 x8) then (some x8) else (am.l0 k x0 x1 x7 (wrap64 (x8 + 1)))) else (none)) else (none)) else (some (-1))
def am.f (k : Nat) (l0 : List Int) (a1 : Int) : Option (Int) := am.l0 k l0 a1 (l0.length : Int) 0
theorem am.n4 : ∀ k, (∀ y0 y1 y2 y3, LeO (am.l0 k y0 y1 y2 y3) (am.l0 (k + 1) y0 y1 y2 y3))
 | 0 => fun _ _ _ _ r h => by simp [am.l0] at h
 | k + 1 => by
  have ih0 := am.n4 k
  ·intro y0 y1 y2 y3; unfold am.l0; exact mn_
theorem am.mono : ∀ a0 a1 k, LeO (am.f k a0 a1) (am.f (k + 1) a0 a1) := by
 intro a0 a1 k; have ih0 := am.n4 k; unfold am.f; exact mn_
theorem am.j3 (k : Nat) (A0 : Option Addr) (c0 : Nat) (l0 : List Int) (a1 : Int) (r : Int) (w : World) (hr0 : Kd.C (Kd.int .i64) w A0 l0.length l0) (hc0 : l0.length ≤ c0) (h : am.f k l0 a1 = some r) :
  CD Try.prog 148 #[.slice A0 l0.length c0, .int .i64 a1] w (.int .i64 r) := by
 have HR0 := aQ hr0; have HC0 := aQ hc0; clear hr0 hc0; have H : (am.l0 k l0 a1 (l0.length : Int) 0) = some r := h; clear h; have H' := aQ H; clear H; go_enter func148, ntmps148; go_wp2
 go_loopg [8] k (fun kq v8 w' => ∃ (x8_1 : Int), v8 = .int .i64 x8_1 ∧ Aside0 (am.l0 kq l0 a1 (l0.length : Int) x8_1 = some r) ∧ Aside0 (kq ≤ k) ∧ Drawn0 w w')
 case atStart => exact ⟨(0), rs_, H', ⟨Nat.le_refl _⟩, rd_⟩
 clear H'; obtain ⟨x8_1, rfl, HA, HK1, ⟨m1, rfl⟩⟩ := hrel; rcases gk with _ | k1
 ·exact absurd HA.out (by simp [am.l0])
 have H := HA.out; clear HA; simp only [am.l0] at H; replace H := ckD H; obtain ⟨c3b0, H⟩ | ⟨c3b0, H⟩ := H
 ·replace H := gdD H; obtain ⟨c4b0, H⟩ := H; replace H := gdD H; obtain ⟨c5b0, H⟩ := H; replace H := ckE H; obtain ⟨c6b0, c6b1, H⟩ | ⟨c6, c6b0, c6b1, H⟩ := H
  ·obtain rfl := oj H; have pq0 : 0 ≤ (x8_1 : Int) := of_decide_eq_true as_; have qq0 : x8_1 < (l0.length : Int) := of_decide_eq_true as_; obtain ⟨adq0, eq0, hxq0_0⟩ := Kd.k7 HR0.out x8_1 pq0 qq0; cases eq0; replace pq0 := eq_true pq0; replace qq0 := eq_true qq0; go_wp2
   go_ret
   exact ⟨rs_, rd_⟩
  ·have H' := aQ H; clear H; have pq0 : 0 ≤ (x8_1 : Int) := of_decide_eq_true as_; have qq0 : x8_1 < (l0.length : Int) := of_decide_eq_true as_; obtain ⟨adq0, eq0, hxq0_0⟩ := Kd.k7 HR0.out x8_1 pq0 qq0; cases eq0; replace pq0 := eq_true pq0; replace qq0 := eq_true qq0; go_wp2
   go_roundg k1
   case measure => exact omeg HK1
   case rel => exact ⟨(wrap64 (x8_1 + 1)), rs_, H', ⟨omeg HK1⟩, rd_⟩
 ·obtain rfl := oj H; go_wp2
  go_ret
  exact ⟨rs_, rd_⟩
def aD.f (k : Nat) (l0 : List Int) (a1 : Int) : Option (Bool) := (am.f k l0 a1).bind fun tq0 => (some (decide (tq0 ≥ 0)))
theorem aD.mono : ∀ a0 a1 k, LeO (aD.f k a0 a1) (aD.f (k + 1) a0 a1) := by
 intro a0 a1 k; unfold aD.f
 repeat' first | (with_reducible first | exact am.mono _ _ _ | exact LeO.refl _ | exact LeO.none _ | refine LeO.ite ?_ ?_ | refine LeO.bind ?_ (fun _ => ?_)) | exact LeO.none _ | refine LeO.ite ?_ ?_ | refine LeO.bind ?_ (fun _ => ?_)
theorem aD.j3 (k : Nat) (A0 : Option Addr) (c0 : Nat) (l0 : List Int) (a1 : Int) (r : Bool) (w : World) (hr0 : Kd.C (Kd.int .i64) w A0 l0.length l0) (hc0 : l0.length ≤ c0) (h : aD.f k l0 a1 = some r) :
  CD Try.prog 118 #[.slice A0 l0.length c0, .int .i64 a1] w (.bool r) := by
 have HR0 := aQ hr0; have HC0 := aQ hc0; clear hr0 hc0; have H := h; clear h; unfold aD.f at H; (try dsimp only at H); replace H := bo H; obtain ⟨tq0, A3, H⟩ := H; obtain rfl := oj H; go_enter func118, ntmps118; go_wp2_with (first | (refine gt 148 ?_; refine gcD (some 7) func148 (am.j3 k _ _ l0 a1 tq0 _ (pC HR0.out) HC0.out A3.out) ?_; intro nd))
 go_ret
 exact ⟨rs_, rd_⟩
def bV.f (k : Nat) (l0 : List Int) (a1 : Int) : Option (Bool) := (aD.f k l0 a1).bind fun tq0 => (some tq0)
theorem bV.mono : ∀ a0 a1 k, LeO (bV.f k a0 a1) (bV.f (k + 1) a0 a1) := by
 intro a0 a1 k; unfold bV.f
 repeat' first | (with_reducible first | exact aD.mono _ _ _ | exact LeO.refl _ | exact LeO.none _ | refine LeO.ite ?_ ?_ | refine LeO.bind ?_ (fun _ => ?_)) | exact LeO.none _ | refine LeO.ite ?_ ?_ | refine LeO.bind ?_ (fun _ => ?_)
theorem bV.j3 (k : Nat) (A0 : Option Addr) (c0 : Nat) (l0 : List Int) (a1 : Int) (r : Bool) (w : World) (hr0 : Kd.C (Kd.int .i64) w A0 l0.length l0) (hc0 : l0.length ≤ c0) (h : bV.f k l0 a1 = some r) :
  CD Try.prog 125 #[.slice A0 l0.length c0, .int .i64 a1] w (.bool r) := by
 have HR0 := aQ hr0; have HC0 := aQ hc0; clear hr0 hc0; have H := h; clear h; unfold bV.f at H; (try dsimp only at H); replace H := bo H; obtain ⟨tq0, A3, H⟩ := H; obtain rfl := oj H; go_enter func125, ntmps125; go_wp2_with (first | (refine gt 118 ?_; refine gcD (some 7) func118 (aD.j3 k _ _ l0 a1 tq0 _ (pC HR0.out) HC0.out A3.out) ?_; intro nd))
 go_ret
 exact ⟨rs_, rd_⟩
end Go.Proofs.Ytimkekeaeojpkaa.A
namespace Go.Proofs.Ytimkekeaeojpkaa.A
open Go.RowKit Go.Proofs.YtimkekeaeojpkaaW.PrintWords Go.Proofs.YtimkekeaeojpkaaW.PrintLast Go.Proofs.YtimkekeaeojpkaaW.PrintMore Go.Proofs.Ytimkekeaeojpkaa.Z Try
attribute [local go_sem] bA bv bK bJ bl bk bw bz
set_option linter.unusedVariables false
set_option linter.unusedSimpArgs false
def ah.c (k : Nat) (l : List Int) (a e f : Int) : Option Bool := if 0 ≤ e ∧ e < 8 then (if 0 ≤ f ∧ f < 8 then bV.f k l (Go.bits .or .i64 (Go.bits .andNot .i64 a (IntKind.i64.wrap (2 ^ e.toNat))) (IntKind.i64.wrap (2 ^ f.toNat))) else none) else none
set_option maxHeartbeats 2000000 in
theorem di (k : Nat) (n : Int) (A : Option Addr) (c : Nat) (l : List Int) (a e f : Int) (b : Bool) (gm ga ge : Nat) (w : World)
  (hr : Kd.C (Kd.int .i64) w A l.length l) (hc : l.length ≤ c)
  (hm : w.heap[gm]? = some (.cells #[.int .i64 n, .slice A l.length c] 28 (0, 0))) (ha : w.heap[ga]? = some (.cells #[.int .i64 a] 3 (0, 0))) (he : w.heap[ge]? = some (.cells #[.int .i64 e] 3 (0, 0)))
  (h : ah.c k l a e f = some b) :
  CB Try.prog 147 #[.int .i64 f, .pointer (some ⟨gm, 0, none⟩), .pointer (some ⟨ga, 0, none⟩), .pointer (some ⟨ge, 0, none⟩)] w (.bool b) := by
 unfold ah.c at h; by_cases h1 : 0 ≤ e ∧ e < 8
 ·rw [if_pos h1] at h; by_cases h2 : 0 ≤ f ∧ f < 8
  ·rw [if_pos h2] at h; have hu := underlying28; have hcm : w.cell? ⟨gm, 1, none⟩ = some (.slice A l.length c) := (aa hm 1).trans rfl; have hca : w.cell? ⟨ga, 0, none⟩ = some (.int .i64 a) := (aa ha 0).trans rfl; have hce : w.cell? ⟨ge, 0, none⟩ = some (.int .i64 e) := (aa he 0).trans rfl; obtain ⟨he0, he8⟩ := h1; obtain ⟨hf0, hf8⟩ := h2; have H := Lib.hid h; have HR := Lib.hid hr; have HCC := Lib.hid hc; clear hm ha he h hr hc; go_enter func147, ntmps147; go_wp2
   go_quiet (first | (go_at_call 125; (with_reducible refine (bV.j3 k _ _ l _ b _ ?side1 ?side2 H.out).mono ?_); (case side1 => exact pC HR.out); (case side2 => exact HCC.out); rintro e w' ⟨rfl, ⟨nd, rfl⟩⟩; (try exact dq_)))
   go_wp2
   go_ret
   exact ⟨rfl, by repeat (first | exact Below.refl _ _ | apply aT | apply av)⟩
  ·rw [if_neg h2] at h; cases h
 ·rw [if_neg h1] at h; cases h
def ah.l2 (k : Nat) (l : List Int) (a b : Int) : List Int → Option (Option Int)
 | [] => some none
 | e :: es => (an.f k (Go.bits .andNot .i64 b a)).bind fun fs => (anyO (fun f => ah.c k l a e f) fs).bind fun t => if t = true then ah.l2 k l a b es else some (some e)
def ah.l1 (k : Nat) (l : List Int) (a : Int) : List Int → Option (Option (Int × Int))
 | [] => some none
 | b :: bs => (an.f k (Go.bits .andNot .i64 a b)).bind fun es => (ah.l2 k l a b es).bind fun t => match t with
  | none => ah.l1 k l a bs
  | some e => some (some (b, e))
def ah.l0 (k : Nat) (l : List Int) : List Int → Option (Option (Int × Int × Int))
 | [] => some none
 | a :: la => (ah.l1 k l a l).bind fun t => match t with
  | none => ah.l0 k l la
  | some (b, e) => some (some (a, b, e))
def ah.f (k : Nat) (a0_0 : Int) (l0_1 : List Int) : Option (Int × Int × Int × Bool) := (aM.f k a0_0 l0_1).bind fun t => if t = true then ((ah.l0 k l0_1 l0_1).bind fun u => match u with
  | none => some (0, 0, 0, false)
  | some (a, b, e) => some (a, b, e, true)) else some (0, 0, 0, false)
theorem ah.j3 (k : Nat) (a0_0 : Int) (A0_1 : Option Addr) (c0_1 : Nat) (l0_1 : List Int) (r1 : Int) (r2 : Int) (r3 : Int) (r4 : Bool) (w : World) (hr0_1 : Kd.C (Kd.int .i64) w A0_1 l0_1.length l0_1) (hc0_1 : l0_1.length ≤ c0_1) (h : ah.f k a0_0 l0_1 = some (r1, r2, r3, r4)) :
  CB Try.prog 116 #[.agg #[.int .i64 a0_0, .slice A0_1 l0_1.length c0_1]] w (.tuple #[.agg #[.int .i64 r1, .int .i64 r2, .int .i64 r3], .bool r4]) := by
 have hu39 := underlying28; have hu59 := underlying94; have hlen : l0_1.length ≤ 9223372036854775807 := hr0_1.2.1; have HR := aQ hr0_1; have HC := aQ hc0_1; have HB := aQ (Below.refl w.heap.size w); clear hr0_1 hc0_1; unfold ah.f at h; obtain ⟨t, A2, H⟩ := Option.bind_eq_some_iff.mp h; clear h; have HF := aQ A2; clear A2; have eg : ∀ args w, (callFunc 147 args).run Try.prog w = .ok (.enter 147 args) w := gN func147 (by kernel_rfl) rfl; have EG := aQ eg; clear eg; by_cases c3 : t = true
 ·subst c3; rw [if_pos rfl] at H; obtain ⟨u, A3, H⟩ := Option.bind_eq_some_iff.mp H; have HL := Lib.hid A3; have HU := Lib.hid H; clear A3 H; go_enter func116, ntmps116; go_wp2_with (first | ((with_reducible refine aC (N := 1) rfl ?_); refine bx 1 #[.int .i64 a0_0, .slice A0_1 l0_1.length c0_1] 28 ?_; intro gm hg w1_ hbox hb; have n_HB := bs HB hb; have n_GBM := aQ ((by rw [hg]; exact ab (aH HB)) : w.heap.size ≤ gm); clear HB; have HB := n_HB; have GBM := n_GBM; have BM := aQ hbox; clear n_HB n_GBM; clear hb hbox hg; have zBM0 : w1_.cell? ⟨gm, 0, none⟩ = some (.int .i64 a0_0) := (bkcl BM 0).trans rfl; have zBM1 : w1_.cell? ⟨gm, 1, none⟩ = some (.slice A0_1 l0_1.length c0_1) := (bkcl BM 1).trans rfl) | ((with_reducible refine aC (N := 2) rfl ?_); refine bx 2 #[.int .i64 0, .int .i64 0, .int .i64 0] 94 ?_; intro gf hg w1_ hbox hb; have n_BM := bb BM hb; have n_NBMBF := aQ ((by rw [hg]; exact Nat.ne_of_lt (br (g := gm) (o := .cells #[.int .i64 a0_0, .slice A0_1 l0_1.length c0_1] 28 (0, 0)) (ay BM))) : gm ≠ gf); have n_HB := bs HB hb; have n_GBF := aQ ((by rw [hg]; exact ab (aH HB)) : w.heap.size ≤ gf); clear BM; clear HB; have HB := n_HB; have GBF := n_GBF; have BF := aQ hbox; have BM := n_BM; have NBMBF := n_NBMBF; clear n_HB n_GBF n_BM n_NBMBF; clear hb hbox hg; have zBM0 : w1_.cell? ⟨gm, 0, none⟩ = some (.int .i64 a0_0) := (bkcl BM 0).trans rfl; have zBM1 : w1_.cell? ⟨gm, 1, none⟩ = some (.slice A0_1 l0_1.length c0_1) := (bkcl BM 1).trans rfl) | (go_at_call 117; (with_reducible refine (aM.j3 k a0_0 _ _ l0_1 true _ ?side1 ?side2 HF.out).mono ?_); (case side1 => exact pC (Kd.k6 HR.out HB.out)); (case side2 => exact HC.out); rintro e w' ⟨rfl, ⟨nd, rfl⟩⟩))
  go_loopg [21] l0_1.length (fun gg s21 wr => ∃ x : Int, s21 = .int .i64 x ∧ Aside0 (0 ≤ x ∧ x ≤ (l0_1.length : Int)) ∧ Aside0 (l0_1.length - x.toNat ≤ gg) ∧ Aside0 (wr.heap[gm]? = some (.cells #[.int .i64 a0_0, .slice A0_1 l0_1.length c0_1] 28 (0, 0))) ∧ Aside0 (wr.heap[gf]? = some (.cells #[.int .i64 0, .int .i64 0, .int .i64 0] 94 (0, 0))) ∧ Aside0 (Below w.heap.size w wr) ∧ Aside0 (ah.l0 k l0_1 (l0_1.drop x.toNat) = some u))
  case atStart => exact ⟨0, rfl, ⟨by omega⟩, ⟨by omega⟩, ⟨ay BM⟩, ⟨ay BF⟩, ⟨(aH HB)⟩, ⟨HL.out⟩⟩
  clear HL; try clear zBM0
  try clear zBM1
  obtain ⟨x, rfl, HX, HG, BM, BF, HB, HI⟩ := hrel; by_cases hlt : x < (l0_1.length : Int)
  ·have p1 : 0 ≤ x := HX.out.1; have l1 : decide (x < (l0_1.length : Int)) = true := decide_eq_true hlt; obtain ⟨ad, ea, hx⟩ := Kd.k7 HR.out x p1 hlt; cases ea; replace hx := (HB.out.cell (World.block_lt_of_cell? w _ hx)).trans hx; have hI := HI.out; rw [dE l0_1 x p1 hlt] at hI; simp only [ah.l0] at hI; obtain ⟨t1, hJ, hI⟩ := Option.bind_eq_some_iff.1 hI; have HJ0 := Lib.hid hJ; have HI1 := Lib.hid hI; have E1 := Lib.hid (bu (n := x + 1) (by omega) (by omega)); have Q1 := aQ hlt; replace p1 := eq_true p1; replace hlt := eq_true hlt; clear HI hI hJ; have zBM : wr.cell? ⟨gm, 1, none⟩ = some (.slice (some ad) l0_1.length c0_1) := (bkcl BM 1).trans rfl; go_wp2_with (first | ((with_reducible refine aC (N := 5) rfl ?_); refine bx 5 #[.int .i64 0] 3 ?_; intro ga hg w1_ hbox hb; have n_BM := bb BM hb; have n_BF := bb BF hb; have n_NBMBA := aQ ((by rw [hg]; exact Nat.ne_of_lt (br (g := gm) (o := .cells #[.int .i64 a0_0, .slice (some ad) l0_1.length c0_1] 28 (0, 0)) (ay BM))) : gm ≠ ga); have n_NBFBA := aQ ((by rw [hg]; exact Nat.ne_of_lt (br (g := gf) (o := .cells #[.int .i64 0, .int .i64 0, .int .i64 0] 94 (0, 0)) (ay BF))) : gf ≠ ga); have n_HB := bs HB hb; have n_GBA := aQ ((by rw [hg]; exact ab (aH HB)) : w.heap.size ≤ ga); clear BM; clear BF; clear HB; have HB := n_HB; have GBA := n_GBA; have BA := aQ hbox; have BM := n_BM; have NBMBA := n_NBMBA; have BF := n_BF; have NBFBA := n_NBFBA; clear n_HB n_GBA n_BM n_NBMBA n_BF n_NBFBA; clear hb hbox hg; have zBM2 : w1_.cell? ⟨gm, 1, none⟩ = some (.slice (some ad) l0_1.length c0_1) := (bkcl BM 1).trans rfl; have zBA2 : w1_.cell? ⟨ga, 0, none⟩ = some (.int .i64 0) := (bkcl BA 0).trans rfl; have fBA := aw BA.out 0; have nBMA := NBMBA.out; have nBFA := NBFBA.out; have nBMA2 := Ne.symm nBMA; have nBFA2 := Ne.symm nBFA))
   go_loopg [28] l0_1.length (fun gg s28 wr => ∃ y : Int, s28 = .int .i64 y ∧ Aside0 (0 ≤ y ∧ y ≤ (l0_1.length : Int)) ∧ Aside0 (l0_1.length - y.toNat ≤ gg) ∧ Aside0 (wr.heap[gm]? = some (.cells #[.int .i64 a0_0, .slice (some ad) l0_1.length c0_1] 28 (0, 0))) ∧ Aside0 (wr.heap[gf]? = some (.cells #[.int .i64 0, .int .i64 0, .int .i64 0] 94 (0, 0))) ∧ Aside0 (wr.heap[ga]? = some (.cells #[.int .i64 (rd l0_1 x)] 3 (0, 0))) ∧ Aside0 (Below w.heap.size w wr) ∧ Aside0 (ah.l1 k l0_1 (rd l0_1 x) (l0_1.drop y.toNat) = some t1))
   case atStart => exact ⟨0, rfl, ⟨by omega⟩, ⟨by omega⟩, ⟨by refine pkx ?_; refine aX ?_ nBMA _; refine pkx ?_; exact BM.out⟩, ⟨by refine pkx ?_; refine aX ?_ nBFA _; refine pkx ?_; exact BF.out⟩, ⟨by refine pkx ?_; refine a6 (cs := #[.int .i64 0]) ?_ 0 _ rfl; refine pkx ?_; exact BA.out⟩, ⟨(pb HB)⟩, ⟨HJ0.out⟩⟩
   clear HJ0; try clear zBM
   try clear zBM2
   try clear zBA2
   try clear fBA
   try clear hx
   obtain ⟨y, rfl, HY, HG2, BM, BF, BA, HB, HJ⟩ := hrel; by_cases hlt2 : y < (l0_1.length : Int)
   ·have p2 : 0 ≤ y := HY.out.1; have l2 : decide (y < (l0_1.length : Int)) = true := decide_eq_true hlt2; obtain ⟨ad2, ea2, hy⟩ := Kd.k7 HR.out y p2 hlt2; obtain rfl : ad = ad2 := by injection ea2
    replace hy := (HB.out.cell (World.block_lt_of_cell? w _ hy)).trans hy; have hJ := HJ.out; rw [dE l0_1 y p2 hlt2] at hJ; simp only [ah.l1] at hJ; obtain ⟨es, hE, hJ⟩ := Option.bind_eq_some_iff.1 hJ; obtain ⟨t2, hK, hJ⟩ := Option.bind_eq_some_iff.1 hJ; have HE := Lib.hid hE; have HK0 := Lib.hid hK; have HJ1 := Lib.hid hJ; have E2 := Lib.hid (bu (n := y + 1) (by omega) (by omega)); have Q2 := aQ hlt2; replace p2 := eq_true p2; replace hlt2 := eq_true hlt2; clear HJ hE hK hJ ea2; have zBM : wr.cell? ⟨gm, 1, none⟩ = some (.slice (some ad) l0_1.length c0_1) := (bkcl BM 1).trans rfl; have zBA : wr.cell? ⟨ga, 0, none⟩ = some (.int .i64 (rd l0_1 x)) := (bkcl BA 0).trans rfl; go_wp2_with (first | (go_at_call 104; (with_reducible refine (an.j3 k _ es _ HE.out).mono ?_); rintro e w1_ ⟨v_, rfl, ho_, hb⟩; have n_BM := bb BM hb; have n_BF := bb BF hb; have n_BA := bb BA hb; have n_HO := aQ (Kd.j9 ho_ (ab (aH HB))); have n_HB := bs HB hb; clear HB; clear BM; have BM := n_BM; clear BF; have BF := n_BF; clear BA; have BA := n_BA; have HB := n_HB; have HO := n_HO; clear n_HB n_HO n_BM n_BF n_BA hb ho_; obtain ⟨AHO, cHO, eHO⟩ := Kd.k4 HO.out; subst eHO))
    have hes : es.length ≤ 9223372036854775807 := (Kd.o7 HO.out).elim fun _ h => h.elim fun _ h => h.2.2.2.1
    go_loopg [37] es.length (fun gg s37 wr => ∃ z : Int, s37 = .int .i64 z ∧ Aside0 (0 ≤ z ∧ z ≤ (es.length : Int)) ∧ Aside0 (es.length - z.toNat ≤ gg) ∧ Aside0 (wr.heap[gm]? = some (.cells #[.int .i64 a0_0, .slice (some ad) l0_1.length c0_1] 28 (0, 0))) ∧ Aside0 (wr.heap[gf]? = some (.cells #[.int .i64 0, .int .i64 0, .int .i64 0] 94 (0, 0))) ∧ Aside0 (wr.heap[ga]? = some (.cells #[.int .i64 (rd l0_1 x)] 3 (0, 0))) ∧ Aside0 (Below w.heap.size w wr) ∧ Aside0 (Kd.R (Kd.int .i64) 3 wr w.heap.size (fun _ => True) (.slice AHO es.length cHO) es) ∧ Aside0 (ah.l2 k l0_1 (rd l0_1 x) (rd l0_1 y) (es.drop z.toNat) = some t2))
    case atStart => exact ⟨0, rfl, ⟨by omega⟩, ⟨by omega⟩, ⟨ay BM⟩, ⟨ay BF⟩, ⟨ay BA⟩, ⟨(aH HB)⟩, ⟨ak HO⟩, ⟨HK0.out⟩⟩
    clear HK0 HO; try clear zBM
    try clear zBA
    try clear hy
    obtain ⟨z, rfl, HZ, HG3, BM, BF, BA, HB, HO, HK⟩ := hrel; by_cases hlt3 : z < (es.length : Int)
    ·have p3 : 0 ≤ z := HZ.out.1; have l3 : decide (z < (es.length : Int)) = true := decide_eq_true hlt3; obtain ⟨ad3, ea3, hz⟩ := Kd.k7 ((Kd.j4 HO.out).2.2) z p3 hlt3; cases ea3; have hK := HK.out; rw [dE es z p3 hlt3] at hK; simp only [ah.l2] at hK; obtain ⟨fs, hE, hK⟩ := Option.bind_eq_some_iff.1 hK; obtain ⟨tb, hA, hK⟩ := Option.bind_eq_some_iff.1 hK; have HE2 := Lib.hid hE; have HA := Lib.hid hA; have HK1 := Lib.hid hK; have E3 := Lib.hid (bu (n := z + 1) (by omega) (by omega)); have Q3 := aQ hlt3; replace p3 := eq_true p3; replace hlt3 := eq_true hlt3; clear HK hE hA hK; have zBM : wr.cell? ⟨gm, 1, none⟩ = some (.slice (some ad) l0_1.length c0_1) := (bkcl BM 1).trans rfl; have zBA : wr.cell? ⟨ga, 0, none⟩ = some (.int .i64 (rd l0_1 x)) := (bkcl BA 0).trans rfl; go_wp2_with (first | ((with_reducible refine aC (N := 9) rfl ?_); refine bx 9 #[.int .i64 0] 3 ?_; intro ge hg w1_ hbox hb; have n_BM := bb BM hb; have n_BF := bb BF hb; have n_BA := bb BA hb; have n_NBMBE := aQ ((by rw [hg]; exact Nat.ne_of_lt (br (g := gm) (o := .cells #[.int .i64 a0_0, .slice (some ad) l0_1.length c0_1] 28 (0, 0)) (ay BM))) : gm ≠ ge); have n_NBFBE := aQ ((by rw [hg]; exact Nat.ne_of_lt (br (g := gf) (o := .cells #[.int .i64 0, .int .i64 0, .int .i64 0] 94 (0, 0)) (ay BF))) : gf ≠ ge); have n_NBABE := aQ ((by rw [hg]; exact Nat.ne_of_lt (br (g := ga) (o := .cells #[.int .i64 (rd l0_1 x)] 3 (0, 0)) (ay BA))) : ga ≠ ge); have n_HB := bs HB hb; have n_GBE := aQ ((by rw [hg]; exact ab (aH HB)) : w.heap.size ≤ ge); replace HO := aQ (Kd.k8 (Kd.r9 (ak HO) ge (by rw [hg]; exact Nat.le_refl _)) hb); clear BM BF BA; clear HB; have HB := n_HB; have GBE := n_GBE; have BE := aQ hbox; have BM := n_BM; have NBMBE := n_NBMBE; have BF := n_BF; have NBFBE := n_NBFBE; have BA := n_BA; have NBABE := n_NBABE; clear n_HB n_GBE n_BM n_NBMBE n_BF n_NBFBE n_BA n_NBABE; clear hb hbox hg; have zBA3 : w1_.cell? ⟨ga, 0, none⟩ = some (.int .i64 (rd l0_1 x)) := (bkcl BA 0).trans rfl; have zBE3 : w1_.cell? ⟨ge, 0, none⟩ = some (.int .i64 0) := (bkcl BE 0).trans rfl; have fBE := aw BE.out 0; have nBME := NBMBE.out; have nBFE := NBFBE.out; have nBAE := NBABE.out; have nBME2 := Ne.symm nBME; have nBFE2 := Ne.symm nBFE; have nBAE2 := Ne.symm nBAE) | (go_at_call 104; (with_reducible refine (an.j3 k _ fs _ HE2.out).mono ?_); rintro e w1_ ⟨v_, rfl, ho_, hb⟩; have n_BM := aQ (bd (g := gm) (o := .cells #[.int .i64 a0_0, .slice (some ad) l0_1.length c0_1] 28 (0, 0)) (by refine pkx ?_; refine aX ?_ nBME _; refine pkx ?_; exact BM.out) hb); have n_BF := aQ (bd (g := gf) (o := .cells #[.int .i64 0, .int .i64 0, .int .i64 0] 94 (0, 0)) (by refine pkx ?_; refine aX ?_ nBFE _; refine pkx ?_; exact BF.out) hb); have n_BA := aQ (bd (g := ga) (o := .cells #[.int .i64 (rd l0_1 x)] 3 (0, 0)) (by refine pkx ?_; refine aX ?_ nBAE _; refine pkx ?_; exact BA.out) hb); have n_BE := aQ (bd (g := ge) (o := .cells #[.int .i64 (rd es z)] 3 (0, 0)) (by refine pkx ?_; refine a6 (cs := #[.int .i64 0]) ?_ 0 _ rfl; refine pkx ?_; exact BE.out) hb); have n_HO := aQ (Kd.k8 (Kd.j5 (Kd.l6 (p := ⟨ge, 0, none⟩) (ak HO) (fun k_ (hk : True ∧ k_ ≠ ge) => hk.2) (.int .i64 (rd es z))) (fun _ _ => trivial)) hb); have n_HP := aQ (Kd.j9 ho_ (ab (pb HB))); have n_HB := bs HB hb; clear HB; clear BM; have BM := n_BM; clear BF; have BF := n_BF; clear BA; have BA := n_BA; clear BE; have BE := n_BE; clear HO; have HO := n_HO; have HB := n_HB; have HP := n_HP; clear n_HB n_HP n_HO n_BM n_BF n_BA n_BE hb ho_; obtain ⟨AHP, cHP, eHP⟩ := Kd.k4 HP.out; subst eHP))
     (with_reducible refine (dy (fun f => ah.c k l0_1 (rd l0_1 x) (rd es z) f) 147 _ EG.out _ _ fs tb _ (Kd.j4 HP.out).2.2 HA.out (fun W f b hb hg => b8 (by simp) (di k a0_0 (some ad) c0_1 l0_1 (rd l0_1 x) (rd es z) f b gm ga ge W (Kd.k6 (Kd.k6 HR.out HB.out) hb) HC.out (bd BM.out hb) (bd BA.out hb) (bd BE.out hb) hg))).mono ?_); rintro e w9_ ⟨rfl, hb⟩
     have n_BM := aQ (bd BM.out hb); have n_BF := aQ (bd BF.out hb); have n_BA := aQ (bd BA.out hb); have n_BE := aQ (bd BE.out hb); have n_HO := aQ (Kd.k8 HO.out hb); have n_HB := aQ (b3 HB.out hb); clear BM BF BA BE HO HB HP hb; have BM := n_BM; clear n_BM; have BF := n_BF; clear n_BF; have BA := n_BA; clear n_BA; have BE := n_BE; clear n_BE; have HO := n_HO; clear n_HO; have HB := n_HB; clear n_HB; have hk1 := HK1.out; clear HK1 HA HE2; cases tb with
     | true =>
      rw [if_pos rfl] at hk1; have HK2 := Lib.hid hk1; clear hk1; go_wp2
      go_roundg (es.length - (z + 1).toNat)
      case measure => have := HG3.out; have := HZ.out; have := Q3.out; omega
      case rel => exact ⟨z + 1, by rw [E3.out], ⟨by have := HZ.out; have := Q3.out; omega⟩, ⟨Nat.le_refl _⟩, ⟨ay BM⟩, ⟨ay BF⟩, ⟨ay BA⟩, ⟨(aH HB)⟩, ⟨ak HO⟩, ⟨HK2.out⟩⟩
     | false =>
      rw [if_neg (by decide)] at hk1; simp only [Option.some.injEq] at hk1; subst hk1; have hj := HJ1.out; simp only [Option.some.injEq] at hj; subst hj; have hi := HI1.out; simp only [Option.some.injEq] at hi; subst hi; have hu := HU.out; simp only [Option.some.injEq, Prod.mk.injEq] at hu; obtain ⟨rfl, rfl, rfl, rfl⟩ := hu; clear HJ1 HI1 HU; have zBA4 : w9_.cell? ⟨ga, 0, none⟩ = some (.int .i64 (rd l0_1 x)) := (bkcl BA 0).trans rfl; have zBE4 : w9_.cell? ⟨ge, 0, none⟩ = some (.int .i64 (rd es z)) := (bkcl BE 0).trans rfl; have zBF0 : w9_.cell? ⟨gf, 0, none⟩ = some (.int .i64 0) := (bkcl BF 0).trans rfl; have zBF1 : w9_.cell? ⟨gf, 1, none⟩ = some (.int .i64 0) := (bkcl BF 1).trans rfl; have zBF2 : w9_.cell? ⟨gf, 2, none⟩ = some (.int .i64 0) := (bkcl BF 2).trans rfl; have fBF0 := aw BF.out 0; have fBF1 := aw BF.out 1; have fBF2 := aw BF.out 2; go_wp2
      refine bodyPost_ret (cl rfl _ _ gf 94 #[.int .i64 (rd l0_1 x), .int .i64 (rd l0_1 y), .int .i64 (rd es z)] (0, 0) _ rfl (by refine pkx ?_; refine a6 (cs := #[.int .i64 (rd l0_1 x), .int .i64 (rd l0_1 y), .int .i64 0]) ?_ 2 _ rfl; refine pkx ?_; refine a6 (cs := #[.int .i64 (rd l0_1 x), .int .i64 0, .int .i64 0]) ?_ 1 _ rfl; refine pkx ?_; refine a6 (cs := #[.int .i64 0, .int .i64 0, .int .i64 0]) ?_ 0 _ rfl; refine pkx ?_; exact BF.out) underlying94 rfl (by kernel_rfl)) rfl ?_; exact ⟨rs_, (pb HB)⟩
    ·have l3 : decide (z < (es.length : Int)) = false := decide_eq_false hlt3; have hK := HK.out; rw [cv es z hlt3] at hK; simp only [ah.l2, Option.some.injEq] at hK; subst hK; have hj := HJ1.out; have HJ2 := Lib.hid (show ah.l1 k l0_1 (rd l0_1 x) (l0_1.drop (y + 1).toNat) = some t1 from hj); clear hj HJ1 HK hlt3; go_wp2
     go_roundg (l0_1.length - (y + 1).toNat)
     case measure => have := HG2.out; have := HY.out; have := Q2.out; omega
     case rel => exact ⟨y + 1, by rw [E2.out], ⟨by have := HY.out; have := Q2.out; omega⟩, ⟨Nat.le_refl _⟩, ⟨ay BM⟩, ⟨ay BF⟩, ⟨ay BA⟩, ⟨(aH HB)⟩, ⟨HJ2.out⟩⟩
   ·have l2 : decide (y < (l0_1.length : Int)) = false := decide_eq_false hlt2; have hJ := HJ.out; rw [cv l0_1 y hlt2] at hJ; simp only [ah.l1, Option.some.injEq] at hJ; subst hJ; have hi := HI1.out; have HI2 := Lib.hid (show ah.l0 k l0_1 (l0_1.drop (x + 1).toNat) = some u from hi); clear hi HI1 HJ hlt2; go_wp2
    go_roundg (l0_1.length - (x + 1).toNat)
    case measure => have := HG.out; have := HX.out; have := Q1.out; omega
    case rel => exact ⟨x + 1, by rw [E1.out], ⟨by have := HX.out; have := Q1.out; omega⟩, ⟨Nat.le_refl _⟩, ⟨ay BM⟩, ⟨ay BF⟩, ⟨(aH HB)⟩, ⟨HI2.out⟩⟩
  ·have l1 : decide (x < (l0_1.length : Int)) = false := decide_eq_false hlt; have hI := HI.out; rw [cv l0_1 x hlt] at hI; simp only [ah.l0, Option.some.injEq] at hI; subst hI; have hu := HU.out; simp only [Option.some.injEq, Prod.mk.injEq] at hu; obtain ⟨rfl, rfl, rfl, rfl⟩ := hu; clear HI hlt HU; have zBF0 : wr.cell? ⟨gf, 0, none⟩ = some (.int .i64 0) := (bkcl BF 0).trans rfl; have zBF1 : wr.cell? ⟨gf, 1, none⟩ = some (.int .i64 0) := (bkcl BF 1).trans rfl; have zBF2 : wr.cell? ⟨gf, 2, none⟩ = some (.int .i64 0) := (bkcl BF 2).trans rfl; have fBF0 := aw BF.out 0; have fBF1 := aw BF.out 1; have fBF2 := aw BF.out 2; go_wp2
   refine bodyPost_ret (cl rfl _ _ gf 94 #[.int .i64 0, .int .i64 0, .int .i64 0] (0, 0) _ rfl (by refine pkx ?_; refine a6 (cs := #[.int .i64 0, .int .i64 0, .int .i64 0]) ?_ 2 _ rfl; refine pkx ?_; refine a6 (cs := #[.int .i64 0, .int .i64 0, .int .i64 0]) ?_ 1 _ rfl; refine pkx ?_; refine a6 (cs := #[.int .i64 0, .int .i64 0, .int .i64 0]) ?_ 0 _ rfl; refine pkx ?_; exact BF.out) underlying94 rfl (by kernel_rfl)) rfl ?_; exact ⟨rs_, (pb HB)⟩
 ·have c4 := Bool.eq_false_iff.mpr c3; subst c4; clear c3; rw [if_neg (by decide)] at H; obtain ⟨rfl, rfl, rfl, rfl⟩ := o4 H; go_enter func116, ntmps116; go_wp2_with (first | ((with_reducible refine aC (N := 1) rfl ?_); refine bx 1 #[.int .i64 a0_0, .slice A0_1 l0_1.length c0_1] 28 ?_; intro gm hg w1_ hbox hb; have n_HB := bs HB hb; have n_GBM := aQ ((by rw [hg]; exact ab (aH HB)) : w.heap.size ≤ gm); clear HB; have HB := n_HB; have GBM := n_GBM; have BM := aQ hbox; clear n_HB n_GBM; clear hb hbox hg; have zBM0 : w1_.cell? ⟨gm, 0, none⟩ = some (.int .i64 a0_0) := (bkcl BM 0).trans rfl; have zBM1 : w1_.cell? ⟨gm, 1, none⟩ = some (.slice A0_1 l0_1.length c0_1) := (bkcl BM 1).trans rfl) | ((with_reducible refine aC (N := 2) rfl ?_); refine bx 2 #[.int .i64 0, .int .i64 0, .int .i64 0] 94 ?_; intro gf hg w1_ hbox hb; have n_BM := bb BM hb; have n_NBMBF := aQ ((by rw [hg]; exact Nat.ne_of_lt (br (g := gm) (o := .cells #[.int .i64 a0_0, .slice A0_1 l0_1.length c0_1] 28 (0, 0)) (ay BM))) : gm ≠ gf); have n_HB := bs HB hb; have n_GBF := aQ ((by rw [hg]; exact ab (aH HB)) : w.heap.size ≤ gf); clear BM; clear HB; have HB := n_HB; have GBF := n_GBF; have BF := aQ hbox; have BM := n_BM; have NBMBF := n_NBMBF; clear n_HB n_GBF n_BM n_NBMBF; clear hb hbox hg; have zBM0 : w1_.cell? ⟨gm, 0, none⟩ = some (.int .i64 a0_0) := (bkcl BM 0).trans rfl; have zBM1 : w1_.cell? ⟨gm, 1, none⟩ = some (.slice A0_1 l0_1.length c0_1) := (bkcl BM 1).trans rfl; have zBF0 : w1_.cell? ⟨gf, 0, none⟩ = some (.int .i64 0) := (bkcl BF 0).trans rfl; have fBF0 := aw BF.out 0; have zBF1 : w1_.cell? ⟨gf, 1, none⟩ = some (.int .i64 0) := (bkcl BF 1).trans rfl; have fBF1 := aw BF.out 1; have zBF2 : w1_.cell? ⟨gf, 2, none⟩ = some (.int .i64 0) := (bkcl BF 2).trans rfl; have fBF2 := aw BF.out 2) | (go_at_call 117; (with_reducible refine (aM.j3 k a0_0 _ _ l0_1 false _ ?side1 ?side2 HF.out).mono ?_); (case side1 => exact pC (Kd.k6 HR.out HB.out)); (case side2 => exact HC.out); rintro e w' ⟨rfl, ⟨nd, rfl⟩⟩))
  refine bodyPost_ret (cl rfl _ _ gf 94 #[.int .i64 0, .int .i64 0, .int .i64 0] (0, 0) _ rfl (by refine pkx ?_; refine a6 (cs := #[.int .i64 0, .int .i64 0, .int .i64 0]) ?_ 2 _ rfl; refine pkx ?_; refine a6 (cs := #[.int .i64 0, .int .i64 0, .int .i64 0]) ?_ 1 _ rfl; refine pkx ?_; refine a6 (cs := #[.int .i64 0, .int .i64 0, .int .i64 0]) ?_ 0 _ rfl; refine pkx ?_; exact BF.out) underlying94 rfl (by kernel_rfl)) rfl ?_; exact ⟨rs_, (pb HB)⟩
end Go.Proofs.Ytimkekeaeojpkaa.A
namespace Go.Proofs.Ytimkekeaeojpkaa.A
open Go.RowKit Go.Proofs.YtimkekeaeojpkaaW.PrintWords Go.Proofs.YtimkekeaeojpkaaW.PrintLast Go.Proofs.YtimkekeaeojpkaaW.PrintMore Try
attribute [local go_sem] bA bv bK bJ bl bk bw bz
set_option linter.unusedVariables false
set_option linter.unusedSimpArgs false
def aV.f (k : Nat) (a0_0 : Int) (l0_1 : List Int) : Option (Bool) := (ah.f k a0_0 l0_1).bind fun btq0 => ((aM.f k a0_0 l0_1).bind fun tq1 => (if tq1 = true then (if (l0_1.length : Int) > 0 then (some (!btq0.2.2.2)) else (some false)) else (some false)))
theorem aV.j3 (k : Nat) (a0_0 : Int) (A0_1 : Option Addr) (c0_1 : Nat) (l0_1 : List Int) (r : Bool) (w : World) (hr0_1 : Kd.C (Kd.int .i64) w A0_1 l0_1.length l0_1) (hc0_1 : l0_1.length ≤ c0_1) (h : aV.f k a0_0 l0_1 = some r) :
  CB Try.prog 62 #[.agg #[.int .i64 a0_0, .slice A0_1 l0_1.length c0_1]] w (.bool r) := by
 have hu28 := underlying28; have hu94 := underlying94; have HR0_1 := aQ hr0_1; have HC0_1 := aQ hc0_1; clear hr0_1 hc0_1; have HB := aQ (Below.refl w.heap.size w); have H := h; clear h; unfold aV.f at H; (try dsimp only at H); replace H := bo H; obtain ⟨⟨tq0, tq2, tq3, tq4⟩, A2, H⟩ := H; (try dsimp only at H); replace H := bo H; obtain ⟨tq1, A3, H⟩ := H; replace H := ckB H; obtain ⟨rfl, H⟩ | ⟨rfl, H⟩ := H
 ·by_cases c5 : (l0_1.length : Int) > 0
  ·rw [if_pos c5] at H; have c5b0 := decide_eq_true c5; have c5b1 : decide (0 < l0_1.length) = true := decide_eq_true (by omega); clear c5; obtain rfl := oj H; go_enter func62, ntmps62; go_wp2_with (first | ((with_reducible refine aC (N := 1) rfl ?_); (try (refine a7 (by rfl) ?_; dsimp only)); refine bx 1 #[.int .i64 a0_0, .slice A0_1 l0_1.length c0_1] 28 ?_; intro gbq5 hg w6 hbox hb; have BKq5 := aQ (hbox); have GEq5 := gB HB hg; replace HB := bs HB hb; clear hb hbox hg; obtain ⟨_, _, _, _⟩ := cz2 BKq5) | (refine gt 116 ?_; refine gcB (some 7) func116 (ah.j3 k a0_0 _ _ l0_1 tq0 tq2 tq3 tq4 _ (pC (Cbel HR0_1 HB)) HC0_1.out A2.out) ?_; intro w8 hb; replace BKq5 := bb BKq5 hb; replace HB := bs HB hb; (try clear hb)) | ((with_reducible refine aC (N := 3) rfl ?_); (try (refine a7 (by rfl) ?_; dsimp only)); refine bx 3 #[.int .i64 0, .int .i64 0, .int .i64 0] 94 ?_; intro gbq6 hg w9 hbox hb; have BKq6 := aQ (hbox); have GEq6 := gB HB hg; replace HB := bs HB hb; have NBq5_q6 := nl BKq5 hg; have NBq6_q5 := ng BKq5 hg; replace BKq5 := bb BKq5 hb; clear hb hbox hg; have := NBq6_q5.out; have := NBq5_q6.out; have hcz11_0 := bc (v := (.int .i64 0)) BKq6.out 0; have hcz11_1 := bc (v := (.int .i64 0)) BKq6.out 1; have hcz11_2 := bc (v := (.int .i64 0)) BKq6.out 2; have hfz11_0 := aw BKq6.out 0; have hfz11_1 := aw BKq6.out 1; have hfz11_2 := aw BKq6.out 2; obtain ⟨_, _, _, _⟩ := cz2 BKq5) | (refine gt 117 ?_; refine gcD (some 14) func117 (aM.j3 k a0_0 _ _ l0_1 true _ (Kd.k6 HR0_1.out (ao HB GEq5 GEq6)) HC0_1.out A3.out) ?_; intro nd))
   go_ret
   exact ⟨re_, ao HB GEq5 GEq6⟩
  ·rw [if_neg c5] at H; have c5b0 := decide_eq_false c5; have c5b1 : decide (0 < l0_1.length) = false := decide_eq_false (by omega); clear c5; obtain rfl := oj H; go_enter func62, ntmps62; go_wp2_with (first | ((with_reducible refine aC (N := 1) rfl ?_); (try (refine a7 (by rfl) ?_; dsimp only)); refine bx 1 #[.int .i64 a0_0, .slice A0_1 l0_1.length c0_1] 28 ?_; intro gbq5 hg w13 hbox hb; have BKq5 := aQ (hbox); have GEq5 := gB HB hg; replace HB := bs HB hb; clear hb hbox hg; obtain ⟨_, _, _, _⟩ := cz2 BKq5) | (refine gt 116 ?_; refine gcB (some 7) func116 (ah.j3 k a0_0 _ _ l0_1 tq0 tq2 tq3 tq4 _ (pC (Cbel HR0_1 HB)) HC0_1.out A2.out) ?_; intro w15 hb; replace BKq5 := bb BKq5 hb; replace HB := bs HB hb; (try clear hb)) | ((with_reducible refine aC (N := 3) rfl ?_); (try (refine a7 (by rfl) ?_; dsimp only)); refine bx 3 #[.int .i64 0, .int .i64 0, .int .i64 0] 94 ?_; intro gbq6 hg w16 hbox hb; have BKq6 := aQ (hbox); have GEq6 := gB HB hg; replace HB := bs HB hb; have NBq5_q6 := nl BKq5 hg; have NBq6_q5 := ng BKq5 hg; replace BKq5 := bb BKq5 hb; clear hb hbox hg; have := NBq6_q5.out; have := NBq5_q6.out; have hcz18_0 := bc (v := (.int .i64 0)) BKq6.out 0; have hcz18_1 := bc (v := (.int .i64 0)) BKq6.out 1; have hcz18_2 := bc (v := (.int .i64 0)) BKq6.out 2; have hfz18_0 := aw BKq6.out 0; have hfz18_1 := aw BKq6.out 1; have hfz18_2 := aw BKq6.out 2; obtain ⟨_, _, _, _⟩ := cz2 BKq5) | (refine gt 117 ?_; refine gcD (some 14) func117 (aM.j3 k a0_0 _ _ l0_1 true _ (Kd.k6 HR0_1.out (ao HB GEq5 GEq6)) HC0_1.out A3.out) ?_; intro nd))
   go_ret
   exact ⟨re_, ao HB GEq5 GEq6⟩
 ·obtain rfl := oj H; go_enter func62, ntmps62; go_wp2_with (first | ((with_reducible refine aC (N := 1) rfl ?_); (try (refine a7 (by rfl) ?_; dsimp only)); refine bx 1 #[.int .i64 a0_0, .slice A0_1 l0_1.length c0_1] 28 ?_; intro gbq5 hg w20 hbox hb; have BKq5 := aQ (hbox); have GEq5 := gB HB hg; replace HB := bs HB hb; clear hb hbox hg; obtain ⟨_, _, _, _⟩ := cz2 BKq5) | (refine gt 116 ?_; refine gcB (some 7) func116 (ah.j3 k a0_0 _ _ l0_1 tq0 tq2 tq3 tq4 _ (pC (Cbel HR0_1 HB)) HC0_1.out A2.out) ?_; intro w22 hb; replace BKq5 := bb BKq5 hb; replace HB := bs HB hb; (try clear hb)) | ((with_reducible refine aC (N := 3) rfl ?_); (try (refine a7 (by rfl) ?_; dsimp only)); refine bx 3 #[.int .i64 0, .int .i64 0, .int .i64 0] 94 ?_; intro gbq6 hg w23 hbox hb; have BKq6 := aQ (hbox); have GEq6 := gB HB hg; replace HB := bs HB hb; have NBq5_q6 := nl BKq5 hg; have NBq6_q5 := ng BKq5 hg; replace BKq5 := bb BKq5 hb; clear hb hbox hg; have := NBq6_q5.out; have := NBq5_q6.out; have hcz25_0 := bc (v := (.int .i64 0)) BKq6.out 0; have hcz25_1 := bc (v := (.int .i64 0)) BKq6.out 1; have hcz25_2 := bc (v := (.int .i64 0)) BKq6.out 2; have hfz25_0 := aw BKq6.out 0; have hfz25_1 := aw BKq6.out 1; have hfz25_2 := aw BKq6.out 2; obtain ⟨_, _, _, _⟩ := cz2 BKq5) | (refine gt 117 ?_; refine gcD (some 14) func117 (aM.j3 k a0_0 _ _ l0_1 false _ (Kd.k6 HR0_1.out (ao HB GEq5 GEq6)) HC0_1.out A3.out) ?_; intro nd))
  go_ret
  exact ⟨re_, ao HB GEq5 GEq6⟩
def cx.f (a0 : Bool) : Option (Int) := if a0 = true then (some 1) else (some 0)
theorem cx.j3 (a0 : Bool) (r : Int) (w : World) (h : cx.f a0 = some r) :
  CD Try.prog 107 #[.bool a0] w (.int .i64 r) := by
 have H : (if a0 = true then (some 1) else (some 0)) = some r := h; clear h; replace H := ckB H; obtain ⟨rfl, H⟩ | ⟨rfl, H⟩ := H
 ·obtain rfl := oj H; go_enter func107, ntmps107; go_wp2
  go_ret
  exact ⟨rs_, rd_⟩
 ·obtain rfl := oj H; go_enter func107, ntmps107; go_wp2
  go_ret
  exact ⟨rs_, rd_⟩
def laws_szIntS.f (l0 : List Int) (a1 : Int) : Option (Int) := if (wrap64 (a1 - (l0.length : Int))) < 0 then (some (-1)) else (some (wrap64 (a1 - (l0.length : Int))))
theorem laws_szIntS.j3 (A0 : Option Addr) (c0 : Nat) (l0 : List Int) (a1 : Int) (r : Int) (w : World) (hr0 : Kd.C (Kd.int .i64) w A0 l0.length l0) (hc0 : l0.length ≤ c0) (h : laws_szIntS.f l0 a1 = some r) :
  CD Try.prog 56 #[.slice A0 l0.length c0, .int .i64 a1] w (.int .i64 r) := by
 have HR0 := aQ hr0; have HC0 := aQ hc0; clear hr0 hc0; have H := h; clear h; unfold laws_szIntS.f at H; (try dsimp only at H); replace H := ckD H; obtain ⟨c3b0, H⟩ | ⟨c3b0, H⟩ := H
 ·obtain rfl := oj H; go_enter func56, ntmps56; go_wp2
  go_ret
  exact ⟨rs_, rd_⟩
 ·obtain rfl := oj H; go_enter func56, ntmps56; go_wp2
  go_ret
  exact ⟨rs_, rd_⟩
def laws_szMatroid.f (a0_0 : Int) (l0_1 : List Int) (a1 : Int) : Option (Int) := (laws_szIntS.f l0_1 a1).bind fun tq0 => (if tq0 < 0 then (some (-1)) else (some tq0))
theorem laws_szMatroid.j3 (a0_0 : Int) (A0_1 : Option Addr) (c0_1 : Nat) (l0_1 : List Int) (a1 : Int) (r : Int) (w : World) (hr0_1 : Kd.C (Kd.int .i64) w A0_1 l0_1.length l0_1) (hc0_1 : l0_1.length ≤ c0_1) (h : laws_szMatroid.f a0_0 l0_1 a1 = some r) :
  CB Try.prog 8 #[.agg #[.int .i64 a0_0, .slice A0_1 l0_1.length c0_1], .int .i64 a1] w (.int .i64 r) := by
 have hu24 := underlying24; have HR0_1 := aQ hr0_1; have HC0_1 := aQ hc0_1; clear hr0_1 hc0_1; have HB := aQ (Below.refl w.heap.size w); have H := h; clear h; unfold laws_szMatroid.f at H; (try dsimp only at H); replace H := bo H; obtain ⟨tq0, A3, H⟩ := H; replace H := ckD H; obtain ⟨c4b0, H⟩ | ⟨c4b0, H⟩ := H
 ·obtain rfl := oj H; go_enter func8, ntmps8; go_wp2_with (first | (refine bX 2 #[.int .i64 a0_0, .slice A0_1 l0_1.length c0_1] 24 ?_; intro gbq1 hg w5 BKq1 hb; have GEq1 := gB HB hg; replace HB := bs HB hb; clear hb hg; obtain ⟨_, _, _, _⟩ := cz2 BKq1) | (refine gt 56 ?_; refine gcD (some 8) func56 (laws_szIntS.j3 _ _ l0_1 a1 tq0 _ (pC (Cbel HR0_1 HB)) HC0_1.out A3.out) ?_; intro nd))
  go_ret
  exact ⟨re_, bU HB GEq1⟩
 ·obtain rfl := oj H; go_enter func8, ntmps8; go_wp2_with (first | (refine bX 2 #[.int .i64 a0_0, .slice A0_1 l0_1.length c0_1] 24 ?_; intro gbq1 hg w7 BKq1 hb; have GEq1 := gB HB hg; replace HB := bs HB hb; clear hb hg; obtain ⟨_, _, _, _⟩ := cz2 BKq1) | (refine gt 56 ?_; refine gcD (some 8) func56 (laws_szIntS.j3 _ _ l0_1 a1 tq0 _ (pC (Cbel HR0_1 HB)) HC0_1.out A3.out) ?_; intro nd))
  go_ret
  exact ⟨re_, bU HB GEq1⟩
def bi.l0 : Nat → List Int → List Int → Int → Option (Bool)
 | 0, _, _, _ => none
 | k + 1, x0, x1, x5 => if x5 < (x0.length : Int) then (if 0 ≤ x5 then (if x5 < (x1.length : Int) then (if (rd x0 x5) = (rd x1 x5) then (bi.l0 k x0 x1 (wrap64 (x5 + 1))) else (some false)) else (none)) else (none)) else (some true)
def bi.f (k : Nat) (l0 : List Int) (l1 : List Int) : Option (Bool) := if (l0.length : Int) = (l1.length : Int) then (bi.l0 k l0 l1 0) else (some false)
theorem bi.j3 (k : Nat) (A0 : Option Addr) (c0 : Nat) (l0 : List Int) (A1 : Option Addr) (c1 : Nat) (l1 : List Int) (r : Bool) (w : World) (hr0 : Kd.C (Kd.int .i64) w A0 l0.length l0) (hc0 : l0.length ≤ c0) (hr1 : Kd.C (Kd.int .i64) w A1 l1.length l1) (hc1 : l1.length ≤ c1) (h : bi.f k l0 l1 = some r) :
  CD Try.prog 57 #[.slice A0 l0.length c0, .slice A1 l1.length c1] w (.bool r) := by
 have HR0 := aQ hr0; have HC0 := aQ hc0; clear hr0 hc0; have HR1 := aQ hr1; have HC1 := aQ hc1; clear hr1 hc1; have H := h; clear h; unfold bi.f at H; (try dsimp only at H); by_cases c3 : (l0.length : Int) = (l1.length : Int)
 ·rw [if_pos c3] at H; obtain ⟨c3b0, c3b1⟩ := eqT c3; have c3b2 : (l0.length == l1.length) = true := by first | simpa using c3 | (simp at c3 ⊢; omega)
  clear c3; have H' := aQ H; clear H; go_enter func57, ntmps57; go_wp2
  repeat (go_quiet (fail); try go_wp2)
  go_loopg [5] k (fun kq v5 w' => ∃ (x5_1 : Int), v5 = .int .i64 x5_1 ∧ Aside0 (bi.l0 kq l0 l1 x5_1 = some r) ∧ Aside0 (kq ≤ k) ∧ Drawn0 w w')
  case atStart => exact ⟨(0), rs_, H', ⟨Nat.le_refl _⟩, rd_⟩
  clear H'; try clear c1
  try clear c3
  try clear c3b0
  try clear c3b1
  try clear c3b2
  obtain ⟨x5_1, rfl, HA, HK1, ⟨m1, rfl⟩⟩ := hrel; rcases gk with _ | k1
  ·exact absurd HA.out (by simp [bi.l0])
  have H := HA.out; clear HA; simp only [bi.l0] at H; replace H := ckD H; obtain ⟨c4b0, H⟩ | ⟨c4b0, H⟩ := H
  ·replace H := gdD H; obtain ⟨c5b0, H⟩ := H; replace H := gdD H; obtain ⟨c6b0, H⟩ := H; replace H := ckE H; obtain ⟨c7b0, c7b1, H⟩ | ⟨c7, c7b0, c7b1, H⟩ := H
   ·have H' := aQ H; clear H; have pq0 : 0 ≤ (x5_1 : Int) := of_decide_eq_true as_; have qq0 : x5_1 < (l0.length : Int) := of_decide_eq_true as_; obtain ⟨adq0, eq0, hxq0_0⟩ := Kd.k7 HR0.out x5_1 pq0 qq0; cases eq0; replace pq0 := eq_true pq0; replace qq0 := eq_true qq0; have pq1 : 0 ≤ (x5_1 : Int) := of_decide_eq_true as_; have qq1 : x5_1 < (l1.length : Int) := of_decide_eq_true as_; obtain ⟨adq1, eq1, hxq1_0⟩ := Kd.k7 HR1.out x5_1 pq1 qq1; cases eq1; replace pq1 := eq_true pq1; replace qq1 := eq_true qq1; go_wp2
    repeat (go_quiet (fail); try go_wp2)
    go_roundg k1
    case measure => exact omeg HK1
    case rel => exact ⟨(wrap64 (x5_1 + 1)), rs_, H', ⟨omeg HK1⟩, rd_⟩
   ·obtain rfl := oj H; have pq0 : 0 ≤ (x5_1 : Int) := of_decide_eq_true as_; have qq0 : x5_1 < (l0.length : Int) := of_decide_eq_true as_; obtain ⟨adq0, eq0, hxq0_0⟩ := Kd.k7 HR0.out x5_1 pq0 qq0; cases eq0; replace pq0 := eq_true pq0; replace qq0 := eq_true qq0; have pq1 : 0 ≤ (x5_1 : Int) := of_decide_eq_true as_; have qq1 : x5_1 < (l1.length : Int) := of_decide_eq_true as_; obtain ⟨adq1, eq1, hxq1_0⟩ := Kd.k7 HR1.out x5_1 pq1 qq1; cases eq1; replace pq1 := eq_true pq1; replace qq1 := eq_true qq1; go_wp2
    repeat (go_quiet (fail); try go_wp2)
    go_ret
    exact ⟨rs_, rd_⟩
  ·obtain rfl := oj H; go_wp2
   repeat (go_quiet (fail); try go_wp2)
   go_ret
   exact ⟨rs_, rd_⟩
 ·rw [if_neg c3] at H; obtain ⟨c3b0, c3b1⟩ := eqF c3; have c3b2 : (l0.length == l1.length) = false := by first | simpa using c3 | (simp at c3 ⊢; omega)
  obtain rfl := oj H; go_enter func57, ntmps57; go_wp2
  repeat (go_quiet (fail); try go_wp2)
  go_ret
  exact ⟨rs_, rd_⟩
mutual
def aj.l0 : Nat → List Int → Int → Int → List Int → Option (List Int)
 | 0, _, _, _, _ => none
 | k + 1, x3, x4, x61002000, x61002001 => if x4 < (x61002001.length : Int) then (aj.l1 k x3 x4 0 x61002000 x61002001) else (some x3)
def aj.l1 : Nat → List Int → Int → Int → Int → List Int → Option (List Int)
 | 0, _, _, _, _, _ => none
 | k + 1, x3, x4, x5, x61002000, x61002001 => if x5 < x61002000 then (if 0 ≤ x5 then (if x5 < (x3.length : Int) then (if 0 ≤ x4 then (if x4 < (x61002001.length : Int) then ((aU.f (rd x61002001 x4) x5).bind fun tq0 => ((cx.f tq0).bind fun tq1 => (aj.l1 k (x3.set (x5 : Int).toNat (wrap64 ((rd x3 x5) + tq1))) x4 (wrap64 (x5 + 1)) x61002000 x61002001))) else (none)) else (none)) else (none)) else (none)) else (aj.l0 k x3 (wrap64 (x4 + 1)) x61002000 x61002001)
end
def aj.f (k : Nat) (a0_0 : Int) (l0_1 : List Int) : Option (List Int) := if 0 ≤ a0_0 then (if (a0_0 : Int).toNat ≤ 35184372088832 then (aj.l0 k (List.replicate (a0_0 : Int).toNat 0) 0 a0_0 l0_1) else (none)) else (none)
def aj.T8 : Bool × List (List Nat × List Nat) := (true, [([], []), ([], []), ([], []), ([], []), ([2, 3], [2, 3]), ([4], [4]), ([], []), ([6], [6]), ([], []), ([7, 8], [7, 8]), ([9], [9]), ([], []), ([10, 11], [10, 11]), ([12, 12], [12]), ([5, 13], [5, 13]), ([0, 1, 0, 1, 2, 3, 4, 5, 6, 7, 8, 9, 10, 11, 12, 13, 14], [0, 1]), ([15, 14, 13, 0, 1, 2, 3, 4, 5, 6, 7, 8, 9, 10, 11, 12, 13, 14], [14, 15])])
def aj.B8 : List Nat := [0, 0, 0, 0, 12, 28, 0, 64, 0, 448, 960, 0, 4032, 8128, 16380, 32767, 65535]
theorem aj.tab8 : rtab .any (cG Try.f60 8) = aj.T8 := by kernel_rfl
theorem aj.bits8 : bR aj.T8.2 aj.B8 = true := by kernel_rfl
theorem aj.j3 (k : Nat) (a0_0 : Int) (A0_1 : Option Addr) (c0_1 : Nat) (l0_1 : List Int) (r : List Int) (w : World) (hr0_1 : Kd.C (Kd.int .i64) w A0_1 l0_1.length l0_1) (hc0_1 : l0_1.length ≤ c0_1) (h : aj.f k a0_0 l0_1 = some r) :
  Calls Try.prog 60 #[.agg #[.int .i64 a0_0, .slice A0_1 l0_1.length c0_1]] w fun e w' => ∃ v0_ : Value, e = .returned (v0_) ∧ Kd.R (Kd.int .i64) 3 w' w.heap.size (fun _ => True) v0_ r ∧ Below w.heap.size w w' := by
 have hu28 := underlying28; have HR0_1 := aQ hr0_1; have HC0_1 := aQ hc0_1; clear hr0_1 hc0_1; have HB := aQ (Below.refl w.heap.size w); have H := h; clear h; unfold aj.f at H; (try dsimp only at H); replace H := gdB H; obtain ⟨c2b0, c2b1, H⟩ := H; replace H := gdB H; obtain ⟨c3b0, c3b1, H⟩ := H; obtain ⟨yq2, hyq2⟩ : ∃ y_ : List Int, y_ = (List.replicate (a0_0 : Int).toNat 0) := ⟨_, rfl⟩; replace H : (aj.l0 k yq2 0 a0_0 l0_1) = some r := by first | (rw [hyq2]; with_reducible exact H) | (rw [hyq2]; exact H)
 have Nyq2 := aQ hyq2; clear hyq2; have H' := aQ H; clear H; go_enter func60, ntmps60; go_wp2_with (first | (refine bX 1 #[.int .i64 a0_0, .slice A0_1 l0_1.length c0_1] 28 ?_; intro gbq3 hg w4 BKq3 hb; have GEq3 := gB HB hg; replace HB := bs HB hb; clear hb hg; obtain ⟨hcz5_0, hcz5_1, hfz5_0, hfz5_1⟩ := cz2 BKq3) | ((with_reducible refine aC (N := 8) rfl ?_); refine Kd.r7 (Kd.int .i64) _ 3 rfl (N := 8) rfl 22 _ _ rfl a0_0 rfl rfl underlying22 (.int .i64 0) 8 bG rfl (by decide) (by omega) 0 (ok := fun _ => True) (okp := fun _ => True) rfl (fun _ hk => hk) trivial (of_decide_eq_true as_) (Nat.le_trans (Nat.mul_le_mul_right _ (of_decide_eq_true as_ : a0_0.toNat ≤ 35184372088832)) (by omega)) (Below.refl _ _) (Nat.le_refl _) ?_; intro vq4 w6 ho7 hb hg_ hnew_; clear hg_ hnew_; (first | rw [← Nyq2.out] at ho7 | (simp only [Int.reduceToNat] at ho7; rw [← Nyq2.out] at ho7)); have HOq5 := aQ (Kd.j9 ho7 (ab (bU HB GEq3))); replace BKq3 := bb BKq3 hb; replace HB := bs HB hb; clear hb ho7))
 go_loopg [4] k (fun kq v4 w' => ∃ (x3_1 : List Int) (x4_1 : Int), v4 = .int .i64 x4_1 ∧ Aside0 (aj.l0 kq x3_1 x4_1 a0_0 l0_1 = some r) ∧ Aside0 (kq ≤ k) ∧ Aside0 (Kd.R (Kd.int .i64) 3 w' w.heap.size (fun _ => True) vq4 x3_1) ∧ Aside0 (w'.heap[gbq3]? = some (.cells #[.int .i64 a0_0, (.slice A0_1 l0_1.length c0_1)] 28 (0, 0))) ∧ Aside0 (Below w.heap.size w w'))
 case atStart => exact ⟨(yq2), (0), rs_, H', ⟨Nat.le_refl _⟩, ⟨ak HOq5⟩, ⟨ay BKq3⟩, ⟨bU HB GEq3⟩⟩
 clear H'; try clear c2
 try clear c2b0
 try clear c2b1
 try clear c3
 try clear c3b0
 try clear c3b1
 try clear hcz5_0
 try clear hcz5_1
 try clear hfz5_0
 try clear hfz5_1
 obtain ⟨x3_1, x4_1, rfl, HA, HK1, HO_3, BKq3, HB⟩ := hrel; rcases gk with _ | k1
 ·exact absurd HA.out (by simp [aj.l0])
 have H := HA.out; clear HA; simp only [aj.l0] at H; replace H := ckD H; obtain ⟨c8b0, H⟩ | ⟨c8b0, H⟩ := H
 ·have H' := aQ H; clear H; obtain ⟨hcz9_0, hcz9_1, hfz9_0, hfz9_1⟩ := cz2 BKq3; go_wp2
  go_loopg [5] k1 (fun kq v5 w' => ∃ (x3_2 : List Int) (x5_2 : Int), v5 = .int .i64 x5_2 ∧ Aside0 (aj.l1 kq x3_2 x4_1 x5_2 a0_0 l0_1 = some r) ∧ Aside0 (kq ≤ k1) ∧ Aside0 (Kd.R (Kd.int .i64) 3 w' w.heap.size (fun _ => True) vq4 x3_2) ∧ Aside0 (w'.heap[gbq3]? = some (.cells #[.int .i64 a0_0, (.slice A0_1 l0_1.length c0_1)] 28 (0, 0))) ∧ Aside0 (Below w.heap.size w w'))
  case atStart => exact ⟨(x3_1), (0), rs_, H', ⟨Nat.le_refl _⟩, ⟨ak HO_3⟩, ⟨ay BKq3⟩, ⟨bU HB GEq3⟩⟩
  clear H'; try clear c2
  try clear c2b0
  try clear c2b1
  try clear c3
  try clear c3b0
  try clear c3b1
  try clear c8
  try clear c8b0
  try clear hcz5_0
  try clear hcz5_1
  try clear hcz9_0
  try clear hcz9_1
  try clear hfz5_0
  try clear hfz5_1
  try clear hfz9_0
  try clear hfz9_1
  obtain ⟨x3_2, x5_2, rfl, HA, HK2, HO_3, BKq3, HB⟩ := hrel; rcases gk with _ | k2
  ·exact absurd HA.out (by simp [aj.l1])
  have H := HA.out; clear HA; simp only [aj.l1] at H; replace H := ckD H; obtain ⟨c10b0, H⟩ | ⟨c10b0, H⟩ := H
  ·replace H := gdD H; obtain ⟨c11b0, H⟩ := H; replace H := gdD H; obtain ⟨c12b0, H⟩ := H; replace H := gdD H; obtain ⟨c13b0, H⟩ := H; replace H := gdD H; obtain ⟨c14b0, H⟩ := H; replace H := bo H; obtain ⟨tq0, A15, H⟩ := H; replace H := bo H; obtain ⟨tq1, A16, H⟩ := H; obtain ⟨yq6, hyq6⟩ : ∃ y_ : List Int, y_ = (x3_2.set (x5_2 : Int).toNat (wrap64 ((rd x3_2 x5_2) + tq1))) := ⟨_, rfl⟩; replace H : (aj.l1 k2 yq6 x4_1 (wrap64 (x5_2 + 1)) a0_0 l0_1) = some r := by first | (rw [hyq6]; with_reducible exact H) | (rw [hyq6]; exact H)
   have Nyq6 := aQ hyq6; clear hyq6; have H' := aQ H; clear H; obtain ⟨_, _, _, _⟩ := cz2 BKq3; try go_wp2
   replace HO_3 := aQ (Kd.l7 HO_3.out); replace BKq3 := aQ (aE BKq3.out); replace HB := aQ (av HB.out); obtain ⟨Ao20, co20, eo20⟩ := Kd.k4 HO_3.out; (first | subst eo20 | (injection eo20 with f1_ f2_ f3_; have f4_ := f1_.symm; have f5_ := f3_.symm; clear f1_ f2_ f3_; subst f4_; subst f5_)); have pq7 : 0 ≤ (x5_2 : Int) := of_decide_eq_true as_; have qq7 : x5_2 < (x3_2.length : Int) := of_decide_eq_true as_; obtain ⟨adq7, eq7, hxq7_0⟩ := Kd.k7 (Kd.j4 HO_3.out).2.2 x5_2 pq7 qq7; cases eq7; replace pq7 := eq_true pq7; replace qq7 := eq_true qq7; have pq8 : 0 ≤ (x4_1 : Int) := of_decide_eq_true as_; have qq8 : x4_1 < (l0_1.length : Int) := of_decide_eq_true as_; obtain ⟨adq8, eq8, hxq8_0⟩ := Kd.k7 HR0_1.out x4_1 pq8 qq8; have hwq8_0 := hxq8_0; cases eq8; replace hxq8_0 := (HB.out.cell (World.block_lt_of_cell? w _ hxq8_0)).trans hxq8_0; replace pq8 := eq_true pq8; replace qq8 := eq_true qq8; refine bq (n := 17) (S := fun w' => w'.cell? ⟨gbq3, 0, none⟩ = some (.int .i64 a0_0) ∧ w'.cell? ⟨gbq3, 1, none⟩ = some (.slice (some adq8) l0_1.length c0_1) ∧ w'.cell? (adq7.add (x5_2).toNat) = some (.int .i64 (rd x3_2 x5_2)) ∧ w'.cell? (adq8.add (x4_1).toNat) = some (.int .i64 (rd l0_1 x4_1))) (ds := [16]) _ (by kernel_rfl) rfl rfl ⟨(bkcl BKq3 0).trans rfl, (bkcl BKq3 1).trans rfl, hxq7_0, ((HB.out.cell (World.block_lt_of_cell? w _ hwq8_0)).trans hwq8_0)⟩ (fun hHeld => ?_); refine aW aj.tab8 aj.bits8 (fun HT_ HW_ => ?_)
   generalize wr.drew = w19 at HO_3 BKq3 HB hxq7_0 hxq8_0 hHeld ⊢; refine pJ 0 (some 22) HT_ (ar 1 16) ?_; refine pJ 1 (some 23) HT_ (ar 2 15) ?_; refine pJ 2 (some 24) HT_ (ar 3 14) ?_; refine pJ 3 (some 25) HT_ (ar 4 13) ?_; refine pJ 4 (some 26) HT_ (ar 5 12) ?_; refine pJ 6 (some 28) HT_ #[true, true, true, true, true, false, true, false, false, false, false, false, false, false, false, false, false] ?_; refine pJ 8 (some 30) HT_ #[true, true, true, true, true, false, true, false, true, false, false, false, false, false, false, false, false] ?_; refine pJ 11 (some 33) HT_ #[true, true, true, true, true, false, true, false, true, false, false, true, false, false, false, false, false] ?_; refine take_ (i := 5) (N := some 27) (v := ?_) (a' := ?_) #[true, true, true, true, true, true, true, false, true, false, false, true, false, false, false, false, false] rfl rfl (bC HT_.out HW_.out (by kernel_rfl)) (fun _ _ _ h => h) (Or.inl ⟨by rfl, ?_⟩) hHeld ?_ ?_
   rotate_left
   ·rintro w' ⟨s0, s1, s2, s3⟩; go_simp
    with_reducible rfl
   rotate_left
   ·simp only [Act.put, List.setIfInBounds_toArray, List.set_cons_zero, List.set_cons_succ, i64_w, bY]
    rfl
   refine take_ (i := 7) (N := some 29) (v := ?_) (a' := ?_) #[true, true, true, true, true, true, true, true, true, false, false, true, false, false, false, false, false] rfl rfl (bC HT_.out HW_.out (by kernel_rfl)) (fun _ _ _ h => h) (Or.inl ⟨by rfl, ?_⟩) hHeld ?_ ?_
   rotate_left
   ·rintro w' ⟨s0, s1, s2, s3⟩; go_simp
    with_reducible rfl
   rotate_left
   ·simp only [Act.put, List.setIfInBounds_toArray, List.set_cons_zero, List.set_cons_succ, i64_w, bY]
    rfl
   refine pJ 9 (some 31) HT_ #[true, true, true, true, true, true, true, true, true, true, false, true, false, false, false, false, false] ?_; refine take_ (i := 10) (N := some 32) (v := ?_) (a' := ?_) (ar 12 5) rfl rfl (bC HT_.out HW_.out (by kernel_rfl)) (fun _ _ _ h => h) (Or.inl ⟨by rfl, ?_⟩) hHeld ?_ ?_
   rotate_left
   ·rintro w' ⟨s0, s1, s2, s3⟩; go_simp
    with_reducible rfl
   rotate_left
   ·simp only [Act.put, List.setIfInBounds_toArray, List.set_cons_zero, List.set_cons_succ, i64_w, bY]
    rfl
   refine one_ (i := 12) (N := some 34) (ar 13 4) rfl rfl (bE HT_.out (by kernel_rfl)) (by decide) (fun K hK => ?_); refine gs func69 #[.int .i64 (rd l0_1 x4_1), .int .i64 x5_2] ?_
   with_reducible refine (aU.j3 (rd l0_1 x4_1) x5_2 tq0 _ A15.out).mono ?_
   rintro e w' ⟨rfl, ⟨nd, rfl⟩⟩; refine ⟨_, rfl, ?_⟩; refine hK.out _ _ ⟨(bkcl BKq3 0).trans rfl, (bkcl BKq3 1).trans rfl, hHeld.2.2.1, ((HB.out.cell (World.block_lt_of_cell? w _ hwq8_0)).trans hwq8_0)⟩ (fun hHeld => ?_); clear hK K; refine noN (some 34) (h := ?_); refine one_ (i := 13) (N := some 35) (ar 14 3) rfl rfl (bE HT_.out (by kernel_rfl)) (by decide) (fun K hK => ?_); refine gs func107 #[.bool tq0] ?_
   with_reducible refine (cx.j3 tq0 tq1 _ A16.out).mono ?_
   rintro e w' ⟨rfl, ⟨nd, rfl⟩⟩; refine ⟨_, rfl, ?_⟩; have p17 : 0 ≤ (x5_2 : Int) := of_decide_eq_true as_; have q17 : (x5_2 : Int) < ((x3_2.length : Int) : Int) := of_decide_eq_true as_; obtain ⟨go17, co17, eo17, gb17, gl17, cl17, HG17⟩ := Kd.r5 HO_3.out (by omega); (first | cases eo17 | (injection eo17 with ea_ en_ ec_; (first | subst ea_ | (injection ea_ with ea_; subst ea_)); subst ec_; clear en_)); have GB17 := aQ gb17; have GG17 := aQ HG17; clear gb17 gl17 HG17; (first | simp only [eV] at hxq7_0 | skip); obtain ⟨hx17_0, hf17_0⟩ := Kd.p4 0 HO_3.out (x5_2 : Int) p17 q17; replace p17 := eq_true p17; replace q17 := eq_true q17; have HP21 := Kd.s5 HO_3.out (x5_2 : Int) (wrap64 ((rd x3_2 x5_2) + tq1)); rw [← Nyq6.out] at HP21; have HQ21 := aQ HP21; clear HP21; refine hK.out _ _ ⟨(bkcl BKq3 0).trans rfl, (bkcl BKq3 1).trans rfl, hHeld.2.2.1, ((HB.out.cell (World.block_lt_of_cell? w _ hwq8_0)).trans hwq8_0)⟩ (fun hHeld => ?_); clear hK K; refine noN (some 35) (h := ?_); refine pJ 14 (some 36) HT_ (ar 15 2) ?_; refine pJ 15 (some 37) HT_ (ar 16 1) ?_; refine jd (i := 16) (N := none) (ar 17 0) rfl rfl (bE HT_.out (by kernel_rfl)) (by decide) (fun K hK => ?_); refine jc (w1 := ?_) (by rfl) rfl ?_ ?_
   rotate_left
   ·go_simp
    rfl
   refine hK.out _ _ ?_; clear hK K; refine bQ (bm HT_.out (by kernel_rfl)) ?_; try go_wp2
   go_roundg k2
   case measure => have := HK1.out; have := HK2.out; omega
   case rel => exact ⟨(yq6), (wrap64 (x5_2 + 1)), rs_, H', ⟨by have := HK1.out; have := HK2.out; omega⟩, ⟨ak HQ21⟩, ⟨by refine pkx ?_; refine aX ?_ (by have h_ := Kd.m3 HO_3.out BKq3.out (by decide); intro e_; exact h_ (by rw [e_]; rfl)) _; refine pkx ?_; exact BKq3.out⟩, ⟨pb HB⟩⟩
  ·have H' := aQ H; clear H; obtain ⟨_, _, _, _⟩ := cz2 BKq3; go_wp2
   go_roundg k2
   case measure => have := HK1.out; have := HK2.out; omega
   case rel => exact ⟨(x3_2), (wrap64 (x4_1 + 1)), rs_, H', ⟨by have := HK1.out; have := HK2.out; omega⟩, ⟨ak HO_3⟩, ⟨ay BKq3⟩, ⟨bU HB GEq3⟩⟩
 ·obtain rfl := oj H; obtain ⟨_, _, _, _⟩ := cz2 BKq3; go_wp2
  go_ret
  exact ⟨_, re_, by refine pRx ?_; exact HO_3.out, bU HB GEq3⟩
end Go.Proofs.Ytimkekeaeojpkaa.A
namespace Go.Proofs.Ytimkekeaeojpkaa.A
open Go.RowKit Go.Proofs.YtimkekeaeojpkaaW.PrintWords Go.Proofs.YtimkekeaeojpkaaW.PrintLast Go.Proofs.YtimkekeaeojpkaaW.PrintMore Go.Proofs.Ytimkekeaeojpkaa.Z Try
attribute [local go_sem] bA bv bK bJ bl bk bw bz
set_option linter.unusedVariables false
set_option linter.unusedSimpArgs false
mutual
def af.l0 : Nat → List Int → List Int → Int → Option (List Int)
 | 0, _, _, _ => none
 | k + 1, x0, x3, x4 => if x4 < (x0.length : Int) then (af.l1 k x0 x3 x4 (x3.length : Int)) else (some x3)
def af.l1 : Nat → List Int → List Int → Int → Int → Option (List Int)
 | 0, _, _, _, _ => none
 | k + 1, x0, x3, x4, x5 => if x5 > 0 then (if 0 ≤ (wrap64 (x5 - 1)) then (if (wrap64 (x5 - 1)) < (x3.length : Int) then (if 0 ≤ x4 then (if x4 < (x0.length : Int) then (if (rd x3 (wrap64 (x5 - 1))) > (rd x0 x4) then (af.l1 k x0 x3 x4 (wrap64 (x5 - 1))) else ((some (([] : List Int) : List Int)).bind fun yq0 => (if 0 ≤ x5 then (if x5 ≤ (x3.length : Int) then ((some (x3.drop (x5 : Int).toNat : List Int)).bind fun yq1 => (if yq0.length + yq1.length < 17592186044416 then ((some (yq0 ++ yq1 : List Int)).bind fun yq2 => ((some (x3.take (x5 : Int).toNat : List Int)).bind fun yq3 => (if yq3.length < 17592186044416 then ((some (yq3 ++ [rd x0 x4] : List Int)).bind fun yq4 => (if yq4.length + yq2.length < 17592186044416 then (af.l0 k x0 (yq4 ++ yq2) (wrap64 (x4 + 1))) else (none))) else (none)))) else (none))) else (none)) else (none)))) else (none)) else (none)) else (none)) else (none)) else ((some (([] : List Int) : List Int)).bind fun yq5 => (if 0 ≤ x5 then (if x5 ≤ (x3.length : Int) then ((some (x3.drop (x5 : Int).toNat : List Int)).bind fun yq6 => (if yq5.length + yq6.length < 17592186044416 then ((some (yq5 ++ yq6 : List Int)).bind fun yq7 => ((some (x3.take (x5 : Int).toNat : List Int)).bind fun yq8 => (if 0 ≤ x4 then (if x4 < (x0.length : Int) then (if yq8.length < 17592186044416 then ((some (yq8 ++ [rd x0 x4] : List Int)).bind fun yq9 => (if yq9.length + yq7.length < 17592186044416 then (af.l0 k x0 (yq9 ++ yq7) (wrap64 (x4 + 1))) else (none))) else (none)) else (none)) else (none)))) else (none))) else (none)) else (none)))
end
def af.f (k : Nat) (l0 : List Int) : Option (List Int) := af.l0 k l0 (([] : List Int)) 0
def af.T6 : Bool × List (List Nat × List Nat) := (true, [([], []), ([0], [0]), ([1], [1]), ([2], [2]), ([2], [2]), ([4, 2], [2, 4]), ([3, 5, 2], [2, 3, 5]), ([6, 2], [2, 6]), ([2], [2]), ([2], [2]), ([8, 9, 2], [2, 8, 9]), ([10, 2], [2, 10]), ([7, 11, 2], [2, 7, 11]), ([2, 12], [2, 12])])
def af.B6 : List Nat := [0, 1, 3, 7, 7, 23, 63, 127, 7, 7, 775, 1799, 4095, 8191]
theorem af.tab6 : rtab .any (cG Try.f113 6) = af.T6 := by kernel_rfl
theorem af.bits6 : bR af.T6.2 af.B6 = true := by kernel_rfl
def af.T9 : Bool × List (List Nat × List Nat) := (true, [([], []), ([], []), ([0, 1], [0, 1]), ([], []), ([], []), ([3, 4], [3, 4]), ([5], [5]), ([6], [6]), ([2, 7], [2, 7]), ([], []), ([8, 9, 8], [8, 9]), ([10, 10, 0, 1, 2, 3, 4, 5, 6, 7, 8, 9, 10], [0, 10])])
def af.B9 : List Nat := [0, 0, 3, 0, 0, 24, 56, 120, 255, 0, 1023, 2047]
theorem af.tab9 : rtab .any (cG Try.f113 9) = af.T9 := by kernel_rfl
theorem af.bits9 : bR af.T9.2 af.B9 = true := by kernel_rfl
theorem af.j3 (k : Nat) (A0 : Option Addr) (c0 : Nat) (l0 : List Int) (r : List Int) (w : World) (hr0 : Kd.C (Kd.int .i64) w A0 l0.length l0) (hc0 : l0.length ≤ c0) (h : af.f k l0 = some r) :
  Calls Try.prog 113 #[.slice A0 l0.length c0] w fun e w' => ∃ v0_ : Value, e = .returned (v0_) ∧ Kd.R (Kd.int .i64) 3 w' w.heap.size (fun _ => True) v0_ r ∧ Below w.heap.size w w' := by
 have HR0 := aQ hr0; have HC0 := aQ hc0; clear hr0 hc0; have HB := aQ (Below.refl w.heap.size w); have H : (af.l0 k l0 (([] : List Int)) 0) = some r := h; clear h; obtain ⟨yqa, hyqa⟩ : ∃ y_ : List Int, y_ = (([] : List Int)) := ⟨_, rfl⟩; replace H : (af.l0 k l0 yqa 0) = some r := by first | (rw [hyqa]; with_reducible exact H) | (rw [hyqa]; exact H)
 have Nyqa := aQ hyqa; clear hyqa; have H' := aQ H; clear H; go_enter func113, ntmps113; go_wp2_with (first | (refine lI (d := Kd.int .i64) 7 Nyqa ?_; intro vqb w2 ho3 hb; have HOqc := aQ (Kd.j9 ho3 (ab (aH HB))); replace HB := bs HB hb; clear hb ho3))
 go_loopg [3, 4] k (fun kq v3 v4 w' => ∃ (x3_1 : List Int) (x4_1 : Int), v4 = .int .i64 x4_1 ∧ Aside0 (af.l0 kq l0 x3_1 x4_1 = some r) ∧ Aside0 (kq ≤ k) ∧ Aside0 (Kd.R (Kd.int .i64) 3 w' w.heap.size (fun _ => True) v3 x3_1) ∧ Aside0 (Below w.heap.size w w'))
 case atStart => exact ⟨(yqa), (0), rs_, H', ⟨Nat.le_refl _⟩, ⟨ak HOqc⟩, ⟨aH HB⟩⟩
 clear H'; obtain ⟨x3_1, x4_1, rfl, HA, HK1, HO_3, HB⟩ := hrel; rcases gk with _ | k1
 ·exact absurd HA.out (by simp [af.l0])
 have H := HA.out; clear HA; simp only [af.l0] at H; replace H := ckD H; obtain ⟨c4b0, H⟩ | ⟨c4b0, H⟩ := H
 ·have H' := aQ H; clear H; obtain ⟨Ao5, co5, eo5⟩ := Kd.k4 HO_3.out; subst eo5; go_wp2
  go_loopg [5] k1 (fun kq v5 w' => ∃ (x5_2 : Int), v5 = .int .i64 x5_2 ∧ Aside0 (af.l1 kq l0 x3_1 x4_1 x5_2 = some r) ∧ Aside0 (kq ≤ k1) ∧ Aside0 (Kd.R (Kd.int .i64) 3 w' w.heap.size (fun _ => True) (.slice Ao5 x3_1.length co5) x3_1) ∧ Aside0 (Below w.heap.size w w'))
  case atStart => exact ⟨((x3_1.length : Int)), rs_, H', ⟨Nat.le_refl _⟩, ⟨ak HO_3⟩, ⟨aH HB⟩⟩
  clear H'; try clear c4
  try clear c4b0
  obtain ⟨x5_2, rfl, HA, HK2, HO_3, HB⟩ := hrel; rcases gk with _ | k2
  ·exact absurd HA.out (by simp [af.l1])
  have H := HA.out; clear HA; simp only [af.l1] at H; replace H := ckD H; obtain ⟨c6b0, H⟩ | ⟨c6b0, H⟩ := H
  ·obtain ⟨ji7, hji7⟩ : ∃ j_ : Int, (wrap64 (x5_2 - 1)) = j_ := ⟨_, rfl⟩; (first | rw [hji7] at H | simp only [hji7] at H); have hji7w : (IntKind.i64.wrap (x5_2 - 1)) = ji7 := (i64_w _).trans hji7; replace H := gdD H; obtain ⟨c8b0, H⟩ := H; replace H := gdD H; obtain ⟨c9b0, H⟩ := H; replace H := gdD H; obtain ⟨c10b0, H⟩ := H; replace H := gdD H; obtain ⟨c11b0, H⟩ := H; replace H := ckD H; obtain ⟨c12b0, H⟩ | ⟨c12b0, H⟩ := H
   ·have H' := aQ H; clear H; try go_wp2
    replace HO_3 := aQ (Kd.l7 HO_3.out); replace HB := aQ (av HB.out); have pqd : 0 ≤ ((ji7) : Int) := of_decide_eq_true as_; have qqd : (ji7) < (x3_1.length : Int) := of_decide_eq_true as_; obtain ⟨adqd, eqd, hxqd_0⟩ := Kd.k7 (Kd.j4 HO_3.out).2.2 (ji7) pqd qqd; cases eqd; replace pqd := eq_true pqd; replace qqd := eq_true qqd; have pqe : 0 ≤ (x4_1 : Int) := of_decide_eq_true as_; have qqe : x4_1 < (l0.length : Int) := of_decide_eq_true as_; obtain ⟨adqe, eqe, hxqe_0⟩ := Kd.k7 HR0.out x4_1 pqe qqe; have hwqe_0 := hxqe_0; cases eqe; replace hxqe_0 := (HB.out.cell (World.block_lt_of_cell? w _ hxqe_0)).trans hxqe_0; replace pqe := eq_true pqe; replace qqe := eq_true qqe; refine bq (n := 14) (S := fun w' => w'.cell? (adqd.add ((ji7)).toNat) = some (.int .i64 (rd x3_1 (ji7))) ∧ w'.cell? (adqe.add (x4_1).toNat) = some (.int .i64 (rd l0 x4_1))) (ds := []) _ (by kernel_rfl) rfl rfl ⟨hxqd_0, ((HB.out.cell (World.block_lt_of_cell? w _ hwqe_0)).trans hwqe_0)⟩ (fun hHeld => ?_); refine aW af.tab6 af.bits6 (fun HT_ HW_ => ?_); generalize wr.drew = w13 at HO_3 HB hxqd_0 hxqe_0 hHeld ⊢; refine pA 0 (some 16) HT_ ?_; refine pA 1 (some 17) HT_ ?_; refine pA 2 (some 18) HT_ ?_; refine pA 3 (some 19) HT_ ?_; refine pA 4 (some 20) HT_ ?_; refine pA 5 (some 21) HT_ ?_; refine pA 6 (some 22) HT_ ?_; refine pA 8 (some 24) HT_ ?_; refine pA 9 (some 25) HT_ ?_; refine pA 10 (some 26) HT_ ?_; refine tA2 7 (some 23) HT_ HW_ hHeld ?_; refine tA2 11 (some 27) HT_ HW_ hHeld ?_
    refine pA 12 (some 28) HT_ ?_; refine pA 13 (some 29) HT_ ?_; refine bQ (bm HT_.out (by kernel_rfl)) ?_; try go_wp2
    go_roundg k2
    case measure => have := HK1.out; have := HK2.out; omega
    case rel => exact ⟨(ji7), (by first | rfl | (simp; done) | (simp only [← hji7] <;> (first | rfl | simp)) | (simp [*]; done)), H', ⟨by have := HK1.out; have := HK2.out; omega⟩, ⟨ak HO_3⟩, ⟨aH HB⟩⟩
   ·obtain ⟨yq0, hyq0⟩ : ∃ y_ : List Int, y_ = (([] : List Int)) := ⟨_, rfl⟩; replace H : (if 0 ≤ x5_2 then (if x5_2 ≤ (x3_1.length : Int) then ((some (x3_1.drop (x5_2 : Int).toNat : List Int)).bind fun yq1 => (if yq0.length + yq1.length < 17592186044416 then ((some (yq0 ++ yq1 : List Int)).bind fun yq2 => ((some (x3_1.take (x5_2 : Int).toNat : List Int)).bind fun yq3 => (if yq3.length < 17592186044416 then ((some (yq3 ++ [rd l0 x4_1] : List Int)).bind fun yq4 => (if yq4.length + yq2.length < 17592186044416 then (af.l0 k2 l0 (yq4 ++ yq2) (wrap64 (x4_1 + 1))) else (none))) else (none)))) else (none))) else (none)) else (none)) = some r := by first | (rw [hyq0]; with_reducible exact H) | (rw [hyq0]; exact H)
    have Nyq0 := aQ hyq0; clear hyq0; replace H := gdB H; obtain ⟨c14b0, c14b1, H⟩ := H; replace H := gdB H; obtain ⟨c15b0, c15b1, H⟩ := H; obtain ⟨yq1, hyq1⟩ : ∃ y_ : List Int, y_ = (x3_1.drop (x5_2 : Int).toNat) := ⟨_, rfl⟩; replace H : (if yq0.length + yq1.length < 17592186044416 then ((some (yq0 ++ yq1 : List Int)).bind fun yq2 => ((some (x3_1.take (x5_2 : Int).toNat : List Int)).bind fun yq3 => (if yq3.length < 17592186044416 then ((some (yq3 ++ [rd l0 x4_1] : List Int)).bind fun yq4 => (if yq4.length + yq2.length < 17592186044416 then (af.l0 k2 l0 (yq4 ++ yq2) (wrap64 (x4_1 + 1))) else (none))) else (none)))) else (none)) = some r := by first | (rw [hyq1]; with_reducible exact H) | (rw [hyq1]; exact H)
    have Nyq1 := aQ hyq1; clear hyq1; replace H := gdA H; obtain ⟨LMc16, H⟩ := H; obtain ⟨yq2, hyq2⟩ : ∃ y_ : List Int, y_ = (yq0 ++ yq1) := ⟨_, rfl⟩; replace H : ((some (x3_1.take (x5_2 : Int).toNat : List Int)).bind fun yq3 => (if yq3.length < 17592186044416 then ((some (yq3 ++ [rd l0 x4_1] : List Int)).bind fun yq4 => (if yq4.length + yq2.length < 17592186044416 then (af.l0 k2 l0 (yq4 ++ yq2) (wrap64 (x4_1 + 1))) else (none))) else (none))) = some r := by first | (rw [hyq2]; with_reducible exact H) | (rw [hyq2]; exact H)
    have Nyq2 := aQ hyq2; clear hyq2; have c17b0 := eq_true (of_decide_eq_true as_ : x5_2 ≤ (x3_1.length : Int)); replace H := yz H; obtain ⟨yq3, Nyq3, H⟩ := H; (try dsimp only at H); replace H := gdA H; obtain ⟨LMc18, H⟩ := H; obtain ⟨yq4, hyq4⟩ : ∃ y_ : List Int, y_ = (yq3 ++ [rd l0 x4_1]) := ⟨_, rfl⟩; replace H : (if yq4.length + yq2.length < 17592186044416 then (af.l0 k2 l0 (yq4 ++ yq2) (wrap64 (x4_1 + 1))) else (none)) = some r := by first | (rw [hyq4]; with_reducible exact H) | (rw [hyq4]; exact H)
    have Nyq4 := aQ hyq4; clear hyq4; replace H := gdA H; obtain ⟨LMc19, H⟩ := H; obtain ⟨yqf, hyqf⟩ : ∃ y_ : List Int, y_ = (yq4 ++ yq2) := ⟨_, rfl⟩; replace H : (af.l0 k2 l0 yqf (wrap64 (x4_1 + 1))) = some r := by first | (rw [hyqf]; with_reducible exact H) | (rw [hyqf]; exact H)
    have Nyqf := aQ hyqf; clear hyqf; have H' := aQ H; clear H; try go_wp2
    replace HO_3 := aQ (Kd.l7 HO_3.out); replace HB := aQ (av HB.out); have pqd : 0 ≤ ((ji7) : Int) := of_decide_eq_true as_; have qqd : (ji7) < (x3_1.length : Int) := of_decide_eq_true as_; obtain ⟨adqd, eqd, hxqd_0⟩ := Kd.k7 (Kd.j4 HO_3.out).2.2 (ji7) pqd qqd; cases eqd; replace pqd := eq_true pqd; replace qqd := eq_true qqd; have pqe : 0 ≤ (x4_1 : Int) := of_decide_eq_true as_; have qqe : x4_1 < (l0.length : Int) := of_decide_eq_true as_; obtain ⟨adqe, eqe, hxqe_0⟩ := Kd.k7 HR0.out x4_1 pqe qqe; have hwqe_0 := hxqe_0; cases eqe; replace hxqe_0 := (HB.out.cell (World.block_lt_of_cell? w _ hxqe_0)).trans hxqe_0; replace pqe := eq_true pqe; replace qqe := eq_true qqe; refine bq (n := 14) (S := fun w' => w'.cell? (adqd.add ((ji7)).toNat) = some (.int .i64 (rd x3_1 (ji7))) ∧ w'.cell? (adqe.add (x4_1).toNat) = some (.int .i64 (rd l0 x4_1))) (ds := []) _ (by kernel_rfl) rfl rfl ⟨hxqd_0, ((HB.out.cell (World.block_lt_of_cell? w _ hwqe_0)).trans hwqe_0)⟩ (fun hHeld => ?_); refine aW af.tab6 af.bits6 (fun HT_ HW_ => ?_); generalize wr.drew = w20 at HO_3 HB hxqd_0 hxqe_0 hHeld ⊢; refine pA 0 (some 16) HT_ ?_; refine pA 1 (some 17) HT_ ?_; refine pA 2 (some 18) HT_ ?_; refine pA 3 (some 19) HT_ ?_; refine pA 4 (some 20) HT_ ?_; refine pA 5 (some 21) HT_ ?_; refine pA 6 (some 22) HT_ ?_; refine pA 8 (some 24) HT_ ?_; refine pA 9 (some 25) HT_ ?_; refine pA 10 (some 26) HT_ ?_; refine tA2 7 (some 23) HT_ HW_ hHeld ?_; refine tA2 11 (some 27) HT_ HW_ hHeld ?_
    refine pA 12 (some 28) HT_ ?_; refine pA 13 (some 29) HT_ ?_; refine bQ (bm HT_.out (by kernel_rfl)) ?_; try go_wp2_with (first | (refine lI (d := Kd.int .i64) 32 Nyq0 ?_; intro vqg w21 ho22 hb; have HOqh := aQ (Kd.j9 (Kd.j8 ho22 (Kd.k5 (ak HO_3))) (ab (aH HB))); replace HO_3 := aQ (Kd.j6 (ak HO_3) (Kd.j7 ho22) hb); replace HB := bs HB hb; clear hb ho22; have q23 : (x5_2 : Int) ≤ ((x3_1.length : Int) : Int) := of_decide_eq_true as_; obtain ⟨i023, hi023, _, hsz23, _⟩ := info_parts bG; have hroom23 : x3_1.length ≤ co5 := (Kd.j4 HO_3.out).2.1; have hC23 : Kd.C (Kd.int .i64) _ (some adqd) x3_1.length x3_1 := (Kd.j4 HO_3.out).2.2; have q023 : (0 : Int) ≤ (x5_2 : Int) := of_decide_eq_true as_; have hcut23 := dB (P := Try.prog) 22 3 .i64 underlying22 hi023 1 hsz23 (some adqd) x3_1.length co5 x5_2 q023 q23; have hr23 := Kd.o3 (m := (x5_2 : Int).toNat) (c := co5) hC23 (by omega) hroom23; obtain ⟨A23, hA23⟩ : ∃ A1, A1 = (if co5 = (x5_2 : Int).toNat then (some adqd) else ((some adqd) : Option Addr).map (·.add ((x5_2 : Int).toNat * 1))) := ⟨_, rfl⟩; obtain ⟨c23, hc23⟩ : ∃ c1, c1 = co5 - (x5_2 : Int).toNat := ⟨_, rfl⟩; have hy23 : yq1.length = x3_1.length - (x5_2 : Int).toNat := (by rw [Nyq1.out, List.length_drop] <;> omega); rw [show (x3_1).drop (x5_2 : Int).toNat = yq1 from Nyq1.out.symm] at hr23; replace hr23 : Kd.C (Kd.int .i64) _ A23 yq1.length yq1 := (by rw [hA23]; exact hr23); rw [← hy23, ← hA23, ← hc23] at hcut23; have HRqi := aQ hr23; have HCqi := aQ (show yq1.length ≤ c23 from by rw [hy23, hc23]; exact Nat.sub_le_sub_right hroom23 _); clear hr23 hC23 hroom23 hi023 hsz23 hc23; have KY23 := aQ hy23; have KA23 := aQ hA23; clear hy23 hA23; have KL23 := aQ (show (x5_2 : Int).toNat ≤ x3_1.length from by omega); replace q23 := eq_true q23) | ((with_reducible refine gate_builtin (b := .append) (xs := #[.tmp 32, .tmp 35]) rfl ?_); at_builtin; refine Kd.m9 (Kd.int .i64) (w0 := w) w.heap.size rfl (.tmp 32) (.tmp 35) 22 3 (.int .i64 0) 8 rfl underlying22 bG rfl (by decide) (by omega) vqg yq0 yq1 _ _ _ (fun k_ => some k_ ≠ (.slice (some adqd) x3_1.length co5 : Value).ownBlock) (fun _ => False) rfl rfl ?aO ?aR (fun _ _ h => h) (fun _ h => h.elim) ?aF ?aB ?aS ?aL ?_; (case aR => repeat (first | exact (by repeat (first | (with_reducible exact HRqi.out) | (with_reducible refine Kd.m7 ?_ _) | (with_reducible refine Kd.m6 ?_ _) | (with_reducible refine Kd.m5 ?_) | exact HRqi.out)) | (with_reducible refine Kd.m7 ?_ _) | (with_reducible refine Kd.m6 ?_ _) | (with_reducible refine Kd.m5 ?_))); (case aB => exact (aH HB)); (case aF => exact (fun k_ hk => Kd.l9 (Kd.k5 (ak HO_3)) k_ hk)); (case aO => exact (by refine pRx ?_; exact Kd.j5 HOqh.out (fun _ hk => hk.2))); (case aS => exact (ab (aH HB))); (case aL => have := LMc16.out; omega); intro vqj w24 ho hb hg hat; rw [← Nyq2.out] at ho; replace HB := aQ (hb); replace HRqi := aQ ((show Kd.C (Kd.int .i64) w24 A23 yq1.length yq1 from by rw [Nyq1.out, KA23.out]; exact Kd.o3 (m := (x5_2 : Int).toNat) (c := co5) ((Kd.j4 (Kd.l5 (ok := (fun _ => True)) (ak HO_3) hg hat)).2.2) KL23.out ((Kd.j4 (Kd.l5 (ok := (fun _ => True)) (ak HO_3) hg hat)).2.1))); replace HO_3 := aQ (Kd.l5 (ok := (fun _ => True)) (ak HO_3) hg hat); have HOqk := aQ (ho); clear HOqh; clear ho hb hg hat))
    replace HO_3 := aQ (Kd.l7 HO_3.out); replace HOqk := aQ (Kd.l7 HOqk.out); replace HRqi := aQ (Kd.m5 HRqi.out); replace HB := aQ (av HB.out); have q26 : (x5_2 : Int) ≤ ((x3_1.length : Int) : Int) := of_decide_eq_true as_; obtain ⟨i026, hi026, _, hsz26, _⟩ := info_parts bG; have hcut26 := fc (P := Try.prog) 22 3 .i64 underlying22 hi026 (some adqd) x3_1.length co5 x5_2 (of_decide_eq_true as_) q26 (Kd.j4 HO_3.out).2.1; have hr26 := Kd.o6 (m := (x5_2 : Int).toNat) HO_3.out (by omega); have hy26 : yq3.length = (x5_2 : Int).toNat := (by rw [Nyq3.out, List.length_take]; omega); rw [← Nyq3.out] at hr26; rw [← hy26] at hr26 hcut26; clear hy26 hi026 hsz26 HO_3; have HOql := aQ hr26; clear hr26; replace q26 := eq_true q26; obtain ⟨adqm, eqm, hxqm_0, pqm, qqm⟩ := aI HR0.out x4_1; have hwqm_0 := hxqm_0; obtain rfl : adqe = adqm := (by injection eqm); replace hxqm_0 := (HB.out.cell (World.block_lt_of_cell? w _ hxqm_0)).trans hxqm_0; refine bq (n := 12) (S := fun w' => w'.cell? (adqe.add (x4_1).toNat) = some (.int .i64 (rd l0 x4_1))) (ds := []) _ (by kernel_rfl) rfl rfl (((HB.out.cell (World.block_lt_of_cell? w _ hwqm_0)).trans hwqm_0)) (fun hHeld => ?_); refine aW af.tab9 af.bits9 (fun HT_ HW_ => ?_); generalize w24.drew = w25 at HO_3 HOqk HRqi HB HOql hxqm_0 hHeld ⊢; refine pA 0 (some 37) HT_ ?_; refine pA 1 (some 38) HT_ ?_; refine pA 2 (some 39) HT_ ?_; refine pA 3 (some 40) HT_ ?_; refine pA 4 (some 41) HT_ ?_
    refine pA 5 (some 42) HT_ ?_; refine pA 9 (some 46) HT_ ?_; refine tA1 6 (some 43) HT_ HW_ hHeld ?_; refine onA (i := 7) (N := some 44) HT_ (h := fun K hK => ?_); refine ei (w1 := ?_) (v := ?_) (by rfl) rfl ?_ ?_
    rotate_left 2
    ·go_simp
     constructor
     ·rfl
     ·rfl
    refine hK.out _ _ ((World.cell?_alloc_lt _ _ _ (World.block_lt_of_cell? _ _ (((HB.out.cell (World.block_lt_of_cell? w _ hwqm_0)).trans hwqm_0)))).trans (((HB.out.cell (World.block_lt_of_cell? w _ hwqm_0)).trans hwqm_0))) (fun hHeld => ?_); clear hK K; refine noN (some 44) (h := ?_); refine onA (i := 8) (N := some 45) HT_ (h := fun K hK => ?_); refine Kd.m8 (Kd.int .i64) (w0 := w) w.heap.size (by rfl) (.tmp 39) (.tmp 44) 22 3 (.int .i64 0) 8 rfl underlying22 bG rfl (by decide) (by omega) (.slice (some adqd) yq3.length co5) yq3 (rd l0 x4_1) [.int .i64 (rd l0 x4_1)] (fun k_ => some k_ ≠ (vqj : Value).ownBlock) (fun _ => False) rfl rfl ?aP (fun _ hk => hk.elim) ?aF ?aO ?aB ?aS ?aL ?_; (case aP => exact rfl); (case aB => exact (aH HB)); (case aF => exact (fun k_ hk => Kd.l9 (Kd.k5 (ak HOqk)) k_ hk)); (case aO => exact (by refine pRx ?_; exact Kd.j5 HOql.out (fun _ hk => hk.2))); (case aS => exact (ab (aH HB))); (case aL => have := LMc18.out; omega); intro vqn w27 ho hb hg hat; rw [← Nyq4.out] at ho; replace HOqk := aQ (Kd.l5 (ok := (fun _ => True)) (by refine pRx ?_; exact Kd.j5 HOqk.out (fun _ hk => ⟨trivial, by first | exact hk | exact fun h_ => hk (h_.trans (ft _ _ _ _))⟩)) hg hat); replace HB := aQ (hb); have HOqo := aQ (ho); clear HOql; clear ho hb hg hat; obtain ⟨Ao29, co29, eo29⟩ := Kd.k4 HOqk.out; (first | subst eo29 | (injection eo29 with f1_ f2_ f3_; have f4_ := f1_.symm; have f5_ := f3_.symm; clear f1_ f2_ f3_; subst f4_; subst f5_))
    refine hK.out _ _ (((HB.out.cell (World.block_lt_of_cell? w _ hwqm_0)).trans hwqm_0)) (fun hHeld => ?_); clear hK K; refine noN (some 45) (h := ?_); refine onA (i := 10) (N := some 47) HT_ (h := fun K hK => ?_); refine Kd.k9 (Kd.int .i64) (w0 := w) w.heap.size (by rfl) (.tmp 45) (.tmp 46) 22 3 (.int .i64 0) 8 rfl underlying22 bG rfl (by decide) (by omega) vqn yq4 yq2 _ _ _ (fun k_ => some k_ ≠ (.slice Ao29 yq2.length co29 : Value).ownBlock) (fun _ => False) rfl rfl ?aO ?aR (fun _ _ h => h) (fun _ h => h.elim) ?aF ?aB ?aS ?aL ?_; (case aR => exact pC ((Kd.j4 HOqk.out).2.2)); (case aB => exact (aH HB)); (case aF => exact (fun k_ hk => Kd.l9 (Kd.k5 (ak HOqk)) k_ hk)); (case aO => exact (ak HOqo)); (case aS => exact (ab (aH HB))); (case aL => have := LMc19.out; omega); intro vqp w28 ho hb hg hat; rw [← Nyqf.out] at ho; replace HOqk := aQ (Kd.l5 (ok := (fun _ => True)) (ak HOqk) hg hat); replace HB := aQ (hb); have HOqq := aQ (ho); clear HOqo; clear ho hb hg hat; refine hK.out _ _ (((HB.out.cell (World.block_lt_of_cell? w _ hwqm_0)).trans hwqm_0)) (fun hHeld => ?_); clear hK K; refine noN (some 47) (h := ?_); refine pA 11 (some 3) HT_ ?_; refine bQ (bm HT_.out (by kernel_rfl)) ?_; try go_wp2
    go_roundg k2
    case measure => have := HK1.out; have := HK2.out; omega
    case rel => exact ⟨(yqf), (wrap64 (x4_1 + 1)), rs_, H', ⟨by have := HK1.out; have := HK2.out; omega⟩, ⟨by refine pRx ?_; exact Kd.j5 HOqq.out (fun _ hk => trivial)⟩, ⟨aH HB⟩⟩
  ·obtain ⟨yq5, hyq5⟩ : ∃ y_ : List Int, y_ = (([] : List Int)) := ⟨_, rfl⟩; replace H : (if 0 ≤ x5_2 then (if x5_2 ≤ (x3_1.length : Int) then ((some (x3_1.drop (x5_2 : Int).toNat : List Int)).bind fun yq6 => (if yq5.length + yq6.length < 17592186044416 then ((some (yq5 ++ yq6 : List Int)).bind fun yq7 => ((some (x3_1.take (x5_2 : Int).toNat : List Int)).bind fun yq8 => (if 0 ≤ x4_1 then (if x4_1 < (l0.length : Int) then (if yq8.length < 17592186044416 then ((some (yq8 ++ [rd l0 x4_1] : List Int)).bind fun yq9 => (if yq9.length + yq7.length < 17592186044416 then (af.l0 k2 l0 (yq9 ++ yq7) (wrap64 (x4_1 + 1))) else (none))) else (none)) else (none)) else (none)))) else (none))) else (none)) else (none)) = some r := by first | (rw [hyq5]; with_reducible exact H) | (rw [hyq5]; exact H)
   have Nyq5 := aQ hyq5; clear hyq5; replace H := gdB H; obtain ⟨c30b0, c30b1, H⟩ := H; replace H := gdB H; obtain ⟨c31b0, c31b1, H⟩ := H; obtain ⟨yq6, hyq6⟩ : ∃ y_ : List Int, y_ = (x3_1.drop (x5_2 : Int).toNat) := ⟨_, rfl⟩; replace H : (if yq5.length + yq6.length < 17592186044416 then ((some (yq5 ++ yq6 : List Int)).bind fun yq7 => ((some (x3_1.take (x5_2 : Int).toNat : List Int)).bind fun yq8 => (if 0 ≤ x4_1 then (if x4_1 < (l0.length : Int) then (if yq8.length < 17592186044416 then ((some (yq8 ++ [rd l0 x4_1] : List Int)).bind fun yq9 => (if yq9.length + yq7.length < 17592186044416 then (af.l0 k2 l0 (yq9 ++ yq7) (wrap64 (x4_1 + 1))) else (none))) else (none)) else (none)) else (none)))) else (none)) = some r := by first | (rw [hyq6]; with_reducible exact H) | (rw [hyq6]; exact H)
   have Nyq6 := aQ hyq6; clear hyq6; replace H := gdA H; obtain ⟨LMc32, H⟩ := H; obtain ⟨yq7, hyq7⟩ : ∃ y_ : List Int, y_ = (yq5 ++ yq6) := ⟨_, rfl⟩; replace H : ((some (x3_1.take (x5_2 : Int).toNat : List Int)).bind fun yq8 => (if 0 ≤ x4_1 then (if x4_1 < (l0.length : Int) then (if yq8.length < 17592186044416 then ((some (yq8 ++ [rd l0 x4_1] : List Int)).bind fun yq9 => (if yq9.length + yq7.length < 17592186044416 then (af.l0 k2 l0 (yq9 ++ yq7) (wrap64 (x4_1 + 1))) else (none))) else (none)) else (none)) else (none))) = some r := by first | (rw [hyq7]; with_reducible exact H) | (rw [hyq7]; exact H)
   have Nyq7 := aQ hyq7; clear hyq7; have c33b0 := eq_true (of_decide_eq_true as_ : x5_2 ≤ (x3_1.length : Int)); replace H := yz H; obtain ⟨yq8, Nyq8, H⟩ := H; (try dsimp only at H); replace H := gdD H; obtain ⟨c34b0, H⟩ := H; replace H := gdD H; obtain ⟨c35b0, H⟩ := H; replace H := gdA H; obtain ⟨LMc36, H⟩ := H; obtain ⟨yq9, hyq9⟩ : ∃ y_ : List Int, y_ = (yq8 ++ [rd l0 x4_1]) := ⟨_, rfl⟩; replace H : (if yq9.length + yq7.length < 17592186044416 then (af.l0 k2 l0 (yq9 ++ yq7) (wrap64 (x4_1 + 1))) else (none)) = some r := by first | (rw [hyq9]; with_reducible exact H) | (rw [hyq9]; exact H)
   have Nyq9 := aQ hyq9; clear hyq9; replace H := gdA H; obtain ⟨LMc37, H⟩ := H; obtain ⟨yqr, hyqr⟩ : ∃ y_ : List Int, y_ = (yq9 ++ yq7) := ⟨_, rfl⟩; replace H : (af.l0 k2 l0 yqr (wrap64 (x4_1 + 1))) = some r := by first | (rw [hyqr]; with_reducible exact H) | (rw [hyqr]; exact H)
   have Nyqr := aQ hyqr; clear hyqr; have H' := aQ H; clear H; try go_wp2
   replace HO_3 := aQ (Kd.l7 HO_3.out); replace HB := aQ (av HB.out); refine bq (n := 14) (S := fun w' => True) (ds := []) _ (by kernel_rfl) rfl rfl trivial (fun hHeld => ?_); refine aW af.tab6 af.bits6 (fun HT_ HW_ => ?_); generalize wr.drew = w38 at HO_3 HB hHeld ⊢; refine pA 0 (some 16) HT_ ?_; refine pA 1 (some 17) HT_ ?_; refine pA 2 (some 18) HT_ ?_; refine pU 3 (some 19) HT_ ?_; refine pU 4 (some 20) HT_ ?_; refine pU 5 (some 21) HT_ ?_; refine pU 6 (some 22) HT_ ?_; refine pU 7 (some 23) HT_ ?_; refine pU 8 (some 24) HT_ ?_; refine pU 9 (some 25) HT_ ?_; refine pU 10 (some 26) HT_ ?_; refine pU 11 (some 27) HT_ ?_; refine pU 12 (some 28) HT_ ?_; refine pA 13 (some 29) HT_ ?_; refine bQ (bm HT_.out (by kernel_rfl)) ?_; try go_wp2_with (first | (refine lI (d := Kd.int .i64) 32 Nyq5 ?_; intro vqs w39 ho40 hb; have HOqt := aQ (Kd.j9 (Kd.j8 ho40 (Kd.k5 (ak HO_3))) (ab (aH HB))); replace HO_3 := aQ (Kd.j6 (ak HO_3) (Kd.j7 ho40) hb); replace HB := bs HB hb; clear hb ho40; have q41 : (x5_2 : Int) ≤ ((x3_1.length : Int) : Int) := of_decide_eq_true as_; obtain ⟨i041, hi041, _, hsz41, _⟩ := info_parts bG; have hroom41 : x3_1.length ≤ co5 := (Kd.j4 HO_3.out).2.1; have hC41 : Kd.C (Kd.int .i64) _ Ao5 x3_1.length x3_1 := (Kd.j4 HO_3.out).2.2; have q041 : (0 : Int) ≤ (x5_2 : Int) := of_decide_eq_true as_; have hcut41 := dB (P := Try.prog) 22 3 .i64 underlying22 hi041 1 hsz41 Ao5 x3_1.length co5 x5_2 q041 q41; have hr41 := Kd.o3 (m := (x5_2 : Int).toNat) (c := co5) hC41 (by omega) hroom41; obtain ⟨A41, hA41⟩ : ∃ A1, A1 = (if co5 = (x5_2 : Int).toNat then Ao5 else (Ao5 : Option Addr).map (·.add ((x5_2 : Int).toNat * 1))) := ⟨_, rfl⟩; obtain ⟨c41, hc41⟩ : ∃ c1, c1 = co5 - (x5_2 : Int).toNat := ⟨_, rfl⟩; have hy41 : yq6.length = x3_1.length - (x5_2 : Int).toNat := (by rw [Nyq6.out, List.length_drop] <;> omega); rw [show (x3_1).drop (x5_2 : Int).toNat = yq6 from Nyq6.out.symm] at hr41; replace hr41 : Kd.C (Kd.int .i64) _ A41 yq6.length yq6 := (by rw [hA41]; exact hr41); rw [← hy41, ← hA41, ← hc41] at hcut41; have HRqu := aQ hr41; have HCqu := aQ (show yq6.length ≤ c41 from by rw [hy41, hc41]; exact Nat.sub_le_sub_right hroom41 _); clear hr41 hC41 hroom41 hi041 hsz41 hc41; have KY41 := aQ hy41; have KA41 := aQ hA41; clear hy41 hA41; have KL41 := aQ (show (x5_2 : Int).toNat ≤ x3_1.length from by omega); replace q41 := eq_true q41) | ((with_reducible refine gate_builtin (b := .append) (xs := #[.tmp 32, .tmp 35]) rfl ?_); at_builtin; refine Kd.m9 (Kd.int .i64) (w0 := w) w.heap.size rfl (.tmp 32) (.tmp 35) 22 3 (.int .i64 0) 8 rfl underlying22 bG rfl (by decide) (by omega) vqs yq5 yq6 _ _ _ (fun k_ => some k_ ≠ (.slice Ao5 x3_1.length co5 : Value).ownBlock) (fun _ => False) rfl rfl ?aO ?aR (fun _ _ h => h) (fun _ h => h.elim) ?aF ?aB ?aS ?aL ?_; (case aR => repeat (first | exact (by repeat (first | (with_reducible exact HRqu.out) | (with_reducible refine Kd.m7 ?_ _) | (with_reducible refine Kd.m6 ?_ _) | (with_reducible refine Kd.m5 ?_) | exact HRqu.out)) | (with_reducible refine Kd.m7 ?_ _) | (with_reducible refine Kd.m6 ?_ _) | (with_reducible refine Kd.m5 ?_))); (case aB => exact (aH HB)); (case aF => exact (fun k_ hk => Kd.l9 (Kd.k5 (ak HO_3)) k_ hk)); (case aO => exact (by refine pRx ?_; exact Kd.j5 HOqt.out (fun _ hk => hk.2))); (case aS => exact (ab (aH HB))); (case aL => have := LMc32.out; omega); intro vqv w42 ho hb hg hat; rw [← Nyq7.out] at ho; replace HB := aQ (hb); replace HRqu := aQ ((show Kd.C (Kd.int .i64) w42 A41 yq6.length yq6 from by rw [Nyq6.out, KA41.out]; exact Kd.o3 (m := (x5_2 : Int).toNat) (c := co5) ((Kd.j4 (Kd.l5 (ok := (fun _ => True)) (ak HO_3) hg hat)).2.2) KL41.out ((Kd.j4 (Kd.l5 (ok := (fun _ => True)) (ak HO_3) hg hat)).2.1))); replace HO_3 := aQ (Kd.l5 (ok := (fun _ => True)) (ak HO_3) hg hat); have HOqw := aQ (ho); clear HOqt; clear ho hb hg hat))
   replace HO_3 := aQ (Kd.l7 HO_3.out); replace HOqw := aQ (Kd.l7 HOqw.out); replace HRqu := aQ (Kd.m5 HRqu.out); replace HB := aQ (av HB.out); have q44 : (x5_2 : Int) ≤ ((x3_1.length : Int) : Int) := of_decide_eq_true as_; obtain ⟨i044, hi044, _, hsz44, _⟩ := info_parts bG; have hcut44 := fc (P := Try.prog) 22 3 .i64 underlying22 hi044 Ao5 x3_1.length co5 x5_2 (of_decide_eq_true as_) q44 (Kd.j4 HO_3.out).2.1; have hr44 := Kd.o6 (m := (x5_2 : Int).toNat) HO_3.out (by omega); have hy44 : yq8.length = (x5_2 : Int).toNat := (by rw [Nyq8.out, List.length_take]; omega); rw [← Nyq8.out] at hr44; rw [← hy44] at hr44 hcut44; clear hy44 hi044 hsz44 HO_3; have HOqx := aQ hr44; clear hr44; replace q44 := eq_true q44; have pqy : 0 ≤ (x4_1 : Int) := of_decide_eq_true as_; have qqy : x4_1 < (l0.length : Int) := of_decide_eq_true as_; obtain ⟨adqy, eqy, hxqy_0⟩ := Kd.k7 HR0.out x4_1 pqy qqy; have hwqy_0 := hxqy_0; cases eqy; replace hxqy_0 := (HB.out.cell (World.block_lt_of_cell? w _ hxqy_0)).trans hxqy_0; replace pqy := eq_true pqy; replace qqy := eq_true qqy; refine bq (n := 12) (S := fun w' => w'.cell? (adqy.add (x4_1).toNat) = some (.int .i64 (rd l0 x4_1))) (ds := []) _ (by kernel_rfl) rfl rfl (((HB.out.cell (World.block_lt_of_cell? w _ hwqy_0)).trans hwqy_0)) (fun hHeld => ?_); refine aW af.tab9 af.bits9 (fun HT_ HW_ => ?_); generalize w42.drew = w43 at HO_3 HOqw HRqu HB HOqx hxqy_0 hHeld ⊢; refine pA 0 (some 37) HT_ ?_
   refine pA 1 (some 38) HT_ ?_; refine pA 2 (some 39) HT_ ?_; refine pA 3 (some 40) HT_ ?_; refine pA 4 (some 41) HT_ ?_; refine pA 5 (some 42) HT_ ?_; refine pA 9 (some 46) HT_ ?_; refine tA1 6 (some 43) HT_ HW_ hHeld ?_; refine onA (i := 7) (N := some 44) HT_ (h := fun K hK => ?_); refine ei (w1 := ?_) (v := ?_) (by rfl) rfl ?_ ?_
   rotate_left 2
   ·go_simp
    constructor
    ·rfl
    ·rfl
   refine hK.out _ _ ((World.cell?_alloc_lt _ _ _ (World.block_lt_of_cell? _ _ (((HB.out.cell (World.block_lt_of_cell? w _ hwqy_0)).trans hwqy_0)))).trans (((HB.out.cell (World.block_lt_of_cell? w _ hwqy_0)).trans hwqy_0))) (fun hHeld => ?_); clear hK K; refine noN (some 44) (h := ?_); refine onA (i := 8) (N := some 45) HT_ (h := fun K hK => ?_); refine Kd.m8 (Kd.int .i64) (w0 := w) w.heap.size (by rfl) (.tmp 39) (.tmp 44) 22 3 (.int .i64 0) 8 rfl underlying22 bG rfl (by decide) (by omega) (.slice Ao5 yq8.length co5) yq8 (rd l0 x4_1) [.int .i64 (rd l0 x4_1)] (fun k_ => some k_ ≠ (vqv : Value).ownBlock) (fun _ => False) rfl rfl ?aP (fun _ hk => hk.elim) ?aF ?aO ?aB ?aS ?aL ?_; (case aP => exact rfl); (case aB => exact (aH HB)); (case aF => exact (fun k_ hk => Kd.l9 (Kd.k5 (ak HOqw)) k_ hk)); (case aO => exact (by refine pRx ?_; exact Kd.j5 HOqx.out (fun _ hk => hk.2))); (case aS => exact (ab (aH HB))); (case aL => have := LMc36.out; omega); intro vqz w45 ho hb hg hat; rw [← Nyq9.out] at ho; replace HOqw := aQ (Kd.l5 (ok := (fun _ => True)) (by refine pRx ?_; exact Kd.j5 HOqw.out (fun _ hk => ⟨trivial, by first | exact hk | exact fun h_ => hk (h_.trans (ft _ _ _ _))⟩)) hg hat); replace HB := aQ (hb); have HOq10 := aQ (ho); clear HOqx; clear ho hb hg hat; obtain ⟨Ao47, co47, eo47⟩ := Kd.k4 HOqw.out; (first | subst eo47 | (injection eo47 with f1_ f2_ f3_; have f4_ := f1_.symm; have f5_ := f3_.symm; clear f1_ f2_ f3_; subst f4_; subst f5_))
   refine hK.out _ _ (((HB.out.cell (World.block_lt_of_cell? w _ hwqy_0)).trans hwqy_0)) (fun hHeld => ?_); clear hK K; refine noN (some 45) (h := ?_); refine onA (i := 10) (N := some 47) HT_ (h := fun K hK => ?_); refine Kd.k9 (Kd.int .i64) (w0 := w) w.heap.size (by rfl) (.tmp 45) (.tmp 46) 22 3 (.int .i64 0) 8 rfl underlying22 bG rfl (by decide) (by omega) vqz yq9 yq7 _ _ _ (fun k_ => some k_ ≠ (.slice Ao47 yq7.length co47 : Value).ownBlock) (fun _ => False) rfl rfl ?aO ?aR (fun _ _ h => h) (fun _ h => h.elim) ?aF ?aB ?aS ?aL ?_; (case aR => exact pC ((Kd.j4 HOqw.out).2.2)); (case aB => exact (aH HB)); (case aF => exact (fun k_ hk => Kd.l9 (Kd.k5 (ak HOqw)) k_ hk)); (case aO => exact (ak HOq10)); (case aS => exact (ab (aH HB))); (case aL => have := LMc37.out; omega); intro vq11 w46 ho hb hg hat; rw [← Nyqr.out] at ho; replace HOqw := aQ (Kd.l5 (ok := (fun _ => True)) (ak HOqw) hg hat); replace HB := aQ (hb); have HOq12 := aQ (ho); clear HOq10; clear ho hb hg hat; refine hK.out _ _ (((HB.out.cell (World.block_lt_of_cell? w _ hwqy_0)).trans hwqy_0)) (fun hHeld => ?_); clear hK K; refine noN (some 47) (h := ?_); refine pA 11 (some 3) HT_ ?_; refine bQ (bm HT_.out (by kernel_rfl)) ?_; try go_wp2
   go_roundg k2
   case measure => have := HK1.out; have := HK2.out; omega
   case rel => exact ⟨(yqr), (wrap64 (x4_1 + 1)), rs_, H', ⟨by have := HK1.out; have := HK2.out; omega⟩, ⟨by refine pRx ?_; exact Kd.j5 HOq12.out (fun _ hk => trivial)⟩, ⟨aH HB⟩⟩
 ·obtain rfl := oj H; go_wp2
  go_ret
  exact ⟨_, re_, by refine pRx ?_; exact HO_3.out, aH HB⟩
end Go.Proofs.Ytimkekeaeojpkaa.A
namespace Go.Proofs.Ytimkekeaeojpkaa.A
open Go.RowKit Go.Proofs.YtimkekeaeojpkaaW.PrintWords Go.Proofs.YtimkekeaeojpkaaW.PrintLast Go.Proofs.YtimkekeaeojpkaaW.PrintMore Try
attribute [local go_sem] bA bv bK bJ bl bk bw bz
set_option linter.unusedVariables false
set_option linter.unusedSimpArgs false
def bt.f (k : Nat) (a0_0 : Int) (l0_1 : List Int) : Option (List Int) := (aN.f k a0_0 l0_1).bind fun tq0 => (if tq0 = true then ((aj.f k a0_0 l0_1).bind fun tq1 => ((af.f k tq1).bind fun tq2 => (some tq2))) else (some (([] : List Int))))
theorem bt.j3 (k : Nat) (a0_0 : Int) (A0_1 : Option Addr) (c0_1 : Nat) (l0_1 : List Int) (r : List Int) (w : World) (hr0_1 : Kd.C (Kd.int .i64) w A0_1 l0_1.length l0_1) (hc0_1 : l0_1.length ≤ c0_1) (h : bt.f k a0_0 l0_1 = some r) :
  Calls Try.prog 58 #[.agg #[.int .i64 a0_0, .slice A0_1 l0_1.length c0_1]] w fun e w' => ∃ v0_ : Value, e = .returned (v0_) ∧ Kd.R (Kd.int .i64) 3 w' w.heap.size (fun _ => True) v0_ r ∧ Below w.heap.size w w' := by
 have hu28 := underlying28; have HR0_1 := aQ hr0_1; have HC0_1 := aQ hc0_1; clear hr0_1 hc0_1; have HB := aQ (Below.refl w.heap.size w); have H := h; clear h; unfold bt.f at H; (try dsimp only at H); replace H := bo H; obtain ⟨tq0, A2, H⟩ := H; replace H := ckB H; obtain ⟨rfl, H⟩ | ⟨rfl, H⟩ := H
 ·replace H := bo H; obtain ⟨tq1, A4, H⟩ := H; replace H := bo H; obtain ⟨tq2, A5, H⟩ := H; obtain rfl := oj H; go_enter func58, ntmps58; go_wp2_with (first | (refine bX 1 #[.int .i64 a0_0, .slice A0_1 l0_1.length c0_1] 28 ?_; intro gbq3 hg w6 BKq3 hb; have GEq3 := gB HB hg; replace HB := bs HB hb; clear hb hg; obtain ⟨_, _, _, _⟩ := cz2 BKq3) | (refine gt 52 ?_; refine gcB (some 4) func52 (aN.j3 k a0_0 _ _ l0_1 true _ (pC (Cbel HR0_1 HB)) HC0_1.out A2.out) ?_; intro w8 hb; replace BKq3 := bb BKq3 hb; replace HB := bs HB hb; (try clear hb); obtain ⟨_, _, _, _⟩ := cz2 BKq3) | (refine gt 60 ?_; refine gc (some 8) func60 (aj.j3 k a0_0 _ _ l0_1 tq1 _ (pC (Cbel HR0_1 HB)) HC0_1.out A4.out) ?_; rintro e w10 ⟨vq4, rfl, ho0, hb⟩; refine ⟨_, rfl, ?_⟩; have HOq5 := aQ (Kd.j9 ho0 (ab (bU HB GEq3))); replace BKq3 := bb BKq3 hb; replace HB := bs HB hb; (try clear hb); (try clear ho0); obtain ⟨Ao11, co11, eo11⟩ := Kd.k4 HOq5.out; subst eo11) | (refine gt 113 ?_; refine gc (some 9) func113 (af.j3 k _ _ tq1 tq2 _ (pC ((Kd.j4 HOq5.out).2.2)) ((Kd.j4 HOq5.out).2.1) A5.out) ?_; rintro e w12 ⟨vq6, rfl, ho0, hb⟩; refine ⟨_, rfl, ?_⟩; have HOq7 := aQ (Kd.j9 (Kd.j8 ho0 (Kd.k5 (ak HOq5))) (ab (bU HB GEq3))); replace HOq5 := aQ (Kd.j6 (ak HOq5) (Kd.j7 ho0) hb); replace BKq3 := bb BKq3 hb; replace HB := bs HB hb; (try clear hb); (try clear ho0)))
  go_ret
  exact ⟨_, re_, by refine pRx ?_; exact Kd.j5 HOq7.out (fun _ hk => trivial), bU HB GEq3⟩
 ·obtain ⟨yq8, hyq8⟩ : ∃ y_ : List Int, y_ = (([] : List Int)) := ⟨_, rfl⟩; replace H : (some yq8) = some r := by first | (rw [hyq8]; with_reducible exact H) | (rw [hyq8]; exact H)
  have Nyq8 := aQ hyq8; clear hyq8; obtain rfl := oj H; go_enter func58, ntmps58; go_wp2_with (first | (refine bX 1 #[.int .i64 a0_0, .slice A0_1 l0_1.length c0_1] 28 ?_; intro gbq3 hg w13 BKq3 hb; have GEq3 := gB HB hg; replace HB := bs HB hb; clear hb hg; obtain ⟨_, _, _, _⟩ := cz2 BKq3) | (refine gt 52 ?_; refine gcB (some 4) func52 (aN.j3 k a0_0 _ _ l0_1 false _ (pC (Cbel HR0_1 HB)) HC0_1.out A2.out) ?_; intro w15 hb; replace BKq3 := bb BKq3 hb; replace HB := bs HB hb; (try clear hb)) | (refine lI (d := Kd.int .i64) 6 Nyq8 ?_; intro vq9 w16 ho17 hb; have HOqa := aQ (Kd.j9 ho17 (ab (bU HB GEq3))); replace BKq3 := bb BKq3 hb; replace HB := bs HB hb; clear hb ho17))
  go_ret
  exact ⟨_, re_, by refine pRx ?_; exact HOqa.out, bU HB GEq3⟩
end Go.Proofs.Ytimkekeaeojpkaa.A
