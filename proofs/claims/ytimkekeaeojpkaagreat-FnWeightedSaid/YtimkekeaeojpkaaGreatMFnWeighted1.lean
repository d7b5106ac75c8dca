/- Machine side of the law FnWeighted: Go functions as Lean functions, and proofs that calls come to what these tell. Conditions: those in each theorem. -/
import Derived.Test.YtimkekeaeojpkaaGreatMFnWeightedwRepsOne
import Derived.Test.YtimkekeaeojpkaaGreatMFnWeighted0
import Derived.Test.YtimkekeaeojpkaaGreatMFnWeightedq0
set_option maxHeartbeats 8000000
set_option maxRecDepth 100000
namespace Go.Proofs.YtimkekeaeojpkaaGreat.A
open Go.RowKit Go.Proofs.YtimkekeaeojpkaaGreatW.PrintWords Go.Proofs.YtimkekeaeojpkaaGreatW.PrintLast Go.Proofs.YtimkekeaeojpkaaGreatW.PrintMore Tryz
attribute [local go_sem] cK cM dc da cv cw cI cJ
set_option linter.unusedVariables false
set_option linter.unusedSimpArgs false
def laws_big.f (l0 : List Int) : Option (Bool) := some (decide ((l0.length : Int) > 1048576))
theorem laws_big.o0 (A0 : Option Addr) (c0 : Nat) (l0 : List Int) (r : Bool) (w : World) (hr0 : Kd.C (Kd.int .u8) w A0 l0.length l0) (hc0 : l0.length ≤ c0) (h : laws_big.f l0 = some r) :
  CD Tryz.prog 8 #[.slice A0 l0.length c0] w (.bool r) := by
 have HR0 := aQ hr0; have HC0 := aQ hc0; clear hr0 hc0; have H : (some (decide ((l0.length : Int) > 1048576))) = some r := h; clear h; obtain rfl := oj H; go_enter func8, ntmps8; go_wp2
 go_ret
 exact ⟨rs_, rd_⟩
def bA.f (a0 : Int) (a1 : Int) (a2 : Int) : Option (Bool) := if a0 ≥ a1 then (some (decide (a0 ≤ a2))) else (some false)
theorem bA.o0 (a0 : Int) (a1 : Int) (a2 : Int) (r : Bool) (w : World) (h : bA.f a0 a1 a2 = some r) :
  CD Tryz.prog 116 #[.int .i64 a0, .int .i64 a1, .int .i64 a2] w (.bool r) := by
 have H : (if a0 ≥ a1 then (some (decide (a0 ≤ a2))) else (some false)) = some r := h; clear h; replace H := ckD H; obtain ⟨c4b0, H⟩ | ⟨c4b0, H⟩ := H
 ·obtain rfl := oj H; go_enter func116, ntmps116; go_wp2
  go_ret
  exact ⟨rs_, rd_⟩
 ·obtain rfl := oj H; go_enter func116, ntmps116; go_wp2
  go_ret
  exact ⟨rs_, rd_⟩
def a7.f (a0 : Int) (a1 : Int) : Option (Bool) := (bA.f a0 0 8).bind fun tq0 => (if tq0 = true then (if 0 ≤ (IntKind.u64.wrap (a0)) then ((bA.f a1 0 (wrap64 ((shl .i64 1 (IntKind.u64.wrap (a0))) - 1))).bind fun tq1 => (some tq1)) else (none)) else (some false))
theorem a7.o0 (a0 : Int) (a1 : Int) (r : Bool) (w : World) (h : a7.f a0 a1 = some r) :
  CD Tryz.prog 112 #[.int .i64 a0, .int .i64 a1] w (.bool r) := by
 have H := h; clear h; unfold a7.f at H; (try dsimp only at H); replace H := bo H; obtain ⟨tq0, A3, H⟩ := H; replace H := ckB H; obtain ⟨rfl, H⟩ | ⟨rfl, H⟩ := H
 ·obtain ⟨ji5, hji5⟩ : ∃ j_ : Int, (IntKind.u64.wrap (a0)) = j_ := ⟨_, rfl⟩; (first | rw [hji5] at H | simp only [hji5] at H); (try rw [hji5] at A3); replace H := gdB H; obtain ⟨c6b0, c6b1, H⟩ := H; obtain ⟨ji7, hji7⟩ : ∃ j_ : Int, (shl .i64 1 (ji5)) = j_ := ⟨_, rfl⟩; (first | rw [hji7] at H | simp only [hji7] at H); (try rw [hji7] at A3); have hji7_ : (IntKind.i64.wrap (1 * 2 ^ min (ji5).toNat 64)) = ji7 := hji7; have hji7z : (ji5) ≤ 64 → (IntKind.i64.wrap (1 * 2 ^ (ji5).toNat)) = ji7 := dr hji7; have hji7u : (IntKind.i64.wrap (2 ^ min (ji5).toNat 64)) = ji7 := by have h_ := hji7_; rw [Int.one_mul] at h_; exact h_
  have hji7v : (ji5) ≤ 64 → (IntKind.i64.wrap (2 ^ (ji5).toNat)) = ji7 := fun hle_ => by have h_ := hji7z hle_; rw [Int.one_mul] at h_; exact h_
  have hji7y : (wrap64 (1 * 2 ^ min (ji5).toNat 64)) = ji7 := (i64_w _).symm.trans hji7_; have hji7x : (ji5) ≤ 64 → (wrap64 (1 * 2 ^ (ji5).toNat)) = ji7 := fun h_ => (i64_w _).symm.trans (hji7z h_)
  replace H := bo H; obtain ⟨tq1, A8, H⟩ := H; obtain rfl := oj H; go_enter func112, ntmps112; go_wp2_with (first | (refine gt 116 ?_; refine gcD (some 6) func116 (bA.o0 a0 0 8 true _ A3.out) ?_; intro nd) | (go_at_call 116; (with_reducible refine (bA.o0 a1 0 (wrap64 ((ji7) - 1)) tq1 _ A8.out).mono ?_); rintro e w' ⟨rfl, ⟨nd, rfl⟩⟩))
  go_ret
  exact ⟨by first | rfl | (simp; done) | (simp only [← hji5, ← hji7] <;> (first | rfl | simp)) | (simp [*]; done), rd_⟩
 ·obtain rfl := oj H; go_enter func112, ntmps112; go_wp2_with (first | (refine gt 116 ?_; refine gcD (some 6) func116 (bA.o0 a0 0 8 false _ A3.out) ?_; intro nd))
  go_ret
  exact ⟨rs_, rd_⟩
def bq.f (a0 : Int) (a1 : Int) : Option (Bool) := if 0 ≤ (IntKind.u64.wrap (a1)) then (some ((Go.bits .and .i64 (shr .i64 a0 (IntKind.u64.wrap (a1))) 1) == 1)) else (none)
theorem bq.o0 (a0 : Int) (a1 : Int) (r : Bool) (w : World) (h : bq.f a0 a1 = some r) :
  CD Tryz.prog 124 #[.int .i64 a0, .int .i64 a1] w (.bool r) := by
 have H := h; clear h; unfold bq.f at H; (try dsimp only at H); obtain ⟨ji3, hji3⟩ : ∃ j_ : Int, (IntKind.u64.wrap (a1)) = j_ := ⟨_, rfl⟩; (first | rw [hji3] at H | simp only [hji3] at H); replace H := gdB H; obtain ⟨c4b0, c4b1, H⟩ := H; obtain ⟨ji5, hji5⟩ : ∃ j_ : Int, (shr .i64 a0 (ji3)) = j_ := ⟨_, rfl⟩; (first | rw [hji5] at H | simp only [hji5] at H); have hji5_ : (a0 / 2 ^ min (ji3).toNat 64) = ji5 := hji5; have hji5z : (ji3) ≤ 64 → (a0 / 2 ^ (ji3).toNat) = ji5 := js hji5; obtain rfl := oj H; go_enter func124, ntmps124; go_wp2
 go_ret
 exact ⟨by first | rfl | (simp; done) | (simp only [← hji3, ← hji5] <;> (first | rfl | simp)) | (simp [*]; done), rd_⟩
def cB.f (a0 : Int) (a1 : Int) : Option (Bool) := (a7.f 8 a0).bind fun tq0 => (if tq0 = true then ((bA.f a1 0 7).bind fun tq1 => (if tq1 = true then ((bq.f a0 a1).bind fun tq2 => (some tq2)) else (some false))) else (some false))
theorem cB.o0 (a0 : Int) (a1 : Int) (r : Bool) (w : World) (h : cB.f a0 a1 = some r) :
  CD Tryz.prog 41 #[.int .i64 a0, .int .i64 a1] w (.bool r) := by
 have H := h; clear h; unfold cB.f at H; (try dsimp only at H); replace H := bo H; obtain ⟨tq0, A3, H⟩ := H; replace H := ckB H; obtain ⟨rfl, H⟩ | ⟨rfl, H⟩ := H
 ·replace H := bo H; obtain ⟨tq1, A5, H⟩ := H; replace H := ckB H; obtain ⟨rfl, H⟩ | ⟨rfl, H⟩ := H
  ·replace H := bo H; obtain ⟨tq2, A7, H⟩ := H; obtain rfl := oj H; go_enter func41, ntmps41; go_wp2_with (first | (refine gt 112 ?_; refine gcD (some 6) func112 (a7.o0 8 a0 true _ A3.out) ?_; intro nd) | (go_at_call 116; (with_reducible refine (bA.o0 a1 0 7 true _ A5.out).mono ?_); rintro e w' ⟨rfl, ⟨nd, rfl⟩⟩) | (go_at_call 124; (with_reducible refine (bq.o0 a0 a1 tq2 _ A7.out).mono ?_); rintro e w' ⟨rfl, ⟨nd, rfl⟩⟩))
   go_ret
   exact ⟨rs_, rd_⟩
  ·obtain rfl := oj H; go_enter func41, ntmps41; go_wp2_with (first | (refine gt 112 ?_; refine gcD (some 6) func112 (a7.o0 8 a0 true _ A3.out) ?_; intro nd) | (go_at_call 116; (with_reducible refine (bA.o0 a1 0 7 false _ A5.out).mono ?_); rintro e w' ⟨rfl, ⟨nd, rfl⟩⟩))
   go_ret
   exact ⟨rs_, rd_⟩
 ·obtain rfl := oj H; go_enter func41, ntmps41; go_wp2_with (first | (refine gt 112 ?_; refine gcD (some 6) func112 (a7.o0 8 a0 false _ A3.out) ?_; intro nd))
  go_ret
  exact ⟨rs_, rd_⟩
def bd.l0 : Nat → List Int → Int → Int → Int → Option (Int)
 | 0, _, _, _, _ => none
 | k + 1, x0, x1, x5, x6 => if x6 < (x0.length : Int) then ((cB.f x1 x6).bind fun tq0 => (if tq0 = true then (if 0 ≤ x6 then (bd.l0 k x0 x1 (wrap64 (x5 + (rd x0 x6))) (wrap64 (x6 + 1))) else (none)) else (bd.l0 k x0 x1 x5 (wrap64 (x6 + 1))))) else (some x5)
def bd.f (k : Nat) (l0 : List Int) (a1 : Int) : Option (Int) := bd.l0 k l0 a1 0 0
theorem bd.o0 (k : Nat) (A0 : Option Addr) (c0 : Nat) (l0 : List Int) (a1 : Int) (r : Int) (w : World) (hr0 : Kd.C (Kd.int .i64) w A0 l0.length l0) (hc0 : l0.length ≤ c0) (h : bd.f k l0 a1 = some r) :
  CD Tryz.prog 23 #[.slice A0 l0.length c0, .int .i64 a1] w (.int .i64 r) := by
 have HR0 := aQ hr0; have HC0 := aQ hc0; clear hr0 hc0; have H : (bd.l0 k l0 a1 0 0) = some r := h; clear h; have H' := aQ H; clear H; go_enter func23, ntmps23; go_wp2
 go_loopg [5, 6] k (fun kq v5 v6 w' => ∃ (x5_1 : Int) (x6_1 : Int), v5 = .int .i64 x5_1 ∧ v6 = .int .i64 x6_1 ∧ Aside0 (bd.l0 kq l0 a1 x5_1 x6_1 = some r) ∧ Aside0 (kq ≤ k) ∧ Drawn0 w w')
 case atStart => exact ⟨(0), (0), rs_, rs_, H', ⟨Nat.le_refl _⟩, rd_⟩
 clear H'; obtain ⟨x5_1, x6_1, rfl, rfl, HA, HK1, ⟨m1, rfl⟩⟩ := hrel; rcases gk with _ | k1
 ·exact absurd HA.out (by simp [bd.l0])
 have H := HA.out; clear HA; simp only [bd.l0] at H; replace H := ckD H; obtain ⟨c3b0, H⟩ | ⟨c3b0, H⟩ := H
 ·replace H := bo H; obtain ⟨tq0, A4, H⟩ := H; replace H := ckB H; obtain ⟨rfl, H⟩ | ⟨rfl, H⟩ := H
  ·replace H := gdD H; obtain ⟨c6b0, H⟩ := H; have H' := aQ H; clear H; go_wp2_with (first | (refine gt 41 ?_; refine gcD (some 15) func41 (cB.o0 a1 x6_1 true _ A4.out) ?_; intro nd; have pq1 : 0 ≤ (x6_1 : Int) := of_decide_eq_true as_; have qq1 : x6_1 < (l0.length : Int) := of_decide_eq_true as_; obtain ⟨adq1, eq1, hxq1_0⟩ := Kd.r9 HR0.out x6_1 pq1 qq1; cases eq1; replace pq1 := eq_true pq1; replace qq1 := eq_true qq1))
   go_roundg k1
   case measure => exact omeg HK1
   case rel => exact ⟨(wrap64 (x5_1 + (rd l0 x6_1))), (wrap64 (x6_1 + 1)), rs_, rs_, H', ⟨omeg HK1⟩, rd_⟩
  ·have H' := aQ H; clear H; go_wp2_with (first | (refine gt 41 ?_; refine gcD (some 15) func41 (cB.o0 a1 x6_1 false _ A4.out) ?_; intro nd))
   go_roundg k1
   case measure => exact omeg HK1
   case rel => exact ⟨(x5_1), (wrap64 (x6_1 + 1)), rs_, rs_, H', ⟨omeg HK1⟩, rd_⟩
 ·obtain rfl := oj H; go_wp2
  go_ret
  exact ⟨rs_, rd_⟩
end Go.Proofs.YtimkekeaeojpkaaGreat.A
namespace Go.Proofs.YtimkekeaeojpkaaGreat.A
open Go.RowKit Go.Proofs.YtimkekeaeojpkaaGreatW.PrintWords Go.Proofs.YtimkekeaeojpkaaGreatW.PrintLast Go.Proofs.YtimkekeaeojpkaaGreatW.PrintMore Tryz
attribute [local go_sem] cK cM dc da cv cw cI cJ
set_option linter.unusedVariables false
set_option linter.unusedSimpArgs false
def G4 (w0 W : World) (g : Nat) (f0 : List Int) (f1 : Int) (f2 : Int) : Prop := ∃ A0 c0, W.heap[g]? = some (.cells #[.slice A0 f0.length c0, .int .i64 f1, .int .i64 f2] 126 (0, 0)) ∧ w0.heap.size ≤ g ∧ Kd.C (Kd.int .u8) w0 A0 f0.length f0
theorem G4.grown {w0 W : World} {g : Nat} {f0 : List Int} {f1 : Int} {f2 : Int} {W1 : World} {row : Option Nat} (h : G4 w0 W g f0 f1 f2) (hw : W.grownBy W1 row) (hne : some g ≠ row) : G4 w0 W1 g f0 f1 f2 := by
  obtain ⟨A0, c0, hb, hg, hr0⟩ := h
  exact ⟨A0, c0, cV hb hw hne, hg, hr0⟩
theorem G4.kept {w0 W : World} {g : Nat} {f0 : List Int} {f1 : Int} {f2 : Int} {W1 : World} {S : Nat → Prop} (h : G4 w0 W g f0 f1 f2) (hk : Kept W W1 S) (hne : ¬ S g) : G4 w0 W1 g f0 f1 f2 := by
  obtain ⟨A0, c0, hb, hg, hr0⟩ := h
  exact ⟨A0, c0, je hb hk hne, hg, hr0⟩
theorem G4.below {w0 W : World} {g : Nat} {f0 : List Int} {f1 : Int} {f2 : Int} {W1 : World} (h : G4 w0 W g f0 f1 f2) (hw : Below W.heap.size W W1) : G4 w0 W1 g f0 f1 f2 := h.grown (fB hw none) (by simp)
theorem G4.alloc {w0 W : World} {g : Nat} {f0 : List Int} {f1 : Int} {f2 : Int} (h : G4 w0 W g f0 f1 f2) (o : Obj) : G4 w0 (W.alloc o) g f0 f1 f2 := h.below (ck (Below.refl _ _) o)
theorem G4.drewN {w0 W : World} {g : Nat} {f0 : List Int} {f1 : Int} {f2 : Int} (h : G4 w0 W g f0 f1 f2) (m : Nat) : G4 w0 (W.drewN m) g f0 f1 f2 := h
theorem G4.drew {w0 W : World} {g : Nat} {f0 : List Int} {f1 : Int} {f2 : Int} (h : G4 w0 W g f0 f1 f2) : G4 w0 W.drew g f0 f1 f2 := h
theorem G4.at_ {w0 W : World} {g : Nat} {f0 : List Int} {f1 : Int} {f2 : Int} {w' : World} {m : Nat} (hq : W.drewN m = w') (h : G4 w0 W g f0 f1 f2) : G4 w0 w' g f0 f1 f2 := by subst hq; exact G4.drewN h m
theorem G4.apart {w0 W : World} {g : Nat} {f0 : List Int} {f1 : Int} {f2 : Int} {α : Type} {d : Kd α} {e : Nat} {base : Nat} {ok : Nat → Prop} {v : Value} {xs : List α} (h : G4 w0 W g f0 f1 f2) (ho : d.R e W base ok v xs) (ht : ∀ q, q ∈ e :: d.E → q ≠ 126) : d.R e W base (fun k => ok k ∧ k ≠ g) v xs := by
  obtain ⟨A0, c0, hb, hg, hr0⟩ := h
  exact Kd.q8 ho hb ht
theorem G4.z7 {w0 W : World} {g : Nat} {f0 : List Int} {f1 : Int} {f2 : Int} {α : Type} {d : Kd α} {e : Nat} {base : Nat} {ok : Nat → Prop} {v : Value} {xs : List α} (h : G4 w0 W g f0 f1 f2) (ho : d.R e W base ok v xs) (ht : e ≠ 126) : some g ≠ v.ownBlock := by
  obtain ⟨A0, c0, hb, hg, hr0⟩ := h
  exact Kd.C5 ho hb ht
theorem G4.lt {w0 W : World} {g : Nat} {f0 : List Int} {f1 : Int} {f2 : Int} (h : G4 w0 W g f0 f1 f2) : g < W.heap.size := by
  obtain ⟨A0, c0, hb, hg, hr0⟩ := h
  exact dR hb
theorem G4.ge {w0 W : World} {g : Nat} {f0 : List Int} {f1 : Int} {f2 : Int} (h : G4 w0 W g f0 f1 f2) : w0.heap.size ≤ g := by
  obtain ⟨A0, c0, hb, hg, hr0⟩ := h
  exact hg
theorem G4.C4 {w0 W : World} {g : Nat} {f0 : List Int} {f1 : Int} {f2 : Int} {a : Nat} {cs : Array Value} {t : TypeId} {fr : Nat × Nat} (h : G4 w0 W g f0 f1 f2) (hb2 : W.heap[a]? = some (.cells cs t fr)) (ht : t ≠ 126) : g ≠ a := by
  obtain ⟨A0, c0, hb, hg, hr0⟩ := h
  rintro rfl
  rw [hb] at hb2
  injection hb2 with hb2
  injection hb2 with _ ht2
  exact ht ht2.symm
theorem G4.far {w0 W : World} {g : Nat} {f0 : List Int} {f1 : Int} {f2 : Int} {p : Addr} (h : G4 w0 W g f0 f1 f2) (hne : g ≠ p.block) (u : Value) : G4 w0 (W.setCell p u) g f0 f1 f2 := by
  obtain ⟨A0, c0, hb, hg, hr0⟩ := h
  exact ⟨A0, c0, am hb hne u, hg, hr0⟩
theorem iF {W : World} {g : Nat} {A0 : Option Addr} {c0 : Nat} {f0 : List Int} {f1 : Int} {f2 : Int} (h : W.heap[g]? = some (.cells #[.slice A0 f0.length c0, .int .i64 f1, .int .i64 f2] 126 (0, 0))) : W.cell? ⟨g, 0, none⟩ = some (.slice A0 f0.length c0) := (cx h 0).trans rfl
theorem jb {W : World} {g : Nat} {A0 : Option Addr} {c0 : Nat} {f0 : List Int} {f1 : Int} {f2 : Int} (h : W.heap[g]? = some (.cells #[.slice A0 f0.length c0, .int .i64 f1, .int .i64 f2] 126 (0, 0))) : W.cell? ⟨g, 1, none⟩ = some (.int .i64 f1) := (cx h 1).trans rfl
theorem G4.set_1 {w0 W : World} {g : Nat} {f0 : List Int} {f1 : Int} {f2 : Int} (h : G4 w0 W g f0 f1 f2) (x : Int) : G4 w0 (W.setCell ⟨g, 1, none⟩ (.int .i64 x)) g f0 x f2 := by
  obtain ⟨A0, c0, hb, hg, hr0⟩ := h
  exact ⟨A0, c0, by simpa using j4 hb 1 (.int .i64 x), hg, hr0⟩
theorem jd {W : World} {g : Nat} {A0 : Option Addr} {c0 : Nat} {f0 : List Int} {f1 : Int} {f2 : Int} (h : W.heap[g]? = some (.cells #[.slice A0 f0.length c0, .int .i64 f1, .int .i64 f2] 126 (0, 0))) : W.cell? ⟨g, 2, none⟩ = some (.int .i64 f2) := (cx h 2).trans rfl
theorem G4.set_2 {w0 W : World} {g : Nat} {f0 : List Int} {f1 : Int} {f2 : Int} (h : G4 w0 W g f0 f1 f2) (x : Int) : G4 w0 (W.setCell ⟨g, 2, none⟩ (.int .i64 x)) g f0 f1 x := by
  obtain ⟨A0, c0, hb, hg, hr0⟩ := h
  exact ⟨A0, c0, by simpa using j4 hb 2 (.int .i64 x), hg, hr0⟩
theorem pi_ {p q : Prop} (h : Aside0 q) (f : Aside0 q → p := by intro h_; repeat (first | (with_reducible first | exact h_.out | apply G4.alloc | apply G4.drewN | apply G4.drew | apply G4.set_1 | apply G4.set_2 | refine G4.far ?_ (Aside0.out (by assumption)) _) | exact h_.out)) : p := f h
theorem pbI {p q : Prop} (h : Aside0 q) (f : Aside0 q → p := by intro h_; repeat (first | (with_reducible first | exact h_.out | apply ck | apply ch | apply ao | refine cS ?_ (Aside0.out (by assumption)) | refine cS ?_ (G4.ge (Aside0.out (by assumption)))) | exact h_.out)) : p := f h
section
variable {w0 w w1 w2 wa W : World} {g gb : Nat} {f0 : List Int} {f1 f2 : Int}
theorem bsI (h : Aside0 (Below w.heap.size w wa)) (hb : Below w1.heap.size w1 w2) (f : Below w.heap.size w w1 := by repeat (first | (with_reducible first | exact Aside0.out (by assumption) | apply ck | apply ch | apply ao | refine cS ?_ (Aside0.out (by assumption)) | refine cS ?_ (G4.ge (Aside0.out (by assumption)))) | exact Aside0.out (by assumption))) : Aside0 (Below w.heap.size w w2) := ⟨ek f hb⟩
theorem nI (h : Aside0 (G4 w0 wa g f0 f1 f2)) (hg : gb = w1.heap.size) (f : G4 w0 w1 g f0 f1 f2 := by repeat (first | (with_reducible first | exact Aside0.out (by assumption) | apply G4.alloc | apply G4.drewN | apply G4.drew | apply G4.set_1 | apply G4.set_2 | refine G4.far ?_ (Aside0.out (by assumption)) _) | exact Aside0.out (by assumption))) : Aside0 (g ≠ gb) := ⟨by rw [hg]; exact Nat.ne_of_lt f.lt⟩
theorem mI (h : Aside0 (G4 w0 wa g f0 f1 f2)) (hg : gb = w1.heap.size) (f : G4 w0 w1 g f0 f1 f2 := by repeat (first | (with_reducible first | exact Aside0.out (by assumption) | apply G4.alloc | apply G4.drewN | apply G4.drew | apply G4.set_1 | apply G4.set_2 | refine G4.far ?_ (Aside0.out (by assumption)) _) | exact Aside0.out (by assumption))) : Aside0 (gb ≠ g) := ⟨by rw [hg]; exact Nat.ne_of_gt f.lt⟩
theorem bI (h : Aside0 (G4 w0 wa g f0 f1 f2)) (hb : Below w1.heap.size w1 w2) (f : G4 w0 w1 g f0 f1 f2 := by repeat (first | (with_reducible first | exact Aside0.out (by assumption) | apply G4.alloc | apply G4.drewN | apply G4.drew | apply G4.set_1 | apply G4.set_2 | refine G4.far ?_ (Aside0.out (by assumption)) _) | exact Aside0.out (by assumption))) : Aside0 (G4 w0 w2 g f0 f1 f2) := ⟨f.below hb⟩
end
section
variable {w0 w W W2 : World} {g : Nat} {f0 : List Int} {f1 : Int} {f2 : Int} {α : Type} {d : Kd α} {e base : Nat} {v : Value} {xs : List α}
theorem rk {Wa Wb : World} (h : Aside0 (G4 w0 Wa g f0 f1 f2)) (ho : Aside0 (d.R e Wb base (fun _ => True) v xs)) (hk : KeepBut W W2 g none) (h1 : G4 w0 W g f0 f1 f2 := by repeat (first | (with_reducible first | exact Aside0.out (by assumption) | apply G4.alloc | apply G4.drewN | apply G4.drew | apply G4.set_1 | apply G4.set_2 | refine G4.far ?_ (Aside0.out (by assumption)) _) | exact Aside0.out (by assumption))) (h2 : d.R e W base (fun _ => True) v xs := by (with_reducible repeat (first | apply Kd.E8 | apply Kd.F0 | apply Kd.t7)); exact Aside0.out (by assumption)) (ht : ∀ q, q ∈ e :: d.E → q ≠ 126 := by decide) : Aside0 (d.R e W2 base (fun _ => True) v xs) :=
  ⟨Kd.o8 (Kd.t9 (G4.apart h1 h2 ht) hk (fun _ h => h.2)) (fun _ h => h.1)⟩
end
def cp.l0 : Nat → List Int → Int → Int → Option (List Int × Int × Int)
 | 0, _, _, _ => none
 | k + 1, x0, x3, x4 => if x4 < (x0.length : Int) then (if x4 < 4000 then (if 0 ≤ x4 then (cp.l0 k x0 (Go.bits .and .i64 (wrap64 ((wrap64 ((wrap64 (x3 * 131)) + (wrap64 (rd x0 x4)))) + 7)) 1073741823) (wrap64 (x4 + 1))) else (none)) else (some (x0, 0, x3))) else (some (x0, 0, x3))
def cp.f (k : Nat) (l0 : List Int) : Option (List Int × Int × Int) := cp.l0 k l0 (wrap64 (26583 + (l0.length : Int))) 0
theorem cp.o0 (k : Nat) (A0 : Option Addr) (c0 : Nat) (l0 : List Int) (r1 : List Int) (r2 : Int) (r3 : Int) (w0 w : World) (hB : Below w0.heap.size w0 w) (hr0 : Kd.C (Kd.int .u8) w0 A0 l0.length l0) (hc0 : l0.length ≤ c0) (h : cp.f k l0 = some (r1, r2, r3)) :
  Calls Tryz.prog 96 #[.slice A0 l0.length c0] w fun e w' => ∃ g_ : Nat, e = .returned (.pointer (some ⟨g_, 0, none⟩)) ∧ G4 w0 w' g_ r1 r2 r3 ∧ Below w0.heap.size w0 w' ∧ Below w.heap.size w w' := by
 have hu126 := underlying126; have HR0 := aQ hr0; have HC0 := aQ hc0; clear hr0 hc0; have HBW := aQ (Below.refl w.heap.size w); have HW0 := aQ hB.size; have HB := aQ hB; clear hB; have H := h; clear h; unfold cp.f at H; (try dsimp only at H); have H' := aQ H; clear H; go_enter func96, ntmps96; go_wp2
 go_loopg [3, 4] k (fun kq v3 v4 w' => ∃ (x3_1 : Int) (x4_1 : Int), v3 = .int .i64 x3_1 ∧ v4 = .int .i64 x4_1 ∧ Aside0 (cp.l0 kq l0 x3_1 x4_1 = some (r1, r2, r3)) ∧ Aside0 (kq ≤ k) ∧ Aside0 (Below w0.heap.size w0 w') ∧ Aside0 (Below w.heap.size w w'))
 case atStart => exact ⟨(wrap64 (26583 + (l0.length : Int))), (0), rs_, rs_, H', ⟨Nat.le_refl _⟩, ⟨af HB⟩, ⟨pb HBW⟩⟩
 clear H'; obtain ⟨x3_1, x4_1, rfl, rfl, HA, HK1, HB, HBW⟩ := hrel; rcases gk with _ | k1
 ·exact absurd HA.out (by simp [cp.l0])
 have H := HA.out; clear HA; simp only [cp.l0] at H; replace H := ckD H; obtain ⟨c2b0, H⟩ | ⟨c2b0, H⟩ := H
 ·replace H := ckD H; obtain ⟨c3b0, H⟩ | ⟨c3b0, H⟩ := H
  ·replace H := gdD H; obtain ⟨c4b0, H⟩ := H; have H' := aQ H; clear H; have pq0 : 0 ≤ (x4_1 : Int) := of_decide_eq_true as_; have qq0 : x4_1 < (l0.length : Int) := of_decide_eq_true as_; obtain ⟨adq0, eq0, hxq0_0⟩ := Kd.r9 HR0.out x4_1 pq0 qq0; cases eq0; replace hxq0_0 := dG HB.out hxq0_0; replace pq0 := eq_true pq0; replace qq0 := eq_true qq0; go_wp2
   go_roundg k1
   case measure => exact omeg HK1
   case rel => exact ⟨(Go.bits .and .i64 (wrap64 ((wrap64 ((wrap64 (x3_1 * 131)) + (wrap64 (rd l0 x4_1)))) + 7)) 1073741823), (wrap64 (x4_1 + 1)), rs_, rs_, H', ⟨omeg HK1⟩, ⟨af HB⟩, ⟨pb HBW⟩⟩
  ·obtain ⟨rfl, rfl, rfl⟩ := o3 H; go_wp2_with (first | (refine bX 31 #[.slice A0 l0.length c0, .int .i64 0, .int .i64 x3_1] 126 ?_; intro gbq1 hg w5 BKq1 hb; replace HB := bs HB hb; have GWq1 := aQ ((by rw [hg]; exact (ab (pb HBW)) : w.heap.size ≤ gbq1)); have GEq1 := aQ ((Nat.le_trans HW0.out (by rw [hg]; exact (ab (pb HBW)) : w.heap.size ≤ gbq1) : w0.heap.size ≤ gbq1)); replace HBW := aQ (ek HBW.out hb); clear hb hg))
   go_ret
   exact ⟨_, rfl, (show G4 w0 _ gbq1 l0 0 x3_1 from ⟨_, _, an BKq1, GEq1.out, HR0.out⟩), bB HB GEq1, pb HBW⟩
 ·obtain ⟨rfl, rfl, rfl⟩ := o3 H; go_wp2_with (first | (refine bX 31 #[.slice A0 l0.length c0, .int .i64 0, .int .i64 x3_1] 126 ?_; intro gbq2 hg w6 BKq2 hb; replace HB := bs HB hb; have GWq2 := aQ ((by rw [hg]; exact (ab (pb HBW)) : w.heap.size ≤ gbq2)); have GEq2 := aQ ((Nat.le_trans HW0.out (by rw [hg]; exact (ab (pb HBW)) : w.heap.size ≤ gbq2) : w0.heap.size ≤ gbq2)); replace HBW := aQ (ek HBW.out hb); clear hb hg))
  go_ret
  exact ⟨_, rfl, (show G4 w0 _ gbq2 l0 0 x3_1 from ⟨_, _, an BKq2, GEq2.out, HR0.out⟩), bB HB GEq2, pb HBW⟩
end Go.Proofs.YtimkekeaeojpkaaGreat.A
namespace Go.Proofs.YtimkekeaeojpkaaGreat.A
open Go.RowKit Go.Proofs.YtimkekeaeojpkaaGreatW.PrintWords Go.Proofs.YtimkekeaeojpkaaGreatW.PrintLast Go.Proofs.YtimkekeaeojpkaaGreatW.PrintMore Tryz
attribute [local go_sem] cK cM dc da cv cw cI cJ
set_option linter.unusedVariables false
set_option linter.unusedSimpArgs false
def cL.f (s0_0 : List Int) (s0_1 : Int) (s0_2 : Int) : Option (Int × Int × Int) := if s0_1 < (s0_0.length : Int) then (if 0 ≤ s0_1 then (some (Go.bits .and .i64 (wrap64 ((Go.bits .and .i64 (Go.bits .xor .i64 ((wrap64 ((wrap64 (s0_2 * 6364136223846793005)) + 1442695040888963407)) / 8589934592) ((wrap64 ((wrap64 (s0_2 * 6364136223846793005)) + 1442695040888963407)) / 35184372088832)) 255) + (wrap64 (rd s0_0 s0_1)))) 255, wrap64 (s0_1 + 1), wrap64 ((wrap64 (s0_2 * 6364136223846793005)) + 1442695040888963407))) else (none)) else (some (Go.bits .and .i64 (Go.bits .xor .i64 ((wrap64 ((wrap64 (s0_2 * 6364136223846793005)) + 1442695040888963407)) / 8589934592) ((wrap64 ((wrap64 (s0_2 * 6364136223846793005)) + 1442695040888963407)) / 35184372088832)) 255, s0_1, wrap64 ((wrap64 (s0_2 * 6364136223846793005)) + 1442695040888963407)))
theorem cL.o0 (g : Nat) (s0_0 : List Int) (s0_1 : Int) (s0_2 : Int) (r1 : Int) (r2 : Int) (r3 : Int) (w0 w : World) (hI : G4 w0 w g s0_0 s0_1 s0_2) (hB : Below w0.heap.size w0 w) (h : cL.f s0_0 s0_1 s0_2 = some (r1, r2, r3)) :
  Calls Tryz.prog 203 #[.pointer (some ⟨g, 0, none⟩)] w fun e w' => e = .returned (.int .i64 r1) ∧ G4 w0 w' g s0_0 r2 r3 ∧ Below w0.heap.size w0 w' ∧ KeepBut w w' g none := by
 have HI0 := aQ hI; have HK := aQ (KeepBut.refl w g none); have HL := aQ hB.size; clear hI; have HW0 := aQ hB.size; have HB := aQ hB; clear hB; have H := h; clear h; unfold cL.f at H; (try dsimp only at H); replace H := ckD H; obtain ⟨c2b0, H⟩ | ⟨c2b0, H⟩ := H
 ·replace H := gdD H; obtain ⟨c3b0, H⟩ := H; obtain ⟨rfl, rfl, rfl⟩ := o3 H; obtain ⟨ASz4_0, cSz4_0, HGz4, hgz4, HSz4_0⟩ := HI0.out; have hcz4_0 := iF HGz4; have hcz4_1 := jb HGz4; have hcz4_2 := jd HGz4; have hfz4_1 := ak HGz4 1; have hfz4_2 := ak HGz4 2; clear HGz4 hgz4; have pq0 : 0 ≤ (s0_1 : Int) := of_decide_eq_true as_; have qq0 : s0_1 < (s0_0.length : Int) := of_decide_eq_true as_; obtain ⟨adq0, eq0, hxq0_0⟩ := Kd.r9 HSz4_0 s0_1 pq0 qq0; cases eq0; have hnq0_0 : adq0.block ≠ g := Nat.ne_of_lt (Nat.lt_of_lt_of_le (by have := World.block_lt_of_cell? _ _ hxq0_0; first | rwa [fd] at this | exact this) (G4.ge HI0.out)); replace hxq0_0 := dG HB.out hxq0_0; replace hxq0_0 := (aj (p := ⟨g, 2, none⟩) (by first | (rw [fd]; exact hnq0_0) | (show (Addr.add _ _).block ≠ _; rw [fd]; exact hnq0_0) | exact hnq0_0) (.int .i64 (wrap64 ((wrap64 (s0_2 * 6364136223846793005)) + 1442695040888963407)))).trans hxq0_0; (try have hyq0_0 := fun (n_ : Nat) => (show (((w.drewN n_).setCell ⟨g, 2, none⟩ (.int .i64 (wrap64 ((wrap64 (s0_2 * 6364136223846793005)) + 1442695040888963407))))).cell? _ = some _ from hxq0_0)); clear hnq0_0; replace pq0 := eq_true pq0; replace qq0 := eq_true qq0; go_enter func203, ntmps203; go_wp2
  repeat (go_quiet (fail); try go_wp2)
  go_ret
  exact ⟨re_, pi_ HI0, pbI HB, pq HK⟩
 ·obtain ⟨rfl, rfl, rfl⟩ := o3 H; obtain ⟨ASz5_0, cSz5_0, HGz5, hgz5, HSz5_0⟩ := HI0.out; have hcz5_0 := iF HGz5; have hcz5_1 := jb HGz5; have hcz5_2 := jd HGz5; have hfz5_1 := ak HGz5 1; have hfz5_2 := ak HGz5 2; clear HGz5 hgz5; go_enter func203, ntmps203; go_wp2
  repeat (go_quiet (fail); try go_wp2)
  go_ret
  exact ⟨re_, pi_ HI0, pbI HB, pq HK⟩
def ai.f (s0_0 : List Int) (s0_1 : Int) (s0_2 : Int) (a1 : Int) : Option (Int × Int × Int) := if a1 ≤ 0 then (some (0, s0_1, s0_2)) else (if a1 ≤ 256 then ((cL.f s0_0 s0_1 s0_2).bind fun btq0 => (if a1 = 0 then (none) else (some (Int.tmod btq0.1 a1, btq0.2.1, btq0.2.2)))) else ((cL.f s0_0 s0_1 s0_2).bind fun btq1 => ((cL.f s0_0 btq1.2.1 btq1.2.2).bind fun btq2 => ((cL.f s0_0 btq2.2.1 btq2.2.2).bind fun btq3 => ((cL.f s0_0 btq3.2.1 btq3.2.2).bind fun btq4 => (if a1 = 0 then (none) else (some (Int.tmod (wrap64 ((wrap64 ((wrap64 ((wrap64 (btq1.1 * 16777216)) + (wrap64 (btq2.1 * 65536)))) + (wrap64 (btq3.1 * 256)))) + btq4.1)) a1, btq4.2.1, btq4.2.2))))))))
theorem ai.o0 (g : Nat) (s0_0 : List Int) (s0_1 : Int) (s0_2 : Int) (a1 : Int) (r1 : Int) (r2 : Int) (r3 : Int) (w0 w : World) (hI : G4 w0 w g s0_0 s0_1 s0_2) (hB : Below w0.heap.size w0 w) (h : ai.f s0_0 s0_1 s0_2 a1 = some (r1, r2, r3)) :
  Calls Tryz.prog 99 #[.pointer (some ⟨g, 0, none⟩), .int .i64 a1] w fun e w' => e = .returned (.int .i64 r1) ∧ G4 w0 w' g s0_0 r2 r3 ∧ Below w0.heap.size w0 w' ∧ KeepBut w w' g none := by
 have HI0 := aQ hI; have HK := aQ (KeepBut.refl w g none); have HL := aQ hB.size; clear hI; have HW0 := aQ hB.size; have HB := aQ hB; clear hB; have H := h; clear h; unfold ai.f at H; (try dsimp only at H); replace H := ckD H; obtain ⟨c3b0, H⟩ | ⟨c3b0, H⟩ := H
 ·obtain ⟨rfl, rfl, rfl⟩ := o3 H; go_enter func99, ntmps99; go_wp2
  go_ret
  exact ⟨re_, pi_ HI0, pbI HB, pq HK⟩
 ·replace H := ckD H; obtain ⟨c4b0, H⟩ | ⟨c4b0, H⟩ := H
  ·replace H := bo H; obtain ⟨⟨tq0, tq5, tq6⟩, A5, H⟩ := H; (try dsimp only at H); by_cases c6 : a1 = 0
   ·rw [if_pos c6] at H; exact absurd H (by simp)
   ·rw [if_neg c6] at H; obtain ⟨c6b0, c6b1⟩ := eqF c6; obtain ⟨rfl, rfl, rfl⟩ := o3 H; go_enter func99, ntmps99; go_wp2_with (first | (refine gt 203 ?_; refine gc (some 14) func203 (cL.o0 g s0_0 s0_1 s0_2 tq0 tq5 tq6 w0 _ (pi_ HI0) (pbI HB) A5.out) ?_; rintro e w7 ⟨rfl, hi, hb, hk⟩; refine ⟨_, rfl, ?_⟩; replace HK := kh HK hk; replace HB := aQ (hb); replace HI0 := aQ (hi); (try clear hb); (try clear hk); (try clear hi)))
    go_ret
    exact ⟨re_, pi_ HI0, pbI HB, pq HK⟩
  ·replace H := bo H; obtain ⟨⟨tq1, tq7, tq8⟩, A8, H⟩ := H; (try dsimp only at H); replace H := bo H; obtain ⟨⟨tq2, tq9, tqa⟩, A9, H⟩ := H; (try dsimp only at H); replace H := bo H; obtain ⟨⟨tq3, tqb, tqc⟩, A10, H⟩ := H; (try dsimp only at H); replace H := bo H; obtain ⟨⟨tq4, tqd, tqe⟩, A11, H⟩ := H; (try dsimp only at H); by_cases c12 : a1 = 0
   ·rw [if_pos c12] at H; exact absurd H (by simp)
   ·rw [if_neg c12] at H; obtain ⟨c12b0, c12b1⟩ := eqF c12; obtain ⟨rfl, rfl, rfl⟩ := o3 H; go_enter func99, ntmps99; go_wp2_with (first | (refine gt 203 ?_; refine gc (some 18) func203 (cL.o0 g s0_0 s0_1 s0_2 tq1 tq7 tq8 w0 _ (pi_ HI0) (pbI HB) A8.out) ?_; rintro e w13 ⟨rfl, hi, hb, hk⟩; refine ⟨_, rfl, ?_⟩; replace HK := kh HK hk; replace HB := aQ (hb); replace HI0 := aQ (hi); (try clear hb); (try clear hk); (try clear hi)) | (refine gt 203 ?_; refine gc (some 20) func203 (cL.o0 g s0_0 tq7 tq8 tq2 tq9 tqa w0 _ (pi_ HI0) (pbI HB) A9.out) ?_; rintro e w14 ⟨rfl, hi, hb, hk⟩; refine ⟨_, rfl, ?_⟩; replace HK := kh HK hk; replace HB := aQ (hb); replace HI0 := aQ (hi); (try clear hb); (try clear hk); (try clear hi)) | (refine gt 203 ?_; refine gc (some 22) func203 (cL.o0 g s0_0 tq9 tqa tq3 tqb tqc w0 _ (pi_ HI0) (pbI HB) A10.out) ?_; rintro e w15 ⟨rfl, hi, hb, hk⟩; refine ⟨_, rfl, ?_⟩; replace HK := kh HK hk; replace HB := aQ (hb); replace HI0 := aQ (hi); (try clear hb); (try clear hk); (try clear hi)) | (refine gt 203 ?_; refine gc (some 24) func203 (cL.o0 g s0_0 tqb tqc tq4 tqd tqe w0 _ (pi_ HI0) (pbI HB) A11.out) ?_; rintro e w16 ⟨rfl, hi, hb, hk⟩; refine ⟨_, rfl, ?_⟩; replace HK := kh HK hk; replace HB := aQ (hb); replace HI0 := aQ (hi); (try clear hb); (try clear hk); (try clear hi)))
    go_ret
    exact ⟨re_, pi_ HI0, pbI HB, pq HK⟩
def cG.f (a0 : Int) (a1 : Int) : Option (Int) := if a0 > a1 then (some a0) else (some a1)
theorem cG.o0 (a0 : Int) (a1 : Int) (r : Int) (w : World) (h : cG.f a0 a1 = some r) :
  CD Tryz.prog 107 #[.int .i64 a0, .int .i64 a1] w (.int .i64 r) := by
 have H : (if a0 > a1 then (some a0) else (some a1)) = some r := h; clear h; replace H := ckD H; obtain ⟨c3b0, H⟩ | ⟨c3b0, H⟩ := H
 ·obtain rfl := oj H; go_enter func107, ntmps107; go_wp2
  go_ret
  exact ⟨rs_, rd_⟩
 ·obtain rfl := oj H; go_enter func107, ntmps107; go_wp2
  go_ret
  exact ⟨rs_, rd_⟩
def bh.l0 : Nat → Int → List Int → Int → List Int → Int → Int → Option (List Int × Int × Int)
 | 0, _, _, _, _, _, _ => none
 | k + 1, x1, x5, x6, xq0, xq1, xq2 => if x6 < x1 then ((ai.f xq0 xq1 xq2 9).bind fun btq3 => (if x5.length < 17592186044416 then (bh.l0 k x1 (x5 ++ [wrap64 (btq3.1 - 3)]) (wrap64 (x6 + 1)) xq0 btq3.2.1 btq3.2.2) else (none))) else (some (x5, xq1, xq2))
def bh.f (k : Nat) (s0_0 : List Int) (s0_1 : Int) (s0_2 : Int) (a1 : Int) : Option (List Int × Int × Int) := bh.l0 k a1 (([] : List Int)) 0 s0_0 s0_1 s0_2
theorem bh.o0 (k : Nat) (g : Nat) (s0_0 : List Int) (s0_1 : Int) (s0_2 : Int) (a1 : Int) (r1 : List Int) (r2 : Int) (r3 : Int) (w0 w : World) (hI : G4 w0 w g s0_0 s0_1 s0_2) (hB : Below w0.heap.size w0 w) (h : bh.f k s0_0 s0_1 s0_2 a1 = some (r1, r2, r3)) :
  Calls Tryz.prog 110 #[.pointer (some ⟨g, 0, none⟩), .int .i64 a1] w fun e w' => ∃ v0_ : Value, e = .returned (v0_) ∧ Kd.R (Kd.int .i64) 3 w' w.heap.size (fun _ => True) v0_ r1 ∧ G4 w0 w' g s0_0 r2 r3 ∧ Below w0.heap.size w0 w' ∧ KeepBut w w' g none := by
 have HI0 := aQ hI; have HK := aQ (KeepBut.refl w g none); have HL := aQ hB.size; clear hI; have HW0 := aQ hB.size; have HB := aQ hB; clear hB; have H := h; clear h; unfold bh.f at H; (try dsimp only at H); obtain ⟨yq4, hyq4⟩ : ∃ y_ : List Int, y_ = (([] : List Int)) := ⟨_, rfl⟩; replace H : (bh.l0 k a1 yq4 0 s0_0 s0_1 s0_2) = some (r1, r2, r3) := by first | (rw [hyq4]; with_reducible exact H) | (rw [hyq4]; exact H)
 have Nyq4 := aQ hyq4; clear hyq4; have H' := aQ H; clear H; go_enter func110, ntmps110; go_wp2_with (first | (refine lI (d := Kd.int .i64) 7 Nyq4 ?_; intro vq5 w3 ho4 hb; have HOq6 := aQ (Kd.p5 ho4 (a6 (w := w) (g := g) (row := none) (pq HK))); replace HK := kt HK hb; replace HB := bsI HB hb; replace HI0 := bI HI0 hb; clear hb ho4))
 go_loopg [5, 6] k (fun kq v5 v6 w' => ∃ (x5_1 : List Int) (x6_1 : Int) (xq1_1 : Int) (xq2_1 : Int), v6 = .int .i64 x6_1 ∧ Aside0 (bh.l0 kq a1 x5_1 x6_1 s0_0 xq1_1 xq2_1 = some (r1, r2, r3)) ∧ Aside0 (kq ≤ k) ∧ Aside0 (Kd.R (Kd.int .i64) 3 w' w.heap.size (fun _ => True) v5 x5_1) ∧ Aside0 (G4 w0 w' g s0_0 xq1_1 xq2_1) ∧ Aside0 (KeepBut w w' g none) ∧ Aside0 (Below w0.heap.size w0 w'))
 case atStart => exact ⟨(yq4), (0), (s0_1), (s0_2), rs_, H', ⟨Nat.le_refl _⟩, ⟨aa HOq6⟩, ⟨pi_ HI0⟩, ⟨pq HK⟩, ⟨pbI HB⟩⟩
 clear H'; obtain ⟨x5_1, x6_1, xq1_1, xq2_1, rfl, HA, HK1, HO_5, HI0, HK, HB⟩ := hrel; rcases gk with _ | k1
 ·exact absurd HA.out (by simp [bh.l0])
 have H := HA.out; clear HA; simp only [bh.l0] at H; replace H := ckD H; obtain ⟨c5b0, H⟩ | ⟨c5b0, H⟩ := H
 ·replace H := bo H; obtain ⟨⟨tq3, tq7, tq8⟩, A6, H⟩ := H; (try dsimp only at H); replace H := gdA H; obtain ⟨LMc7, H⟩ := H; obtain ⟨yq9, hyq9⟩ : ∃ y_ : List Int, y_ = (x5_1 ++ [wrap64 (tq3 - 3)]) := ⟨_, rfl⟩; replace H : (bh.l0 k1 a1 yq9 (wrap64 (x6_1 + 1)) s0_0 tq7 tq8) = some (r1, r2, r3) := by first | (rw [hyq9]; with_reducible exact H) | (rw [hyq9]; exact H)
  have Nyq9 := aQ hyq9; clear hyq9; have H' := aQ H; clear H; go_wp2_with (first | (refine gt 99 ?_; refine gc (some 15) func99 (ai.o0 g s0_0 xq1_1 xq2_1 9 tq3 tq7 tq8 w0 _ (pi_ HI0) (pbI HB) A6.out) ?_; rintro e w8 ⟨rfl, hi, hb, hk⟩; refine ⟨_, rfl, ?_⟩; replace HO_5 := rk HI0 HO_5 hk; replace HK := kh HK hk; replace HB := aQ (hb); replace HI0 := aQ (hi); (try clear hb); (try clear hk); (try clear hi)) | ((with_reducible refine gate_builtin (b := .append) (xs := #[.tmp 13, .tmp 17]) rfl ?_); at_builtin; refine Kd.z5 (Kd.int .i64) w.heap.size rfl (.tmp 13) (.tmp 17) 24 3 (.int .i64 0) 8 rfl underlying24 bP rfl (by decide) (by omega) u5 x5_1 (wrap64 (tq3 - 3)) [.int .i64 (wrap64 (tq3 - 3))] (fun _ => True) (fun _ => False) rfl rfl ?aP (fun _ hk => hk.elim) ?aF ?aO (Below.refl _ _) ?aS ?aL ?_; (case aP => exact rfl); (case aF => exact (fun _ _ => trivial)); (case aO => exact (aa HO_5)); (case aS => exact (a6 (w := w) (g := g) (row := none) (pq HK))); (case aL => have := LMc7.out; omega); intro vqa w9 ho hb hg hat; rw [← Nyq9.out] at ho; replace HB := aQ (db (pbI HB) HL.out hb); replace HI0 := aQ (G4.grown (pi_ HI0) hg (G4.z7 HI0.out HO_5.out (by decide))); replace HK := aQ (KeepBut.trans (pq HK) (KeepBut.u9 hg g) (Kd.B5 HO_5.out)); have HOqb := aQ (ho); clear HO_5; clear ho hb hg hat))
  go_roundg k1
  case measure => exact omeg HK1
  case rel => exact ⟨(yq9), (wrap64 (x6_1 + 1)), (tq7), (tq8), rs_, H', ⟨omeg HK1⟩, ⟨aa HOqb⟩, ⟨pi_ HI0⟩, ⟨pq HK⟩, ⟨pbI HB⟩⟩
 ·obtain ⟨rfl, rfl, rfl⟩ := o3 H; go_wp2
  go_ret
  exact ⟨_, re_, by refine pRx ?_; exact HO_5.out, pi_ HI0, pbI HB, pq HK⟩
def dt.f (a0 : Int) (a1 : Int) : Option (Int) := if a0 < a1 then (some a0) else (some a1)
theorem dt.o0 (a0 : Int) (a1 : Int) (r : Int) (w : World) (h : dt.f a0 a1 = some r) :
  CD Tryz.prog 160 #[.int .i64 a0, .int .i64 a1] w (.int .i64 r) := by
 have H : (if a0 < a1 then (some a0) else (some a1)) = some r := h; clear h; replace H := ckD H; obtain ⟨c3b0, H⟩ | ⟨c3b0, H⟩ := H
 ·obtain rfl := oj H; go_enter func160, ntmps160; go_wp2
  go_ret
  exact ⟨rs_, rd_⟩
 ·obtain rfl := oj H; go_enter func160, ntmps160; go_wp2
  go_ret
  exact ⟨rs_, rd_⟩
def b8.f (s0_0 : List Int) (s0_1 : Int) (s0_2 : Int) (l1 : List Int) : Option (Int × Int × Int) := (ai.f s0_0 s0_1 s0_2 (l1.length : Int)).bind fun btq0 => (if 0 ≤ btq0.1 then (if btq0.1 < (l1.length : Int) then (some (rd l1 btq0.1, btq0.2.1, btq0.2.2)) else (none)) else (none))
theorem b8.o0 (g : Nat) (s0_0 : List Int) (s0_1 : Int) (s0_2 : Int) (A1 : Option Addr) (c1 : Nat) (l1 : List Int) (r1 : Int) (r2 : Int) (r3 : Int) (w0 w : World) (hI : G4 w0 w g s0_0 s0_1 s0_2) (hB : Below w0.heap.size w0 w) (hr1 : Kd.C (Kd.int .i64) w A1 l1.length l1) (hc1 : l1.length ≤ c1) (hf1 : ∀ ad, A1 = some ad → 0 < l1.length → ad.block ≠ g) (h : b8.f s0_0 s0_1 s0_2 l1 = some (r1, r2, r3)) :
  Calls Tryz.prog 172 #[.pointer (some ⟨g, 0, none⟩), .slice A1 l1.length c1] w fun e w' => e = .returned (.int .i64 r1) ∧ G4 w0 w' g s0_0 r2 r3 ∧ Below w0.heap.size w0 w' ∧ KeepBut w w' g none := by
 have HR1 := aQ hr1; have HC1 := aQ hc1; clear hr1 hc1; have HI0 := aQ hI; have HK := aQ (KeepBut.refl w g none); have HL := aQ hB.size; clear hI; have HW0 := aQ hB.size; have HB := aQ hB; clear hB; have H := h; clear h; unfold b8.f at H; (try dsimp only at H); replace H := bo H; obtain ⟨⟨tq0, tq1, tq2⟩, A3, H⟩ := H; (try dsimp only at H); replace H := gdD H; obtain ⟨c4b0, H⟩ := H; replace H := gdD H; obtain ⟨c5b0, H⟩ := H; obtain ⟨rfl, rfl, rfl⟩ := o3 H; go_enter func172, ntmps172; go_wp2_with (first | (refine gt 99 ?_; refine gc (some 9) func99 (ai.o0 g s0_0 s0_1 s0_2 (l1.length : Int) tq0 tq1 tq2 w0 _ (pi_ HI0) (pbI HB) A3.out) ?_; rintro e w6 ⟨rfl, hi, hb, hk⟩; refine ⟨_, rfl, ?_⟩; replace HK := kh HK hk; replace HB := aQ (hb); replace HI0 := aQ (hi); (try clear hb); (try clear hk); (try clear hi); have pq3 : 0 ≤ (tq0 : Int) := of_decide_eq_true as_; have qq3 : tq0 < (l1.length : Int) := of_decide_eq_true as_; obtain ⟨adq3, eq3, hxq3_0⟩ := Kd.r9 HR1.out tq0 pq3 qq3; cases eq3; replace hxq3_0 := jD HK.out hxq3_0 (by first | (rw [fd]; exact hf1 _ rfl (by omega)) | exact hf1 _ rfl (by omega) | exact hf1 adq3 rfl (by omega)); replace pq3 := eq_true pq3; replace qq3 := eq_true qq3))
 go_ret
 exact ⟨re_, pi_ HI0, pbI HB, pq HK⟩
def cR.f (k : Nat) (s0_0 : List Int) (s0_1 : Int) (s0_2 : Int) (a1 : Int) : Option (List Int × Int × Int) := (dt.f a1 8).bind fun tq0 => ((cG.f 0 tq0).bind fun tq1 => ((bh.f k s0_0 s0_1 s0_2 tq1).bind fun btq2 => ((ai.f s0_0 btq2.2.1 btq2.2.2 12).bind fun btq3 => (if btq3.1 = 0 then (if btq2.1.length < 17592186044416 then (some ((btq2.1 ++ [1]), btq3.2.1, btq3.2.2)) else (none)) else (if btq3.1 = 1 then (if (btq2.1.length : Int) > 0 then ((b8.f s0_0 btq3.2.1 btq3.2.2 (([1000, 1001, (-1000), (-1001)] : List Int))).bind fun btq4 => (if 0 < (btq2.1.length : Int) then (some ((btq2.1.set (0 : Int).toNat btq4.1), btq4.2.1, btq4.2.2)) else (none))) else (some (btq2.1, btq3.2.1, btq3.2.2))) else (some (btq2.1, btq3.2.1, btq3.2.2)))))))
theorem cR.o0 (k : Nat) (g : Nat) (s0_0 : List Int) (s0_1 : Int) (s0_2 : Int) (a1 : Int) (r1 : List Int) (r2 : Int) (r3 : Int) (w0 w : World) (hI : G4 w0 w g s0_0 s0_1 s0_2) (hB : Below w0.heap.size w0 w) (h : cR.f k s0_0 s0_1 s0_2 a1 = some (r1, r2, r3)) :
  Calls Tryz.prog 98 #[.pointer (some ⟨g, 0, none⟩), .int .i64 a1] w fun e w' => ∃ v0_ : Value, e = .returned (v0_) ∧ Kd.R (Kd.int .i64) 3 w' w.heap.size (fun _ => True) v0_ r1 ∧ G4 w0 w' g s0_0 r2 r3 ∧ Below w0.heap.size w0 w' ∧ KeepBut w w' g none := by
 have HI0 := aQ hI; have HK := aQ (KeepBut.refl w g none); have HL := aQ hB.size; clear hI; have HW0 := aQ hB.size; have HB := aQ hB; clear hB; have H := h; clear h; unfold cR.f at H; (try dsimp only at H); replace H := bo H; obtain ⟨tq0, A3, H⟩ := H; replace H := bo H; obtain ⟨tq1, A4, H⟩ := H; replace H := bo H; obtain ⟨⟨tq2, tq5, tq6⟩, A5, H⟩ := H; (try dsimp only at H); replace H := bo H; obtain ⟨⟨tq3, tq7, tq8⟩, A6, H⟩ := H; (try dsimp only at H); replace H := ckE H; obtain ⟨c7b0, c7b1, H⟩ | ⟨c7, c7b0, c7b1, H⟩ := H
 ·replace H := gdA H; obtain ⟨LMc8, H⟩ := H; obtain ⟨yq9, hyq9⟩ : ∃ y_ : List Int, y_ = (tq2 ++ [1]) := ⟨_, rfl⟩; replace H : (some (yq9, tq7, tq8)) = some (r1, r2, r3) := by first | (rw [hyq9]; with_reducible exact H) | (rw [hyq9]; exact H)
  have Nyq9 := aQ hyq9; clear hyq9; obtain ⟨rfl, rfl, rfl⟩ := o3 H; go_enter func98, ntmps98; go_wp2_with (first | (refine gt 160 ?_; refine gcD (some 8) func160 (dt.o0 a1 8 tq0 _ A3.out) ?_; intro nd) | (refine gt 107 ?_; refine gcD (some 9) func107 (cG.o0 0 tq0 tq1 _ A4.out) ?_; intro nd) | (refine gt 110 ?_; refine gc (some 10) func110 (bh.o0 k g s0_0 s0_1 s0_2 tq1 tq2 tq5 tq6 w0 _ (pi_ HI0) (pbI HB) A5.out) ?_; rintro e w9 ⟨vqa, rfl, ho0, hi, hb, hk⟩; refine ⟨_, rfl, ?_⟩; have HOqb := aQ (Kd.p5 ho0 (a6 (w := w) (g := g) (row := none) (pq HK))); replace HK := kh HK hk; replace HB := aQ (hb); replace HI0 := aQ (hi); (try clear hb); (try clear hk); (try clear hi); (try clear ho0)) | (refine gt 99 ?_; refine gc (some 12) func99 (ai.o0 g s0_0 tq5 tq6 12 tq3 tq7 tq8 w0 _ (pi_ HI0) (pbI HB) A6.out) ?_; rintro e w10 ⟨rfl, hi, hb, hk⟩; refine ⟨_, rfl, ?_⟩; replace HOqb := aQ (Kd.o8 (Kd.t9 (G4.apart (show G4 w0 _ g s0_0 tq5 tq6 from pi_ HI0) (aa HOqb) (by decide)) hk (fun _ h => h.2)) (fun _ h => h.1)); replace HK := kh HK hk; replace HB := aQ (hb); replace HI0 := aQ (hi); (try clear hb); (try clear hk); (try clear hi)) | ((with_reducible refine gate_builtin (b := .append) (xs := #[.tmp 15, .tmp 16]) rfl ?_); at_builtin; refine Kd.z5 (Kd.int .i64) w.heap.size rfl (.tmp 15) (.tmp 16) 24 3 (.int .i64 0) 8 rfl underlying24 bP rfl (by decide) (by omega) vqa tq2 1 [.int .i64 1] (fun _ => True) (fun _ => False) rfl rfl ?aP (fun _ hk => hk.elim) ?aF ?aO (Below.refl _ _) ?aS ?aL ?_; (case aP => exact rfl); (case aF => exact (fun _ _ => trivial)); (case aO => exact (aa HOqb)); (case aS => exact (a6 (w := w) (g := g) (row := none) (pq HK))); (case aL => have := LMc8.out; omega); intro vqc w11 ho hb hg hat; rw [← Nyq9.out] at ho; replace HB := aQ (db (pbI HB) HL.out hb); replace HI0 := aQ (G4.grown (pi_ HI0) hg (G4.z7 HI0.out HOqb.out (by decide))); replace HK := aQ (KeepBut.trans (pq HK) (KeepBut.u9 hg g) (Kd.B5 HOqb.out)); have HOqd := aQ (ho); clear HOqb; clear ho hb hg hat))
  go_ret
  exact ⟨_, re_, by refine pRx ?_; exact HOqd.out, pi_ HI0, pbI HB, pq HK⟩
 ·replace H := ckE H; obtain ⟨c12b0, c12b1, H⟩ | ⟨c12, c12b0, c12b1, H⟩ := H
  ·by_cases c13 : (tq2.length : Int) > 0
   ·rw [if_pos c13] at H; have c13b0 := decide_eq_true c13; have c13b1 : decide (0 < tq2.length) = true := decide_eq_true (by omega); clear c13; obtain ⟨yqe, hyqe⟩ : ∃ y_ : List Int, y_ = (([1000, 1001, (-1000), (-1001)] : List Int)) := ⟨_, rfl⟩; replace H : ((b8.f s0_0 tq7 tq8 yqe).bind fun btq4 => (if 0 < (tq2.length : Int) then (some ((tq2.set (0 : Int).toNat btq4.1), btq4.2.1, btq4.2.2)) else (none))) = some (r1, r2, r3) := by first | (rw [hyqe]; with_reducible exact H) | (rw [hyqe]; exact H)
    have Nyqe := aQ hyqe; clear hyqe; replace H := bo H; obtain ⟨⟨tq4, tqf, tqg⟩, A14, H⟩ := H; (try dsimp only at H); replace H := gd H; obtain ⟨c15, H⟩ := H; have c15b0 := decide_eq_true c15; have c15b1 : decide (0 < tq2.length) = true := decide_eq_true (by omega); clear c15; obtain ⟨yqh, hyqh⟩ : ∃ y_ : List Int, y_ = (tq2.set (0 : Int).toNat tq4) := ⟨_, rfl⟩; replace H : (some (yqh, tqf, tqg)) = some (r1, r2, r3) := by first | (rw [hyqh]; with_reducible exact H) | (rw [hyqh]; exact H)
    have Nyqh := aQ hyqh; clear hyqh; obtain ⟨rfl, rfl, rfl⟩ := o3 H; go_enter func98, ntmps98; go_wp2_with (first | (refine gt 160 ?_; refine gcD (some 8) func160 (dt.o0 a1 8 tq0 _ A3.out) ?_; intro nd) | (refine gt 107 ?_; refine gcD (some 9) func107 (cG.o0 0 tq0 tq1 _ A4.out) ?_; intro nd) | (refine gt 110 ?_; refine gc (some 10) func110 (bh.o0 k g s0_0 s0_1 s0_2 tq1 tq2 tq5 tq6 w0 _ (pi_ HI0) (pbI HB) A5.out) ?_; rintro e w17 ⟨vqa, rfl, ho0, hi, hb, hk⟩; refine ⟨_, rfl, ?_⟩; have HOqb := aQ (Kd.p5 ho0 (a6 (w := w) (g := g) (row := none) (pq HK))); replace HK := kh HK hk; replace HB := aQ (hb); replace HI0 := aQ (hi); (try clear hb); (try clear hk); (try clear hi); (try clear ho0)) | (refine gt 99 ?_; refine gc (some 12) func99 (ai.o0 g s0_0 tq5 tq6 12 tq3 tq7 tq8 w0 _ (pi_ HI0) (pbI HB) A6.out) ?_; rintro e w18 ⟨rfl, hi, hb, hk⟩; refine ⟨_, rfl, ?_⟩; replace HOqb := aQ (Kd.o8 (Kd.t9 (G4.apart (show G4 w0 _ g s0_0 tq5 tq6 from pi_ HI0) (aa HOqb) (by decide)) hk (fun _ h => h.2)) (fun _ h => h.1)); replace HK := kh HK hk; replace HB := aQ (hb); replace HI0 := aQ (hi); (try clear hb); (try clear hk); (try clear hi); obtain ⟨Ao19, co19, eo19⟩ := Kd.p8 HOqb.out; subst eo19) | ((with_reducible refine gate_dst (N := 25) rfl ?_); refine Kd.B0 (Kd.int .i64) _ 3 ?hg (N := 25) ?hd (xs := ([1000, 1001, (-1000), (-1001)] : List Int)) (inner := [.int .i64 1000, .int .i64 1001, .int .i64 (-1000), .int .i64 (-1001)]) (ok := fun _ => True) (okp := fun _ => True) ?hr ?hp (fun _ hk => hk) trivial (Below.refl _ _) (Nat.le_refl _) (by simp) ?_; (case hd => rfl); (case hg => rfl); (case hr => first | (go_simp; done) | (go_simp; rfl)); (case hp => exact (Reps.one (show Kd.M (Kd.int .i64) _ _ _ 1000 [.int .i64 1000] from rfl) (Reps.one (show Kd.M (Kd.int .i64) _ _ _ 1001 [.int .i64 1001] from rfl) (Reps.one (show Kd.M (Kd.int .i64) _ _ _ (-1000) [.int .i64 (-1000)] from rfl) (Reps.one (show Kd.M (Kd.int .i64) _ _ _ (-1001) [.int .i64 (-1001)] from rfl) (Reps.none _ _)))))); intro vqi w20 ho21 hb hg_ hnew_; clear hg_ hnew_; (first | rw [← Nyqe.out] at ho21 | (simp only [Int.reduceToNat] at ho21; rw [← Nyqe.out] at ho21)); have HOqj := aQ (Kd.p5 (Kd.s9 ho21 (Kd.s5 (aa HOqb))) (a6 (w := w) (g := g) (row := none) (pq HK))); replace HOqb := aQ (Kd.s7 (aa HOqb) (Kd.s6 ho21) hb); replace HK := kt HK hb; replace HB := bsI HB hb; replace HI0 := bI HI0 hb; clear hb ho21; obtain ⟨Ao22, co22, eo22⟩ := Kd.p8 HOqj.out; subst eo22) | (refine gt 172 ?_; refine gc (some 26) func172 (b8.o0 g s0_0 tq7 tq8 _ _ yqe tq4 tqf tqg w0 _ (pi_ HI0) (pbI HB) (pC ((Kd.o1 HOqj.out).2.2)) ((Kd.o1 HOqj.out).2.1) (fb (G4.z7 HI0.out HOqj.out (by decide))) A14.out) ?_; rintro e w23 ⟨rfl, hi, hb, hk⟩; refine ⟨_, rfl, ?_⟩; replace HOqb := aQ (Kd.o8 (Kd.t9 (G4.apart (show G4 w0 _ g s0_0 tq7 tq8 from pi_ HI0) (aa HOqb) (by decide)) hk (fun _ h => h.2)) (fun _ h => h.1)); replace HOqj := aQ (Kd.o8 (Kd.t9 (G4.apart (show G4 w0 _ g s0_0 tq7 tq8 from pi_ HI0) (aa HOqj) (by decide)) hk (fun _ h => h.2)) (fun _ h => h.1)); replace HK := kh HK hk; replace HB := aQ (hb); replace HI0 := aQ (hi); (try clear hb); (try clear hk); (try clear hi); have p16 : 0 ≤ (0 : Int) := (by omega); have q16 : (0 : Int) < ((tq2.length : Int) : Int) := of_decide_eq_true as_; have qi16 : (0 < tq2.length) = True := eq_true (by omega); obtain ⟨go16, co16, eo16, gb16, gl16, cl16, HG16⟩ := Kd.F3 HOqb.out (by omega); (first | cases eo16 | (injection eo16 with ea_ en_ ec_; (first | subst ea_ | (injection ea_ with ea_; subst ea_)); subst ec_; clear en_)); have GB16 := aQ gb16; have GG16 := aQ HG16; clear gb16 gl16 HG16; obtain ⟨hx16_0, hf16_0⟩ := Kd.E0 0 HOqb.out (0 : Int) p16 q16; (try rw [show ((0 : Int)).toNat = 0 from rfl] at hx16_0); (try simp only [Nat.reduceMul, Nat.zero_mul, Nat.zero_add, Nat.reduceAdd] at hx16_0); (try rw [show ((0 : Int)).toNat = 0 from rfl] at hf16_0); (try simp only [Nat.reduceMul, Nat.zero_mul, Nat.zero_add, Nat.reduceAdd] at hf16_0); replace p16 := eq_true p16; replace q16 := eq_true q16; have n_ := aQ (Kd.o8 (ok' := (fun k_ => some k_ ≠ (.slice Ao22 yqe.length co22 : Value).ownBlock)) HOqb.out (fun k_ hk => hk.2)); clear HOqb; have HOqb := n_; clear n_; obtain ⟨hy24_, hz24_⟩ := Kd.E0 0 HOqb.out (0 : Int) (by omega) (of_decide_eq_true as_); (try simp only [Int.reduceToNat, Int.toNat_zero, Int.toNat_ofNat, Nat.reduceMul, Nat.zero_mul, Nat.zero_add] at hy24_ hz24_); (try rw [show ((0 : Int)).toNat = 0 from rfl] at hy24_); (try rw [show ((0 : Int)).toNat = 0 from rfl] at hz24_); have HP24 := Kd.F5 HOqb.out (0 : Int) tq4) | ((with_reducible refine f6 (t := 3) (p := 27) rfl ?_); refine fI (t := 3) (p := 27) (v := ?vo_w25) (w1 := (w23.setCell ⟨go16, (0 : Int).toNat, none⟩ (.int .i64 tq4))) ?hg ?ho ?hn ?hr ?_; (case ho => rfl); (case hg => rfl); (case hn => rfl); (case hr => first | (go_simp; done) | (go_simp; rfl)); intro w25 hw; have hg : w23.grownBy w25 (some go16) := (by rw [hw]; exact HP24.2); have hp_ : Kd.R (Kd.int .i64) 3 w25 w.heap.size (fun k_ => some k_ ≠ (.slice Ao22 yqe.length co22 : Value).ownBlock) (.slice (some ⟨go16, 0, none⟩) tq2.length co19) yqh := (by rw [hw, Nyqh.out]; exact HP24.1); clear HP24; replace HI0 := aQ (G4.grown (pi_ HI0) hg (G4.z7 HI0.out HOqb.out (by decide))); replace HOqj := aQ (Kd.s4 (v := (.slice (some ⟨go16, 0, none⟩) tq2.length co19)) (v1 := (.slice (some ⟨go16, 0, none⟩) tq2.length co19)) (ok := (fun _ => True)) (aa HOqj) hg (.inl rfl)); replace HB := aQ ((by rw [hw]; exact cS (HB.out) (Nat.le_trans HL.out GB16.out) : Below w0.heap.size w0 w25)); replace HK := aQ (KeepBut.trans (pq HK) (KeepBut.u9 hg g) (Kd.B5 HOqb.out)); replace HOqb := aQ (hp_); clear hg hw hp_))
    go_ret
    exact ⟨_, re_, by refine pRx ?_; exact Kd.o8 HOqb.out (fun _ hk => trivial), pi_ HI0, pbI HB, pq HK⟩
   ·rw [if_neg c13] at H; have c13b0 := decide_eq_false c13; have c13b1 : decide (0 < tq2.length) = false := decide_eq_false (by omega); clear c13; obtain ⟨rfl, rfl, rfl⟩ := o3 H; go_enter func98, ntmps98; go_wp2_with (first | (refine gt 160 ?_; refine gcD (some 8) func160 (dt.o0 a1 8 tq0 _ A3.out) ?_; intro nd) | (refine gt 107 ?_; refine gcD (some 9) func107 (cG.o0 0 tq0 tq1 _ A4.out) ?_; intro nd) | (refine gt 110 ?_; refine gc (some 10) func110 (bh.o0 k g s0_0 s0_1 s0_2 tq1 tq2 tq5 tq6 w0 _ (pi_ HI0) (pbI HB) A5.out) ?_; rintro e w26 ⟨vqa, rfl, ho0, hi, hb, hk⟩; refine ⟨_, rfl, ?_⟩; have HOqb := aQ (Kd.p5 ho0 (a6 (w := w) (g := g) (row := none) (pq HK))); replace HK := kh HK hk; replace HB := aQ (hb); replace HI0 := aQ (hi); (try clear hb); (try clear hk); (try clear hi); (try clear ho0)) | (refine gt 99 ?_; refine gc (some 12) func99 (ai.o0 g s0_0 tq5 tq6 12 tq3 tq7 tq8 w0 _ (pi_ HI0) (pbI HB) A6.out) ?_; rintro e w27 ⟨rfl, hi, hb, hk⟩; refine ⟨_, rfl, ?_⟩; replace HOqb := aQ (Kd.o8 (Kd.t9 (G4.apart (show G4 w0 _ g s0_0 tq5 tq6 from pi_ HI0) (aa HOqb) (by decide)) hk (fun _ h => h.2)) (fun _ h => h.1)); replace HK := kh HK hk; replace HB := aQ (hb); replace HI0 := aQ (hi); (try clear hb); (try clear hk); (try clear hi); obtain ⟨Ao28, co28, eo28⟩ := Kd.p8 HOqb.out; subst eo28))
    go_ret
    exact ⟨_, re_, by refine pRx ?_; exact HOqb.out, pi_ HI0, pbI HB, pq HK⟩
  ·obtain ⟨rfl, rfl, rfl⟩ := o3 H; go_enter func98, ntmps98; go_wp2_with (first | (refine gt 160 ?_; refine gcD (some 8) func160 (dt.o0 a1 8 tq0 _ A3.out) ?_; intro nd) | (refine gt 107 ?_; refine gcD (some 9) func107 (cG.o0 0 tq0 tq1 _ A4.out) ?_; intro nd) | (refine gt 110 ?_; refine gc (some 10) func110 (bh.o0 k g s0_0 s0_1 s0_2 tq1 tq2 tq5 tq6 w0 _ (pi_ HI0) (pbI HB) A5.out) ?_; rintro e w29 ⟨vqa, rfl, ho0, hi, hb, hk⟩; refine ⟨_, rfl, ?_⟩; have HOqb := aQ (Kd.p5 ho0 (a6 (w := w) (g := g) (row := none) (pq HK))); replace HK := kh HK hk; replace HB := aQ (hb); replace HI0 := aQ (hi); (try clear hb); (try clear hk); (try clear hi); (try clear ho0)) | (refine gt 99 ?_; refine gc (some 12) func99 (ai.o0 g s0_0 tq5 tq6 12 tq3 tq7 tq8 w0 _ (pi_ HI0) (pbI HB) A6.out) ?_; rintro e w30 ⟨rfl, hi, hb, hk⟩; refine ⟨_, rfl, ?_⟩; replace HOqb := aQ (Kd.o8 (Kd.t9 (G4.apart (show G4 w0 _ g s0_0 tq5 tq6 from pi_ HI0) (aa HOqb) (by decide)) hk (fun _ h => h.2)) (fun _ h => h.1)); replace HK := kh HK hk; replace HB := aQ (hb); replace HI0 := aQ (hi); (try clear hb); (try clear hk); (try clear hi)))
   go_ret
   exact ⟨_, re_, by refine pRx ?_; exact HOqb.out, pi_ HI0, pbI HB, pq HK⟩
def cE.f (s0_0 : List Int) (s0_1 : Int) (s0_2 : Int) (a1 : Int) : Option (Bool × Int × Int) := (ai.f s0_0 s0_1 s0_2 a1).bind fun btq0 => (some ((btq0.1 == 0), btq0.2.1, btq0.2.2))
theorem cE.o0 (g : Nat) (s0_0 : List Int) (s0_1 : Int) (s0_2 : Int) (a1 : Int) (r1 : Bool) (r2 : Int) (r3 : Int) (w0 w : World) (hI : G4 w0 w g s0_0 s0_1 s0_2) (hB : Below w0.heap.size w0 w) (h : cE.f s0_0 s0_1 s0_2 a1 = some (r1, r2, r3)) :
  Calls Tryz.prog 106 #[.pointer (some ⟨g, 0, none⟩), .int .i64 a1] w fun e w' => e = .returned (.bool r1) ∧ G4 w0 w' g s0_0 r2 r3 ∧ Below w0.heap.size w0 w' ∧ KeepBut w w' g none := by
 have HI0 := aQ hI; have HK := aQ (KeepBut.refl w g none); have HL := aQ hB.size; clear hI; have HW0 := aQ hB.size; have HB := aQ hB; clear hB; have H := h; clear h; unfold cE.f at H; (try dsimp only at H); replace H := bo H; obtain ⟨⟨tq0, tq1, tq2⟩, A3, H⟩ := H; (try dsimp only at H); obtain ⟨rfl, rfl, rfl⟩ := o3 H; go_enter func106, ntmps106; go_wp2_with (first | (refine gt 99 ?_; refine gc (some 7) func99 (ai.o0 g s0_0 s0_1 s0_2 a1 tq0 tq1 tq2 w0 _ (pi_ HI0) (pbI HB) A3.out) ?_; rintro e w4 ⟨rfl, hi, hb, hk⟩; refine ⟨_, rfl, ?_⟩; replace HK := kh HK hk; replace HB := aQ (hb); replace HI0 := aQ (hi); (try clear hb); (try clear hk); (try clear hi)))
 go_ret
 exact ⟨re_, pi_ HI0, pbI HB, pq HK⟩
def d7.f (s0_0 : List Int) (s0_1 : Int) (s0_2 : Int) : Option (Int × Int × Int) := (ai.f s0_0 s0_1 s0_2 256).bind fun btq0 => (some (btq0.1, btq0.2.1, btq0.2.2))
theorem d7.o0 (g : Nat) (s0_0 : List Int) (s0_1 : Int) (s0_2 : Int) (r1 : Int) (r2 : Int) (r3 : Int) (w0 w : World) (hI : G4 w0 w g s0_0 s0_1 s0_2) (hB : Below w0.heap.size w0 w) (h : d7.f s0_0 s0_1 s0_2 = some (r1, r2, r3)) :
  Calls Tryz.prog 213 #[.pointer (some ⟨g, 0, none⟩)] w fun e w' => e = .returned (.int .i64 r1) ∧ G4 w0 w' g s0_0 r2 r3 ∧ Below w0.heap.size w0 w' ∧ KeepBut w w' g none := by
 have HI0 := aQ hI; have HK := aQ (KeepBut.refl w g none); have HL := aQ hB.size; clear hI; have HW0 := aQ hB.size; have HB := aQ hB; clear hB; have H := h; clear h; unfold d7.f at H; (try dsimp only at H); replace H := bo H; obtain ⟨⟨tq0, tq1, tq2⟩, A2, H⟩ := H; (try dsimp only at H); obtain ⟨rfl, rfl, rfl⟩ := o3 H; go_enter func213, ntmps213; go_wp2_with (first | (refine gt 99 ?_; refine gc (some 4) func99 (ai.o0 g s0_0 s0_1 s0_2 256 tq0 tq1 tq2 w0 _ (pi_ HI0) (pbI HB) A2.out) ?_; rintro e w3 ⟨rfl, hi, hb, hk⟩; refine ⟨_, rfl, ?_⟩; replace HK := kh HK hk; replace HB := aQ (hb); replace HI0 := aQ (hi); (try clear hb); (try clear hk); (try clear hi)))
 go_ret
 exact ⟨re_, pi_ HI0, pbI HB, pq HK⟩
def dK.f (s0_0 : List Int) (s0_1 : Int) (s0_2 : Int) : Option (Int × Int × Int) := (cE.f s0_0 s0_1 s0_2 8).bind fun btq0 => (if btq0.1 = true then ((b8.f s0_0 btq0.2.1 btq0.2.2 (([(-1), 256, 1000, (-9223372036854775808)] : List Int))).bind fun btq1 => (some (btq1.1, btq1.2.1, btq1.2.2))) else ((d7.f s0_0 btq0.2.1 btq0.2.2).bind fun btq2 => (some (btq2.1, btq2.2.1, btq2.2.2))))
theorem dK.o0 (g : Nat) (s0_0 : List Int) (s0_1 : Int) (s0_2 : Int) (r1 : Int) (r2 : Int) (r3 : Int) (w0 w : World) (hI : G4 w0 w g s0_0 s0_1 s0_2) (hB : Below w0.heap.size w0 w) (h : dK.f s0_0 s0_1 s0_2 = some (r1, r2, r3)) :
  Calls Tryz.prog 127 #[.pointer (some ⟨g, 0, none⟩)] w fun e w' => e = .returned (.int .i64 r1) ∧ G4 w0 w' g s0_0 r2 r3 ∧ Below w0.heap.size w0 w' ∧ KeepBut w w' g none := by
 have HI0 := aQ hI; have HK := aQ (KeepBut.refl w g none); have HL := aQ hB.size; clear hI; have HW0 := aQ hB.size; have HB := aQ hB; clear hB; have H := h; clear h; unfold dK.f at H; (try dsimp only at H); replace H := bo H; obtain ⟨⟨tq0, tq3, tq4⟩, A2, H⟩ := H; (try dsimp only at H); replace H := ckB H; obtain ⟨rfl, H⟩ | ⟨rfl, H⟩ := H
 ·obtain ⟨yq5, hyq5⟩ : ∃ y_ : List Int, y_ = (([(-1), 256, 1000, (-9223372036854775808)] : List Int)) := ⟨_, rfl⟩; replace H : ((b8.f s0_0 tq3 tq4 yq5).bind fun btq1 => (some (btq1.1, btq1.2.1, btq1.2.2))) = some (r1, r2, r3) := by first | (rw [hyq5]; with_reducible exact H) | (rw [hyq5]; exact H)
  have Nyq5 := aQ hyq5; clear hyq5; replace H := bo H; obtain ⟨⟨tq1, tq6, tq7⟩, A4, H⟩ := H; (try dsimp only at H); obtain ⟨rfl, rfl, rfl⟩ := o3 H; go_enter func127, ntmps127; go_wp2_with (first | (refine gt 106 ?_; refine gc (some 4) func106 (cE.o0 g s0_0 s0_1 s0_2 8 true tq3 tq4 w0 _ (pi_ HI0) (pbI HB) A2.out) ?_; rintro e w5 ⟨rfl, hi, hb, hk⟩; refine ⟨_, rfl, ?_⟩; replace HK := kh HK hk; replace HB := aQ (hb); replace HI0 := aQ (hi); (try clear hb); (try clear hk); (try clear hi)) | ((with_reducible refine gate_dst (N := 6) rfl ?_); refine Kd.B0 (Kd.int .i64) _ 3 ?hg (N := 6) ?hd (xs := ([(-1), 256, 1000, (-9223372036854775808)] : List Int)) (inner := [.int .i64 (-1), .int .i64 256, .int .i64 1000, .int .i64 (-9223372036854775808)]) (ok := fun _ => True) (okp := fun _ => True) ?hr ?hp (fun _ hk => hk) trivial (Below.refl _ _) (Nat.le_refl _) (by simp) ?_; (case hd => rfl); (case hg => rfl); (case hr => first | (go_simp; done) | (go_simp; rfl)); (case hp => exact (Reps.one (show Kd.M (Kd.int .i64) _ _ _ (-1) [.int .i64 (-1)] from rfl) (Reps.one (show Kd.M (Kd.int .i64) _ _ _ 256 [.int .i64 256] from rfl) (Reps.one (show Kd.M (Kd.int .i64) _ _ _ 1000 [.int .i64 1000] from rfl) (Reps.one (show Kd.M (Kd.int .i64) _ _ _ (-9223372036854775808) [.int .i64 (-9223372036854775808)] from rfl) (Reps.none _ _)))))); intro vq8 w6 ho7 hb hg_ hnew_; clear hg_ hnew_; (first | rw [← Nyq5.out] at ho7 | (simp only [Int.reduceToNat] at ho7; rw [← Nyq5.out] at ho7)); have HOq9 := aQ (Kd.p5 ho7 (a6 (w := w) (g := g) (row := none) (pq HK))); replace HK := kt HK hb; replace HB := bsI HB hb; replace HI0 := bI HI0 hb; clear hb ho7; obtain ⟨Ao8, co8, eo8⟩ := Kd.p8 HOq9.out; subst eo8) | (refine gt 172 ?_; refine gc (some 7) func172 (b8.o0 g s0_0 tq3 tq4 _ _ yq5 tq1 tq6 tq7 w0 _ (pi_ HI0) (pbI HB) (pC ((Kd.o1 HOq9.out).2.2)) ((Kd.o1 HOq9.out).2.1) (fb (G4.z7 HI0.out HOq9.out (by decide))) A4.out) ?_; rintro e w9 ⟨rfl, hi, hb, hk⟩; refine ⟨_, rfl, ?_⟩; replace HOq9 := rk HI0 HOq9 hk; replace HK := kh HK hk; replace HB := aQ (hb); replace HI0 := aQ (hi); (try clear hb); (try clear hk); (try clear hi)))
  go_ret
  exact ⟨re_, pi_ HI0, pbI HB, pq HK⟩
 ·replace H := bo H; obtain ⟨⟨tq2, tqa, tqb⟩, A10, H⟩ := H; (try dsimp only at H); obtain ⟨rfl, rfl, rfl⟩ := o3 H; go_enter func127, ntmps127; go_wp2_with (first | (refine gt 106 ?_; refine gc (some 4) func106 (cE.o0 g s0_0 s0_1 s0_2 8 false tq3 tq4 w0 _ (pi_ HI0) (pbI HB) A2.out) ?_; rintro e w11 ⟨rfl, hi, hb, hk⟩; refine ⟨_, rfl, ?_⟩; replace HK := kh HK hk; replace HB := aQ (hb); replace HI0 := aQ (hi); (try clear hb); (try clear hk); (try clear hi)) | (refine gt 213 ?_; refine gc (some 9) func213 (d7.o0 g s0_0 tq3 tq4 tq2 tqa tqb w0 _ (pi_ HI0) (pbI HB) A10.out) ?_; rintro e w12 ⟨rfl, hi, hb, hk⟩; refine ⟨_, rfl, ?_⟩; replace HK := kh HK hk; replace HB := aQ (hb); replace HI0 := aQ (hi); (try clear hb); (try clear hk); (try clear hi)))
  go_ret
  exact ⟨re_, pi_ HI0, pbI HB, pq HK⟩
end Go.Proofs.YtimkekeaeojpkaaGreat.A
namespace Go.Proofs.YtimkekeaeojpkaaGreat.A
open Go.RowKit Go.Proofs.YtimkekeaeojpkaaGreatW.PrintWords Go.Proofs.YtimkekeaeojpkaaGreatW.PrintLast Go.Proofs.YtimkekeaeojpkaaGreatW.PrintMore Go.Proofs.YtimkekeaeojpkaaGreat.Z Tryz
attribute [local go_sem] cK cM dc da cv cw cI cJ
set_option linter.unusedVariables false
set_option linter.unusedSimpArgs false
mutual
def ae.l0 : Nat → List Int → List Int → Int → Option (List Int)
 | 0, _, _, _ => none
 | k + 1, x0, x3, x4 => if x4 < (x0.length : Int) then (ae.l1 k x0 x3 x4 0) else (some x3)
def ae.l1 : Nat → List Int → List Int → Int → Int → Option (List Int)
 | 0, _, _, _, _ => none
 | k + 1, x0, x3, x4, x5 => if x5 < (x3.length : Int) then (if 0 ≤ x5 then (if 0 ≤ x4 then (if x4 < (x0.length : Int) then (if (rd x3 x5) < (rd x0 x4) then (ae.l1 k x0 x3 x4 (wrap64 (x5 + 1))) else (if (rd x3 x5) = (rd x0 x4) then (ae.l0 k x0 x3 (wrap64 (x4 + 1))) else ((some (([] : List Int) : List Int)).bind fun yq0 => (if x5 ≤ (x3.length : Int) then ((some (x3.drop (x5 : Int).toNat : List Int)).bind fun yq1 => (if yq0.length + yq1.length < 17592186044416 then ((some (yq0 ++ yq1 : List Int)).bind fun yq2 => ((some (x3.take (x5 : Int).toNat : List Int)).bind fun yq3 => (if yq3.length < 17592186044416 then ((some (yq3 ++ [rd x0 x4] : List Int)).bind fun yq4 => (if yq4.length + yq2.length < 17592186044416 then (ae.l0 k x0 (yq4 ++ yq2) (wrap64 (x4 + 1))) else (none))) else (none)))) else (none))) else (none))))) else (none)) else (none)) else (none)) else ((some (([] : List Int) : List Int)).bind fun yq5 => (if 0 ≤ x5 then (if x5 ≤ (x3.length : Int) then ((some (x3.drop (x5 : Int).toNat : List Int)).bind fun yq6 => (if yq5.length + yq6.length < 17592186044416 then ((some (yq5 ++ yq6 : List Int)).bind fun yq7 => ((some (x3.take (x5 : Int).toNat : List Int)).bind fun yq8 => (if 0 ≤ x4 then (if x4 < (x0.length : Int) then (if yq8.length < 17592186044416 then ((some (yq8 ++ [rd x0 x4] : List Int)).bind fun yq9 => (if yq9.length + yq7.length < 17592186044416 then (ae.l0 k x0 (yq9 ++ yq7) (wrap64 (x4 + 1))) else (none))) else (none)) else (none)) else (none)))) else (none))) else (none)) else (none)))
end
def ae.f (k : Nat) (l0 : List Int) : Option (List Int) := ae.l0 k l0 (([] : List Int)) 0
def ae.T6 : Bool × List (List Nat × List Nat) := (true, [([], []), ([], []), ([1], [1]), ([0, 2], [0, 2]), ([3], [3]), ([4], [4]), ([4], [4]), ([5, 6, 4], [4, 5, 6]), ([7, 4], [4, 7]), ([4], [4]), ([4], [4]), ([9, 10, 4], [4, 9, 10]), ([11, 4], [4, 11]), ([8, 12, 4], [4, 8, 12]), ([4, 13], [4, 13])])
def ae.B6 : List Nat := [0, 0, 2, 7, 15, 31, 31, 127, 255, 31, 31, 1567, 3615, 8191, 16383]
theorem ae.tab6 : rtab .any (ei Tryz.f140 6) = ae.T6 := by kernel_rfl
theorem ae.bits6 : cY ae.T6.2 ae.B6 = true := by kernel_rfl
def ae.T8 : Bool × List (List Nat × List Nat) := (true, [([], []), ([], []), ([1], [1]), ([0, 2], [0, 2]), ([3], [3]), ([4], [4]), ([4], [4]), ([5, 6, 4], [4, 5, 6]), ([7, 4], [4, 7]), ([4], [4]), ([4], [4]), ([9, 10, 4], [4, 9, 10]), ([11, 4], [4, 11]), ([8, 12, 4], [4, 8, 12]), ([4, 13], [4, 13])])
def ae.B8 : List Nat := [0, 0, 2, 7, 15, 31, 31, 127, 255, 31, 31, 1567, 3615, 8191, 16383]
theorem ae.tab8 : rtab .any (ei Tryz.f140 8) = ae.T8 := by kernel_rfl
theorem ae.bits8 : cY ae.T8.2 ae.B8 = true := by kernel_rfl
def ae.T10 : Bool × List (List Nat × List Nat) := (true, [([], []), ([], []), ([0, 1], [0, 1]), ([], []), ([], []), ([3, 4], [3, 4]), ([5], [5]), ([6], [6]), ([2, 7], [2, 7]), ([], []), ([8, 9, 8], [8, 9]), ([10, 10, 0, 1, 2, 3, 4, 5, 6, 7, 8, 9, 10], [0, 10])])
def ae.B10 : List Nat := [0, 0, 3, 0, 0, 24, 56, 120, 255, 0, 1023, 2047]
theorem ae.tab10 : rtab .any (ei Tryz.f140 10) = ae.T10 := by kernel_rfl
theorem ae.bits10 : cY ae.T10.2 ae.B10 = true := by kernel_rfl
theorem ae.o0 (k : Nat) (A0 : Option Addr) (c0 : Nat) (l0 : List Int) (r : List Int) (w : World) (hr0 : Kd.C (Kd.int .i64) w A0 l0.length l0) (hc0 : l0.length ≤ c0) (h : ae.f k l0 = some r) :
  Calls Tryz.prog 140 #[.slice A0 l0.length c0] w fun e w' => ∃ v0_ : Value, e = .returned (v0_) ∧ Kd.R (Kd.int .i64) 3 w' w.heap.size (fun _ => True) v0_ r ∧ Below w.heap.size w w' := by
 have HR0 := aQ hr0; have HC0 := aQ hc0; clear hr0 hc0; have HB := aQ (Below.refl w.heap.size w); have H : (ae.l0 k l0 (([] : List Int)) 0) = some r := h; clear h; obtain ⟨yqa, hyqa⟩ : ∃ y_ : List Int, y_ = (([] : List Int)) := ⟨_, rfl⟩; replace H : (ae.l0 k l0 yqa 0) = some r := by first | (rw [hyqa]; with_reducible exact H) | (rw [hyqa]; exact H)
 have Nyqa := aQ hyqa; clear hyqa; have H' := aQ H; clear H; go_enter func140, ntmps140; go_wp2_with (first | (refine lI (d := Kd.int .i64) 7 Nyqa ?_; intro vqb w2 ho3 hb; have HOqc := aQ (Kd.p5 ho3 (ab (af HB))); replace HB := bs HB hb; clear hb ho3))
 go_loopg [3, 4] k (fun kq v3 v4 w' => ∃ (x3_1 : List Int) (x4_1 : Int), v4 = .int .i64 x4_1 ∧ Aside0 (ae.l0 kq l0 x3_1 x4_1 = some r) ∧ Aside0 (kq ≤ k) ∧ Aside0 (Kd.R (Kd.int .i64) 3 w' w.heap.size (fun _ => True) v3 x3_1) ∧ Aside0 (Below w.heap.size w w'))
 case atStart => exact ⟨(yqa), (0), rs_, H', ⟨Nat.le_refl _⟩, ⟨aa HOqc⟩, ⟨af HB⟩⟩
 clear H'; obtain ⟨x3_1, x4_1, rfl, HA, HK1, HO_3, HB⟩ := hrel; rcases gk with _ | k1
 ·exact absurd HA.out (by simp [ae.l0])
 have H := HA.out; clear HA; simp only [ae.l0] at H; replace H := ckD H; obtain ⟨c4b0, H⟩ | ⟨c4b0, H⟩ := H
 ·have H' := aQ H; clear H; go_wp2
  go_loopg [5] k1 (fun kq v5 w' => ∃ (x5_2 : Int), v5 = .int .i64 x5_2 ∧ Aside0 (ae.l1 kq l0 x3_1 x4_1 x5_2 = some r) ∧ Aside0 (kq ≤ k1) ∧ Aside0 (Kd.R (Kd.int .i64) 3 w' w.heap.size (fun _ => True) u3 x3_1) ∧ Aside0 (Below w.heap.size w w'))
  case atStart => exact ⟨(0), rs_, H', ⟨Nat.le_refl _⟩, ⟨aa HO_3⟩, ⟨af HB⟩⟩
  clear H'; try clear c4
  try clear c4b0
  obtain ⟨x5_2, rfl, HA, HK2, HO_3, HB⟩ := hrel; rcases gk with _ | k2
  ·exact absurd HA.out (by simp [ae.l1])
  have H := HA.out; clear HA; simp only [ae.l1] at H; replace H := ckD H; obtain ⟨c5b0, H⟩ | ⟨c5b0, H⟩ := H
  ·replace H := gdD H; obtain ⟨c6b0, H⟩ := H; replace H := gdD H; obtain ⟨c7b0, H⟩ := H; replace H := gdD H; obtain ⟨c8b0, H⟩ := H; replace H := ckD H; obtain ⟨c9b0, H⟩ | ⟨c9b0, H⟩ := H
   ·have H' := aQ H; clear H; try go_wp2
    replace HO_3 := aQ (Kd.t7 HO_3.out); replace HB := aQ (ao HB.out); obtain ⟨Ao11, co11, eo11⟩ := Kd.p8 HO_3.out; (first | subst eo11 | (injection eo11 with f1_ f2_ f3_; have f4_ := f1_.symm; have f5_ := f3_.symm; clear f1_ f2_ f3_; subst f4_; subst f5_)); have pqd : 0 ≤ (x5_2 : Int) := of_decide_eq_true as_; have qqd : x5_2 < (x3_1.length : Int) := of_decide_eq_true as_; obtain ⟨adqd, eqd, hxqd_0⟩ := Kd.r9 (Kd.o1 HO_3.out).2.2 x5_2 pqd qqd; cases eqd; replace pqd := eq_true pqd; replace qqd := eq_true qqd; have pqe : 0 ≤ (x4_1 : Int) := of_decide_eq_true as_; have qqe : x4_1 < (l0.length : Int) := of_decide_eq_true as_; obtain ⟨adqe, eqe, hxqe_0⟩ := Kd.r9 HR0.out x4_1 pqe qqe; have hwqe_0 := hxqe_0; cases eqe; replace hxqe_0 := (HB.out.cell (World.block_lt_of_cell? w _ hxqe_0)).trans hxqe_0; replace pqe := eq_true pqe; replace qqe := eq_true qqe; refine cT (n := 15) (S := fun w' => w'.cell? (adqd.add (x5_2).toNat) = some (.int .i64 (rd x3_1 x5_2)) ∧ w'.cell? (adqe.add (x4_1).toNat) = some (.int .i64 (rd l0 x4_1))) (ds := []) _ (by kernel_rfl) rfl rfl ⟨hxqd_0, ((HB.out.cell (World.block_lt_of_cell? w _ hwqe_0)).trans hwqe_0)⟩ (fun hHeld => ?_); refine cb ae.tab6 ae.bits6 (fun HT_ HW_ => ?_); generalize wr.drew = w10 at HO_3 HB hxqd_0 hxqe_0 hHeld ⊢; refine pA 0 (some 14) HT_ ?_; refine pA 1 (some 15) HT_ ?_; refine pA 2 (some 16) HT_ ?_; refine pA 3 (some 17) HT_ ?_; refine pA 4 (some 18) HT_ ?_; refine pA 5 (some 19) HT_ ?_
    refine pA 6 (some 20) HT_ ?_; refine pA 7 (some 21) HT_ ?_; refine pA 9 (some 23) HT_ ?_; refine pA 10 (some 24) HT_ ?_; refine pA 11 (some 25) HT_ ?_; refine tA2 8 (some 22) HT_ HW_ hHeld ?_; refine tA2 12 (some 26) HT_ HW_ hHeld ?_; refine pA 13 (some 27) HT_ ?_; refine pA 14 (some 28) HT_ ?_; refine dj (cH HT_.out (by kernel_rfl)) ?_; try go_wp2
    go_roundg k2
    case measure => have := HK1.out; have := HK2.out; omega
    case rel => exact ⟨(wrap64 (x5_2 + 1)), rs_, H', ⟨by have := HK1.out; have := HK2.out; omega⟩, ⟨aa HO_3⟩, ⟨af HB⟩⟩
   ·replace H := ckE H; obtain ⟨c12b0, c12b1, H⟩ | ⟨c12, c12b0, c12b1, H⟩ := H
    ·have H' := aQ H; clear H; try go_wp2
     replace HO_3 := aQ (Kd.t7 HO_3.out); replace HB := aQ (ao HB.out); obtain ⟨Ao14, co14, eo14⟩ := Kd.p8 HO_3.out; (first | subst eo14 | (injection eo14 with f1_ f2_ f3_; have f4_ := f1_.symm; have f5_ := f3_.symm; clear f1_ f2_ f3_; subst f4_; subst f5_)); have pqd : 0 ≤ (x5_2 : Int) := of_decide_eq_true as_; have qqd : x5_2 < (x3_1.length : Int) := of_decide_eq_true as_; obtain ⟨adqd, eqd, hxqd_0⟩ := Kd.r9 (Kd.o1 HO_3.out).2.2 x5_2 pqd qqd; cases eqd; replace pqd := eq_true pqd; replace qqd := eq_true qqd; have pqe : 0 ≤ (x4_1 : Int) := of_decide_eq_true as_; have qqe : x4_1 < (l0.length : Int) := of_decide_eq_true as_; obtain ⟨adqe, eqe, hxqe_0⟩ := Kd.r9 HR0.out x4_1 pqe qqe; have hwqe_0 := hxqe_0; cases eqe; replace hxqe_0 := (HB.out.cell (World.block_lt_of_cell? w _ hxqe_0)).trans hxqe_0; replace pqe := eq_true pqe; replace qqe := eq_true qqe; refine cT (n := 15) (S := fun w' => w'.cell? (adqd.add (x5_2).toNat) = some (.int .i64 (rd x3_1 x5_2)) ∧ w'.cell? (adqe.add (x4_1).toNat) = some (.int .i64 (rd l0 x4_1))) (ds := []) _ (by kernel_rfl) rfl rfl ⟨hxqd_0, ((HB.out.cell (World.block_lt_of_cell? w _ hwqe_0)).trans hwqe_0)⟩ (fun hHeld => ?_); refine cb ae.tab6 ae.bits6 (fun HT_ HW_ => ?_); generalize wr.drew = w13 at HO_3 HB hxqd_0 hxqe_0 hHeld ⊢; refine pA 0 (some 14) HT_ ?_; refine pA 1 (some 15) HT_ ?_; refine pA 2 (some 16) HT_ ?_; refine pA 3 (some 17) HT_ ?_; refine pA 4 (some 18) HT_ ?_; refine pA 5 (some 19) HT_ ?_
     refine pA 6 (some 20) HT_ ?_; refine pA 7 (some 21) HT_ ?_; refine pA 9 (some 23) HT_ ?_; refine pA 10 (some 24) HT_ ?_; refine pA 11 (some 25) HT_ ?_; refine tA2 8 (some 22) HT_ HW_ hHeld ?_; refine tA2 12 (some 26) HT_ HW_ hHeld ?_; refine pA 13 (some 27) HT_ ?_; refine pA 14 (some 28) HT_ ?_; refine dj (cH HT_.out (by kernel_rfl)) ?_; try go_wp2
     replace HO_3 := aQ (Kd.t7 HO_3.out); replace HB := aQ (ao HB.out); obtain ⟨adqf, eqf, hxqf_0, pqf, qqf⟩ := aI (Kd.o1 HO_3.out).2.2 x5_2; obtain rfl : adqd = adqf := (by injection eqf); obtain ⟨adqg, eqg, hxqg_0, pqg, qqg⟩ := aI HR0.out x4_1; have hwqg_0 := hxqg_0; obtain rfl : adqe = adqg := (by injection eqg); replace hxqg_0 := (HB.out.cell (World.block_lt_of_cell? w _ hxqg_0)).trans hxqg_0; refine cT (n := 15) (S := fun w' => w'.cell? (adqd.add (x5_2).toNat) = some (.int .i64 (rd x3_1 x5_2)) ∧ w'.cell? (adqe.add (x4_1).toNat) = some (.int .i64 (rd l0 x4_1))) (ds := []) _ (by kernel_rfl) rfl rfl ⟨hxqf_0, ((HB.out.cell (World.block_lt_of_cell? w _ hwqg_0)).trans hwqg_0)⟩ (fun hHeld => ?_); refine cb ae.tab8 ae.bits8 (fun HT_ HW_ => ?_); generalize w13.drew = w15 at HO_3 HB hxqf_0 hxqg_0 hHeld ⊢; refine pA 0 (some 31) HT_ ?_; refine pA 1 (some 32) HT_ ?_; refine pA 2 (some 33) HT_ ?_; refine pA 3 (some 34) HT_ ?_; refine pA 4 (some 35) HT_ ?_; refine pA 5 (some 36) HT_ ?_; refine pA 6 (some 37) HT_ ?_; refine pA 7 (some 38) HT_ ?_; refine pA 9 (some 40) HT_ ?_; refine pA 10 (some 41) HT_ ?_; refine pA 11 (some 42) HT_ ?_; refine tA2 8 (some 39) HT_ HW_ hHeld ?_; refine tA2 12 (some 43) HT_ HW_ hHeld ?_; refine pA 13 (some 44) HT_ ?_; refine pA 14 (some 45) HT_ ?_; refine dj (cH HT_.out (by kernel_rfl)) ?_; try go_wp2
     go_roundg k2
     case measure => have := HK1.out; have := HK2.out; omega
     case rel => exact ⟨(x3_1), (wrap64 (x4_1 + 1)), rs_, H', ⟨by have := HK1.out; have := HK2.out; omega⟩, ⟨aa HO_3⟩, ⟨af HB⟩⟩
    ·obtain ⟨yq0, hyq0⟩ : ∃ y_ : List Int, y_ = (([] : List Int)) := ⟨_, rfl⟩; replace H : (if x5_2 ≤ (x3_1.length : Int) then ((some (x3_1.drop (x5_2 : Int).toNat : List Int)).bind fun yq1 => (if yq0.length + yq1.length < 17592186044416 then ((some (yq0 ++ yq1 : List Int)).bind fun yq2 => ((some (x3_1.take (x5_2 : Int).toNat : List Int)).bind fun yq3 => (if yq3.length < 17592186044416 then ((some (yq3 ++ [rd l0 x4_1] : List Int)).bind fun yq4 => (if yq4.length + yq2.length < 17592186044416 then (ae.l0 k2 l0 (yq4 ++ yq2) (wrap64 (x4_1 + 1))) else (none))) else (none)))) else (none))) else (none)) = some r := by first | (rw [hyq0]; with_reducible exact H) | (rw [hyq0]; exact H)
     have Nyq0 := aQ hyq0; clear hyq0; have c16b0 := eq_true (of_decide_eq_true as_ : 0 ≤ x5_2); replace H := gdB H; obtain ⟨c17b0, c17b1, H⟩ := H; obtain ⟨yq1, hyq1⟩ : ∃ y_ : List Int, y_ = (x3_1.drop (x5_2 : Int).toNat) := ⟨_, rfl⟩; replace H : (if yq0.length + yq1.length < 17592186044416 then ((some (yq0 ++ yq1 : List Int)).bind fun yq2 => ((some (x3_1.take (x5_2 : Int).toNat : List Int)).bind fun yq3 => (if yq3.length < 17592186044416 then ((some (yq3 ++ [rd l0 x4_1] : List Int)).bind fun yq4 => (if yq4.length + yq2.length < 17592186044416 then (ae.l0 k2 l0 (yq4 ++ yq2) (wrap64 (x4_1 + 1))) else (none))) else (none)))) else (none)) = some r := by first | (rw [hyq1]; with_reducible exact H) | (rw [hyq1]; exact H)
     have Nyq1 := aQ hyq1; clear hyq1; replace H := gdA H; obtain ⟨LMc18, H⟩ := H; obtain ⟨yq2, hyq2⟩ : ∃ y_ : List Int, y_ = (yq0 ++ yq1) := ⟨_, rfl⟩; replace H : ((some (x3_1.take (x5_2 : Int).toNat : List Int)).bind fun yq3 => (if yq3.length < 17592186044416 then ((some (yq3 ++ [rd l0 x4_1] : List Int)).bind fun yq4 => (if yq4.length + yq2.length < 17592186044416 then (ae.l0 k2 l0 (yq4 ++ yq2) (wrap64 (x4_1 + 1))) else (none))) else (none))) = some r := by first | (rw [hyq2]; with_reducible exact H) | (rw [hyq2]; exact H)
     have Nyq2 := aQ hyq2; clear hyq2; have c19b0 := eq_true (of_decide_eq_true as_ : x5_2 ≤ (x3_1.length : Int)); replace H := yz H; obtain ⟨yq3, Nyq3, H⟩ := H; (try dsimp only at H); replace H := gdA H; obtain ⟨LMc20, H⟩ := H; obtain ⟨yq4, hyq4⟩ : ∃ y_ : List Int, y_ = (yq3 ++ [rd l0 x4_1]) := ⟨_, rfl⟩; replace H : (if yq4.length + yq2.length < 17592186044416 then (ae.l0 k2 l0 (yq4 ++ yq2) (wrap64 (x4_1 + 1))) else (none)) = some r := by first | (rw [hyq4]; with_reducible exact H) | (rw [hyq4]; exact H)
     have Nyq4 := aQ hyq4; clear hyq4; replace H := gdA H; obtain ⟨LMc21, H⟩ := H; obtain ⟨yqh, hyqh⟩ : ∃ y_ : List Int, y_ = (yq4 ++ yq2) := ⟨_, rfl⟩; replace H : (ae.l0 k2 l0 yqh (wrap64 (x4_1 + 1))) = some r := by first | (rw [hyqh]; with_reducible exact H) | (rw [hyqh]; exact H)
     have Nyqh := aQ hyqh; clear hyqh; have H' := aQ H; clear H; try go_wp2
     replace HO_3 := aQ (Kd.t7 HO_3.out); replace HB := aQ (ao HB.out); obtain ⟨Ao23, co23, eo23⟩ := Kd.p8 HO_3.out; (first | subst eo23 | (injection eo23 with f1_ f2_ f3_; have f4_ := f1_.symm; have f5_ := f3_.symm; clear f1_ f2_ f3_; subst f4_; subst f5_)); have pqd : 0 ≤ (x5_2 : Int) := of_decide_eq_true as_; have qqd : x5_2 < (x3_1.length : Int) := of_decide_eq_true as_; obtain ⟨adqd, eqd, hxqd_0⟩ := Kd.r9 (Kd.o1 HO_3.out).2.2 x5_2 pqd qqd; cases eqd; replace pqd := eq_true pqd; replace qqd := eq_true qqd; have pqe : 0 ≤ (x4_1 : Int) := of_decide_eq_true as_; have qqe : x4_1 < (l0.length : Int) := of_decide_eq_true as_; obtain ⟨adqe, eqe, hxqe_0⟩ := Kd.r9 HR0.out x4_1 pqe qqe; have hwqe_0 := hxqe_0; cases eqe; replace hxqe_0 := (HB.out.cell (World.block_lt_of_cell? w _ hxqe_0)).trans hxqe_0; replace pqe := eq_true pqe; replace qqe := eq_true qqe; refine cT (n := 15) (S := fun w' => w'.cell? (adqd.add (x5_2).toNat) = some (.int .i64 (rd x3_1 x5_2)) ∧ w'.cell? (adqe.add (x4_1).toNat) = some (.int .i64 (rd l0 x4_1))) (ds := []) _ (by kernel_rfl) rfl rfl ⟨hxqd_0, ((HB.out.cell (World.block_lt_of_cell? w _ hwqe_0)).trans hwqe_0)⟩ (fun hHeld => ?_); refine cb ae.tab6 ae.bits6 (fun HT_ HW_ => ?_); generalize wr.drew = w22 at HO_3 HB hxqd_0 hxqe_0 hHeld ⊢; refine pA 0 (some 14) HT_ ?_; refine pA 1 (some 15) HT_ ?_; refine pA 2 (some 16) HT_ ?_; refine pA 3 (some 17) HT_ ?_; refine pA 4 (some 18) HT_ ?_; refine pA 5 (some 19) HT_ ?_
     refine pA 6 (some 20) HT_ ?_; refine pA 7 (some 21) HT_ ?_; refine pA 9 (some 23) HT_ ?_; refine pA 10 (some 24) HT_ ?_; refine pA 11 (some 25) HT_ ?_; refine tA2 8 (some 22) HT_ HW_ hHeld ?_; refine tA2 12 (some 26) HT_ HW_ hHeld ?_; refine pA 13 (some 27) HT_ ?_; refine pA 14 (some 28) HT_ ?_; refine dj (cH HT_.out (by kernel_rfl)) ?_; try go_wp2
     replace HO_3 := aQ (Kd.t7 HO_3.out); replace HB := aQ (ao HB.out); obtain ⟨adqf, eqf, hxqf_0, pqf, qqf⟩ := aI (Kd.o1 HO_3.out).2.2 x5_2; obtain rfl : adqd = adqf := (by injection eqf); obtain ⟨adqg, eqg, hxqg_0, pqg, qqg⟩ := aI HR0.out x4_1; have hwqg_0 := hxqg_0; obtain rfl : adqe = adqg := (by injection eqg); replace hxqg_0 := (HB.out.cell (World.block_lt_of_cell? w _ hxqg_0)).trans hxqg_0; refine cT (n := 15) (S := fun w' => w'.cell? (adqd.add (x5_2).toNat) = some (.int .i64 (rd x3_1 x5_2)) ∧ w'.cell? (adqe.add (x4_1).toNat) = some (.int .i64 (rd l0 x4_1))) (ds := []) _ (by kernel_rfl) rfl rfl ⟨hxqf_0, ((HB.out.cell (World.block_lt_of_cell? w _ hwqg_0)).trans hwqg_0)⟩ (fun hHeld => ?_); refine cb ae.tab8 ae.bits8 (fun HT_ HW_ => ?_); generalize w22.drew = w24 at HO_3 HB hxqf_0 hxqg_0 hHeld ⊢; refine pA 0 (some 31) HT_ ?_; refine pA 1 (some 32) HT_ ?_; refine pA 2 (some 33) HT_ ?_; refine pA 3 (some 34) HT_ ?_; refine pA 4 (some 35) HT_ ?_; refine pA 5 (some 36) HT_ ?_; refine pA 6 (some 37) HT_ ?_; refine pA 7 (some 38) HT_ ?_; refine pA 9 (some 40) HT_ ?_; refine pA 10 (some 41) HT_ ?_; refine pA 11 (some 42) HT_ ?_; refine tA2 8 (some 39) HT_ HW_ hHeld ?_; refine tA2 12 (some 43) HT_ HW_ hHeld ?_; refine pA 13 (some 44) HT_ ?_; refine pA 14 (some 45) HT_ ?_; refine dj (cH HT_.out (by kernel_rfl)) ?_; try go_wp2_with (first | (refine lI (d := Kd.int .i64) 46 Nyq0 ?_; intro vqi w25 ho26 hb; have HOqj := aQ (Kd.p5 (Kd.s9 ho26 (Kd.s5 (aa HO_3))) (ab (af HB))); replace HO_3 := aQ (Kd.s7 (aa HO_3) (Kd.s6 ho26) hb); replace HB := bs HB hb; clear hb ho26; have q27 : (x5_2 : Int) ≤ ((x3_1.length : Int) : Int) := of_decide_eq_true as_; obtain ⟨i027, hi027, _, hsz27, _⟩ := info_parts bP; have hroom27 : x3_1.length ≤ co23 := (Kd.o1 HO_3.out).2.1; have hC27 : Kd.C (Kd.int .i64) _ (some adqd) x3_1.length x3_1 := (Kd.o1 HO_3.out).2.2; have q027 : (0 : Int) ≤ (x5_2 : Int) := of_decide_eq_true as_; have hcut27 := dS (P := Tryz.prog) 24 3 .i64 underlying24 hi027 1 hsz27 (some adqd) x3_1.length co23 x5_2 q027 q27; have hr27 := Kd.z6 (m := (x5_2 : Int).toNat) (c := co23) hC27 (by omega) hroom27; obtain ⟨A27, hA27⟩ : ∃ A1, A1 = (if co23 = (x5_2 : Int).toNat then (some adqd) else ((some adqd) : Option Addr).map (·.add ((x5_2 : Int).toNat * 1))) := ⟨_, rfl⟩; obtain ⟨c27, hc27⟩ : ∃ c1, c1 = co23 - (x5_2 : Int).toNat := ⟨_, rfl⟩; have hy27 : yq1.length = x3_1.length - (x5_2 : Int).toNat := (by rw [Nyq1.out, List.length_drop] <;> omega); rw [show (x3_1).drop (x5_2 : Int).toNat = yq1 from Nyq1.out.symm] at hr27; replace hr27 : Kd.C (Kd.int .i64) _ A27 yq1.length yq1 := (by rw [hA27]; exact hr27); rw [← hy27, ← hA27, ← hc27] at hcut27; have HRqk := aQ hr27; have HCqk := aQ (show yq1.length ≤ c27 from by rw [hy27, hc27]; exact Nat.sub_le_sub_right hroom27 _); clear hr27 hC27 hroom27 hi027 hsz27 hc27; have KY27 := aQ hy27; have KA27 := aQ hA27; clear hy27 hA27; have KL27 := aQ (show (x5_2 : Int).toNat ≤ x3_1.length from by omega); replace q27 := eq_true q27) | ((with_reducible refine gate_builtin (b := .append) (xs := #[.tmp 46, .tmp 49]) rfl ?_); at_builtin; refine Kd.t5 (Kd.int .i64) (w0 := w) w.heap.size rfl (.tmp 46) (.tmp 49) 24 3 (.int .i64 0) 8 rfl underlying24 bP rfl (by decide) (by omega) vqi yq0 yq1 _ _ _ (fun k_ => some k_ ≠ (.slice (some adqd) x3_1.length co23 : Value).ownBlock) (fun _ => False) rfl rfl ?aO ?aR (fun _ _ h => h) (fun _ h => h.elim) ?aF ?aB ?aS ?aL ?_; (case aR => repeat (first | exact (by repeat (first | (with_reducible exact HRqk.out) | (with_reducible refine Kd.y8 ?_ _) | (with_reducible refine Kd.y7 ?_ _) | (with_reducible refine Kd.y9 ?_) | exact HRqk.out)) | (with_reducible refine Kd.y8 ?_ _) | (with_reducible refine Kd.y7 ?_ _) | (with_reducible refine Kd.y9 ?_))); (case aB => exact (af HB)); (case aF => exact (fun k_ hk => Kd.t6 (Kd.s5 (aa HO_3)) k_ hk)); (case aO => exact (by refine pRx ?_; exact Kd.o8 HOqj.out (fun _ hk => hk.2))); (case aS => exact (ab (af HB))); (case aL => have := LMc18.out; omega); intro vql w28 ho hb hg hat; rw [← Nyq2.out] at ho; replace HB := aQ (hb); replace HRqk := aQ ((show Kd.C (Kd.int .i64) w28 A27 yq1.length yq1 from by rw [Nyq1.out, KA27.out]; exact Kd.z6 (m := (x5_2 : Int).toNat) (c := co23) ((Kd.o1 (Kd.s4 (ok := (fun _ => True)) (aa HO_3) hg hat)).2.2) KL27.out ((Kd.o1 (Kd.s4 (ok := (fun _ => True)) (aa HO_3) hg hat)).2.1))); replace HO_3 := aQ (Kd.s4 (ok := (fun _ => True)) (aa HO_3) hg hat); have HOqm := aQ (ho); clear HOqj; clear ho hb hg hat))
     replace HO_3 := aQ (Kd.t7 HO_3.out); replace HOqm := aQ (Kd.t7 HOqm.out); replace HRqk := aQ (Kd.y9 HRqk.out); replace HB := aQ (ao HB.out); have q30 : (x5_2 : Int) ≤ ((x3_1.length : Int) : Int) := of_decide_eq_true as_; obtain ⟨i030, hi030, _, hsz30, _⟩ := info_parts bP; have hcut30 := eW (P := Tryz.prog) 24 3 .i64 underlying24 hi030 (some adqd) x3_1.length co23 x5_2 (of_decide_eq_true as_) q30 (Kd.o1 HO_3.out).2.1; have hr30 := Kd.D0 (m := (x5_2 : Int).toNat) HO_3.out (by omega); have hy30 : yq3.length = (x5_2 : Int).toNat := (by rw [Nyq3.out, List.length_take]; omega); rw [← Nyq3.out] at hr30; rw [← hy30] at hr30 hcut30; clear hy30 hi030 hsz30 HO_3; have HOqn := aQ hr30; clear hr30; replace q30 := eq_true q30; obtain ⟨adqo, eqo, hxqo_0, pqo, qqo⟩ := aI HR0.out x4_1; have hwqo_0 := hxqo_0; obtain rfl : adqe = adqo := (by injection eqo); replace hxqo_0 := (HB.out.cell (World.block_lt_of_cell? w _ hxqo_0)).trans hxqo_0; refine cT (n := 12) (S := fun w' => w'.cell? (adqe.add (x4_1).toNat) = some (.int .i64 (rd l0 x4_1))) (ds := []) _ (by kernel_rfl) rfl rfl (((HB.out.cell (World.block_lt_of_cell? w _ hwqo_0)).trans hwqo_0)) (fun hHeld => ?_); refine cb ae.tab10 ae.bits10 (fun HT_ HW_ => ?_); generalize w28.drew = w29 at HO_3 HOqm HRqk HB HOqn hxqo_0 hHeld ⊢; refine pA 0 (some 51) HT_ ?_; refine pA 1 (some 52) HT_ ?_; refine pA 2 (some 53) HT_ ?_; refine pA 3 (some 54) HT_ ?_; refine pA 4 (some 55) HT_ ?_
     refine pA 5 (some 56) HT_ ?_; refine pA 9 (some 60) HT_ ?_; refine tA1 6 (some 57) HT_ HW_ hHeld ?_; refine onA (i := 7) (N := some 58) HT_ (h := fun K hK => ?_); refine iV (w1 := ?_) (v := ?_) (by rfl) rfl ?_ ?_
     rotate_left 2
     ·go_simp
      constructor
      ·rfl
      ·rfl
     refine hK.out _ _ ((World.cell?_alloc_lt _ _ _ (World.block_lt_of_cell? _ _ (((HB.out.cell (World.block_lt_of_cell? w _ hwqo_0)).trans hwqo_0)))).trans (((HB.out.cell (World.block_lt_of_cell? w _ hwqo_0)).trans hwqo_0))) (fun hHeld => ?_); clear hK K; refine noN (some 58) (h := ?_); refine onA (i := 8) (N := some 59) HT_ (h := fun K hK => ?_); refine Kd.C1 (Kd.int .i64) (w0 := w) w.heap.size (by rfl) (.tmp 53) (.tmp 58) 24 3 (.int .i64 0) 8 rfl underlying24 bP rfl (by decide) (by omega) (.slice (some adqd) yq3.length co23) yq3 (rd l0 x4_1) [.int .i64 (rd l0 x4_1)] (fun k_ => some k_ ≠ (vql : Value).ownBlock) (fun _ => False) rfl rfl ?aP (fun _ hk => hk.elim) ?aF ?aO ?aB ?aS ?aL ?_; (case aP => exact rfl); (case aB => exact (af HB)); (case aF => exact (fun k_ hk => Kd.t6 (Kd.s5 (aa HOqm)) k_ hk)); (case aO => exact (by refine pRx ?_; exact Kd.o8 HOqn.out (fun _ hk => hk.2))); (case aS => exact (ab (af HB))); (case aL => have := LMc20.out; omega); intro vqp w31 ho hb hg hat; rw [← Nyq4.out] at ho; replace HOqm := aQ (Kd.s4 (ok := (fun _ => True)) (by refine pRx ?_; exact Kd.o8 HOqm.out (fun _ hk => ⟨trivial, by first | exact hk | exact fun h_ => hk (h_.trans (ft _ _ _ _))⟩)) hg hat); replace HB := aQ (hb); have HOqq := aQ (ho); clear HOqn; clear ho hb hg hat; obtain ⟨Ao33, co33, eo33⟩ := Kd.p8 HOqm.out; (first | subst eo33 | (injection eo33 with f1_ f2_ f3_; have f4_ := f1_.symm; have f5_ := f3_.symm; clear f1_ f2_ f3_; subst f4_; subst f5_))
     refine hK.out _ _ (((HB.out.cell (World.block_lt_of_cell? w _ hwqo_0)).trans hwqo_0)) (fun hHeld => ?_); clear hK K; refine noN (some 59) (h := ?_); refine onA (i := 10) (N := some 61) HT_ (h := fun K hK => ?_); refine Kd.B2 (Kd.int .i64) (w0 := w) w.heap.size (by rfl) (.tmp 59) (.tmp 60) 24 3 (.int .i64 0) 8 rfl underlying24 bP rfl (by decide) (by omega) vqp yq4 yq2 _ _ _ (fun k_ => some k_ ≠ (.slice Ao33 yq2.length co33 : Value).ownBlock) (fun _ => False) rfl rfl ?aO ?aR (fun _ _ h => h) (fun _ h => h.elim) ?aF ?aB ?aS ?aL ?_; (case aR => exact pC ((Kd.o1 HOqm.out).2.2)); (case aB => exact (af HB)); (case aF => exact (fun k_ hk => Kd.t6 (Kd.s5 (aa HOqm)) k_ hk)); (case aO => exact (aa HOqq)); (case aS => exact (ab (af HB))); (case aL => have := LMc21.out; omega); intro vqr w32 ho hb hg hat; rw [← Nyqh.out] at ho; replace HOqm := aQ (Kd.s4 (ok := (fun _ => True)) (aa HOqm) hg hat); replace HB := aQ (hb); have HOqs := aQ (ho); clear HOqq; clear ho hb hg hat; refine hK.out _ _ (((HB.out.cell (World.block_lt_of_cell? w _ hwqo_0)).trans hwqo_0)) (fun hHeld => ?_); clear hK K; refine noN (some 61) (h := ?_); refine pA 11 (some 3) HT_ ?_; refine dj (cH HT_.out (by kernel_rfl)) ?_; try go_wp2
     go_roundg k2
     case measure => have := HK1.out; have := HK2.out; omega
     case rel => exact ⟨(yqh), (wrap64 (x4_1 + 1)), rs_, H', ⟨by have := HK1.out; have := HK2.out; omega⟩, ⟨by refine pRx ?_; exact Kd.o8 HOqs.out (fun _ hk => trivial)⟩, ⟨af HB⟩⟩
  ·obtain ⟨yq5, hyq5⟩ : ∃ y_ : List Int, y_ = (([] : List Int)) := ⟨_, rfl⟩; replace H : (if 0 ≤ x5_2 then (if x5_2 ≤ (x3_1.length : Int) then ((some (x3_1.drop (x5_2 : Int).toNat : List Int)).bind fun yq6 => (if yq5.length + yq6.length < 17592186044416 then ((some (yq5 ++ yq6 : List Int)).bind fun yq7 => ((some (x3_1.take (x5_2 : Int).toNat : List Int)).bind fun yq8 => (if 0 ≤ x4_1 then (if x4_1 < (l0.length : Int) then (if yq8.length < 17592186044416 then ((some (yq8 ++ [rd l0 x4_1] : List Int)).bind fun yq9 => (if yq9.length + yq7.length < 17592186044416 then (ae.l0 k2 l0 (yq9 ++ yq7) (wrap64 (x4_1 + 1))) else (none))) else (none)) else (none)) else (none)))) else (none))) else (none)) else (none)) = some r := by first | (rw [hyq5]; with_reducible exact H) | (rw [hyq5]; exact H)
   have Nyq5 := aQ hyq5; clear hyq5; replace H := gdB H; obtain ⟨c34b0, c34b1, H⟩ := H; replace H := gdB H; obtain ⟨c35b0, c35b1, H⟩ := H; obtain ⟨yq6, hyq6⟩ : ∃ y_ : List Int, y_ = (x3_1.drop (x5_2 : Int).toNat) := ⟨_, rfl⟩; replace H : (if yq5.length + yq6.length < 17592186044416 then ((some (yq5 ++ yq6 : List Int)).bind fun yq7 => ((some (x3_1.take (x5_2 : Int).toNat : List Int)).bind fun yq8 => (if 0 ≤ x4_1 then (if x4_1 < (l0.length : Int) then (if yq8.length < 17592186044416 then ((some (yq8 ++ [rd l0 x4_1] : List Int)).bind fun yq9 => (if yq9.length + yq7.length < 17592186044416 then (ae.l0 k2 l0 (yq9 ++ yq7) (wrap64 (x4_1 + 1))) else (none))) else (none)) else (none)) else (none)))) else (none)) = some r := by first | (rw [hyq6]; with_reducible exact H) | (rw [hyq6]; exact H)
   have Nyq6 := aQ hyq6; clear hyq6; replace H := gdA H; obtain ⟨LMc36, H⟩ := H; obtain ⟨yq7, hyq7⟩ : ∃ y_ : List Int, y_ = (yq5 ++ yq6) := ⟨_, rfl⟩; replace H : ((some (x3_1.take (x5_2 : Int).toNat : List Int)).bind fun yq8 => (if 0 ≤ x4_1 then (if x4_1 < (l0.length : Int) then (if yq8.length < 17592186044416 then ((some (yq8 ++ [rd l0 x4_1] : List Int)).bind fun yq9 => (if yq9.length + yq7.length < 17592186044416 then (ae.l0 k2 l0 (yq9 ++ yq7) (wrap64 (x4_1 + 1))) else (none))) else (none)) else (none)) else (none))) = some r := by first | (rw [hyq7]; with_reducible exact H) | (rw [hyq7]; exact H)
   have Nyq7 := aQ hyq7; clear hyq7; have c37b0 := eq_true (of_decide_eq_true as_ : x5_2 ≤ (x3_1.length : Int)); replace H := yz H; obtain ⟨yq8, Nyq8, H⟩ := H; (try dsimp only at H); replace H := gdD H; obtain ⟨c38b0, H⟩ := H; replace H := gdD H; obtain ⟨c39b0, H⟩ := H; replace H := gdA H; obtain ⟨LMc40, H⟩ := H; obtain ⟨yq9, hyq9⟩ : ∃ y_ : List Int, y_ = (yq8 ++ [rd l0 x4_1]) := ⟨_, rfl⟩; replace H : (if yq9.length + yq7.length < 17592186044416 then (ae.l0 k2 l0 (yq9 ++ yq7) (wrap64 (x4_1 + 1))) else (none)) = some r := by first | (rw [hyq9]; with_reducible exact H) | (rw [hyq9]; exact H)
   have Nyq9 := aQ hyq9; clear hyq9; replace H := gdA H; obtain ⟨LMc41, H⟩ := H; obtain ⟨yqt, hyqt⟩ : ∃ y_ : List Int, y_ = (yq9 ++ yq7) := ⟨_, rfl⟩; replace H : (ae.l0 k2 l0 yqt (wrap64 (x4_1 + 1))) = some r := by first | (rw [hyqt]; with_reducible exact H) | (rw [hyqt]; exact H)
   have Nyqt := aQ hyqt; clear hyqt; have H' := aQ H; clear H; try go_wp2
   replace HO_3 := aQ (Kd.t7 HO_3.out); replace HB := aQ (ao HB.out); obtain ⟨Ao43, co43, eo43⟩ := Kd.p8 HO_3.out; (first | subst eo43 | (injection eo43 with f1_ f2_ f3_; have f4_ := f1_.symm; have f5_ := f3_.symm; clear f1_ f2_ f3_; subst f4_; subst f5_)); refine cT (n := 15) (S := fun w' => True) (ds := []) _ (by kernel_rfl) rfl rfl trivial (fun hHeld => ?_); refine cb ae.tab6 ae.bits6 (fun HT_ HW_ => ?_); generalize wr.drew = w42 at HO_3 HB hHeld ⊢; refine pA 0 (some 14) HT_ ?_; refine pA 1 (some 15) HT_ ?_; refine pA 2 (some 16) HT_ ?_; refine pA 3 (some 17) HT_ ?_; refine pA 4 (some 18) HT_ ?_; refine pU 5 (some 19) HT_ ?_; refine pU 6 (some 20) HT_ ?_; refine pU 7 (some 21) HT_ ?_; refine pU 8 (some 22) HT_ ?_; refine pU 9 (some 23) HT_ ?_; refine pU 10 (some 24) HT_ ?_; refine pU 11 (some 25) HT_ ?_; refine pU 12 (some 26) HT_ ?_; refine pU 13 (some 27) HT_ ?_; refine pA 14 (some 28) HT_ ?_; refine dj (cH HT_.out (by kernel_rfl)) ?_; try go_wp2
   replace HO_3 := aQ (Kd.t7 HO_3.out); replace HB := aQ (ao HB.out); refine cT (n := 15) (S := fun w' => True) (ds := []) _ (by kernel_rfl) rfl rfl trivial (fun hHeld => ?_); refine cb ae.tab8 ae.bits8 (fun HT_ HW_ => ?_); generalize w42.drew = w44 at HO_3 HB hHeld ⊢; refine pA 0 (some 31) HT_ ?_; refine pA 1 (some 32) HT_ ?_; refine pA 2 (some 33) HT_ ?_; refine pA 3 (some 34) HT_ ?_; refine pA 4 (some 35) HT_ ?_; refine pU 5 (some 36) HT_ ?_; refine pU 6 (some 37) HT_ ?_; refine pU 7 (some 38) HT_ ?_; refine pU 8 (some 39) HT_ ?_; refine pU 9 (some 40) HT_ ?_; refine pU 10 (some 41) HT_ ?_; refine pU 11 (some 42) HT_ ?_; refine pU 12 (some 43) HT_ ?_; refine pU 13 (some 44) HT_ ?_; refine pA 14 (some 45) HT_ ?_; refine dj (cH HT_.out (by kernel_rfl)) ?_; try go_wp2_with (first | (refine lI (d := Kd.int .i64) 46 Nyq5 ?_; intro vqu w45 ho46 hb; have HOqv := aQ (Kd.p5 (Kd.s9 ho46 (Kd.s5 (aa HO_3))) (ab (af HB))); replace HO_3 := aQ (Kd.s7 (aa HO_3) (Kd.s6 ho46) hb); replace HB := bs HB hb; clear hb ho46; have q47 : (x5_2 : Int) ≤ ((x3_1.length : Int) : Int) := of_decide_eq_true as_; obtain ⟨i047, hi047, _, hsz47, _⟩ := info_parts bP; have hroom47 : x3_1.length ≤ co43 := (Kd.o1 HO_3.out).2.1; have hC47 : Kd.C (Kd.int .i64) _ Ao43 x3_1.length x3_1 := (Kd.o1 HO_3.out).2.2; have q047 : (0 : Int) ≤ (x5_2 : Int) := of_decide_eq_true as_; have hcut47 := dS (P := Tryz.prog) 24 3 .i64 underlying24 hi047 1 hsz47 Ao43 x3_1.length co43 x5_2 q047 q47; have hr47 := Kd.z6 (m := (x5_2 : Int).toNat) (c := co43) hC47 (by omega) hroom47; obtain ⟨A47, hA47⟩ : ∃ A1, A1 = (if co43 = (x5_2 : Int).toNat then Ao43 else (Ao43 : Option Addr).map (·.add ((x5_2 : Int).toNat * 1))) := ⟨_, rfl⟩; obtain ⟨c47, hc47⟩ : ∃ c1, c1 = co43 - (x5_2 : Int).toNat := ⟨_, rfl⟩; have hy47 : yq6.length = x3_1.length - (x5_2 : Int).toNat := (by rw [Nyq6.out, List.length_drop] <;> omega); rw [show (x3_1).drop (x5_2 : Int).toNat = yq6 from Nyq6.out.symm] at hr47; replace hr47 : Kd.C (Kd.int .i64) _ A47 yq6.length yq6 := (by rw [hA47]; exact hr47); rw [← hy47, ← hA47, ← hc47] at hcut47; have HRqw := aQ hr47; have HCqw := aQ (show yq6.length ≤ c47 from by rw [hy47, hc47]; exact Nat.sub_le_sub_right hroom47 _); clear hr47 hC47 hroom47 hi047 hsz47 hc47; have KY47 := aQ hy47; have KA47 := aQ hA47; clear hy47 hA47; have KL47 := aQ (show (x5_2 : Int).toNat ≤ x3_1.length from by omega); replace q47 := eq_true q47) | ((with_reducible refine gate_builtin (b := .append) (xs := #[.tmp 46, .tmp 49]) rfl ?_); at_builtin; refine Kd.t5 (Kd.int .i64) (w0 := w) w.heap.size rfl (.tmp 46) (.tmp 49) 24 3 (.int .i64 0) 8 rfl underlying24 bP rfl (by decide) (by omega) vqu yq5 yq6 _ _ _ (fun k_ => some k_ ≠ (.slice Ao43 x3_1.length co43 : Value).ownBlock) (fun _ => False) rfl rfl ?aO ?aR (fun _ _ h => h) (fun _ h => h.elim) ?aF ?aB ?aS ?aL ?_; (case aR => repeat (first | exact (by repeat (first | (with_reducible exact HRqw.out) | (with_reducible refine Kd.y8 ?_ _) | (with_reducible refine Kd.y7 ?_ _) | (with_reducible refine Kd.y9 ?_) | exact HRqw.out)) | (with_reducible refine Kd.y8 ?_ _) | (with_reducible refine Kd.y7 ?_ _) | (with_reducible refine Kd.y9 ?_))); (case aB => exact (af HB)); (case aF => exact (fun k_ hk => Kd.t6 (Kd.s5 (aa HO_3)) k_ hk)); (case aO => exact (by refine pRx ?_; exact Kd.o8 HOqv.out (fun _ hk => hk.2))); (case aS => exact (ab (af HB))); (case aL => have := LMc36.out; omega); intro vqx w48 ho hb hg hat; rw [← Nyq7.out] at ho; replace HB := aQ (hb); replace HRqw := aQ ((show Kd.C (Kd.int .i64) w48 A47 yq6.length yq6 from by rw [Nyq6.out, KA47.out]; exact Kd.z6 (m := (x5_2 : Int).toNat) (c := co43) ((Kd.o1 (Kd.s4 (ok := (fun _ => True)) (aa HO_3) hg hat)).2.2) KL47.out ((Kd.o1 (Kd.s4 (ok := (fun _ => True)) (aa HO_3) hg hat)).2.1))); replace HO_3 := aQ (Kd.s4 (ok := (fun _ => True)) (aa HO_3) hg hat); have HOqy := aQ (ho); clear HOqv; clear ho hb hg hat))
   replace HO_3 := aQ (Kd.t7 HO_3.out); replace HOqy := aQ (Kd.t7 HOqy.out); replace HRqw := aQ (Kd.y9 HRqw.out); replace HB := aQ (ao HB.out); have q50 : (x5_2 : Int) ≤ ((x3_1.length : Int) : Int) := of_decide_eq_true as_; obtain ⟨i050, hi050, _, hsz50, _⟩ := info_parts bP; have hcut50 := eW (P := Tryz.prog) 24 3 .i64 underlying24 hi050 Ao43 x3_1.length co43 x5_2 (of_decide_eq_true as_) q50 (Kd.o1 HO_3.out).2.1; have hr50 := Kd.D0 (m := (x5_2 : Int).toNat) HO_3.out (by omega); have hy50 : yq8.length = (x5_2 : Int).toNat := (by rw [Nyq8.out, List.length_take]; omega); rw [← Nyq8.out] at hr50; rw [← hy50] at hr50 hcut50; clear hy50 hi050 hsz50 HO_3; have HOqz := aQ hr50; clear hr50; replace q50 := eq_true q50; have pq10 : 0 ≤ (x4_1 : Int) := of_decide_eq_true as_; have qq10 : x4_1 < (l0.length : Int) := of_decide_eq_true as_; obtain ⟨adq10, eq10, hxq10_0⟩ := Kd.r9 HR0.out x4_1 pq10 qq10; have hwq10_0 := hxq10_0; cases eq10; replace hxq10_0 := (HB.out.cell (World.block_lt_of_cell? w _ hxq10_0)).trans hxq10_0; replace pq10 := eq_true pq10; replace qq10 := eq_true qq10; refine cT (n := 12) (S := fun w' => w'.cell? (adq10.add (x4_1).toNat) = some (.int .i64 (rd l0 x4_1))) (ds := []) _ (by kernel_rfl) rfl rfl (((HB.out.cell (World.block_lt_of_cell? w _ hwq10_0)).trans hwq10_0)) (fun hHeld => ?_); refine cb ae.tab10 ae.bits10 (fun HT_ HW_ => ?_); generalize w48.drew = w49 at HO_3 HOqy HRqw HB HOqz hxq10_0 hHeld ⊢
   refine pA 0 (some 51) HT_ ?_; refine pA 1 (some 52) HT_ ?_; refine pA 2 (some 53) HT_ ?_; refine pA 3 (some 54) HT_ ?_; refine pA 4 (some 55) HT_ ?_; refine pA 5 (some 56) HT_ ?_; refine pA 9 (some 60) HT_ ?_; refine tA1 6 (some 57) HT_ HW_ hHeld ?_; refine onA (i := 7) (N := some 58) HT_ (h := fun K hK => ?_); refine iV (w1 := ?_) (v := ?_) (by rfl) rfl ?_ ?_
   rotate_left 2
   ·go_simp
    constructor
    ·rfl
    ·rfl
   refine hK.out _ _ ((World.cell?_alloc_lt _ _ _ (World.block_lt_of_cell? _ _ (((HB.out.cell (World.block_lt_of_cell? w _ hwq10_0)).trans hwq10_0)))).trans (((HB.out.cell (World.block_lt_of_cell? w _ hwq10_0)).trans hwq10_0))) (fun hHeld => ?_); clear hK K; refine noN (some 58) (h := ?_); refine onA (i := 8) (N := some 59) HT_ (h := fun K hK => ?_); refine Kd.C1 (Kd.int .i64) (w0 := w) w.heap.size (by rfl) (.tmp 53) (.tmp 58) 24 3 (.int .i64 0) 8 rfl underlying24 bP rfl (by decide) (by omega) (.slice Ao43 yq8.length co43) yq8 (rd l0 x4_1) [.int .i64 (rd l0 x4_1)] (fun k_ => some k_ ≠ (vqx : Value).ownBlock) (fun _ => False) rfl rfl ?aP (fun _ hk => hk.elim) ?aF ?aO ?aB ?aS ?aL ?_; (case aP => exact rfl); (case aB => exact (af HB)); (case aF => exact (fun k_ hk => Kd.t6 (Kd.s5 (aa HOqy)) k_ hk)); (case aO => exact (by refine pRx ?_; exact Kd.o8 HOqz.out (fun _ hk => hk.2))); (case aS => exact (ab (af HB))); (case aL => have := LMc40.out; omega); intro vq11 w51 ho hb hg hat; rw [← Nyq9.out] at ho; replace HOqy := aQ (Kd.s4 (ok := (fun _ => True)) (by refine pRx ?_; exact Kd.o8 HOqy.out (fun _ hk => ⟨trivial, by first | exact hk | exact fun h_ => hk (h_.trans (ft _ _ _ _))⟩)) hg hat); replace HB := aQ (hb); have HOq12 := aQ (ho); clear HOqz; clear ho hb hg hat; obtain ⟨Ao53, co53, eo53⟩ := Kd.p8 HOqy.out; (first | subst eo53 | (injection eo53 with f1_ f2_ f3_; have f4_ := f1_.symm; have f5_ := f3_.symm; clear f1_ f2_ f3_; subst f4_; subst f5_))
   refine hK.out _ _ (((HB.out.cell (World.block_lt_of_cell? w _ hwq10_0)).trans hwq10_0)) (fun hHeld => ?_); clear hK K; refine noN (some 59) (h := ?_); refine onA (i := 10) (N := some 61) HT_ (h := fun K hK => ?_); refine Kd.B2 (Kd.int .i64) (w0 := w) w.heap.size (by rfl) (.tmp 59) (.tmp 60) 24 3 (.int .i64 0) 8 rfl underlying24 bP rfl (by decide) (by omega) vq11 yq9 yq7 _ _ _ (fun k_ => some k_ ≠ (.slice Ao53 yq7.length co53 : Value).ownBlock) (fun _ => False) rfl rfl ?aO ?aR (fun _ _ h => h) (fun _ h => h.elim) ?aF ?aB ?aS ?aL ?_; (case aR => exact pC ((Kd.o1 HOqy.out).2.2)); (case aB => exact (af HB)); (case aF => exact (fun k_ hk => Kd.t6 (Kd.s5 (aa HOqy)) k_ hk)); (case aO => exact (aa HOq12)); (case aS => exact (ab (af HB))); (case aL => have := LMc41.out; omega); intro vq13 w52 ho hb hg hat; rw [← Nyqt.out] at ho; replace HOqy := aQ (Kd.s4 (ok := (fun _ => True)) (aa HOqy) hg hat); replace HB := aQ (hb); have HOq14 := aQ (ho); clear HOq12; clear ho hb hg hat; refine hK.out _ _ (((HB.out.cell (World.block_lt_of_cell? w _ hwq10_0)).trans hwq10_0)) (fun hHeld => ?_); clear hK K; refine noN (some 61) (h := ?_); refine pA 11 (some 3) HT_ ?_; refine dj (cH HT_.out (by kernel_rfl)) ?_; try go_wp2
   go_roundg k2
   case measure => have := HK1.out; have := HK2.out; omega
   case rel => exact ⟨(yqt), (wrap64 (x4_1 + 1)), rs_, H', ⟨by have := HK1.out; have := HK2.out; omega⟩, ⟨by refine pRx ?_; exact Kd.o8 HOq14.out (fun _ hk => trivial)⟩, ⟨af HB⟩⟩
 ·obtain rfl := oj H; go_wp2
  go_ret
  exact ⟨_, re_, by refine pRx ?_; exact HO_3.out, af HB⟩
end Go.Proofs.YtimkekeaeojpkaaGreat.A
namespace Go.Proofs.YtimkekeaeojpkaaGreat.A
open Go.RowKit Go.Proofs.YtimkekeaeojpkaaGreatW.PrintWords Go.Proofs.YtimkekeaeojpkaaGreatW.PrintLast Go.Proofs.YtimkekeaeojpkaaGreatW.PrintMore Tryz
attribute [local go_sem] cK cM dc da cv cw cI cJ
set_option linter.unusedVariables false
set_option linter.unusedSimpArgs false
def aD.l0 : Nat → Int → Int → Option (Int)
 | 0, _, _ => none
 | k + 1, x0, x3 => if x0 > 0 then (aD.l0 k (x0 / 2) (wrap64 (x3 + (Go.bits .and .i64 x0 1)))) else (some x3)
def aD.f (k : Nat) (a0 : Int) : Option (Int) := (a7.f 8 a0).bind fun tq0 => (if tq0 = true then (aD.l0 k a0 0) else (some 0))
theorem aD.o0 (k : Nat) (a0 : Int) (r : Int) (w : World) (h : aD.f k a0 = some r) :
  CD Tryz.prog 22 #[.int .i64 a0] w (.int .i64 r) := by
 have H := h; clear h; unfold aD.f at H; (try dsimp only at H); replace H := bo H; obtain ⟨tq0, A2, H⟩ := H; replace H := ckB H; obtain ⟨rfl, H⟩ | ⟨rfl, H⟩ := H
 ·have H' := aQ H; clear H; go_enter func22, ntmps22; go_wp2_with (first | (refine gt 112 ?_; refine gcD (some 5) func112 (a7.o0 8 a0 true _ A2.out) ?_; intro nd))
  go_loopg [0, 3] k (fun kq v0 v3 w' => ∃ (x0_1 : Int) (x3_1 : Int), v0 = .int .i64 x0_1 ∧ v3 = .int .i64 x3_1 ∧ Aside0 (aD.l0 kq x0_1 x3_1 = some r) ∧ Aside0 (kq ≤ k) ∧ Drawn0 w w')
  case atStart => exact ⟨(a0), (0), rs_, rs_, H', ⟨Nat.le_refl _⟩, rd_⟩
  clear H'; try clear c3
  obtain ⟨x0_1, x3_1, rfl, rfl, HA, HK1, ⟨m1, rfl⟩⟩ := hrel; rcases gk with _ | k1
  ·exact absurd HA.out (by simp [aD.l0])
  have H := HA.out; clear HA; simp only [aD.l0] at H; replace H := ckD H; obtain ⟨c4b0, H⟩ | ⟨c4b0, H⟩ := H
  ·have H' := aQ H; clear H; go_wp2
   go_roundg k1
   case measure => exact omeg HK1
   case rel => exact ⟨(x0_1 / 2), (wrap64 (x3_1 + (Go.bits .and .i64 x0_1 1))), rs_, rs_, H', ⟨omeg HK1⟩, rd_⟩
  ·obtain rfl := oj H; go_wp2
   go_ret
   exact ⟨rs_, rd_⟩
 ·obtain rfl := oj H; go_enter func22, ntmps22; go_wp2_with (first | (refine gt 112 ?_; refine gcD (some 5) func112 (a7.o0 8 a0 false _ A2.out) ?_; intro nd))
  go_ret
  exact ⟨rs_, rd_⟩
def bD.f (a0 : Int) : Option (Int) := (bA.f a0 0 8).bind fun tq0 => (if tq0 = true then (if 0 ≤ (IntKind.u64.wrap (a0)) then (some (wrap64 ((shl .i64 1 (IntKind.u64.wrap (a0))) - 1))) else (none)) else (some 0))
theorem bD.o0 (a0 : Int) (r : Int) (w : World) (h : bD.f a0 = some r) :
  CD Tryz.prog 104 #[.int .i64 a0] w (.int .i64 r) := by
 have H := h; clear h; unfold bD.f at H; (try dsimp only at H); replace H := bo H; obtain ⟨tq0, A2, H⟩ := H; replace H := ckB H; obtain ⟨rfl, H⟩ | ⟨rfl, H⟩ := H
 ·obtain ⟨ji4, hji4⟩ : ∃ j_ : Int, (IntKind.u64.wrap (a0)) = j_ := ⟨_, rfl⟩; (first | rw [hji4] at H | simp only [hji4] at H); (try rw [hji4] at A2); replace H := gdB H; obtain ⟨c5b0, c5b1, H⟩ := H; obtain ⟨ji6, hji6⟩ : ∃ j_ : Int, (shl .i64 1 (ji4)) = j_ := ⟨_, rfl⟩; (first | rw [hji6] at H | simp only [hji6] at H); (try rw [hji6] at A2); have hji6_ : (IntKind.i64.wrap (1 * 2 ^ min (ji4).toNat 64)) = ji6 := hji6; have hji6z : (ji4) ≤ 64 → (IntKind.i64.wrap (1 * 2 ^ (ji4).toNat)) = ji6 := dr hji6; have hji6u : (IntKind.i64.wrap (2 ^ min (ji4).toNat 64)) = ji6 := by have h_ := hji6_; rw [Int.one_mul] at h_; exact h_
  have hji6v : (ji4) ≤ 64 → (IntKind.i64.wrap (2 ^ (ji4).toNat)) = ji6 := fun hle_ => by have h_ := hji6z hle_; rw [Int.one_mul] at h_; exact h_
  have hji6y : (wrap64 (1 * 2 ^ min (ji4).toNat 64)) = ji6 := (i64_w _).symm.trans hji6_; have hji6x : (ji4) ≤ 64 → (wrap64 (1 * 2 ^ (ji4).toNat)) = ji6 := fun h_ => (i64_w _).symm.trans (hji6z h_)
  obtain rfl := oj H; go_enter func104, ntmps104; go_wp2_with (first | (refine gt 116 ?_; refine gcD (some 4) func116 (bA.o0 a0 0 8 true _ A2.out) ?_; intro nd))
  go_ret
  exact ⟨by first | rfl | (simp; done) | (simp only [← hji4, ← hji6] <;> (first | rfl | simp)) | (simp [*]; done), rd_⟩
 ·obtain rfl := oj H; go_enter func104, ntmps104; go_wp2_with (first | (refine gt 116 ?_; refine gcD (some 4) func116 (bA.o0 a0 0 8 false _ A2.out) ?_; intro nd))
  go_ret
  exact ⟨rs_, rd_⟩
mutual
def ah.l0 : Nat → Int → Int → Int → Int → List Int → Int → Int → Option (Int)
 | 0, _, _, _, _, _, _, _ => none
 | k + 1, x0, x1, x2, x4, x11, x12, x13 => if x13 < x2 then ((bq.f x4 x13).bind fun tq0 => (if tq0 = true then (ah.l1 k x0 x1 x2 x4 x11 x12 x13 x12) else (ah.l0 k x0 x1 x2 x4 x11 x12 (wrap64 (x13 + 1))))) else (some x12)
def ah.j2 : Nat → Int → Int → Int → Int → List Int → Int → Int → Int → Option (Int)
 | 0, _, _, _, _, _, _, _, _ => none
 | k + 1, x0, x1, x2, x4, x11, x12, x13, x14 => if x14 ≥ x1 then (ah.l0 k x0 x1 x2 x4 x11 x12 (wrap64 (x13 + 1))) else (ah.l2 k x0 x1 x2 x4 x11 x12 x13 x14 0)
def ah.l2 : Nat → Int → Int → Int → Int → List Int → Int → Int → Int → Int → Option (Int)
 | 0, _, _, _, _, _, _, _, _, _ => none
 | k + 1, x0, x1, x2, x4, x11, x12, x13, x14, x15 => if x15 < x2 then (if 0 ≤ (wrap64 ((wrap64 (x14 * x2)) + x15)) then (if (wrap64 ((wrap64 (x14 * x2)) + x15)) < (x11.length : Int) then (if 0 ≤ (wrap64 ((wrap64 (x12 * x2)) + x15)) then (if (wrap64 ((wrap64 (x12 * x2)) + x15)) < (x11.length : Int) then (ah.l2 k x0 x1 x2 x4 ((x11.set ((wrap64 ((wrap64 (x14 * x2)) + x15)) : Int).toNat (rd x11 (wrap64 ((wrap64 (x12 * x2)) + x15)))).set ((wrap64 ((wrap64 (x12 * x2)) + x15)) : Int).toNat (rd x11 (wrap64 ((wrap64 (x14 * x2)) + x15)))) x12 x13 x14 (wrap64 (x15 + 1))) else (none)) else (none)) else (none)) else (none)) else (ah.l3 k x0 x1 x2 x4 x11 x12 x13 (wrap64 (x12 + 1)))
def ah.l3 : Nat → Int → Int → Int → Int → List Int → Int → Int → Int → Option (Int)
 | 0, _, _, _, _, _, _, _, _ => none
 | k + 1, x0, x1, x2, x4, x11, x12, x13, x17 => if x17 < x1 then (if 0 ≤ (wrap64 ((wrap64 (x17 * x2)) + x13)) then (if (wrap64 ((wrap64 (x17 * x2)) + x13)) < (x11.length : Int) then (if 0 ≤ (wrap64 ((wrap64 (x12 * x2)) + x13)) then (if (wrap64 ((wrap64 (x12 * x2)) + x13)) < (x11.length : Int) then (ah.l4 k x0 x1 x2 x4 x11 x12 x13 x17 (rd x11 (wrap64 ((wrap64 (x17 * x2)) + x13))) (rd x11 (wrap64 ((wrap64 (x12 * x2)) + x13))) 0) else (none)) else (none)) else (none)) else (none)) else (ah.l0 k x0 x1 x2 x4 x11 (wrap64 (x12 + 1)) (wrap64 (x13 + 1)))
def ah.l4 : Nat → Int → Int → Int → Int → List Int → Int → Int → Int → Int → Int → Int → Option (Int)
 | 0, _, _, _, _, _, _, _, _, _, _, _ => none
 | k + 1, x0, x1, x2, x4, x11, x12, x13, x17, x18, x19, x20 => if x20 < x2 then (if 0 ≤ (wrap64 ((wrap64 (x17 * x2)) + x20)) then (if (wrap64 ((wrap64 (x17 * x2)) + x20)) < (x11.length : Int) then (if 0 ≤ (wrap64 ((wrap64 (x12 * x2)) + x20)) then (if (wrap64 ((wrap64 (x12 * x2)) + x20)) < (x11.length : Int) then (if x0 = 0 then (none) else (ah.l4 k x0 x1 x2 x4 (x11.set ((wrap64 ((wrap64 (x17 * x2)) + x20)) : Int).toNat (Int.tmod (wrap64 ((Int.tmod (wrap64 ((wrap64 ((rd x11 (wrap64 ((wrap64 (x17 * x2)) + x20))) * x19)) - (wrap64 ((rd x11 (wrap64 ((wrap64 (x12 * x2)) + x20))) * x18)))) x0) + x0)) x0)) x12 x13 x17 x18 x19 (wrap64 (x20 + 1)))) else (none)) else (none)) else (none)) else (none)) else (ah.l3 k x0 x1 x2 x4 x11 x12 x13 (wrap64 (x17 + 1)))
def ah.l1 : Nat → Int → Int → Int → Int → List Int → Int → Int → Int → Option (Int)
 | 0, _, _, _, _, _, _, _, _ => none
 | k + 1, x0, x1, x2, x4, x11, x12, x13, x14 => if x14 < x1 then (if 0 ≤ (wrap64 ((wrap64 (x14 * x2)) + x13)) then (if (wrap64 ((wrap64 (x14 * x2)) + x13)) < (x11.length : Int) then (if (rd x11 (wrap64 ((wrap64 (x14 * x2)) + x13))) = 0 then (ah.l1 k x0 x1 x2 x4 x11 x12 x13 (wrap64 (x14 + 1))) else (ah.j2 k x0 x1 x2 x4 x11 x12 x13 x14)) else (none)) else (none)) else (ah.j2 k x0 x1 x2 x4 x11 x12 x13 x14)
end
def ah.f (k : Nat) (a0 : Int) (a1 : Int) (a2 : Int) (l3 : List Int) (a4 : Int) : Option (Int) := (some (([] : List Int) : List Int)).bind fun yq1 => (if yq1.length + l3.length < 17592186044416 then (ah.l0 k a0 a1 a2 a4 (yq1 ++ l3) 0 0) else (none))
def ah.T25 : Bool × List (List Nat × List Nat) := (true, [([], []), ([], []), ([], []), ([1, 2], [1, 2]), ([], []), ([3, 4], [3, 4]), ([], []), ([], []), ([], []), ([7, 8], [7, 8]), ([], []), ([9, 10], [9, 10]), ([6, 11], [6, 11]), ([12], [12]), ([], []), ([13, 14], [13, 14]), ([], []), ([], []), ([], []), ([17, 18], [17, 18]), ([], []), ([19, 20], [19, 20]), ([16, 21], [16, 21]), ([22], [22]), ([], []), ([23, 24], [23, 24]), ([15, 25], [15, 25]), ([], []), ([26, 27], [26, 27]), ([], []), ([28, 29], [28, 29]), ([], []), ([30, 31], [30, 31]), ([0, 5, 0, 1, 2, 3, 4, 5, 6, 7, 8, 9, 10, 11, 12, 13, 14, 15, 16, 17, 18, 19, 20, 21, 22, 23, 24, 25, 26, 27, 28, 29, 30, 31, 32], [0, 5]), ([33, 32, 0, 1, 2, 3, 4, 5, 6, 7, 8, 9, 10, 11, 12, 13, 14, 15, 16, 17, 18, 19, 20, 21, 22, 23, 24, 25, 26, 27, 28, 29, 30, 31, 32], [32, 33])])
def ah.B25 : List Nat := [0, 0, 0, 6, 0, 30, 0, 0, 0, 384, 0, 1920, 4032, 8128, 0, 32704, 0, 0, 0, 393216, 0, 1966080, 4128768, 8323072, 0, 33488896, 67108800, 0, 268435392, 0, 1073741760, 0, 4294967232, 8589934591, 17179869183]
theorem ah.tab25 : rtab .any (ei Tryz.f275 25) = ah.T25 := by kernel_rfl
theorem ah.bits25 : cY ah.T25.2 ah.B25 = true := by kernel_rfl
theorem ah.o0 (k : Nat) (a0 : Int) (a1 : Int) (a2 : Int) (A3 : Option Addr) (c3 : Nat) (l3 : List Int) (a4 : Int) (r : Int) (w : World) (hr3 : Kd.C (Kd.int .i64) w A3 l3.length l3) (hc3 : l3.length ≤ c3) (h : ah.f k a0 a1 a2 l3 a4 = some r) :
  CB Tryz.prog 275 #[.int .i64 a0, .int .i64 a1, .int .i64 a2, .slice A3 l3.length c3, .int .i64 a4] w (.int .i64 r) := by
 have HR3 := aQ hr3; have HC3 := aQ hc3; clear hr3 hc3; have HB := aQ (Below.refl w.heap.size w); have H := h; clear h; unfold ah.f at H; (try dsimp only at H); replace H := yz H; obtain ⟨yq1, Nyq1, H⟩ := H; (try dsimp only at H); replace H := gdA H; obtain ⟨LMc6, H⟩ := H; obtain ⟨yq2, hyq2⟩ : ∃ y_ : List Int, y_ = (yq1 ++ l3) := ⟨_, rfl⟩; replace H : (ah.l0 k a0 a1 a2 a4 yq2 0 0) = some r := by first | (rw [hyq2]; with_reducible exact H) | (rw [hyq2]; exact H)
 have Nyq2 := aQ hyq2; clear hyq2; have H' := aQ H; clear H; go_enter func275, ntmps275; go_wp2_with (first | (refine lI (d := Kd.int .i64) 21 Nyq1 ?_; intro vq3 w7 ho8 hb; have HOq4 := aQ (Kd.p5 ho8 (ab (af HB))); replace HB := bs HB hb; clear hb ho8) | ((with_reducible refine gate_builtin (b := .append) (xs := #[.tmp 21, .tmp 22]) rfl ?_); at_builtin; refine Kd.t5 (Kd.int .i64) (w0 := w) w.heap.size rfl (.tmp 21) (.tmp 22) 24 3 (.int .i64 0) 8 rfl underlying24 bP rfl (by decide) (by omega) vq3 yq1 l3 _ _ _ (fun _ => True) (fun _ => False) rfl rfl ?aO ?aR (fun _ _ h => h) (fun _ h => h.elim) ?aF ?aB ?aS ?aL ?_; (case aR => exact pC (Cbel HR3 HB)); (case aB => exact (af HB)); (case aF => exact (fun _ _ => trivial)); (case aO => exact (aa HOq4)); (case aS => exact (ab (af HB))); (case aL => have := LMc6.out; omega); intro vq5 w9 ho hb hg hat; rw [← Nyq2.out] at ho; replace HB := aQ (hb); have HOq6 := aQ (ho); clear HOq4; clear ho hb hg hat))
 go_loopg [12, 13] k (fun kq v12 v13 w' => ∃ (x11_1 : List Int) (x12_1 : Int) (x13_1 : Int), v12 = .int .i64 x12_1 ∧ v13 = .int .i64 x13_1 ∧ Aside0 (ah.l0 kq a0 a1 a2 a4 x11_1 x12_1 x13_1 = some r) ∧ Aside0 (kq ≤ k) ∧ Aside0 (Kd.R (Kd.int .i64) 3 w' w.heap.size (fun _ => True) vq5 x11_1) ∧ Aside0 (Below w.heap.size w w'))
 case atStart => exact ⟨(yq2), (0), (0), rs_, rs_, H', ⟨Nat.le_refl _⟩, ⟨aa HOq6⟩, ⟨af HB⟩⟩
 clear H'; try clear c3
 try clear c6
 obtain ⟨x11_1, x12_1, x13_1, rfl, rfl, HA, HK1, HO_11, HB⟩ := hrel; rcases gk with _ | k1
 ·exact absurd HA.out (by simp [ah.l0])
 have H := HA.out; clear HA; simp only [ah.l0] at H; replace H := ckD H; obtain ⟨c10b0, H⟩ | ⟨c10b0, H⟩ := H
 ·replace H := bo H; obtain ⟨tq0, A11, H⟩ := H; replace H := ckB H; obtain ⟨rfl, H⟩ | ⟨rfl, H⟩ := H
  ·have HC13 := aQ H; clear H; go_upto_block 2 with (first | (refine gt 124 ?_; refine gcD (some 31) func124 (bq.o0 a4 x13_1 true _ A11.out) ?_; intro nd))
   (try simp only [Act.put, List.setIfInBounds_toArray, List.set_cons_zero, List.set_cons_succ]); go_cut [14] (fun v14 wc => ∃ (kq : Nat) (x14_12 : Int), v14 = .int .i64 x14_12 ∧ Aside0 (ah.j2 kq a0 a1 a2 a4 x11_1 x12_1 x13_1 x14_12 = some r) ∧ Aside0 (kq ≤ k1) ∧ Aside0 (Kd.R (Kd.int .i64) 3 wc w.heap.size (fun _ => True) vq5 x11_1) ∧ Aside0 (Below w.heap.size w wc))
   case first =>
    have H := HC13.out; clear HC13; have H' := aQ H; clear H; go_wp2
    go_loopg [14] k1 (fun kq v14 w' => ∃ (x14_2 : Int), v14 = .int .i64 x14_2 ∧ Aside0 (ah.l1 kq a0 a1 a2 a4 x11_1 x12_1 x13_1 x14_2 = some r) ∧ Aside0 (kq ≤ k1) ∧ Aside0 (Kd.R (Kd.int .i64) 3 w' w.heap.size (fun _ => True) vq5 x11_1) ∧ Aside0 (Below w.heap.size w w'))
    case atStart => exact ⟨(x12_1), rs_, H', ⟨Nat.le_refl _⟩, ⟨aa HO_11⟩, ⟨af HB⟩⟩
    clear H'; try clear c3
    try clear c6
    try clear c10
    try clear c10b0
    try clear c12
    obtain ⟨x14_2, rfl, HA, HK2, HO_11, HB⟩ := hrel; rcases gk with _ | k2
    ·exact absurd HA.out (by simp [ah.l1])
    have H := HA.out; clear HA; simp only [ah.l1] at H; replace H := ckD H; obtain ⟨c14b0, H⟩ | ⟨c14b0, H⟩ := H
    ·(first | rw [c14b0] | (simp only [i64_w, dm]; rw [c14b0]) | skip); obtain ⟨ji15, hji15⟩ : ∃ j_ : Int, (wrap64 ((wrap64 (x14_2 * a2)) + x13_1)) = j_ := ⟨_, rfl⟩
     (first | rw [hji15] at H | simp only [hji15] at H); have hji15w : (IntKind.i64.wrap ((wrap64 (x14_2 * a2)) + x13_1)) = ji15 := (i64_w _).trans hji15
     replace H := gdD H; obtain ⟨c16b0, H⟩ := H; replace H := gdD H; obtain ⟨c17b0, H⟩ := H; replace H := ckE H; obtain ⟨c18b0, c18b1, H⟩ | ⟨c18, c18b0, c18b1, H⟩ := H
     ·have H' := aQ H; clear H; obtain ⟨Ao19, co19, eo19⟩ := Kd.p8 HO_11.out; subst eo19; have pq7 : 0 ≤ ((ji15) : Int) := of_decide_eq_true as_; have qq7 : (ji15) < (x11_1.length : Int) := of_decide_eq_true as_; obtain ⟨adq7, eq7, hxq7_0⟩ := Kd.r9 (Kd.o1 HO_11.out).2.2 (ji15) pq7 qq7; cases eq7; replace pq7 := eq_true pq7; replace qq7 := eq_true qq7; go_wp2
      go_roundg k2
      case measure => have := HK1.out; have := HK2.out; omega
      case rel => exact ⟨(wrap64 (x14_2 + 1)), rs_, H', ⟨by have := HK1.out; have := HK2.out; omega⟩, ⟨aa HO_11⟩, ⟨af HB⟩⟩
     ·have H' := aQ H; clear H; obtain ⟨Ao20, co20, eo20⟩ := Kd.p8 HO_11.out; subst eo20; have pq7 : 0 ≤ ((ji15) : Int) := of_decide_eq_true as_; have qq7 : (ji15) < (x11_1.length : Int) := of_decide_eq_true as_; obtain ⟨adq7, eq7, hxq7_0⟩ := Kd.r9 (Kd.o1 HO_11.out).2.2 (ji15) pq7 qq7; cases eq7; replace pq7 := eq_true pq7; replace qq7 := eq_true qq7; go_wp2
      go_meet
      case rel => exact ⟨_, (x14_2), rs_, H', ⟨by have := HK1.out; have := HK2.out; first | omega | exact Nat.le_refl _⟩, ⟨aa HO_11⟩, ⟨af HB⟩⟩
    ·(first | rw [c14b0] | (simp only [i64_w, dm]; rw [c14b0]) | skip); have H' := aQ H
     clear H; go_wp2
     go_meet
     case rel => exact ⟨_, (x14_2), rs_, H', ⟨by have := HK1.out; have := HK2.out; first | omega | exact Nat.le_refl _⟩, ⟨aa HO_11⟩, ⟨af HB⟩⟩
   case rest =>
    clear HC13; try clear c3
    try clear c6
    try clear c10
    try clear c10b0
    try clear c12
    obtain ⟨kq, x14_12, rfl, HA, HJ12, HO_11, HB⟩ := hcut; cases kq with
    | zero => exact absurd HA.out (by simp [ah.j2])
    | succ kj12 =>
     have H := HA.out; clear HA; simp only [ah.j2] at H; replace H := ckD H; obtain ⟨c21b0, H⟩ | ⟨c21b0, H⟩ := H
     ·have H' := aQ H; clear H; go_wp2
      go_roundg kj12
      case measure => have := HK1.out; have := HJ12.out; omega
      case rel => exact ⟨(x11_1), (x12_1), (wrap64 (x13_1 + 1)), rs_, rs_, H', ⟨by have := HK1.out; have := HJ12.out; omega⟩, ⟨aa HO_11⟩, ⟨af HB⟩⟩
     ·have H' := aQ H; clear H; go_wp2
      go_loopg [15] kj12 (fun kq v15 w' => ∃ (x11_3 : List Int) (x15_3 : Int), v15 = .int .i64 x15_3 ∧ Aside0 (ah.l2 kq a0 a1 a2 a4 x11_3 x12_1 x13_1 x14_12 x15_3 = some r) ∧ Aside0 (kq ≤ kj12) ∧ Aside0 (Kd.R (Kd.int .i64) 3 w' w.heap.size (fun _ => True) vq5 x11_3) ∧ Aside0 (Below w.heap.size w w'))
      case atStart => exact ⟨(x11_1), (0), rs_, H', ⟨Nat.le_refl _⟩, ⟨aa HO_11⟩, ⟨af HB⟩⟩
      clear H'; try clear c3
      try clear c6
      try clear c10
      try clear c10b0
      try clear c12
      try clear c21
      try clear c21b0
      obtain ⟨x11_3, x15_3, rfl, HA, HK3, HO_11, HB⟩ := hrel; rcases gk with _ | k3
      ·exact absurd HA.out (by simp [ah.l2])
      have H := HA.out; clear HA; simp only [ah.l2] at H; replace H := ckD H; obtain ⟨c22b0, H⟩ | ⟨c22b0, H⟩ := H
      ·obtain ⟨ji23, hji23⟩ : ∃ j_ : Int, (wrap64 ((wrap64 (x14_12 * a2)) + x15_3)) = j_ := ⟨_, rfl⟩; (first | rw [hji23] at H | simp only [hji23] at H); have hji23w : (IntKind.i64.wrap ((wrap64 (x14_12 * a2)) + x15_3)) = ji23 := (i64_w _).trans hji23; replace H := gdD H; obtain ⟨c24b0, H⟩ := H; replace H := gdD H; obtain ⟨c25b0, H⟩ := H; obtain ⟨ji26, hji26⟩ : ∃ j_ : Int, (wrap64 ((wrap64 (x12_1 * a2)) + x15_3)) = j_ := ⟨_, rfl⟩; (first | rw [hji26] at H | simp only [hji26] at H); have hji26w : (IntKind.i64.wrap ((wrap64 (x12_1 * a2)) + x15_3)) = ji26 := (i64_w _).trans hji26; replace H := gdD H; obtain ⟨c27b0, H⟩ := H; replace H := gdD H; obtain ⟨c28b0, H⟩ := H; obtain ⟨yq8, hyq8⟩ : ∃ y_ : List Int, y_ = (x11_3.set ((ji23) : Int).toNat (rd x11_3 (ji26))) := ⟨_, rfl⟩; replace H : (ah.l2 k3 a0 a1 a2 a4 (yq8.set ((ji26) : Int).toNat (rd x11_3 (ji23))) x12_1 x13_1 x14_12 (wrap64 (x15_3 + 1))) = some r := by first | (rw [hyq8]; with_reducible exact H) | (rw [hyq8]; exact H)
       have Nyq8 := aQ hyq8; clear hyq8; obtain ⟨yq9, hyq9⟩ : ∃ y_ : List Int, y_ = (yq8.set ((ji26) : Int).toNat (rd x11_3 (ji23))) := ⟨_, rfl⟩; replace H : (ah.l2 k3 a0 a1 a2 a4 yq9 x12_1 x13_1 x14_12 (wrap64 (x15_3 + 1))) = some r := by first | (rw [hyq9]; with_reducible exact H) | (rw [hyq9]; exact H)
       have Nyq9 := aQ hyq9; clear hyq9; have H' := aQ H; clear H; obtain ⟨Ao31, co31, eo31⟩ := Kd.p8 HO_11.out; subst eo31; have pqa : 0 ≤ ((ji23) : Int) := of_decide_eq_true as_; have qqa : (ji23) < (x11_3.length : Int) := of_decide_eq_true as_; obtain ⟨adqa, eqa, hxqa_0⟩ := Kd.r9 (Kd.o1 HO_11.out).2.2 (ji23) pqa qqa; cases eqa; replace pqa := eq_true pqa; replace qqa := eq_true qqa; obtain ⟨adqb, eqb, hxqb_0, pqb, qqb⟩ := aI (Kd.o1 HO_11.out).2.2 (ji26); obtain rfl : adqa = adqb := (by injection eqb); have p29 : 0 ≤ ((ji23) : Int) := of_decide_eq_true as_; have q29 : ((ji23) : Int) < ((x11_3.length : Int) : Int) := of_decide_eq_true as_; obtain ⟨go29, co29, eo29, gb29, gl29, cl29, HG29⟩ := Kd.F3 HO_11.out (by omega); (first | cases eo29 | (injection eo29 with ea_ en_ ec_; (first | subst ea_ | (injection ea_ with ea_; subst ea_)); subst ec_; clear en_)); have GB29 := aQ gb29; have GG29 := aQ HG29; clear gb29 gl29 HG29; (first | simp only [dP] at hxqa_0 | skip); (first | simp only [dP] at hxqb_0 | skip); obtain ⟨hx29_0, hf29_0⟩ := Kd.E0 0 HO_11.out ((ji23) : Int) p29 q29; replace p29 := eq_true p29; replace q29 := eq_true q29; have HP32 := Kd.F5 HO_11.out ((ji23) : Int) (rd x11_3 (ji26)); go_wp2_with (first | ((with_reducible refine f6 (t := 3) (p := 80) rfl ?_); refine fI (t := 3) (p := 80) (v := ?vo_w33) (w1 := (wr.setCell ⟨go29, ((ji23) : Int).toNat, none⟩ (.int .i64 (rd x11_3 (ji26))))) ?hg ?ho ?hn ?hr ?_; (case ho => rfl); (case hg => rfl); (case hn => rfl); (case hr => first | (go_simp; done) | (go_simp; rfl)); intro w33 hw; have hg : wr.grownBy w33 (some go29) := (by rw [hw]; exact HP32.2); have hp_ : Kd.R (Kd.int .i64) 3 w33 w.heap.size (fun _ => True) (.slice (some ⟨go29, 0, none⟩) x11_3.length co31) yq8 := (by rw [hw, Nyq8.out]; exact HP32.1); clear HP32; replace HO_11 := aQ (hp_); replace HB := aQ ((by rw [hw]; exact cS (HB.out) GB29.out : Below w.heap.size w w33)); clear hg hw hp_; have p30 : 0 ≤ ((ji26) : Int) := of_decide_eq_true as_; have q30 : ((ji26) : Int) < ((x11_3.length : Int) : Int) := of_decide_eq_true as_; obtain ⟨hx30_0, hf30_0⟩ := Kd.E0 0 HO_11.out ((ji26) : Int) p30 q30; replace p30 := eq_true p30; replace q30 := eq_true q30; obtain ⟨hy34_, hz34_⟩ := Kd.E0 0 HO_11.out ((ji26) : Int) (of_decide_eq_true as_) (of_decide_eq_true as_); have HP34 := Kd.F5 HO_11.out ((ji26) : Int) (rd x11_3 (ji23))) | ((with_reducible refine f6 (t := 3) (p := 88) rfl ?_); refine fI (t := 3) (p := 88) (v := ?vo_w35) (w1 := (w33.setCell ⟨go29, ((ji26) : Int).toNat, none⟩ (.int .i64 (rd x11_3 (ji23))))) ?hg ?ho ?hn ?hr ?_; (case ho => rfl); (case hg => rfl); (case hn => rfl); (case hr => first | (go_simp; done) | (go_simp; rfl)); intro w35 hw; have hg : w33.grownBy w35 (some go29) := (by rw [hw]; exact HP34.2); have hp_ : Kd.R (Kd.int .i64) 3 w35 w.heap.size (fun _ => True) (.slice (some ⟨go29, 0, none⟩) x11_3.length co31) yq9 := (by rw [hw, Nyq9.out]; exact HP34.1); clear HP34; replace HO_11 := aQ (hp_); replace HB := aQ ((by rw [hw]; exact cS (HB.out) GB29.out : Below w.heap.size w w35)); clear hg hw hp_))
       go_roundg k3
       case measure => have := HK1.out; have := HJ12.out; have := HK3.out; omega
       case rel => exact ⟨(yq9), (wrap64 (x15_3 + 1)), rs_, H', ⟨by have := HK1.out; have := HJ12.out; have := HK3.out; omega⟩, ⟨aa HO_11⟩, ⟨af HB⟩⟩
      ·have H' := aQ H; clear H; go_wp2
       go_loopg [17] k3 (fun kq v17 w' => ∃ (x11_4 : List Int) (x17_4 : Int), v17 = .int .i64 x17_4 ∧ Aside0 (ah.l3 kq a0 a1 a2 a4 x11_4 x12_1 x13_1 x17_4 = some r) ∧ Aside0 (kq ≤ k3) ∧ Aside0 (Kd.R (Kd.int .i64) 3 w' w.heap.size (fun _ => True) vq5 x11_4) ∧ Aside0 (Below w.heap.size w w'))
       case atStart => exact ⟨(x11_3), (wrap64 (x12_1 + 1)), rs_, H', ⟨Nat.le_refl _⟩, ⟨aa HO_11⟩, ⟨af HB⟩⟩
       clear H'; try clear c3
       try clear c6
       try clear c10
       try clear c10b0
       try clear c12
       try clear c21
       try clear c21b0
       try clear c22
       try clear c22b0
       obtain ⟨x11_4, x17_4, rfl, HA, HK4, HO_11, HB⟩ := hrel; rcases gk with _ | k4
       ·exact absurd HA.out (by simp [ah.l3])
       have H := HA.out; clear HA; simp only [ah.l3] at H; replace H := ckD H; obtain ⟨c36b0, H⟩ | ⟨c36b0, H⟩ := H
       ·obtain ⟨ji37, hji37⟩ : ∃ j_ : Int, (wrap64 ((wrap64 (x17_4 * a2)) + x13_1)) = j_ := ⟨_, rfl⟩; (first | rw [hji37] at H | simp only [hji37] at H); have hji37w : (IntKind.i64.wrap ((wrap64 (x17_4 * a2)) + x13_1)) = ji37 := (i64_w _).trans hji37; replace H := gdD H; obtain ⟨c38b0, H⟩ := H; replace H := gdD H; obtain ⟨c39b0, H⟩ := H; obtain ⟨ji40, hji40⟩ : ∃ j_ : Int, (wrap64 ((wrap64 (x12_1 * a2)) + x13_1)) = j_ := ⟨_, rfl⟩; (first | rw [hji40] at H | simp only [hji40] at H); have hji40w : (IntKind.i64.wrap ((wrap64 (x12_1 * a2)) + x13_1)) = ji40 := (i64_w _).trans hji40; replace H := gdD H; obtain ⟨c41b0, H⟩ := H; replace H := gdD H; obtain ⟨c42b0, H⟩ := H; have H' := aQ H; clear H; obtain ⟨Ao43, co43, eo43⟩ := Kd.p8 HO_11.out; subst eo43; have pqc : 0 ≤ ((ji37) : Int) := of_decide_eq_true as_; have qqc : (ji37) < (x11_4.length : Int) := of_decide_eq_true as_; obtain ⟨adqc, eqc, hxqc_0⟩ := Kd.r9 (Kd.o1 HO_11.out).2.2 (ji37) pqc qqc; cases eqc; replace pqc := eq_true pqc; replace qqc := eq_true qqc; obtain ⟨adqd, eqd, hxqd_0, pqd, qqd⟩ := aI (Kd.o1 HO_11.out).2.2 (ji40); obtain rfl : adqc = adqd := (by injection eqd); obtain ⟨go52, co52, eo52, gb52, gl52, cl52, HG52⟩ := Kd.F3 HO_11.out (by have := of_eq_true pqc; have := of_eq_true qqc; omega); (first | cases eo52 | (injection eo52 with ea_ en_ ec_; (first | subst ea_ | (injection ea_ with ea_; subst ea_)); subst ec_; clear en_)); clear gb52 gl52 HG52; (first | simp only [dP] at hxqc_0 | skip)
        (first | simp only [dP] at hxqd_0 | skip); go_wp2
        go_loopg [20] k4 (fun kq v20 w' => ∃ (x11_5 : List Int) (x20_5 : Int), v20 = .int .i64 x20_5 ∧ Aside0 (ah.l4 kq a0 a1 a2 a4 x11_5 x12_1 x13_1 x17_4 (rd x11_4 (ji37)) (rd x11_4 (ji40)) x20_5 = some r) ∧ Aside0 (kq ≤ k4) ∧ Aside0 (Kd.R (Kd.int .i64) 3 w' w.heap.size (fun _ => True) (.slice (some ⟨go52, 0, none⟩) x11_4.length co43) x11_5) ∧ Aside0 (Below w.heap.size w w'))
        case atStart => exact ⟨(x11_4), (0), rs_, H', ⟨Nat.le_refl _⟩, ⟨aa HO_11⟩, ⟨af HB⟩⟩
        clear H'; try clear c3
        try clear c6
        try clear c10
        try clear c10b0
        try clear c12
        try clear c21
        try clear c21b0
        try clear c22
        try clear c22b0
        try clear c36
        try clear c36b0
        try clear c38
        try clear c38b0
        try clear c39
        try clear c39b0
        try clear c41
        try clear c41b0
        try clear c42
        try clear c42b0
        try clear hxqc_0
        try clear hxqd_0
        try clear pqc
        try clear pqd
        try clear qqc
        try clear qqd
        obtain ⟨x11_5, x20_5, rfl, HA, HK5, HO_11, HB⟩ := hrel; have hl11_5 := (Kd.o1 HO_11.out).1; rw [hl11_5] at HO_11; (try simp only [hl11_5]); rcases gk with _ | k5
        ·exact absurd HA.out (by simp [ah.l4])
        have H := HA.out; clear HA; simp only [ah.l4] at H; replace H := ckD H; obtain ⟨c44b0, H⟩ | ⟨c44b0, H⟩ := H
        ·obtain ⟨ji45, hji45⟩ : ∃ j_ : Int, (wrap64 ((wrap64 (x17_4 * a2)) + x20_5)) = j_ := ⟨_, rfl⟩; (first | rw [hji45] at H | simp only [hji45] at H); have hji45w : (IntKind.i64.wrap ((wrap64 (x17_4 * a2)) + x20_5)) = ji45 := (i64_w _).trans hji45; replace H := gdD H; obtain ⟨c46b0, H⟩ := H; replace H := gdD H; obtain ⟨c47b0, H⟩ := H; obtain ⟨ji48, hji48⟩ : ∃ j_ : Int, (wrap64 ((wrap64 (x12_1 * a2)) + x20_5)) = j_ := ⟨_, rfl⟩; (first | rw [hji48] at H | simp only [hji48] at H); have hji48w : (IntKind.i64.wrap ((wrap64 (x12_1 * a2)) + x20_5)) = ji48 := (i64_w _).trans hji48; replace H := gdD H; obtain ⟨c49b0, H⟩ := H; replace H := gdD H; obtain ⟨c50b0, H⟩ := H; by_cases c51 : a0 = 0
         ·rw [if_pos c51] at H; exact absurd H (by simp)
         ·rw [if_neg c51] at H; obtain ⟨c51b0, c51b1⟩ := eqF c51; obtain ⟨yqe, hyqe⟩ : ∃ y_ : List Int, y_ = (x11_5.set ((ji45) : Int).toNat (Int.tmod (wrap64 ((Int.tmod (wrap64 ((wrap64 ((rd x11_5 (ji45)) * (rd x11_4 (ji40)))) - (wrap64 ((rd x11_5 (ji48)) * (rd x11_4 (ji37)))))) a0) + a0)) a0)) := ⟨_, rfl⟩; replace H : (ah.l4 k5 a0 a1 a2 a4 yqe x12_1 x13_1 x17_4 (rd x11_4 (ji37)) (rd x11_4 (ji40)) (wrap64 (x20_5 + 1))) = some r := by first | (rw [hyqe]; with_reducible exact H) | (rw [hyqe]; exact H)
          have Nyqe := aQ hyqe; clear hyqe; have H' := aQ H; clear H; try go_wp2
          replace HO_11 := aQ (Kd.t7 HO_11.out); replace HB := aQ (ao HB.out); have pqf : 0 ≤ ((ji45) : Int) := of_decide_eq_true as_; have qqf : (ji45) < (x11_5.length : Int) := of_decide_eq_true as_; obtain ⟨adqf, eqf, hxqf_0⟩ := Kd.r9 (Kd.o1 HO_11.out).2.2 (ji45) pqf qqf; cases eqf; replace pqf := eq_true pqf; replace qqf := eq_true qqf; have pqg : 0 ≤ ((ji48) : Int) := of_decide_eq_true as_; have qqg : (ji48) < (x11_5.length : Int) := of_decide_eq_true as_; obtain ⟨adqg, eqg, hxqg_0⟩ := Kd.r9 (Kd.o1 HO_11.out).2.2 (ji48) pqg qqg; cases eqg; replace pqg := eq_true pqg; replace qqg := eq_true qqg; have p52 : 0 ≤ ((ji45) : Int) := of_decide_eq_true as_; have q52 : ((ji45) : Int) < ((x11_5.length : Int) : Int) := of_decide_eq_true as_; obtain ⟨go52z, co52, eo52, gb52, gl52, cl52, HG52⟩ := Kd.F3 HO_11.out (by omega); obtain rfl : go52 = go52z := (by have h_ := eo52; simp at h_; first | exact h_ | exact h_.1); (first | cases eo52 | (injection eo52 with ea_ en_ ec_; (first | subst ea_ | (injection ea_ with ea_; subst ea_)); subst ec_; clear en_)); have GB52 := aQ gb52; have GG52 := aQ HG52; clear gb52 gl52 HG52; (first | simp only [dP] at hxqc_0 | skip); (first | simp only [dP] at hxqd_0 | skip); (first | simp only [dP] at hxqf_0 | skip); (first | simp only [dP] at hxqg_0 | skip); obtain ⟨hx52_0, hf52_0⟩ := Kd.E0 0 HO_11.out ((ji45) : Int) p52 q52; replace p52 := eq_true p52; replace q52 := eq_true q52; have HP54 := Kd.G2 HO_11.out ((ji45) : Int) (Int.tmod (wrap64 ((Int.tmod (wrap64 ((wrap64 ((rd x11_5 (ji45)) * (rd x11_4 (ji40)))) - (wrap64 ((rd x11_5 (ji48)) * (rd x11_4 (ji37)))))) a0) + a0)) a0)
          rw [← Nyqe.out] at HP54; have HQ54 := aQ HP54; clear HP54; refine cT (n := 35) (S := fun w' => w'.cell? ⟨go52, ((ji45)).toNat, none⟩ = some (.int .i64 (rd x11_5 (ji45))) ∧ w'.cell? ⟨go52, ((ji48)).toNat, none⟩ = some (.int .i64 (rd x11_5 (ji48)))) (ds := [34]) _ (by kernel_rfl) rfl rfl ⟨hxqf_0, hxqg_0⟩ (fun hHeld => ?_); refine cb ah.tab25 ah.bits25 (fun HT_ HW_ => ?_); generalize wr.drew = w53 at HO_11 HB GG52 HQ54 hf52_0 hxqf_0 hxqg_0 hx52_0 hHeld ⊢; refine pJ 0 (some 117) HT_ (ar 1 34) ?_; refine pJ 1 (some 118) HT_ (ar 2 33) ?_; refine pJ 2 (some 119) HT_ (ar 3 32) ?_; refine pJ 3 (some 120) HT_ (ar 4 31) ?_; refine pJ 4 (some 121) HT_ (ar 5 30) ?_; refine pJ 5 (some 122) HT_ (ar 6 29) ?_; refine pJ 6 (some 123) HT_ (ar 7 28) ?_; refine pJ 7 (some 124) HT_ (ar 8 27) ?_; refine pJ 8 (some 125) HT_ (ar 9 26) ?_; refine pJ 9 (some 126) HT_ (ar 10 25) ?_; refine pJ 10 (some 127) HT_ (ar 11 24) ?_; refine pJ 11 (some 128) HT_ (ar 12 23) ?_; refine pJ 12 (some 129) HT_ (ar 13 22) ?_; refine pJ 14 (some 131) HT_ #[true, true, true, true, true, true, true, true, true, true, true, true, true, false, true, false, false, false, false, false, false, false, false, false, false, false, false, false, false, false, false, false, false, false, false] ?_; refine pJ 16 (some 133) HT_ #[true, true, true, true, true, true, true, true, true, true, true, true, true, false, true, false, true, false, false, false, false, false, false, false, false, false, false, false, false, false, false, false, false, false, false] ?_
          refine pJ 17 (some 134) HT_ #[true, true, true, true, true, true, true, true, true, true, true, true, true, false, true, false, true, true, false, false, false, false, false, false, false, false, false, false, false, false, false, false, false, false, false] ?_; refine pJ 18 (some 135) HT_ #[true, true, true, true, true, true, true, true, true, true, true, true, true, false, true, false, true, true, true, false, false, false, false, false, false, false, false, false, false, false, false, false, false, false, false] ?_; refine pJ 19 (some 136) HT_ #[true, true, true, true, true, true, true, true, true, true, true, true, true, false, true, false, true, true, true, true, false, false, false, false, false, false, false, false, false, false, false, false, false, false, false] ?_; refine pJ 20 (some 137) HT_ #[true, true, true, true, true, true, true, true, true, true, true, true, true, false, true, false, true, true, true, true, true, false, false, false, false, false, false, false, false, false, false, false, false, false, false] ?_; refine pJ 21 (some 138) HT_ #[true, true, true, true, true, true, true, true, true, true, true, true, true, false, true, false, true, true, true, true, true, true, false, false, false, false, false, false, false, false, false, false, false, false, false] ?_; refine pJ 22 (some 139) HT_ #[true, true, true, true, true, true, true, true, true, true, true, true, true, false, true, false, true, true, true, true, true, true, true, false, false, false, false, false, false, false, false, false, false, false, false] ?_
          refine pJ 24 (some 141) HT_ #[true, true, true, true, true, true, true, true, true, true, true, true, true, false, true, false, true, true, true, true, true, true, true, false, true, false, false, false, false, false, false, false, false, false, false] ?_; refine pJ 27 (some 144) HT_ #[true, true, true, true, true, true, true, true, true, true, true, true, true, false, true, false, true, true, true, true, true, true, true, false, true, false, false, true, false, false, false, false, false, false, false] ?_; refine pJ 29 (some 146) HT_ #[true, true, true, true, true, true, true, true, true, true, true, true, true, false, true, false, true, true, true, true, true, true, true, false, true, false, false, true, false, true, false, false, false, false, false] ?_; refine pJ 31 (some 148) HT_ #[true, true, true, true, true, true, true, true, true, true, true, true, true, false, true, false, true, true, true, true, true, true, true, false, true, false, false, true, false, true, false, true, false, false, false] ?_; refine take_ (i := 13) (N := some 130) (v := ?_) (a' := ?_) #[true, true, true, true, true, true, true, true, true, true, true, true, true, true, true, false, true, true, true, true, true, true, true, false, true, false, false, true, false, true, false, true, false, false, false] rfl rfl (dT HT_.out HW_.out (by kernel_rfl)) (fun _ _ _ h => h) (Or.inl ⟨by rfl, ?_⟩) hHeld ?_ ?_
          rotate_left
          ·rintro w' ⟨s0, s1⟩; go_simp
           with_reducible rfl
          rotate_left
          ·simp only [Act.put, List.setIfInBounds_toArray, List.set_cons_zero, List.set_cons_succ, i64_w, dm]
           rfl
          refine pJ 15 (some 132) HT_ #[true, true, true, true, true, true, true, true, true, true, true, true, true, true, true, true, true, true, true, true, true, true, true, false, true, false, false, true, false, true, false, true, false, false, false] ?_; refine take_ (i := 23) (N := some 140) (v := ?_) (a' := ?_) #[true, true, true, true, true, true, true, true, true, true, true, true, true, true, true, true, true, true, true, true, true, true, true, true, true, false, false, true, false, true, false, true, false, false, false] rfl rfl (dT HT_.out HW_.out (by kernel_rfl)) (fun _ _ _ h => h) (Or.inl ⟨by rfl, ?_⟩) hHeld ?_ ?_
          rotate_left
          ·rintro w' ⟨s0, s1⟩; go_simp
           with_reducible rfl
          rotate_left
          ·simp only [Act.put, List.setIfInBounds_toArray, List.set_cons_zero, List.set_cons_succ, i64_w, dm]
           rfl
          refine pJ 25 (some 142) HT_ #[true, true, true, true, true, true, true, true, true, true, true, true, true, true, true, true, true, true, true, true, true, true, true, true, true, true, false, true, false, true, false, true, false, false, false] ?_; refine pJ 26 (some 143) HT_ #[true, true, true, true, true, true, true, true, true, true, true, true, true, true, true, true, true, true, true, true, true, true, true, true, true, true, true, true, false, true, false, true, false, false, false] ?_; refine pJ 28 (some 145) HT_ #[true, true, true, true, true, true, true, true, true, true, true, true, true, true, true, true, true, true, true, true, true, true, true, true, true, true, true, true, true, true, false, true, false, false, false] ?_; refine pJ 30 (some 147) HT_ (ar 32 3) ?_; refine pJ 32 (some 149) HT_ (ar 33 2) ?_; refine pJ 33 (some 150) HT_ (ar 34 1) ?_; refine mX (i := 34) (N := none) (ar 35 0) rfl rfl (d6 HT_.out (by kernel_rfl)) (by decide) (fun K hK => ?_); refine dX (w1 := ?_) (by rfl) rfl ?_ ?_
          rotate_left
          ·go_simp
           rfl
          refine hK.out _ _ ?_; clear hK K; refine dj (cH HT_.out (by kernel_rfl)) ?_; try go_wp2
          (try simp only [← hl11_5]); go_roundg k5
          case measure => have := HK1.out; have := HJ12.out; have := HK3.out; have := HK4.out; have := HK5.out; omega
          case rel => exact ⟨(yqe), (wrap64 (x20_5 + 1)), rs_, H', ⟨by have := HK1.out; have := HJ12.out; have := HK3.out; have := HK4.out; have := HK5.out; omega⟩, ⟨by (try simp only [hl11_5]); refine pRx ?_; exact HQ54.out⟩, ⟨pb HB⟩⟩
        ·have H' := aQ H; clear H; go_wp2
         (try simp only [← hl11_5]); go_roundg k5
         case measure => have := HK1.out; have := HJ12.out; have := HK3.out; have := HK4.out; have := HK5.out; omega
         case rel => exact ⟨(x11_5), (wrap64 (x17_4 + 1)), rs_, H', ⟨by have := HK1.out; have := HJ12.out; have := HK3.out; have := HK4.out; have := HK5.out; omega⟩, ⟨by (try simp only [hl11_5]); refine pRx ?_; exact HO_11.out⟩, ⟨af HB⟩⟩
       ·have H' := aQ H; clear H; go_wp2
        go_roundg k4
        case measure => have := HK1.out; have := HJ12.out; have := HK3.out; have := HK4.out; omega
        case rel => exact ⟨(x11_4), (wrap64 (x12_1 + 1)), (wrap64 (x13_1 + 1)), rs_, rs_, H', ⟨by have := HK1.out; have := HJ12.out; have := HK3.out; have := HK4.out; omega⟩, ⟨aa HO_11⟩, ⟨af HB⟩⟩
  ·have H' := aQ H; clear H; go_wp2_with (first | (refine gt 124 ?_; refine gcD (some 31) func124 (bq.o0 a4 x13_1 false _ A11.out) ?_; intro nd))
   go_roundg k1
   case measure => exact omeg HK1
   case rel => exact ⟨(x11_1), (x12_1), (wrap64 (x13_1 + 1)), rs_, rs_, H', ⟨omeg HK1⟩, ⟨aa HO_11⟩, ⟨af HB⟩⟩
 ·obtain rfl := oj H; go_wp2
  go_ret
  exact ⟨re_, af HB⟩
def b5.l0 : Nat → Int → Int → Int → List Int → Int → Int → Int → List Int → Option (Int × List Int)
 | 0, _, _, _, _, _, _, _, _ => none
 | k + 1, x0, x1, x2, x3, x10, x11, x243003000, x243003001 => (bD.f x2).bind fun tq0 => (if x11 ≤ tq0 then ((aD.f k x11).bind fun tq1 => (if tq1 = x10 then ((ah.f k x0 x1 x2 x3 x11).bind fun tq2 => (if tq2 = x10 then (if x243003001.length < 17592186044416 then (b5.l0 k x0 x1 x2 x3 x10 (wrap64 (x11 + 1)) x243003000 (x243003001 ++ [x11])) else (none)) else (b5.l0 k x0 x1 x2 x3 x10 (wrap64 (x11 + 1)) x243003000 x243003001))) else (b5.l0 k x0 x1 x2 x3 x10 (wrap64 (x11 + 1)) x243003000 x243003001))) else (some (x243003000, x243003001)))
def b5.f (k : Nat) (a0 : Int) (a1 : Int) (a2 : Int) (l3 : List Int) : Option (Int × List Int) := (bD.f a2).bind fun tq3 => ((ah.f k a0 a1 a2 l3 tq3).bind fun tq4 => (b5.l0 k a0 a1 a2 l3 tq4 0 a2 ([] : List Int)))
theorem b5.o0 (k : Nat) (a0 : Int) (a1 : Int) (a2 : Int) (A3 : Option Addr) (c3 : Nat) (l3 : List Int) (r1 : Int) (r2 : List Int) (w : World) (hr3 : Kd.C (Kd.int .i64) w A3 l3.length l3) (hc3 : l3.length ≤ c3) (h : b5.f k a0 a1 a2 l3 = some (r1, r2)) :
  Calls Tryz.prog 242 #[.int .i64 a0, .int .i64 a1, .int .i64 a2, .slice A3 l3.length c3] w fun e w' => ∃ v1_ : Value, e = .returned (.agg #[.int .i64 r1, v1_]) ∧ Kd.R (Kd.int .i64) 3 w' w.heap.size (fun _ => True) v1_ r2 ∧ Below w.heap.size w w' := by
 have hu26 := underlying26; have HR3 := aQ hr3; have HC3 := aQ hc3; clear hr3 hc3; have HB := aQ (Below.refl w.heap.size w); have H := h; clear h; unfold b5.f at H; (try dsimp only at H); replace H := bo H; obtain ⟨tq3, A5, H⟩ := H; replace H := bo H; obtain ⟨tq4, A6, H⟩ := H; have H' := aQ H; clear H; go_enter func242, ntmps242; go_wp2_with (first | (refine bX 8 #[.int .i64 0, .slice none 0 0] 26 ?_; intro gbq5 hg w7 BKq5 hb; have GEq5 := gB HB hg; replace HB := bs HB hb; clear hb hg) | (refine bX 9 #[.int .i64 0, .slice none 0 0] 26 ?_; intro gbq6 hg w8 BKq6 hb; have GEq6 := gB HB hg; replace HB := bs HB hb; have NBq5_q6 := nl BKq5 hg; have NBq6_q5 := ng BKq5 hg; replace BKq5 := bb BKq5 hb; clear hb hg; have := NBq6_q5.out; have := NBq5_q6.out; obtain ⟨hcz10_0, hcz10_1, hfz10_0, hfz10_1⟩ := cz2 BKq6) | (refine gt 104 ?_; refine gcD (some 19) func104 (bD.o0 a2 tq3 _ A5.out) ?_; intro nd) | (refine gt 275 ?_; refine gcB (some 20) func275 (ah.o0 k a0 a1 a2 _ _ l3 tq3 tq4 _ (Kd.t0 HR3.out (ax HB GEq5 GEq6)) HC3.out A6.out) ?_; intro w11 hb; replace BKq5 := bf BKq5 hb; replace BKq6 := aQ (a9 (g := gbq6) (o := .cells #[.int .i64 a2, .slice none 0 0] 26 (0, 0)) (by refine pkx ?_; refine ag (cs := #[.int .i64 a2, .slice none 0 0]) ?_ 1 _ rfl; refine pkx ?_; refine ag (cs := #[.int .i64 0, .slice none 0 0]) ?_ 0 _ rfl; refine pkx ?_; exact BKq6.out) hb); replace HB := bs HB hb; (try clear hb)))
 go_loopg [11] k (fun kq v11 w' => ∃ (x11_1 : Int) (x243003001_1 : List Int) (u243003001 : Value), v11 = .int .i64 x11_1 ∧ Aside0 (b5.l0 kq a0 a1 a2 l3 tq4 x11_1 a2 x243003001_1 = some (r1, r2)) ∧ Aside0 (kq ≤ k) ∧ Aside0 (Kd.R (Kd.int .i64) 3 w' w.heap.size (fun _ => True) u243003001 x243003001_1) ∧ Aside0 (w'.heap[gbq5]? = some (.cells #[.int .i64 0, (.slice none 0 0)] 26 (0, 0))) ∧ Aside0 (w'.heap[gbq6]? = some (.cells #[.int .i64 a2, u243003001] 26 (0, 0))) ∧ Aside0 (Below w.heap.size w w'))
 case atStart => exact ⟨(0), (([] : List Int)), (.slice none 0 0), rs_, H', ⟨Nat.le_refl _⟩, ⟨by first | exact Kd.C7 _ _ _ _ _ | exact Kd.E6 _ _ _ _ _ | exact Kd.V_nil _ _ _ _ _ | exact Kd.E5 _ _ _ _ _ | exact Kd.E4 _ _ _ _ _⟩, ⟨an BKq5⟩, ⟨an BKq6⟩, ⟨ax HB GEq5 GEq6⟩⟩
 clear H'; try clear c3
 try clear hcz10_0
 try clear hcz10_1
 try clear hfz10_0
 try clear hfz10_1
 obtain ⟨x11_1, x243003001_1, u243003001, rfl, HA, HK1, HO_243003001, BKq5, BKq6, HB⟩ := hrel; rcases gk with _ | k1
 ·exact absurd HA.out (by simp [b5.l0])
 have H := HA.out; clear HA; simp only [b5.l0] at H; replace H := bo H; obtain ⟨tq0, A12, H⟩ := H; replace H := ckD H; obtain ⟨c13b0, H⟩ | ⟨c13b0, H⟩ := H
 ·replace H := bo H; obtain ⟨tq1, A14, H⟩ := H; replace H := ckE H; obtain ⟨c15b0, c15b1, H⟩ | ⟨c15, c15b0, c15b1, H⟩ := H
  ·replace H := bo H; obtain ⟨tq2, A16, H⟩ := H; replace H := ckE H; obtain ⟨c17b0, c17b1, H⟩ | ⟨c17, c17b0, c17b1, H⟩ := H
   ·replace H := gdA H; obtain ⟨LMc18, H⟩ := H; obtain ⟨yq7, hyq7⟩ : ∃ y_ : List Int, y_ = (x243003001_1 ++ [x11_1]) := ⟨_, rfl⟩; replace H : (b5.l0 k1 a0 a1 a2 l3 tq4 (wrap64 (x11_1 + 1)) a2 yq7) = some (r1, r2) := by first | (rw [hyq7]; with_reducible exact H) | (rw [hyq7]; exact H)
    have Nyq7 := aQ hyq7; clear hyq7; have H' := aQ H; clear H; go_wp2_with (first | (refine gt 104 ?_; refine gcD (some 23) func104 (bD.o0 a2 tq0 _ A12.out) ?_; intro nd; (try (rw [cU wr]; generalize hq_ : World.drewN wr _ = wr; have n0_ : Aside0 (Kd.R (Kd.int .i64) 3 wr w.heap.size (fun _ => True) u243003001 x243003001_1) := ⟨by rw [← hq_]; exact (aa HO_243003001)⟩; have n1_ : Aside0 (wr.heap[gbq5]? = some (.cells #[.int .i64 0, .slice none 0 0] 26 (0, 0))) := ⟨by rw [← hq_]; exact (an BKq5)⟩; have n2_ : Aside0 (wr.heap[gbq6]? = some (.cells #[.int .i64 a2, u243003001] 26 (0, 0))) := ⟨by rw [← hq_]; exact (an BKq6)⟩; have n3_ : Aside0 (Below w.heap.size w wr) := ⟨by rw [← hq_]; exact (ax HB GEq5 GEq6)⟩; clear HO_243003001 BKq5 BKq6 HB hq_; have HO_243003001 := n0_; have BKq5 := n1_; have BKq6 := n2_; have HB := n3_; clear n0_ n1_ n2_ n3_))) | (refine gt 22 ?_; refine gcD (some 28) func22 (aD.o0 k1 x11_1 tq1 _ A14.out) ?_; intro nd; (try (rw [cU wr]; generalize hq_ : World.drewN wr _ = wr; have n0_ : Aside0 (Kd.R (Kd.int .i64) 3 wr w.heap.size (fun _ => True) u243003001 x243003001_1) := ⟨by rw [← hq_]; exact (aa HO_243003001)⟩; have n1_ : Aside0 (wr.heap[gbq5]? = some (.cells #[.int .i64 0, .slice none 0 0] 26 (0, 0))) := ⟨by rw [← hq_]; exact (an BKq5)⟩; have n2_ : Aside0 (wr.heap[gbq6]? = some (.cells #[.int .i64 a2, u243003001] 26 (0, 0))) := ⟨by rw [← hq_]; exact (an BKq6)⟩; have n3_ : Aside0 (Below w.heap.size w wr) := ⟨by rw [← hq_]; exact (ax HB GEq5 GEq6)⟩; clear HO_243003001 BKq5 BKq6 HB hq_; have HO_243003001 := n0_; have BKq5 := n1_; have BKq6 := n2_; have HB := n3_; clear n0_ n1_ n2_ n3_))) | (go_at_call 275; (with_reducible refine (ah.o0 k1 a0 a1 a2 _ _ l3 x11_1 tq2 _ ?side1 ?side2 A16.out).mono ?_); (case side1 => exact pC (Cbel HR3 HB)); (case side2 => exact HC3.out); rintro e w19 ⟨rfl, hb⟩; replace HO_243003001 := aQ (Kd.r8 (aa HO_243003001) hb); replace BKq5 := bb BKq5 hb; replace BKq6 := bb BKq6 hb; replace HB := bs HB hb; (try clear hb); have := NBq6_q5.out; have := NBq5_q6.out; obtain ⟨_, _, _, _⟩ := cz2 BKq6) | ((with_reducible refine gate_builtin (b := .append) (xs := #[.tmp 42, .tmp 44]) rfl ?_); at_builtin; refine ap (ok := fun _ => True) (.tmp 42) (.tmp 44) underlying24 bP u243003001 x243003001_1 Nyq7 LMc18 (aa HO_243003001) ?_; intro vq8 w22 ho hb hg hat; replace BKq5 := aQ (cV (g := gbq5) (o := .cells #[.int .i64 0, .slice none 0 0] 26 (0, 0)) (an BKq5) hg (Kd.C5 HO_243003001.out BKq5.out (by decide))); replace BKq6 := aQ (cV (g := gbq6) (o := .cells #[.int .i64 a2, u243003001] 26 (0, 0)) (an BKq6) hg (Kd.C5 HO_243003001.out BKq6.out (by decide))); replace HB := aQ (hb); have HOq9 := aQ (ho); clear HO_243003001; clear ho hb hg hat; obtain ⟨Ao23, co23, eo23⟩ := Kd.p8 HOq9.out; subst eo23; obtain ⟨_, _, _, _⟩ := cz2 BKq6))
    go_roundg k1
    case measure => exact omeg HK1
    case rel => exact ⟨(wrap64 (x11_1 + 1)), (yq7), (.slice Ao23 yq7.length co23), rs_, H', ⟨omeg HK1⟩, ⟨by refine pRx ?_; exact rf1 HOq9 BKq6⟩, ⟨by refine pkx ?_; refine am ?_ NBq5_q6.out _; refine pkx ?_; exact BKq5.out⟩, ⟨by refine pkx ?_; refine ag (cs := #[.int .i64 a2, u243003001]) ?_ 1 _ rfl; refine pkx ?_; exact BKq6.out⟩, ⟨ax HB GEq5 GEq6⟩⟩
   ·have H' := aQ H; clear H; go_wp2_with (first | (refine gt 104 ?_; refine gcD (some 23) func104 (bD.o0 a2 tq0 _ A12.out) ?_; intro nd) | (refine gt 22 ?_; refine gcD (some 28) func22 (aD.o0 k1 x11_1 tq1 _ A14.out) ?_; intro nd) | (go_at_call 275; (with_reducible refine (ah.o0 k1 a0 a1 a2 _ _ l3 x11_1 tq2 _ ?side1 ?side2 A16.out).mono ?_); (case side1 => exact pC ((Kd.t0 HR3.out (ax HB GEq5 GEq6)))); (case side2 => exact HC3.out); rintro e w25 ⟨rfl, hb⟩; replace HO_243003001 := aQ (Kd.r8 (aa HO_243003001) hb); replace BKq5 := bb BKq5 hb; replace BKq6 := bb BKq6 hb; replace HB := bs HB hb; (try clear hb)))
    go_roundg k1
    case measure => exact omeg HK1
    case rel => exact ⟨(wrap64 (x11_1 + 1)), (x243003001_1), (u243003001), rs_, H', ⟨omeg HK1⟩, ⟨aa HO_243003001⟩, ⟨an BKq5⟩, ⟨an BKq6⟩, ⟨ax HB GEq5 GEq6⟩⟩
  ·have H' := aQ H; clear H; go_wp2_with (first | (refine gt 104 ?_; refine gcD (some 23) func104 (bD.o0 a2 tq0 _ A12.out) ?_; intro nd) | (refine gt 22 ?_; refine gcD (some 28) func22 (aD.o0 k1 x11_1 tq1 _ A14.out) ?_; intro nd))
   go_roundg k1
   case measure => exact omeg HK1
   case rel => exact ⟨(wrap64 (x11_1 + 1)), (x243003001_1), (u243003001), rs_, H', ⟨omeg HK1⟩, ⟨aa HO_243003001⟩, ⟨an BKq5⟩, ⟨an BKq6⟩, ⟨ax HB GEq5 GEq6⟩⟩
 ·obtain ⟨rfl, rfl⟩ := o2 H; go_wp2_with (first | (refine gt 104 ?_; refine gcD (some 23) func104 (bD.o0 a2 tq0 _ A12.out) ?_; intro nd; (try (rw [cU wr]; generalize hq_ : World.drewN wr _ = wr; have n0_ : Aside0 (Kd.R (Kd.int .i64) 3 wr w.heap.size (fun _ => True) u243003001 x243003001_1) := ⟨by rw [← hq_]; exact (aa HO_243003001)⟩; have n1_ : Aside0 (wr.heap[gbq5]? = some (.cells #[.int .i64 0, .slice none 0 0] 26 (0, 0))) := ⟨by rw [← hq_]; exact (an BKq5)⟩; have n2_ : Aside0 (wr.heap[gbq6]? = some (.cells #[.int .i64 a2, u243003001] 26 (0, 0))) := ⟨by rw [← hq_]; exact (an BKq6)⟩; have n3_ : Aside0 (Below w.heap.size w wr) := ⟨by rw [← hq_]; exact (ax HB GEq5 GEq6)⟩; clear HO_243003001 BKq5 BKq6 HB hq_; have HO_243003001 := n0_; have BKq5 := n1_; have BKq6 := n2_; have HB := n3_; clear n0_ n1_ n2_ n3_)); have := NBq6_q5.out; have := NBq5_q6.out; obtain ⟨_, _, _, _⟩ := cz2 BKq6; obtain ⟨_, _, _, _⟩ := cz2 BKq5; obtain ⟨Ao29, co29, eo29⟩ := Kd.p8 HO_243003001.out; subst eo29))
  refine bodyPost_ret (results_cell_row rfl _ _ gbq5 26 #[.int .i64 a2, .slice Ao29 x243003001_1.length co29] (0, 0) _ rfl (by refine pkx ?_; refine ag (cs := #[.int .i64 a2, .slice none 0 0]) ?_ 1 _ rfl; refine pkx ?_; refine ag (cs := #[.int .i64 0, .slice none 0 0]) ?_ 0 _ rfl; refine pkx ?_; exact BKq5.out) underlying26 rfl (by kernel_rfl)) rfl ?_; exact ⟨_, re_, by refine pRx ?_; exact rf HO_243003001 BKq5, ax HB GEq5 GEq6⟩
def bE.l0 : Nat → Int → Int → Int → List Int → Int → List Int → Int → Int → Option (Int × List Int × Int × Int)
 | 0, _, _, _, _, _, _, _, _ => none
 | k + 1, x1, x5, x6, x7, x8, xq0, xq1, xq2 => if x8 < (wrap64 (x6 * x1)) then ((ai.f xq0 xq1 xq2 x5).bind fun btq3 => (if x7.length < 17592186044416 then (bE.l0 k x1 x5 x6 (x7 ++ [btq3.1]) (wrap64 (x8 + 1)) xq0 btq3.2.1 btq3.2.2) else (none))) else ((b5.f k x5 x6 x1 x7).bind fun btq4 => (some (btq4.1, btq4.2, xq1, xq2)))
def bE.f (k : Nat) (s0_0 : List Int) (s0_1 : Int) (s0_2 : Int) (a1 : Int) : Option (Int × List Int × Int × Int) := (b8.f s0_0 s0_1 s0_2 (([2, 3, 5, 2] : List Int))).bind fun btq5 => ((ai.f s0_0 btq5.2.1 btq5.2.2 3).bind fun btq6 => (bE.l0 k a1 btq5.1 (wrap64 (1 + btq6.1)) (([] : List Int)) 0 s0_0 btq6.2.1 btq6.2.2))
theorem bE.o0 (k : Nat) (g : Nat) (s0_0 : List Int) (s0_1 : Int) (s0_2 : Int) (a1 : Int) (r1 : Int) (r2 : List Int) (r3 : Int) (r4 : Int) (w0 w : World) (hI : G4 w0 w g s0_0 s0_1 s0_2) (hB : Below w0.heap.size w0 w) (h : bE.f k s0_0 s0_1 s0_2 a1 = some (r1, r2, r3, r4)) :
  Calls Tryz.prog 202 #[.pointer (some ⟨g, 0, none⟩), .int .i64 a1] w fun e w' => ∃ v1_ : Value, e = .returned (.agg #[.int .i64 r1, v1_]) ∧ Kd.R (Kd.int .i64) 3 w' w.heap.size (fun _ => True) v1_ r2 ∧ G4 w0 w' g s0_0 r3 r4 ∧ Below w0.heap.size w0 w' ∧ KeepBut w w' g none := by
 have hu26 := underlying26; have HI0 := aQ hI; have HK := aQ (KeepBut.refl w g none); have HL := aQ hB.size; clear hI; have HW0 := aQ hB.size; have HB := aQ hB; clear hB; have H := h; clear h; unfold bE.f at H; (try dsimp only at H); obtain ⟨yq7, hyq7⟩ : ∃ y_ : List Int, y_ = (([2, 3, 5, 2] : List Int)) := ⟨_, rfl⟩; replace H : ((b8.f s0_0 s0_1 s0_2 yq7).bind fun btq5 => ((ai.f s0_0 btq5.2.1 btq5.2.2 3).bind fun btq6 => (bE.l0 k a1 btq5.1 (wrap64 (1 + btq6.1)) (([] : List Int)) 0 s0_0 btq6.2.1 btq6.2.2))) = some (r1, r2, r3, r4) := by first | (rw [hyq7]; with_reducible exact H) | (rw [hyq7]; exact H)
 have Nyq7 := aQ hyq7; clear hyq7; replace H := bo H; obtain ⟨⟨tq5, tq8, tq9⟩, A3, H⟩ := H; (try dsimp only at H); replace H := bo H; obtain ⟨⟨tq6, tqa, tqb⟩, A4, H⟩ := H; (try dsimp only at H); obtain ⟨yqc, hyqc⟩ : ∃ y_ : List Int, y_ = (([] : List Int)) := ⟨_, rfl⟩; replace H : (bE.l0 k a1 tq5 (wrap64 (1 + tq6)) yqc 0 s0_0 tqa tqb) = some (r1, r2, r3, r4) := by first | (rw [hyqc]; with_reducible exact H) | (rw [hyqc]; exact H)
 have Nyqc := aQ hyqc; clear hyqc; have H' := aQ H; clear H; go_enter func202, ntmps202; go_wp2_with (first | (refine bX 4 #[.int .i64 0, .slice none 0 0] 26 ?_; intro gbqd hg w5 BKqd hb; replace HB := bsI HB hb; have GWqd := gw HK hg; have GEqd := ge HK HW0 hg; replace HK := kt HK hb; have NB0_qd := nI HI0 hg; have NBqd_0 := mI HI0 hg; replace HI0 := bI HI0 hb; clear hb hg) | ((with_reducible refine gate_dst (N := 10) rfl ?_); refine Kd.B0 (Kd.int .i64) _ 3 ?hg (N := 10) ?hd (xs := ([2, 3, 5, 2] : List Int)) (inner := [.int .i64 2, .int .i64 3, .int .i64 5, .int .i64 2]) (ok := fun _ => True) (okp := fun _ => True) ?hr ?hp (fun _ hk => hk) trivial (Below.refl _ _) (Nat.le_refl _) (by simp) ?_; (case hd => rfl); (case hg => rfl); (case hr => first | (go_simp; done) | (go_simp; rfl)); (case hp => exact (Reps.one (show Kd.M (Kd.int .i64) _ _ _ 2 [.int .i64 2] from rfl) (Reps.one (show Kd.M (Kd.int .i64) _ _ _ 3 [.int .i64 3] from rfl) (Reps.one (show Kd.M (Kd.int .i64) _ _ _ 5 [.int .i64 5] from rfl) (Reps.one (show Kd.M (Kd.int .i64) _ _ _ 2 [.int .i64 2] from rfl) (Reps.none _ _)))))); intro vqe w6 ho7 hb hg_ hnew_; clear hg_ hnew_; (first | rw [← Nyq7.out] at ho7 | (simp only [Int.reduceToNat] at ho7; rw [← Nyq7.out] at ho7)); have HOqf := aQ (Kd.p5 ho7 (a6 (w := w) (g := g) (row := none) (pq HK))); replace BKqd := bb BKqd hb; replace HK := kt HK hb; replace HB := bsI HB hb; replace HI0 := bI HI0 hb; clear hb ho7; obtain ⟨Ao8, co8, eo8⟩ := Kd.p8 HOqf.out; subst eo8) | (refine gt 172 ?_; refine gc (some 11) func172 (b8.o0 g s0_0 s0_1 s0_2 _ _ yq7 tq5 tq8 tq9 w0 _ (pi_ HI0) (pbI HB) (pC ((Kd.o1 HOqf.out).2.2)) ((Kd.o1 HOqf.out).2.1) (fb (G4.z7 HI0.out HOqf.out (by decide))) A3.out) ?_; rintro e w9 ⟨rfl, hi, hb, hk⟩; refine ⟨_, rfl, ?_⟩; replace BKqd := kk BKqd hk NBqd_0.out; replace HOqf := rk HI0 HOqf hk; replace HK := kh HK hk; replace HB := aQ (hb); replace HI0 := aQ (hi); (try clear hb); (try clear hk); (try clear hi)) | (refine gt 99 ?_; refine gc (some 13) func99 (ai.o0 g s0_0 tq8 tq9 3 tq6 tqa tqb w0 _ (pi_ HI0) (pbI HB) A4.out) ?_; rintro e w10 ⟨rfl, hi, hb, hk⟩; refine ⟨_, rfl, ?_⟩; replace BKqd := kk BKqd hk NBqd_0.out; replace HOqf := rk HI0 HOqf hk; replace HK := kh HK hk; replace HB := aQ (hb); replace HI0 := aQ (hi); (try clear hb); (try clear hk); (try clear hi)) | (refine lI (d := Kd.int .i64) 15 Nyqc ?_; intro vqg w11 ho12 hb; have HOqh := aQ (Kd.p5 (Kd.s9 ho12 (Kd.s5 (aa HOqf))) (a6 (w := w) (g := g) (row := none) (pq HK))); replace HOqf := aQ (Kd.s7 (aa HOqf) (Kd.s6 ho12) hb); replace BKqd := bb BKqd hb; replace HK := kt HK hb; replace HB := bsI HB hb; replace HI0 := bI HI0 hb; clear hb ho12))
 go_loopg [7, 8] k (fun kq v7 v8 w' => ∃ (x7_1 : List Int) (x8_1 : Int) (xq1_1 : Int) (xq2_1 : Int), v8 = .int .i64 x8_1 ∧ Aside0 (bE.l0 kq a1 tq5 (wrap64 (1 + tq6)) x7_1 x8_1 s0_0 xq1_1 xq2_1 = some (r1, r2, r3, r4)) ∧ Aside0 (kq ≤ k) ∧ Aside0 (Kd.R (Kd.int .i64) 3 w' w.heap.size (fun _ => True) v7 x7_1) ∧ Aside0 (w'.heap[gbqd]? = some (.cells #[.int .i64 0, (.slice none 0 0)] 26 (0, 0))) ∧ Aside0 (G4 w0 w' g s0_0 xq1_1 xq2_1) ∧ Aside0 (KeepBut w w' g none) ∧ Aside0 (Below w0.heap.size w0 w'))
 case atStart => exact ⟨(yqc), (0), (tqa), (tqb), rs_, H', ⟨Nat.le_refl _⟩, ⟨by refine pRx ?_; exact Kd.o8 HOqh.out (fun _ hk => trivial)⟩, ⟨an BKqd⟩, ⟨pi_ HI0⟩, ⟨pq HK⟩, ⟨pbI HB⟩⟩
 clear H'; obtain ⟨x7_1, x8_1, xq1_1, xq2_1, rfl, HA, HK1, HO_7, BKqd, HI0, HK, HB⟩ := hrel; rcases gk with _ | k1
 ·exact absurd HA.out (by simp [bE.l0])
 have H := HA.out; clear HA; simp only [bE.l0] at H; replace H := ckD H; obtain ⟨c13b0, H⟩ | ⟨c13b0, H⟩ := H
 ·replace H := bo H; obtain ⟨⟨tq3, tqi, tqj⟩, A14, H⟩ := H; (try dsimp only at H); replace H := gdA H; obtain ⟨LMc15, H⟩ := H; obtain ⟨yqk, hyqk⟩ : ∃ y_ : List Int, y_ = (x7_1 ++ [tq3]) := ⟨_, rfl⟩; replace H : (bE.l0 k1 a1 tq5 (wrap64 (1 + tq6)) yqk (wrap64 (x8_1 + 1)) s0_0 tqi tqj) = some (r1, r2, r3, r4) := by first | (rw [hyqk]; with_reducible exact H) | (rw [hyqk]; exact H)
  have Nyqk := aQ hyqk; clear hyqk; have H' := aQ H; clear H; go_wp2_with (first | (refine gt 99 ?_; refine gc (some 26) func99 (ai.o0 g s0_0 xq1_1 xq2_1 tq5 tq3 tqi tqj w0 _ (pi_ HI0) (pbI HB) A14.out) ?_; rintro e w16 ⟨rfl, hi, hb, hk⟩; refine ⟨_, rfl, ?_⟩; replace HO_7 := rk HI0 HO_7 hk; replace BKqd := kk BKqd hk NBqd_0.out; replace HK := kh HK hk; replace HB := aQ (hb); replace HI0 := aQ (hi); (try clear hb); (try clear hk); (try clear hi)) | ((with_reducible refine gate_builtin (b := .append) (xs := #[.tmp 23, .tmp 27]) rfl ?_); at_builtin; refine Kd.z5 (Kd.int .i64) w.heap.size rfl (.tmp 23) (.tmp 27) 24 3 (.int .i64 0) 8 rfl underlying24 bP rfl (by decide) (by omega) u7 x7_1 tq3 [.int .i64 tq3] (fun _ => True) (fun _ => False) rfl rfl ?aP (fun _ hk => hk.elim) ?aF ?aO (Below.refl _ _) ?aS ?aL ?_; (case aP => exact rfl); (case aF => exact (fun _ _ => trivial)); (case aO => exact (aa HO_7)); (case aS => exact (a6 (w := w) (g := g) (row := none) (pq HK))); (case aL => have := LMc15.out; omega); intro vql w17 ho hb hg hat; rw [← Nyqk.out] at ho; replace BKqd := aQ (cV (g := gbqd) (o := .cells #[.int .i64 0, .slice none 0 0] 26 (0, 0)) (an BKqd) hg (Kd.C5 HO_7.out BKqd.out (by decide))); replace HB := aQ (db (pbI HB) HL.out hb); replace HI0 := aQ (G4.grown (pi_ HI0) hg (G4.z7 HI0.out HO_7.out (by decide))); replace HK := aQ (KeepBut.trans (pq HK) (KeepBut.u9 hg g) (Kd.B5 HO_7.out)); have HOqm := aQ (ho); clear HO_7; clear ho hb hg hat))
  go_roundg k1
  case measure => exact omeg HK1
  case rel => exact ⟨(yqk), (wrap64 (x8_1 + 1)), (tqi), (tqj), rs_, H', ⟨omeg HK1⟩, ⟨aa HOqm⟩, ⟨an BKqd⟩, ⟨pi_ HI0⟩, ⟨pq HK⟩, ⟨pbI HB⟩⟩
 ·replace H := bo H; obtain ⟨⟨tq4, tqn⟩, A18, H⟩ := H; (try dsimp only at H); obtain ⟨rfl, rfl, rfl, rfl⟩ := o4 H; obtain ⟨Ao19, co19, eo19⟩ := Kd.p8 HO_7.out; subst eo19; go_wp2_with (first | (refine gt 242 ?_; refine gc (some 33) func242 (b5.o0 k1 tq5 (wrap64 (1 + tq6)) a1 _ _ x7_1 tq4 tqn _ (pC ((Kd.o1 HO_7.out).2.2)) ((Kd.o1 HO_7.out).2.1) A18.out) ?_; rintro e w20 ⟨vqo, rfl, ho0, hb⟩; refine ⟨_, rfl, ?_⟩; have HOqp := aQ (Kd.p5 (Kd.s9 ho0 (Kd.s5 (aa HO_7))) (a6 (w := w) (g := g) (row := none) (pq HK))); replace HO_7 := aQ (Kd.s7 (aa HO_7) (Kd.s6 ho0) hb); replace BKqd := bb BKqd hb; replace HK := kt HK hb; replace HB := bsI HB hb; replace HI0 := bI HI0 hb; (try clear hb); (try clear ho0); have := NBqd_0.out; have := NB0_qd.out; obtain ⟨_, _, _, _⟩ := cz2 BKqd; obtain ⟨Ao23, co23, eo23⟩ := Kd.p8 HOqp.out; subst eo23))
  refine bodyPost_ret (results_cell_row rfl _ _ gbqd 26 #[.int .i64 tq4, .slice Ao23 tqn.length co23] (0, 0) _ rfl (by refine pkx ?_; refine ag (cs := #[.int .i64 tq4, .slice none 0 0]) ?_ 1 _ rfl; refine pkx ?_; refine ag (cs := #[.int .i64 0, .slice none 0 0]) ?_ 0 _ rfl; refine pkx ?_; exact BKqd.out) underlying26 rfl (by kernel_rfl)) rfl ?_; exact ⟨_, re_, by refine pRx ?_; exact rf HOqp BKqd, pi_ HI0, pbI HB, pq HK⟩
mutual
def bH.j0 : Nat → Int → Int → Bool → Option (Int × List Int)
 | 0, _, _, _ => none
 | k + 1, x0, x1, x15 => if x15 = true then (some (0, ([] : List Int))) else (bH.l0 k x0 x1 0 x1 ([] : List Int))
def bH.l0 : Nat → Int → Int → Int → Int → List Int → Option (Int × List Int)
 | 0, _, _, _, _, _ => none
 | k + 1, x0, x1, x6, x225005000, x225005001 => (bD.f x1).bind fun tq0 => (if x6 ≤ tq0 then ((aD.f k x6).bind fun tq1 => (if tq1 = x0 then (if x225005001.length < 17592186044416 then (bH.l0 k x0 x1 (wrap64 (x6 + 1)) x225005000 (x225005001 ++ [x6])) else (none)) else (bH.l0 k x0 x1 (wrap64 (x6 + 1)) x225005000 x225005001))) else (some (x225005000, x225005001)))
end
def bH.f (k : Nat) (a0 : Int) (a1 : Int) : Option (Int × List Int) := (bA.f a1 0 8).bind fun tq2 => (if tq2 = true then ((bA.f a0 0 a1).bind fun tq3 => (bH.j0 k a0 a1 (!tq3))) else (bH.j0 k a0 a1 true))
theorem bH.o0 (k : Nat) (a0 : Int) (a1 : Int) (r1 : Int) (r2 : List Int) (w : World) (h : bH.f k a0 a1 = some (r1, r2)) :
  Calls Tryz.prog 224 #[.int .i64 a0, .int .i64 a1] w fun e w' => ∃ v1_ : Value, e = .returned (.agg #[.int .i64 r1, v1_]) ∧ Kd.R (Kd.int .i64) 3 w' w.heap.size (fun _ => True) v1_ r2 ∧ Below w.heap.size w w' := by
 have hu26 := underlying26; have HB := aQ (Below.refl w.heap.size w); have H := h; clear h; unfold bH.f at H; (try dsimp only at H); have HC3 := aQ H; clear H; go_enter func224, ntmps224; go_upto_region 1 with (first | (refine bX 4 #[.int .i64 0, .slice none 0 0] 26 ?_; intro gbq4 hg w4 BKq4 hb; have GEq4 := gB HB hg; replace HB := bs HB hb; clear hb hg))
 (try simp only [Act.put, List.setIfInBounds_toArray, List.set_cons_zero, List.set_cons_succ]); go_cut [15] (fun v15 wc => ∃ (kq : Nat) (x15_2 : Bool), v15 = .bool x15_2 ∧ Aside0 (bH.j0 kq a0 a1 x15_2 = some (r1, r2)) ∧ Aside0 (kq ≤ k) ∧ Aside0 (wc.heap[gbq4]? = some (.cells #[.int .i64 0, (.slice none 0 0)] 26 (0, 0))) ∧ Aside0 (Below w.heap.size w wc))
 case first =>
  have H := HC3.out; clear HC3; replace H := bo H; obtain ⟨tq2, A5, H⟩ := H; replace H := ckB H; obtain ⟨rfl, H⟩ | ⟨rfl, H⟩ := H
  ·replace H := bo H; obtain ⟨tq3, A7, H⟩ := H; have H' := aQ H; clear H; go_wp2_with (first | (refine gt 116 ?_; refine gcD (some 8) func116 (bA.o0 a1 0 8 true _ A5.out) ?_; intro nd) | (go_at_call 116; (with_reducible refine (bA.o0 a0 0 a1 tq3 _ A7.out).mono ?_); rintro e w' ⟨rfl, ⟨nd, rfl⟩⟩))
   go_meet
   case rel => exact ⟨_, (!tq3), rs_, H', ⟨by first | omega | exact Nat.le_refl _⟩, ⟨an BKq4⟩, ⟨bB HB GEq4⟩⟩
  ·have H' := aQ H; clear H; go_wp2_with (first | (refine gt 116 ?_; refine gcD (some 8) func116 (bA.o0 a1 0 8 false _ A5.out) ?_; intro nd))
   go_meet
   case rel => exact ⟨_, (true), rs_, H', ⟨by first | omega | exact Nat.le_refl _⟩, ⟨an BKq4⟩, ⟨bB HB GEq4⟩⟩
 case rest =>
  clear HC3; obtain ⟨kq, x15_2, rfl, HA, HJ2, BKq4, HB⟩ := hcut; cases kq with
  | zero => exact absurd HA.out (by simp [bH.j0])
  | succ kj2 =>
   have H := HA.out; clear HA; simp only [bH.j0] at H; replace H := ckB H; obtain ⟨rfl, H⟩ | ⟨rfl, H⟩ := H
   ·obtain ⟨rfl, rfl⟩ := o2 H; obtain ⟨_, _, _, _⟩ := cz2 BKq4; go_wp2
    refine bodyPost_ret (results_cell_row rfl _ _ gbq4 26 #[.int .i64 0, .slice none 0 0] (0, 0) _ rfl (by refine pkx ?_; refine ag (cs := #[.int .i64 0, .slice none 0 0]) ?_ 1 _ rfl; refine pkx ?_; refine ag (cs := #[.int .i64 0, .slice none 0 0]) ?_ 0 _ rfl; refine pkx ?_; exact BKq4.out) underlying26 rfl (by kernel_rfl)) rfl ?_; exact ⟨_, by first | rfl | (simp [errW_none, cz] <;> rfl) | (simp [*, errW_none, cz] <;> rfl), by first | exact Kd.C7 _ _ _ _ _ | exact Kd.E6 _ _ _ _ _ | exact Kd.V_nil _ _ _ _ _ | exact Kd.E5 _ _ _ _ _ | exact Kd.E4 _ _ _ _ _, bB HB GEq4⟩
   ·have H' := aQ H; clear H; go_wp2_with (first | (refine bX 5 #[.int .i64 0, .slice none 0 0] 26 ?_; intro gbq5 hg w10 BKq5 hb; have GEq5 := gB HB hg; replace HB := bs HB hb; have NBq4_q5 := nl BKq4 hg; have NBq5_q4 := ng BKq4 hg; replace BKq4 := bb BKq4 hb; clear hb hg; have := NBq5_q4.out; have := NBq4_q5.out; obtain ⟨hcz12_0, hcz12_1, hfz12_0, hfz12_1⟩ := cz2 BKq5))
    go_loopg [6] kj2 (fun kq v6 w' => ∃ (x6_2 : Int) (x225005001_2 : List Int) (u225005001 : Value), v6 = .int .i64 x6_2 ∧ Aside0 (bH.l0 kq a0 a1 x6_2 a1 x225005001_2 = some (r1, r2)) ∧ Aside0 (kq ≤ kj2) ∧ Aside0 (Kd.R (Kd.int .i64) 3 w' w.heap.size (fun _ => True) u225005001 x225005001_2) ∧ Aside0 (w'.heap[gbq4]? = some (.cells #[.int .i64 0, (.slice none 0 0)] 26 (0, 0))) ∧ Aside0 (w'.heap[gbq5]? = some (.cells #[.int .i64 a1, u225005001] 26 (0, 0))) ∧ Aside0 (Below w.heap.size w w'))
    case atStart => exact ⟨(0), (([] : List Int)), (.slice none 0 0), rs_, H', ⟨Nat.le_refl _⟩, ⟨by first | exact Kd.C7 _ _ _ _ _ | exact Kd.E6 _ _ _ _ _ | exact Kd.V_nil _ _ _ _ _ | exact Kd.E5 _ _ _ _ _ | exact Kd.E4 _ _ _ _ _⟩, ⟨by refine pkx ?_; refine am ?_ NBq4_q5.out _; refine pkx ?_; refine am ?_ NBq4_q5.out _; refine pkx ?_; exact BKq4.out⟩, ⟨by refine pkx ?_; refine ag (cs := #[.int .i64 a1, .slice none 0 0]) ?_ 1 _ rfl; refine pkx ?_; refine ag (cs := #[.int .i64 0, .slice none 0 0]) ?_ 0 _ rfl; refine pkx ?_; exact BKq5.out⟩, ⟨ax HB GEq4 GEq5⟩⟩
    clear H'; try clear c8
    try clear hcz12_0
    try clear hcz12_1
    try clear hfz12_0
    try clear hfz12_1
    obtain ⟨x6_2, x225005001_2, u225005001, rfl, HA, HK2, HO_225005001, BKq4, BKq5, HB⟩ := hrel; rcases gk with _ | k2
    ·exact absurd HA.out (by simp [bH.l0])
    have H := HA.out; clear HA; simp only [bH.l0] at H; replace H := bo H; obtain ⟨tq0, A13, H⟩ := H; replace H := ckD H; obtain ⟨c14b0, H⟩ | ⟨c14b0, H⟩ := H
    ·replace H := bo H; obtain ⟨tq1, A15, H⟩ := H; replace H := ckE H; obtain ⟨c16b0, c16b1, H⟩ | ⟨c16, c16b0, c16b1, H⟩ := H
     ·replace H := gdA H; obtain ⟨LMc17, H⟩ := H; obtain ⟨yq6, hyq6⟩ : ∃ y_ : List Int, y_ = (x225005001_2 ++ [x6_2]) := ⟨_, rfl⟩; replace H : (bH.l0 k2 a0 a1 (wrap64 (x6_2 + 1)) a1 yq6) = some (r1, r2) := by first | (rw [hyq6]; with_reducible exact H) | (rw [hyq6]; exact H)
      have Nyq6 := aQ hyq6; clear hyq6; have H' := aQ H; clear H; go_wp2_with (first | (refine gt 104 ?_; refine gcD (some 21) func104 (bD.o0 a1 tq0 _ A13.out) ?_; intro nd; (try (rw [cU wr]; generalize hq_ : World.drewN wr _ = wr; have n0_ : Aside0 (Kd.R (Kd.int .i64) 3 wr w.heap.size (fun _ => True) u225005001 x225005001_2) := ⟨by rw [← hq_]; exact (aa HO_225005001)⟩; have n1_ : Aside0 (wr.heap[gbq4]? = some (.cells #[.int .i64 0, .slice none 0 0] 26 (0, 0))) := ⟨by rw [← hq_]; exact (an BKq4)⟩; have n2_ : Aside0 (wr.heap[gbq5]? = some (.cells #[.int .i64 a1, u225005001] 26 (0, 0))) := ⟨by rw [← hq_]; exact (an BKq5)⟩; have n3_ : Aside0 (Below w.heap.size w wr) := ⟨by rw [← hq_]; exact (ax HB GEq4 GEq5)⟩; clear HO_225005001 BKq4 BKq5 HB hq_; have HO_225005001 := n0_; have BKq4 := n1_; have BKq5 := n2_; have HB := n3_; clear n0_ n1_ n2_ n3_))) | (refine gt 22 ?_; refine gcD (some 26) func22 (aD.o0 k2 x6_2 tq1 _ A15.out) ?_; intro nd; (try (rw [cU wr]; generalize hq_ : World.drewN wr _ = wr; have n0_ : Aside0 (Kd.R (Kd.int .i64) 3 wr w.heap.size (fun _ => True) u225005001 x225005001_2) := ⟨by rw [← hq_]; exact (aa HO_225005001)⟩; have n1_ : Aside0 (wr.heap[gbq4]? = some (.cells #[.int .i64 0, .slice none 0 0] 26 (0, 0))) := ⟨by rw [← hq_]; exact (an BKq4)⟩; have n2_ : Aside0 (wr.heap[gbq5]? = some (.cells #[.int .i64 a1, u225005001] 26 (0, 0))) := ⟨by rw [← hq_]; exact (an BKq5)⟩; have n3_ : Aside0 (Below w.heap.size w wr) := ⟨by rw [← hq_]; exact (ax HB GEq4 GEq5)⟩; clear HO_225005001 BKq4 BKq5 HB hq_; have HO_225005001 := n0_; have BKq4 := n1_; have BKq5 := n2_; have HB := n3_; clear n0_ n1_ n2_ n3_)); have := NBq5_q4.out; have := NBq4_q5.out; obtain ⟨_, _, _, _⟩ := cz2 BKq5) | ((with_reducible refine gate_builtin (b := .append) (xs := #[.tmp 30, .tmp 32]) rfl ?_); at_builtin; refine ap (ok := fun _ => True) (.tmp 30) (.tmp 32) underlying24 bP u225005001 x225005001_2 Nyq6 LMc17 (aa HO_225005001) ?_; intro vq7 w20 ho hb hg hat; replace BKq4 := aQ (cV (g := gbq4) (o := .cells #[.int .i64 0, .slice none 0 0] 26 (0, 0)) (an BKq4) hg (Kd.C5 HO_225005001.out BKq4.out (by decide))); replace BKq5 := aQ (cV (g := gbq5) (o := .cells #[.int .i64 a1, u225005001] 26 (0, 0)) (an BKq5) hg (Kd.C5 HO_225005001.out BKq5.out (by decide))); replace HB := aQ (hb); have HOq8 := aQ (ho); clear HO_225005001; clear ho hb hg hat; obtain ⟨Ao21, co21, eo21⟩ := Kd.p8 HOq8.out; subst eo21; obtain ⟨_, _, _, _⟩ := cz2 BKq5))
      go_roundg k2
      case measure => have := HJ2.out; have := HK2.out; omega
      case rel => exact ⟨(wrap64 (x6_2 + 1)), (yq6), (.slice Ao21 yq6.length co21), rs_, H', ⟨by have := HJ2.out; have := HK2.out; omega⟩, ⟨by refine pRx ?_; exact rf1 HOq8 BKq5⟩, ⟨by refine pkx ?_; refine am ?_ NBq4_q5.out _; refine pkx ?_; exact BKq4.out⟩, ⟨by refine pkx ?_; refine ag (cs := #[.int .i64 a1, u225005001]) ?_ 1 _ rfl; refine pkx ?_; exact BKq5.out⟩, ⟨ax HB GEq4 GEq5⟩⟩
     ·have H' := aQ H; clear H; go_wp2_with (first | (refine gt 104 ?_; refine gcD (some 21) func104 (bD.o0 a1 tq0 _ A13.out) ?_; intro nd) | (refine gt 22 ?_; refine gcD (some 26) func22 (aD.o0 k2 x6_2 tq1 _ A15.out) ?_; intro nd))
      go_roundg k2
      case measure => have := HJ2.out; have := HK2.out; omega
      case rel => exact ⟨(wrap64 (x6_2 + 1)), (x225005001_2), (u225005001), rs_, H', ⟨by have := HJ2.out; have := HK2.out; omega⟩, ⟨aa HO_225005001⟩, ⟨an BKq4⟩, ⟨an BKq5⟩, ⟨ax HB GEq4 GEq5⟩⟩
    ·obtain ⟨rfl, rfl⟩ := o2 H; go_wp2_with (first | (refine gt 104 ?_; refine gcD (some 21) func104 (bD.o0 a1 tq0 _ A13.out) ?_; intro nd; (try (rw [cU wr]; generalize hq_ : World.drewN wr _ = wr; have n0_ : Aside0 (Kd.R (Kd.int .i64) 3 wr w.heap.size (fun _ => True) u225005001 x225005001_2) := ⟨by rw [← hq_]; exact (aa HO_225005001)⟩; have n1_ : Aside0 (wr.heap[gbq4]? = some (.cells #[.int .i64 0, .slice none 0 0] 26 (0, 0))) := ⟨by rw [← hq_]; exact (an BKq4)⟩; have n2_ : Aside0 (wr.heap[gbq5]? = some (.cells #[.int .i64 a1, u225005001] 26 (0, 0))) := ⟨by rw [← hq_]; exact (an BKq5)⟩; have n3_ : Aside0 (Below w.heap.size w wr) := ⟨by rw [← hq_]; exact (ax HB GEq4 GEq5)⟩; clear HO_225005001 BKq4 BKq5 HB hq_; have HO_225005001 := n0_; have BKq4 := n1_; have BKq5 := n2_; have HB := n3_; clear n0_ n1_ n2_ n3_)); have := NBq5_q4.out; have := NBq4_q5.out; obtain ⟨_, _, _, _⟩ := cz2 BKq5; obtain ⟨_, _, _, _⟩ := cz2 BKq4; obtain ⟨Ao26, co26, eo26⟩ := Kd.p8 HO_225005001.out; subst eo26))
     refine bodyPost_ret (results_cell_row rfl _ _ gbq4 26 #[.int .i64 a1, .slice Ao26 x225005001_2.length co26] (0, 0) _ rfl (by refine pkx ?_; refine ag (cs := #[.int .i64 a1, .slice none 0 0]) ?_ 1 _ rfl; refine pkx ?_; refine ag (cs := #[.int .i64 0, .slice none 0 0]) ?_ 0 _ rfl; refine pkx ?_; exact BKq4.out) underlying26 rfl (by kernel_rfl)) rfl ?_; exact ⟨_, re_, by refine pRx ?_; exact rf HO_225005001 BKq4, ax HB GEq4 GEq5⟩
def aU.l0 : Nat → ByteArray → Int → List ByteArray → Int → Int → Option (List ByteArray)
 | 0, _, _, _, _, _ => none
 | k + 1, x0, x1, x5, x6, x7 => if x7 ≤ (x0.size : Int) then (if x7 = (x0.size : Int) then (if 0 ≤ x6 then (if x6 ≤ x7 then (if x5.length < 8796093022208 then (aU.l0 k x0 x1 (x5 ++ [x0.extract (x6 : Int).toNat (x7 : Int).toNat]) (wrap64 (x7 + 1)) (wrap64 (x7 + 1))) else (none)) else (none)) else (none)) else (if 0 ≤ x7 then (if x7 < (x0.size : Int) then (if (bt x0 x7) = x1 then (if 0 ≤ x6 then (if x6 ≤ x7 then (if x5.length < 8796093022208 then (aU.l0 k x0 x1 (x5 ++ [x0.extract (x6 : Int).toNat (x7 : Int).toNat]) (wrap64 (x7 + 1)) (wrap64 (x7 + 1))) else (none)) else (none)) else (none)) else (aU.l0 k x0 x1 x5 x6 (wrap64 (x7 + 1)))) else (none)) else (none))) else (some x5)
def aU.f (k : Nat) (a0 : ByteArray) (a1 : Int) : Option (List ByteArray) := aU.l0 k a0 a1 (([] : List ByteArray)) 0 0
theorem aU.t8 : ∀ k, (∀ y0 y1 y2 y3 y4, LeO (aU.l0 k y0 y1 y2 y3 y4) (aU.l0 (k + 1) y0 y1 y2 y3 y4))
 | 0 => fun _ _ _ _ _ r h => by simp [aU.l0] at h
 | k + 1 => by
  have ih0 := aU.t8 k
  ·intro y0 y1 y2 y3 y4; unfold aU.l0; exact mn_
theorem aU.mono : ∀ a0 a1 k, LeO (aU.f k a0 a1) (aU.f (k + 1) a0 a1) := by
 intro a0 a1 k; have ih0 := aU.t8 k; unfold aU.f; exact mn_
theorem aU.o0 (k : Nat) (a0 : ByteArray) (a1 : Int) (r : List ByteArray) (w : World) (h : aU.f k a0 a1 = some r) :
  Calls Tryz.prog 283 #[.string a0, .int .u8 a1] w fun e w' => ∃ v0_ : Value, e = .returned (v0_) ∧ Kd.R Kd.string 9 w' w.heap.size (fun _ => True) v0_ r ∧ Below w.heap.size w w' := by
 have HB := aQ (Below.refl w.heap.size w); have H : (aU.l0 k a0 a1 (([] : List ByteArray)) 0 0) = some r := h; clear h; obtain ⟨yq0, hyq0⟩ : ∃ y_ : List ByteArray, y_ = (([] : List ByteArray)) := ⟨_, rfl⟩; replace H : (aU.l0 k a0 a1 yq0 0 0) = some r := by first | (rw [hyq0]; with_reducible exact H) | (rw [hyq0]; exact H)
 have Nyq0 := aQ hyq0; clear hyq0; have H' := aQ H; clear H; go_enter func283, ntmps283; go_wp2_with (first | ((with_reducible refine gate_dst (N := 8) rfl ?_); refine Kd.B0 Kd.string _ 9 ?hg (N := 8) ?hd (xs := ([] : List ByteArray)) (inner := []) (ok := fun _ => True) (okp := fun _ => True) ?hr ?hp (fun _ hk => hk) trivial (Below.refl _ _) (Nat.le_refl _) (by simp) ?_; (case hd => rfl); (case hg => rfl); (case hr => first | (go_simp; done) | (go_simp; rfl)); (case hp => exact (Reps.none _ _)); intro vq1 w3 ho4 hb hg_ hnew_; clear hg_ hnew_; (first | rw [← Nyq0.out] at ho4 | (simp only [Int.reduceToNat] at ho4; rw [← Nyq0.out] at ho4)); have HOq2 := aQ (Kd.p5 ho4 (ab (af HB))); replace HB := bs HB hb; clear hb ho4))
 go_loopg [5, 6, 7] k (fun kq v5 v6 v7 w' => ∃ (x5_1 : List ByteArray) (x6_1 : Int) (x7_1 : Int), v6 = .int .i64 x6_1 ∧ v7 = .int .i64 x7_1 ∧ Aside0 (aU.l0 kq a0 a1 x5_1 x6_1 x7_1 = some r) ∧ Aside0 (kq ≤ k) ∧ Aside0 (Kd.R Kd.string 9 w' w.heap.size (fun _ => True) v5 x5_1) ∧ Aside0 (Below w.heap.size w w'))
 case atStart => exact ⟨(yq0), (0), (0), rs_, rs_, H', ⟨Nat.le_refl _⟩, ⟨aa HOq2⟩, ⟨af HB⟩⟩
 clear H'; obtain ⟨x5_1, x6_1, x7_1, rfl, rfl, HA, HK1, HO_5, HB⟩ := hrel; rcases gk with _ | k1
 ·exact absurd HA.out (by simp [aU.l0])
 have H := HA.out; clear HA; simp only [aU.l0] at H; replace H := ckD H; obtain ⟨c5b0, H⟩ | ⟨c5b0, H⟩ := H
 ·replace H := ckE H; obtain ⟨c6b0, c6b1, H⟩ | ⟨c6, c6b0, c6b1, H⟩ := H
  ·replace H := gdB H; obtain ⟨c7b0, c7b1, H⟩ := H; replace H := gdB H; obtain ⟨c8b0, c8b1, H⟩ := H; have c9b0 := eq_true (of_decide_eq_true as_ : x7_1 ≤ (a0.size : Int)); replace H := gdA H; obtain ⟨LMc10, H⟩ := H; obtain ⟨yq3, hyq3⟩ : ∃ y_ : List ByteArray, y_ = (x5_1 ++ [a0.extract (x6_1 : Int).toNat (x7_1 : Int).toNat]) := ⟨_, rfl⟩; replace H : (aU.l0 k1 a0 a1 yq3 (wrap64 (x7_1 + 1)) (wrap64 (x7_1 + 1))) = some r := by first | (rw [hyq3]; with_reducible exact H) | (rw [hyq3]; exact H)
   have Nyq3 := aQ hyq3; clear hyq3; have H' := aQ H; clear H; go_wp2_with (first | ((with_reducible refine gate_builtin (b := .append) (xs := #[.tmp 26, .tmp 31]) rfl ?_); at_builtin; refine Kd.z5 Kd.string (w0 := w) w.heap.size rfl (.tmp 26) (.tmp 31) 153 9 (.string ⟨#[]⟩) 16 rfl underlying153 na rfl (by decide) (by omega) u5 x5_1 (a0.extract (x6_1 : Int).toNat (x7_1 : Int).toNat) [.string (a0.extract (x6_1 : Int).toNat (x7_1 : Int).toNat)] (fun _ => True) (fun _ => False) rfl rfl ?aP (fun _ hk => hk.elim) ?aF ?aO ?aB ?aS ?aL ?_; (case aP => exact rfl); (case aB => exact (af HB)); (case aF => exact (fun _ _ => trivial)); (case aO => exact (aa HO_5)); (case aS => exact (ab (af HB))); (case aL => have := LMc10.out; omega); intro vq4 w11 ho hb hg hat; rw [← Nyq3.out] at ho; replace HB := aQ (hb); have HOq5 := aQ (ho); clear HO_5; clear ho hb hg hat))
   go_roundg k1
   case measure => exact omeg HK1
   case rel => exact ⟨(yq3), (wrap64 (x7_1 + 1)), (wrap64 (x7_1 + 1)), rs_, rs_, H', ⟨omeg HK1⟩, ⟨aa HOq5⟩, ⟨af HB⟩⟩
  ·replace H := gdD H; obtain ⟨c12b0, H⟩ := H; replace H := gdD H; obtain ⟨c13b0, H⟩ := H; replace H := ckE H; obtain ⟨c15b0, c15b1, H⟩ | ⟨c15, c15b0, c15b1, H⟩ := H
   ·replace H := gdB H; obtain ⟨c16b0, c16b1, H⟩ := H; replace H := gdB H; obtain ⟨c17b0, c17b1, H⟩ := H; have c18b0 := eq_true (of_decide_eq_true as_ : x7_1 ≤ (a0.size : Int)); replace H := gdA H; obtain ⟨LMc19, H⟩ := H; obtain ⟨yq6, hyq6⟩ : ∃ y_ : List ByteArray, y_ = (x5_1 ++ [a0.extract (x6_1 : Int).toNat (x7_1 : Int).toNat]) := ⟨_, rfl⟩; replace H : (aU.l0 k1 a0 a1 yq6 (wrap64 (x7_1 + 1)) (wrap64 (x7_1 + 1))) = some r := by first | (rw [hyq6]; with_reducible exact H) | (rw [hyq6]; exact H)
    have Nyq6 := aQ hyq6; clear hyq6; have H' := aQ H; clear H; have p14 : 0 ≤ (x7_1 : Int) := of_decide_eq_true as_; have q14 : x7_1 < (a0.size : Int) := of_decide_eq_true as_; have hx14 := eI a0 x7_1; replace p14 := eq_true p14; replace q14 := eq_true q14; go_wp2_with (first | ((with_reducible refine gate_builtin (b := .append) (xs := #[.tmp 26, .tmp 31]) rfl ?_); at_builtin; refine Kd.z5 Kd.string (w0 := w) w.heap.size rfl (.tmp 26) (.tmp 31) 153 9 (.string ⟨#[]⟩) 16 rfl underlying153 na rfl (by decide) (by omega) u5 x5_1 (a0.extract (x6_1 : Int).toNat (x7_1 : Int).toNat) [.string (a0.extract (x6_1 : Int).toNat (x7_1 : Int).toNat)] (fun _ => True) (fun _ => False) rfl rfl ?aP (fun _ hk => hk.elim) ?aF ?aO ?aB ?aS ?aL ?_; (case aP => exact rfl); (case aB => exact (af HB)); (case aF => exact (fun _ _ => trivial)); (case aO => exact (aa HO_5)); (case aS => exact (ab (af HB))); (case aL => have := LMc19.out; omega); intro vq7 w20 ho hb hg hat; rw [← Nyq6.out] at ho; replace HB := aQ (hb); have HOq8 := aQ (ho); clear HO_5; clear ho hb hg hat))
    go_roundg k1
    case measure => exact omeg HK1
    case rel => exact ⟨(yq6), (wrap64 (x7_1 + 1)), (wrap64 (x7_1 + 1)), rs_, rs_, H', ⟨omeg HK1⟩, ⟨aa HOq8⟩, ⟨af HB⟩⟩
   ·have H' := aQ H; clear H; have p14 : 0 ≤ (x7_1 : Int) := of_decide_eq_true as_; have q14 : x7_1 < (a0.size : Int) := of_decide_eq_true as_; have hx14 := eI a0 x7_1; replace p14 := eq_true p14; replace q14 := eq_true q14; go_wp2
    go_roundg k1
    case measure => exact omeg HK1
    case rel => exact ⟨(x5_1), (x6_1), (wrap64 (x7_1 + 1)), rs_, rs_, H', ⟨omeg HK1⟩, ⟨aa HO_5⟩, ⟨af HB⟩⟩
 ·obtain rfl := oj H; go_wp2
  go_ret
  exact ⟨_, re_, by refine pRx ?_; exact HO_5.out, af HB⟩
def aG.l0 : Nat → Int → Bool → ByteArray → Option (ByteArray)
 | 0, _, _, _ => none
 | k + 1, x0, x3, x4 => if x0 = 0 then (if x3 = true then (if 1 + x4.size ≤ 9223372036854775807 then (some ((⟨#[45]⟩ : ByteArray) ++ x4)) else (none)) else (some x4)) else (if (Int.tmod x0 10) < 0 then ((some (([(wrap64 (48 + (wrap64 (-(Int.tmod x0 10))))) % 256] : List Int) : List Int)).bind fun yq0 => (if (strOfNums yq0).size + x4.size ≤ 9223372036854775807 then (aG.l0 k (wrap64 (Int.tdiv x0 10)) x3 ((strOfNums yq0) ++ x4)) else (none))) else ((some (([(wrap64 (48 + (Int.tmod x0 10))) % 256] : List Int) : List Int)).bind fun yq1 => (if (strOfNums yq1).size + x4.size ≤ 9223372036854775807 then (aG.l0 k (wrap64 (Int.tdiv x0 10)) x3 ((strOfNums yq1) ++ x4)) else (none))))
def aG.f (k : Nat) (a0 : Int) : Option (ByteArray) := if a0 = 0 then (some (⟨#[48]⟩ : ByteArray)) else (aG.l0 k a0 (decide (a0 < 0)) (⟨#[]⟩ : ByteArray))
theorem aG.t8 : ∀ k, (∀ y0 y1 y2, LeO (aG.l0 k y0 y1 y2) (aG.l0 (k + 1) y0 y1 y2))
 | 0 => fun _ _ _ r h => by simp [aG.l0] at h
 | k + 1 => by
  have ih0 := aG.t8 k
  ·intro y0 y1 y2; unfold aG.l0; exact mn_
theorem aG.mono : ∀ a0 k, LeO (aG.f k a0) (aG.f (k + 1) a0) := by
 intro a0 k; have ih0 := aG.t8 k; unfold aG.f; exact mn_
theorem aG.o0 (k : Nat) (a0 : Int) (r : ByteArray) (w : World) (h : aG.f k a0 = some r) :
  CB Tryz.prog 295 #[.int .i64 a0] w (.string r) := by
 have HB := aQ (Below.refl w.heap.size w); have H := h; clear h; unfold aG.f at H; (try dsimp only at H); replace H := ckE H; obtain ⟨c2b0, c2b1, H⟩ | ⟨c2, c2b0, c2b1, H⟩ := H
 ·obtain rfl := oj H; go_enter func295, ntmps295; go_wp2
  go_ret
  exact ⟨re_, af HB⟩
 ·have H' := aQ H; clear H; go_enter func295, ntmps295; go_wp2
  go_loopg [0, 4] k (fun kq v0 v4 w' => ∃ (x0_1 : Int) (x4_1 : ByteArray), v0 = .int .i64 x0_1 ∧ v4 = .string x4_1 ∧ Aside0 (aG.l0 kq x0_1 (decide (a0 < 0)) x4_1 = some r) ∧ Aside0 (kq ≤ k) ∧ Aside0 (Below w.heap.size w w'))
  case atStart => exact ⟨(a0), ((⟨#[]⟩ : ByteArray)), rs_, rs_, H', ⟨Nat.le_refl _⟩, ⟨af HB⟩⟩
  clear H'; try clear c2
  try clear c2b0
  try clear c2b1
  obtain ⟨x0_1, x4_1, rfl, rfl, HA, HK1, HB⟩ := hrel; rcases gk with _ | k1
  ·exact absurd HA.out (by simp [aG.l0])
  have H := HA.out; clear HA; simp only [aG.l0] at H; replace H := ckE H; obtain ⟨c3b0, c3b1, H⟩ | ⟨c3, c3b0, c3b1, H⟩ := H
  ·by_cases c4 : (decide (a0 < 0)) = true
   ·rw [if_pos c4] at H; have c4b0 : (decide (a0 < 0)) = true := c4; (first | rw [c4b0] | skip); clear c4; replace H := gd H; obtain ⟨c5, H⟩ := H; have c5b0 := eq_true c5; have c5b1 := decide_eq_true c5; try have c5b2 : (9223372036854775807 < 1 + x4_1.size) = False := eq_false (Nat.not_lt.2 c5)
    obtain rfl := oj H; go_wp2
    go_ret
    exact ⟨re_, af HB⟩
   ·rw [if_neg c4] at H; have c4b0 : (decide (a0 < 0)) = false := by simpa using c4
    (first | rw [c4b0] | skip); clear c4
    obtain rfl := oj H; go_wp2
    go_ret
    exact ⟨re_, af HB⟩
  ·replace H := ckD H; obtain ⟨c6b0, H⟩ | ⟨c6b0, H⟩ := H
   ·obtain ⟨yq0, hyq0⟩ : ∃ y_ : List Int, y_ = (([(wrap64 (48 + (wrap64 (-(Int.tmod x0_1 10))))) % 256] : List Int)) := ⟨_, rfl⟩; replace H : (if (strOfNums yq0).size + x4_1.size ≤ 9223372036854775807 then (aG.l0 k1 (wrap64 (Int.tdiv x0_1 10)) (decide (a0 < 0)) ((strOfNums yq0) ++ x4_1)) else (none)) = some r := by first | (rw [hyq0]; with_reducible exact H) | (rw [hyq0]; exact H)
    have Nyq0 := aQ hyq0; clear hyq0; replace H := gd H; obtain ⟨c7, H⟩ := H; have c7b0 := eq_true c7; have c7b1 := decide_eq_true c7; try have c7b2 : (9223372036854775807 < (strOfNums yq0).size + x4_1.size) = False := eq_false (Nat.not_lt.2 c7)
    have H' := aQ H; clear H; go_wp2_with (first | ((with_reducible refine gate_dst (N := 21) rfl ?_); refine Kd.B0 (Kd.int .u8) _ 5 ?hg (N := 21) ?hd (xs := ([(wrap64 (48 + (wrap64 (-(Int.tmod x0_1 10))))) % 256] : List Int)) (inner := [.int .u8 ((wrap64 (48 + (wrap64 (-(Int.tmod x0_1 10))))) % 256)]) (ok := fun _ => True) (okp := fun _ => True) ?hr ?hp (fun _ hk => hk) trivial (Below.refl _ _) (Nat.le_refl _) (by simp) ?_; (case hd => rfl); (case hg => rfl); (case hr => first | (go_simp; done) | (go_simp; rfl)); (case hp => exact (Reps.one (show Kd.M (Kd.int .u8) _ _ _ ((wrap64 (48 + (wrap64 (-(Int.tmod x0_1 10))))) % 256) [.int .u8 ((wrap64 (48 + (wrap64 (-(Int.tmod x0_1 10))))) % 256)] from rfl) (Reps.none _ _))); intro vq2 w8 ho9 hb hg_ hnew_; clear hg_ hnew_; (first | rw [← Nyq0.out] at ho9 | (simp only [Int.reduceToNat] at ho9; rw [← Nyq0.out] at ho9)); have HOq3 := aQ (Kd.p5 ho9 (ab (af HB))); replace HB := bs HB hb; clear hb ho9; have hcv10 := f7 (P := Tryz.prog) underlying22 underlying5 underlying9 (Kd.own_of_R HOq3.out)))
    go_roundg k1
    case measure => exact omeg HK1
    case rel => exact ⟨(wrap64 (Int.tdiv x0_1 10)), ((strOfNums yq0) ++ x4_1), rs_, rs_, H', ⟨omeg HK1⟩, ⟨af HB⟩⟩
   ·obtain ⟨yq1, hyq1⟩ : ∃ y_ : List Int, y_ = (([(wrap64 (48 + (Int.tmod x0_1 10))) % 256] : List Int)) := ⟨_, rfl⟩; replace H : (if (strOfNums yq1).size + x4_1.size ≤ 9223372036854775807 then (aG.l0 k1 (wrap64 (Int.tdiv x0_1 10)) (decide (a0 < 0)) ((strOfNums yq1) ++ x4_1)) else (none)) = some r := by first | (rw [hyq1]; with_reducible exact H) | (rw [hyq1]; exact H)
    have Nyq1 := aQ hyq1; clear hyq1; replace H := gd H; obtain ⟨c11, H⟩ := H; have c11b0 := eq_true c11; have c11b1 := decide_eq_true c11; try have c11b2 : (9223372036854775807 < (strOfNums yq1).size + x4_1.size) = False := eq_false (Nat.not_lt.2 c11)
    have H' := aQ H; clear H; go_wp2_with (first | ((with_reducible refine gate_dst (N := 21) rfl ?_); refine Kd.B0 (Kd.int .u8) _ 5 ?hg (N := 21) ?hd (xs := ([(wrap64 (48 + (Int.tmod x0_1 10))) % 256] : List Int)) (inner := [.int .u8 ((wrap64 (48 + (Int.tmod x0_1 10))) % 256)]) (ok := fun _ => True) (okp := fun _ => True) ?hr ?hp (fun _ hk => hk) trivial (Below.refl _ _) (Nat.le_refl _) (by simp) ?_; (case hd => rfl); (case hg => rfl); (case hr => first | (go_simp; done) | (go_simp; rfl)); (case hp => exact (Reps.one (show Kd.M (Kd.int .u8) _ _ _ ((wrap64 (48 + (Int.tmod x0_1 10))) % 256) [.int .u8 ((wrap64 (48 + (Int.tmod x0_1 10))) % 256)] from rfl) (Reps.none _ _))); intro vq4 w12 ho13 hb hg_ hnew_; clear hg_ hnew_; (first | rw [← Nyq1.out] at ho13 | (simp only [Int.reduceToNat] at ho13; rw [← Nyq1.out] at ho13)); have HOq5 := aQ (Kd.p5 ho13 (ab (af HB))); replace HB := bs HB hb; clear hb ho13; have hcv14 := f7 (P := Tryz.prog) underlying22 underlying5 underlying9 (Kd.own_of_R HOq5.out)))
    go_roundg k1
    case measure => exact omeg HK1
    case rel => exact ⟨(wrap64 (Int.tdiv x0_1 10)), ((strOfNums yq1) ++ x4_1), rs_, rs_, H', ⟨omeg HK1⟩, ⟨af HB⟩⟩
mutual
def aC.j0 : Nat → ByteArray → Int → Bool → Option (Int × Bool)
 | 0, _, _, _ => none
 | k + 1, x0, x1, x6 => if x6 = true then (if 1 ≤ (x0.size : Int) then (aC.j1 k x0 x1 x6 (x0.extract 1 x0.size)) else (none)) else (aC.j1 k x0 x1 x6 x0)
def aC.j1 : Nat → ByteArray → Int → Bool → ByteArray → Option (Int × Bool)
 | 0, _, _, _, _ => none
 | k + 1, x0, x1, x6, x7 => if (x7.size : Int) < 1 then (aC.j2 k x0 x6 x7 true) else (aC.j2 k x0 x6 x7 (decide ((x7.size : Int) > x1)))
def aC.j2 : Nat → ByteArray → Bool → ByteArray → Bool → Option (Int × Bool)
 | 0, _, _, _, _ => none
 | k + 1, x0, x6, x7, x30 => if x30 = true then (some (0, false)) else (aC.l0 k x0 x6 x7 0 0)
def aC.l0 : Nat → ByteArray → Bool → ByteArray → Int → Int → Option (Int × Bool)
 | 0, _, _, _, _, _ => none
 | k + 1, x0, x6, x7, x8, x9 => if x9 < (x7.size : Int) then (if 0 ≤ x9 then (if (bt x7 x9) < 48 then (some (0, false)) else (if (bt x7 x9) > 57 then (some (0, false)) else (aC.l0 k x0 x6 x7 (wrap64 ((wrap64 (10 * x8)) + (((bt x7 x9) - 48) % 256))) (wrap64 (x9 + 1))))) else (none)) else (if x6 = true then ((aG.f k (wrap64 (-x8))).bind fun tq0 => (if tq0.toList = x0.toList then (some (wrap64 (-x8), true)) else (some (0, false)))) else ((aG.f k x8).bind fun tq1 => (if tq1.toList = x0.toList then (some (x8, true)) else (some (0, false)))))
end
def aC.f (k : Nat) (a0 : ByteArray) (a1 : Int) : Option (Int × Bool) := if (a0.size : Int) > 0 then (if 0 < (a0.size : Int) then (aC.j0 k a0 a1 ((bt a0 0) == 45)) else (none)) else (aC.j0 k a0 a1 false)
theorem aC.t8 : ∀ k, (∀ y0 y1 y2, LeO (aC.j0 k y0 y1 y2) (aC.j0 (k + 1) y0 y1 y2)) ∧ (∀ y0 y1 y2 y3, LeO (aC.j1 k y0 y1 y2 y3) (aC.j1 (k + 1) y0 y1 y2 y3)) ∧ (∀ y0 y1 y2 y3, LeO (aC.j2 k y0 y1 y2 y3) (aC.j2 (k + 1) y0 y1 y2 y3)) ∧ (∀ y0 y1 y2 y3 y4, LeO (aC.l0 k y0 y1 y2 y3 y4) (aC.l0 (k + 1) y0 y1 y2 y3 y4))
 | 0 => ⟨fun _ _ _ r h => by simp [aC.j0] at h, fun _ _ _ _ r h => by simp [aC.j1] at h, fun _ _ _ _ r h => by simp [aC.j2] at h, fun _ _ _ _ _ r h => by simp [aC.l0] at h⟩
 | k + 1 => by
  obtain ⟨ih0, ih1, ih2, ih3⟩ := aC.t8 k; refine ⟨?_, ?_, ?_, ?_⟩
  ·intro y0 y1 y2; unfold aC.j0
   repeat' first | (with_reducible first | exact ih0 _ _ _ | exact ih1 _ _ _ _ | exact ih2 _ _ _ _ | exact ih3 _ _ _ _ _ | exact aG.mono _ _ | exact LeO.refl _ | exact LeO.none _ | refine LeO.ite ?_ ?_ | refine LeO.bind ?_ (fun _ => ?_)) | exact ih0 _ _ _ | exact ih1 _ _ _ _ | exact ih2 _ _ _ _ | exact ih3 _ _ _ _ _ | exact LeO.none _ | refine LeO.ite ?_ ?_ | refine LeO.bind ?_ (fun _ => ?_)
  ·intro y0 y1 y2 y3; unfold aC.j1
   repeat' first | (with_reducible first | exact ih0 _ _ _ | exact ih1 _ _ _ _ | exact ih2 _ _ _ _ | exact ih3 _ _ _ _ _ | exact aG.mono _ _ | exact LeO.refl _ | exact LeO.none _ | refine LeO.ite ?_ ?_ | refine LeO.bind ?_ (fun _ => ?_)) | exact ih0 _ _ _ | exact ih1 _ _ _ _ | exact ih2 _ _ _ _ | exact ih3 _ _ _ _ _ | exact LeO.none _ | refine LeO.ite ?_ ?_ | refine LeO.bind ?_ (fun _ => ?_)
  ·intro y0 y1 y2 y3; unfold aC.j2
   repeat' first | (with_reducible first | exact ih0 _ _ _ | exact ih1 _ _ _ _ | exact ih2 _ _ _ _ | exact ih3 _ _ _ _ _ | exact aG.mono _ _ | exact LeO.refl _ | exact LeO.none _ | refine LeO.ite ?_ ?_ | refine LeO.bind ?_ (fun _ => ?_)) | exact ih0 _ _ _ | exact ih1 _ _ _ _ | exact ih2 _ _ _ _ | exact ih3 _ _ _ _ _ | exact LeO.none _ | refine LeO.ite ?_ ?_ | refine LeO.bind ?_ (fun _ => ?_)
  ·intro y0 y1 y2 y3 y4; unfold aC.l0
   repeat' first | (with_reducible first | exact ih0 _ _ _ | exact ih1 _ _ _ _ | exact ih2 _ _ _ _ | exact ih3 _ _ _ _ _ | exact aG.mono _ _ | exact LeO.refl _ | exact LeO.none _ | refine LeO.ite ?_ ?_ | refine LeO.bind ?_ (fun _ => ?_)) | exact ih0 _ _ _ | exact ih1 _ _ _ _ | exact ih2 _ _ _ _ | exact ih3 _ _ _ _ _ | exact LeO.none _ | refine LeO.ite ?_ ?_ | refine LeO.bind ?_ (fun _ => ?_)
theorem aC.mono : ∀ a0 a1 k, LeO (aC.f k a0 a1) (aC.f (k + 1) a0 a1) := by
 intro a0 a1 k; obtain ⟨ih0, ih1, ih2, ih3⟩ := aC.t8 k; unfold aC.f
 repeat' first | (with_reducible first | exact ih0 _ _ _ | exact ih1 _ _ _ _ | exact ih2 _ _ _ _ | exact ih3 _ _ _ _ _ | exact aG.mono _ _ | exact LeO.refl _ | exact LeO.none _ | refine LeO.ite ?_ ?_ | refine LeO.bind ?_ (fun _ => ?_)) | exact ih0 _ _ _ | exact ih1 _ _ _ _ | exact ih2 _ _ _ _ | exact ih3 _ _ _ _ _ | exact LeO.none _ | refine LeO.ite ?_ ?_ | refine LeO.bind ?_ (fun _ => ?_)
theorem aC.o0 (k : Nat) (a0 : ByteArray) (a1 : Int) (r1 : Int) (r2 : Bool) (w : World) (h : aC.f k a0 a1 = some (r1, r2)) :
  CB Tryz.prog 292 #[.string a0, .int .i64 a1] w (.tuple #[.int .i64 r1, .bool r2]) := by
 have HB := aQ (Below.refl w.heap.size w); have H := h; clear h; unfold aC.f at H; (try dsimp only at H); have HC3 := aQ H; clear H; go_enter func292, ntmps292; go_upto_region 1 with (fail)
 go_cut [6] (fun v6 wc => ∃ (kq : Nat) (x6_2 : Bool), v6 = .bool x6_2 ∧ Aside0 (aC.j0 kq a0 a1 x6_2 = some (r1, r2)) ∧ Aside0 (kq ≤ k) ∧ Aside0 (Below w.heap.size w wc))
 case first =>
  have H := HC3.out; clear HC3; by_cases c4 : (a0.size : Int) > 0
  ·rw [if_pos c4] at H; have c4b0 := decide_eq_true c4; have c4b1 : decide (0 < a0.size) = true := decide_eq_true (by omega); clear c4; (first | rw [c4b0] | (simp only [i64_w, dm]; rw [c4b0]) | skip); replace H := gd H; obtain ⟨c5, H⟩ := H; have c5b0 := decide_eq_true c5; have c5b1 : decide (0 < a0.size) = true := decide_eq_true (by omega); clear c5; have H' := aQ H; clear H; have p6 : 0 ≤ (0 : Int) := (by omega); have q6 : 0 < a0.size := (by have : (0 : Int) < (a0.size : Int) := of_decide_eq_true as_; omega); have hx6 : ∀ h : 0 < a0.size, ((a0[0]'h).toNat : Int) = bt a0 0 := eI a0 0; clear p6; have qi6 : (0 < (a0.size : Int)) = True := eq_true (of_decide_eq_true as_); replace q6 := eq_true q6; go_wp2
   go_meet
   case rel => exact ⟨_, (((bt a0 0) == 45)), rs_, H', ⟨by first | omega | exact Nat.le_refl _⟩, ⟨af HB⟩⟩
  ·rw [if_neg c4] at H; have c4b0 := decide_eq_false c4; have c4b1 : decide (0 < a0.size) = false := decide_eq_false (by omega); clear c4; (first | rw [c4b0] | (simp only [i64_w, dm]; rw [c4b0]) | skip); have H' := aQ H; clear H; go_wp2
   go_meet
   case rel => exact ⟨_, (false), rs_, H', ⟨by first | omega | exact Nat.le_refl _⟩, ⟨af HB⟩⟩
 case rest =>
  clear HC3; obtain ⟨kq, x6_2, rfl, HA, HJ2, HB⟩ := hcut; cases kq with
  | zero => exact absurd HA.out (by simp [aC.j0])
  | succ kj2 =>
   have H := HA.out; clear HA; simp only [aC.j0] at H; have HC7 := aQ H; clear H; go_upto_if 19 with (fail)
   go_cut [7] (fun v7 wc => ∃ (kq : Nat) (x7_6 : ByteArray), v7 = .string x7_6 ∧ Aside0 (aC.j1 kq a0 a1 x6_2 x7_6 = some (r1, r2)) ∧ Aside0 (kq ≤ kj2) ∧ Aside0 (Below w.heap.size w wc))
   case first =>
    have H := HC7.out; clear HC7; replace H := ckB H; obtain ⟨rfl, H⟩ | ⟨rfl, H⟩ := H
    ·replace H := gdB H; obtain ⟨c9b0, c9b1, H⟩ := H; have H' := aQ H; clear H; go_wp2
     go_meet
     case rel => exact ⟨_, (a0.extract 1 a0.size), rs_, H', ⟨by have := HJ2.out; first | omega | exact Nat.le_refl _⟩, ⟨af HB⟩⟩
    ·have H' := aQ H; clear H; go_wp2
     go_meet
     case rel => exact ⟨_, (a0), rs_, H', ⟨by have := HJ2.out; first | omega | exact Nat.le_refl _⟩, ⟨af HB⟩⟩
   case rest =>
    clear HC7; obtain ⟨kq, x7_6, rfl, HA, HJ6, HB⟩ := hcut; cases kq with
    | zero => exact absurd HA.out (by simp [aC.j1])
    | succ kj6 =>
     have H := HA.out; clear HA; simp only [aC.j1] at H; have HC10 := aQ H; clear H; go_upto_region 5 with (fail)
     go_cut [30] (fun v30 wc => ∃ (kq : Nat) (x30_9 : Bool), v30 = .bool x30_9 ∧ Aside0 (aC.j2 kq a0 x6_2 x7_6 x30_9 = some (r1, r2)) ∧ Aside0 (kq ≤ kj6) ∧ Aside0 (Below w.heap.size w wc))
     case first =>
      have H := HC10.out; clear HC10; by_cases c11 : (x7_6.size : Int) < 1
      ·rw [if_pos c11] at H; have c11b0 := decide_eq_true c11; have c11b1 : decide (x7_6.size < 1) = true := decide_eq_true (by omega); clear c11; (first | rw [c11b0] | (simp only [i64_w, dm]; rw [c11b0]) | skip); have H' := aQ H; clear H; go_wp2
       go_meet
       case rel => exact ⟨_, (true), rs_, H', ⟨by have := HJ2.out; have := HJ6.out; first | omega | exact Nat.le_refl _⟩, ⟨af HB⟩⟩
      ·rw [if_neg c11] at H; have c11b0 := decide_eq_false c11; have c11b1 : decide (x7_6.size < 1) = false := decide_eq_false (by omega); clear c11; (first | rw [c11b0] | (simp only [i64_w, dm]; rw [c11b0]) | skip); have H' := aQ H; clear H; go_wp2
       go_meet
       case rel => exact ⟨_, (decide ((x7_6.size : Int) > a1)), rs_, H', ⟨by have := HJ2.out; have := HJ6.out; first | omega | exact Nat.le_refl _⟩, ⟨af HB⟩⟩
     case rest =>
      clear HC10; obtain ⟨kq, x30_9, rfl, HA, HJ9, HB⟩ := hcut; cases kq with
      | zero => exact absurd HA.out (by simp [aC.j2])
      | succ kj9 =>
       have H := HA.out; clear HA; simp only [aC.j2] at H; replace H := ckB H; obtain ⟨rfl, H⟩ | ⟨rfl, H⟩ := H
       ·obtain ⟨rfl, rfl⟩ := o2 H; go_wp2
        go_ret2
        exact ⟨re_, af HB⟩
       ·have H' := aQ H; clear H; go_wp2
        go_loopg [8, 9] kj9 (fun kq v8 v9 w' => ∃ (x8_4 : Int) (x9_4 : Int), v8 = .int .i64 x8_4 ∧ v9 = .int .i64 x9_4 ∧ Aside0 (aC.l0 kq a0 x6_2 x7_6 x8_4 x9_4 = some (r1, r2)) ∧ Aside0 (kq ≤ kj9) ∧ Aside0 (Below w.heap.size w w'))
        case atStart => exact ⟨(0), (0), rs_, rs_, H', ⟨Nat.le_refl _⟩, ⟨af HB⟩⟩
        clear H'; try clear c12
        obtain ⟨x8_4, x9_4, rfl, rfl, HA, HK4, HB⟩ := hrel; rcases gk with _ | k4
        ·exact absurd HA.out (by simp [aC.l0])
        have H := HA.out; clear HA; simp only [aC.l0] at H; replace H := ckD H; obtain ⟨c13b0, H⟩ | ⟨c13b0, H⟩ := H
        ·replace H := gdD H; obtain ⟨c14b0, H⟩ := H; replace H := ckD H; obtain ⟨c16b0, H⟩ | ⟨c16b0, H⟩ := H
         ·obtain ⟨rfl, rfl⟩ := o2 H; have p15 : 0 ≤ (x9_4 : Int) := of_decide_eq_true as_; have q15 : x9_4 < (x7_6.size : Int) := of_decide_eq_true as_; have hx15 := eI x7_6 x9_4; replace p15 := eq_true p15; replace q15 := eq_true q15; go_wp2
          go_ret2
          exact ⟨re_, af HB⟩
         ·replace H := ckD H; obtain ⟨c18b0, H⟩ | ⟨c18b0, H⟩ := H
          ·obtain ⟨rfl, rfl⟩ := o2 H; have p15 : 0 ≤ (x9_4 : Int) := of_decide_eq_true as_; have q15 : x9_4 < (x7_6.size : Int) := of_decide_eq_true as_; have hx15 := eI x7_6 x9_4; replace p15 := eq_true p15; replace q15 := eq_true q15; have p17 : 0 ≤ (x9_4 : Int) := of_decide_eq_true as_; have q17 : x9_4 < (x7_6.size : Int) := of_decide_eq_true as_; have hx17 := eI x7_6 x9_4; replace p17 := eq_true p17; replace q17 := eq_true q17; go_wp2
           go_ret2
           exact ⟨re_, af HB⟩
          ·have H' := aQ H; clear H; have p15 : 0 ≤ (x9_4 : Int) := of_decide_eq_true as_; have q15 : x9_4 < (x7_6.size : Int) := of_decide_eq_true as_; have hx15 := eI x7_6 x9_4; replace p15 := eq_true p15; replace q15 := eq_true q15; have p17 : 0 ≤ (x9_4 : Int) := of_decide_eq_true as_; have q17 : x9_4 < (x7_6.size : Int) := of_decide_eq_true as_; have hx17 := eI x7_6 x9_4; replace p17 := eq_true p17; replace q17 := eq_true q17; have p19 : 0 ≤ (x9_4 : Int) := of_decide_eq_true as_; have q19 : x9_4 < (x7_6.size : Int) := of_decide_eq_true as_; have hx19 := eI x7_6 x9_4; replace p19 := eq_true p19; replace q19 := eq_true q19; go_wp2
           go_roundg k4
           case measure => have := HJ2.out; have := HJ6.out; have := HJ9.out; have := HK4.out; omega
           case rel => exact ⟨(wrap64 ((wrap64 (10 * x8_4)) + (((bt x7_6 x9_4) - 48) % 256))), (wrap64 (x9_4 + 1)), rs_, rs_, H', ⟨by have := HJ2.out; have := HJ6.out; have := HJ9.out; have := HK4.out; omega⟩, ⟨af HB⟩⟩
        ·replace H := ckB H; obtain ⟨rfl, H⟩ | ⟨rfl, H⟩ := H
         ·replace H := bo H; obtain ⟨tq0, A21, H⟩ := H; replace H := ckE H; obtain ⟨c22b0, c22b1, H⟩ | ⟨c22, c22b0, c22b1, H⟩ := H
          ·obtain ⟨rfl, rfl⟩ := o2 H; go_wp2_with (first | (refine gt 295 ?_; refine gcB (some 59) func295 (aG.o0 k4 (wrap64 (-x8_4)) tq0 _ A21.out) ?_; intro w23 hb; replace HB := bs HB hb; (try clear hb)))
           go_ret2
           exact ⟨re_, af HB⟩
          ·obtain ⟨rfl, rfl⟩ := o2 H; go_wp2_with (first | (refine gt 295 ?_; refine gcB (some 59) func295 (aG.o0 k4 (wrap64 (-x8_4)) tq0 _ A21.out) ?_; intro w24 hb; replace HB := bs HB hb; (try clear hb)))
           go_ret2
           exact ⟨re_, af HB⟩
         ·replace H := bo H; obtain ⟨tq1, A25, H⟩ := H; replace H := ckE H; obtain ⟨c26b0, c26b1, H⟩ | ⟨c26, c26b0, c26b1, H⟩ := H
          ·obtain ⟨rfl, rfl⟩ := o2 H; go_wp2_with (first | (refine gt 295 ?_; refine gcB (some 59) func295 (aG.o0 k4 x8_4 tq1 _ A25.out) ?_; intro w27 hb; replace HB := bs HB hb; (try clear hb)))
           go_ret2
           exact ⟨re_, af HB⟩
          ·obtain ⟨rfl, rfl⟩ := o2 H; go_wp2_with (first | (refine gt 295 ?_; refine gcB (some 59) func295 (aG.o0 k4 x8_4 tq1 _ A25.out) ?_; intro w28 hb; replace HB := bs HB hb; (try clear hb)))
           go_ret2
           exact ⟨re_, af HB⟩
def cW.f (k : Nat) (a0 : ByteArray) : Option (Int × Bool) := (aC.f k a0 12).bind fun btq0 => (some (btq0.1, btq0.2))
theorem cW.mono : ∀ a0 k, LeO (cW.f k a0) (cW.f (k + 1) a0) := by
 intro a0 k; unfold cW.f
 repeat' first | (with_reducible first | exact aC.mono _ _ _ | exact LeO.refl _ | exact LeO.none _ | refine LeO.ite ?_ ?_ | refine LeO.bind ?_ (fun _ => ?_)) | exact LeO.none _ | refine LeO.ite ?_ ?_ | refine LeO.bind ?_ (fun _ => ?_)
theorem cW.o0 (k : Nat) (a0 : ByteArray) (r1 : Int) (r2 : Bool) (w : World) (h : cW.f k a0 = some (r1, r2)) :
  CB Tryz.prog 284 #[.string a0] w (.tuple #[.int .i64 r1, .bool r2]) := by
 have HB := aQ (Below.refl w.heap.size w); have H := h; clear h; unfold cW.f at H; (try dsimp only at H); replace H := bo H; obtain ⟨⟨tq0, tq1⟩, A2, H⟩ := H; (try dsimp only at H); obtain ⟨rfl, rfl⟩ := o2 H; go_enter func284, ntmps284; go_wp2_with (first | (refine gt 292 ?_; refine gcB (some 5) func292 (aC.o0 k a0 12 tq0 tq1 _ A2.out) ?_; intro w3 hb; replace HB := bs HB hb; (try clear hb)))
 go_ret2
 exact ⟨re_, af HB⟩
end Go.Proofs.YtimkekeaeojpkaaGreat.A
