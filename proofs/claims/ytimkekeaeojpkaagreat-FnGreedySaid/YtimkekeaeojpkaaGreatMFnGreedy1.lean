/- Machine side of the law FnGreedy: Go functions as Lean functions, and proofs that calls come to what these tell. Conditions: those in each theorem. -/
import Derived.Test.YtimkekeaeojpkaaGreatMFnGreedywRepsOne
import Derived.Test.YtimkekeaeojpkaaGreatMFnGreedy0
import Derived.Test.YtimkekeaeojpkaaGreatMFnGreedyq0
set_option maxHeartbeats 8000000
set_option maxRecDepth 100000
namespace Go.Proofs.YtimkekeaeojpkaaGreat.A
open Go.RowKit Go.Proofs.YtimkekeaeojpkaaGreatW.PrintWords Go.Proofs.YtimkekeaeojpkaaGreatW.PrintLast Go.Proofs.YtimkekeaeojpkaaGreatW.PrintMore
attribute [local go_sem] cC cE cW cX co cp cD cG
set_option linter.unusedVariables false
set_option linter.unusedSimpArgs false
def laws_big.f (l0 : List Int) : Option (Bool) := some (decide ((l0.length : Int) > 1048576))
theorem laws_big.calls (A0 : Option Addr) (c0 : Nat) (l0 : List Int) (r : Bool) (w : World) (hr0 : Kd.C (Kd.int .u8) w A0 l0.length l0) (hc0 : l0.length ≤ c0) (h : laws_big.f l0 = some r) :
  Calls Tryz.prog 8 #[.slice A0 l0.length c0] w fun e w' => e = .returned (.bool r) ∧ Drawn0 w w' := by
 have HR0 := aQ hr0
 have HC0 := aQ hc0
 clear hr0 hc0
 have H : (some (decide ((l0.length : Int) > 1048576))) = some r := h
 clear h
 obtain rfl := Option.some.inj H
 go_enter Tryz.func8, Tryz.ntmps8
 go_wp2
 go_ret
 exact ⟨rs_, rd_⟩
def a5.f (a0 : Int) (a1 : Int) (a2 : Int) : Option (Bool) := if a0 ≥ a1 then (some (decide (a0 ≤ a2))) else (some false)
theorem a5.calls (a0 : Int) (a1 : Int) (a2 : Int) (r : Bool) (w : World) (h : a5.f a0 a1 a2 = some r) :
  Calls Tryz.prog 116 #[.int .i64 a0, .int .i64 a1, .int .i64 a2] w fun e w' => e = .returned (.bool r) ∧ Drawn0 w w' := by
 have H : (if a0 ≥ a1 then (some (decide (a0 ≤ a2))) else (some false)) = some r := h
 clear h
 by_cases c4 : a0 ≥ a1
 ·rw [if_pos c4] at H
  have c4b0 := decide_eq_true c4
  clear c4
  obtain rfl := Option.some.inj H
  go_enter Tryz.func116, Tryz.ntmps116
  go_wp2
  go_ret
  exact ⟨rs_, rd_⟩
 ·rw [if_neg c4] at H
  have c4b0 := decide_eq_false c4
  clear c4
  obtain rfl := Option.some.inj H
  go_enter Tryz.func116, Tryz.ntmps116
  go_wp2
  go_ret
  exact ⟨rs_, rd_⟩
def aZ.f (a0 : Int) (a1 : Int) : Option (Bool) := (a5.f a0 0 8).bind fun tq0 => (if tq0 = true then (if 0 ≤ (IntKind.u64.wrap (a0)) then ((a5.f a1 0 (wrap64 ((shl .i64 1 (IntKind.u64.wrap (a0))) - 1))).bind fun tq1 => (some tq1)) else (none)) else (some false))
theorem aZ.calls (a0 : Int) (a1 : Int) (r : Bool) (w : World) (h : aZ.f a0 a1 = some r) :
  Calls Tryz.prog 112 #[.int .i64 a0, .int .i64 a1] w fun e w' => e = .returned (.bool r) ∧ Drawn0 w w' := by
 have H := h
 clear h
 unfold aZ.f at H
 (try dsimp only at H)
 replace H := bo H; obtain ⟨tq0, A3, H⟩ := H
 (try dsimp only at H)
 by_cases c4 : tq0 = true
 ·subst c4
  rw [if_pos rfl] at H
  obtain ⟨ji5, hji5⟩ : ∃ j_ : Int, (IntKind.u64.wrap (a0)) = j_ := ⟨_, rfl⟩
  replace H : (if 0 ≤ (ji5) then ((a5.f a1 0 (wrap64 ((shl .i64 1 (ji5)) - 1))).bind fun tq1 => (some tq1)) else (none)) = some r := by first | (rw [hji5] at H; exact H) | (simp only [hji5] at H ⊢; exact H)
  (try rw [hji5] at A3)
  replace H := gd H; obtain ⟨c6, H⟩ := H
  have c6b0 := eq_true c6
  have c6b1 := decide_eq_true c6
  clear c6
  obtain ⟨ji7, hji7⟩ : ∃ j_ : Int, (shl .i64 1 (ji5)) = j_ := ⟨_, rfl⟩
  replace H : ((a5.f a1 0 (wrap64 ((ji7) - 1))).bind fun tq1 => (some tq1)) = some r := by first | (rw [hji7] at H; exact H) | (simp only [hji7] at H ⊢; exact H)
  (try rw [hji7] at A3)
  have hji7_ : (IntKind.i64.wrap (1 * 2 ^ min (ji5).toNat 64)) = ji7 := hji7
  have hji7z : (ji5) ≤ 64 → (IntKind.i64.wrap (1 * 2 ^ (ji5).toNat)) = ji7 := cP hji7
  have hji7u : (IntKind.i64.wrap (2 ^ min (ji5).toNat 64)) = ji7 := by have h_ := hji7_; rw [Int.one_mul] at h_; exact h_
  have hji7v : (ji5) ≤ 64 → (IntKind.i64.wrap (2 ^ (ji5).toNat)) = ji7 := fun hle_ => by have h_ := hji7z hle_; rw [Int.one_mul] at h_; exact h_
  have hji7y : (wrap64 (1 * 2 ^ min (ji5).toNat 64)) = ji7 := (i64_w _).symm.trans hji7_
  have hji7x : (ji5) ≤ 64 → (wrap64 (1 * 2 ^ (ji5).toNat)) = ji7 := fun h_ => (i64_w _).symm.trans (hji7z h_)
  replace H := bo H; obtain ⟨tq1, A8, H⟩ := H
  (try dsimp only at H)
  obtain rfl := Option.some.inj H
  go_enter Tryz.func112, Tryz.ntmps112
  go_wp2_with (first | (refine gq 116 (some 6) Tryz.func116 #[.int .i64 a0, .int .i64 0, .int .i64 8] ?_; (with_reducible refine (a5.calls a0 0 8 true _ A3.out).mono ?_); rintro e w' ⟨rfl, ⟨nd, rfl⟩⟩; refine ⟨_, rfl, ?_⟩) | (go_at_call 116; (with_reducible refine (a5.calls a1 0 (wrap64 ((ji7) - 1)) tq1 _ A8.out).mono ?_); rintro e w' ⟨rfl, ⟨nd, rfl⟩⟩))
  go_ret
  exact ⟨by first | rfl | (simp; done) | (simp only [← hji5, ← hji7] <;> (first | rfl | simp)) | (simp [*]; done), rd_⟩
 ·replace c4 := Bool.eq_false_iff.mpr c4
  subst c4
  have H1 : (some false) = some r := by rw [if_neg (show ¬ (false = true) by decide)] at H; exact H
  clear H
  have H := H1
  clear H1
  obtain rfl := Option.some.inj H
  go_enter Tryz.func112, Tryz.ntmps112
  go_wp2_with (first | (refine gq 116 (some 6) Tryz.func116 #[.int .i64 a0, .int .i64 0, .int .i64 8] ?_; (with_reducible refine (a5.calls a0 0 8 false _ A3.out).mono ?_); rintro e w' ⟨rfl, ⟨nd, rfl⟩⟩; refine ⟨_, rfl, ?_⟩))
  go_ret
  exact ⟨rs_, rd_⟩
def aT.f (a0 : Int) (a1 : Int) : Option (Bool) := if 0 ≤ (IntKind.u64.wrap (a1)) then (some ((Go.bits .and .i64 (shr .i64 a0 (IntKind.u64.wrap (a1))) 1) == 1)) else (none)
theorem aT.calls (a0 : Int) (a1 : Int) (r : Bool) (w : World) (h : aT.f a0 a1 = some r) :
  Calls Tryz.prog 124 #[.int .i64 a0, .int .i64 a1] w fun e w' => e = .returned (.bool r) ∧ Drawn0 w w' := by
 have H := h
 clear h
 unfold aT.f at H
 (try dsimp only at H)
 obtain ⟨ji3, hji3⟩ : ∃ j_ : Int, (IntKind.u64.wrap (a1)) = j_ := ⟨_, rfl⟩
 replace H : (if 0 ≤ (ji3) then (some ((Go.bits .and .i64 (shr .i64 a0 (ji3)) 1) == 1)) else (none)) = some r := by first | (rw [hji3] at H; exact H) | (simp only [hji3] at H ⊢; exact H)
 replace H := gd H; obtain ⟨c4, H⟩ := H
 have c4b0 := eq_true c4
 have c4b1 := decide_eq_true c4
 clear c4
 obtain ⟨ji5, hji5⟩ : ∃ j_ : Int, (shr .i64 a0 (ji3)) = j_ := ⟨_, rfl⟩
 replace H : (some ((Go.bits .and .i64 (ji5) 1) == 1)) = some r := by first | (rw [hji5] at H; exact H) | (simp only [hji5] at H ⊢; exact H)
 have hji5_ : (a0 / 2 ^ min (ji3).toNat 64) = ji5 := hji5
 have hji5z : (ji3) ≤ 64 → (a0 / 2 ^ (ji3).toNat) = ji5 := iE hji5
 obtain rfl := Option.some.inj H
 go_enter Tryz.func124, Tryz.ntmps124
 go_wp2
 go_ret
 exact ⟨by first | rfl | (simp; done) | (simp only [← hji3, ← hji5] <;> (first | rfl | simp)) | (simp [*]; done), rd_⟩
def bJ.f (a0 : Int) (a1 : Int) : Option (Bool) := (aZ.f 8 a0).bind fun tq0 => (if tq0 = true then ((a5.f a1 0 7).bind fun tq1 => (if tq1 = true then ((aT.f a0 a1).bind fun tq2 => (some tq2)) else (some false))) else (some false))
theorem bJ.calls (a0 : Int) (a1 : Int) (r : Bool) (w : World) (h : bJ.f a0 a1 = some r) :
  Calls Tryz.prog 41 #[.int .i64 a0, .int .i64 a1] w fun e w' => e = .returned (.bool r) ∧ Drawn0 w w' := by
 have H := h
 clear h
 unfold bJ.f at H
 (try dsimp only at H)
 replace H := bo H; obtain ⟨tq0, A3, H⟩ := H
 (try dsimp only at H)
 by_cases c4 : tq0 = true
 ·subst c4
  rw [if_pos rfl] at H
  replace H := bo H; obtain ⟨tq1, A5, H⟩ := H
  (try dsimp only at H)
  by_cases c6 : tq1 = true
  ·subst c6
   rw [if_pos rfl] at H
   replace H := bo H; obtain ⟨tq2, A7, H⟩ := H
   (try dsimp only at H)
   obtain rfl := Option.some.inj H
   go_enter Tryz.func41, Tryz.ntmps41
   go_wp2_with (first | (refine gq 112 (some 6) Tryz.func112 #[.int .i64 8, .int .i64 a0] ?_; (with_reducible refine (aZ.calls 8 a0 true _ A3.out).mono ?_); rintro e w' ⟨rfl, ⟨nd, rfl⟩⟩; refine ⟨_, rfl, ?_⟩) | (go_at_call 116; (with_reducible refine (a5.calls a1 0 7 true _ A5.out).mono ?_); rintro e w' ⟨rfl, ⟨nd, rfl⟩⟩) | (go_at_call 124; (with_reducible refine (aT.calls a0 a1 tq2 _ A7.out).mono ?_); rintro e w' ⟨rfl, ⟨nd, rfl⟩⟩))
   go_ret
   exact ⟨rs_, rd_⟩
  ·replace c6 := Bool.eq_false_iff.mpr c6
   subst c6
   have H1 : (some false) = some r := by rw [if_neg (show ¬ (false = true) by decide)] at H; exact H
   clear H
   have H := H1
   clear H1
   obtain rfl := Option.some.inj H
   go_enter Tryz.func41, Tryz.ntmps41
   go_wp2_with (first | (refine gq 112 (some 6) Tryz.func112 #[.int .i64 8, .int .i64 a0] ?_; (with_reducible refine (aZ.calls 8 a0 true _ A3.out).mono ?_); rintro e w' ⟨rfl, ⟨nd, rfl⟩⟩; refine ⟨_, rfl, ?_⟩) | (go_at_call 116; (with_reducible refine (a5.calls a1 0 7 false _ A5.out).mono ?_); rintro e w' ⟨rfl, ⟨nd, rfl⟩⟩))
   go_ret
   exact ⟨rs_, rd_⟩
 ·replace c4 := Bool.eq_false_iff.mpr c4
  subst c4
  have H1 : (some false) = some r := by rw [if_neg (show ¬ (false = true) by decide)] at H; exact H
  clear H
  have H := H1
  clear H1
  obtain rfl := Option.some.inj H
  go_enter Tryz.func41, Tryz.ntmps41
  go_wp2_with (first | (refine gq 112 (some 6) Tryz.func112 #[.int .i64 8, .int .i64 a0] ?_; (with_reducible refine (aZ.calls 8 a0 false _ A3.out).mono ?_); rintro e w' ⟨rfl, ⟨nd, rfl⟩⟩; refine ⟨_, rfl, ?_⟩))
  go_ret
  exact ⟨rs_, rd_⟩
def am.l0 : Nat → List Int → Int → Int → Int → Option (Int)
 | 0, _, _, _, _ => none
 | k + 1, x0, x1, x5, x6 => if x6 < (x0.length : Int) then ((bJ.f x1 x6).bind fun tq0 => (if tq0 = true then (if 0 ≤ x6 then (am.l0 k x0 x1 (wrap64 (x5 + (rd x0 x6))) (wrap64 (x6 + 1))) else (none)) else (am.l0 k x0 x1 x5 (wrap64 (x6 + 1))))) else (some x5)
def am.f (k : Nat) (l0 : List Int) (a1 : Int) : Option (Int) := am.l0 k l0 a1 0 0
theorem am.calls (k : Nat) (A0 : Option Addr) (c0 : Nat) (l0 : List Int) (a1 : Int) (r : Int) (w : World) (hr0 : Kd.C (Kd.int .i64) w A0 l0.length l0) (hc0 : l0.length ≤ c0) (h : am.f k l0 a1 = some r) :
  Calls Tryz.prog 23 #[.slice A0 l0.length c0, .int .i64 a1] w fun e w' => e = .returned (.int .i64 r) ∧ Drawn0 w w' := by
 have HR0 := aQ hr0
 have HC0 := aQ hc0
 clear hr0 hc0
 have H : (am.l0 k l0 a1 0 0) = some r := h
 clear h
 have H' := aQ H
 clear H
 go_enter Tryz.func23, Tryz.ntmps23
 go_wp2
 go_loopg [5, 6] k (fun kq v5 v6 w' => ∃ (x5_1 : Int) (x6_1 : Int), v5 = .int .i64 x5_1 ∧ v6 = .int .i64 x6_1 ∧ Aside0 (am.l0 kq l0 a1 x5_1 x6_1 = some r) ∧ Aside0 (kq ≤ k) ∧ Drawn0 w w')
 case atStart => exact ⟨(0), (0), rs_, rs_, H', ⟨Nat.le_refl _⟩, rd_⟩
 clear H'
 obtain ⟨x5_1, x6_1, rfl, rfl, HA, HK1, ⟨m1, rfl⟩⟩ := hrel
 rcases gk with _ | k1
 ·exact absurd HA.out (by simp [am.l0])
 have H := HA.out
 clear HA
 simp only [am.l0] at H
 by_cases c3 : x6_1 < (l0.length : Int)
 ·rw [if_pos c3] at H
  have c3b0 := decide_eq_true c3
  clear c3
  replace H := bo H; obtain ⟨tq0, A4, H⟩ := H
  (try dsimp only at H)
  by_cases c5 : tq0 = true
  ·subst c5
   rw [if_pos rfl] at H
   replace H := gd H; obtain ⟨c6, H⟩ := H
   have c6b0 := decide_eq_true c6
   clear c6
   have H' := aQ H
   clear H
   go_wp2_with (first | (refine gq 41 (some 15) Tryz.func41 #[.int .i64 a1, .int .i64 x6_1] ?_; (with_reducible refine (bJ.calls a1 x6_1 true _ A4.out).mono ?_); rintro e w' ⟨rfl, ⟨nd, rfl⟩⟩; refine ⟨_, rfl, ?_⟩; have pq1 : 0 ≤ (x6_1 : Int) := of_decide_eq_true as_; have qq1 : x6_1 < (l0.length : Int) := of_decide_eq_true as_; obtain ⟨adq1, eq1, hxq1_0⟩ := Kd.at_int HR0.out x6_1 pq1 qq1; cases eq1; replace pq1 := eq_true pq1; replace qq1 := eq_true qq1))
   go_roundg k1
   case measure => have := HK1.out; omega
   case rel => exact ⟨(wrap64 (x5_1 + (rd l0 x6_1))), (wrap64 (x6_1 + 1)), rs_, rs_, H', ⟨by have := HK1.out; omega⟩, rd_⟩
  ·replace c5 := Bool.eq_false_iff.mpr c5
   subst c5
   have H1 : (am.l0 k1 l0 a1 x5_1 (wrap64 (x6_1 + 1))) = some r := by rw [if_neg (show ¬ (false = true) by decide)] at H; exact H
   clear H
   have H := H1
   clear H1
   have H' := aQ H
   clear H
   go_wp2_with (first | (refine gq 41 (some 15) Tryz.func41 #[.int .i64 a1, .int .i64 x6_1] ?_; (with_reducible refine (bJ.calls a1 x6_1 false _ A4.out).mono ?_); rintro e w' ⟨rfl, ⟨nd, rfl⟩⟩; refine ⟨_, rfl, ?_⟩))
   go_roundg k1
   case measure => have := HK1.out; omega
   case rel => exact ⟨(x5_1), (wrap64 (x6_1 + 1)), rs_, rs_, H', ⟨by have := HK1.out; omega⟩, rd_⟩
 ·rw [if_neg c3] at H
  have c3b0 := decide_eq_false c3
  clear c3
  obtain rfl := Option.some.inj H
  go_wp2
  go_ret
  exact ⟨rs_, rd_⟩
end Go.Proofs.YtimkekeaeojpkaaGreat.A
namespace Go.Proofs.YtimkekeaeojpkaaGreat.A
open Go.RowKit Go.Proofs.YtimkekeaeojpkaaGreatW.PrintWords Go.Proofs.YtimkekeaeojpkaaGreatW.PrintLast Go.Proofs.YtimkekeaeojpkaaGreatW.PrintMore
attribute [local go_sem] cC cE cW cX co cp cD cG
set_option linter.unusedVariables false
set_option linter.unusedSimpArgs false
def IsS126 (w0 W : World) (g : Nat) (f0 : List Int) (f1 : Int) (f2 : Int) : Prop := ∃ A0 c0, W.heap[g]? = some (.cells #[.slice A0 f0.length c0, .int .i64 f1, .int .i64 f2] 126 (0, 0)) ∧ w0.heap.size ≤ g ∧ Kd.C (Kd.int .u8) w0 A0 f0.length f0
theorem IsS126.grown {w0 W : World} {g : Nat} {f0 : List Int} {f1 : Int} {f2 : Int} {W1 : World} {row : Option Nat} (h : IsS126 w0 W g f0 f1 f2) (hw : W.grownBy W1 row) (hne : some g ≠ row) : IsS126 w0 W1 g f0 f1 f2 := by
  obtain ⟨A0, c0, hb, hg, hr0⟩ := h
  exact ⟨A0, c0, cQ hb hw hne, hg, hr0⟩
theorem IsS126.own_neN {w0 W : World} {g : Nat} {f0 : List Int} {f1 : Int} {f2 : Int} {α : Type} {d : Kd α} {e : Nat} {base : Nat} {ok : Nat → Prop} {v : Value} {xs : List α} (h : IsS126 w0 W g f0 f1 f2) (ho : Kd.N d e W base ok v xs) (ht : e ≠ 126) : some g ≠ v.ownBlock := by
  obtain ⟨A0, c0, hb, hg, hr0⟩ := h
  exact Kd.N_ne ho hb ht
theorem IsS126.fresh {w0 W : World} {g : Nat} {f0 : List Int} {f1 : Int} {f2 : Int} (h : IsS126 w0 W g f0 f1 f2) : ∀ k, W.heap.size ≤ k → k ≠ g := by
  obtain ⟨A0, c0, hb, hg, hr0⟩ := h
  exact Kd.freshB hb
theorem IsS126.kept {w0 W : World} {g : Nat} {f0 : List Int} {f1 : Int} {f2 : Int} {W1 : World} {S : Nat → Prop} (h : IsS126 w0 W g f0 f1 f2) (hk : Kept W W1 S) (hne : ¬ S g) : IsS126 w0 W1 g f0 f1 f2 := by
  obtain ⟨A0, c0, hb, hg, hr0⟩ := h
  exact ⟨A0, c0, jG hb hk hne, hg, hr0⟩
theorem IsS126.below {w0 W : World} {g : Nat} {f0 : List Int} {f1 : Int} {f2 : Int} {W1 : World} (h : IsS126 w0 W g f0 f1 f2) (hw : Below W.heap.size W W1) : IsS126 w0 W1 g f0 f1 f2 := h.grown (eR hw none) (by simp)
theorem IsS126.alloc {w0 W : World} {g : Nat} {f0 : List Int} {f1 : Int} {f2 : Int} (h : IsS126 w0 W g f0 f1 f2) (o : Obj) : IsS126 w0 (W.alloc o) g f0 f1 f2 := h.below (bZ (Below.refl _ _) o)
theorem IsS126.drewN {w0 W : World} {g : Nat} {f0 : List Int} {f1 : Int} {f2 : Int} (h : IsS126 w0 W g f0 f1 f2) (m : Nat) : IsS126 w0 (W.drewN m) g f0 f1 f2 := h
theorem IsS126.drew {w0 W : World} {g : Nat} {f0 : List Int} {f1 : Int} {f2 : Int} (h : IsS126 w0 W g f0 f1 f2) : IsS126 w0 W.drew g f0 f1 f2 := h
theorem IsS126.at_ {w0 W : World} {g : Nat} {f0 : List Int} {f1 : Int} {f2 : Int} {w' : World} {m : Nat} (hq : W.drewN m = w') (h : IsS126 w0 W g f0 f1 f2) : IsS126 w0 w' g f0 f1 f2 := by subst hq; exact IsS126.drewN h m
theorem IsS126.apart {w0 W : World} {g : Nat} {f0 : List Int} {f1 : Int} {f2 : Int} {α : Type} {d : Kd α} {e : Nat} {base : Nat} {ok : Nat → Prop} {v : Value} {xs : List α} (h : IsS126 w0 W g f0 f1 f2) (ho : d.R e W base ok v xs) (ht : ∀ q, q ∈ e :: d.E → q ≠ 126) : d.R e W base (fun k => ok k ∧ k ≠ g) v xs := by
  obtain ⟨A0, c0, hb, hg, hr0⟩ := h
  exact Kd.R_types ho hb ht
theorem IsS126.own_ne {w0 W : World} {g : Nat} {f0 : List Int} {f1 : Int} {f2 : Int} {α : Type} {d : Kd α} {e : Nat} {base : Nat} {ok : Nat → Prop} {v : Value} {xs : List α} (h : IsS126 w0 W g f0 f1 f2) (ho : d.R e W base ok v xs) (ht : e ≠ 126) : some g ≠ v.ownBlock := by
  obtain ⟨A0, c0, hb, hg, hr0⟩ := h
  exact Kd.R_ne ho hb ht
theorem IsS126.apartQ {w0 W : World} {g : Nat} {f0 : List Int} {f1 : Int} {f2 : Int} {α : Type} {d : Kd α} {e : Nat} {base : Nat} {ok : Nat → Prop} {v : Value} {xs : List α} (h : IsS126 w0 W g f0 f1 f2) (ho : d.Q e W base ok v xs) (ht : ∀ q, q ∈ e :: d.E → q ≠ 126) : d.Q e W base (fun k => ok k ∧ k ≠ g) v xs := by
  obtain ⟨A0, c0, hb, hg, hr0⟩ := h
  exact Kd.Q_types ho hb ht
theorem IsS126.own_neQ {w0 W : World} {g : Nat} {f0 : List Int} {f1 : Int} {f2 : Int} {α : Type} {d : Kd α} {e : Nat} {base : Nat} {ok : Nat → Prop} {v : Value} {xs : List α} (h : IsS126 w0 W g f0 f1 f2) (ho : d.Q e W base ok v xs) (ht : e ≠ 126) : some g ≠ v.ownBlock := by
  obtain ⟨A0, c0, hb, hg, hr0⟩ := h
  exact Kd.Q_ne ho hb ht
theorem IsS126.apartS {w0 W : World} {g : Nat} {f0 : List Int} {f1 : Int} {f2 : Int} {α : Type} {d : Kd α} {e : Nat} {base : Nat} {ok : Nat → Prop} {v : Value} {xs : List α} (h : IsS126 w0 W g f0 f1 f2) (ho : d.S e W base ok v xs) (ht : ∀ q, q ∈ e :: d.E → q ≠ 126) : d.S e W base (fun k => ok k ∧ k ≠ g) v xs := by
  obtain ⟨A0, c0, hb, hg, hr0⟩ := h
  exact Kd.S_types ho hb ht
theorem IsS126.own_neS {w0 W : World} {g : Nat} {f0 : List Int} {f1 : Int} {f2 : Int} {α : Type} {d : Kd α} {e : Nat} {base : Nat} {ok : Nat → Prop} {v : Value} {xs : List α} (h : IsS126 w0 W g f0 f1 f2) (ho : d.S e W base ok v xs) (ht : e ≠ 126) : some g ≠ v.ownBlock := by
  obtain ⟨A0, c0, hb, hg, hr0⟩ := h
  exact Kd.S_ne ho hb ht
theorem IsS126.lt {w0 W : World} {g : Nat} {f0 : List Int} {f1 : Int} {f2 : Int} (h : IsS126 w0 W g f0 f1 f2) : g < W.heap.size := by
  obtain ⟨A0, c0, hb, hg, hr0⟩ := h
  exact dd hb
theorem IsS126.ge {w0 W : World} {g : Nat} {f0 : List Int} {f1 : Int} {f2 : Int} (h : IsS126 w0 W g f0 f1 f2) : w0.heap.size ≤ g := by
  obtain ⟨A0, c0, hb, hg, hr0⟩ := h
  exact hg
theorem IsS126.ne_blk {w0 W : World} {g : Nat} {f0 : List Int} {f1 : Int} {f2 : Int} {a : Nat} {cs : Array Value} {t : TypeId} {fr : Nat × Nat} (h : IsS126 w0 W g f0 f1 f2) (hb2 : W.heap[a]? = some (.cells cs t fr)) (ht : t ≠ 126) : g ≠ a := by
  obtain ⟨A0, c0, hb, hg, hr0⟩ := h
  rintro rfl
  rw [hb] at hb2
  injection hb2 with hb2
  injection hb2 with _ ht2
  exact ht ht2.symm
theorem IsS126.far {w0 W : World} {g : Nat} {f0 : List Int} {f1 : Int} {f2 : Int} {p : Addr} (h : IsS126 w0 W g f0 f1 f2) (hne : g ≠ p.block) (u : Value) : IsS126 w0 (W.setCell p u) g f0 f1 f2 := by
  obtain ⟨A0, c0, hb, hg, hr0⟩ := h
  exact ⟨A0, c0, aU hb hne u, hg, hr0⟩
theorem gF {W : World} {g : Nat} {A0 : Option Addr} {c0 : Nat} {f0 : List Int} {f1 : Int} {f2 : Int} (h : W.heap[g]? = some (.cells #[.slice A0 f0.length c0, .int .i64 f1, .int .i64 f2] 126 (0, 0))) : W.cell? ⟨g, 0, none⟩ = some (.slice A0 f0.length c0) := (ac h 0).trans rfl
theorem hD {W : World} {g : Nat} {A0 : Option Addr} {c0 : Nat} {f0 : List Int} {f1 : Int} {f2 : Int} (h : W.heap[g]? = some (.cells #[.slice A0 f0.length c0, .int .i64 f1, .int .i64 f2] 126 (0, 0))) : W.cell? ⟨g, 1, none⟩ = some (.int .i64 f1) := (ac h 1).trans rfl
theorem IsS126.set_1 {w0 W : World} {g : Nat} {f0 : List Int} {f1 : Int} {f2 : Int} (h : IsS126 w0 W g f0 f1 f2) (x : Int) : IsS126 w0 (W.setCell ⟨g, 1, none⟩ (.int .i64 x)) g f0 x f2 := by
  obtain ⟨A0, c0, hb, hg, hr0⟩ := h
  exact ⟨A0, c0, by simpa using gx hb 1 (.int .i64 x), hg, hr0⟩
theorem gH {W : World} {g : Nat} {A0 : Option Addr} {c0 : Nat} {f0 : List Int} {f1 : Int} {f2 : Int} (h : W.heap[g]? = some (.cells #[.slice A0 f0.length c0, .int .i64 f1, .int .i64 f2] 126 (0, 0))) : W.cell? ⟨g, 2, none⟩ = some (.int .i64 f2) := (ac h 2).trans rfl
theorem IsS126.set_2 {w0 W : World} {g : Nat} {f0 : List Int} {f1 : Int} {f2 : Int} (h : IsS126 w0 W g f0 f1 f2) (x : Int) : IsS126 w0 (W.setCell ⟨g, 2, none⟩ (.int .i64 x)) g f0 f1 x := by
  obtain ⟨A0, c0, hb, hg, hr0⟩ := h
  exact ⟨A0, c0, by simpa using gx hb 2 (.int .i64 x), hg, hr0⟩
theorem IsS126.new (w0 W : World) (A0 : Option Addr) (c0 : Nat) (f0 : List Int) (f1 : Int) (f2 : Int) (hB : Below w0.heap.size w0 W) (hr0 : Kd.C (Kd.int .u8) w0 A0 f0.length f0) : IsS126 w0 (W.alloc (.cells #[.slice A0 f0.length c0, .int .i64 f1, .int .i64 f2] 126)) W.heap.size f0 f1 f2 := ⟨A0, c0, by simpa using heap_alloc_new W _, hB.size, hr0⟩
theorem pi_ {p q : Prop} (h : Aside0 q) (f : Aside0 q → p := by intro h_; repeat (first | (with_reducible first | exact h_.out | apply IsS126.alloc | apply IsS126.drewN | apply IsS126.drew | apply IsS126.set_1 | apply IsS126.set_2 | refine IsS126.far ?_ (Aside0.out (by assumption)) _) | exact h_.out)) : p := f h
theorem pbI {p q : Prop} (h : Aside0 q) (f : Aside0 q → p := by intro h_; repeat (first | (with_reducible first | exact h_.out | apply bZ | apply bX | apply a7 | refine cn ?_ (Aside0.out (by assumption)) | refine cn ?_ (IsS126.ge (Aside0.out (by assumption)))) | exact h_.out)) : p := f h
section
variable {w0 w w1 w2 wa W : World} {g gb : Nat} {f0 : List Int} {f1 f2 : Int}
theorem bsI (h : Aside0 (Below w.heap.size w wa)) (hb : Below w1.heap.size w1 w2) (f : Below w.heap.size w w1 := by repeat (first | (with_reducible first | exact Aside0.out (by assumption) | apply bZ | apply bX | apply a7 | refine cn ?_ (Aside0.out (by assumption)) | refine cn ?_ (IsS126.ge (Aside0.out (by assumption)))) | exact Aside0.out (by assumption))) : Aside0 (Below w.heap.size w w2) := ⟨cU f hb⟩
theorem nI (h : Aside0 (IsS126 w0 wa g f0 f1 f2)) (hg : gb = w1.heap.size) (f : IsS126 w0 w1 g f0 f1 f2 := by repeat (first | (with_reducible first | exact Aside0.out (by assumption) | apply IsS126.alloc | apply IsS126.drewN | apply IsS126.drew | apply IsS126.set_1 | apply IsS126.set_2 | refine IsS126.far ?_ (Aside0.out (by assumption)) _) | exact Aside0.out (by assumption))) : Aside0 (g ≠ gb) := ⟨by rw [hg]; exact Nat.ne_of_lt f.lt⟩
theorem mI (h : Aside0 (IsS126 w0 wa g f0 f1 f2)) (hg : gb = w1.heap.size) (f : IsS126 w0 w1 g f0 f1 f2 := by repeat (first | (with_reducible first | exact Aside0.out (by assumption) | apply IsS126.alloc | apply IsS126.drewN | apply IsS126.drew | apply IsS126.set_1 | apply IsS126.set_2 | refine IsS126.far ?_ (Aside0.out (by assumption)) _) | exact Aside0.out (by assumption))) : Aside0 (gb ≠ g) := ⟨by rw [hg]; exact Nat.ne_of_gt f.lt⟩
theorem bI (h : Aside0 (IsS126 w0 wa g f0 f1 f2)) (hb : Below w1.heap.size w1 w2) (f : IsS126 w0 w1 g f0 f1 f2 := by repeat (first | (with_reducible first | exact Aside0.out (by assumption) | apply IsS126.alloc | apply IsS126.drewN | apply IsS126.drew | apply IsS126.set_1 | apply IsS126.set_2 | refine IsS126.far ?_ (Aside0.out (by assumption)) _) | exact Aside0.out (by assumption))) : Aside0 (IsS126 w0 w2 g f0 f1 f2) := ⟨f.below hb⟩
end
def bS.l0 : Nat → List Int → Int → Int → Option (List Int × Int × Int)
 | 0, _, _, _ => none
 | k + 1, x0, x3, x4 => if x4 < (x0.length : Int) then (if x4 < 4000 then (if 0 ≤ x4 then (bS.l0 k x0 (Go.bits .and .i64 (wrap64 ((wrap64 ((wrap64 (x3 * 131)) + (wrap64 (rd x0 x4)))) + 7)) 1073741823) (wrap64 (x4 + 1))) else (none)) else (some (x0, 0, x3))) else (some (x0, 0, x3))
def bS.f (k : Nat) (l0 : List Int) : Option (List Int × Int × Int) := bS.l0 k l0 (wrap64 (26583 + (l0.length : Int))) 0
theorem bS.calls (k : Nat) (A0 : Option Addr) (c0 : Nat) (l0 : List Int) (r1 : List Int) (r2 : Int) (r3 : Int) (w0 w : World) (hB : Below w0.heap.size w0 w) (hr0 : Kd.C (Kd.int .u8) w0 A0 l0.length l0) (hc0 : l0.length ≤ c0) (h : bS.f k l0 = some (r1, r2, r3)) :
  Calls Tryz.prog 96 #[.slice A0 l0.length c0] w fun e w' => ∃ g_ : Nat, e = .returned (.pointer (some ⟨g_, 0, none⟩)) ∧ IsS126 w0 w' g_ r1 r2 r3 ∧ Below w0.heap.size w0 w' ∧ Below w.heap.size w w' := by
 have hu126 := Tryz.underlying126
 have HR0 := aQ hr0
 have HC0 := aQ hc0
 clear hr0 hc0
 have HBW := aQ (Below.refl w.heap.size w)
 have HW0 := aQ hB.size
 have HB := aQ hB
 clear hB
 have H := h
 clear h
 unfold bS.f at H
 (try dsimp only at H)
 have H' := aQ H
 clear H
 go_enter Tryz.func96, Tryz.ntmps96
 go_wp2
 go_loopg [3, 4] k (fun kq v3 v4 w' => ∃ (x3_1 : Int) (x4_1 : Int), v3 = .int .i64 x3_1 ∧ v4 = .int .i64 x4_1 ∧ Aside0 (bS.l0 kq l0 x3_1 x4_1 = some (r1, r2, r3)) ∧ Aside0 (kq ≤ k) ∧ Aside0 (Below w0.heap.size w0 w') ∧ Aside0 (Below w.heap.size w w'))
 case atStart => exact ⟨(wrap64 (26583 + (l0.length : Int))), (0), rs_, rs_, H', ⟨Nat.le_refl _⟩, ⟨pB HB.out⟩, ⟨pb HBW⟩⟩
 clear H'
 obtain ⟨x3_1, x4_1, rfl, rfl, HA, HK1, HB, HBW⟩ := hrel
 rcases gk with _ | k1
 ·exact absurd HA.out (by simp [bS.l0])
 have H := HA.out
 clear HA
 simp only [bS.l0] at H
 by_cases c2 : x4_1 < (l0.length : Int)
 ·rw [if_pos c2] at H
  have c2b0 := decide_eq_true c2
  clear c2
  by_cases c3 : x4_1 < 4000
  ·rw [if_pos c3] at H
   have c3b0 := decide_eq_true c3
   clear c3
   replace H := gd H; obtain ⟨c4, H⟩ := H
   have c4b0 := decide_eq_true c4
   clear c4
   have H' := aQ H
   clear H
   have pq0 : 0 ≤ (x4_1 : Int) := of_decide_eq_true as_
   have qq0 : x4_1 < (l0.length : Int) := of_decide_eq_true as_
   obtain ⟨adq0, eq0, hxq0_0⟩ := Kd.at_int HR0.out x4_1 pq0 qq0
   cases eq0
   replace hxq0_0 := dD HB.out hxq0_0
   replace pq0 := eq_true pq0
   replace qq0 := eq_true qq0
   go_wp2
   go_roundg k1
   case measure => have := HK1.out; omega
   case rel => exact ⟨(Go.bits .and .i64 (wrap64 ((wrap64 ((wrap64 (x3_1 * 131)) + (wrap64 (rd l0 x4_1)))) + 7)) 1073741823), (wrap64 (x4_1 + 1)), rs_, rs_, H', ⟨by have := HK1.out; omega⟩, ⟨pB HB.out⟩, ⟨pb HBW⟩⟩
  ·rw [if_neg c3] at H
   have c3b0 := decide_eq_false c3
   clear c3
   simp only [Option.some.injEq, Prod.mk.injEq] at H
   obtain ⟨rfl, rfl, rfl⟩ := H
   go_wp2_with (first | ((with_reducible refine af (N := 31) rfl ?_); refine bx 31 #[.slice A0 l0.length c0, .int .i64 0, .int .i64 x3_1] 126 ?_; intro gbq1 hg w5 hbox hb; replace HB := bs HB hb; have BKq1 := aQ (hbox); have GWq1 := aQ ((by rw [hg]; exact (aa (pb HBW)) : w.heap.size ≤ gbq1)); have GEq1 := aQ ((Nat.le_trans HW0.out (by rw [hg]; exact (aa (pb HBW)) : w.heap.size ≤ gbq1) : w0.heap.size ≤ gbq1)); replace HBW := aQ (cU HBW.out hb); clear hb hbox hg))
   go_ret
   exact ⟨_, rfl, (show IsS126 w0 _ gbq1 l0 0 x3_1 from ⟨_, _, pk BKq1.out, GEq1.out, HR0.out⟩), pB1 HB.out GEq1.out, pb HBW⟩
 ·rw [if_neg c2] at H
  have c2b0 := decide_eq_false c2
  clear c2
  simp only [Option.some.injEq, Prod.mk.injEq] at H
  obtain ⟨rfl, rfl, rfl⟩ := H
  go_wp2_with (first | ((with_reducible refine af (N := 31) rfl ?_); refine bx 31 #[.slice A0 l0.length c0, .int .i64 0, .int .i64 x3_1] 126 ?_; intro gbq2 hg w6 hbox hb; replace HB := bs HB hb; have BKq2 := aQ (hbox); have GWq2 := aQ ((by rw [hg]; exact (aa (pb HBW)) : w.heap.size ≤ gbq2)); have GEq2 := aQ ((Nat.le_trans HW0.out (by rw [hg]; exact (aa (pb HBW)) : w.heap.size ≤ gbq2) : w0.heap.size ≤ gbq2)); replace HBW := aQ (cU HBW.out hb); clear hb hbox hg))
  go_ret
  exact ⟨_, rfl, (show IsS126 w0 _ gbq2 l0 0 x3_1 from ⟨_, _, pk BKq2.out, GEq2.out, HR0.out⟩), pB1 HB.out GEq2.out, pb HBW⟩
end Go.Proofs.YtimkekeaeojpkaaGreat.A
namespace Go.Proofs.YtimkekeaeojpkaaGreat.A
open Go.RowKit Go.Proofs.YtimkekeaeojpkaaGreatW.PrintWords Go.Proofs.YtimkekeaeojpkaaGreatW.PrintLast Go.Proofs.YtimkekeaeojpkaaGreatW.PrintMore
attribute [local go_sem] cC cE cW cX co cp cD cG
set_option linter.unusedVariables false
set_option linter.unusedSimpArgs false
def cg.f (s0_0 : List Int) (s0_1 : Int) (s0_2 : Int) : Option (Int × Int × Int) := if s0_1 < (s0_0.length : Int) then (if 0 ≤ s0_1 then (some (Go.bits .and .i64 (wrap64 ((Go.bits .and .i64 (Go.bits .xor .i64 ((wrap64 ((wrap64 (s0_2 * 6364136223846793005)) + 1442695040888963407)) / 8589934592) ((wrap64 ((wrap64 (s0_2 * 6364136223846793005)) + 1442695040888963407)) / 35184372088832)) 255) + (wrap64 (rd s0_0 s0_1)))) 255, wrap64 (s0_1 + 1), wrap64 ((wrap64 (s0_2 * 6364136223846793005)) + 1442695040888963407))) else (none)) else (some (Go.bits .and .i64 (Go.bits .xor .i64 ((wrap64 ((wrap64 (s0_2 * 6364136223846793005)) + 1442695040888963407)) / 8589934592) ((wrap64 ((wrap64 (s0_2 * 6364136223846793005)) + 1442695040888963407)) / 35184372088832)) 255, s0_1, wrap64 ((wrap64 (s0_2 * 6364136223846793005)) + 1442695040888963407)))
theorem cg.calls (g : Nat) (s0_0 : List Int) (s0_1 : Int) (s0_2 : Int) (r1 : Int) (r2 : Int) (r3 : Int) (w0 w : World) (hI : IsS126 w0 w g s0_0 s0_1 s0_2) (hB : Below w0.heap.size w0 w) (h : cg.f s0_0 s0_1 s0_2 = some (r1, r2, r3)) :
  Calls Tryz.prog 203 #[.pointer (some ⟨g, 0, none⟩)] w fun e w' => e = .returned (.int .i64 r1) ∧ IsS126 w0 w' g s0_0 r2 r3 ∧ Below w0.heap.size w0 w' ∧ KeepBut w w' g none := by
 have HI0 := aQ hI
 have HK := aQ (KeepBut.refl w g none)
 have HL := aQ hB.size
 clear hI
 have HW0 := aQ hB.size
 have HB := aQ hB
 clear hB
 have H := h
 clear h
 unfold cg.f at H
 (try dsimp only at H)
 by_cases c2 : s0_1 < (s0_0.length : Int)
 ·rw [if_pos c2] at H
  have c2b0 := decide_eq_true c2
  clear c2
  replace H := gd H; obtain ⟨c3, H⟩ := H
  have c3b0 := decide_eq_true c3
  clear c3
  simp only [Option.some.injEq, Prod.mk.injEq] at H
  obtain ⟨rfl, rfl, rfl⟩ := H
  obtain ⟨ASz4_0, cSz4_0, HGz4, hgz4, HSz4_0⟩ := HI0.out
  have hcz4_0 := gF HGz4
  have hcz4_1 := hD HGz4
  have hcz4_2 := gH HGz4
  have hfz4_1 := aH HGz4 1
  have hfz4_2 := aH HGz4 2
  clear HGz4 hgz4
  have pq0 : 0 ≤ (s0_1 : Int) := of_decide_eq_true as_
  have qq0 : s0_1 < (s0_0.length : Int) := of_decide_eq_true as_
  obtain ⟨adq0, eq0, hxq0_0⟩ := Kd.at_int HSz4_0 s0_1 pq0 qq0
  cases eq0
  have hnq0_0 : adq0.block ≠ g := Nat.ne_of_lt (Nat.lt_of_lt_of_le (by have := World.block_lt_of_cell? _ _ hxq0_0; first | rwa [dx] at this | exact this) (IsS126.ge HI0.out))
  replace hxq0_0 := dD HB.out hxq0_0
  replace hxq0_0 := (cR (p := ⟨g, 2, none⟩) (by first | (rw [dx]; exact hnq0_0) | (show (Addr.add _ _).block ≠ _; rw [dx]; exact hnq0_0) | exact hnq0_0) (.int .i64 (wrap64 ((wrap64 (s0_2 * 6364136223846793005)) + 1442695040888963407)))).trans hxq0_0
  (try have hyq0_0 := fun (n_ : Nat) => (show (((w.drewN n_).setCell ⟨g, 2, none⟩ (.int .i64 (wrap64 ((wrap64 (s0_2 * 6364136223846793005)) + 1442695040888963407))))).cell? _ = some _ from hxq0_0))
  clear hnq0_0
  replace pq0 := eq_true pq0
  replace qq0 := eq_true qq0
  go_enter Tryz.func203, Tryz.ntmps203
  go_wp2
  repeat (go_quiet (fail); try go_wp2)
  go_ret
  exact ⟨re_, pi_ HI0, pbI HB, pq HK⟩
 ·rw [if_neg c2] at H
  have c2b0 := decide_eq_false c2
  clear c2
  simp only [Option.some.injEq, Prod.mk.injEq] at H
  obtain ⟨rfl, rfl, rfl⟩ := H
  obtain ⟨ASz5_0, cSz5_0, HGz5, hgz5, HSz5_0⟩ := HI0.out
  have hcz5_0 := gF HGz5
  have hcz5_1 := hD HGz5
  have hcz5_2 := gH HGz5
  have hfz5_1 := aH HGz5 1
  have hfz5_2 := aH HGz5 2
  clear HGz5 hgz5
  go_enter Tryz.func203, Tryz.ntmps203
  go_wp2
  repeat (go_quiet (fail); try go_wp2)
  go_ret
  exact ⟨re_, pi_ HI0, pbI HB, pq HK⟩
def ak.f (s0_0 : List Int) (s0_1 : Int) (s0_2 : Int) (a1 : Int) : Option (Int × Int × Int) := if a1 ≤ 0 then (some (0, s0_1, s0_2)) else (if a1 ≤ 256 then ((cg.f s0_0 s0_1 s0_2).bind fun btq0 => (if a1 = 0 then (none) else (some (Int.tmod btq0.1 a1, btq0.2.1, btq0.2.2)))) else ((cg.f s0_0 s0_1 s0_2).bind fun btq1 => ((cg.f s0_0 btq1.2.1 btq1.2.2).bind fun btq2 => ((cg.f s0_0 btq2.2.1 btq2.2.2).bind fun btq3 => ((cg.f s0_0 btq3.2.1 btq3.2.2).bind fun btq4 => (if a1 = 0 then (none) else (some (Int.tmod (wrap64 ((wrap64 ((wrap64 ((wrap64 (btq1.1 * 16777216)) + (wrap64 (btq2.1 * 65536)))) + (wrap64 (btq3.1 * 256)))) + btq4.1)) a1, btq4.2.1, btq4.2.2))))))))
theorem ak.calls (g : Nat) (s0_0 : List Int) (s0_1 : Int) (s0_2 : Int) (a1 : Int) (r1 : Int) (r2 : Int) (r3 : Int) (w0 w : World) (hI : IsS126 w0 w g s0_0 s0_1 s0_2) (hB : Below w0.heap.size w0 w) (h : ak.f s0_0 s0_1 s0_2 a1 = some (r1, r2, r3)) :
  Calls Tryz.prog 99 #[.pointer (some ⟨g, 0, none⟩), .int .i64 a1] w fun e w' => e = .returned (.int .i64 r1) ∧ IsS126 w0 w' g s0_0 r2 r3 ∧ Below w0.heap.size w0 w' ∧ KeepBut w w' g none := by
 have HI0 := aQ hI
 have HK := aQ (KeepBut.refl w g none)
 have HL := aQ hB.size
 clear hI
 have HW0 := aQ hB.size
 have HB := aQ hB
 clear hB
 have H := h
 clear h
 unfold ak.f at H
 (try dsimp only at H)
 by_cases c3 : a1 ≤ 0
 ·rw [if_pos c3] at H
  have c3b0 := decide_eq_true c3
  clear c3
  simp only [Option.some.injEq, Prod.mk.injEq] at H
  obtain ⟨rfl, rfl, rfl⟩ := H
  go_enter Tryz.func99, Tryz.ntmps99
  go_wp2
  go_ret
  exact ⟨re_, pi_ HI0, pbI HB, pq HK⟩
 ·rw [if_neg c3] at H
  have c3b0 := decide_eq_false c3
  clear c3
  by_cases c4 : a1 ≤ 256
  ·rw [if_pos c4] at H
   have c4b0 := decide_eq_true c4
   clear c4
   replace H := bo H; obtain ⟨⟨tq0, tq5, tq6⟩, A5, H⟩ := H
   (try dsimp only at H)
   by_cases c6 : a1 = 0
   ·rw [if_pos c6] at H
    exact absurd H (by simp)
   ·rw [if_neg c6] at H
    have c6b0 : (a1 == 0) = false := beq_eq_false_iff_ne.mpr c6
    have c6b1 : (a1 != 0) = true := bne_iff_ne.mpr c6
    simp only [Option.some.injEq, Prod.mk.injEq] at H
    obtain ⟨rfl, rfl, rfl⟩ := H
    go_enter Tryz.func99, Tryz.ntmps99
    go_wp2_with (first | (refine gq 203 (some 14) Tryz.func203 #[.pointer (some ⟨g, 0, none⟩)] ?_; (with_reducible refine (cg.calls g s0_0 s0_1 s0_2 tq0 tq5 tq6 w0 _ ?side1 ?side2 A5.out).mono ?_); (case side1 => exact pi_ HI0); (case side2 => exact pbI HB); rintro e w7 ⟨rfl, hi, hb, hk⟩; refine ⟨_, rfl, ?_⟩; replace HK := kh HK hk; replace HB := aQ (hb); replace HI0 := aQ (hi); (try clear hb); (try clear hk); (try clear hi)))
    go_ret
    exact ⟨re_, pi_ HI0, pbI HB, pq HK⟩
  ·rw [if_neg c4] at H
   have c4b0 := decide_eq_false c4
   clear c4
   replace H := bo H; obtain ⟨⟨tq1, tq7, tq8⟩, A8, H⟩ := H
   (try dsimp only at H)
   replace H := bo H; obtain ⟨⟨tq2, tq9, tqa⟩, A9, H⟩ := H
   (try dsimp only at H)
   replace H := bo H; obtain ⟨⟨tq3, tqb, tqc⟩, A10, H⟩ := H
   (try dsimp only at H)
   replace H := bo H; obtain ⟨⟨tq4, tqd, tqe⟩, A11, H⟩ := H
   (try dsimp only at H)
   by_cases c12 : a1 = 0
   ·rw [if_pos c12] at H
    exact absurd H (by simp)
   ·rw [if_neg c12] at H
    have c12b0 : (a1 == 0) = false := beq_eq_false_iff_ne.mpr c12
    have c12b1 : (a1 != 0) = true := bne_iff_ne.mpr c12
    simp only [Option.some.injEq, Prod.mk.injEq] at H
    obtain ⟨rfl, rfl, rfl⟩ := H
    go_enter Tryz.func99, Tryz.ntmps99
    go_wp2_with (first | (refine gq 203 (some 18) Tryz.func203 #[.pointer (some ⟨g, 0, none⟩)] ?_; (with_reducible refine (cg.calls g s0_0 s0_1 s0_2 tq1 tq7 tq8 w0 _ ?side1 ?side2 A8.out).mono ?_); (case side1 => exact pi_ HI0); (case side2 => exact pbI HB); rintro e w13 ⟨rfl, hi, hb, hk⟩; refine ⟨_, rfl, ?_⟩; replace HK := kh HK hk; replace HB := aQ (hb); replace HI0 := aQ (hi); (try clear hb); (try clear hk); (try clear hi)) | (refine gq 203 (some 20) Tryz.func203 #[.pointer (some ⟨g, 0, none⟩)] ?_; (with_reducible refine (cg.calls g s0_0 tq7 tq8 tq2 tq9 tqa w0 _ ?side1 ?side2 A9.out).mono ?_); (case side1 => exact pi_ HI0); (case side2 => exact pbI HB); rintro e w14 ⟨rfl, hi, hb, hk⟩; refine ⟨_, rfl, ?_⟩; replace HK := kh HK hk; replace HB := aQ (hb); replace HI0 := aQ (hi); (try clear hb); (try clear hk); (try clear hi)) | (refine gq 203 (some 22) Tryz.func203 #[.pointer (some ⟨g, 0, none⟩)] ?_; (with_reducible refine (cg.calls g s0_0 tq9 tqa tq3 tqb tqc w0 _ ?side1 ?side2 A10.out).mono ?_); (case side1 => exact pi_ HI0); (case side2 => exact pbI HB); rintro e w15 ⟨rfl, hi, hb, hk⟩; refine ⟨_, rfl, ?_⟩; replace HK := kh HK hk; replace HB := aQ (hb); replace HI0 := aQ (hi); (try clear hb); (try clear hk); (try clear hi)) | (refine gq 203 (some 24) Tryz.func203 #[.pointer (some ⟨g, 0, none⟩)] ?_; (with_reducible refine (cg.calls g s0_0 tqb tqc tq4 tqd tqe w0 _ ?side1 ?side2 A11.out).mono ?_); (case side1 => exact pi_ HI0); (case side2 => exact pbI HB); rintro e w16 ⟨rfl, hi, hb, hk⟩; refine ⟨_, rfl, ?_⟩; replace HK := kh HK hk; replace HB := aQ (hb); replace HI0 := aQ (hi); (try clear hb); (try clear hk); (try clear hi)))
    go_ret
    exact ⟨re_, pi_ HI0, pbI HB, pq HK⟩
def bM.f (a0 : Int) (a1 : Int) : Option (Int) := if a0 > a1 then (some a0) else (some a1)
theorem bM.calls (a0 : Int) (a1 : Int) (r : Int) (w : World) (h : bM.f a0 a1 = some r) :
  Calls Tryz.prog 107 #[.int .i64 a0, .int .i64 a1] w fun e w' => e = .returned (.int .i64 r) ∧ Drawn0 w w' := by
 have H : (if a0 > a1 then (some a0) else (some a1)) = some r := h
 clear h
 by_cases c3 : a0 > a1
 ·rw [if_pos c3] at H
  have c3b0 := decide_eq_true c3
  clear c3
  obtain rfl := Option.some.inj H
  go_enter Tryz.func107, Tryz.ntmps107
  go_wp2
  go_ret
  exact ⟨rs_, rd_⟩
 ·rw [if_neg c3] at H
  have c3b0 := decide_eq_false c3
  clear c3
  obtain rfl := Option.some.inj H
  go_enter Tryz.func107, Tryz.ntmps107
  go_wp2
  go_ret
  exact ⟨rs_, rd_⟩
def bh.l0 : Nat → Int → List Int → Int → List Int → Int → Int → Option (List Int × Int × Int)
 | 0, _, _, _, _, _, _ => none
 | k + 1, x1, x5, x6, xq0, xq1, xq2 => if x6 < x1 then ((ak.f xq0 xq1 xq2 9).bind fun btq3 => (if x5.length < 17592186044416 then (bh.l0 k x1 (x5 ++ [wrap64 (btq3.1 - 3)]) (wrap64 (x6 + 1)) xq0 btq3.2.1 btq3.2.2) else (none))) else (some (x5, xq1, xq2))
def bh.f (k : Nat) (s0_0 : List Int) (s0_1 : Int) (s0_2 : Int) (a1 : Int) : Option (List Int × Int × Int) := bh.l0 k a1 (([] : List Int)) 0 s0_0 s0_1 s0_2
theorem bh.calls (k : Nat) (g : Nat) (s0_0 : List Int) (s0_1 : Int) (s0_2 : Int) (a1 : Int) (r1 : List Int) (r2 : Int) (r3 : Int) (w0 w : World) (hI : IsS126 w0 w g s0_0 s0_1 s0_2) (hB : Below w0.heap.size w0 w) (h : bh.f k s0_0 s0_1 s0_2 a1 = some (r1, r2, r3)) :
  Calls Tryz.prog 110 #[.pointer (some ⟨g, 0, none⟩), .int .i64 a1] w fun e w' => ∃ v0_ : Value, e = .returned (v0_) ∧ Kd.R (Kd.int .i64) 3 w' w.heap.size (fun _ => True) v0_ r1 ∧ IsS126 w0 w' g s0_0 r2 r3 ∧ Below w0.heap.size w0 w' ∧ KeepBut w w' g none := by
 have HI0 := aQ hI
 have HK := aQ (KeepBut.refl w g none)
 have HL := aQ hB.size
 clear hI
 have HW0 := aQ hB.size
 have HB := aQ hB
 clear hB
 have H := h
 clear h
 unfold bh.f at H
 (try dsimp only at H)
 obtain ⟨yq4, hyq4⟩ : ∃ y_ : List Int, y_ = (([] : List Int)) := ⟨_, rfl⟩
 replace H : (bh.l0 k a1 yq4 0 s0_0 s0_1 s0_2) = some (r1, r2, r3) := by first | (rw [hyq4]; with_reducible exact H) | (rw [hyq4]; exact H)
 have Nyq4 := aQ hyq4
 clear hyq4
 have H' := aQ H
 clear H
 go_enter Tryz.func110, Tryz.ntmps110
 go_wp2_with (first | ((with_reducible refine af (N := 7) rfl ?_); refine Kd.R_lit (Kd.int .i64) _ 3 ?hg (N := 7) ?hd (xs := ([] : List Int)) (inner := []) (ok := fun _ => True) (okp := fun _ => True) ?hr ?hp (fun _ hk => hk) trivial (Below.refl _ _) (Nat.le_refl _) (by simp) ?_; (case hd => rfl); (case hg => rfl); (case hr => first | (go_simp; done) | (go_simp; rfl)); (case hp => exact (Reps.none _ _)); intro vq5 w3 ho4 hb hg_ hnew_; clear hg_ hnew_; (first | rw [← Nyq4.out] at ho4 | (simp only [Int.reduceToNat] at ho4; rw [← Nyq4.out] at ho4)); have HOq6 := aQ (Kd.R_lower ho4 (bp (w := w) (g := g) (row := none) (pq HK))); replace HK := kt HK hb; replace HB := bsI HB hb; replace HI0 := bI HI0 hb; clear hb ho4))
 go_loopg [5, 6] k (fun kq v5 v6 w' => ∃ (x5_1 : List Int) (x6_1 : Int) (xq1_1 : Int) (xq2_1 : Int), v6 = .int .i64 x6_1 ∧ Aside0 (bh.l0 kq a1 x5_1 x6_1 s0_0 xq1_1 xq2_1 = some (r1, r2, r3)) ∧ Aside0 (kq ≤ k) ∧ Aside0 (Kd.R (Kd.int .i64) 3 w' w.heap.size (fun _ => True) v5 x5_1) ∧ Aside0 (IsS126 w0 w' g s0_0 xq1_1 xq2_1) ∧ Aside0 (KeepBut w w' g none) ∧ Aside0 (Below w0.heap.size w0 w'))
 case atStart => exact ⟨(yq4), (0), (s0_1), (s0_2), rs_, H', ⟨Nat.le_refl _⟩, ⟨pR HOq6.out⟩, ⟨pi_ HI0⟩, ⟨pq HK⟩, ⟨pbI HB⟩⟩
 clear H'
 obtain ⟨x5_1, x6_1, xq1_1, xq2_1, rfl, HA, HK1, HO_5, HI0, HK, HB⟩ := hrel
 rcases gk with _ | k1
 ·exact absurd HA.out (by simp [bh.l0])
 have H := HA.out
 clear HA
 simp only [bh.l0] at H
 by_cases c5 : x6_1 < a1
 ·rw [if_pos c5] at H
  have c5b0 := decide_eq_true c5
  clear c5
  replace H := bo H; obtain ⟨⟨tq3, tq7, tq8⟩, A6, H⟩ := H
  (try dsimp only at H)
  replace H := gd H; obtain ⟨c7, H⟩ := H
  have LMc7 := aQ c7
  clear c7
  obtain ⟨yq9, hyq9⟩ : ∃ y_ : List Int, y_ = (x5_1 ++ [wrap64 (tq3 - 3)]) := ⟨_, rfl⟩
  replace H : (bh.l0 k1 a1 yq9 (wrap64 (x6_1 + 1)) s0_0 tq7 tq8) = some (r1, r2, r3) := by first | (rw [hyq9]; with_reducible exact H) | (rw [hyq9]; exact H)
  have Nyq9 := aQ hyq9
  clear hyq9
  have H' := aQ H
  clear H
  go_wp2_with (first | (refine gq 99 (some 15) Tryz.func99 #[.pointer (some ⟨g, 0, none⟩), .int .i64 9] ?_; (with_reducible refine (ak.calls g s0_0 xq1_1 xq2_1 9 tq3 tq7 tq8 w0 _ ?side1 ?side2 A6.out).mono ?_); (case side1 => exact pi_ HI0); (case side2 => exact pbI HB); rintro e w8 ⟨rfl, hi, hb, hk⟩; refine ⟨_, rfl, ?_⟩; replace HO_5 := aQ (Kd.R_mono (Kd.R_keep (IsS126.apart (show IsS126 w0 _ g s0_0 xq1_1 xq2_1 from pi_ HI0) (pR HO_5.out) (by decide)) hk (fun _ h => h.2)) (fun _ h => h.1)); replace HK := kh HK hk; replace HB := aQ (hb); replace HI0 := aQ (hi); (try clear hb); (try clear hk); (try clear hi)) | ((with_reducible refine aW (b := .append) (xs := #[.tmp 13, .tmp 17]) rfl ?_); at_builtin; refine Kd.R_append (Kd.int .i64) w.heap.size rfl (.tmp 13) (.tmp 17) 24 3 (.int .i64 0) 8 rfl Tryz.underlying24 bR rfl (by decide) (by omega) u5 x5_1 (wrap64 (tq3 - 3)) [.int .i64 (wrap64 (tq3 - 3))] (fun _ => True) (fun _ => False) rfl rfl ?aP (fun _ hk => hk.elim) ?aF ?aO (Below.refl _ _) ?aS ?aL ?_; (case aP => exact rfl); (case aF => exact (fun _ _ => trivial)); (case aO => exact (pR HO_5.out)); (case aS => exact (bp (w := w) (g := g) (row := none) (pq HK))); (case aL => have := LMc7.out; omega); intro vqa w9 ho hb hg hat; rw [← Nyq9.out] at ho; replace HB := aQ (dj (pbI HB) HL.out hb); replace HI0 := aQ (IsS126.grown (pi_ HI0) hg (IsS126.own_ne HI0.out HO_5.out (by decide))); replace HK := aQ (KeepBut.trans (pq HK) (KeepBut.of_grown hg g) (Kd.R_base2 HO_5.out)); have HOqb := aQ (ho); clear HO_5; clear ho hb hg hat))
  go_roundg k1
  case measure => have := HK1.out; omega
  case rel => exact ⟨(yq9), (wrap64 (x6_1 + 1)), (tq7), (tq8), rs_, H', ⟨by have := HK1.out; omega⟩, ⟨pR HOqb.out⟩, ⟨pi_ HI0⟩, ⟨pq HK⟩, ⟨pbI HB⟩⟩
 ·rw [if_neg c5] at H
  have c5b0 := decide_eq_false c5
  clear c5
  simp only [Option.some.injEq, Prod.mk.injEq] at H
  obtain ⟨rfl, rfl, rfl⟩ := H
  go_wp2
  go_ret
  exact ⟨_, by first | rfl | (simp [errW_none, aj] <;> rfl) | (simp [*, errW_none, aj] <;> rfl), by refine pRx ?_; exact HO_5.out, pi_ HI0, pbI HB, pq HK⟩
def cV.f (a0 : Int) (a1 : Int) : Option (Int) := if a0 < a1 then (some a0) else (some a1)
theorem cV.calls (a0 : Int) (a1 : Int) (r : Int) (w : World) (h : cV.f a0 a1 = some r) :
  Calls Tryz.prog 160 #[.int .i64 a0, .int .i64 a1] w fun e w' => e = .returned (.int .i64 r) ∧ Drawn0 w w' := by
 have H : (if a0 < a1 then (some a0) else (some a1)) = some r := h
 clear h
 by_cases c3 : a0 < a1
 ·rw [if_pos c3] at H
  have c3b0 := decide_eq_true c3
  clear c3
  obtain rfl := Option.some.inj H
  go_enter Tryz.func160, Tryz.ntmps160
  go_wp2
  go_ret
  exact ⟨rs_, rd_⟩
 ·rw [if_neg c3] at H
  have c3b0 := decide_eq_false c3
  clear c3
  obtain rfl := Option.some.inj H
  go_enter Tryz.func160, Tryz.ntmps160
  go_wp2
  go_ret
  exact ⟨rs_, rd_⟩
def bE.f (s0_0 : List Int) (s0_1 : Int) (s0_2 : Int) (l1 : List Int) : Option (Int × Int × Int) := (ak.f s0_0 s0_1 s0_2 (l1.length : Int)).bind fun btq0 => (if 0 ≤ btq0.1 then (if btq0.1 < (l1.length : Int) then (some (rd l1 btq0.1, btq0.2.1, btq0.2.2)) else (none)) else (none))
theorem bE.calls (g : Nat) (s0_0 : List Int) (s0_1 : Int) (s0_2 : Int) (A1 : Option Addr) (c1 : Nat) (l1 : List Int) (r1 : Int) (r2 : Int) (r3 : Int) (w0 w : World) (hI : IsS126 w0 w g s0_0 s0_1 s0_2) (hB : Below w0.heap.size w0 w) (hr1 : Kd.C (Kd.int .i64) w A1 l1.length l1) (hc1 : l1.length ≤ c1) (hf1 : ∀ ad, A1 = some ad → 0 < l1.length → ad.block ≠ g) (h : bE.f s0_0 s0_1 s0_2 l1 = some (r1, r2, r3)) :
  Calls Tryz.prog 172 #[.pointer (some ⟨g, 0, none⟩), .slice A1 l1.length c1] w fun e w' => e = .returned (.int .i64 r1) ∧ IsS126 w0 w' g s0_0 r2 r3 ∧ Below w0.heap.size w0 w' ∧ KeepBut w w' g none := by
 have HR1 := aQ hr1
 have HC1 := aQ hc1
 clear hr1 hc1
 have HI0 := aQ hI
 have HK := aQ (KeepBut.refl w g none)
 have HL := aQ hB.size
 clear hI
 have HW0 := aQ hB.size
 have HB := aQ hB
 clear hB
 have H := h
 clear h
 unfold bE.f at H
 (try dsimp only at H)
 replace H := bo H; obtain ⟨⟨tq0, tq1, tq2⟩, A3, H⟩ := H
 (try dsimp only at H)
 replace H := gd H; obtain ⟨c4, H⟩ := H
 have c4b0 := decide_eq_true c4
 clear c4
 replace H := gd H; obtain ⟨c5, H⟩ := H
 have c5b0 := decide_eq_true c5
 clear c5
 simp only [Option.some.injEq, Prod.mk.injEq] at H
 obtain ⟨rfl, rfl, rfl⟩ := H
 go_enter Tryz.func172, Tryz.ntmps172
 go_wp2_with (first | (refine gq 99 (some 9) Tryz.func99 #[.pointer (some ⟨g, 0, none⟩), .int .i64 (l1.length : Int)] ?_; (with_reducible refine (ak.calls g s0_0 s0_1 s0_2 (l1.length : Int) tq0 tq1 tq2 w0 _ ?side1 ?side2 A3.out).mono ?_); (case side1 => exact pi_ HI0); (case side2 => exact pbI HB); rintro e w6 ⟨rfl, hi, hb, hk⟩; refine ⟨_, rfl, ?_⟩; replace HK := kh HK hk; replace HB := aQ (hb); replace HI0 := aQ (hi); (try clear hb); (try clear hk); (try clear hi); have pq3 : 0 ≤ (tq0 : Int) := of_decide_eq_true as_; have qq3 : tq0 < (l1.length : Int) := of_decide_eq_true as_; obtain ⟨adq3, eq3, hxq3_0⟩ := Kd.at_int HR1.out tq0 pq3 qq3; cases eq3; replace hxq3_0 := iW HK.out hxq3_0 (by first | (rw [dx]; exact hf1 _ rfl (by omega)) | exact hf1 _ rfl (by omega) | exact hf1 adq3 rfl (by omega)); replace pq3 := eq_true pq3; replace qq3 := eq_true qq3))
 go_ret
 exact ⟨re_, pi_ HI0, pbI HB, pq HK⟩
def b6.f (k : Nat) (s0_0 : List Int) (s0_1 : Int) (s0_2 : Int) (a1 : Int) : Option (List Int × Int × Int) := (cV.f a1 8).bind fun tq0 => ((bM.f 0 tq0).bind fun tq1 => ((bh.f k s0_0 s0_1 s0_2 tq1).bind fun btq2 => ((ak.f s0_0 btq2.2.1 btq2.2.2 12).bind fun btq3 => (if btq3.1 = 0 then (if btq2.1.length < 17592186044416 then (some ((btq2.1 ++ [1]), btq3.2.1, btq3.2.2)) else (none)) else (if btq3.1 = 1 then (if (btq2.1.length : Int) > 0 then ((bE.f s0_0 btq3.2.1 btq3.2.2 (([1000, 1001, (-1000), (-1001)] : List Int))).bind fun btq4 => (if 0 < (btq2.1.length : Int) then (some ((btq2.1.set (0 : Int).toNat btq4.1), btq4.2.1, btq4.2.2)) else (none))) else (some (btq2.1, btq3.2.1, btq3.2.2))) else (some (btq2.1, btq3.2.1, btq3.2.2)))))))
theorem b6.calls (k : Nat) (g : Nat) (s0_0 : List Int) (s0_1 : Int) (s0_2 : Int) (a1 : Int) (r1 : List Int) (r2 : Int) (r3 : Int) (w0 w : World) (hI : IsS126 w0 w g s0_0 s0_1 s0_2) (hB : Below w0.heap.size w0 w) (h : b6.f k s0_0 s0_1 s0_2 a1 = some (r1, r2, r3)) :
  Calls Tryz.prog 98 #[.pointer (some ⟨g, 0, none⟩), .int .i64 a1] w fun e w' => ∃ v0_ : Value, e = .returned (v0_) ∧ Kd.R (Kd.int .i64) 3 w' w.heap.size (fun _ => True) v0_ r1 ∧ IsS126 w0 w' g s0_0 r2 r3 ∧ Below w0.heap.size w0 w' ∧ KeepBut w w' g none := by
 have HI0 := aQ hI
 have HK := aQ (KeepBut.refl w g none)
 have HL := aQ hB.size
 clear hI
 have HW0 := aQ hB.size
 have HB := aQ hB
 clear hB
 have H := h
 clear h
 unfold b6.f at H
 (try dsimp only at H)
 replace H := bo H; obtain ⟨tq0, A3, H⟩ := H
 (try dsimp only at H)
 replace H := bo H; obtain ⟨tq1, A4, H⟩ := H
 (try dsimp only at H)
 replace H := bo H; obtain ⟨⟨tq2, tq5, tq6⟩, A5, H⟩ := H
 (try dsimp only at H)
 replace H := bo H; obtain ⟨⟨tq3, tq7, tq8⟩, A6, H⟩ := H
 (try dsimp only at H)
 by_cases c7 : tq3 = 0
 ·rw [if_pos c7] at H
  have c7b0 : (tq3 == 0) = true := beq_iff_eq.mpr c7
  have c7b1 : (tq3 != 0) = false := bne_eq_false_iff_eq.mpr c7
  clear c7
  replace H := gd H; obtain ⟨c8, H⟩ := H
  have LMc8 := aQ c8
  clear c8
  obtain ⟨yq9, hyq9⟩ : ∃ y_ : List Int, y_ = (tq2 ++ [1]) := ⟨_, rfl⟩
  replace H : (some (yq9, tq7, tq8)) = some (r1, r2, r3) := by first | (rw [hyq9]; with_reducible exact H) | (rw [hyq9]; exact H)
  have Nyq9 := aQ hyq9
  clear hyq9
  simp only [Option.some.injEq, Prod.mk.injEq] at H
  obtain ⟨rfl, rfl, rfl⟩ := H
  go_enter Tryz.func98, Tryz.ntmps98
  go_wp2_with (first | (refine gq 160 (some 8) Tryz.func160 #[.int .i64 a1, .int .i64 8] ?_; (with_reducible refine (cV.calls a1 8 tq0 _ A3.out).mono ?_); rintro e w' ⟨rfl, ⟨nd, rfl⟩⟩; refine ⟨_, rfl, ?_⟩) | (refine gq 107 (some 9) Tryz.func107 #[.int .i64 0, .int .i64 tq0] ?_; (with_reducible refine (bM.calls 0 tq0 tq1 _ A4.out).mono ?_); rintro e w' ⟨rfl, ⟨nd, rfl⟩⟩; refine ⟨_, rfl, ?_⟩) | (refine gq 110 (some 10) Tryz.func110 #[.pointer (some ⟨g, 0, none⟩), .int .i64 tq1] ?_; (with_reducible refine (bh.calls k g s0_0 s0_1 s0_2 tq1 tq2 tq5 tq6 w0 _ ?side1 ?side2 A5.out).mono ?_); (case side1 => exact pi_ HI0); (case side2 => exact pbI HB); rintro e w9 ⟨vqa, rfl, ho0, hi, hb, hk⟩; refine ⟨_, rfl, ?_⟩; have HOqb := aQ (Kd.R_lower ho0 (bp (w := w) (g := g) (row := none) (pq HK))); replace HK := kh HK hk; replace HB := aQ (hb); replace HI0 := aQ (hi); (try clear hb); (try clear hk); (try clear hi); (try clear ho0)) | (refine gq 99 (some 12) Tryz.func99 #[.pointer (some ⟨g, 0, none⟩), .int .i64 12] ?_; (with_reducible refine (ak.calls g s0_0 tq5 tq6 12 tq3 tq7 tq8 w0 _ ?side1 ?side2 A6.out).mono ?_); (case side1 => exact pi_ HI0); (case side2 => exact pbI HB); rintro e w10 ⟨rfl, hi, hb, hk⟩; refine ⟨_, rfl, ?_⟩; replace HOqb := aQ (Kd.R_mono (Kd.R_keep (IsS126.apart (show IsS126 w0 _ g s0_0 tq5 tq6 from pi_ HI0) (pR HOqb.out) (by decide)) hk (fun _ h => h.2)) (fun _ h => h.1)); replace HK := kh HK hk; replace HB := aQ (hb); replace HI0 := aQ (hi); (try clear hb); (try clear hk); (try clear hi)) | ((with_reducible refine aW (b := .append) (xs := #[.tmp 15, .tmp 16]) rfl ?_); at_builtin; refine Kd.R_append (Kd.int .i64) w.heap.size rfl (.tmp 15) (.tmp 16) 24 3 (.int .i64 0) 8 rfl Tryz.underlying24 bR rfl (by decide) (by omega) vqa tq2 1 [.int .i64 1] (fun _ => True) (fun _ => False) rfl rfl ?aP (fun _ hk => hk.elim) ?aF ?aO (Below.refl _ _) ?aS ?aL ?_; (case aP => exact rfl); (case aF => exact (fun _ _ => trivial)); (case aO => exact (pR HOqb.out)); (case aS => exact (bp (w := w) (g := g) (row := none) (pq HK))); (case aL => have := LMc8.out; omega); intro vqc w11 ho hb hg hat; rw [← Nyq9.out] at ho; replace HB := aQ (dj (pbI HB) HL.out hb); replace HI0 := aQ (IsS126.grown (pi_ HI0) hg (IsS126.own_ne HI0.out HOqb.out (by decide))); replace HK := aQ (KeepBut.trans (pq HK) (KeepBut.of_grown hg g) (Kd.R_base2 HOqb.out)); have HOqd := aQ (ho); clear HOqb; clear ho hb hg hat))
  go_ret
  exact ⟨_, by first | rfl | (simp [errW_none, aj] <;> rfl) | (simp [*, errW_none, aj] <;> rfl), by refine pRx ?_; exact HOqd.out, pi_ HI0, pbI HB, pq HK⟩
 ·rw [if_neg c7] at H
  have c7b0 : (tq3 == 0) = false := beq_eq_false_iff_ne.mpr c7
  have c7b1 : (tq3 != 0) = true := bne_iff_ne.mpr c7
  by_cases c12 : tq3 = 1
  ·rw [if_pos c12] at H
   have c12b0 : (tq3 == 1) = true := beq_iff_eq.mpr c12
   have c12b1 : (tq3 != 1) = false := bne_eq_false_iff_eq.mpr c12
   clear c12
   by_cases c13 : (tq2.length : Int) > 0
   ·rw [if_pos c13] at H
    have c13b0 := decide_eq_true c13
    have c13b1 : decide (0 < tq2.length) = true := decide_eq_true (by omega)
    clear c13
    obtain ⟨yqe, hyqe⟩ : ∃ y_ : List Int, y_ = (([1000, 1001, (-1000), (-1001)] : List Int)) := ⟨_, rfl⟩
    replace H : ((bE.f s0_0 tq7 tq8 yqe).bind fun btq4 => (if 0 < (tq2.length : Int) then (some ((tq2.set (0 : Int).toNat btq4.1), btq4.2.1, btq4.2.2)) else (none))) = some (r1, r2, r3) := by first | (rw [hyqe]; with_reducible exact H) | (rw [hyqe]; exact H)
    have Nyqe := aQ hyqe
    clear hyqe
    replace H := bo H; obtain ⟨⟨tq4, tqf, tqg⟩, A14, H⟩ := H
    (try dsimp only at H)
    replace H := gd H; obtain ⟨c15, H⟩ := H
    have c15b0 := decide_eq_true c15
    have c15b1 : decide (0 < tq2.length) = true := decide_eq_true (by omega)
    clear c15
    obtain ⟨yqh, hyqh⟩ : ∃ y_ : List Int, y_ = (tq2.set (0 : Int).toNat tq4) := ⟨_, rfl⟩
    replace H : (some (yqh, tqf, tqg)) = some (r1, r2, r3) := by first | (rw [hyqh]; with_reducible exact H) | (rw [hyqh]; exact H)
    have Nyqh := aQ hyqh
    clear hyqh
    simp only [Option.some.injEq, Prod.mk.injEq] at H
    obtain ⟨rfl, rfl, rfl⟩ := H
    go_enter Tryz.func98, Tryz.ntmps98
    go_wp2_with (first | (refine gq 160 (some 8) Tryz.func160 #[.int .i64 a1, .int .i64 8] ?_; (with_reducible refine (cV.calls a1 8 tq0 _ A3.out).mono ?_); rintro e w' ⟨rfl, ⟨nd, rfl⟩⟩; refine ⟨_, rfl, ?_⟩) | (refine gq 107 (some 9) Tryz.func107 #[.int .i64 0, .int .i64 tq0] ?_; (with_reducible refine (bM.calls 0 tq0 tq1 _ A4.out).mono ?_); rintro e w' ⟨rfl, ⟨nd, rfl⟩⟩; refine ⟨_, rfl, ?_⟩) | (refine gq 110 (some 10) Tryz.func110 #[.pointer (some ⟨g, 0, none⟩), .int .i64 tq1] ?_; (with_reducible refine (bh.calls k g s0_0 s0_1 s0_2 tq1 tq2 tq5 tq6 w0 _ ?side1 ?side2 A5.out).mono ?_); (case side1 => exact pi_ HI0); (case side2 => exact pbI HB); rintro e w17 ⟨vqa, rfl, ho0, hi, hb, hk⟩; refine ⟨_, rfl, ?_⟩; have HOqb := aQ (Kd.R_lower ho0 (bp (w := w) (g := g) (row := none) (pq HK))); replace HK := kh HK hk; replace HB := aQ (hb); replace HI0 := aQ (hi); (try clear hb); (try clear hk); (try clear hi); (try clear ho0)) | (refine gq 99 (some 12) Tryz.func99 #[.pointer (some ⟨g, 0, none⟩), .int .i64 12] ?_; (with_reducible refine (ak.calls g s0_0 tq5 tq6 12 tq3 tq7 tq8 w0 _ ?side1 ?side2 A6.out).mono ?_); (case side1 => exact pi_ HI0); (case side2 => exact pbI HB); rintro e w18 ⟨rfl, hi, hb, hk⟩; refine ⟨_, rfl, ?_⟩; replace HOqb := aQ (Kd.R_mono (Kd.R_keep (IsS126.apart (show IsS126 w0 _ g s0_0 tq5 tq6 from pi_ HI0) (pR HOqb.out) (by decide)) hk (fun _ h => h.2)) (fun _ h => h.1)); replace HK := kh HK hk; replace HB := aQ (hb); replace HI0 := aQ (hi); (try clear hb); (try clear hk); (try clear hi); obtain ⟨Ao19, co19, eo19⟩ := Kd.R_slice HOqb.out; subst eo19) | ((with_reducible refine af (N := 25) rfl ?_); refine Kd.R_lit (Kd.int .i64) _ 3 ?hg (N := 25) ?hd (xs := ([1000, 1001, (-1000), (-1001)] : List Int)) (inner := [.int .i64 1000, .int .i64 1001, .int .i64 (-1000), .int .i64 (-1001)]) (ok := fun _ => True) (okp := fun _ => True) ?hr ?hp (fun _ hk => hk) trivial (Below.refl _ _) (Nat.le_refl _) (by simp) ?_; (case hd => rfl); (case hg => rfl); (case hr => first | (go_simp; done) | (go_simp; rfl)); (case hp => exact (Reps.one (show Kd.M (Kd.int .i64) _ _ _ 1000 [.int .i64 1000] from rfl) (Reps.one (show Kd.M (Kd.int .i64) _ _ _ 1001 [.int .i64 1001] from rfl) (Reps.one (show Kd.M (Kd.int .i64) _ _ _ (-1000) [.int .i64 (-1000)] from rfl) (Reps.one (show Kd.M (Kd.int .i64) _ _ _ (-1001) [.int .i64 (-1001)] from rfl) (Reps.none _ _)))))); intro vqi w20 ho21 hb hg_ hnew_; clear hg_ hnew_; (first | rw [← Nyqe.out] at ho21 | (simp only [Int.reduceToNat] at ho21; rw [← Nyqe.out] at ho21)); have HOqj := aQ (Kd.R_lower (Kd.R_new' ho21 (Kd.R_lt (pR HOqb.out))) (bp (w := w) (g := g) (row := none) (pq HK))); replace HOqb := aQ (Kd.R_elder' (pR HOqb.out) (Kd.R_base ho21) hb); replace HK := kt HK hb; replace HB := bsI HB hb; replace HI0 := bI HI0 hb; clear hb ho21; obtain ⟨Ao22, co22, eo22⟩ := Kd.R_slice HOqj.out; subst eo22) | (refine gq 172 (some 26) Tryz.func172 #[.pointer (some ⟨g, 0, none⟩), .slice Ao22 yqe.length co22] ?_; (with_reducible refine (bE.calls g s0_0 tq7 tq8 _ _ yqe tq4 tqf tqg w0 _ ?side1 ?side2 ?side3 ?side4 ?side5 A14.out).mono ?_); (case side1 => exact pi_ HI0); (case side2 => exact pbI HB); (case side3 => exact pC ((Kd.R_reads' HOqj.out).2.2)); (case side4 => exact (Kd.R_reads' HOqj.out).2.1); (case side5 => exact eI (IsS126.own_ne HI0.out HOqj.out (by decide))); rintro e w23 ⟨rfl, hi, hb, hk⟩; refine ⟨_, rfl, ?_⟩; replace HOqb := aQ (Kd.R_mono (Kd.R_keep (IsS126.apart (show IsS126 w0 _ g s0_0 tq7 tq8 from pi_ HI0) (pR HOqb.out) (by decide)) hk (fun _ h => h.2)) (fun _ h => h.1)); replace HOqj := aQ (Kd.R_mono (Kd.R_keep (IsS126.apart (show IsS126 w0 _ g s0_0 tq7 tq8 from pi_ HI0) (pR HOqj.out) (by decide)) hk (fun _ h => h.2)) (fun _ h => h.1)); replace HK := kh HK hk; replace HB := aQ (hb); replace HI0 := aQ (hi); (try clear hb); (try clear hk); (try clear hi); have p16 : 0 ≤ (0 : Int) := (by omega); have q16 : (0 : Int) < ((tq2.length : Int) : Int) := of_decide_eq_true as_; have qi16 : (0 < tq2.length) = True := eq_true (by omega); obtain ⟨go16, co16, eo16, gb16, gl16, cl16, HG16⟩ := Kd.R_form HOqb.out (by omega); (first | cases eo16 | (injection eo16 with ea_ en_ ec_; (first | subst ea_ | (injection ea_ with ea_; subst ea_)); subst ec_; clear en_)); have GB16 := aQ gb16; have GG16 := aQ HG16; clear gb16 gl16 HG16; obtain ⟨hx16_0, hf16_0⟩ := Kd.R_celln 0 HOqb.out (0 : Int) p16 q16; (try rw [show ((0 : Int)).toNat = 0 from rfl] at hx16_0); (try simp only [Nat.reduceMul, Nat.zero_mul, Nat.zero_add, Nat.reduceAdd] at hx16_0); (try rw [show ((0 : Int)).toNat = 0 from rfl] at hf16_0); (try simp only [Nat.reduceMul, Nat.zero_mul, Nat.zero_add, Nat.reduceAdd] at hf16_0); replace p16 := eq_true p16; replace q16 := eq_true q16; have n_ := aQ (Kd.R_mono (ok' := (fun k_ => some k_ ≠ (.slice Ao22 yqe.length co22 : Value).ownBlock)) HOqb.out (fun k_ hk => hk.2)); clear HOqb; have HOqb := n_; clear n_; obtain ⟨hy24_, hz24_⟩ := Kd.R_celln 0 HOqb.out (0 : Int) (by omega) (of_decide_eq_true as_); (try simp only [Int.reduceToNat, Int.toNat_zero, Int.toNat_ofNat, Nat.reduceMul, Nat.zero_mul, Nat.zero_add] at hy24_ hz24_); (try rw [show ((0 : Int)).toNat = 0 from rfl] at hy24_); (try rw [show ((0 : Int)).toNat = 0 from rfl] at hz24_); have HP24 := Kd.R_putg HOqb.out (0 : Int) tq4) | ((with_reducible refine fv (t := 3) (p := 27) rfl ?_); refine eP (t := 3) (p := 27) (v := ?vo_w25) (w1 := (w23.setCell ⟨go16, (0 : Int).toNat, none⟩ (.int .i64 tq4))) ?hg ?ho ?hn ?hr ?_; (case ho => rfl); (case hg => rfl); (case hn => rfl); (case hr => first | (go_simp; done) | (go_simp; rfl)); intro w25 hw; have hg : w23.grownBy w25 (some go16) := (by rw [hw]; exact HP24.2); have hp_ : Kd.R (Kd.int .i64) 3 w25 w.heap.size (fun k_ => some k_ ≠ (.slice Ao22 yqe.length co22 : Value).ownBlock) (.slice (some ⟨go16, 0, none⟩) tq2.length co19) yqh := (by rw [hw, Nyqh.out]; exact HP24.1); clear HP24; replace HI0 := aQ (IsS126.grown (pi_ HI0) hg (IsS126.own_ne HI0.out HOqb.out (by decide))); replace HOqj := aQ (Kd.R_after (v := (.slice (some ⟨go16, 0, none⟩) tq2.length co19)) (v1 := (.slice (some ⟨go16, 0, none⟩) tq2.length co19)) (ok := (fun _ => True)) (pR HOqj.out) hg (.inl rfl)); replace HB := aQ ((by rw [hw]; exact cn (HB.out) (Nat.le_trans HL.out GB16.out) : Below w0.heap.size w0 w25)); replace HK := aQ (KeepBut.trans (pq HK) (KeepBut.of_grown hg g) (Kd.R_base2 HOqb.out)); replace HOqb := aQ (hp_); clear hg hw hp_))
    go_ret
    exact ⟨_, by first | rfl | (simp [errW_none, aj] <;> rfl) | (simp [*, errW_none, aj] <;> rfl), by refine pRx ?_; exact Kd.R_mono HOqb.out (fun _ hk => trivial), pi_ HI0, pbI HB, pq HK⟩
   ·rw [if_neg c13] at H
    have c13b0 := decide_eq_false c13
    have c13b1 : decide (0 < tq2.length) = false := decide_eq_false (by omega)
    clear c13
    simp only [Option.some.injEq, Prod.mk.injEq] at H
    obtain ⟨rfl, rfl, rfl⟩ := H
    go_enter Tryz.func98, Tryz.ntmps98
    go_wp2_with (first | (refine gq 160 (some 8) Tryz.func160 #[.int .i64 a1, .int .i64 8] ?_; (with_reducible refine (cV.calls a1 8 tq0 _ A3.out).mono ?_); rintro e w' ⟨rfl, ⟨nd, rfl⟩⟩; refine ⟨_, rfl, ?_⟩) | (refine gq 107 (some 9) Tryz.func107 #[.int .i64 0, .int .i64 tq0] ?_; (with_reducible refine (bM.calls 0 tq0 tq1 _ A4.out).mono ?_); rintro e w' ⟨rfl, ⟨nd, rfl⟩⟩; refine ⟨_, rfl, ?_⟩) | (refine gq 110 (some 10) Tryz.func110 #[.pointer (some ⟨g, 0, none⟩), .int .i64 tq1] ?_; (with_reducible refine (bh.calls k g s0_0 s0_1 s0_2 tq1 tq2 tq5 tq6 w0 _ ?side1 ?side2 A5.out).mono ?_); (case side1 => exact pi_ HI0); (case side2 => exact pbI HB); rintro e w26 ⟨vqa, rfl, ho0, hi, hb, hk⟩; refine ⟨_, rfl, ?_⟩; have HOqb := aQ (Kd.R_lower ho0 (bp (w := w) (g := g) (row := none) (pq HK))); replace HK := kh HK hk; replace HB := aQ (hb); replace HI0 := aQ (hi); (try clear hb); (try clear hk); (try clear hi); (try clear ho0)) | (refine gq 99 (some 12) Tryz.func99 #[.pointer (some ⟨g, 0, none⟩), .int .i64 12] ?_; (with_reducible refine (ak.calls g s0_0 tq5 tq6 12 tq3 tq7 tq8 w0 _ ?side1 ?side2 A6.out).mono ?_); (case side1 => exact pi_ HI0); (case side2 => exact pbI HB); rintro e w27 ⟨rfl, hi, hb, hk⟩; refine ⟨_, rfl, ?_⟩; replace HOqb := aQ (Kd.R_mono (Kd.R_keep (IsS126.apart (show IsS126 w0 _ g s0_0 tq5 tq6 from pi_ HI0) (pR HOqb.out) (by decide)) hk (fun _ h => h.2)) (fun _ h => h.1)); replace HK := kh HK hk; replace HB := aQ (hb); replace HI0 := aQ (hi); (try clear hb); (try clear hk); (try clear hi); obtain ⟨Ao28, co28, eo28⟩ := Kd.R_slice HOqb.out; subst eo28))
    go_ret
    exact ⟨_, by first | rfl | (simp [errW_none, aj] <;> rfl) | (simp [*, errW_none, aj] <;> rfl), by refine pRx ?_; exact HOqb.out, pi_ HI0, pbI HB, pq HK⟩
  ·rw [if_neg c12] at H
   have c12b0 : (tq3 == 1) = false := beq_eq_false_iff_ne.mpr c12
   have c12b1 : (tq3 != 1) = true := bne_iff_ne.mpr c12
   simp only [Option.some.injEq, Prod.mk.injEq] at H
   obtain ⟨rfl, rfl, rfl⟩ := H
   go_enter Tryz.func98, Tryz.ntmps98
   go_wp2_with (first | (refine gq 160 (some 8) Tryz.func160 #[.int .i64 a1, .int .i64 8] ?_; (with_reducible refine (cV.calls a1 8 tq0 _ A3.out).mono ?_); rintro e w' ⟨rfl, ⟨nd, rfl⟩⟩; refine ⟨_, rfl, ?_⟩) | (refine gq 107 (some 9) Tryz.func107 #[.int .i64 0, .int .i64 tq0] ?_; (with_reducible refine (bM.calls 0 tq0 tq1 _ A4.out).mono ?_); rintro e w' ⟨rfl, ⟨nd, rfl⟩⟩; refine ⟨_, rfl, ?_⟩) | (refine gq 110 (some 10) Tryz.func110 #[.pointer (some ⟨g, 0, none⟩), .int .i64 tq1] ?_; (with_reducible refine (bh.calls k g s0_0 s0_1 s0_2 tq1 tq2 tq5 tq6 w0 _ ?side1 ?side2 A5.out).mono ?_); (case side1 => exact pi_ HI0); (case side2 => exact pbI HB); rintro e w29 ⟨vqa, rfl, ho0, hi, hb, hk⟩; refine ⟨_, rfl, ?_⟩; have HOqb := aQ (Kd.R_lower ho0 (bp (w := w) (g := g) (row := none) (pq HK))); replace HK := kh HK hk; replace HB := aQ (hb); replace HI0 := aQ (hi); (try clear hb); (try clear hk); (try clear hi); (try clear ho0)) | (refine gq 99 (some 12) Tryz.func99 #[.pointer (some ⟨g, 0, none⟩), .int .i64 12] ?_; (with_reducible refine (ak.calls g s0_0 tq5 tq6 12 tq3 tq7 tq8 w0 _ ?side1 ?side2 A6.out).mono ?_); (case side1 => exact pi_ HI0); (case side2 => exact pbI HB); rintro e w30 ⟨rfl, hi, hb, hk⟩; refine ⟨_, rfl, ?_⟩; replace HOqb := aQ (Kd.R_mono (Kd.R_keep (IsS126.apart (show IsS126 w0 _ g s0_0 tq5 tq6 from pi_ HI0) (pR HOqb.out) (by decide)) hk (fun _ h => h.2)) (fun _ h => h.1)); replace HK := kh HK hk; replace HB := aQ (hb); replace HI0 := aQ (hi); (try clear hb); (try clear hk); (try clear hi)))
   go_ret
   exact ⟨_, by first | rfl | (simp [errW_none, aj] <;> rfl) | (simp [*, errW_none, aj] <;> rfl), by refine pRx ?_; exact HOqb.out, pi_ HI0, pbI HB, pq HK⟩
def cJ.f (s0_0 : List Int) (s0_1 : Int) (s0_2 : Int) (a1 : Int) : Option (Bool × Int × Int) := (ak.f s0_0 s0_1 s0_2 a1).bind fun btq0 => (some ((btq0.1 == 0), btq0.2.1, btq0.2.2))
theorem cJ.calls (g : Nat) (s0_0 : List Int) (s0_1 : Int) (s0_2 : Int) (a1 : Int) (r1 : Bool) (r2 : Int) (r3 : Int) (w0 w : World) (hI : IsS126 w0 w g s0_0 s0_1 s0_2) (hB : Below w0.heap.size w0 w) (h : cJ.f s0_0 s0_1 s0_2 a1 = some (r1, r2, r3)) :
  Calls Tryz.prog 106 #[.pointer (some ⟨g, 0, none⟩), .int .i64 a1] w fun e w' => e = .returned (.bool r1) ∧ IsS126 w0 w' g s0_0 r2 r3 ∧ Below w0.heap.size w0 w' ∧ KeepBut w w' g none := by
 have HI0 := aQ hI
 have HK := aQ (KeepBut.refl w g none)
 have HL := aQ hB.size
 clear hI
 have HW0 := aQ hB.size
 have HB := aQ hB
 clear hB
 have H := h
 clear h
 unfold cJ.f at H
 (try dsimp only at H)
 replace H := bo H; obtain ⟨⟨tq0, tq1, tq2⟩, A3, H⟩ := H
 (try dsimp only at H)
 simp only [Option.some.injEq, Prod.mk.injEq] at H
 obtain ⟨rfl, rfl, rfl⟩ := H
 go_enter Tryz.func106, Tryz.ntmps106
 go_wp2_with (first | (refine gq 99 (some 7) Tryz.func99 #[.pointer (some ⟨g, 0, none⟩), .int .i64 a1] ?_; (with_reducible refine (ak.calls g s0_0 s0_1 s0_2 a1 tq0 tq1 tq2 w0 _ ?side1 ?side2 A3.out).mono ?_); (case side1 => exact pi_ HI0); (case side2 => exact pbI HB); rintro e w4 ⟨rfl, hi, hb, hk⟩; refine ⟨_, rfl, ?_⟩; replace HK := kh HK hk; replace HB := aQ (hb); replace HI0 := aQ (hi); (try clear hb); (try clear hk); (try clear hi)))
 go_ret
 exact ⟨re_, pi_ HI0, pbI HB, pq HK⟩
def dt.f (s0_0 : List Int) (s0_1 : Int) (s0_2 : Int) : Option (Int × Int × Int) := (ak.f s0_0 s0_1 s0_2 256).bind fun btq0 => (some (btq0.1, btq0.2.1, btq0.2.2))
theorem dt.calls (g : Nat) (s0_0 : List Int) (s0_1 : Int) (s0_2 : Int) (r1 : Int) (r2 : Int) (r3 : Int) (w0 w : World) (hI : IsS126 w0 w g s0_0 s0_1 s0_2) (hB : Below w0.heap.size w0 w) (h : dt.f s0_0 s0_1 s0_2 = some (r1, r2, r3)) :
  Calls Tryz.prog 213 #[.pointer (some ⟨g, 0, none⟩)] w fun e w' => e = .returned (.int .i64 r1) ∧ IsS126 w0 w' g s0_0 r2 r3 ∧ Below w0.heap.size w0 w' ∧ KeepBut w w' g none := by
 have HI0 := aQ hI
 have HK := aQ (KeepBut.refl w g none)
 have HL := aQ hB.size
 clear hI
 have HW0 := aQ hB.size
 have HB := aQ hB
 clear hB
 have H := h
 clear h
 unfold dt.f at H
 (try dsimp only at H)
 replace H := bo H; obtain ⟨⟨tq0, tq1, tq2⟩, A2, H⟩ := H
 (try dsimp only at H)
 simp only [Option.some.injEq, Prod.mk.injEq] at H
 obtain ⟨rfl, rfl, rfl⟩ := H
 go_enter Tryz.func213, Tryz.ntmps213
 go_wp2_with (first | (refine gq 99 (some 4) Tryz.func99 #[.pointer (some ⟨g, 0, none⟩), .int .i64 256] ?_; (with_reducible refine (ak.calls g s0_0 s0_1 s0_2 256 tq0 tq1 tq2 w0 _ ?side1 ?side2 A2.out).mono ?_); (case side1 => exact pi_ HI0); (case side2 => exact pbI HB); rintro e w3 ⟨rfl, hi, hb, hk⟩; refine ⟨_, rfl, ?_⟩; replace HK := kh HK hk; replace HB := aQ (hb); replace HI0 := aQ (hi); (try clear hb); (try clear hk); (try clear hi)))
 go_ret
 exact ⟨re_, pi_ HI0, pbI HB, pq HK⟩
def dc.f (s0_0 : List Int) (s0_1 : Int) (s0_2 : Int) : Option (Int × Int × Int) := (cJ.f s0_0 s0_1 s0_2 8).bind fun btq0 => (if btq0.1 = true then ((bE.f s0_0 btq0.2.1 btq0.2.2 (([(-1), 256, 1000, (-9223372036854775808)] : List Int))).bind fun btq1 => (some (btq1.1, btq1.2.1, btq1.2.2))) else ((dt.f s0_0 btq0.2.1 btq0.2.2).bind fun btq2 => (some (btq2.1, btq2.2.1, btq2.2.2))))
theorem dc.calls (g : Nat) (s0_0 : List Int) (s0_1 : Int) (s0_2 : Int) (r1 : Int) (r2 : Int) (r3 : Int) (w0 w : World) (hI : IsS126 w0 w g s0_0 s0_1 s0_2) (hB : Below w0.heap.size w0 w) (h : dc.f s0_0 s0_1 s0_2 = some (r1, r2, r3)) :
  Calls Tryz.prog 127 #[.pointer (some ⟨g, 0, none⟩)] w fun e w' => e = .returned (.int .i64 r1) ∧ IsS126 w0 w' g s0_0 r2 r3 ∧ Below w0.heap.size w0 w' ∧ KeepBut w w' g none := by
 have HI0 := aQ hI
 have HK := aQ (KeepBut.refl w g none)
 have HL := aQ hB.size
 clear hI
 have HW0 := aQ hB.size
 have HB := aQ hB
 clear hB
 have H := h
 clear h
 unfold dc.f at H
 (try dsimp only at H)
 replace H := bo H; obtain ⟨⟨tq0, tq3, tq4⟩, A2, H⟩ := H
 (try dsimp only at H)
 by_cases c3 : tq0 = true
 ·subst c3
  rw [if_pos rfl] at H
  obtain ⟨yq5, hyq5⟩ : ∃ y_ : List Int, y_ = (([(-1), 256, 1000, (-9223372036854775808)] : List Int)) := ⟨_, rfl⟩
  replace H : ((bE.f s0_0 tq3 tq4 yq5).bind fun btq1 => (some (btq1.1, btq1.2.1, btq1.2.2))) = some (r1, r2, r3) := by first | (rw [hyq5]; with_reducible exact H) | (rw [hyq5]; exact H)
  have Nyq5 := aQ hyq5
  clear hyq5
  replace H := bo H; obtain ⟨⟨tq1, tq6, tq7⟩, A4, H⟩ := H
  (try dsimp only at H)
  simp only [Option.some.injEq, Prod.mk.injEq] at H
  obtain ⟨rfl, rfl, rfl⟩ := H
  go_enter Tryz.func127, Tryz.ntmps127
  go_wp2_with (first | (refine gq 106 (some 4) Tryz.func106 #[.pointer (some ⟨g, 0, none⟩), .int .i64 8] ?_; (with_reducible refine (cJ.calls g s0_0 s0_1 s0_2 8 true tq3 tq4 w0 _ ?side1 ?side2 A2.out).mono ?_); (case side1 => exact pi_ HI0); (case side2 => exact pbI HB); rintro e w5 ⟨rfl, hi, hb, hk⟩; refine ⟨_, rfl, ?_⟩; replace HK := kh HK hk; replace HB := aQ (hb); replace HI0 := aQ (hi); (try clear hb); (try clear hk); (try clear hi)) | ((with_reducible refine af (N := 6) rfl ?_); refine Kd.R_lit (Kd.int .i64) _ 3 ?hg (N := 6) ?hd (xs := ([(-1), 256, 1000, (-9223372036854775808)] : List Int)) (inner := [.int .i64 (-1), .int .i64 256, .int .i64 1000, .int .i64 (-9223372036854775808)]) (ok := fun _ => True) (okp := fun _ => True) ?hr ?hp (fun _ hk => hk) trivial (Below.refl _ _) (Nat.le_refl _) (by simp) ?_; (case hd => rfl); (case hg => rfl); (case hr => first | (go_simp; done) | (go_simp; rfl)); (case hp => exact (Reps.one (show Kd.M (Kd.int .i64) _ _ _ (-1) [.int .i64 (-1)] from rfl) (Reps.one (show Kd.M (Kd.int .i64) _ _ _ 256 [.int .i64 256] from rfl) (Reps.one (show Kd.M (Kd.int .i64) _ _ _ 1000 [.int .i64 1000] from rfl) (Reps.one (show Kd.M (Kd.int .i64) _ _ _ (-9223372036854775808) [.int .i64 (-9223372036854775808)] from rfl) (Reps.none _ _)))))); intro vq8 w6 ho7 hb hg_ hnew_; clear hg_ hnew_; (first | rw [← Nyq5.out] at ho7 | (simp only [Int.reduceToNat] at ho7; rw [← Nyq5.out] at ho7)); have HOq9 := aQ (Kd.R_lower ho7 (bp (w := w) (g := g) (row := none) (pq HK))); replace HK := kt HK hb; replace HB := bsI HB hb; replace HI0 := bI HI0 hb; clear hb ho7; obtain ⟨Ao8, co8, eo8⟩ := Kd.R_slice HOq9.out; subst eo8) | (refine gq 172 (some 7) Tryz.func172 #[.pointer (some ⟨g, 0, none⟩), .slice Ao8 yq5.length co8] ?_; (with_reducible refine (bE.calls g s0_0 tq3 tq4 _ _ yq5 tq1 tq6 tq7 w0 _ ?side1 ?side2 ?side3 ?side4 ?side5 A4.out).mono ?_); (case side1 => exact pi_ HI0); (case side2 => exact pbI HB); (case side3 => exact pC ((Kd.R_reads' HOq9.out).2.2)); (case side4 => exact (Kd.R_reads' HOq9.out).2.1); (case side5 => exact eI (IsS126.own_ne HI0.out HOq9.out (by decide))); rintro e w9 ⟨rfl, hi, hb, hk⟩; refine ⟨_, rfl, ?_⟩; replace HOq9 := aQ (Kd.R_mono (Kd.R_keep (IsS126.apart (show IsS126 w0 _ g s0_0 tq3 tq4 from pi_ HI0) (pR HOq9.out) (by decide)) hk (fun _ h => h.2)) (fun _ h => h.1)); replace HK := kh HK hk; replace HB := aQ (hb); replace HI0 := aQ (hi); (try clear hb); (try clear hk); (try clear hi)))
  go_ret
  exact ⟨re_, pi_ HI0, pbI HB, pq HK⟩
 ·replace c3 := Bool.eq_false_iff.mpr c3
  subst c3
  have H1 : ((dt.f s0_0 tq3 tq4).bind fun btq2 => (some (btq2.1, btq2.2.1, btq2.2.2))) = some (r1, r2, r3) := by rw [if_neg (show ¬ (false = true) by decide)] at H; exact H
  clear H
  have H := H1
  clear H1
  replace H := bo H; obtain ⟨⟨tq2, tqa, tqb⟩, A10, H⟩ := H
  (try dsimp only at H)
  simp only [Option.some.injEq, Prod.mk.injEq] at H
  obtain ⟨rfl, rfl, rfl⟩ := H
  go_enter Tryz.func127, Tryz.ntmps127
  go_wp2_with (first | (refine gq 106 (some 4) Tryz.func106 #[.pointer (some ⟨g, 0, none⟩), .int .i64 8] ?_; (with_reducible refine (cJ.calls g s0_0 s0_1 s0_2 8 false tq3 tq4 w0 _ ?side1 ?side2 A2.out).mono ?_); (case side1 => exact pi_ HI0); (case side2 => exact pbI HB); rintro e w11 ⟨rfl, hi, hb, hk⟩; refine ⟨_, rfl, ?_⟩; replace HK := kh HK hk; replace HB := aQ (hb); replace HI0 := aQ (hi); (try clear hb); (try clear hk); (try clear hi)) | (refine gq 213 (some 9) Tryz.func213 #[.pointer (some ⟨g, 0, none⟩)] ?_; (with_reducible refine (dt.calls g s0_0 tq3 tq4 tq2 tqa tqb w0 _ ?side1 ?side2 A10.out).mono ?_); (case side1 => exact pi_ HI0); (case side2 => exact pbI HB); rintro e w12 ⟨rfl, hi, hb, hk⟩; refine ⟨_, rfl, ?_⟩; replace HK := kh HK hk; replace HB := aQ (hb); replace HI0 := aQ (hi); (try clear hb); (try clear hk); (try clear hi)))
  go_ret
  exact ⟨re_, pi_ HI0, pbI HB, pq HK⟩
end Go.Proofs.YtimkekeaeojpkaaGreat.A
namespace Go.Proofs.YtimkekeaeojpkaaGreat.A
open Go.RowKit Go.Proofs.YtimkekeaeojpkaaGreatW.PrintWords Go.Proofs.YtimkekeaeojpkaaGreatW.PrintLast Go.Proofs.YtimkekeaeojpkaaGreatW.PrintMore Go.Proofs.YtimkekeaeojpkaaGreat.Z
attribute [local go_sem] cC cE cW cX co cp cD cG
set_option linter.unusedVariables false
set_option linter.unusedSimpArgs false
mutual
def ag.l0 : Nat → List Int → List Int → Int → Option (List Int)
 | 0, _, _, _ => none
 | k + 1, x0, x3, x4 => if x4 < (x0.length : Int) then (ag.l1 k x0 x3 x4 0) else (some x3)
def ag.l1 : Nat → List Int → List Int → Int → Int → Option (List Int)
 | 0, _, _, _, _ => none
 | k + 1, x0, x3, x4, x5 => if x5 < (x3.length : Int) then (if 0 ≤ x5 then (if 0 ≤ x4 then (if x4 < (x0.length : Int) then (if (rd x3 x5) < (rd x0 x4) then (ag.l1 k x0 x3 x4 (wrap64 (x5 + 1))) else (if (rd x3 x5) = (rd x0 x4) then (ag.l0 k x0 x3 (wrap64 (x4 + 1))) else ((some (([] : List Int) : List Int)).bind fun yq0 => (if x5 ≤ (x3.length : Int) then ((some (x3.drop (x5 : Int).toNat : List Int)).bind fun yq1 => (if yq0.length + yq1.length < 17592186044416 then ((some (yq0 ++ yq1 : List Int)).bind fun yq2 => ((some (x3.take (x5 : Int).toNat : List Int)).bind fun yq3 => (if yq3.length < 17592186044416 then ((some (yq3 ++ [rd x0 x4] : List Int)).bind fun yq4 => (if yq4.length + yq2.length < 17592186044416 then (ag.l0 k x0 (yq4 ++ yq2) (wrap64 (x4 + 1))) else (none))) else (none)))) else (none))) else (none))))) else (none)) else (none)) else (none)) else ((some (([] : List Int) : List Int)).bind fun yq5 => (if 0 ≤ x5 then (if x5 ≤ (x3.length : Int) then ((some (x3.drop (x5 : Int).toNat : List Int)).bind fun yq6 => (if yq5.length + yq6.length < 17592186044416 then ((some (yq5 ++ yq6 : List Int)).bind fun yq7 => ((some (x3.take (x5 : Int).toNat : List Int)).bind fun yq8 => (if 0 ≤ x4 then (if x4 < (x0.length : Int) then (if yq8.length < 17592186044416 then ((some (yq8 ++ [rd x0 x4] : List Int)).bind fun yq9 => (if yq9.length + yq7.length < 17592186044416 then (ag.l0 k x0 (yq9 ++ yq7) (wrap64 (x4 + 1))) else (none))) else (none)) else (none)) else (none)))) else (none))) else (none)) else (none)))
end
def ag.f (k : Nat) (l0 : List Int) : Option (List Int) := ag.l0 k l0 (([] : List Int)) 0
def ag.T6 : Bool × List (List Nat × List Nat) := (true, [([], []), ([], []), ([1], [1]), ([0, 2], [0, 2]), ([3], [3]), ([4], [4]), ([4], [4]), ([5, 6, 4], [4, 5, 6]), ([7, 4], [4, 7]), ([4], [4]), ([4], [4]), ([9, 10, 4], [4, 9, 10]), ([11, 4], [4, 11]), ([8, 12, 4], [4, 8, 12]), ([4, 13], [4, 13])])
def ag.B6 : List Nat := [0, 0, 2, 7, 15, 31, 31, 127, 255, 31, 31, 1567, 3615, 8191, 16383]
theorem ag.tab6 : rtab .any (eV Tryz.f140 6) = ag.T6 := by kernel_rfl
theorem ag.bits6 : cY ag.T6.2 ag.B6 = true := by kernel_rfl
def ag.T8 : Bool × List (List Nat × List Nat) := (true, [([], []), ([], []), ([1], [1]), ([0, 2], [0, 2]), ([3], [3]), ([4], [4]), ([4], [4]), ([5, 6, 4], [4, 5, 6]), ([7, 4], [4, 7]), ([4], [4]), ([4], [4]), ([9, 10, 4], [4, 9, 10]), ([11, 4], [4, 11]), ([8, 12, 4], [4, 8, 12]), ([4, 13], [4, 13])])
def ag.B8 : List Nat := [0, 0, 2, 7, 15, 31, 31, 127, 255, 31, 31, 1567, 3615, 8191, 16383]
theorem ag.tab8 : rtab .any (eV Tryz.f140 8) = ag.T8 := by kernel_rfl
theorem ag.bits8 : cY ag.T8.2 ag.B8 = true := by kernel_rfl
def ag.T10 : Bool × List (List Nat × List Nat) := (true, [([], []), ([], []), ([0, 1], [0, 1]), ([], []), ([], []), ([3, 4], [3, 4]), ([5], [5]), ([6], [6]), ([2, 7], [2, 7]), ([], []), ([8, 9, 8], [8, 9]), ([10, 10, 0, 1, 2, 3, 4, 5, 6, 7, 8, 9, 10], [0, 10])])
def ag.B10 : List Nat := [0, 0, 3, 0, 0, 24, 56, 120, 255, 0, 1023, 2047]
theorem ag.tab10 : rtab .any (eV Tryz.f140 10) = ag.T10 := by kernel_rfl
theorem ag.bits10 : cY ag.T10.2 ag.B10 = true := by kernel_rfl
theorem ag.calls (k : Nat) (A0 : Option Addr) (c0 : Nat) (l0 : List Int) (r : List Int) (w : World) (hr0 : Kd.C (Kd.int .i64) w A0 l0.length l0) (hc0 : l0.length ≤ c0) (h : ag.f k l0 = some r) :
  Calls Tryz.prog 140 #[.slice A0 l0.length c0] w fun e w' => ∃ v0_ : Value, e = .returned (v0_) ∧ Kd.R (Kd.int .i64) 3 w' w.heap.size (fun _ => True) v0_ r ∧ Below w.heap.size w w' := by
 have HR0 := aQ hr0
 have HC0 := aQ hc0
 clear hr0 hc0
 have HB := aQ (Below.refl w.heap.size w)
 have H : (ag.l0 k l0 (([] : List Int)) 0) = some r := h
 clear h
 obtain ⟨yqa, hyqa⟩ : ∃ y_ : List Int, y_ = (([] : List Int)) := ⟨_, rfl⟩
 replace H : (ag.l0 k l0 yqa 0) = some r := by first | (rw [hyqa]; with_reducible exact H) | (rw [hyqa]; exact H)
 have Nyqa := aQ hyqa
 clear hyqa
 have H' := aQ H
 clear H
 go_enter Tryz.func140, Tryz.ntmps140
 go_wp2_with (first | ((with_reducible refine af (N := 7) rfl ?_); refine Kd.R_lit (Kd.int .i64) _ 3 ?hg (N := 7) ?hd (xs := ([] : List Int)) (inner := []) (ok := fun _ => True) (okp := fun _ => True) ?hr ?hp (fun _ hk => hk) trivial (Below.refl _ _) (Nat.le_refl _) (by simp) ?_; (case hd => rfl); (case hg => rfl); (case hr => first | (go_simp; done) | (go_simp; rfl)); (case hp => exact (Reps.none _ _)); intro vqb w2 ho3 hb hg_ hnew_; clear hg_ hnew_; (first | rw [← Nyqa.out] at ho3 | (simp only [Int.reduceToNat] at ho3; rw [← Nyqa.out] at ho3)); have HOqc := aQ (Kd.R_lower ho3 (aa (pB HB.out))); replace HB := bs HB hb; clear hb ho3))
 go_loopg [3, 4] k (fun kq v3 v4 w' => ∃ (x3_1 : List Int) (x4_1 : Int), v4 = .int .i64 x4_1 ∧ Aside0 (ag.l0 kq l0 x3_1 x4_1 = some r) ∧ Aside0 (kq ≤ k) ∧ Aside0 (Kd.R (Kd.int .i64) 3 w' w.heap.size (fun _ => True) v3 x3_1) ∧ Aside0 (Below w.heap.size w w'))
 case atStart => exact ⟨(yqa), (0), rs_, H', ⟨Nat.le_refl _⟩, ⟨pR HOqc.out⟩, ⟨pB HB.out⟩⟩
 clear H'
 obtain ⟨x3_1, x4_1, rfl, HA, HK1, HO_3, HB⟩ := hrel
 rcases gk with _ | k1
 ·exact absurd HA.out (by simp [ag.l0])
 have H := HA.out
 clear HA
 simp only [ag.l0] at H
 by_cases c4 : x4_1 < (l0.length : Int)
 ·rw [if_pos c4] at H
  have c4b0 := decide_eq_true c4
  clear c4
  have H' := aQ H
  clear H
  go_wp2
  go_loopg [5] k1 (fun kq v5 w' => ∃ (x5_2 : Int), v5 = .int .i64 x5_2 ∧ Aside0 (ag.l1 kq l0 x3_1 x4_1 x5_2 = some r) ∧ Aside0 (kq ≤ k1) ∧ Aside0 (Kd.R (Kd.int .i64) 3 w' w.heap.size (fun _ => True) u3 x3_1) ∧ Aside0 (Below w.heap.size w w'))
  case atStart => exact ⟨(0), rs_, H', ⟨Nat.le_refl _⟩, ⟨pR HO_3.out⟩, ⟨pB HB.out⟩⟩
  clear H'
  try clear c4
  try clear c4b0
  obtain ⟨x5_2, rfl, HA, HK2, HO_3, HB⟩ := hrel
  rcases gk with _ | k2
  ·exact absurd HA.out (by simp [ag.l1])
  have H := HA.out
  clear HA
  simp only [ag.l1] at H
  by_cases c5 : x5_2 < (x3_1.length : Int)
  ·rw [if_pos c5] at H
   have c5b0 := decide_eq_true c5
   clear c5
   replace H := gd H; obtain ⟨c6, H⟩ := H
   have c6b0 := decide_eq_true c6
   clear c6
   replace H := gd H; obtain ⟨c7, H⟩ := H
   have c7b0 := decide_eq_true c7
   clear c7
   replace H := gd H; obtain ⟨c8, H⟩ := H
   have c8b0 := decide_eq_true c8
   clear c8
   by_cases c9 : (rd x3_1 x5_2) < (rd l0 x4_1)
   ·rw [if_pos c9] at H
    have c9b0 := decide_eq_true c9
    clear c9
    have H' := aQ H
    clear H
    try go_wp2
    replace HO_3 := aQ (Kd.R_drew HO_3.out); replace HB := aQ (a7 HB.out)
    obtain ⟨Ao11, co11, eo11⟩ := Kd.R_slice HO_3.out
    (first | subst eo11 | (injection eo11 with f1_ f2_ f3_; have f4_ := f1_.symm; have f5_ := f3_.symm; clear f1_ f2_ f3_; subst f4_; subst f5_))
    have pqd : 0 ≤ (x5_2 : Int) := of_decide_eq_true as_
    have qqd : x5_2 < (x3_1.length : Int) := of_decide_eq_true as_
    obtain ⟨adqd, eqd, hxqd_0⟩ := Kd.at_int (Kd.R_reads' HO_3.out).2.2 x5_2 pqd qqd
    cases eqd
    replace pqd := eq_true pqd
    replace qqd := eq_true qqd
    have pqe : 0 ≤ (x4_1 : Int) := of_decide_eq_true as_
    have qqe : x4_1 < (l0.length : Int) := of_decide_eq_true as_
    obtain ⟨adqe, eqe, hxqe_0⟩ := Kd.at_int HR0.out x4_1 pqe qqe
    have hwqe_0 := hxqe_0
    cases eqe
    replace hxqe_0 := (HB.out.cell (World.block_lt_of_cell? w _ hxqe_0)).trans hxqe_0
    replace pqe := eq_true pqe
    replace qqe := eq_true qqe
    refine cN (n := 15) (S := fun w' => w'.cell? (adqd.add (x5_2).toNat) = some (.int .i64 (rd x3_1 x5_2)) ∧ w'.cell? (adqe.add (x4_1).toNat) = some (.int .i64 (rd l0 x4_1))) (ds := []) _ (by kernel_rfl) rfl rfl ⟨hxqd_0, ((HB.out.cell (World.block_lt_of_cell? w _ hwqe_0)).trans hwqe_0)⟩ (fun hHeld => ?_); refine b0 ag.tab6 ag.bits6 (fun HT_ HW_ => ?_)
    generalize wr.drew = w10 at HO_3 HB hxqd_0 hxqe_0 hHeld ⊢
    refine pA 0 (some 14) HT_ ?_
    refine pA 1 (some 15) HT_ ?_
    refine pA 2 (some 16) HT_ ?_
    refine pA 3 (some 17) HT_ ?_
    refine pA 4 (some 18) HT_ ?_
    refine pA 5 (some 19) HT_ ?_
    refine pA 6 (some 20) HT_ ?_
    refine pA 7 (some 21) HT_ ?_
    refine pA 9 (some 23) HT_ ?_
    refine pA 10 (some 24) HT_ ?_
    refine pA 11 (some 25) HT_ ?_
    refine tA2 8 (some 22) HT_ HW_ hHeld ?_
    refine tA2 12 (some 26) HT_ HW_ hHeld ?_
    refine pA 13 (some 27) HT_ ?_
    refine pA 14 (some 28) HT_ ?_
    refine dn (cB HT_.out (by kernel_rfl)) ?_
    try go_wp2
    go_roundg k2
    case measure => have := HK1.out; have := HK2.out; omega
    case rel => exact ⟨(wrap64 (x5_2 + 1)), rs_, H', ⟨by have := HK1.out; have := HK2.out; omega⟩, ⟨pR HO_3.out⟩, ⟨pB HB.out⟩⟩
   ·rw [if_neg c9] at H
    have c9b0 := decide_eq_false c9
    clear c9
    by_cases c12 : (rd x3_1 x5_2) = (rd l0 x4_1)
    ·rw [if_pos c12] at H
     have c12b0 : ((rd x3_1 x5_2) == (rd l0 x4_1)) = true := beq_iff_eq.mpr c12
     have c12b1 : ((rd x3_1 x5_2) != (rd l0 x4_1)) = false := bne_eq_false_iff_eq.mpr c12
     clear c12
     have H' := aQ H
     clear H
     try go_wp2
     replace HO_3 := aQ (Kd.R_drew HO_3.out); replace HB := aQ (a7 HB.out)
     obtain ⟨Ao14, co14, eo14⟩ := Kd.R_slice HO_3.out
     (first | subst eo14 | (injection eo14 with f1_ f2_ f3_; have f4_ := f1_.symm; have f5_ := f3_.symm; clear f1_ f2_ f3_; subst f4_; subst f5_))
     have pqd : 0 ≤ (x5_2 : Int) := of_decide_eq_true as_
     have qqd : x5_2 < (x3_1.length : Int) := of_decide_eq_true as_
     obtain ⟨adqd, eqd, hxqd_0⟩ := Kd.at_int (Kd.R_reads' HO_3.out).2.2 x5_2 pqd qqd
     cases eqd
     replace pqd := eq_true pqd
     replace qqd := eq_true qqd
     have pqe : 0 ≤ (x4_1 : Int) := of_decide_eq_true as_
     have qqe : x4_1 < (l0.length : Int) := of_decide_eq_true as_
     obtain ⟨adqe, eqe, hxqe_0⟩ := Kd.at_int HR0.out x4_1 pqe qqe
     have hwqe_0 := hxqe_0
     cases eqe
     replace hxqe_0 := (HB.out.cell (World.block_lt_of_cell? w _ hxqe_0)).trans hxqe_0
     replace pqe := eq_true pqe
     replace qqe := eq_true qqe
     refine cN (n := 15) (S := fun w' => w'.cell? (adqd.add (x5_2).toNat) = some (.int .i64 (rd x3_1 x5_2)) ∧ w'.cell? (adqe.add (x4_1).toNat) = some (.int .i64 (rd l0 x4_1))) (ds := []) _ (by kernel_rfl) rfl rfl ⟨hxqd_0, ((HB.out.cell (World.block_lt_of_cell? w _ hwqe_0)).trans hwqe_0)⟩ (fun hHeld => ?_); refine b0 ag.tab6 ag.bits6 (fun HT_ HW_ => ?_)
     generalize wr.drew = w13 at HO_3 HB hxqd_0 hxqe_0 hHeld ⊢
     refine pA 0 (some 14) HT_ ?_
     refine pA 1 (some 15) HT_ ?_
     refine pA 2 (some 16) HT_ ?_
     refine pA 3 (some 17) HT_ ?_
     refine pA 4 (some 18) HT_ ?_
     refine pA 5 (some 19) HT_ ?_
     refine pA 6 (some 20) HT_ ?_
     refine pA 7 (some 21) HT_ ?_
     refine pA 9 (some 23) HT_ ?_
     refine pA 10 (some 24) HT_ ?_
     refine pA 11 (some 25) HT_ ?_
     refine tA2 8 (some 22) HT_ HW_ hHeld ?_
     refine tA2 12 (some 26) HT_ HW_ hHeld ?_
     refine pA 13 (some 27) HT_ ?_
     refine pA 14 (some 28) HT_ ?_
     refine dn (cB HT_.out (by kernel_rfl)) ?_
     try go_wp2
     replace HO_3 := aQ (Kd.R_drew HO_3.out); replace HB := aQ (a7 HB.out)
     have pqf : 0 ≤ (x5_2 : Int) := of_decide_eq_true as_
     have qqf : x5_2 < (x3_1.length : Int) := of_decide_eq_true as_
     obtain ⟨adqf, eqf, hxqf_0⟩ := Kd.at_int (Kd.R_reads' HO_3.out).2.2 x5_2 pqf qqf
     obtain rfl : adqd = adqf := (by injection eqf)
     replace pqf := eq_true pqf
     replace qqf := eq_true qqf
     have pqg : 0 ≤ (x4_1 : Int) := of_decide_eq_true as_
     have qqg : x4_1 < (l0.length : Int) := of_decide_eq_true as_
     obtain ⟨adqg, eqg, hxqg_0⟩ := Kd.at_int HR0.out x4_1 pqg qqg
     have hwqg_0 := hxqg_0
     obtain rfl : adqe = adqg := (by injection eqg)
     replace hxqg_0 := (HB.out.cell (World.block_lt_of_cell? w _ hxqg_0)).trans hxqg_0
     replace pqg := eq_true pqg
     replace qqg := eq_true qqg
     refine cN (n := 15) (S := fun w' => w'.cell? (adqd.add (x5_2).toNat) = some (.int .i64 (rd x3_1 x5_2)) ∧ w'.cell? (adqe.add (x4_1).toNat) = some (.int .i64 (rd l0 x4_1))) (ds := []) _ (by kernel_rfl) rfl rfl ⟨hxqf_0, ((HB.out.cell (World.block_lt_of_cell? w _ hwqg_0)).trans hwqg_0)⟩ (fun hHeld => ?_); refine b0 ag.tab8 ag.bits8 (fun HT_ HW_ => ?_)
     generalize w13.drew = w15 at HO_3 HB hxqf_0 hxqg_0 hHeld ⊢
     refine pA 0 (some 31) HT_ ?_
     refine pA 1 (some 32) HT_ ?_
     refine pA 2 (some 33) HT_ ?_
     refine pA 3 (some 34) HT_ ?_
     refine pA 4 (some 35) HT_ ?_
     refine pA 5 (some 36) HT_ ?_
     refine pA 6 (some 37) HT_ ?_
     refine pA 7 (some 38) HT_ ?_
     refine pA 9 (some 40) HT_ ?_
     refine pA 10 (some 41) HT_ ?_
     refine pA 11 (some 42) HT_ ?_
     refine tA2 8 (some 39) HT_ HW_ hHeld ?_
     refine tA2 12 (some 43) HT_ HW_ hHeld ?_
     refine pA 13 (some 44) HT_ ?_
     refine pA 14 (some 45) HT_ ?_
     refine dn (cB HT_.out (by kernel_rfl)) ?_
     try go_wp2
     go_roundg k2
     case measure => have := HK1.out; have := HK2.out; omega
     case rel => exact ⟨(x3_1), (wrap64 (x4_1 + 1)), rs_, H', ⟨by have := HK1.out; have := HK2.out; omega⟩, ⟨pR HO_3.out⟩, ⟨pB HB.out⟩⟩
    ·rw [if_neg c12] at H
     have c12b0 : ((rd x3_1 x5_2) == (rd l0 x4_1)) = false := beq_eq_false_iff_ne.mpr c12
     have c12b1 : ((rd x3_1 x5_2) != (rd l0 x4_1)) = true := bne_iff_ne.mpr c12
     obtain ⟨yq0, hyq0⟩ : ∃ y_ : List Int, y_ = (([] : List Int)) := ⟨_, rfl⟩
     replace H : (if x5_2 ≤ (x3_1.length : Int) then ((some (x3_1.drop (x5_2 : Int).toNat : List Int)).bind fun yq1 => (if yq0.length + yq1.length < 17592186044416 then ((some (yq0 ++ yq1 : List Int)).bind fun yq2 => ((some (x3_1.take (x5_2 : Int).toNat : List Int)).bind fun yq3 => (if yq3.length < 17592186044416 then ((some (yq3 ++ [rd l0 x4_1] : List Int)).bind fun yq4 => (if yq4.length + yq2.length < 17592186044416 then (ag.l0 k2 l0 (yq4 ++ yq2) (wrap64 (x4_1 + 1))) else (none))) else (none)))) else (none))) else (none)) = some r := by first | (rw [hyq0]; with_reducible exact H) | (rw [hyq0]; exact H)
     have Nyq0 := aQ hyq0
     clear hyq0
     have c16b0 := eq_true (of_decide_eq_true as_ : 0 ≤ x5_2)
     replace H := gd H; obtain ⟨c17, H⟩ := H
     have c17b0 := eq_true c17
     have c17b1 := decide_eq_true c17
     clear c17
     obtain ⟨yq1, hyq1⟩ : ∃ y_ : List Int, y_ = (x3_1.drop (x5_2 : Int).toNat) := ⟨_, rfl⟩
     replace H : (if yq0.length + yq1.length < 17592186044416 then ((some (yq0 ++ yq1 : List Int)).bind fun yq2 => ((some (x3_1.take (x5_2 : Int).toNat : List Int)).bind fun yq3 => (if yq3.length < 17592186044416 then ((some (yq3 ++ [rd l0 x4_1] : List Int)).bind fun yq4 => (if yq4.length + yq2.length < 17592186044416 then (ag.l0 k2 l0 (yq4 ++ yq2) (wrap64 (x4_1 + 1))) else (none))) else (none)))) else (none)) = some r := by first | (rw [hyq1]; with_reducible exact H) | (rw [hyq1]; exact H)
     have Nyq1 := aQ hyq1
     clear hyq1
     replace H := gd H; obtain ⟨c18, H⟩ := H
     have LMc18 := aQ c18
     clear c18
     obtain ⟨yq2, hyq2⟩ : ∃ y_ : List Int, y_ = (yq0 ++ yq1) := ⟨_, rfl⟩
     replace H : ((some (x3_1.take (x5_2 : Int).toNat : List Int)).bind fun yq3 => (if yq3.length < 17592186044416 then ((some (yq3 ++ [rd l0 x4_1] : List Int)).bind fun yq4 => (if yq4.length + yq2.length < 17592186044416 then (ag.l0 k2 l0 (yq4 ++ yq2) (wrap64 (x4_1 + 1))) else (none))) else (none))) = some r := by first | (rw [hyq2]; with_reducible exact H) | (rw [hyq2]; exact H)
     have Nyq2 := aQ hyq2
     clear hyq2
     have c19b0 := eq_true (of_decide_eq_true as_ : x5_2 ≤ (x3_1.length : Int))
     obtain ⟨yq3, hyq3⟩ : ∃ y_ : List Int, y_ = (x3_1.take (x5_2 : Int).toNat) := ⟨_, rfl⟩
     replace H := yy hyq3 H
     (try dsimp only at H)
     have Nyq3 := aQ hyq3
     clear hyq3
     replace H := gd H; obtain ⟨c20, H⟩ := H
     have LMc20 := aQ c20
     clear c20
     obtain ⟨yq4, hyq4⟩ : ∃ y_ : List Int, y_ = (yq3 ++ [rd l0 x4_1]) := ⟨_, rfl⟩
     replace H : (if yq4.length + yq2.length < 17592186044416 then (ag.l0 k2 l0 (yq4 ++ yq2) (wrap64 (x4_1 + 1))) else (none)) = some r := by first | (rw [hyq4]; with_reducible exact H) | (rw [hyq4]; exact H)
     have Nyq4 := aQ hyq4
     clear hyq4
     replace H := gd H; obtain ⟨c21, H⟩ := H
     have LMc21 := aQ c21
     clear c21
     obtain ⟨yqh, hyqh⟩ : ∃ y_ : List Int, y_ = (yq4 ++ yq2) := ⟨_, rfl⟩
     replace H : (ag.l0 k2 l0 yqh (wrap64 (x4_1 + 1))) = some r := by first | (rw [hyqh]; with_reducible exact H) | (rw [hyqh]; exact H)
     have Nyqh := aQ hyqh
     clear hyqh
     have H' := aQ H
     clear H
     try go_wp2
     replace HO_3 := aQ (Kd.R_drew HO_3.out); replace HB := aQ (a7 HB.out)
     obtain ⟨Ao23, co23, eo23⟩ := Kd.R_slice HO_3.out
     (first | subst eo23 | (injection eo23 with f1_ f2_ f3_; have f4_ := f1_.symm; have f5_ := f3_.symm; clear f1_ f2_ f3_; subst f4_; subst f5_))
     have pqd : 0 ≤ (x5_2 : Int) := of_decide_eq_true as_
     have qqd : x5_2 < (x3_1.length : Int) := of_decide_eq_true as_
     obtain ⟨adqd, eqd, hxqd_0⟩ := Kd.at_int (Kd.R_reads' HO_3.out).2.2 x5_2 pqd qqd
     cases eqd
     replace pqd := eq_true pqd
     replace qqd := eq_true qqd
     have pqe : 0 ≤ (x4_1 : Int) := of_decide_eq_true as_
     have qqe : x4_1 < (l0.length : Int) := of_decide_eq_true as_
     obtain ⟨adqe, eqe, hxqe_0⟩ := Kd.at_int HR0.out x4_1 pqe qqe
     have hwqe_0 := hxqe_0
     cases eqe
     replace hxqe_0 := (HB.out.cell (World.block_lt_of_cell? w _ hxqe_0)).trans hxqe_0
     replace pqe := eq_true pqe
     replace qqe := eq_true qqe
     refine cN (n := 15) (S := fun w' => w'.cell? (adqd.add (x5_2).toNat) = some (.int .i64 (rd x3_1 x5_2)) ∧ w'.cell? (adqe.add (x4_1).toNat) = some (.int .i64 (rd l0 x4_1))) (ds := []) _ (by kernel_rfl) rfl rfl ⟨hxqd_0, ((HB.out.cell (World.block_lt_of_cell? w _ hwqe_0)).trans hwqe_0)⟩ (fun hHeld => ?_); refine b0 ag.tab6 ag.bits6 (fun HT_ HW_ => ?_)
     generalize wr.drew = w22 at HO_3 HB hxqd_0 hxqe_0 hHeld ⊢
     refine pA 0 (some 14) HT_ ?_
     refine pA 1 (some 15) HT_ ?_
     refine pA 2 (some 16) HT_ ?_
     refine pA 3 (some 17) HT_ ?_
     refine pA 4 (some 18) HT_ ?_
     refine pA 5 (some 19) HT_ ?_
     refine pA 6 (some 20) HT_ ?_
     refine pA 7 (some 21) HT_ ?_
     refine pA 9 (some 23) HT_ ?_
     refine pA 10 (some 24) HT_ ?_
     refine pA 11 (some 25) HT_ ?_
     refine tA2 8 (some 22) HT_ HW_ hHeld ?_
     refine tA2 12 (some 26) HT_ HW_ hHeld ?_
     refine pA 13 (some 27) HT_ ?_
     refine pA 14 (some 28) HT_ ?_
     refine dn (cB HT_.out (by kernel_rfl)) ?_
     try go_wp2
     replace HO_3 := aQ (Kd.R_drew HO_3.out); replace HB := aQ (a7 HB.out)
     have pqf : 0 ≤ (x5_2 : Int) := of_decide_eq_true as_
     have qqf : x5_2 < (x3_1.length : Int) := of_decide_eq_true as_
     obtain ⟨adqf, eqf, hxqf_0⟩ := Kd.at_int (Kd.R_reads' HO_3.out).2.2 x5_2 pqf qqf
     obtain rfl : adqd = adqf := (by injection eqf)
     replace pqf := eq_true pqf
     replace qqf := eq_true qqf
     have pqg : 0 ≤ (x4_1 : Int) := of_decide_eq_true as_
     have qqg : x4_1 < (l0.length : Int) := of_decide_eq_true as_
     obtain ⟨adqg, eqg, hxqg_0⟩ := Kd.at_int HR0.out x4_1 pqg qqg
     have hwqg_0 := hxqg_0
     obtain rfl : adqe = adqg := (by injection eqg)
     replace hxqg_0 := (HB.out.cell (World.block_lt_of_cell? w _ hxqg_0)).trans hxqg_0
     replace pqg := eq_true pqg
     replace qqg := eq_true qqg
     refine cN (n := 15) (S := fun w' => w'.cell? (adqd.add (x5_2).toNat) = some (.int .i64 (rd x3_1 x5_2)) ∧ w'.cell? (adqe.add (x4_1).toNat) = some (.int .i64 (rd l0 x4_1))) (ds := []) _ (by kernel_rfl) rfl rfl ⟨hxqf_0, ((HB.out.cell (World.block_lt_of_cell? w _ hwqg_0)).trans hwqg_0)⟩ (fun hHeld => ?_); refine b0 ag.tab8 ag.bits8 (fun HT_ HW_ => ?_)
     generalize w22.drew = w24 at HO_3 HB hxqf_0 hxqg_0 hHeld ⊢
     refine pA 0 (some 31) HT_ ?_
     refine pA 1 (some 32) HT_ ?_
     refine pA 2 (some 33) HT_ ?_
     refine pA 3 (some 34) HT_ ?_
     refine pA 4 (some 35) HT_ ?_
     refine pA 5 (some 36) HT_ ?_
     refine pA 6 (some 37) HT_ ?_
     refine pA 7 (some 38) HT_ ?_
     refine pA 9 (some 40) HT_ ?_
     refine pA 10 (some 41) HT_ ?_
     refine pA 11 (some 42) HT_ ?_
     refine tA2 8 (some 39) HT_ HW_ hHeld ?_
     refine tA2 12 (some 43) HT_ HW_ hHeld ?_
     refine pA 13 (some 44) HT_ ?_
     refine pA 14 (some 45) HT_ ?_
     refine dn (cB HT_.out (by kernel_rfl)) ?_
     try go_wp2_with (first | ((with_reducible refine af (N := 46) rfl ?_); refine Kd.R_lit (Kd.int .i64) _ 3 ?hg (N := 46) ?hd (xs := ([] : List Int)) (inner := []) (ok := fun _ => True) (okp := fun _ => True) ?hr ?hp (fun _ hk => hk) trivial (Below.refl _ _) (Nat.le_refl _) (by simp) ?_; (case hd => rfl); (case hg => rfl); (case hr => first | (go_simp; done) | (go_simp; rfl)); (case hp => exact (Reps.none _ _)); intro vqi w25 ho26 hb hg_ hnew_; clear hg_ hnew_; (first | rw [← Nyq0.out] at ho26 | (simp only [Int.reduceToNat] at ho26; rw [← Nyq0.out] at ho26)); have HOqj := aQ (Kd.R_lower (Kd.R_new' ho26 (Kd.R_lt (pR HO_3.out))) (aa (pB HB.out))); replace HO_3 := aQ (Kd.R_elder' (pR HO_3.out) (Kd.R_base ho26) hb); replace HB := bs HB hb; clear hb ho26; have q27 : (x5_2 : Int) ≤ ((x3_1.length : Int) : Int) := of_decide_eq_true as_; obtain ⟨i027, hi027, _, hsz27, _⟩ := info_parts bR; have hroom27 : x3_1.length ≤ co23 := (Kd.R_reads' HO_3.out).2.1; have hC27 : Kd.C (Kd.int .i64) _ (some adqd) x3_1.length x3_1 := (Kd.R_reads' HO_3.out).2.2; have q027 : (0 : Int) ≤ (x5_2 : Int) := of_decide_eq_true as_; have hcut27 := dK (P := Tryz.prog) 24 3 .i64 Tryz.underlying24 hi027 1 hsz27 (some adqd) x3_1.length co23 x5_2 q027 q27; have hr27 := Kd.C_drop (m := (x5_2 : Int).toNat) (c := co23) hC27 (by omega) hroom27; obtain ⟨A27, hA27⟩ : ∃ A1, A1 = (if co23 = (x5_2 : Int).toNat then (some adqd) else ((some adqd) : Option Addr).map (·.add ((x5_2 : Int).toNat * 1))) := ⟨_, rfl⟩; obtain ⟨c27, hc27⟩ : ∃ c1, c1 = co23 - (x5_2 : Int).toNat := ⟨_, rfl⟩; have hy27 : yq1.length = x3_1.length - (x5_2 : Int).toNat := (by rw [Nyq1.out, List.length_drop] <;> omega); rw [show (x3_1).drop (x5_2 : Int).toNat = yq1 from Nyq1.out.symm] at hr27; replace hr27 : Kd.C (Kd.int .i64) _ A27 yq1.length yq1 := (by rw [hA27]; exact hr27); rw [← hy27, ← hA27, ← hc27] at hcut27; have HRqk := aQ hr27; have HCqk := aQ (show yq1.length ≤ c27 from by rw [hy27, hc27]; exact Nat.sub_le_sub_right hroom27 _); clear hr27 hC27 hroom27 hi027 hsz27 hc27; have KY27 := aQ hy27; have KA27 := aQ hA27; clear hy27 hA27; have KL27 := aQ (show (x5_2 : Int).toNat ≤ x3_1.length from by omega); replace q27 := eq_true q27) | ((with_reducible refine aW (b := .append) (xs := #[.tmp 46, .tmp 49]) rfl ?_); at_builtin; refine Kd.R_append_rows (Kd.int .i64) (w0 := w) w.heap.size rfl (.tmp 46) (.tmp 49) 24 3 (.int .i64 0) 8 rfl Tryz.underlying24 bR rfl (by decide) (by omega) vqi yq0 yq1 _ _ _ (fun k_ => some k_ ≠ (.slice (some adqd) x3_1.length co23 : Value).ownBlock) (fun _ => False) rfl rfl ?aO ?aR (fun _ _ h => h) (fun _ h => h.elim) ?aF ?aB ?aS ?aL ?_; (case aR => exact pC ((by repeat (first | (with_reducible exact HRqk.out) | (with_reducible refine Kd.C_alloc ?_ _) | (with_reducible refine Kd.C_drewN ?_ _) | (with_reducible refine Kd.C_drew ?_) | exact HRqk.out)))); (case aB => exact (pB HB.out)); (case aF => exact (fun k_ hk => Kd.fresh' (Kd.R_lt (pR HO_3.out)) k_ hk)); (case aO => exact (by refine pRx ?_; exact Kd.R_mono HOqj.out (fun _ hk => hk.2))); (case aS => exact (aa (pB HB.out))); (case aL => have := LMc18.out; omega); intro vql w28 ho hb hg hat; rw [← Nyq2.out] at ho; replace HB := aQ (hb); replace HRqk := aQ ((show Kd.C (Kd.int .i64) w28 A27 yq1.length yq1 from by rw [Nyq1.out, KA27.out]; exact Kd.C_drop (m := (x5_2 : Int).toNat) (c := co23) ((Kd.R_reads' (Kd.R_after (ok := (fun _ => True)) (pR HO_3.out) hg hat)).2.2) KL27.out ((Kd.R_reads' (Kd.R_after (ok := (fun _ => True)) (pR HO_3.out) hg hat)).2.1))); replace HO_3 := aQ (Kd.R_after (ok := (fun _ => True)) (pR HO_3.out) hg hat); have HOqm := aQ (ho); clear HOqj; clear ho hb hg hat))
     replace HO_3 := aQ (Kd.R_drew HO_3.out); replace HOqm := aQ (Kd.R_drew HOqm.out); replace HRqk := aQ (Kd.C_drew HRqk.out); replace HB := aQ (a7 HB.out)
     have q30 : (x5_2 : Int) ≤ ((x3_1.length : Int) : Int) := of_decide_eq_true as_
     obtain ⟨i030, hi030, _, hsz30, _⟩ := info_parts bR
     have hcut30 := eA (P := Tryz.prog) 24 3 .i64 Tryz.underlying24 hi030 (some adqd) x3_1.length co23 x5_2 (of_decide_eq_true as_) q30 (Kd.R_reads' HO_3.out).2.1
     have hr30 := Kd.R_take (m := (x5_2 : Int).toNat) HO_3.out (by omega)
     have hy30 : yq3.length = (x5_2 : Int).toNat := (by rw [Nyq3.out, List.length_take]; omega)
     rw [← Nyq3.out] at hr30
     rw [← hy30] at hr30 hcut30
     clear hy30 hi030 hsz30 HO_3
     have HOqn := aQ hr30
     clear hr30
     replace q30 := eq_true q30
     have pqo : 0 ≤ (x4_1 : Int) := of_decide_eq_true as_
     have qqo : x4_1 < (l0.length : Int) := of_decide_eq_true as_
     obtain ⟨adqo, eqo, hxqo_0⟩ := Kd.at_int HR0.out x4_1 pqo qqo
     have hwqo_0 := hxqo_0
     obtain rfl : adqe = adqo := (by injection eqo)
     replace hxqo_0 := (HB.out.cell (World.block_lt_of_cell? w _ hxqo_0)).trans hxqo_0
     replace pqo := eq_true pqo
     replace qqo := eq_true qqo
     refine cN (n := 12) (S := fun w' => w'.cell? (adqe.add (x4_1).toNat) = some (.int .i64 (rd l0 x4_1))) (ds := []) _ (by kernel_rfl) rfl rfl (((HB.out.cell (World.block_lt_of_cell? w _ hwqo_0)).trans hwqo_0)) (fun hHeld => ?_); refine b0 ag.tab10 ag.bits10 (fun HT_ HW_ => ?_)
     generalize w28.drew = w29 at HO_3 HOqm HRqk HB HOqn hxqo_0 hHeld ⊢
     refine pA 0 (some 51) HT_ ?_
     refine pA 1 (some 52) HT_ ?_
     refine pA 2 (some 53) HT_ ?_
     refine pA 3 (some 54) HT_ ?_
     refine pA 4 (some 55) HT_ ?_
     refine pA 5 (some 56) HT_ ?_
     refine pA 9 (some 60) HT_ ?_
     refine tA1 6 (some 57) HT_ HW_ hHeld ?_
     refine onA (i := 7) (N := some 58) HT_ (h := fun K hK => ?_)
     refine ky (w1 := ?_) (v := ?_) (by rfl) rfl ?_ ?_
     rotate_left 2
     ·go_simp
      constructor
      ·rfl
      ·rfl
     refine hK.out _ _ ((World.cell?_alloc_lt _ _ _ (World.block_lt_of_cell? _ _ (((HB.out.cell (World.block_lt_of_cell? w _ hwqo_0)).trans hwqo_0)))).trans (((HB.out.cell (World.block_lt_of_cell? w _ hwqo_0)).trans hwqo_0))) (fun hHeld => ?_)
     clear hK K
     refine noN (some 58) (h := ?_)
     refine onA (i := 8) (N := some 59) HT_ (h := fun K hK => ?_)
     refine Kd.R_append_step (Kd.int .i64) (w0 := w) w.heap.size (by rfl) (.tmp 53) (.tmp 58) 24 3 (.int .i64 0) 8 rfl Tryz.underlying24 bR rfl (by decide) (by omega) (.slice (some adqd) yq3.length co23) yq3 (rd l0 x4_1) [.int .i64 (rd l0 x4_1)] (fun k_ => some k_ ≠ (vql : Value).ownBlock) (fun _ => False) rfl rfl ?aP (fun _ hk => hk.elim) ?aF ?aO ?aB ?aS ?aL ?_
     (case aP => exact rfl)
     (case aB => exact (pB HB.out))
     (case aF => exact (fun k_ hk => Kd.fresh' (Kd.R_lt (pR HOqm.out)) k_ hk))
     (case aO => exact (by refine pRx ?_; exact Kd.R_mono HOqn.out (fun _ hk => hk.2)))
     (case aS => exact (aa (pB HB.out)))
     (case aL => have := LMc20.out; omega)
     intro vqp w31 ho hb hg hat
     rw [← Nyq4.out] at ho
     replace HOqm := aQ (Kd.R_after (ok := (fun _ => True)) (by refine pRx ?_; exact Kd.R_mono HOqm.out (fun _ hk => ⟨trivial, by first | exact hk | exact fun h_ => hk (h_.trans (eT _ _ _ _))⟩)) hg hat); replace HB := aQ (hb); have HOqq := aQ (ho); clear HOqn
     clear ho hb hg hat
     obtain ⟨Ao33, co33, eo33⟩ := Kd.R_slice HOqm.out
     (first | subst eo33 | (injection eo33 with f1_ f2_ f3_; have f4_ := f1_.symm; have f5_ := f3_.symm; clear f1_ f2_ f3_; subst f4_; subst f5_))
     refine hK.out _ _ (((HB.out.cell (World.block_lt_of_cell? w _ hwqo_0)).trans hwqo_0)) (fun hHeld => ?_)
     clear hK K
     refine noN (some 59) (h := ?_)
     refine onA (i := 10) (N := some 61) HT_ (h := fun K hK => ?_)
     refine Kd.R_append_rows_step (Kd.int .i64) (w0 := w) w.heap.size (by rfl) (.tmp 59) (.tmp 60) 24 3 (.int .i64 0) 8 rfl Tryz.underlying24 bR rfl (by decide) (by omega) vqp yq4 yq2 _ _ _ (fun k_ => some k_ ≠ (.slice Ao33 yq2.length co33 : Value).ownBlock) (fun _ => False) rfl rfl ?aO ?aR (fun _ _ h => h) (fun _ h => h.elim) ?aF ?aB ?aS ?aL ?_
     (case aR => exact pC ((Kd.R_reads' HOqm.out).2.2))
     (case aB => exact (pB HB.out))
     (case aF => exact (fun k_ hk => Kd.fresh' (Kd.R_lt (pR HOqm.out)) k_ hk))
     (case aO => exact (pR HOqq.out))
     (case aS => exact (aa (pB HB.out)))
     (case aL => have := LMc21.out; omega)
     intro vqr w32 ho hb hg hat
     rw [← Nyqh.out] at ho
     replace HOqm := aQ (Kd.R_after (ok := (fun _ => True)) (pR HOqm.out) hg hat); replace HB := aQ (hb); have HOqs := aQ (ho); clear HOqq
     clear ho hb hg hat
     refine hK.out _ _ (((HB.out.cell (World.block_lt_of_cell? w _ hwqo_0)).trans hwqo_0)) (fun hHeld => ?_)
     clear hK K
     refine noN (some 61) (h := ?_)
     refine pA 11 (some 3) HT_ ?_
     refine dn (cB HT_.out (by kernel_rfl)) ?_
     try go_wp2
     go_roundg k2
     case measure => have := HK1.out; have := HK2.out; omega
     case rel => exact ⟨(yqh), (wrap64 (x4_1 + 1)), rs_, H', ⟨by have := HK1.out; have := HK2.out; omega⟩, ⟨by refine pRx ?_; exact Kd.R_mono HOqs.out (fun _ hk => trivial)⟩, ⟨pB HB.out⟩⟩
  ·rw [if_neg c5] at H
   have c5b0 := decide_eq_false c5
   clear c5
   obtain ⟨yq5, hyq5⟩ : ∃ y_ : List Int, y_ = (([] : List Int)) := ⟨_, rfl⟩
   replace H : (if 0 ≤ x5_2 then (if x5_2 ≤ (x3_1.length : Int) then ((some (x3_1.drop (x5_2 : Int).toNat : List Int)).bind fun yq6 => (if yq5.length + yq6.length < 17592186044416 then ((some (yq5 ++ yq6 : List Int)).bind fun yq7 => ((some (x3_1.take (x5_2 : Int).toNat : List Int)).bind fun yq8 => (if 0 ≤ x4_1 then (if x4_1 < (l0.length : Int) then (if yq8.length < 17592186044416 then ((some (yq8 ++ [rd l0 x4_1] : List Int)).bind fun yq9 => (if yq9.length + yq7.length < 17592186044416 then (ag.l0 k2 l0 (yq9 ++ yq7) (wrap64 (x4_1 + 1))) else (none))) else (none)) else (none)) else (none)))) else (none))) else (none)) else (none)) = some r := by first | (rw [hyq5]; with_reducible exact H) | (rw [hyq5]; exact H)
   have Nyq5 := aQ hyq5
   clear hyq5
   replace H := gd H; obtain ⟨c34, H⟩ := H
   have c34b0 := eq_true c34
   have c34b1 := decide_eq_true c34
   clear c34
   replace H := gd H; obtain ⟨c35, H⟩ := H
   have c35b0 := eq_true c35
   have c35b1 := decide_eq_true c35
   clear c35
   obtain ⟨yq6, hyq6⟩ : ∃ y_ : List Int, y_ = (x3_1.drop (x5_2 : Int).toNat) := ⟨_, rfl⟩
   replace H : (if yq5.length + yq6.length < 17592186044416 then ((some (yq5 ++ yq6 : List Int)).bind fun yq7 => ((some (x3_1.take (x5_2 : Int).toNat : List Int)).bind fun yq8 => (if 0 ≤ x4_1 then (if x4_1 < (l0.length : Int) then (if yq8.length < 17592186044416 then ((some (yq8 ++ [rd l0 x4_1] : List Int)).bind fun yq9 => (if yq9.length + yq7.length < 17592186044416 then (ag.l0 k2 l0 (yq9 ++ yq7) (wrap64 (x4_1 + 1))) else (none))) else (none)) else (none)) else (none)))) else (none)) = some r := by first | (rw [hyq6]; with_reducible exact H) | (rw [hyq6]; exact H)
   have Nyq6 := aQ hyq6
   clear hyq6
   replace H := gd H; obtain ⟨c36, H⟩ := H
   have LMc36 := aQ c36
   clear c36
   obtain ⟨yq7, hyq7⟩ : ∃ y_ : List Int, y_ = (yq5 ++ yq6) := ⟨_, rfl⟩
   replace H : ((some (x3_1.take (x5_2 : Int).toNat : List Int)).bind fun yq8 => (if 0 ≤ x4_1 then (if x4_1 < (l0.length : Int) then (if yq8.length < 17592186044416 then ((some (yq8 ++ [rd l0 x4_1] : List Int)).bind fun yq9 => (if yq9.length + yq7.length < 17592186044416 then (ag.l0 k2 l0 (yq9 ++ yq7) (wrap64 (x4_1 + 1))) else (none))) else (none)) else (none)) else (none))) = some r := by first | (rw [hyq7]; with_reducible exact H) | (rw [hyq7]; exact H)
   have Nyq7 := aQ hyq7
   clear hyq7
   have c37b0 := eq_true (of_decide_eq_true as_ : x5_2 ≤ (x3_1.length : Int))
   obtain ⟨yq8, hyq8⟩ : ∃ y_ : List Int, y_ = (x3_1.take (x5_2 : Int).toNat) := ⟨_, rfl⟩
   replace H := yy hyq8 H
   (try dsimp only at H)
   have Nyq8 := aQ hyq8
   clear hyq8
   replace H := gd H; obtain ⟨c38, H⟩ := H
   have c38b0 := decide_eq_true c38
   clear c38
   replace H := gd H; obtain ⟨c39, H⟩ := H
   have c39b0 := decide_eq_true c39
   clear c39
   replace H := gd H; obtain ⟨c40, H⟩ := H
   have LMc40 := aQ c40
   clear c40
   obtain ⟨yq9, hyq9⟩ : ∃ y_ : List Int, y_ = (yq8 ++ [rd l0 x4_1]) := ⟨_, rfl⟩
   replace H : (if yq9.length + yq7.length < 17592186044416 then (ag.l0 k2 l0 (yq9 ++ yq7) (wrap64 (x4_1 + 1))) else (none)) = some r := by first | (rw [hyq9]; with_reducible exact H) | (rw [hyq9]; exact H)
   have Nyq9 := aQ hyq9
   clear hyq9
   replace H := gd H; obtain ⟨c41, H⟩ := H
   have LMc41 := aQ c41
   clear c41
   obtain ⟨yqt, hyqt⟩ : ∃ y_ : List Int, y_ = (yq9 ++ yq7) := ⟨_, rfl⟩
   replace H : (ag.l0 k2 l0 yqt (wrap64 (x4_1 + 1))) = some r := by first | (rw [hyqt]; with_reducible exact H) | (rw [hyqt]; exact H)
   have Nyqt := aQ hyqt
   clear hyqt
   have H' := aQ H
   clear H
   try go_wp2
   replace HO_3 := aQ (Kd.R_drew HO_3.out); replace HB := aQ (a7 HB.out)
   obtain ⟨Ao43, co43, eo43⟩ := Kd.R_slice HO_3.out
   (first | subst eo43 | (injection eo43 with f1_ f2_ f3_; have f4_ := f1_.symm; have f5_ := f3_.symm; clear f1_ f2_ f3_; subst f4_; subst f5_))
   refine cN (n := 15) (S := fun w' => True) (ds := []) _ (by kernel_rfl) rfl rfl trivial (fun hHeld => ?_); refine b0 ag.tab6 ag.bits6 (fun HT_ HW_ => ?_)
   generalize wr.drew = w42 at HO_3 HB hHeld ⊢
   refine pA 0 (some 14) HT_ ?_
   refine pA 1 (some 15) HT_ ?_
   refine pA 2 (some 16) HT_ ?_
   refine pA 3 (some 17) HT_ ?_
   refine pA 4 (some 18) HT_ ?_
   refine pU 5 (some 19) HT_ ?_
   refine pU 6 (some 20) HT_ ?_
   refine pU 7 (some 21) HT_ ?_
   refine pU 8 (some 22) HT_ ?_
   refine pU 9 (some 23) HT_ ?_
   refine pU 10 (some 24) HT_ ?_
   refine pU 11 (some 25) HT_ ?_
   refine pU 12 (some 26) HT_ ?_
   refine pU 13 (some 27) HT_ ?_
   refine pA 14 (some 28) HT_ ?_
   refine dn (cB HT_.out (by kernel_rfl)) ?_
   try go_wp2
   replace HO_3 := aQ (Kd.R_drew HO_3.out); replace HB := aQ (a7 HB.out)
   refine cN (n := 15) (S := fun w' => True) (ds := []) _ (by kernel_rfl) rfl rfl trivial (fun hHeld => ?_); refine b0 ag.tab8 ag.bits8 (fun HT_ HW_ => ?_)
   generalize w42.drew = w44 at HO_3 HB hHeld ⊢
   refine pA 0 (some 31) HT_ ?_
   refine pA 1 (some 32) HT_ ?_
   refine pA 2 (some 33) HT_ ?_
   refine pA 3 (some 34) HT_ ?_
   refine pA 4 (some 35) HT_ ?_
   refine pU 5 (some 36) HT_ ?_
   refine pU 6 (some 37) HT_ ?_
   refine pU 7 (some 38) HT_ ?_
   refine pU 8 (some 39) HT_ ?_
   refine pU 9 (some 40) HT_ ?_
   refine pU 10 (some 41) HT_ ?_
   refine pU 11 (some 42) HT_ ?_
   refine pU 12 (some 43) HT_ ?_
   refine pU 13 (some 44) HT_ ?_
   refine pA 14 (some 45) HT_ ?_
   refine dn (cB HT_.out (by kernel_rfl)) ?_
   try go_wp2_with (first | ((with_reducible refine af (N := 46) rfl ?_); refine Kd.R_lit (Kd.int .i64) _ 3 ?hg (N := 46) ?hd (xs := ([] : List Int)) (inner := []) (ok := fun _ => True) (okp := fun _ => True) ?hr ?hp (fun _ hk => hk) trivial (Below.refl _ _) (Nat.le_refl _) (by simp) ?_; (case hd => rfl); (case hg => rfl); (case hr => first | (go_simp; done) | (go_simp; rfl)); (case hp => exact (Reps.none _ _)); intro vqu w45 ho46 hb hg_ hnew_; clear hg_ hnew_; (first | rw [← Nyq5.out] at ho46 | (simp only [Int.reduceToNat] at ho46; rw [← Nyq5.out] at ho46)); have HOqv := aQ (Kd.R_lower (Kd.R_new' ho46 (Kd.R_lt (pR HO_3.out))) (aa (pB HB.out))); replace HO_3 := aQ (Kd.R_elder' (pR HO_3.out) (Kd.R_base ho46) hb); replace HB := bs HB hb; clear hb ho46; have q47 : (x5_2 : Int) ≤ ((x3_1.length : Int) : Int) := of_decide_eq_true as_; obtain ⟨i047, hi047, _, hsz47, _⟩ := info_parts bR; have hroom47 : x3_1.length ≤ co43 := (Kd.R_reads' HO_3.out).2.1; have hC47 : Kd.C (Kd.int .i64) _ Ao43 x3_1.length x3_1 := (Kd.R_reads' HO_3.out).2.2; have q047 : (0 : Int) ≤ (x5_2 : Int) := of_decide_eq_true as_; have hcut47 := dK (P := Tryz.prog) 24 3 .i64 Tryz.underlying24 hi047 1 hsz47 Ao43 x3_1.length co43 x5_2 q047 q47; have hr47 := Kd.C_drop (m := (x5_2 : Int).toNat) (c := co43) hC47 (by omega) hroom47; obtain ⟨A47, hA47⟩ : ∃ A1, A1 = (if co43 = (x5_2 : Int).toNat then Ao43 else (Ao43 : Option Addr).map (·.add ((x5_2 : Int).toNat * 1))) := ⟨_, rfl⟩; obtain ⟨c47, hc47⟩ : ∃ c1, c1 = co43 - (x5_2 : Int).toNat := ⟨_, rfl⟩; have hy47 : yq6.length = x3_1.length - (x5_2 : Int).toNat := (by rw [Nyq6.out, List.length_drop] <;> omega); rw [show (x3_1).drop (x5_2 : Int).toNat = yq6 from Nyq6.out.symm] at hr47; replace hr47 : Kd.C (Kd.int .i64) _ A47 yq6.length yq6 := (by rw [hA47]; exact hr47); rw [← hy47, ← hA47, ← hc47] at hcut47; have HRqw := aQ hr47; have HCqw := aQ (show yq6.length ≤ c47 from by rw [hy47, hc47]; exact Nat.sub_le_sub_right hroom47 _); clear hr47 hC47 hroom47 hi047 hsz47 hc47; have KY47 := aQ hy47; have KA47 := aQ hA47; clear hy47 hA47; have KL47 := aQ (show (x5_2 : Int).toNat ≤ x3_1.length from by omega); replace q47 := eq_true q47) | ((with_reducible refine aW (b := .append) (xs := #[.tmp 46, .tmp 49]) rfl ?_); at_builtin; refine Kd.R_append_rows (Kd.int .i64) (w0 := w) w.heap.size rfl (.tmp 46) (.tmp 49) 24 3 (.int .i64 0) 8 rfl Tryz.underlying24 bR rfl (by decide) (by omega) vqu yq5 yq6 _ _ _ (fun k_ => some k_ ≠ (.slice Ao43 x3_1.length co43 : Value).ownBlock) (fun _ => False) rfl rfl ?aO ?aR (fun _ _ h => h) (fun _ h => h.elim) ?aF ?aB ?aS ?aL ?_; (case aR => exact pC ((by repeat (first | (with_reducible exact HRqw.out) | (with_reducible refine Kd.C_alloc ?_ _) | (with_reducible refine Kd.C_drewN ?_ _) | (with_reducible refine Kd.C_drew ?_) | exact HRqw.out)))); (case aB => exact (pB HB.out)); (case aF => exact (fun k_ hk => Kd.fresh' (Kd.R_lt (pR HO_3.out)) k_ hk)); (case aO => exact (by refine pRx ?_; exact Kd.R_mono HOqv.out (fun _ hk => hk.2))); (case aS => exact (aa (pB HB.out))); (case aL => have := LMc36.out; omega); intro vqx w48 ho hb hg hat; rw [← Nyq7.out] at ho; replace HB := aQ (hb); replace HRqw := aQ ((show Kd.C (Kd.int .i64) w48 A47 yq6.length yq6 from by rw [Nyq6.out, KA47.out]; exact Kd.C_drop (m := (x5_2 : Int).toNat) (c := co43) ((Kd.R_reads' (Kd.R_after (ok := (fun _ => True)) (pR HO_3.out) hg hat)).2.2) KL47.out ((Kd.R_reads' (Kd.R_after (ok := (fun _ => True)) (pR HO_3.out) hg hat)).2.1))); replace HO_3 := aQ (Kd.R_after (ok := (fun _ => True)) (pR HO_3.out) hg hat); have HOqy := aQ (ho); clear HOqv; clear ho hb hg hat))
   replace HO_3 := aQ (Kd.R_drew HO_3.out); replace HOqy := aQ (Kd.R_drew HOqy.out); replace HRqw := aQ (Kd.C_drew HRqw.out); replace HB := aQ (a7 HB.out)
   have q50 : (x5_2 : Int) ≤ ((x3_1.length : Int) : Int) := of_decide_eq_true as_
   obtain ⟨i050, hi050, _, hsz50, _⟩ := info_parts bR
   have hcut50 := eA (P := Tryz.prog) 24 3 .i64 Tryz.underlying24 hi050 Ao43 x3_1.length co43 x5_2 (of_decide_eq_true as_) q50 (Kd.R_reads' HO_3.out).2.1
   have hr50 := Kd.R_take (m := (x5_2 : Int).toNat) HO_3.out (by omega)
   have hy50 : yq8.length = (x5_2 : Int).toNat := (by rw [Nyq8.out, List.length_take]; omega)
   rw [← Nyq8.out] at hr50
   rw [← hy50] at hr50 hcut50
   clear hy50 hi050 hsz50 HO_3
   have HOqz := aQ hr50
   clear hr50
   replace q50 := eq_true q50
   have pq10 : 0 ≤ (x4_1 : Int) := of_decide_eq_true as_
   have qq10 : x4_1 < (l0.length : Int) := of_decide_eq_true as_
   obtain ⟨adq10, eq10, hxq10_0⟩ := Kd.at_int HR0.out x4_1 pq10 qq10
   have hwq10_0 := hxq10_0
   cases eq10
   replace hxq10_0 := (HB.out.cell (World.block_lt_of_cell? w _ hxq10_0)).trans hxq10_0
   replace pq10 := eq_true pq10
   replace qq10 := eq_true qq10
   refine cN (n := 12) (S := fun w' => w'.cell? (adq10.add (x4_1).toNat) = some (.int .i64 (rd l0 x4_1))) (ds := []) _ (by kernel_rfl) rfl rfl (((HB.out.cell (World.block_lt_of_cell? w _ hwq10_0)).trans hwq10_0)) (fun hHeld => ?_); refine b0 ag.tab10 ag.bits10 (fun HT_ HW_ => ?_)
   generalize w48.drew = w49 at HO_3 HOqy HRqw HB HOqz hxq10_0 hHeld ⊢
   refine pA 0 (some 51) HT_ ?_
   refine pA 1 (some 52) HT_ ?_
   refine pA 2 (some 53) HT_ ?_
   refine pA 3 (some 54) HT_ ?_
   refine pA 4 (some 55) HT_ ?_
   refine pA 5 (some 56) HT_ ?_
   refine pA 9 (some 60) HT_ ?_
   refine tA1 6 (some 57) HT_ HW_ hHeld ?_
   refine onA (i := 7) (N := some 58) HT_ (h := fun K hK => ?_)
   refine ky (w1 := ?_) (v := ?_) (by rfl) rfl ?_ ?_
   rotate_left 2
   ·go_simp
    constructor
    ·rfl
    ·rfl
   refine hK.out _ _ ((World.cell?_alloc_lt _ _ _ (World.block_lt_of_cell? _ _ (((HB.out.cell (World.block_lt_of_cell? w _ hwq10_0)).trans hwq10_0)))).trans (((HB.out.cell (World.block_lt_of_cell? w _ hwq10_0)).trans hwq10_0))) (fun hHeld => ?_)
   clear hK K
   refine noN (some 58) (h := ?_)
   refine onA (i := 8) (N := some 59) HT_ (h := fun K hK => ?_)
   refine Kd.R_append_step (Kd.int .i64) (w0 := w) w.heap.size (by rfl) (.tmp 53) (.tmp 58) 24 3 (.int .i64 0) 8 rfl Tryz.underlying24 bR rfl (by decide) (by omega) (.slice Ao43 yq8.length co43) yq8 (rd l0 x4_1) [.int .i64 (rd l0 x4_1)] (fun k_ => some k_ ≠ (vqx : Value).ownBlock) (fun _ => False) rfl rfl ?aP (fun _ hk => hk.elim) ?aF ?aO ?aB ?aS ?aL ?_
   (case aP => exact rfl)
   (case aB => exact (pB HB.out))
   (case aF => exact (fun k_ hk => Kd.fresh' (Kd.R_lt (pR HOqy.out)) k_ hk))
   (case aO => exact (by refine pRx ?_; exact Kd.R_mono HOqz.out (fun _ hk => hk.2)))
   (case aS => exact (aa (pB HB.out)))
   (case aL => have := LMc40.out; omega)
   intro vq11 w51 ho hb hg hat
   rw [← Nyq9.out] at ho
   replace HOqy := aQ (Kd.R_after (ok := (fun _ => True)) (by refine pRx ?_; exact Kd.R_mono HOqy.out (fun _ hk => ⟨trivial, by first | exact hk | exact fun h_ => hk (h_.trans (eT _ _ _ _))⟩)) hg hat); replace HB := aQ (hb); have HOq12 := aQ (ho); clear HOqz
   clear ho hb hg hat
   obtain ⟨Ao53, co53, eo53⟩ := Kd.R_slice HOqy.out
   (first | subst eo53 | (injection eo53 with f1_ f2_ f3_; have f4_ := f1_.symm; have f5_ := f3_.symm; clear f1_ f2_ f3_; subst f4_; subst f5_))
   refine hK.out _ _ (((HB.out.cell (World.block_lt_of_cell? w _ hwq10_0)).trans hwq10_0)) (fun hHeld => ?_)
   clear hK K
   refine noN (some 59) (h := ?_)
   refine onA (i := 10) (N := some 61) HT_ (h := fun K hK => ?_)
   refine Kd.R_append_rows_step (Kd.int .i64) (w0 := w) w.heap.size (by rfl) (.tmp 59) (.tmp 60) 24 3 (.int .i64 0) 8 rfl Tryz.underlying24 bR rfl (by decide) (by omega) vq11 yq9 yq7 _ _ _ (fun k_ => some k_ ≠ (.slice Ao53 yq7.length co53 : Value).ownBlock) (fun _ => False) rfl rfl ?aO ?aR (fun _ _ h => h) (fun _ h => h.elim) ?aF ?aB ?aS ?aL ?_
   (case aR => exact pC ((Kd.R_reads' HOqy.out).2.2))
   (case aB => exact (pB HB.out))
   (case aF => exact (fun k_ hk => Kd.fresh' (Kd.R_lt (pR HOqy.out)) k_ hk))
   (case aO => exact (pR HOq12.out))
   (case aS => exact (aa (pB HB.out)))
   (case aL => have := LMc41.out; omega)
   intro vq13 w52 ho hb hg hat
   rw [← Nyqt.out] at ho
   replace HOqy := aQ (Kd.R_after (ok := (fun _ => True)) (pR HOqy.out) hg hat); replace HB := aQ (hb); have HOq14 := aQ (ho); clear HOq12
   clear ho hb hg hat
   refine hK.out _ _ (((HB.out.cell (World.block_lt_of_cell? w _ hwq10_0)).trans hwq10_0)) (fun hHeld => ?_)
   clear hK K
   refine noN (some 61) (h := ?_)
   refine pA 11 (some 3) HT_ ?_
   refine dn (cB HT_.out (by kernel_rfl)) ?_
   try go_wp2
   go_roundg k2
   case measure => have := HK1.out; have := HK2.out; omega
   case rel => exact ⟨(yqt), (wrap64 (x4_1 + 1)), rs_, H', ⟨by have := HK1.out; have := HK2.out; omega⟩, ⟨by refine pRx ?_; exact Kd.R_mono HOq14.out (fun _ hk => trivial)⟩, ⟨pB HB.out⟩⟩
 ·rw [if_neg c4] at H
  have c4b0 := decide_eq_false c4
  clear c4
  obtain rfl := Option.some.inj H
  go_wp2
  go_ret
  exact ⟨_, by first | rfl | (simp [errW_none, aj] <;> rfl) | (simp [*, errW_none, aj] <;> rfl), by refine pRx ?_; exact HO_3.out, pB HB.out⟩
end Go.Proofs.YtimkekeaeojpkaaGreat.A
namespace Go.Proofs.YtimkekeaeojpkaaGreat.A
open Go.RowKit Go.Proofs.YtimkekeaeojpkaaGreatW.PrintWords Go.Proofs.YtimkekeaeojpkaaGreatW.PrintLast Go.Proofs.YtimkekeaeojpkaaGreatW.PrintMore
attribute [local go_sem] cC cE cW cX co cp cD cG
set_option linter.unusedVariables false
set_option linter.unusedSimpArgs false
def aY.l0 : Nat → Int → Int → Option (Int)
 | 0, _, _ => none
 | k + 1, x0, x3 => if x0 > 0 then (aY.l0 k (x0 / 2) (wrap64 (x3 + (Go.bits .and .i64 x0 1)))) else (some x3)
def aY.f (k : Nat) (a0 : Int) : Option (Int) := (aZ.f 8 a0).bind fun tq0 => (if tq0 = true then (aY.l0 k a0 0) else (some 0))
theorem aY.calls (k : Nat) (a0 : Int) (r : Int) (w : World) (h : aY.f k a0 = some r) :
  Calls Tryz.prog 22 #[.int .i64 a0] w fun e w' => e = .returned (.int .i64 r) ∧ Drawn0 w w' := by
 have H := h
 clear h
 unfold aY.f at H
 (try dsimp only at H)
 replace H := bo H; obtain ⟨tq0, A2, H⟩ := H
 (try dsimp only at H)
 by_cases c3 : tq0 = true
 ·subst c3
  rw [if_pos rfl] at H
  have H' := aQ H
  clear H
  go_enter Tryz.func22, Tryz.ntmps22
  go_wp2_with (first | (refine gq 112 (some 5) Tryz.func112 #[.int .i64 8, .int .i64 a0] ?_; (with_reducible refine (aZ.calls 8 a0 true _ A2.out).mono ?_); rintro e w' ⟨rfl, ⟨nd, rfl⟩⟩; refine ⟨_, rfl, ?_⟩))
  go_loopg [0, 3] k (fun kq v0 v3 w' => ∃ (x0_1 : Int) (x3_1 : Int), v0 = .int .i64 x0_1 ∧ v3 = .int .i64 x3_1 ∧ Aside0 (aY.l0 kq x0_1 x3_1 = some r) ∧ Aside0 (kq ≤ k) ∧ Drawn0 w w')
  case atStart => exact ⟨(a0), (0), rs_, rs_, H', ⟨Nat.le_refl _⟩, rd_⟩
  clear H'
  try clear c3
  obtain ⟨x0_1, x3_1, rfl, rfl, HA, HK1, ⟨m1, rfl⟩⟩ := hrel
  rcases gk with _ | k1
  ·exact absurd HA.out (by simp [aY.l0])
  have H := HA.out
  clear HA
  simp only [aY.l0] at H
  by_cases c4 : x0_1 > 0
  ·rw [if_pos c4] at H
   have c4b0 := decide_eq_true c4
   clear c4
   have H' := aQ H
   clear H
   go_wp2
   go_roundg k1
   case measure => have := HK1.out; omega
   case rel => exact ⟨(x0_1 / 2), (wrap64 (x3_1 + (Go.bits .and .i64 x0_1 1))), rs_, rs_, H', ⟨by have := HK1.out; omega⟩, rd_⟩
  ·rw [if_neg c4] at H
   have c4b0 := decide_eq_false c4
   clear c4
   obtain rfl := Option.some.inj H
   go_wp2
   go_ret
   exact ⟨rs_, rd_⟩
 ·replace c3 := Bool.eq_false_iff.mpr c3
  subst c3
  have H1 : (some 0) = some r := by rw [if_neg (show ¬ (false = true) by decide)] at H; exact H
  clear H
  have H := H1
  clear H1
  obtain rfl := Option.some.inj H
  go_enter Tryz.func22, Tryz.ntmps22
  go_wp2_with (first | (refine gq 112 (some 5) Tryz.func112 #[.int .i64 8, .int .i64 a0] ?_; (with_reducible refine (aZ.calls 8 a0 false _ A2.out).mono ?_); rintro e w' ⟨rfl, ⟨nd, rfl⟩⟩; refine ⟨_, rfl, ?_⟩))
  go_ret
  exact ⟨rs_, rd_⟩
def bF.f (a0 : Int) : Option (Int) := (a5.f a0 0 8).bind fun tq0 => (if tq0 = true then (if 0 ≤ (IntKind.u64.wrap (a0)) then (some (wrap64 ((shl .i64 1 (IntKind.u64.wrap (a0))) - 1))) else (none)) else (some 0))
theorem bF.calls (a0 : Int) (r : Int) (w : World) (h : bF.f a0 = some r) :
  Calls Tryz.prog 104 #[.int .i64 a0] w fun e w' => e = .returned (.int .i64 r) ∧ Drawn0 w w' := by
 have H := h
 clear h
 unfold bF.f at H
 (try dsimp only at H)
 replace H := bo H; obtain ⟨tq0, A2, H⟩ := H
 (try dsimp only at H)
 by_cases c3 : tq0 = true
 ·subst c3
  rw [if_pos rfl] at H
  obtain ⟨ji4, hji4⟩ : ∃ j_ : Int, (IntKind.u64.wrap (a0)) = j_ := ⟨_, rfl⟩
  replace H : (if 0 ≤ (ji4) then (some (wrap64 ((shl .i64 1 (ji4)) - 1))) else (none)) = some r := by first | (rw [hji4] at H; exact H) | (simp only [hji4] at H ⊢; exact H)
  (try rw [hji4] at A2)
  replace H := gd H; obtain ⟨c5, H⟩ := H
  have c5b0 := eq_true c5
  have c5b1 := decide_eq_true c5
  clear c5
  obtain ⟨ji6, hji6⟩ : ∃ j_ : Int, (shl .i64 1 (ji4)) = j_ := ⟨_, rfl⟩
  replace H : (some (wrap64 ((ji6) - 1))) = some r := by first | (rw [hji6] at H; exact H) | (simp only [hji6] at H ⊢; exact H)
  (try rw [hji6] at A2)
  have hji6_ : (IntKind.i64.wrap (1 * 2 ^ min (ji4).toNat 64)) = ji6 := hji6
  have hji6z : (ji4) ≤ 64 → (IntKind.i64.wrap (1 * 2 ^ (ji4).toNat)) = ji6 := cP hji6
  have hji6u : (IntKind.i64.wrap (2 ^ min (ji4).toNat 64)) = ji6 := by have h_ := hji6_; rw [Int.one_mul] at h_; exact h_
  have hji6v : (ji4) ≤ 64 → (IntKind.i64.wrap (2 ^ (ji4).toNat)) = ji6 := fun hle_ => by have h_ := hji6z hle_; rw [Int.one_mul] at h_; exact h_
  have hji6y : (wrap64 (1 * 2 ^ min (ji4).toNat 64)) = ji6 := (i64_w _).symm.trans hji6_
  have hji6x : (ji4) ≤ 64 → (wrap64 (1 * 2 ^ (ji4).toNat)) = ji6 := fun h_ => (i64_w _).symm.trans (hji6z h_)
  obtain rfl := Option.some.inj H
  go_enter Tryz.func104, Tryz.ntmps104
  go_wp2_with (first | (refine gq 116 (some 4) Tryz.func116 #[.int .i64 a0, .int .i64 0, .int .i64 8] ?_; (with_reducible refine (a5.calls a0 0 8 true _ A2.out).mono ?_); rintro e w' ⟨rfl, ⟨nd, rfl⟩⟩; refine ⟨_, rfl, ?_⟩))
  go_ret
  exact ⟨by first | rfl | (simp; done) | (simp only [← hji4, ← hji6] <;> (first | rfl | simp)) | (simp [*]; done), rd_⟩
 ·replace c3 := Bool.eq_false_iff.mpr c3
  subst c3
  have H1 : (some 0) = some r := by rw [if_neg (show ¬ (false = true) by decide)] at H; exact H
  clear H
  have H := H1
  clear H1
  obtain rfl := Option.some.inj H
  go_enter Tryz.func104, Tryz.ntmps104
  go_wp2_with (first | (refine gq 116 (some 4) Tryz.func116 #[.int .i64 a0, .int .i64 0, .int .i64 8] ?_; (with_reducible refine (a5.calls a0 0 8 false _ A2.out).mono ?_); rintro e w' ⟨rfl, ⟨nd, rfl⟩⟩; refine ⟨_, rfl, ?_⟩))
  go_ret
  exact ⟨rs_, rd_⟩
mutual
def ah.l0 : Nat → Int → Int → Int → Int → List Int → Int → Int → Option (Int)
 | 0, _, _, _, _, _, _, _ => none
 | k + 1, x0, x1, x2, x4, x11, x12, x13 => if x13 < x2 then ((aT.f x4 x13).bind fun tq0 => (if tq0 = true then (ah.l1 k x0 x1 x2 x4 x11 x12 x13 x12) else (ah.l0 k x0 x1 x2 x4 x11 x12 (wrap64 (x13 + 1))))) else (some x12)
def ah.j2 : Nat → Int → Int → Int → Int → List Int → Int → Int → Int → Option (Int)
 | 0, _, _, _, _, _, _, _, _ => none
 | k + 1, x0, x1, x2, x4, x11, x12, x13, x14 => if x14 ≥ x1 then (ah.l0 k x0 x1 x2 x4 x11 x12 (wrap64 (x13 + 1))) else (ah.l2 k x0 x1 x2 x4 x11 x12 x13 x14 0)
def ah.l2 : Nat → Int → Int → Int → Int → List Int → Int → Int → Int → Int → Option (Int)
 | 0, _, _, _, _, _, _, _, _, _ => none
 | k + 1, x0, x1, x2, x4, x11, x12, x13, x14, x15 => if x15 < x2 then (if 0 ≤ (wrap64 ((wrap64 (x14 * x2)) + x15)) then (if (wrap64 ((wrap64 (x14 * x2)) + x15)) < (x11.length : Int) then (if 0 ≤ (wrap64 ((wrap64 (x12 * x2)) + x15)) then (if (wrap64 ((wrap64 (x12 * x2)) + x15)) < (x11.length : Int) then (ah.l2 k x0 x1 x2 x4 ((x11.set ((wrap64 ((wrap64 (x14 * x2)) + x15)) : Int).toNat (rd x11 (wrap64 ((wrap64 (x12 * x2)) + x15)))).set ((wrap64 ((wrap64 (x12 * x2)) + x15)) : Int).toNat (rd x11 (wrap64 ((wrap64 (x14 * x2)) + x15)))) x12 x13 x14 (wrap64 (x15 + 1))) else (none)) else (none)) else (none)) else (none)) else (ah.l3 k x0 x1 x2 x4 x11 x12 x13 (wrap64 (x12 + 1)))
def ah.l3 : Nat → Int → Int → Int → Int → List Int → Int → Int → Int → Option (Int)
 | 0, _, _, _, _, _, _, _, _ => none
 | k + 1, x0, x1, x2, x4, x11, x12, x13, x17 => if x17 < x1 then (if 0 ≤ (wrap64 ((wrap64 (x17 * x2)) + x13)) then (if (wrap64 ((wrap64 (x17 * x2)) + x13)) < (x11.length : Int) then (if 0 ≤ (wrap64 ((wrap64 (x12 * x2)) + x13)) then (if (wrap64 ((wrap64 (x12 * x2)) + x13)) < (x11.length : Int) then (ah.l4 k x0 x1 x2 x4 x11 x12 x13 x17 (rd x11 (wrap64 ((wrap64 (x17 * x2)) + x13))) (rd x11 (wrap64 ((wrap64 (x12 * x2)) + x13))) 0) else (none)) else (none)) else (none)) else (none)) else (ah.l0 k x0 x1 x2 x4 x11 (wrap64 (x12 + 1)) (wrap64 (x13 + 1)))
def ah.l4 : Nat → Int → Int → Int → Int → List Int → Int → Int → Int → Int → Int → Int → Option (Int)
 | 0, _, _, _, _, _, _, _, _, _, _, _ => none
 | k + 1, x0, x1, x2, x4, x11, x12, x13, x17, x18, x19, x20 => if x20 < x2 then (if 0 ≤ (wrap64 ((wrap64 (x17 * x2)) + x20)) then (if (wrap64 ((wrap64 (x17 * x2)) + x20)) < (x11.length : Int) then (if 0 ≤ (wrap64 ((wrap64 (x12 * x2)) + x20)) then (if (wrap64 ((wrap64 (x12 * x2)) + x20)) < (x11.length : Int) then (if x0 = 0 then (none) else (ah.l4 k x0 x1 x2 x4 (x11.set ((wrap64 ((wrap64 (x17 * x2)) + x20)) : Int).toNat (Int.tmod (wrap64 ((Int.tmod (wrap64 ((wrap64 ((rd x11 (wrap64 ((wrap64 (x17 * x2)) + x20))) * x19)) - (wrap64 ((rd x11 (wrap64 ((wrap64 (x12 * x2)) + x20))) * x18)))) x0) + x0)) x0)) x12 x13 x17 x18 x19 (wrap64 (x20 + 1)))) else (none)) else (none)) else (none)) else (none)) else (ah.l3 k x0 x1 x2 x4 x11 x12 x13 (wrap64 (x17 + 1)))
def ah.l1 : Nat → Int → Int → Int → Int → List Int → Int → Int → Int → Option (Int)
 | 0, _, _, _, _, _, _, _, _ => none
 | k + 1, x0, x1, x2, x4, x11, x12, x13, x14 => if x14 < x1 then (if 0 ≤ (wrap64 ((wrap64 (x14 * x2)) + x13)) then (if (wrap64 ((wrap64 (x14 * x2)) + x13)) < (x11.length : Int) then (if (rd x11 (wrap64 ((wrap64 (x14 * x2)) + x13))) = 0 then (ah.l1 k x0 x1 x2 x4 x11 x12 x13 (wrap64 (x14 + 1))) else (ah.j2 k x0 x1 x2 x4 x11 x12 x13 x14)) else (none)) else (none)) else (ah.j2 k x0 x1 x2 x4 x11 x12 x13 x14)
end
def ah.f (k : Nat) (a0 : Int) (a1 : Int) (a2 : Int) (l3 : List Int) (a4 : Int) : Option (Int) := (some (([] : List Int) : List Int)).bind fun yq1 => (if yq1.length + l3.length < 17592186044416 then (ah.l0 k a0 a1 a2 a4 (yq1 ++ l3) 0 0) else (none))
def ah.T25 : Bool × List (List Nat × List Nat) := (true, [([], []), ([], []), ([], []), ([1, 2], [1, 2]), ([], []), ([3, 4], [3, 4]), ([], []), ([], []), ([], []), ([7, 8], [7, 8]), ([], []), ([9, 10], [9, 10]), ([6, 11], [6, 11]), ([12], [12]), ([], []), ([13, 14], [13, 14]), ([], []), ([], []), ([], []), ([17, 18], [17, 18]), ([], []), ([19, 20], [19, 20]), ([16, 21], [16, 21]), ([22], [22]), ([], []), ([23, 24], [23, 24]), ([15, 25], [15, 25]), ([], []), ([26, 27], [26, 27]), ([], []), ([28, 29], [28, 29]), ([], []), ([30, 31], [30, 31]), ([0, 5, 0, 1, 2, 3, 4, 5, 6, 7, 8, 9, 10, 11, 12, 13, 14, 15, 16, 17, 18, 19, 20, 21, 22, 23, 24, 25, 26, 27, 28, 29, 30, 31, 32], [0, 5]), ([33, 32, 0, 1, 2, 3, 4, 5, 6, 7, 8, 9, 10, 11, 12, 13, 14, 15, 16, 17, 18, 19, 20, 21, 22, 23, 24, 25, 26, 27, 28, 29, 30, 31, 32], [32, 33])])
def ah.B25 : List Nat := [0, 0, 0, 6, 0, 30, 0, 0, 0, 384, 0, 1920, 4032, 8128, 0, 32704, 0, 0, 0, 393216, 0, 1966080, 4128768, 8323072, 0, 33488896, 67108800, 0, 268435392, 0, 1073741760, 0, 4294967232, 8589934591, 17179869183]
theorem ah.tab25 : rtab .any (eV Tryz.f275 25) = ah.T25 := by kernel_rfl
theorem ah.bits25 : cY ah.T25.2 ah.B25 = true := by kernel_rfl
theorem ah.calls (k : Nat) (a0 : Int) (a1 : Int) (a2 : Int) (A3 : Option Addr) (c3 : Nat) (l3 : List Int) (a4 : Int) (r : Int) (w : World) (hr3 : Kd.C (Kd.int .i64) w A3 l3.length l3) (hc3 : l3.length ≤ c3) (h : ah.f k a0 a1 a2 l3 a4 = some r) :
  Calls Tryz.prog 275 #[.int .i64 a0, .int .i64 a1, .int .i64 a2, .slice A3 l3.length c3, .int .i64 a4] w fun e w' => e = .returned (.int .i64 r) ∧ Below w.heap.size w w' := by
 have HR3 := aQ hr3
 have HC3 := aQ hc3
 clear hr3 hc3
 have HB := aQ (Below.refl w.heap.size w)
 have H := h
 clear h
 unfold ah.f at H
 (try dsimp only at H)
 obtain ⟨yq1, hyq1⟩ : ∃ y_ : List Int, y_ = (([] : List Int)) := ⟨_, rfl⟩
 replace H := yy hyq1 H
 (try dsimp only at H)
 have Nyq1 := aQ hyq1
 clear hyq1
 replace H := gd H; obtain ⟨c6, H⟩ := H
 have LMc6 := aQ c6
 clear c6
 obtain ⟨yq2, hyq2⟩ : ∃ y_ : List Int, y_ = (yq1 ++ l3) := ⟨_, rfl⟩
 replace H : (ah.l0 k a0 a1 a2 a4 yq2 0 0) = some r := by first | (rw [hyq2]; with_reducible exact H) | (rw [hyq2]; exact H)
 have Nyq2 := aQ hyq2
 clear hyq2
 have H' := aQ H
 clear H
 go_enter Tryz.func275, Tryz.ntmps275
 go_wp2_with (first | ((with_reducible refine af (N := 21) rfl ?_); refine Kd.R_lit (Kd.int .i64) _ 3 ?hg (N := 21) ?hd (xs := ([] : List Int)) (inner := []) (ok := fun _ => True) (okp := fun _ => True) ?hr ?hp (fun _ hk => hk) trivial (Below.refl _ _) (Nat.le_refl _) (by simp) ?_; (case hd => rfl); (case hg => rfl); (case hr => first | (go_simp; done) | (go_simp; rfl)); (case hp => exact (Reps.none _ _)); intro vq3 w7 ho8 hb hg_ hnew_; clear hg_ hnew_; (first | rw [← Nyq1.out] at ho8 | (simp only [Int.reduceToNat] at ho8; rw [← Nyq1.out] at ho8)); have HOq4 := aQ (Kd.R_lower ho8 (aa (pB HB.out))); replace HB := bs HB hb; clear hb ho8) | ((with_reducible refine aW (b := .append) (xs := #[.tmp 21, .tmp 22]) rfl ?_); at_builtin; refine Kd.R_append_rows (Kd.int .i64) (w0 := w) w.heap.size rfl (.tmp 21) (.tmp 22) 24 3 (.int .i64 0) 8 rfl Tryz.underlying24 bR rfl (by decide) (by omega) vq3 yq1 l3 _ _ _ (fun _ => True) (fun _ => False) rfl rfl ?aO ?aR (fun _ _ h => h) (fun _ h => h.elim) ?aF ?aB ?aS ?aL ?_; (case aR => exact pC (Kd.C_below HR3.out HB.out)); (case aB => exact (pB HB.out)); (case aF => exact (fun _ _ => trivial)); (case aO => exact (pR HOq4.out)); (case aS => exact (aa (pB HB.out))); (case aL => have := LMc6.out; omega); intro vq5 w9 ho hb hg hat; rw [← Nyq2.out] at ho; replace HB := aQ (hb); have HOq6 := aQ (ho); clear HOq4; clear ho hb hg hat))
 go_loopg [12, 13] k (fun kq v12 v13 w' => ∃ (x11_1 : List Int) (x12_1 : Int) (x13_1 : Int), v12 = .int .i64 x12_1 ∧ v13 = .int .i64 x13_1 ∧ Aside0 (ah.l0 kq a0 a1 a2 a4 x11_1 x12_1 x13_1 = some r) ∧ Aside0 (kq ≤ k) ∧ Aside0 (Kd.R (Kd.int .i64) 3 w' w.heap.size (fun _ => True) vq5 x11_1) ∧ Aside0 (Below w.heap.size w w'))
 case atStart => exact ⟨(yq2), (0), (0), rs_, rs_, H', ⟨Nat.le_refl _⟩, ⟨pR HOq6.out⟩, ⟨pB HB.out⟩⟩
 clear H'
 try clear c3
 try clear c6
 obtain ⟨x11_1, x12_1, x13_1, rfl, rfl, HA, HK1, HO_11, HB⟩ := hrel
 rcases gk with _ | k1
 ·exact absurd HA.out (by simp [ah.l0])
 have H := HA.out
 clear HA
 simp only [ah.l0] at H
 by_cases c10 : x13_1 < a2
 ·rw [if_pos c10] at H
  have c10b0 := decide_eq_true c10
  clear c10
  replace H := bo H; obtain ⟨tq0, A11, H⟩ := H
  (try dsimp only at H)
  by_cases c12 : tq0 = true
  ·subst c12
   rw [if_pos rfl] at H
   have HC13 := aQ H
   clear H
   go_upto_block 2 with (first | (refine gq 124 (some 31) Tryz.func124 #[.int .i64 a4, .int .i64 x13_1] ?_; (with_reducible refine (aT.calls a4 x13_1 true _ A11.out).mono ?_); rintro e w' ⟨rfl, ⟨nd, rfl⟩⟩; refine ⟨_, rfl, ?_⟩))
   (try simp only [Act.put, List.setIfInBounds_toArray, List.set_cons_zero, List.set_cons_succ])
   go_cut [14] (fun v14 wc => ∃ (kq : Nat) (x14_12 : Int), v14 = .int .i64 x14_12 ∧ Aside0 (ah.j2 kq a0 a1 a2 a4 x11_1 x12_1 x13_1 x14_12 = some r) ∧ Aside0 (kq ≤ k1) ∧ Aside0 (Kd.R (Kd.int .i64) 3 wc w.heap.size (fun _ => True) vq5 x11_1) ∧ Aside0 (Below w.heap.size w wc))
   case first =>
    have H := HC13.out
    clear HC13
    have H' := aQ H
    clear H
    go_wp2
    go_loopg [14] k1 (fun kq v14 w' => ∃ (x14_2 : Int), v14 = .int .i64 x14_2 ∧ Aside0 (ah.l1 kq a0 a1 a2 a4 x11_1 x12_1 x13_1 x14_2 = some r) ∧ Aside0 (kq ≤ k1) ∧ Aside0 (Kd.R (Kd.int .i64) 3 w' w.heap.size (fun _ => True) vq5 x11_1) ∧ Aside0 (Below w.heap.size w w'))
    case atStart => exact ⟨(x12_1), rs_, H', ⟨Nat.le_refl _⟩, ⟨pR HO_11.out⟩, ⟨pB HB.out⟩⟩
    clear H'
    try clear c3
    try clear c6
    try clear c10
    try clear c10b0
    try clear c12
    obtain ⟨x14_2, rfl, HA, HK2, HO_11, HB⟩ := hrel
    rcases gk with _ | k2
    ·exact absurd HA.out (by simp [ah.l1])
    have H := HA.out
    clear HA
    simp only [ah.l1] at H
    by_cases c14 : x14_2 < a1
    ·rw [if_pos c14] at H
     have c14b0 := decide_eq_true c14
     clear c14
     (first | rw [c14b0] | (simp only [i64_w, cI]; rw [c14b0]) | skip)
     obtain ⟨ji15, hji15⟩ : ∃ j_ : Int, (wrap64 ((wrap64 (x14_2 * a2)) + x13_1)) = j_ := ⟨_, rfl⟩
     replace H : (if 0 ≤ (ji15) then (if (ji15) < (x11_1.length : Int) then (if (rd x11_1 (ji15)) = 0 then (ah.l1 k2 a0 a1 a2 a4 x11_1 x12_1 x13_1 (wrap64 (x14_2 + 1))) else (ah.j2 k2 a0 a1 a2 a4 x11_1 x12_1 x13_1 x14_2)) else (none)) else (none)) = some r := by first | (rw [hji15] at H; exact H) | (simp only [hji15] at H ⊢; exact H)
     have hji15w : (IntKind.i64.wrap ((wrap64 (x14_2 * a2)) + x13_1)) = ji15 := (i64_w _).trans hji15
     replace H := gd H; obtain ⟨c16, H⟩ := H
     have c16b0 := decide_eq_true c16
     clear c16
     replace H := gd H; obtain ⟨c17, H⟩ := H
     have c17b0 := decide_eq_true c17
     clear c17
     by_cases c18 : (rd x11_1 (ji15)) = 0
     ·rw [if_pos c18] at H
      have c18b0 : ((rd x11_1 (ji15)) == 0) = true := beq_iff_eq.mpr c18
      have c18b1 : ((rd x11_1 (ji15)) != 0) = false := bne_eq_false_iff_eq.mpr c18
      clear c18
      have H' := aQ H
      clear H
      obtain ⟨Ao19, co19, eo19⟩ := Kd.R_slice HO_11.out
      subst eo19
      have pq7 : 0 ≤ ((ji15) : Int) := of_decide_eq_true as_
      have qq7 : (ji15) < (x11_1.length : Int) := of_decide_eq_true as_
      obtain ⟨adq7, eq7, hxq7_0⟩ := Kd.at_int (Kd.R_reads' HO_11.out).2.2 (ji15) pq7 qq7
      cases eq7
      replace pq7 := eq_true pq7
      replace qq7 := eq_true qq7
      go_wp2
      go_roundg k2
      case measure => have := HK1.out; have := HK2.out; omega
      case rel => exact ⟨(wrap64 (x14_2 + 1)), rs_, H', ⟨by have := HK1.out; have := HK2.out; omega⟩, ⟨pR HO_11.out⟩, ⟨pB HB.out⟩⟩
     ·rw [if_neg c18] at H
      have c18b0 : ((rd x11_1 (ji15)) == 0) = false := beq_eq_false_iff_ne.mpr c18
      have c18b1 : ((rd x11_1 (ji15)) != 0) = true := bne_iff_ne.mpr c18
      have H' := aQ H
      clear H
      obtain ⟨Ao20, co20, eo20⟩ := Kd.R_slice HO_11.out
      subst eo20
      have pq7 : 0 ≤ ((ji15) : Int) := of_decide_eq_true as_
      have qq7 : (ji15) < (x11_1.length : Int) := of_decide_eq_true as_
      obtain ⟨adq7, eq7, hxq7_0⟩ := Kd.at_int (Kd.R_reads' HO_11.out).2.2 (ji15) pq7 qq7
      cases eq7
      replace pq7 := eq_true pq7
      replace qq7 := eq_true qq7
      go_wp2
      go_meet
      case rel => exact ⟨_, (x14_2), rs_, H', ⟨by have := HK1.out; have := HK2.out; first | omega | exact Nat.le_refl _⟩, ⟨pR HO_11.out⟩, ⟨pB HB.out⟩⟩
    ·rw [if_neg c14] at H
     have c14b0 := decide_eq_false c14
     clear c14
     (first | rw [c14b0] | (simp only [i64_w, cI]; rw [c14b0]) | skip)
     have H' := aQ H
     clear H
     go_wp2
     go_meet
     case rel => exact ⟨_, (x14_2), rs_, H', ⟨by have := HK1.out; have := HK2.out; first | omega | exact Nat.le_refl _⟩, ⟨pR HO_11.out⟩, ⟨pB HB.out⟩⟩
   case rest =>
    clear HC13
    try clear c3
    try clear c6
    try clear c10
    try clear c10b0
    try clear c12
    obtain ⟨kq, x14_12, rfl, HA, HJ12, HO_11, HB⟩ := hcut
    cases kq with
    | zero => exact absurd HA.out (by simp [ah.j2])
    | succ kj12 =>
     have H := HA.out
     clear HA
     simp only [ah.j2] at H
     by_cases c21 : x14_12 ≥ a1
     ·rw [if_pos c21] at H
      have c21b0 := decide_eq_true c21
      clear c21
      have H' := aQ H
      clear H
      go_wp2
      go_roundg kj12
      case measure => have := HK1.out; have := HJ12.out; omega
      case rel => exact ⟨(x11_1), (x12_1), (wrap64 (x13_1 + 1)), rs_, rs_, H', ⟨by have := HK1.out; have := HJ12.out; omega⟩, ⟨pR HO_11.out⟩, ⟨pB HB.out⟩⟩
     ·rw [if_neg c21] at H
      have c21b0 := decide_eq_false c21
      clear c21
      have H' := aQ H
      clear H
      go_wp2
      go_loopg [15] kj12 (fun kq v15 w' => ∃ (x11_3 : List Int) (x15_3 : Int), v15 = .int .i64 x15_3 ∧ Aside0 (ah.l2 kq a0 a1 a2 a4 x11_3 x12_1 x13_1 x14_12 x15_3 = some r) ∧ Aside0 (kq ≤ kj12) ∧ Aside0 (Kd.R (Kd.int .i64) 3 w' w.heap.size (fun _ => True) vq5 x11_3) ∧ Aside0 (Below w.heap.size w w'))
      case atStart => exact ⟨(x11_1), (0), rs_, H', ⟨Nat.le_refl _⟩, ⟨pR HO_11.out⟩, ⟨pB HB.out⟩⟩
      clear H'
      try clear c3
      try clear c6
      try clear c10
      try clear c10b0
      try clear c12
      try clear c21
      try clear c21b0
      obtain ⟨x11_3, x15_3, rfl, HA, HK3, HO_11, HB⟩ := hrel
      rcases gk with _ | k3
      ·exact absurd HA.out (by simp [ah.l2])
      have H := HA.out
      clear HA
      simp only [ah.l2] at H
      by_cases c22 : x15_3 < a2
      ·rw [if_pos c22] at H
       have c22b0 := decide_eq_true c22
       clear c22
       obtain ⟨ji23, hji23⟩ : ∃ j_ : Int, (wrap64 ((wrap64 (x14_12 * a2)) + x15_3)) = j_ := ⟨_, rfl⟩
       replace H : (if 0 ≤ (ji23) then (if (ji23) < (x11_3.length : Int) then (if 0 ≤ (wrap64 ((wrap64 (x12_1 * a2)) + x15_3)) then (if (wrap64 ((wrap64 (x12_1 * a2)) + x15_3)) < (x11_3.length : Int) then (ah.l2 k3 a0 a1 a2 a4 ((x11_3.set ((ji23) : Int).toNat (rd x11_3 (wrap64 ((wrap64 (x12_1 * a2)) + x15_3)))).set ((wrap64 ((wrap64 (x12_1 * a2)) + x15_3)) : Int).toNat (rd x11_3 (ji23))) x12_1 x13_1 x14_12 (wrap64 (x15_3 + 1))) else (none)) else (none)) else (none)) else (none)) = some r := by first | (rw [hji23] at H; exact H) | (simp only [hji23] at H ⊢; exact H)
       have hji23w : (IntKind.i64.wrap ((wrap64 (x14_12 * a2)) + x15_3)) = ji23 := (i64_w _).trans hji23
       replace H := gd H; obtain ⟨c24, H⟩ := H
       have c24b0 := decide_eq_true c24
       clear c24
       replace H := gd H; obtain ⟨c25, H⟩ := H
       have c25b0 := decide_eq_true c25
       clear c25
       obtain ⟨ji26, hji26⟩ : ∃ j_ : Int, (wrap64 ((wrap64 (x12_1 * a2)) + x15_3)) = j_ := ⟨_, rfl⟩
       replace H : (if 0 ≤ (ji26) then (if (ji26) < (x11_3.length : Int) then (ah.l2 k3 a0 a1 a2 a4 ((x11_3.set ((ji23) : Int).toNat (rd x11_3 (ji26))).set ((ji26) : Int).toNat (rd x11_3 (ji23))) x12_1 x13_1 x14_12 (wrap64 (x15_3 + 1))) else (none)) else (none)) = some r := by first | (rw [hji26] at H; exact H) | (simp only [hji26] at H ⊢; exact H)
       have hji26w : (IntKind.i64.wrap ((wrap64 (x12_1 * a2)) + x15_3)) = ji26 := (i64_w _).trans hji26
       replace H := gd H; obtain ⟨c27, H⟩ := H
       have c27b0 := decide_eq_true c27
       clear c27
       replace H := gd H; obtain ⟨c28, H⟩ := H
       have c28b0 := decide_eq_true c28
       clear c28
       obtain ⟨yq8, hyq8⟩ : ∃ y_ : List Int, y_ = (x11_3.set ((ji23) : Int).toNat (rd x11_3 (ji26))) := ⟨_, rfl⟩
       replace H : (ah.l2 k3 a0 a1 a2 a4 (yq8.set ((ji26) : Int).toNat (rd x11_3 (ji23))) x12_1 x13_1 x14_12 (wrap64 (x15_3 + 1))) = some r := by first | (rw [hyq8]; with_reducible exact H) | (rw [hyq8]; exact H)
       have Nyq8 := aQ hyq8
       clear hyq8
       obtain ⟨yq9, hyq9⟩ : ∃ y_ : List Int, y_ = (yq8.set ((ji26) : Int).toNat (rd x11_3 (ji23))) := ⟨_, rfl⟩
       replace H : (ah.l2 k3 a0 a1 a2 a4 yq9 x12_1 x13_1 x14_12 (wrap64 (x15_3 + 1))) = some r := by first | (rw [hyq9]; with_reducible exact H) | (rw [hyq9]; exact H)
       have Nyq9 := aQ hyq9
       clear hyq9
       have H' := aQ H
       clear H
       obtain ⟨Ao31, co31, eo31⟩ := Kd.R_slice HO_11.out
       subst eo31
       have pqa : 0 ≤ ((ji23) : Int) := of_decide_eq_true as_
       have qqa : (ji23) < (x11_3.length : Int) := of_decide_eq_true as_
       obtain ⟨adqa, eqa, hxqa_0⟩ := Kd.at_int (Kd.R_reads' HO_11.out).2.2 (ji23) pqa qqa
       cases eqa
       replace pqa := eq_true pqa
       replace qqa := eq_true qqa
       have pqb : 0 ≤ ((ji26) : Int) := of_decide_eq_true as_
       have qqb : (ji26) < (x11_3.length : Int) := of_decide_eq_true as_
       obtain ⟨adqb, eqb, hxqb_0⟩ := Kd.at_int (Kd.R_reads' HO_11.out).2.2 (ji26) pqb qqb
       obtain rfl : adqa = adqb := (by injection eqb)
       replace pqb := eq_true pqb
       replace qqb := eq_true qqb
       have p29 : 0 ≤ ((ji23) : Int) := of_decide_eq_true as_
       have q29 : ((ji23) : Int) < ((x11_3.length : Int) : Int) := of_decide_eq_true as_
       obtain ⟨go29, co29, eo29, gb29, gl29, cl29, HG29⟩ := Kd.R_form HO_11.out (by omega)
       (first | cases eo29 | (injection eo29 with ea_ en_ ec_; (first | subst ea_ | (injection ea_ with ea_; subst ea_)); subst ec_; clear en_))
       have GB29 := aQ gb29
       have GG29 := aQ HG29
       clear gb29 gl29 HG29
       (first | simp only [dA] at hxqa_0 | skip)
       (first | simp only [dA] at hxqb_0 | skip)
       obtain ⟨hx29_0, hf29_0⟩ := Kd.R_celln 0 HO_11.out ((ji23) : Int) p29 q29
       replace p29 := eq_true p29
       replace q29 := eq_true q29
       have HP32 := Kd.R_putg HO_11.out ((ji23) : Int) (rd x11_3 (ji26))
       go_wp2_with (first | ((with_reducible refine fv (t := 3) (p := 80) rfl ?_); refine eP (t := 3) (p := 80) (v := ?vo_w33) (w1 := (wr.setCell ⟨go29, ((ji23) : Int).toNat, none⟩ (.int .i64 (rd x11_3 (ji26))))) ?hg ?ho ?hn ?hr ?_; (case ho => rfl); (case hg => rfl); (case hn => rfl); (case hr => first | (go_simp; done) | (go_simp; rfl)); intro w33 hw; have hg : wr.grownBy w33 (some go29) := (by rw [hw]; exact HP32.2); have hp_ : Kd.R (Kd.int .i64) 3 w33 w.heap.size (fun _ => True) (.slice (some ⟨go29, 0, none⟩) x11_3.length co31) yq8 := (by rw [hw, Nyq8.out]; exact HP32.1); clear HP32; replace HO_11 := aQ (hp_); replace HB := aQ ((by rw [hw]; exact cn (HB.out) GB29.out : Below w.heap.size w w33)); clear hg hw hp_; have p30 : 0 ≤ ((ji26) : Int) := of_decide_eq_true as_; have q30 : ((ji26) : Int) < ((x11_3.length : Int) : Int) := of_decide_eq_true as_; obtain ⟨hx30_0, hf30_0⟩ := Kd.R_celln 0 HO_11.out ((ji26) : Int) p30 q30; replace p30 := eq_true p30; replace q30 := eq_true q30; obtain ⟨hy34_, hz34_⟩ := Kd.R_celln 0 HO_11.out ((ji26) : Int) (of_decide_eq_true as_) (of_decide_eq_true as_); have HP34 := Kd.R_putg HO_11.out ((ji26) : Int) (rd x11_3 (ji23))) | ((with_reducible refine fv (t := 3) (p := 88) rfl ?_); refine eP (t := 3) (p := 88) (v := ?vo_w35) (w1 := (w33.setCell ⟨go29, ((ji26) : Int).toNat, none⟩ (.int .i64 (rd x11_3 (ji23))))) ?hg ?ho ?hn ?hr ?_; (case ho => rfl); (case hg => rfl); (case hn => rfl); (case hr => first | (go_simp; done) | (go_simp; rfl)); intro w35 hw; have hg : w33.grownBy w35 (some go29) := (by rw [hw]; exact HP34.2); have hp_ : Kd.R (Kd.int .i64) 3 w35 w.heap.size (fun _ => True) (.slice (some ⟨go29, 0, none⟩) x11_3.length co31) yq9 := (by rw [hw, Nyq9.out]; exact HP34.1); clear HP34; replace HO_11 := aQ (hp_); replace HB := aQ ((by rw [hw]; exact cn (HB.out) GB29.out : Below w.heap.size w w35)); clear hg hw hp_))
       go_roundg k3
       case measure => have := HK1.out; have := HJ12.out; have := HK3.out; omega
       case rel => exact ⟨(yq9), (wrap64 (x15_3 + 1)), rs_, H', ⟨by have := HK1.out; have := HJ12.out; have := HK3.out; omega⟩, ⟨pR HO_11.out⟩, ⟨pB HB.out⟩⟩
      ·rw [if_neg c22] at H
       have c22b0 := decide_eq_false c22
       clear c22
       have H' := aQ H
       clear H
       go_wp2
       go_loopg [17] k3 (fun kq v17 w' => ∃ (x11_4 : List Int) (x17_4 : Int), v17 = .int .i64 x17_4 ∧ Aside0 (ah.l3 kq a0 a1 a2 a4 x11_4 x12_1 x13_1 x17_4 = some r) ∧ Aside0 (kq ≤ k3) ∧ Aside0 (Kd.R (Kd.int .i64) 3 w' w.heap.size (fun _ => True) vq5 x11_4) ∧ Aside0 (Below w.heap.size w w'))
       case atStart => exact ⟨(x11_3), (wrap64 (x12_1 + 1)), rs_, H', ⟨Nat.le_refl _⟩, ⟨pR HO_11.out⟩, ⟨pB HB.out⟩⟩
       clear H'
       try clear c3
       try clear c6
       try clear c10
       try clear c10b0
       try clear c12
       try clear c21
       try clear c21b0
       try clear c22
       try clear c22b0
       obtain ⟨x11_4, x17_4, rfl, HA, HK4, HO_11, HB⟩ := hrel
       rcases gk with _ | k4
       ·exact absurd HA.out (by simp [ah.l3])
       have H := HA.out
       clear HA
       simp only [ah.l3] at H
       by_cases c36 : x17_4 < a1
       ·rw [if_pos c36] at H
        have c36b0 := decide_eq_true c36
        clear c36
        obtain ⟨ji37, hji37⟩ : ∃ j_ : Int, (wrap64 ((wrap64 (x17_4 * a2)) + x13_1)) = j_ := ⟨_, rfl⟩
        replace H : (if 0 ≤ (ji37) then (if (ji37) < (x11_4.length : Int) then (if 0 ≤ (wrap64 ((wrap64 (x12_1 * a2)) + x13_1)) then (if (wrap64 ((wrap64 (x12_1 * a2)) + x13_1)) < (x11_4.length : Int) then (ah.l4 k4 a0 a1 a2 a4 x11_4 x12_1 x13_1 x17_4 (rd x11_4 (ji37)) (rd x11_4 (wrap64 ((wrap64 (x12_1 * a2)) + x13_1))) 0) else (none)) else (none)) else (none)) else (none)) = some r := by first | (rw [hji37] at H; exact H) | (simp only [hji37] at H ⊢; exact H)
        have hji37w : (IntKind.i64.wrap ((wrap64 (x17_4 * a2)) + x13_1)) = ji37 := (i64_w _).trans hji37
        replace H := gd H; obtain ⟨c38, H⟩ := H
        have c38b0 := decide_eq_true c38
        clear c38
        replace H := gd H; obtain ⟨c39, H⟩ := H
        have c39b0 := decide_eq_true c39
        clear c39
        obtain ⟨ji40, hji40⟩ : ∃ j_ : Int, (wrap64 ((wrap64 (x12_1 * a2)) + x13_1)) = j_ := ⟨_, rfl⟩
        replace H : (if 0 ≤ (ji40) then (if (ji40) < (x11_4.length : Int) then (ah.l4 k4 a0 a1 a2 a4 x11_4 x12_1 x13_1 x17_4 (rd x11_4 (ji37)) (rd x11_4 (ji40)) 0) else (none)) else (none)) = some r := by first | (rw [hji40] at H; exact H) | (simp only [hji40] at H ⊢; exact H)
        have hji40w : (IntKind.i64.wrap ((wrap64 (x12_1 * a2)) + x13_1)) = ji40 := (i64_w _).trans hji40
        replace H := gd H; obtain ⟨c41, H⟩ := H
        have c41b0 := decide_eq_true c41
        clear c41
        replace H := gd H; obtain ⟨c42, H⟩ := H
        have c42b0 := decide_eq_true c42
        clear c42
        have H' := aQ H
        clear H
        obtain ⟨Ao43, co43, eo43⟩ := Kd.R_slice HO_11.out
        subst eo43
        have pqc : 0 ≤ ((ji37) : Int) := of_decide_eq_true as_
        have qqc : (ji37) < (x11_4.length : Int) := of_decide_eq_true as_
        obtain ⟨adqc, eqc, hxqc_0⟩ := Kd.at_int (Kd.R_reads' HO_11.out).2.2 (ji37) pqc qqc
        cases eqc
        replace pqc := eq_true pqc
        replace qqc := eq_true qqc
        have pqd : 0 ≤ ((ji40) : Int) := of_decide_eq_true as_
        have qqd : (ji40) < (x11_4.length : Int) := of_decide_eq_true as_
        obtain ⟨adqd, eqd, hxqd_0⟩ := Kd.at_int (Kd.R_reads' HO_11.out).2.2 (ji40) pqd qqd
        obtain rfl : adqc = adqd := (by injection eqd)
        replace pqd := eq_true pqd
        replace qqd := eq_true qqd
        obtain ⟨go52, co52, eo52, gb52, gl52, cl52, HG52⟩ := Kd.R_form HO_11.out (by have := of_eq_true pqc; have := of_eq_true qqc; omega)
        (first | cases eo52 | (injection eo52 with ea_ en_ ec_; (first | subst ea_ | (injection ea_ with ea_; subst ea_)); subst ec_; clear en_))
        clear gb52 gl52 HG52
        (first | simp only [dA] at hxqc_0 | skip)
        (first | simp only [dA] at hxqd_0 | skip)
        go_wp2
        go_loopg [20] k4 (fun kq v20 w' => ∃ (x11_5 : List Int) (x20_5 : Int), v20 = .int .i64 x20_5 ∧ Aside0 (ah.l4 kq a0 a1 a2 a4 x11_5 x12_1 x13_1 x17_4 (rd x11_4 (ji37)) (rd x11_4 (ji40)) x20_5 = some r) ∧ Aside0 (kq ≤ k4) ∧ Aside0 (Kd.R (Kd.int .i64) 3 w' w.heap.size (fun _ => True) (.slice (some ⟨go52, 0, none⟩) x11_4.length co43) x11_5) ∧ Aside0 (Below w.heap.size w w'))
        case atStart => exact ⟨(x11_4), (0), rs_, H', ⟨Nat.le_refl _⟩, ⟨pR HO_11.out⟩, ⟨pB HB.out⟩⟩
        clear H'
        try clear c3
        try clear c6
        try clear c10
        try clear c10b0
        try clear c12
        try clear c21
        try clear c21b0
        try clear c22
        try clear c22b0
        try clear c36
        try clear c36b0
        try clear c38
        try clear c38b0
        try clear c39
        try clear c39b0
        try clear c41
        try clear c41b0
        try clear c42
        try clear c42b0
        try clear hxqc_0
        try clear hxqd_0
        try clear pqc
        try clear pqd
        try clear qqc
        try clear qqd
        obtain ⟨x11_5, x20_5, rfl, HA, HK5, HO_11, HB⟩ := hrel
        have hl11_5 := (Kd.R_reads' HO_11.out).1
        rw [hl11_5] at HO_11
        (try simp only [hl11_5])
        rcases gk with _ | k5
        ·exact absurd HA.out (by simp [ah.l4])
        have H := HA.out
        clear HA
        simp only [ah.l4] at H
        by_cases c44 : x20_5 < a2
        ·rw [if_pos c44] at H
         have c44b0 := decide_eq_true c44
         clear c44
         obtain ⟨ji45, hji45⟩ : ∃ j_ : Int, (wrap64 ((wrap64 (x17_4 * a2)) + x20_5)) = j_ := ⟨_, rfl⟩
         replace H : (if 0 ≤ (ji45) then (if (ji45) < (x11_5.length : Int) then (if 0 ≤ (wrap64 ((wrap64 (x12_1 * a2)) + x20_5)) then (if (wrap64 ((wrap64 (x12_1 * a2)) + x20_5)) < (x11_5.length : Int) then (if a0 = 0 then (none) else (ah.l4 k5 a0 a1 a2 a4 (x11_5.set ((ji45) : Int).toNat (Int.tmod (wrap64 ((Int.tmod (wrap64 ((wrap64 ((rd x11_5 (ji45)) * (rd x11_4 (ji40)))) - (wrap64 ((rd x11_5 (wrap64 ((wrap64 (x12_1 * a2)) + x20_5))) * (rd x11_4 (ji37)))))) a0) + a0)) a0)) x12_1 x13_1 x17_4 (rd x11_4 (ji37)) (rd x11_4 (ji40)) (wrap64 (x20_5 + 1)))) else (none)) else (none)) else (none)) else (none)) = some r := by first | (rw [hji45] at H; exact H) | (simp only [hji45] at H ⊢; exact H)
         have hji45w : (IntKind.i64.wrap ((wrap64 (x17_4 * a2)) + x20_5)) = ji45 := (i64_w _).trans hji45
         replace H := gd H; obtain ⟨c46, H⟩ := H
         have c46b0 := decide_eq_true c46
         clear c46
         replace H := gd H; obtain ⟨c47, H⟩ := H
         have c47b0 := decide_eq_true c47
         clear c47
         obtain ⟨ji48, hji48⟩ : ∃ j_ : Int, (wrap64 ((wrap64 (x12_1 * a2)) + x20_5)) = j_ := ⟨_, rfl⟩
         replace H : (if 0 ≤ (ji48) then (if (ji48) < (x11_5.length : Int) then (if a0 = 0 then (none) else (ah.l4 k5 a0 a1 a2 a4 (x11_5.set ((ji45) : Int).toNat (Int.tmod (wrap64 ((Int.tmod (wrap64 ((wrap64 ((rd x11_5 (ji45)) * (rd x11_4 (ji40)))) - (wrap64 ((rd x11_5 (ji48)) * (rd x11_4 (ji37)))))) a0) + a0)) a0)) x12_1 x13_1 x17_4 (rd x11_4 (ji37)) (rd x11_4 (ji40)) (wrap64 (x20_5 + 1)))) else (none)) else (none)) = some r := by first | (rw [hji48] at H; exact H) | (simp only [hji48] at H ⊢; exact H)
         have hji48w : (IntKind.i64.wrap ((wrap64 (x12_1 * a2)) + x20_5)) = ji48 := (i64_w _).trans hji48
         replace H := gd H; obtain ⟨c49, H⟩ := H
         have c49b0 := decide_eq_true c49
         clear c49
         replace H := gd H; obtain ⟨c50, H⟩ := H
         have c50b0 := decide_eq_true c50
         clear c50
         by_cases c51 : a0 = 0
         ·rw [if_pos c51] at H
          exact absurd H (by simp)
         ·rw [if_neg c51] at H
          have c51b0 : (a0 == 0) = false := beq_eq_false_iff_ne.mpr c51
          have c51b1 : (a0 != 0) = true := bne_iff_ne.mpr c51
          obtain ⟨yqe, hyqe⟩ : ∃ y_ : List Int, y_ = (x11_5.set ((ji45) : Int).toNat (Int.tmod (wrap64 ((Int.tmod (wrap64 ((wrap64 ((rd x11_5 (ji45)) * (rd x11_4 (ji40)))) - (wrap64 ((rd x11_5 (ji48)) * (rd x11_4 (ji37)))))) a0) + a0)) a0)) := ⟨_, rfl⟩
          replace H : (ah.l4 k5 a0 a1 a2 a4 yqe x12_1 x13_1 x17_4 (rd x11_4 (ji37)) (rd x11_4 (ji40)) (wrap64 (x20_5 + 1))) = some r := by first | (rw [hyqe]; with_reducible exact H) | (rw [hyqe]; exact H)
          have Nyqe := aQ hyqe
          clear hyqe
          have H' := aQ H
          clear H
          try go_wp2
          replace HO_11 := aQ (Kd.R_drew HO_11.out); replace HB := aQ (a7 HB.out)
          have pqf : 0 ≤ ((ji45) : Int) := of_decide_eq_true as_
          have qqf : (ji45) < (x11_5.length : Int) := of_decide_eq_true as_
          obtain ⟨adqf, eqf, hxqf_0⟩ := Kd.at_int (Kd.R_reads' HO_11.out).2.2 (ji45) pqf qqf
          cases eqf
          replace pqf := eq_true pqf
          replace qqf := eq_true qqf
          have pqg : 0 ≤ ((ji48) : Int) := of_decide_eq_true as_
          have qqg : (ji48) < (x11_5.length : Int) := of_decide_eq_true as_
          obtain ⟨adqg, eqg, hxqg_0⟩ := Kd.at_int (Kd.R_reads' HO_11.out).2.2 (ji48) pqg qqg
          cases eqg
          replace pqg := eq_true pqg
          replace qqg := eq_true qqg
          have p52 : 0 ≤ ((ji45) : Int) := of_decide_eq_true as_
          have q52 : ((ji45) : Int) < ((x11_5.length : Int) : Int) := of_decide_eq_true as_
          obtain ⟨go52z, co52, eo52, gb52, gl52, cl52, HG52⟩ := Kd.R_form HO_11.out (by omega)
          obtain rfl : go52 = go52z := (by have h_ := eo52; simp at h_; first | exact h_ | exact h_.1)
          (first | cases eo52 | (injection eo52 with ea_ en_ ec_; (first | subst ea_ | (injection ea_ with ea_; subst ea_)); subst ec_; clear en_))
          have GB52 := aQ gb52
          have GG52 := aQ HG52
          clear gb52 gl52 HG52
          (first | simp only [dA] at hxqc_0 | skip)
          (first | simp only [dA] at hxqd_0 | skip)
          (first | simp only [dA] at hxqf_0 | skip)
          (first | simp only [dA] at hxqg_0 | skip)
          obtain ⟨hx52_0, hf52_0⟩ := Kd.R_celln 0 HO_11.out ((ji45) : Int) p52 q52
          replace p52 := eq_true p52
          replace q52 := eq_true q52
          have HP54 := Kd.R_putn HO_11.out ((ji45) : Int) (Int.tmod (wrap64 ((Int.tmod (wrap64 ((wrap64 ((rd x11_5 (ji45)) * (rd x11_4 (ji40)))) - (wrap64 ((rd x11_5 (ji48)) * (rd x11_4 (ji37)))))) a0) + a0)) a0)
          rw [← Nyqe.out] at HP54
          have HQ54 := aQ HP54
          clear HP54
          refine cN (n := 35) (S := fun w' => w'.cell? ⟨go52, ((ji45)).toNat, none⟩ = some (.int .i64 (rd x11_5 (ji45))) ∧ w'.cell? ⟨go52, ((ji48)).toNat, none⟩ = some (.int .i64 (rd x11_5 (ji48)))) (ds := [34]) _ (by kernel_rfl) rfl rfl ⟨hxqf_0, hxqg_0⟩ (fun hHeld => ?_); refine b0 ah.tab25 ah.bits25 (fun HT_ HW_ => ?_)
          generalize wr.drew = w53 at HO_11 HB GG52 HQ54 hf52_0 hxqf_0 hxqg_0 hx52_0 hHeld ⊢
          refine pJ 0 (some 117) HT_ #[true, false, false, false, false, false, false, false, false, false, false, false, false, false, false, false, false, false, false, false, false, false, false, false, false, false, false, false, false, false, false, false, false, false, false] ?_
          refine pJ 1 (some 118) HT_ #[true, true, false, false, false, false, false, false, false, false, false, false, false, false, false, false, false, false, false, false, false, false, false, false, false, false, false, false, false, false, false, false, false, false, false] ?_
          refine pJ 2 (some 119) HT_ #[true, true, true, false, false, false, false, false, false, false, false, false, false, false, false, false, false, false, false, false, false, false, false, false, false, false, false, false, false, false, false, false, false, false, false] ?_
          refine pJ 3 (some 120) HT_ #[true, true, true, true, false, false, false, false, false, false, false, false, false, false, false, false, false, false, false, false, false, false, false, false, false, false, false, false, false, false, false, false, false, false, false] ?_
          refine pJ 4 (some 121) HT_ #[true, true, true, true, true, false, false, false, false, false, false, false, false, false, false, false, false, false, false, false, false, false, false, false, false, false, false, false, false, false, false, false, false, false, false] ?_
          refine pJ 5 (some 122) HT_ #[true, true, true, true, true, true, false, false, false, false, false, false, false, false, false, false, false, false, false, false, false, false, false, false, false, false, false, false, false, false, false, false, false, false, false] ?_
          refine pJ 6 (some 123) HT_ #[true, true, true, true, true, true, true, false, false, false, false, false, false, false, false, false, false, false, false, false, false, false, false, false, false, false, false, false, false, false, false, false, false, false, false] ?_
          refine pJ 7 (some 124) HT_ #[true, true, true, true, true, true, true, true, false, false, false, false, false, false, false, false, false, false, false, false, false, false, false, false, false, false, false, false, false, false, false, false, false, false, false] ?_
          refine pJ 8 (some 125) HT_ #[true, true, true, true, true, true, true, true, true, false, false, false, false, false, false, false, false, false, false, false, false, false, false, false, false, false, false, false, false, false, false, false, false, false, false] ?_
          refine pJ 9 (some 126) HT_ #[true, true, true, true, true, true, true, true, true, true, false, false, false, false, false, false, false, false, false, false, false, false, false, false, false, false, false, false, false, false, false, false, false, false, false] ?_
          refine pJ 10 (some 127) HT_ #[true, true, true, true, true, true, true, true, true, true, true, false, false, false, false, false, false, false, false, false, false, false, false, false, false, false, false, false, false, false, false, false, false, false, false] ?_
          refine pJ 11 (some 128) HT_ #[true, true, true, true, true, true, true, true, true, true, true, true, false, false, false, false, false, false, false, false, false, false, false, false, false, false, false, false, false, false, false, false, false, false, false] ?_
          refine pJ 12 (some 129) HT_ #[true, true, true, true, true, true, true, true, true, true, true, true, true, false, false, false, false, false, false, false, false, false, false, false, false, false, false, false, false, false, false, false, false, false, false] ?_
          refine pJ 14 (some 131) HT_ #[true, true, true, true, true, true, true, true, true, true, true, true, true, false, true, false, false, false, false, false, false, false, false, false, false, false, false, false, false, false, false, false, false, false, false] ?_
          refine pJ 16 (some 133) HT_ #[true, true, true, true, true, true, true, true, true, true, true, true, true, false, true, false, true, false, false, false, false, false, false, false, false, false, false, false, false, false, false, false, false, false, false] ?_
          refine pJ 17 (some 134) HT_ #[true, true, true, true, true, true, true, true, true, true, true, true, true, false, true, false, true, true, false, false, false, false, false, false, false, false, false, false, false, false, false, false, false, false, false] ?_
          refine pJ 18 (some 135) HT_ #[true, true, true, true, true, true, true, true, true, true, true, true, true, false, true, false, true, true, true, false, false, false, false, false, false, false, false, false, false, false, false, false, false, false, false] ?_
          refine pJ 19 (some 136) HT_ #[true, true, true, true, true, true, true, true, true, true, true, true, true, false, true, false, true, true, true, true, false, false, false, false, false, false, false, false, false, false, false, false, false, false, false] ?_
          refine pJ 20 (some 137) HT_ #[true, true, true, true, true, true, true, true, true, true, true, true, true, false, true, false, true, true, true, true, true, false, false, false, false, false, false, false, false, false, false, false, false, false, false] ?_
          refine pJ 21 (some 138) HT_ #[true, true, true, true, true, true, true, true, true, true, true, true, true, false, true, false, true, true, true, true, true, true, false, false, false, false, false, false, false, false, false, false, false, false, false] ?_
          refine pJ 22 (some 139) HT_ #[true, true, true, true, true, true, true, true, true, true, true, true, true, false, true, false, true, true, true, true, true, true, true, false, false, false, false, false, false, false, false, false, false, false, false] ?_
          refine pJ 24 (some 141) HT_ #[true, true, true, true, true, true, true, true, true, true, true, true, true, false, true, false, true, true, true, true, true, true, true, false, true, false, false, false, false, false, false, false, false, false, false] ?_
          refine pJ 27 (some 144) HT_ #[true, true, true, true, true, true, true, true, true, true, true, true, true, false, true, false, true, true, true, true, true, true, true, false, true, false, false, true, false, false, false, false, false, false, false] ?_
          refine pJ 29 (some 146) HT_ #[true, true, true, true, true, true, true, true, true, true, true, true, true, false, true, false, true, true, true, true, true, true, true, false, true, false, false, true, false, true, false, false, false, false, false] ?_
          refine pJ 31 (some 148) HT_ #[true, true, true, true, true, true, true, true, true, true, true, true, true, false, true, false, true, true, true, true, true, true, true, false, true, false, false, true, false, true, false, true, false, false, false] ?_
          refine take_ (i := 13) (N := some 130) (v := ?_) (a' := ?_) #[true, true, true, true, true, true, true, true, true, true, true, true, true, true, true, false, true, true, true, true, true, true, true, false, true, false, false, true, false, true, false, true, false, false, false] rfl rfl (dZ HT_.out HW_.out (by kernel_rfl)) (fun _ _ _ h => h) (Or.inl ⟨by rfl, ?_⟩) hHeld ?_ ?_
          rotate_left
          ·rintro w' ⟨s0, s1⟩
           go_simp
           with_reducible rfl
          rotate_left
          ·simp only [Act.put, List.setIfInBounds_toArray, List.set_cons_zero, List.set_cons_succ, i64_w, cI]
           rfl
          refine pJ 15 (some 132) HT_ #[true, true, true, true, true, true, true, true, true, true, true, true, true, true, true, true, true, true, true, true, true, true, true, false, true, false, false, true, false, true, false, true, false, false, false] ?_
          refine take_ (i := 23) (N := some 140) (v := ?_) (a' := ?_) #[true, true, true, true, true, true, true, true, true, true, true, true, true, true, true, true, true, true, true, true, true, true, true, true, true, false, false, true, false, true, false, true, false, false, false] rfl rfl (dZ HT_.out HW_.out (by kernel_rfl)) (fun _ _ _ h => h) (Or.inl ⟨by rfl, ?_⟩) hHeld ?_ ?_
          rotate_left
          ·rintro w' ⟨s0, s1⟩
           go_simp
           with_reducible rfl
          rotate_left
          ·simp only [Act.put, List.setIfInBounds_toArray, List.set_cons_zero, List.set_cons_succ, i64_w, cI]
           rfl
          refine pJ 25 (some 142) HT_ #[true, true, true, true, true, true, true, true, true, true, true, true, true, true, true, true, true, true, true, true, true, true, true, true, true, true, false, true, false, true, false, true, false, false, false] ?_
          refine pJ 26 (some 143) HT_ #[true, true, true, true, true, true, true, true, true, true, true, true, true, true, true, true, true, true, true, true, true, true, true, true, true, true, true, true, false, true, false, true, false, false, false] ?_
          refine pJ 28 (some 145) HT_ #[true, true, true, true, true, true, true, true, true, true, true, true, true, true, true, true, true, true, true, true, true, true, true, true, true, true, true, true, true, true, false, true, false, false, false] ?_
          refine pJ 30 (some 147) HT_ #[true, true, true, true, true, true, true, true, true, true, true, true, true, true, true, true, true, true, true, true, true, true, true, true, true, true, true, true, true, true, true, true, false, false, false] ?_
          refine pJ 32 (some 149) HT_ #[true, true, true, true, true, true, true, true, true, true, true, true, true, true, true, true, true, true, true, true, true, true, true, true, true, true, true, true, true, true, true, true, true, false, false] ?_
          refine pJ 33 (some 150) HT_ #[true, true, true, true, true, true, true, true, true, true, true, true, true, true, true, true, true, true, true, true, true, true, true, true, true, true, true, true, true, true, true, true, true, true, false] ?_
          refine l5 (i := 34) (N := none) #[true, true, true, true, true, true, true, true, true, true, true, true, true, true, true, true, true, true, true, true, true, true, true, true, true, true, true, true, true, true, true, true, true, true, true] rfl rfl (eB HT_.out (by kernel_rfl)) (by decide) (fun K hK => ?_)
          refine iK (w1 := ?_) (by rfl) rfl ?_ ?_
          rotate_left
          ·go_simp
           rfl
          refine hK.out _ _ ?_
          clear hK K
          refine dn (cB HT_.out (by kernel_rfl)) ?_
          try go_wp2
          (try simp only [← hl11_5])
          go_roundg k5
          case measure => have := HK1.out; have := HJ12.out; have := HK3.out; have := HK4.out; have := HK5.out; omega
          case rel => exact ⟨(yqe), (wrap64 (x20_5 + 1)), rs_, H', ⟨by have := HK1.out; have := HJ12.out; have := HK3.out; have := HK4.out; have := HK5.out; omega⟩, ⟨by (try simp only [hl11_5]); refine pRx ?_; exact HQ54.out⟩, ⟨pb HB⟩⟩
        ·rw [if_neg c44] at H
         have c44b0 := decide_eq_false c44
         clear c44
         have H' := aQ H
         clear H
         go_wp2
         (try simp only [← hl11_5])
         go_roundg k5
         case measure => have := HK1.out; have := HJ12.out; have := HK3.out; have := HK4.out; have := HK5.out; omega
         case rel => exact ⟨(x11_5), (wrap64 (x17_4 + 1)), rs_, H', ⟨by have := HK1.out; have := HJ12.out; have := HK3.out; have := HK4.out; have := HK5.out; omega⟩, ⟨by (try simp only [hl11_5]); refine pRx ?_; exact HO_11.out⟩, ⟨pB HB.out⟩⟩
       ·rw [if_neg c36] at H
        have c36b0 := decide_eq_false c36
        clear c36
        have H' := aQ H
        clear H
        go_wp2
        go_roundg k4
        case measure => have := HK1.out; have := HJ12.out; have := HK3.out; have := HK4.out; omega
        case rel => exact ⟨(x11_4), (wrap64 (x12_1 + 1)), (wrap64 (x13_1 + 1)), rs_, rs_, H', ⟨by have := HK1.out; have := HJ12.out; have := HK3.out; have := HK4.out; omega⟩, ⟨pR HO_11.out⟩, ⟨pB HB.out⟩⟩
  ·replace c12 := Bool.eq_false_iff.mpr c12
   subst c12
   have H1 : (ah.l0 k1 a0 a1 a2 a4 x11_1 x12_1 (wrap64 (x13_1 + 1))) = some r := by rw [if_neg (show ¬ (false = true) by decide)] at H; exact H
   clear H
   have H := H1
   clear H1
   have H' := aQ H
   clear H
   go_wp2_with (first | (refine gq 124 (some 31) Tryz.func124 #[.int .i64 a4, .int .i64 x13_1] ?_; (with_reducible refine (aT.calls a4 x13_1 false _ A11.out).mono ?_); rintro e w' ⟨rfl, ⟨nd, rfl⟩⟩; refine ⟨_, rfl, ?_⟩))
   go_roundg k1
   case measure => have := HK1.out; omega
   case rel => exact ⟨(x11_1), (x12_1), (wrap64 (x13_1 + 1)), rs_, rs_, H', ⟨by have := HK1.out; omega⟩, ⟨pR HO_11.out⟩, ⟨pB HB.out⟩⟩
 ·rw [if_neg c10] at H
  have c10b0 := decide_eq_false c10
  clear c10
  obtain rfl := Option.some.inj H
  go_wp2
  go_ret
  exact ⟨re_, pB HB.out⟩
def bC.l0 : Nat → Int → Int → Int → List Int → Int → Int → Int → List Int → Option (Int × List Int)
 | 0, _, _, _, _, _, _, _, _ => none
 | k + 1, x0, x1, x2, x3, x10, x11, x243003000, x243003001 => (bF.f x2).bind fun tq0 => (if x11 ≤ tq0 then ((aY.f k x11).bind fun tq1 => (if tq1 = x10 then ((ah.f k x0 x1 x2 x3 x11).bind fun tq2 => (if tq2 = x10 then (if x243003001.length < 17592186044416 then (bC.l0 k x0 x1 x2 x3 x10 (wrap64 (x11 + 1)) x243003000 (x243003001 ++ [x11])) else (none)) else (bC.l0 k x0 x1 x2 x3 x10 (wrap64 (x11 + 1)) x243003000 x243003001))) else (bC.l0 k x0 x1 x2 x3 x10 (wrap64 (x11 + 1)) x243003000 x243003001))) else (some (x243003000, x243003001)))
def bC.f (k : Nat) (a0 : Int) (a1 : Int) (a2 : Int) (l3 : List Int) : Option (Int × List Int) := (bF.f a2).bind fun tq3 => ((ah.f k a0 a1 a2 l3 tq3).bind fun tq4 => (bC.l0 k a0 a1 a2 l3 tq4 0 a2 ([] : List Int)))
theorem bC.calls (k : Nat) (a0 : Int) (a1 : Int) (a2 : Int) (A3 : Option Addr) (c3 : Nat) (l3 : List Int) (r1 : Int) (r2 : List Int) (w : World) (hr3 : Kd.C (Kd.int .i64) w A3 l3.length l3) (hc3 : l3.length ≤ c3) (h : bC.f k a0 a1 a2 l3 = some (r1, r2)) :
  Calls Tryz.prog 242 #[.int .i64 a0, .int .i64 a1, .int .i64 a2, .slice A3 l3.length c3] w fun e w' => ∃ v1_ : Value, e = .returned (.agg #[.int .i64 r1, v1_]) ∧ Kd.R (Kd.int .i64) 3 w' w.heap.size (fun _ => True) v1_ r2 ∧ Below w.heap.size w w' := by
 have hu26 := Tryz.underlying26
 have HR3 := aQ hr3
 have HC3 := aQ hc3
 clear hr3 hc3
 have HB := aQ (Below.refl w.heap.size w)
 have H := h
 clear h
 unfold bC.f at H
 (try dsimp only at H)
 replace H := bo H; obtain ⟨tq3, A5, H⟩ := H
 (try dsimp only at H)
 replace H := bo H; obtain ⟨tq4, A6, H⟩ := H
 (try dsimp only at H)
 have H' := aQ H
 clear H
 go_enter Tryz.func242, Tryz.ntmps242
 go_wp2_with (first | ((with_reducible refine af (N := 8) rfl ?_); refine bx 8 #[.int .i64 0, .slice none 0 0] 26 ?_; intro gbq5 hg w7 hbox hb; have BKq5 := aQ (hbox); have GWq5 := gB HB hg; have GEq5 := gB HB hg; replace HB := bs HB hb; clear hb hbox hg) | ((with_reducible refine af (N := 9) rfl ?_); refine bx 9 #[.int .i64 0, .slice none 0 0] 26 ?_; intro gbq6 hg w8 hbox hb; have BKq6 := aQ (hbox); have GWq6 := gB HB hg; have GEq6 := gB HB hg; replace HB := bs HB hb; have NBq5_q6 := nl BKq5 hg; have NBq6_q5 := ng BKq5 hg; replace BKq5 := bb BKq5 hb; clear hb hbox hg; have hnb9 := NBq6_q5.out; have hnc9 := NBq5_q6.out; obtain ⟨hcz10_0, hcz10_1, hfz10_0, hfz10_1⟩ := c2 BKq6) | (refine gq 104 (some 19) Tryz.func104 #[.int .i64 a2] ?_; (with_reducible refine (bF.calls a2 tq3 _ A5.out).mono ?_); rintro e w' ⟨rfl, ⟨nd, rfl⟩⟩; refine ⟨_, rfl, ?_⟩) | (refine gq 275 (some 20) Tryz.func275 #[.int .i64 a0, .int .i64 a1, .int .i64 a2, .slice A3 l3.length c3, .int .i64 tq3] ?_; (with_reducible refine (ah.calls k a0 a1 a2 _ _ l3 tq3 tq4 _ ?side1 ?side2 A6.out).mono ?_); (case side1 => exact Kd.C_below HR3.out (pB2 HB.out GEq5.out GEq6.out)); (case side2 => exact HC3.out); rintro e w11 ⟨rfl, hb⟩; refine ⟨_, rfl, ?_⟩; replace BKq5 := aQ (bq (g := gbq5) (o := .cells #[.int .i64 0, .slice none 0 0] 26 (0, 0)) (by refine pkx ?_; refine aU ?_ NBq5_q6.out _; refine pkx ?_; refine aU ?_ NBq5_q6.out _; refine pkx ?_; exact BKq5.out) hb); replace BKq6 := aQ (bq (g := gbq6) (o := .cells #[.int .i64 a2, .slice none 0 0] 26 (0, 0)) (by refine pkx ?_; refine al (cs := #[.int .i64 a2, .slice none 0 0]) ?_ 1 _ rfl; refine pkx ?_; refine al (cs := #[.int .i64 0, .slice none 0 0]) ?_ 0 _ rfl; refine pkx ?_; exact BKq6.out) hb); replace HB := bs HB hb; (try clear hb)))
 go_loopg [11] k (fun kq v11 w' => ∃ (x11_1 : Int) (x243003001_1 : List Int) (u243003001 : Value), v11 = .int .i64 x11_1 ∧ Aside0 (bC.l0 kq a0 a1 a2 l3 tq4 x11_1 a2 x243003001_1 = some (r1, r2)) ∧ Aside0 (kq ≤ k) ∧ Aside0 (Kd.R (Kd.int .i64) 3 w' w.heap.size (fun _ => True) u243003001 x243003001_1) ∧ Aside0 (w'.heap[gbq5]? = some (.cells #[.int .i64 0, (.slice none 0 0)] 26 (0, 0))) ∧ Aside0 (w'.heap[gbq6]? = some (.cells #[.int .i64 a2, u243003001] 26 (0, 0))) ∧ Aside0 (Below w.heap.size w w'))
 case atStart => exact ⟨(0), (([] : List Int)), (.slice none 0 0), rs_, H', ⟨Nat.le_refl _⟩, ⟨by first | exact Kd.R_nil _ _ _ _ _ | exact Kd.N_nil _ _ _ _ _ | exact Kd.V_nil _ _ _ _ _ | exact Kd.Q_nil _ _ _ _ _ | exact Kd.S_nil _ _ _ _ _⟩, ⟨pk BKq5.out⟩, ⟨pk BKq6.out⟩, ⟨pB2 HB.out GEq5.out GEq6.out⟩⟩
 clear H'
 try clear c2
 try clear c3
 try clear hcz10_0
 try clear hcz10_1
 try clear hfz10_0
 try clear hfz10_1
 obtain ⟨x11_1, x243003001_1, u243003001, rfl, HA, HK1, HO_243003001, BKq5, BKq6, HB⟩ := hrel
 rcases gk with _ | k1
 ·exact absurd HA.out (by simp [bC.l0])
 have H := HA.out
 clear HA
 simp only [bC.l0] at H
 replace H := bo H; obtain ⟨tq0, A12, H⟩ := H
 (try dsimp only at H)
 by_cases c13 : x11_1 ≤ tq0
 ·rw [if_pos c13] at H
  have c13b0 := decide_eq_true c13
  clear c13
  replace H := bo H; obtain ⟨tq1, A14, H⟩ := H
  (try dsimp only at H)
  by_cases c15 : tq1 = tq4
  ·rw [if_pos c15] at H
   have c15b0 : (tq1 == tq4) = true := beq_iff_eq.mpr c15
   have c15b1 : (tq1 != tq4) = false := bne_eq_false_iff_eq.mpr c15
   clear c15
   replace H := bo H; obtain ⟨tq2, A16, H⟩ := H
   (try dsimp only at H)
   by_cases c17 : tq2 = tq4
   ·rw [if_pos c17] at H
    have c17b0 : (tq2 == tq4) = true := beq_iff_eq.mpr c17
    have c17b1 : (tq2 != tq4) = false := bne_eq_false_iff_eq.mpr c17
    clear c17
    replace H := gd H; obtain ⟨c18, H⟩ := H
    have LMc18 := aQ c18
    clear c18
    obtain ⟨yq7, hyq7⟩ : ∃ y_ : List Int, y_ = (x243003001_1 ++ [x11_1]) := ⟨_, rfl⟩
    replace H : (bC.l0 k1 a0 a1 a2 l3 tq4 (wrap64 (x11_1 + 1)) a2 yq7) = some (r1, r2) := by first | (rw [hyq7]; with_reducible exact H) | (rw [hyq7]; exact H)
    have Nyq7 := aQ hyq7
    clear hyq7
    have H' := aQ H
    clear H
    go_wp2_with (first | (refine gq 104 (some 23) Tryz.func104 #[.int .i64 a2] ?_; (with_reducible refine (bF.calls a2 tq0 _ A12.out).mono ?_); rintro e w' ⟨rfl, ⟨nd, rfl⟩⟩; refine ⟨_, rfl, ?_⟩; (try (rw [cT wr]; generalize hq_ : World.drewN wr _ = wr; have n0_ : Aside0 (Kd.R (Kd.int .i64) 3 wr w.heap.size (fun _ => True) u243003001 x243003001_1) := ⟨by rw [← hq_]; exact (pR HO_243003001.out)⟩; have n1_ : Aside0 (wr.heap[gbq5]? = some (.cells #[.int .i64 0, .slice none 0 0] 26 (0, 0))) := ⟨by rw [← hq_]; exact (pk BKq5.out)⟩; have n2_ : Aside0 (wr.heap[gbq6]? = some (.cells #[.int .i64 a2, u243003001] 26 (0, 0))) := ⟨by rw [← hq_]; exact (pk BKq6.out)⟩; have n3_ : Aside0 (Below w.heap.size w wr) := ⟨by rw [← hq_]; exact (pB2 HB.out GEq5.out GEq6.out)⟩; clear HO_243003001 BKq5 BKq6 HB hq_; have HO_243003001 := n0_; have BKq5 := n1_; have BKq6 := n2_; have HB := n3_; clear n0_ n1_ n2_ n3_))) | (refine gq 22 (some 28) Tryz.func22 #[.int .i64 x11_1] ?_; (with_reducible refine (aY.calls k1 x11_1 tq1 _ A14.out).mono ?_); rintro e w' ⟨rfl, ⟨nd, rfl⟩⟩; refine ⟨_, rfl, ?_⟩; (try (rw [cT wr]; generalize hq_ : World.drewN wr _ = wr; have n0_ : Aside0 (Kd.R (Kd.int .i64) 3 wr w.heap.size (fun _ => True) u243003001 x243003001_1) := ⟨by rw [← hq_]; exact (pR HO_243003001.out)⟩; have n1_ : Aside0 (wr.heap[gbq5]? = some (.cells #[.int .i64 0, .slice none 0 0] 26 (0, 0))) := ⟨by rw [← hq_]; exact (pk BKq5.out)⟩; have n2_ : Aside0 (wr.heap[gbq6]? = some (.cells #[.int .i64 a2, u243003001] 26 (0, 0))) := ⟨by rw [← hq_]; exact (pk BKq6.out)⟩; have n3_ : Aside0 (Below w.heap.size w wr) := ⟨by rw [← hq_]; exact (pB2 HB.out GEq5.out GEq6.out)⟩; clear HO_243003001 BKq5 BKq6 HB hq_; have HO_243003001 := n0_; have BKq5 := n1_; have BKq6 := n2_; have HB := n3_; clear n0_ n1_ n2_ n3_))) | (go_at_call 275; (with_reducible refine (ah.calls k1 a0 a1 a2 _ _ l3 x11_1 tq2 _ ?side1 ?side2 A16.out).mono ?_); (case side1 => exact pC (Kd.C_below HR3.out HB.out)); (case side2 => exact HC3.out); rintro e w19 ⟨rfl, hb⟩; replace HO_243003001 := aQ (Kd.R_below (pR HO_243003001.out) hb); replace BKq5 := bb BKq5 hb; replace BKq6 := bb BKq6 hb; replace HB := bs HB hb; (try clear hb); have hnb20 := NBq6_q5.out; have hnc20 := NBq5_q6.out; obtain ⟨hcz21_0, hcz21_1, hfz21_0, hfz21_1⟩ := c2 BKq6) | ((with_reducible refine aW (b := .append) (xs := #[.tmp 42, .tmp 44]) rfl ?_); at_builtin; refine Kd.R_append (Kd.int .i64) (w0 := w) w.heap.size rfl (.tmp 42) (.tmp 44) 24 3 (.int .i64 0) 8 rfl Tryz.underlying24 bR rfl (by decide) (by omega) u243003001 x243003001_1 x11_1 [.int .i64 x11_1] (fun _ => True) (fun _ => False) rfl rfl ?aP (fun _ hk => hk.elim) ?aF ?aO ?aB ?aS ?aL ?_; (case aP => exact rfl); (case aB => exact (pB2 HB.out GEq5.out GEq6.out)); (case aF => exact (fun _ _ => trivial)); (case aO => exact (pR HO_243003001.out)); (case aS => exact (aa (pB2 HB.out GEq5.out GEq6.out))); (case aL => have := LMc18.out; omega); intro vq8 w22 ho hb hg hat; rw [← Nyq7.out] at ho; replace BKq5 := aQ (cQ (g := gbq5) (o := .cells #[.int .i64 0, .slice none 0 0] 26 (0, 0)) (pk BKq5.out) hg (Kd.R_ne HO_243003001.out BKq5.out (by decide))); replace BKq6 := aQ (cQ (g := gbq6) (o := .cells #[.int .i64 a2, u243003001] 26 (0, 0)) (pk BKq6.out) hg (Kd.R_ne HO_243003001.out BKq6.out (by decide))); replace HB := aQ (hb); have HOq9 := aQ (ho); clear HO_243003001; clear ho hb hg hat; obtain ⟨Ao23, co23, eo23⟩ := Kd.R_slice HOq9.out; subst eo23; obtain ⟨hcz24_0, hcz24_1, hfz24_0, hfz24_1⟩ := c2 BKq6))
    go_roundg k1
    case measure => have := HK1.out; omega
    case rel => exact ⟨(wrap64 (x11_1 + 1)), (yq7), (.slice Ao23 yq7.length co23), rs_, H', ⟨by have := HK1.out; omega⟩, ⟨by refine pRx ?_; exact rf1 HOq9 BKq6⟩, ⟨by refine pkx ?_; refine aU ?_ NBq5_q6.out _; refine pkx ?_; exact BKq5.out⟩, ⟨by refine pkx ?_; refine al (cs := #[.int .i64 a2, u243003001]) ?_ 1 _ rfl; refine pkx ?_; exact BKq6.out⟩, ⟨pB2 HB.out GEq5.out GEq6.out⟩⟩
   ·rw [if_neg c17] at H
    have c17b0 : (tq2 == tq4) = false := beq_eq_false_iff_ne.mpr c17
    have c17b1 : (tq2 != tq4) = true := bne_iff_ne.mpr c17
    have H' := aQ H
    clear H
    go_wp2_with (first | (refine gq 104 (some 23) Tryz.func104 #[.int .i64 a2] ?_; (with_reducible refine (bF.calls a2 tq0 _ A12.out).mono ?_); rintro e w' ⟨rfl, ⟨nd, rfl⟩⟩; refine ⟨_, rfl, ?_⟩) | (refine gq 22 (some 28) Tryz.func22 #[.int .i64 x11_1] ?_; (with_reducible refine (aY.calls k1 x11_1 tq1 _ A14.out).mono ?_); rintro e w' ⟨rfl, ⟨nd, rfl⟩⟩; refine ⟨_, rfl, ?_⟩) | (go_at_call 275; (with_reducible refine (ah.calls k1 a0 a1 a2 _ _ l3 x11_1 tq2 _ ?side1 ?side2 A16.out).mono ?_); (case side1 => exact pC ((Kd.C_below HR3.out (pB2 HB.out GEq5.out GEq6.out)))); (case side2 => exact HC3.out); rintro e w25 ⟨rfl, hb⟩; replace HO_243003001 := aQ (Kd.R_below (pR HO_243003001.out) hb); replace BKq5 := bb BKq5 hb; replace BKq6 := bb BKq6 hb; replace HB := bs HB hb; (try clear hb)))
    go_roundg k1
    case measure => have := HK1.out; omega
    case rel => exact ⟨(wrap64 (x11_1 + 1)), (x243003001_1), (u243003001), rs_, H', ⟨by have := HK1.out; omega⟩, ⟨pR HO_243003001.out⟩, ⟨pk BKq5.out⟩, ⟨pk BKq6.out⟩, ⟨pB2 HB.out GEq5.out GEq6.out⟩⟩
  ·rw [if_neg c15] at H
   have c15b0 : (tq1 == tq4) = false := beq_eq_false_iff_ne.mpr c15
   have c15b1 : (tq1 != tq4) = true := bne_iff_ne.mpr c15
   have H' := aQ H
   clear H
   go_wp2_with (first | (refine gq 104 (some 23) Tryz.func104 #[.int .i64 a2] ?_; (with_reducible refine (bF.calls a2 tq0 _ A12.out).mono ?_); rintro e w' ⟨rfl, ⟨nd, rfl⟩⟩; refine ⟨_, rfl, ?_⟩) | (refine gq 22 (some 28) Tryz.func22 #[.int .i64 x11_1] ?_; (with_reducible refine (aY.calls k1 x11_1 tq1 _ A14.out).mono ?_); rintro e w' ⟨rfl, ⟨nd, rfl⟩⟩; refine ⟨_, rfl, ?_⟩))
   go_roundg k1
   case measure => have := HK1.out; omega
   case rel => exact ⟨(wrap64 (x11_1 + 1)), (x243003001_1), (u243003001), rs_, H', ⟨by have := HK1.out; omega⟩, ⟨pR HO_243003001.out⟩, ⟨pk BKq5.out⟩, ⟨pk BKq6.out⟩, ⟨pB2 HB.out GEq5.out GEq6.out⟩⟩
 ·rw [if_neg c13] at H
  have c13b0 := decide_eq_false c13
  clear c13
  simp only [Option.some.injEq, Prod.mk.injEq] at H
  obtain ⟨rfl, rfl⟩ := H
  go_wp2_with (first | (refine gq 104 (some 23) Tryz.func104 #[.int .i64 a2] ?_; (with_reducible refine (bF.calls a2 tq0 _ A12.out).mono ?_); rintro e w' ⟨rfl, ⟨nd, rfl⟩⟩; refine ⟨_, rfl, ?_⟩; (try (rw [cT wr]; generalize hq_ : World.drewN wr _ = wr; have n0_ : Aside0 (Kd.R (Kd.int .i64) 3 wr w.heap.size (fun _ => True) u243003001 x243003001_1) := ⟨by rw [← hq_]; exact (pR HO_243003001.out)⟩; have n1_ : Aside0 (wr.heap[gbq5]? = some (.cells #[.int .i64 0, .slice none 0 0] 26 (0, 0))) := ⟨by rw [← hq_]; exact (pk BKq5.out)⟩; have n2_ : Aside0 (wr.heap[gbq6]? = some (.cells #[.int .i64 a2, u243003001] 26 (0, 0))) := ⟨by rw [← hq_]; exact (pk BKq6.out)⟩; have n3_ : Aside0 (Below w.heap.size w wr) := ⟨by rw [← hq_]; exact (pB2 HB.out GEq5.out GEq6.out)⟩; clear HO_243003001 BKq5 BKq6 HB hq_; have HO_243003001 := n0_; have BKq5 := n1_; have BKq6 := n2_; have HB := n3_; clear n0_ n1_ n2_ n3_)); have hnb26 := NBq6_q5.out; have hnc26 := NBq5_q6.out; obtain ⟨hcz27_0, hcz27_1, hfz27_0, hfz27_1⟩ := c2 BKq6; obtain ⟨hcz28_0, hcz28_1, hfz28_0, hfz28_1⟩ := c2 BKq5; obtain ⟨Ao29, co29, eo29⟩ := Kd.R_slice HO_243003001.out; subst eo29))
  refine bodyPost_ret (results_cell_row rfl _ _ gbq5 26 #[.int .i64 a2, .slice Ao29 x243003001_1.length co29] (0, 0) _ rfl (by refine pkx ?_; refine al (cs := #[.int .i64 a2, .slice none 0 0]) ?_ 1 _ rfl; refine pkx ?_; refine al (cs := #[.int .i64 0, .slice none 0 0]) ?_ 0 _ rfl; refine pkx ?_; exact BKq5.out) Tryz.underlying26 rfl (by kernel_rfl)) rfl ?_
  exact ⟨_, by first | rfl | (simp [errW_none, aj] <;> rfl) | (simp [*, errW_none, aj] <;> rfl), by refine pRx ?_; exact rf HO_243003001 BKq5, pB2 HB.out GEq5.out GEq6.out⟩
def bk.l0 : Nat → Int → Int → Int → List Int → Int → List Int → Int → Int → Option (Int × List Int × Int × Int)
 | 0, _, _, _, _, _, _, _, _ => none
 | k + 1, x1, x5, x6, x7, x8, xq0, xq1, xq2 => if x8 < (wrap64 (x6 * x1)) then ((ak.f xq0 xq1 xq2 x5).bind fun btq3 => (if x7.length < 17592186044416 then (bk.l0 k x1 x5 x6 (x7 ++ [btq3.1]) (wrap64 (x8 + 1)) xq0 btq3.2.1 btq3.2.2) else (none))) else ((bC.f k x5 x6 x1 x7).bind fun btq4 => (some (btq4.1, btq4.2, xq1, xq2)))
def bk.f (k : Nat) (s0_0 : List Int) (s0_1 : Int) (s0_2 : Int) (a1 : Int) : Option (Int × List Int × Int × Int) := (bE.f s0_0 s0_1 s0_2 (([2, 3, 5, 2] : List Int))).bind fun btq5 => ((ak.f s0_0 btq5.2.1 btq5.2.2 3).bind fun btq6 => (bk.l0 k a1 btq5.1 (wrap64 (1 + btq6.1)) (([] : List Int)) 0 s0_0 btq6.2.1 btq6.2.2))
theorem bk.calls (k : Nat) (g : Nat) (s0_0 : List Int) (s0_1 : Int) (s0_2 : Int) (a1 : Int) (r1 : Int) (r2 : List Int) (r3 : Int) (r4 : Int) (w0 w : World) (hI : IsS126 w0 w g s0_0 s0_1 s0_2) (hB : Below w0.heap.size w0 w) (h : bk.f k s0_0 s0_1 s0_2 a1 = some (r1, r2, r3, r4)) :
  Calls Tryz.prog 202 #[.pointer (some ⟨g, 0, none⟩), .int .i64 a1] w fun e w' => ∃ v1_ : Value, e = .returned (.agg #[.int .i64 r1, v1_]) ∧ Kd.R (Kd.int .i64) 3 w' w.heap.size (fun _ => True) v1_ r2 ∧ IsS126 w0 w' g s0_0 r3 r4 ∧ Below w0.heap.size w0 w' ∧ KeepBut w w' g none := by
 have hu26 := Tryz.underlying26
 have HI0 := aQ hI
 have HK := aQ (KeepBut.refl w g none)
 have HL := aQ hB.size
 clear hI
 have HW0 := aQ hB.size
 have HB := aQ hB
 clear hB
 have H := h
 clear h
 unfold bk.f at H
 (try dsimp only at H)
 obtain ⟨yq7, hyq7⟩ : ∃ y_ : List Int, y_ = (([2, 3, 5, 2] : List Int)) := ⟨_, rfl⟩
 replace H : ((bE.f s0_0 s0_1 s0_2 yq7).bind fun btq5 => ((ak.f s0_0 btq5.2.1 btq5.2.2 3).bind fun btq6 => (bk.l0 k a1 btq5.1 (wrap64 (1 + btq6.1)) (([] : List Int)) 0 s0_0 btq6.2.1 btq6.2.2))) = some (r1, r2, r3, r4) := by first | (rw [hyq7]; with_reducible exact H) | (rw [hyq7]; exact H)
 have Nyq7 := aQ hyq7
 clear hyq7
 replace H := bo H; obtain ⟨⟨tq5, tq8, tq9⟩, A3, H⟩ := H
 (try dsimp only at H)
 replace H := bo H; obtain ⟨⟨tq6, tqa, tqb⟩, A4, H⟩ := H
 (try dsimp only at H)
 obtain ⟨yqc, hyqc⟩ : ∃ y_ : List Int, y_ = (([] : List Int)) := ⟨_, rfl⟩
 replace H : (bk.l0 k a1 tq5 (wrap64 (1 + tq6)) yqc 0 s0_0 tqa tqb) = some (r1, r2, r3, r4) := by first | (rw [hyqc]; with_reducible exact H) | (rw [hyqc]; exact H)
 have Nyqc := aQ hyqc
 clear hyqc
 have H' := aQ H
 clear H
 go_enter Tryz.func202, Tryz.ntmps202
 go_wp2_with (first | ((with_reducible refine af (N := 4) rfl ?_); refine bx 4 #[.int .i64 0, .slice none 0 0] 26 ?_; intro gbqd hg w5 hbox hb; replace HB := bsI HB hb; have BKqd := aQ (hbox); have GWqd := gw HK hg; have GEqd := ge HK HW0 hg; replace HK := kt HK hb; have NB0_qd := nI HI0 hg; have NBqd_0 := mI HI0 hg; replace HI0 := bI HI0 hb; clear hb hbox hg) | ((with_reducible refine af (N := 10) rfl ?_); refine Kd.R_lit (Kd.int .i64) _ 3 ?hg (N := 10) ?hd (xs := ([2, 3, 5, 2] : List Int)) (inner := [.int .i64 2, .int .i64 3, .int .i64 5, .int .i64 2]) (ok := fun _ => True) (okp := fun _ => True) ?hr ?hp (fun _ hk => hk) trivial (Below.refl _ _) (Nat.le_refl _) (by simp) ?_; (case hd => rfl); (case hg => rfl); (case hr => first | (go_simp; done) | (go_simp; rfl)); (case hp => exact (Reps.one (show Kd.M (Kd.int .i64) _ _ _ 2 [.int .i64 2] from rfl) (Reps.one (show Kd.M (Kd.int .i64) _ _ _ 3 [.int .i64 3] from rfl) (Reps.one (show Kd.M (Kd.int .i64) _ _ _ 5 [.int .i64 5] from rfl) (Reps.one (show Kd.M (Kd.int .i64) _ _ _ 2 [.int .i64 2] from rfl) (Reps.none _ _)))))); intro vqe w6 ho7 hb hg_ hnew_; clear hg_ hnew_; (first | rw [← Nyq7.out] at ho7 | (simp only [Int.reduceToNat] at ho7; rw [← Nyq7.out] at ho7)); have HOqf := aQ (Kd.R_lower ho7 (bp (w := w) (g := g) (row := none) (pq HK))); replace BKqd := bb BKqd hb; replace HK := kt HK hb; replace HB := bsI HB hb; replace HI0 := bI HI0 hb; clear hb ho7; obtain ⟨Ao8, co8, eo8⟩ := Kd.R_slice HOqf.out; subst eo8) | (refine gq 172 (some 11) Tryz.func172 #[.pointer (some ⟨g, 0, none⟩), .slice Ao8 yq7.length co8] ?_; (with_reducible refine (bE.calls g s0_0 s0_1 s0_2 _ _ yq7 tq5 tq8 tq9 w0 _ ?side1 ?side2 ?side3 ?side4 ?side5 A3.out).mono ?_); (case side1 => exact pi_ HI0); (case side2 => exact pbI HB); (case side3 => exact pC ((Kd.R_reads' HOqf.out).2.2)); (case side4 => exact (Kd.R_reads' HOqf.out).2.1); (case side5 => exact eI (IsS126.own_ne HI0.out HOqf.out (by decide))); rintro e w9 ⟨rfl, hi, hb, hk⟩; refine ⟨_, rfl, ?_⟩; replace BKqd := kk BKqd hk NBqd_0.out; replace HOqf := aQ (Kd.R_mono (Kd.R_keep (IsS126.apart (show IsS126 w0 _ g s0_0 s0_1 s0_2 from pi_ HI0) (pR HOqf.out) (by decide)) hk (fun _ h => h.2)) (fun _ h => h.1)); replace HK := kh HK hk; replace HB := aQ (hb); replace HI0 := aQ (hi); (try clear hb); (try clear hk); (try clear hi)) | (refine gq 99 (some 13) Tryz.func99 #[.pointer (some ⟨g, 0, none⟩), .int .i64 3] ?_; (with_reducible refine (ak.calls g s0_0 tq8 tq9 3 tq6 tqa tqb w0 _ ?side1 ?side2 A4.out).mono ?_); (case side1 => exact pi_ HI0); (case side2 => exact pbI HB); rintro e w10 ⟨rfl, hi, hb, hk⟩; refine ⟨_, rfl, ?_⟩; replace BKqd := kk BKqd hk NBqd_0.out; replace HOqf := aQ (Kd.R_mono (Kd.R_keep (IsS126.apart (show IsS126 w0 _ g s0_0 tq8 tq9 from pi_ HI0) (pR HOqf.out) (by decide)) hk (fun _ h => h.2)) (fun _ h => h.1)); replace HK := kh HK hk; replace HB := aQ (hb); replace HI0 := aQ (hi); (try clear hb); (try clear hk); (try clear hi)) | ((with_reducible refine af (N := 15) rfl ?_); refine Kd.R_lit (Kd.int .i64) _ 3 ?hg (N := 15) ?hd (xs := ([] : List Int)) (inner := []) (ok := fun _ => True) (okp := fun _ => True) ?hr ?hp (fun _ hk => hk) trivial (Below.refl _ _) (Nat.le_refl _) (by simp) ?_; (case hd => rfl); (case hg => rfl); (case hr => first | (go_simp; done) | (go_simp; rfl)); (case hp => exact (Reps.none _ _)); intro vqg w11 ho12 hb hg_ hnew_; clear hg_ hnew_; (first | rw [← Nyqc.out] at ho12 | (simp only [Int.reduceToNat] at ho12; rw [← Nyqc.out] at ho12)); have HOqh := aQ (Kd.R_lower (Kd.R_new' ho12 (Kd.R_lt (pR HOqf.out))) (bp (w := w) (g := g) (row := none) (pq HK))); replace HOqf := aQ (Kd.R_elder' (pR HOqf.out) (Kd.R_base ho12) hb); replace BKqd := bb BKqd hb; replace HK := kt HK hb; replace HB := bsI HB hb; replace HI0 := bI HI0 hb; clear hb ho12))
 go_loopg [7, 8] k (fun kq v7 v8 w' => ∃ (x7_1 : List Int) (x8_1 : Int) (xq1_1 : Int) (xq2_1 : Int), v8 = .int .i64 x8_1 ∧ Aside0 (bk.l0 kq a1 tq5 (wrap64 (1 + tq6)) x7_1 x8_1 s0_0 xq1_1 xq2_1 = some (r1, r2, r3, r4)) ∧ Aside0 (kq ≤ k) ∧ Aside0 (Kd.R (Kd.int .i64) 3 w' w.heap.size (fun _ => True) v7 x7_1) ∧ Aside0 (w'.heap[gbqd]? = some (.cells #[.int .i64 0, (.slice none 0 0)] 26 (0, 0))) ∧ Aside0 (IsS126 w0 w' g s0_0 xq1_1 xq2_1) ∧ Aside0 (KeepBut w w' g none) ∧ Aside0 (Below w0.heap.size w0 w'))
 case atStart => exact ⟨(yqc), (0), (tqa), (tqb), rs_, H', ⟨Nat.le_refl _⟩, ⟨by refine pRx ?_; exact Kd.R_mono HOqh.out (fun _ hk => trivial)⟩, ⟨pk BKqd.out⟩, ⟨pi_ HI0⟩, ⟨pq HK⟩, ⟨pbI HB⟩⟩
 clear H'
 obtain ⟨x7_1, x8_1, xq1_1, xq2_1, rfl, HA, HK1, HO_7, BKqd, HI0, HK, HB⟩ := hrel
 rcases gk with _ | k1
 ·exact absurd HA.out (by simp [bk.l0])
 have H := HA.out
 clear HA
 simp only [bk.l0] at H
 by_cases c13 : x8_1 < (wrap64 ((wrap64 (1 + tq6)) * a1))
 ·rw [if_pos c13] at H
  have c13b0 := decide_eq_true c13
  clear c13
  replace H := bo H; obtain ⟨⟨tq3, tqi, tqj⟩, A14, H⟩ := H
  (try dsimp only at H)
  replace H := gd H; obtain ⟨c15, H⟩ := H
  have LMc15 := aQ c15
  clear c15
  obtain ⟨yqk, hyqk⟩ : ∃ y_ : List Int, y_ = (x7_1 ++ [tq3]) := ⟨_, rfl⟩
  replace H : (bk.l0 k1 a1 tq5 (wrap64 (1 + tq6)) yqk (wrap64 (x8_1 + 1)) s0_0 tqi tqj) = some (r1, r2, r3, r4) := by first | (rw [hyqk]; with_reducible exact H) | (rw [hyqk]; exact H)
  have Nyqk := aQ hyqk
  clear hyqk
  have H' := aQ H
  clear H
  go_wp2_with (first | (refine gq 99 (some 26) Tryz.func99 #[.pointer (some ⟨g, 0, none⟩), .int .i64 tq5] ?_; (with_reducible refine (ak.calls g s0_0 xq1_1 xq2_1 tq5 tq3 tqi tqj w0 _ ?side1 ?side2 A14.out).mono ?_); (case side1 => exact pi_ HI0); (case side2 => exact pbI HB); rintro e w16 ⟨rfl, hi, hb, hk⟩; refine ⟨_, rfl, ?_⟩; replace HO_7 := aQ (Kd.R_mono (Kd.R_keep (IsS126.apart (show IsS126 w0 _ g s0_0 xq1_1 xq2_1 from pi_ HI0) (pR HO_7.out) (by decide)) hk (fun _ h => h.2)) (fun _ h => h.1)); replace BKqd := kk BKqd hk NBqd_0.out; replace HK := kh HK hk; replace HB := aQ (hb); replace HI0 := aQ (hi); (try clear hb); (try clear hk); (try clear hi)) | ((with_reducible refine aW (b := .append) (xs := #[.tmp 23, .tmp 27]) rfl ?_); at_builtin; refine Kd.R_append (Kd.int .i64) w.heap.size rfl (.tmp 23) (.tmp 27) 24 3 (.int .i64 0) 8 rfl Tryz.underlying24 bR rfl (by decide) (by omega) u7 x7_1 tq3 [.int .i64 tq3] (fun _ => True) (fun _ => False) rfl rfl ?aP (fun _ hk => hk.elim) ?aF ?aO (Below.refl _ _) ?aS ?aL ?_; (case aP => exact rfl); (case aF => exact (fun _ _ => trivial)); (case aO => exact (pR HO_7.out)); (case aS => exact (bp (w := w) (g := g) (row := none) (pq HK))); (case aL => have := LMc15.out; omega); intro vql w17 ho hb hg hat; rw [← Nyqk.out] at ho; replace BKqd := aQ (cQ (g := gbqd) (o := .cells #[.int .i64 0, .slice none 0 0] 26 (0, 0)) (pk BKqd.out) hg (Kd.R_ne HO_7.out BKqd.out (by decide))); replace HB := aQ (dj (pbI HB) HL.out hb); replace HI0 := aQ (IsS126.grown (pi_ HI0) hg (IsS126.own_ne HI0.out HO_7.out (by decide))); replace HK := aQ (KeepBut.trans (pq HK) (KeepBut.of_grown hg g) (Kd.R_base2 HO_7.out)); have HOqm := aQ (ho); clear HO_7; clear ho hb hg hat))
  go_roundg k1
  case measure => have := HK1.out; omega
  case rel => exact ⟨(yqk), (wrap64 (x8_1 + 1)), (tqi), (tqj), rs_, H', ⟨by have := HK1.out; omega⟩, ⟨pR HOqm.out⟩, ⟨pk BKqd.out⟩, ⟨pi_ HI0⟩, ⟨pq HK⟩, ⟨pbI HB⟩⟩
 ·rw [if_neg c13] at H
  have c13b0 := decide_eq_false c13
  clear c13
  replace H := bo H; obtain ⟨⟨tq4, tqn⟩, A18, H⟩ := H
  (try dsimp only at H)
  simp only [Option.some.injEq, Prod.mk.injEq] at H
  obtain ⟨rfl, rfl, rfl, rfl⟩ := H
  obtain ⟨Ao19, co19, eo19⟩ := Kd.R_slice HO_7.out
  subst eo19
  go_wp2_with (first | (refine gq 242 (some 33) Tryz.func242 #[.int .i64 tq5, .int .i64 (wrap64 (1 + tq6)), .int .i64 a1, .slice Ao19 x7_1.length co19] ?_; (with_reducible refine (bC.calls k1 tq5 (wrap64 (1 + tq6)) a1 _ _ x7_1 tq4 tqn _ ?side1 ?side2 A18.out).mono ?_); (case side1 => exact pC ((Kd.R_reads' HO_7.out).2.2)); (case side2 => exact (Kd.R_reads' HO_7.out).2.1); rintro e w20 ⟨vqo, rfl, ho0, hb⟩; refine ⟨_, rfl, ?_⟩; have HOqp := aQ (Kd.R_lower (Kd.R_new' ho0 (Kd.R_lt (pR HO_7.out))) (bp (w := w) (g := g) (row := none) (pq HK))); replace HO_7 := aQ (Kd.R_elder' (pR HO_7.out) (Kd.R_base ho0) hb); replace BKqd := bb BKqd hb; replace HK := kt HK hb; replace HB := bsI HB hb; replace HI0 := bI HI0 hb; (try clear hb); (try clear ho0); have hnb21 := NBqd_0.out; have hnc21 := NB0_qd.out; obtain ⟨hcz22_0, hcz22_1, hfz22_0, hfz22_1⟩ := c2 BKqd; obtain ⟨Ao23, co23, eo23⟩ := Kd.R_slice HOqp.out; subst eo23))
  refine bodyPost_ret (results_cell_row rfl _ _ gbqd 26 #[.int .i64 tq4, .slice Ao23 tqn.length co23] (0, 0) _ rfl (by refine pkx ?_; refine al (cs := #[.int .i64 tq4, .slice none 0 0]) ?_ 1 _ rfl; refine pkx ?_; refine al (cs := #[.int .i64 0, .slice none 0 0]) ?_ 0 _ rfl; refine pkx ?_; exact BKqd.out) Tryz.underlying26 rfl (by kernel_rfl)) rfl ?_
  exact ⟨_, by first | rfl | (simp [errW_none, aj] <;> rfl) | (simp [*, errW_none, aj] <;> rfl), by refine pRx ?_; exact rf HOqp BKqd, pi_ HI0, pbI HB, pq HK⟩
end Go.Proofs.YtimkekeaeojpkaaGreat.A
