/- Machine side of the law FnSpecial: Go functions as Lean functions, and proofs that calls come to what these tell. Conditions: those in each theorem. -/
import Derived.Test.YtimkekeaeojpkaaGreatMFnSpecialwRepsOne
import Derived.Test.YtimkekeaeojpkaaGreatMFnSpecial0
import Derived.Test.YtimkekeaeojpkaaGreatMFnSpecialq0
set_option maxHeartbeats 8000000
set_option maxRecDepth 100000
namespace Go.Proofs.YtimkekeaeojpkaaGreat.A
open Go.RowKit Go.Proofs.YtimkekeaeojpkaaGreatW.PrintWords Go.Proofs.YtimkekeaeojpkaaGreatW.PrintLast Go.Proofs.YtimkekeaeojpkaaGreatW.PrintMore Tryz
attribute [local go_sem] ck cl cE cD b4 bZ cm cp
set_option linter.unusedVariables false
set_option linter.unusedSimpArgs false
def laws_big.f (l0 : List Int) : Option (Bool) := some (decide ((l0.length : Int) > 1048576))
theorem laws_big.n0 (A0 : Option Addr) (c0 : Nat) (l0 : List Int) (r : Bool) (w : World) (hr0 : Kd.C (Kd.int .u8) w A0 l0.length l0) (hc0 : l0.length ≤ c0) (h : laws_big.f l0 = some r) :
  CD Tryz.prog 8 #[.slice A0 l0.length c0] w (.bool r) := by
 have HR0 := aQ hr0; have HC0 := aQ hc0; clear hr0 hc0; have H : (some (decide ((l0.length : Int) > 1048576))) = some r := h; clear h; obtain rfl := oj H; go_enter func8, ntmps8; go_wp2
 go_ret
 exact ⟨rs_, rd_⟩
def bE.f (a0 : Int) (a1 : Int) (a2 : Int) : Option (Bool) := if a0 ≥ a1 then (some (decide (a0 ≤ a2))) else (some false)
theorem bE.n0 (a0 : Int) (a1 : Int) (a2 : Int) (r : Bool) (w : World) (h : bE.f a0 a1 a2 = some r) :
  CD Tryz.prog 116 #[.int .i64 a0, .int .i64 a1, .int .i64 a2] w (.bool r) := by
 have H : (if a0 ≥ a1 then (some (decide (a0 ≤ a2))) else (some false)) = some r := h; clear h; replace H := ckD H; obtain ⟨c4b0, H⟩ | ⟨c4b0, H⟩ := H
 ·obtain rfl := oj H; go_enter func116, ntmps116; go_wp2
  go_ret
  exact ⟨rs_, rd_⟩
 ·obtain rfl := oj H; go_enter func116, ntmps116; go_wp2
  go_ret
  exact ⟨rs_, rd_⟩
def a8.f (a0 : Int) (a1 : Int) : Option (Bool) := (bE.f a0 0 8).bind fun tq0 => (if tq0 = true then (if 0 ≤ (IntKind.u64.wrap (a0)) then ((bE.f a1 0 (wrap64 ((shl .i64 1 (IntKind.u64.wrap (a0))) - 1))).bind fun tq1 => (some tq1)) else (none)) else (some false))
theorem a8.n0 (a0 : Int) (a1 : Int) (r : Bool) (w : World) (h : a8.f a0 a1 = some r) :
  CD Tryz.prog 112 #[.int .i64 a0, .int .i64 a1] w (.bool r) := by
 have H := h; clear h; unfold a8.f at H; (try dsimp only at H); replace H := bo H; obtain ⟨tq0, A3, H⟩ := H; replace H := ckB H; obtain ⟨rfl, H⟩ | ⟨rfl, H⟩ := H
 ·obtain ⟨ji5, hji5⟩ : ∃ j_ : Int, (IntKind.u64.wrap (a0)) = j_ := ⟨_, rfl⟩; (first | rw [hji5] at H | simp only [hji5] at H); (try rw [hji5] at A3); replace H := gdB H; obtain ⟨c6b0, c6b1, H⟩ := H; obtain ⟨ji7, hji7⟩ : ∃ j_ : Int, (shl .i64 1 (ji5)) = j_ := ⟨_, rfl⟩; (first | rw [hji7] at H | simp only [hji7] at H); (try rw [hji7] at A3); have hji7_ : (IntKind.i64.wrap (1 * 2 ^ min (ji5).toNat 64)) = ji7 := hji7; have hji7z : (ji5) ≤ 64 → (IntKind.i64.wrap (1 * 2 ^ (ji5).toNat)) = ji7 := dD hji7; have hji7u : (IntKind.i64.wrap (2 ^ min (ji5).toNat 64)) = ji7 := by have h_ := hji7_; rw [Int.one_mul] at h_; exact h_
  have hji7v : (ji5) ≤ 64 → (IntKind.i64.wrap (2 ^ (ji5).toNat)) = ji7 := fun hle_ => by have h_ := hji7z hle_; rw [Int.one_mul] at h_; exact h_
  have hji7y : (wrap64 (1 * 2 ^ min (ji5).toNat 64)) = ji7 := (i64_w _).symm.trans hji7_; have hji7x : (ji5) ≤ 64 → (wrap64 (1 * 2 ^ (ji5).toNat)) = ji7 := fun h_ => (i64_w _).symm.trans (hji7z h_)
  replace H := bo H; obtain ⟨tq1, A8, H⟩ := H; obtain rfl := oj H; go_enter func112, ntmps112; go_wp2_with (first | (refine gt 116 ?_; refine gcD (some 6) func116 (bE.n0 a0 0 8 true _ A3.out) ?_; intro nd) | (go_at_call 116; (with_reducible refine (bE.n0 a1 0 (wrap64 ((ji7) - 1)) tq1 _ A8.out).mono ?_); rintro e w' ⟨rfl, ⟨nd, rfl⟩⟩))
  go_ret
  exact ⟨by first | rfl | (simp; done) | (simp only [← hji5, ← hji7] <;> (first | rfl | simp)) | (simp [*]; done), rd_⟩
 ·obtain rfl := oj H; go_enter func112, ntmps112; go_wp2_with (first | (refine gt 116 ?_; refine gcD (some 6) func116 (bE.n0 a0 0 8 false _ A3.out) ?_; intro nd))
  go_ret
  exact ⟨rs_, rd_⟩
def bG.f (a0 : Int) (a1 : Int) : Option (Bool) := if 0 ≤ (IntKind.u64.wrap (a1)) then (some ((Go.bits .and .i64 (shr .i64 a0 (IntKind.u64.wrap (a1))) 1) == 1)) else (none)
theorem bG.n0 (a0 : Int) (a1 : Int) (r : Bool) (w : World) (h : bG.f a0 a1 = some r) :
  CD Tryz.prog 124 #[.int .i64 a0, .int .i64 a1] w (.bool r) := by
 have H := h; clear h; unfold bG.f at H; (try dsimp only at H); obtain ⟨ji3, hji3⟩ : ∃ j_ : Int, (IntKind.u64.wrap (a1)) = j_ := ⟨_, rfl⟩; (first | rw [hji3] at H | simp only [hji3] at H); replace H := gdB H; obtain ⟨c4b0, c4b1, H⟩ := H; obtain ⟨ji5, hji5⟩ : ∃ j_ : Int, (shr .i64 a0 (ji3)) = j_ := ⟨_, rfl⟩; (first | rw [hji5] at H | simp only [hji5] at H); have hji5_ : (a0 / 2 ^ min (ji3).toNat 64) = ji5 := hji5; have hji5z : (ji3) ≤ 64 → (a0 / 2 ^ (ji3).toNat) = ji5 := jN hji5; obtain rfl := oj H; go_enter func124, ntmps124; go_wp2
 go_ret
 exact ⟨by first | rfl | (simp; done) | (simp only [← hji3, ← hji5] <;> (first | rfl | simp)) | (simp [*]; done), rd_⟩
def dz.f (a0 : Int) (a1 : Int) : Option (Bool) := (a8.f 8 a0).bind fun tq0 => (if tq0 = true then ((bE.f a1 0 7).bind fun tq1 => (if tq1 = true then ((bG.f a0 a1).bind fun tq2 => (some tq2)) else (some false))) else (some false))
theorem dz.n0 (a0 : Int) (a1 : Int) (r : Bool) (w : World) (h : dz.f a0 a1 = some r) :
  CD Tryz.prog 41 #[.int .i64 a0, .int .i64 a1] w (.bool r) := by
 have H := h; clear h; unfold dz.f at H; (try dsimp only at H); replace H := bo H; obtain ⟨tq0, A3, H⟩ := H; replace H := ckB H; obtain ⟨rfl, H⟩ | ⟨rfl, H⟩ := H
 ·replace H := bo H; obtain ⟨tq1, A5, H⟩ := H; replace H := ckB H; obtain ⟨rfl, H⟩ | ⟨rfl, H⟩ := H
  ·replace H := bo H; obtain ⟨tq2, A7, H⟩ := H; obtain rfl := oj H; go_enter func41, ntmps41; go_wp2_with (first | (refine gt 112 ?_; refine gcD (some 6) func112 (a8.n0 8 a0 true _ A3.out) ?_; intro nd) | (go_at_call 116; (with_reducible refine (bE.n0 a1 0 7 true _ A5.out).mono ?_); rintro e w' ⟨rfl, ⟨nd, rfl⟩⟩) | (go_at_call 124; (with_reducible refine (bG.n0 a0 a1 tq2 _ A7.out).mono ?_); rintro e w' ⟨rfl, ⟨nd, rfl⟩⟩))
   go_ret
   exact ⟨rs_, rd_⟩
  ·obtain rfl := oj H; go_enter func41, ntmps41; go_wp2_with (first | (refine gt 112 ?_; refine gcD (some 6) func112 (a8.n0 8 a0 true _ A3.out) ?_; intro nd) | (go_at_call 116; (with_reducible refine (bE.n0 a1 0 7 false _ A5.out).mono ?_); rintro e w' ⟨rfl, ⟨nd, rfl⟩⟩))
   go_ret
   exact ⟨rs_, rd_⟩
 ·obtain rfl := oj H; go_enter func41, ntmps41; go_wp2_with (first | (refine gt 112 ?_; refine gcD (some 6) func112 (a8.n0 8 a0 false _ A3.out) ?_; intro nd))
  go_ret
  exact ⟨rs_, rd_⟩
end Go.Proofs.YtimkekeaeojpkaaGreat.A
namespace Go.Proofs.YtimkekeaeojpkaaGreat.A
open Go.RowKit Go.Proofs.YtimkekeaeojpkaaGreatW.PrintWords Go.Proofs.YtimkekeaeojpkaaGreatW.PrintLast Go.Proofs.YtimkekeaeojpkaaGreatW.PrintMore Tryz
attribute [local go_sem] ck cl cE cD b4 bZ cm cp
set_option linter.unusedVariables false
set_option linter.unusedSimpArgs false
def F4 (w0 W : World) (g : Nat) (f0 : List Int) (f1 : Int) (f2 : Int) : Prop := ∃ A0 c0, W.heap[g]? = some (.cells #[.slice A0 f0.length c0, .int .i64 f1, .int .i64 f2] 126 (0, 0)) ∧ w0.heap.size ≤ g ∧ Kd.C (Kd.int .u8) w0 A0 f0.length f0
theorem F4.grown {w0 W : World} {g : Nat} {f0 : List Int} {f1 : Int} {f2 : Int} {W1 : World} {row : Option Nat} (h : F4 w0 W g f0 f1 f2) (hw : W.grownBy W1 row) (hne : some g ≠ row) : F4 w0 W1 g f0 f1 f2 := by
  obtain ⟨A0, c0, hb, hg, hr0⟩ := h
  exact ⟨A0, c0, bA hb hw hne, hg, hr0⟩
theorem F4.kept {w0 W : World} {g : Nat} {f0 : List Int} {f1 : Int} {f2 : Int} {W1 : World} {S : Nat → Prop} (h : F4 w0 W g f0 f1 f2) (hk : Kept W W1 S) (hne : ¬ S g) : F4 w0 W1 g f0 f1 f2 := by
  obtain ⟨A0, c0, hb, hg, hr0⟩ := h
  exact ⟨A0, c0, na hb hk hne, hg, hr0⟩
theorem F4.below {w0 W : World} {g : Nat} {f0 : List Int} {f1 : Int} {f2 : Int} {W1 : World} (h : F4 w0 W g f0 f1 f2) (hw : Below W.heap.size W W1) : F4 w0 W1 g f0 f1 f2 := h.grown (fE hw none) (by simp)
theorem F4.alloc {w0 W : World} {g : Nat} {f0 : List Int} {f1 : Int} {f2 : Int} (h : F4 w0 W g f0 f1 f2) (o : Obj) : F4 w0 (W.alloc o) g f0 f1 f2 := h.below (cr (Below.refl _ _) o)
theorem F4.drewN {w0 W : World} {g : Nat} {f0 : List Int} {f1 : Int} {f2 : Int} (h : F4 w0 W g f0 f1 f2) (m : Nat) : F4 w0 (W.drewN m) g f0 f1 f2 := h
theorem F4.drew {w0 W : World} {g : Nat} {f0 : List Int} {f1 : Int} {f2 : Int} (h : F4 w0 W g f0 f1 f2) : F4 w0 W.drew g f0 f1 f2 := h
theorem F4.at_ {w0 W : World} {g : Nat} {f0 : List Int} {f1 : Int} {f2 : Int} {w' : World} {m : Nat} (hq : W.drewN m = w') (h : F4 w0 W g f0 f1 f2) : F4 w0 w' g f0 f1 f2 := by subst hq; exact F4.drewN h m
theorem F4.apart {w0 W : World} {g : Nat} {f0 : List Int} {f1 : Int} {f2 : Int} {α : Type} {d : Kd α} {e : Nat} {base : Nat} {ok : Nat → Prop} {v : Value} {xs : List α} (h : F4 w0 W g f0 f1 f2) (ho : d.R e W base ok v xs) (ht : ∀ q, q ∈ e :: d.E → q ≠ 126) : d.R e W base (fun k => ok k ∧ k ≠ g) v xs := by
  obtain ⟨A0, c0, hb, hg, hr0⟩ := h
  exact Kd.o9 ho hb ht
theorem F4.z7 {w0 W : World} {g : Nat} {f0 : List Int} {f1 : Int} {f2 : Int} {α : Type} {d : Kd α} {e : Nat} {base : Nat} {ok : Nat → Prop} {v : Value} {xs : List α} (h : F4 w0 W g f0 f1 f2) (ho : d.R e W base ok v xs) (ht : e ≠ 126) : some g ≠ v.ownBlock := by
  obtain ⟨A0, c0, hb, hg, hr0⟩ := h
  exact Kd.r8 ho hb ht
theorem F4.lt {w0 W : World} {g : Nat} {f0 : List Int} {f1 : Int} {f2 : Int} (h : F4 w0 W g f0 f1 f2) : g < W.heap.size := by
  obtain ⟨A0, c0, hb, hg, hr0⟩ := h
  exact cG hb
theorem F4.ge {w0 W : World} {g : Nat} {f0 : List Int} {f1 : Int} {f2 : Int} (h : F4 w0 W g f0 f1 f2) : w0.heap.size ≤ g := by
  obtain ⟨A0, c0, hb, hg, hr0⟩ := h
  exact hg
theorem F4.C5 {w0 W : World} {g : Nat} {f0 : List Int} {f1 : Int} {f2 : Int} {a : Nat} {cs : Array Value} {t : TypeId} {fr : Nat × Nat} (h : F4 w0 W g f0 f1 f2) (hb2 : W.heap[a]? = some (.cells cs t fr)) (ht : t ≠ 126) : g ≠ a := by
  obtain ⟨A0, c0, hb, hg, hr0⟩ := h
  rintro rfl
  rw [hb] at hb2
  injection hb2 with hb2
  injection hb2 with _ ht2
  exact ht ht2.symm
theorem F4.far {w0 W : World} {g : Nat} {f0 : List Int} {f1 : Int} {f2 : Int} {p : Addr} (h : F4 w0 W g f0 f1 f2) (hne : g ≠ p.block) (u : Value) : F4 w0 (W.setCell p u) g f0 f1 f2 := by
  obtain ⟨A0, c0, hb, hg, hr0⟩ := h
  exact ⟨A0, c0, au hb hne u, hg, hr0⟩
theorem iI {W : World} {g : Nat} {A0 : Option Addr} {c0 : Nat} {f0 : List Int} {f1 : Int} {f2 : Int} (h : W.heap[g]? = some (.cells #[.slice A0 f0.length c0, .int .i64 f1, .int .i64 f2] 126 (0, 0))) : W.cell? ⟨g, 0, none⟩ = some (.slice A0 f0.length c0) := (cK h 0).trans rfl
theorem iY {W : World} {g : Nat} {A0 : Option Addr} {c0 : Nat} {f0 : List Int} {f1 : Int} {f2 : Int} (h : W.heap[g]? = some (.cells #[.slice A0 f0.length c0, .int .i64 f1, .int .i64 f2] 126 (0, 0))) : W.cell? ⟨g, 1, none⟩ = some (.int .i64 f1) := (cK h 1).trans rfl
theorem F4.set_1 {w0 W : World} {g : Nat} {f0 : List Int} {f1 : Int} {f2 : Int} (h : F4 w0 W g f0 f1 f2) (x : Int) : F4 w0 (W.setCell ⟨g, 1, none⟩ (.int .i64 x)) g f0 x f2 := by
  obtain ⟨A0, c0, hb, hg, hr0⟩ := h
  exact ⟨A0, c0, by simpa using jW hb 1 (.int .i64 x), hg, hr0⟩
theorem iS {W : World} {g : Nat} {A0 : Option Addr} {c0 : Nat} {f0 : List Int} {f1 : Int} {f2 : Int} (h : W.heap[g]? = some (.cells #[.slice A0 f0.length c0, .int .i64 f1, .int .i64 f2] 126 (0, 0))) : W.cell? ⟨g, 2, none⟩ = some (.int .i64 f2) := (cK h 2).trans rfl
theorem F4.set_2 {w0 W : World} {g : Nat} {f0 : List Int} {f1 : Int} {f2 : Int} (h : F4 w0 W g f0 f1 f2) (x : Int) : F4 w0 (W.setCell ⟨g, 2, none⟩ (.int .i64 x)) g f0 f1 x := by
  obtain ⟨A0, c0, hb, hg, hr0⟩ := h
  exact ⟨A0, c0, by simpa using jW hb 2 (.int .i64 x), hg, hr0⟩
theorem F4.new (w0 W : World) (A0 : Option Addr) (c0 : Nat) (f0 : List Int) (f1 : Int) (f2 : Int) (hB : Below w0.heap.size w0 W) (hr0 : Kd.C (Kd.int .u8) w0 A0 f0.length f0) : F4 w0 (W.alloc (.cells #[.slice A0 f0.length c0, .int .i64 f1, .int .i64 f2] 126)) W.heap.size f0 f1 f2 := ⟨A0, c0, by simpa using heap_alloc_new W _, hB.size, hr0⟩
theorem pi_ {p q : Prop} (h : Aside0 q) (f : Aside0 q → p := by intro h_; repeat (first | (with_reducible first | exact h_.out | apply F4.alloc | apply F4.drewN | apply F4.drew | apply F4.set_1 | apply F4.set_2 | refine F4.far ?_ (Aside0.out (by assumption)) _) | exact h_.out)) : p := f h
theorem pbI {p q : Prop} (h : Aside0 q) (f : Aside0 q → p := by intro h_; repeat (first | (with_reducible first | exact h_.out | apply cr | apply bN | apply aC | refine dc ?_ (Aside0.out (by assumption)) | refine dc ?_ (F4.ge (Aside0.out (by assumption)))) | exact h_.out)) : p := f h
section
variable {w0 w w1 w2 wa W : World} {g gb : Nat} {f0 : List Int} {f1 f2 : Int}
theorem bsI (h : Aside0 (Below w.heap.size w wa)) (hb : Below w1.heap.size w1 w2) (f : Below w.heap.size w w1 := by repeat (first | (with_reducible first | exact Aside0.out (by assumption) | apply cr | apply bN | apply aC | refine dc ?_ (Aside0.out (by assumption)) | refine dc ?_ (F4.ge (Aside0.out (by assumption)))) | exact Aside0.out (by assumption))) : Aside0 (Below w.heap.size w w2) := ⟨eL f hb⟩
theorem nI (h : Aside0 (F4 w0 wa g f0 f1 f2)) (hg : gb = w1.heap.size) (f : F4 w0 w1 g f0 f1 f2 := by repeat (first | (with_reducible first | exact Aside0.out (by assumption) | apply F4.alloc | apply F4.drewN | apply F4.drew | apply F4.set_1 | apply F4.set_2 | refine F4.far ?_ (Aside0.out (by assumption)) _) | exact Aside0.out (by assumption))) : Aside0 (g ≠ gb) := ⟨by rw [hg]; exact Nat.ne_of_lt f.lt⟩
theorem mI (h : Aside0 (F4 w0 wa g f0 f1 f2)) (hg : gb = w1.heap.size) (f : F4 w0 w1 g f0 f1 f2 := by repeat (first | (with_reducible first | exact Aside0.out (by assumption) | apply F4.alloc | apply F4.drewN | apply F4.drew | apply F4.set_1 | apply F4.set_2 | refine F4.far ?_ (Aside0.out (by assumption)) _) | exact Aside0.out (by assumption))) : Aside0 (gb ≠ g) := ⟨by rw [hg]; exact Nat.ne_of_gt f.lt⟩
theorem bI (h : Aside0 (F4 w0 wa g f0 f1 f2)) (hb : Below w1.heap.size w1 w2) (f : F4 w0 w1 g f0 f1 f2 := by repeat (first | (with_reducible first | exact Aside0.out (by assumption) | apply F4.alloc | apply F4.drewN | apply F4.drew | apply F4.set_1 | apply F4.set_2 | refine F4.far ?_ (Aside0.out (by assumption)) _) | exact Aside0.out (by assumption))) : Aside0 (F4 w0 w2 g f0 f1 f2) := ⟨f.below hb⟩
end
section
variable {w0 w W W2 : World} {g : Nat} {f0 : List Int} {f1 : Int} {f2 : Int} {α : Type} {d : Kd α} {e base : Nat} {v : Value} {xs : List α}
theorem rk {Wa Wb : World} (h : Aside0 (F4 w0 Wa g f0 f1 f2)) (ho : Aside0 (d.R e Wb base (fun _ => True) v xs)) (hk : KeepBut W W2 g none) (h1 : F4 w0 W g f0 f1 f2 := by repeat (first | (with_reducible first | exact Aside0.out (by assumption) | apply F4.alloc | apply F4.drewN | apply F4.drew | apply F4.set_1 | apply F4.set_2 | refine F4.far ?_ (Aside0.out (by assumption)) _) | exact Aside0.out (by assumption))) (h2 : d.R e W base (fun _ => True) v xs := by (with_reducible repeat (first | apply Kd.D0 | apply Kd.C9 | apply Kd.r7)); exact Aside0.out (by assumption)) (ht : ∀ q, q ∈ e :: d.E → q ≠ 126 := by decide) : Aside0 (d.R e W2 base (fun _ => True) v xs) :=
  ⟨Kd.n7 (Kd.r9 (F4.apart h1 h2 ht) hk (fun _ h => h.2)) (fun _ h => h.1)⟩
end
def ce.l0 : Nat → List Int → Int → Int → Option (List Int × Int × Int)
 | 0, _, _, _ => none
 | k + 1, x0, x3, x4 => if x4 < (x0.length : Int) then (if x4 < 4000 then (if 0 ≤ x4 then (ce.l0 k x0 (Go.bits .and .i64 (wrap64 ((wrap64 ((wrap64 (x3 * 131)) + (wrap64 (rd x0 x4)))) + 7)) 1073741823) (wrap64 (x4 + 1))) else (none)) else (some (x0, 0, x3))) else (some (x0, 0, x3))
def ce.f (k : Nat) (l0 : List Int) : Option (List Int × Int × Int) := ce.l0 k l0 (wrap64 (26583 + (l0.length : Int))) 0
theorem ce.n0 (k : Nat) (A0 : Option Addr) (c0 : Nat) (l0 : List Int) (r1 : List Int) (r2 : Int) (r3 : Int) (w0 w : World) (hB : Below w0.heap.size w0 w) (hr0 : Kd.C (Kd.int .u8) w0 A0 l0.length l0) (hc0 : l0.length ≤ c0) (h : ce.f k l0 = some (r1, r2, r3)) :
  Calls Tryz.prog 96 #[.slice A0 l0.length c0] w fun e w' => ∃ g_ : Nat, e = .returned (.pointer (some ⟨g_, 0, none⟩)) ∧ F4 w0 w' g_ r1 r2 r3 ∧ Below w0.heap.size w0 w' ∧ Below w.heap.size w w' := by
 have hu126 := underlying126; have HR0 := aQ hr0; have HC0 := aQ hc0; clear hr0 hc0; have HBW := aQ (Below.refl w.heap.size w); have HW0 := aQ hB.size; have HB := aQ hB; clear hB; have H := h; clear h; unfold ce.f at H; (try dsimp only at H); have H' := aQ H; clear H; go_enter func96, ntmps96; go_wp2
 go_loopg [3, 4] k (fun kq v3 v4 w' => ∃ (x3_1 : Int) (x4_1 : Int), v3 = .int .i64 x3_1 ∧ v4 = .int .i64 x4_1 ∧ Aside0 (ce.l0 kq l0 x3_1 x4_1 = some (r1, r2, r3)) ∧ Aside0 (kq ≤ k) ∧ Aside0 (Below w0.heap.size w0 w') ∧ Aside0 (Below w.heap.size w w'))
 case atStart => exact ⟨(wrap64 (26583 + (l0.length : Int))), (0), rs_, rs_, H', ⟨Nat.le_refl _⟩, ⟨aj HB⟩, ⟨pb HBW⟩⟩
 clear H'; obtain ⟨x3_1, x4_1, rfl, rfl, HA, HK1, HB, HBW⟩ := hrel; rcases gk with _ | k1
 ·exact absurd HA.out (by simp [ce.l0])
 have H := HA.out; clear HA; simp only [ce.l0] at H; replace H := ckD H; obtain ⟨c2b0, H⟩ | ⟨c2b0, H⟩ := H
 ·replace H := ckD H; obtain ⟨c3b0, H⟩ | ⟨c3b0, H⟩ := H
  ·replace H := gdD H; obtain ⟨c4b0, H⟩ := H; have H' := aQ H; clear H; have pq0 : 0 ≤ (x4_1 : Int) := of_decide_eq_true as_; have qq0 : x4_1 < (l0.length : Int) := of_decide_eq_true as_; obtain ⟨adq0, eq0, hxq0_0⟩ := Kd.o0 HR0.out x4_1 pq0 qq0; cases eq0; replace hxq0_0 := dO HB.out hxq0_0; replace pq0 := eq_true pq0; replace qq0 := eq_true qq0; go_wp2
   go_roundg k1
   case measure => exact omeg HK1
   case rel => exact ⟨(Go.bits .and .i64 (wrap64 ((wrap64 ((wrap64 (x3_1 * 131)) + (wrap64 (rd l0 x4_1)))) + 7)) 1073741823), (wrap64 (x4_1 + 1)), rs_, rs_, H', ⟨omeg HK1⟩, ⟨aj HB⟩, ⟨pb HBW⟩⟩
  ·obtain ⟨rfl, rfl, rfl⟩ := o3 H; go_wp2_with (first | (refine bX 31 #[.slice A0 l0.length c0, .int .i64 0, .int .i64 x3_1] 126 ?_; intro gbq1 hg w5 BKq1 hb; replace HB := bs HB hb; have GWq1 := aQ ((by rw [hg]; exact (aa (pb HBW)) : w.heap.size ≤ gbq1)); have GEq1 := aQ ((Nat.le_trans HW0.out (by rw [hg]; exact (aa (pb HBW)) : w.heap.size ≤ gbq1) : w0.heap.size ≤ gbq1)); replace HBW := aQ (eL HBW.out hb); clear hb hg))
   go_ret
   exact ⟨_, rfl, (show F4 w0 _ gbq1 l0 0 x3_1 from ⟨_, _, af BKq1, GEq1.out, HR0.out⟩), am HB GEq1, pb HBW⟩
 ·obtain ⟨rfl, rfl, rfl⟩ := o3 H; go_wp2_with (first | (refine bX 31 #[.slice A0 l0.length c0, .int .i64 0, .int .i64 x3_1] 126 ?_; intro gbq2 hg w6 BKq2 hb; replace HB := bs HB hb; have GWq2 := aQ ((by rw [hg]; exact (aa (pb HBW)) : w.heap.size ≤ gbq2)); have GEq2 := aQ ((Nat.le_trans HW0.out (by rw [hg]; exact (aa (pb HBW)) : w.heap.size ≤ gbq2) : w0.heap.size ≤ gbq2)); replace HBW := aQ (eL HBW.out hb); clear hb hg))
  go_ret
  exact ⟨_, rfl, (show F4 w0 _ gbq2 l0 0 x3_1 from ⟨_, _, af BKq2, GEq2.out, HR0.out⟩), am HB GEq2, pb HBW⟩
end Go.Proofs.YtimkekeaeojpkaaGreat.A
namespace Go.Proofs.YtimkekeaeojpkaaGreat.A
open Go.RowKit Go.Proofs.YtimkekeaeojpkaaGreatW.PrintWords Go.Proofs.YtimkekeaeojpkaaGreatW.PrintLast Go.Proofs.YtimkekeaeojpkaaGreatW.PrintMore Tryz
attribute [local go_sem] ck cl cE cD b4 bZ cm cp
set_option linter.unusedVariables false
set_option linter.unusedSimpArgs false
def cJ.f (s0_0 : List Int) (s0_1 : Int) (s0_2 : Int) : Option (Int × Int × Int) := if s0_1 < (s0_0.length : Int) then (if 0 ≤ s0_1 then (some (Go.bits .and .i64 (wrap64 ((Go.bits .and .i64 (Go.bits .xor .i64 ((wrap64 ((wrap64 (s0_2 * 6364136223846793005)) + 1442695040888963407)) / 8589934592) ((wrap64 ((wrap64 (s0_2 * 6364136223846793005)) + 1442695040888963407)) / 35184372088832)) 255) + (wrap64 (rd s0_0 s0_1)))) 255, wrap64 (s0_1 + 1), wrap64 ((wrap64 (s0_2 * 6364136223846793005)) + 1442695040888963407))) else (none)) else (some (Go.bits .and .i64 (Go.bits .xor .i64 ((wrap64 ((wrap64 (s0_2 * 6364136223846793005)) + 1442695040888963407)) / 8589934592) ((wrap64 ((wrap64 (s0_2 * 6364136223846793005)) + 1442695040888963407)) / 35184372088832)) 255, s0_1, wrap64 ((wrap64 (s0_2 * 6364136223846793005)) + 1442695040888963407)))
theorem cJ.n0 (g : Nat) (s0_0 : List Int) (s0_1 : Int) (s0_2 : Int) (r1 : Int) (r2 : Int) (r3 : Int) (w0 w : World) (hI : F4 w0 w g s0_0 s0_1 s0_2) (hB : Below w0.heap.size w0 w) (h : cJ.f s0_0 s0_1 s0_2 = some (r1, r2, r3)) :
  Calls Tryz.prog 203 #[.pointer (some ⟨g, 0, none⟩)] w fun e w' => e = .returned (.int .i64 r1) ∧ F4 w0 w' g s0_0 r2 r3 ∧ Below w0.heap.size w0 w' ∧ KeepBut w w' g none := by
 have HI0 := aQ hI; have HK := aQ (KeepBut.refl w g none); have HL := aQ hB.size; clear hI; have HW0 := aQ hB.size; have HB := aQ hB; clear hB; have H := h; clear h; unfold cJ.f at H; (try dsimp only at H); replace H := ckD H; obtain ⟨c2b0, H⟩ | ⟨c2b0, H⟩ := H
 ·replace H := gdD H; obtain ⟨c3b0, H⟩ := H; obtain ⟨rfl, rfl, rfl⟩ := o3 H; obtain ⟨ASz4_0, cSz4_0, HGz4, hgz4, HSz4_0⟩ := HI0.out; have hcz4_0 := iI HGz4; have hcz4_1 := iY HGz4; have hcz4_2 := iS HGz4; have hfz4_1 := ah HGz4 1; have hfz4_2 := ah HGz4 2; clear HGz4 hgz4; have pq0 : 0 ≤ (s0_1 : Int) := of_decide_eq_true as_; have qq0 : s0_1 < (s0_0.length : Int) := of_decide_eq_true as_; obtain ⟨adq0, eq0, hxq0_0⟩ := Kd.o0 HSz4_0 s0_1 pq0 qq0; cases eq0; have hnq0_0 : adq0.block ≠ g := Nat.ne_of_lt (Nat.lt_of_lt_of_le (by have := World.block_lt_of_cell? _ _ hxq0_0; first | rwa [dY] at this | exact this) (F4.ge HI0.out)); replace hxq0_0 := dO HB.out hxq0_0; replace hxq0_0 := (cz (p := ⟨g, 2, none⟩) (by first | (rw [dY]; exact hnq0_0) | (show (Addr.add _ _).block ≠ _; rw [dY]; exact hnq0_0) | exact hnq0_0) (.int .i64 (wrap64 ((wrap64 (s0_2 * 6364136223846793005)) + 1442695040888963407)))).trans hxq0_0; (try have hyq0_0 := fun (n_ : Nat) => (show (((w.drewN n_).setCell ⟨g, 2, none⟩ (.int .i64 (wrap64 ((wrap64 (s0_2 * 6364136223846793005)) + 1442695040888963407))))).cell? _ = some _ from hxq0_0)); clear hnq0_0; replace pq0 := eq_true pq0; replace qq0 := eq_true qq0; go_enter func203, ntmps203; go_wp2
  repeat (go_quiet (fail); try go_wp2)
  go_ret
  exact ⟨re_, pi_ HI0, pbI HB, pq HK⟩
 ·obtain ⟨rfl, rfl, rfl⟩ := o3 H; obtain ⟨ASz5_0, cSz5_0, HGz5, hgz5, HSz5_0⟩ := HI0.out; have hcz5_0 := iI HGz5; have hcz5_1 := iY HGz5; have hcz5_2 := iS HGz5; have hfz5_1 := ah HGz5 1; have hfz5_2 := ah HGz5 2; clear HGz5 hgz5; go_enter func203, ntmps203; go_wp2
  repeat (go_quiet (fail); try go_wp2)
  go_ret
  exact ⟨re_, pi_ HI0, pbI HB, pq HK⟩
def an.f (s0_0 : List Int) (s0_1 : Int) (s0_2 : Int) (a1 : Int) : Option (Int × Int × Int) := if a1 ≤ 0 then (some (0, s0_1, s0_2)) else (if a1 ≤ 256 then ((cJ.f s0_0 s0_1 s0_2).bind fun btq0 => (if a1 = 0 then (none) else (some (Int.tmod btq0.1 a1, btq0.2.1, btq0.2.2)))) else ((cJ.f s0_0 s0_1 s0_2).bind fun btq1 => ((cJ.f s0_0 btq1.2.1 btq1.2.2).bind fun btq2 => ((cJ.f s0_0 btq2.2.1 btq2.2.2).bind fun btq3 => ((cJ.f s0_0 btq3.2.1 btq3.2.2).bind fun btq4 => (if a1 = 0 then (none) else (some (Int.tmod (wrap64 ((wrap64 ((wrap64 ((wrap64 (btq1.1 * 16777216)) + (wrap64 (btq2.1 * 65536)))) + (wrap64 (btq3.1 * 256)))) + btq4.1)) a1, btq4.2.1, btq4.2.2))))))))
theorem an.n0 (g : Nat) (s0_0 : List Int) (s0_1 : Int) (s0_2 : Int) (a1 : Int) (r1 : Int) (r2 : Int) (r3 : Int) (w0 w : World) (hI : F4 w0 w g s0_0 s0_1 s0_2) (hB : Below w0.heap.size w0 w) (h : an.f s0_0 s0_1 s0_2 a1 = some (r1, r2, r3)) :
  Calls Tryz.prog 99 #[.pointer (some ⟨g, 0, none⟩), .int .i64 a1] w fun e w' => e = .returned (.int .i64 r1) ∧ F4 w0 w' g s0_0 r2 r3 ∧ Below w0.heap.size w0 w' ∧ KeepBut w w' g none := by
 have HI0 := aQ hI; have HK := aQ (KeepBut.refl w g none); have HL := aQ hB.size; clear hI; have HW0 := aQ hB.size; have HB := aQ hB; clear hB; have H := h; clear h; unfold an.f at H; (try dsimp only at H); replace H := ckD H; obtain ⟨c3b0, H⟩ | ⟨c3b0, H⟩ := H
 ·obtain ⟨rfl, rfl, rfl⟩ := o3 H; go_enter func99, ntmps99; go_wp2
  go_ret
  exact ⟨re_, pi_ HI0, pbI HB, pq HK⟩
 ·replace H := ckD H; obtain ⟨c4b0, H⟩ | ⟨c4b0, H⟩ := H
  ·replace H := bo H; obtain ⟨⟨tq0, tq5, tq6⟩, A5, H⟩ := H; (try dsimp only at H); by_cases c6 : a1 = 0
   ·rw [if_pos c6] at H; exact absurd H (by simp)
   ·rw [if_neg c6] at H; obtain ⟨c6b0, c6b1⟩ := eqF c6; obtain ⟨rfl, rfl, rfl⟩ := o3 H; go_enter func99, ntmps99; go_wp2_with (first | (refine gt 203 ?_; refine gc (some 14) func203 (cJ.n0 g s0_0 s0_1 s0_2 tq0 tq5 tq6 w0 _ (pi_ HI0) (pbI HB) A5.out) ?_; rintro e w7 ⟨rfl, hi, hb, hk⟩; refine ⟨_, rfl, ?_⟩; replace HK := kh HK hk; replace HB := aQ (hb); replace HI0 := aQ (hi); (try clear hb); (try clear hk); (try clear hi)))
    go_ret
    exact ⟨re_, pi_ HI0, pbI HB, pq HK⟩
  ·replace H := bo H; obtain ⟨⟨tq1, tq7, tq8⟩, A8, H⟩ := H; (try dsimp only at H); replace H := bo H; obtain ⟨⟨tq2, tq9, tqa⟩, A9, H⟩ := H; (try dsimp only at H); replace H := bo H; obtain ⟨⟨tq3, tqb, tqc⟩, A10, H⟩ := H; (try dsimp only at H); replace H := bo H; obtain ⟨⟨tq4, tqd, tqe⟩, A11, H⟩ := H; (try dsimp only at H); by_cases c12 : a1 = 0
   ·rw [if_pos c12] at H; exact absurd H (by simp)
   ·rw [if_neg c12] at H; obtain ⟨c12b0, c12b1⟩ := eqF c12; obtain ⟨rfl, rfl, rfl⟩ := o3 H; go_enter func99, ntmps99; go_wp2_with (first | (refine gt 203 ?_; refine gc (some 18) func203 (cJ.n0 g s0_0 s0_1 s0_2 tq1 tq7 tq8 w0 _ (pi_ HI0) (pbI HB) A8.out) ?_; rintro e w13 ⟨rfl, hi, hb, hk⟩; refine ⟨_, rfl, ?_⟩; replace HK := kh HK hk; replace HB := aQ (hb); replace HI0 := aQ (hi); (try clear hb); (try clear hk); (try clear hi)) | (refine gt 203 ?_; refine gc (some 20) func203 (cJ.n0 g s0_0 tq7 tq8 tq2 tq9 tqa w0 _ (pi_ HI0) (pbI HB) A9.out) ?_; rintro e w14 ⟨rfl, hi, hb, hk⟩; refine ⟨_, rfl, ?_⟩; replace HK := kh HK hk; replace HB := aQ (hb); replace HI0 := aQ (hi); (try clear hb); (try clear hk); (try clear hi)) | (refine gt 203 ?_; refine gc (some 22) func203 (cJ.n0 g s0_0 tq9 tqa tq3 tqb tqc w0 _ (pi_ HI0) (pbI HB) A10.out) ?_; rintro e w15 ⟨rfl, hi, hb, hk⟩; refine ⟨_, rfl, ?_⟩; replace HK := kh HK hk; replace HB := aQ (hb); replace HI0 := aQ (hi); (try clear hb); (try clear hk); (try clear hi)) | (refine gt 203 ?_; refine gc (some 24) func203 (cJ.n0 g s0_0 tqb tqc tq4 tqd tqe w0 _ (pi_ HI0) (pbI HB) A11.out) ?_; rintro e w16 ⟨rfl, hi, hb, hk⟩; refine ⟨_, rfl, ?_⟩; replace HK := kh HK hk; replace HB := aQ (hb); replace HI0 := aQ (hi); (try clear hb); (try clear hk); (try clear hi)))
    go_ret
    exact ⟨re_, pi_ HI0, pbI HB, pq HK⟩
def dM.f (a0 : Int) (a1 : Int) : Option (Int) := if a0 > a1 then (some a0) else (some a1)
theorem dM.n0 (a0 : Int) (a1 : Int) (r : Int) (w : World) (h : dM.f a0 a1 = some r) :
  CD Tryz.prog 107 #[.int .i64 a0, .int .i64 a1] w (.int .i64 r) := by
 have H : (if a0 > a1 then (some a0) else (some a1)) = some r := h; clear h; replace H := ckD H; obtain ⟨c3b0, H⟩ | ⟨c3b0, H⟩ := H
 ·obtain rfl := oj H; go_enter func107, ntmps107; go_wp2
  go_ret
  exact ⟨rs_, rd_⟩
 ·obtain rfl := oj H; go_enter func107, ntmps107; go_wp2
  go_ret
  exact ⟨rs_, rd_⟩
def eT.f (a0 : Int) (a1 : Int) : Option (Int) := if a0 < a1 then (some a0) else (some a1)
theorem eT.n0 (a0 : Int) (a1 : Int) (r : Int) (w : World) (h : eT.f a0 a1 = some r) :
  CD Tryz.prog 160 #[.int .i64 a0, .int .i64 a1] w (.int .i64 r) := by
 have H : (if a0 < a1 then (some a0) else (some a1)) = some r := h; clear h; replace H := ckD H; obtain ⟨c3b0, H⟩ | ⟨c3b0, H⟩ := H
 ·obtain rfl := oj H; go_enter func160, ntmps160; go_wp2
  go_ret
  exact ⟨rs_, rd_⟩
 ·obtain rfl := oj H; go_enter func160, ntmps160; go_wp2
  go_ret
  exact ⟨rs_, rd_⟩
def cg.f (s0_0 : List Int) (s0_1 : Int) (s0_2 : Int) (l1 : List Int) : Option (Int × Int × Int) := (an.f s0_0 s0_1 s0_2 (l1.length : Int)).bind fun btq0 => (if 0 ≤ btq0.1 then (if btq0.1 < (l1.length : Int) then (some (rd l1 btq0.1, btq0.2.1, btq0.2.2)) else (none)) else (none))
theorem cg.n0 (g : Nat) (s0_0 : List Int) (s0_1 : Int) (s0_2 : Int) (A1 : Option Addr) (c1 : Nat) (l1 : List Int) (r1 : Int) (r2 : Int) (r3 : Int) (w0 w : World) (hI : F4 w0 w g s0_0 s0_1 s0_2) (hB : Below w0.heap.size w0 w) (hr1 : Kd.C (Kd.int .i64) w A1 l1.length l1) (hc1 : l1.length ≤ c1) (hf1 : ∀ ad, A1 = some ad → 0 < l1.length → ad.block ≠ g) (h : cg.f s0_0 s0_1 s0_2 l1 = some (r1, r2, r3)) :
  Calls Tryz.prog 172 #[.pointer (some ⟨g, 0, none⟩), .slice A1 l1.length c1] w fun e w' => e = .returned (.int .i64 r1) ∧ F4 w0 w' g s0_0 r2 r3 ∧ Below w0.heap.size w0 w' ∧ KeepBut w w' g none := by
 have HR1 := aQ hr1; have HC1 := aQ hc1; clear hr1 hc1; have HI0 := aQ hI; have HK := aQ (KeepBut.refl w g none); have HL := aQ hB.size; clear hI; have HW0 := aQ hB.size; have HB := aQ hB; clear hB; have H := h; clear h; unfold cg.f at H; (try dsimp only at H); replace H := bo H; obtain ⟨⟨tq0, tq1, tq2⟩, A3, H⟩ := H; (try dsimp only at H); replace H := gdD H; obtain ⟨c4b0, H⟩ := H; replace H := gdD H; obtain ⟨c5b0, H⟩ := H; obtain ⟨rfl, rfl, rfl⟩ := o3 H; go_enter func172, ntmps172; go_wp2_with (first | (refine gt 99 ?_; refine gc (some 9) func99 (an.n0 g s0_0 s0_1 s0_2 (l1.length : Int) tq0 tq1 tq2 w0 _ (pi_ HI0) (pbI HB) A3.out) ?_; rintro e w6 ⟨rfl, hi, hb, hk⟩; refine ⟨_, rfl, ?_⟩; replace HK := kh HK hk; replace HB := aQ (hb); replace HI0 := aQ (hi); (try clear hb); (try clear hk); (try clear hi); have pq3 : 0 ≤ (tq0 : Int) := of_decide_eq_true as_; have qq3 : tq0 < (l1.length : Int) := of_decide_eq_true as_; obtain ⟨adq3, eq3, hxq3_0⟩ := Kd.o0 HR1.out tq0 pq3 qq3; cases eq3; replace hxq3_0 := jH HK.out hxq3_0 (by first | (rw [dY]; exact hf1 _ rfl (by omega)) | exact hf1 _ rfl (by omega) | exact hf1 adq3 rfl (by omega)); replace pq3 := eq_true pq3; replace qq3 := eq_true qq3))
 go_ret
 exact ⟨re_, pi_ HI0, pbI HB, pq HK⟩
def dH.f (s0_0 : List Int) (s0_1 : Int) (s0_2 : Int) (a1 : Int) : Option (Bool × Int × Int) := (an.f s0_0 s0_1 s0_2 a1).bind fun btq0 => (some ((btq0.1 == 0), btq0.2.1, btq0.2.2))
theorem dH.n0 (g : Nat) (s0_0 : List Int) (s0_1 : Int) (s0_2 : Int) (a1 : Int) (r1 : Bool) (r2 : Int) (r3 : Int) (w0 w : World) (hI : F4 w0 w g s0_0 s0_1 s0_2) (hB : Below w0.heap.size w0 w) (h : dH.f s0_0 s0_1 s0_2 a1 = some (r1, r2, r3)) :
  Calls Tryz.prog 106 #[.pointer (some ⟨g, 0, none⟩), .int .i64 a1] w fun e w' => e = .returned (.bool r1) ∧ F4 w0 w' g s0_0 r2 r3 ∧ Below w0.heap.size w0 w' ∧ KeepBut w w' g none := by
 have HI0 := aQ hI; have HK := aQ (KeepBut.refl w g none); have HL := aQ hB.size; clear hI; have HW0 := aQ hB.size; have HB := aQ hB; clear hB; have H := h; clear h; unfold dH.f at H; (try dsimp only at H); replace H := bo H; obtain ⟨⟨tq0, tq1, tq2⟩, A3, H⟩ := H; (try dsimp only at H); obtain ⟨rfl, rfl, rfl⟩ := o3 H; go_enter func106, ntmps106; go_wp2_with (first | (refine gt 99 ?_; refine gc (some 7) func99 (an.n0 g s0_0 s0_1 s0_2 a1 tq0 tq1 tq2 w0 _ (pi_ HI0) (pbI HB) A3.out) ?_; rintro e w4 ⟨rfl, hi, hb, hk⟩; refine ⟨_, rfl, ?_⟩; replace HK := kh HK hk; replace HB := aQ (hb); replace HI0 := aQ (hi); (try clear hb); (try clear hk); (try clear hi)))
 go_ret
 exact ⟨re_, pi_ HI0, pbI HB, pq HK⟩
def ei.f (s0_0 : List Int) (s0_1 : Int) (s0_2 : Int) : Option (Int × Int × Int) := (an.f s0_0 s0_1 s0_2 256).bind fun btq0 => (some (btq0.1, btq0.2.1, btq0.2.2))
theorem ei.n0 (g : Nat) (s0_0 : List Int) (s0_1 : Int) (s0_2 : Int) (r1 : Int) (r2 : Int) (r3 : Int) (w0 w : World) (hI : F4 w0 w g s0_0 s0_1 s0_2) (hB : Below w0.heap.size w0 w) (h : ei.f s0_0 s0_1 s0_2 = some (r1, r2, r3)) :
  Calls Tryz.prog 213 #[.pointer (some ⟨g, 0, none⟩)] w fun e w' => e = .returned (.int .i64 r1) ∧ F4 w0 w' g s0_0 r2 r3 ∧ Below w0.heap.size w0 w' ∧ KeepBut w w' g none := by
 have HI0 := aQ hI; have HK := aQ (KeepBut.refl w g none); have HL := aQ hB.size; clear hI; have HW0 := aQ hB.size; have HB := aQ hB; clear hB; have H := h; clear h; unfold ei.f at H; (try dsimp only at H); replace H := bo H; obtain ⟨⟨tq0, tq1, tq2⟩, A2, H⟩ := H; (try dsimp only at H); obtain ⟨rfl, rfl, rfl⟩ := o3 H; go_enter func213, ntmps213; go_wp2_with (first | (refine gt 99 ?_; refine gc (some 4) func99 (an.n0 g s0_0 s0_1 s0_2 256 tq0 tq1 tq2 w0 _ (pi_ HI0) (pbI HB) A2.out) ?_; rintro e w3 ⟨rfl, hi, hb, hk⟩; refine ⟨_, rfl, ?_⟩; replace HK := kh HK hk; replace HB := aQ (hb); replace HI0 := aQ (hi); (try clear hb); (try clear hk); (try clear hi)))
 go_ret
 exact ⟨re_, pi_ HI0, pbI HB, pq HK⟩
def dC.f (s0_0 : List Int) (s0_1 : Int) (s0_2 : Int) : Option (Int × Int × Int) := (dH.f s0_0 s0_1 s0_2 8).bind fun btq0 => (if btq0.1 = true then ((cg.f s0_0 btq0.2.1 btq0.2.2 (([(-1), 256, 1000, (-9223372036854775808)] : List Int))).bind fun btq1 => (some (btq1.1, btq1.2.1, btq1.2.2))) else ((ei.f s0_0 btq0.2.1 btq0.2.2).bind fun btq2 => (some (btq2.1, btq2.2.1, btq2.2.2))))
theorem dC.n0 (g : Nat) (s0_0 : List Int) (s0_1 : Int) (s0_2 : Int) (r1 : Int) (r2 : Int) (r3 : Int) (w0 w : World) (hI : F4 w0 w g s0_0 s0_1 s0_2) (hB : Below w0.heap.size w0 w) (h : dC.f s0_0 s0_1 s0_2 = some (r1, r2, r3)) :
  Calls Tryz.prog 127 #[.pointer (some ⟨g, 0, none⟩)] w fun e w' => e = .returned (.int .i64 r1) ∧ F4 w0 w' g s0_0 r2 r3 ∧ Below w0.heap.size w0 w' ∧ KeepBut w w' g none := by
 have HI0 := aQ hI; have HK := aQ (KeepBut.refl w g none); have HL := aQ hB.size; clear hI; have HW0 := aQ hB.size; have HB := aQ hB; clear hB; have H := h; clear h; unfold dC.f at H; (try dsimp only at H); replace H := bo H; obtain ⟨⟨tq0, tq3, tq4⟩, A2, H⟩ := H; (try dsimp only at H); replace H := ckB H; obtain ⟨rfl, H⟩ | ⟨rfl, H⟩ := H
 ·obtain ⟨yq5, hyq5⟩ : ∃ y_ : List Int, y_ = (([(-1), 256, 1000, (-9223372036854775808)] : List Int)) := ⟨_, rfl⟩; replace H : ((cg.f s0_0 tq3 tq4 yq5).bind fun btq1 => (some (btq1.1, btq1.2.1, btq1.2.2))) = some (r1, r2, r3) := by first | (rw [hyq5]; with_reducible exact H) | (rw [hyq5]; exact H)
  have Nyq5 := aQ hyq5; clear hyq5; replace H := bo H; obtain ⟨⟨tq1, tq6, tq7⟩, A4, H⟩ := H; (try dsimp only at H); obtain ⟨rfl, rfl, rfl⟩ := o3 H; go_enter func127, ntmps127; go_wp2_with (first | (refine gt 106 ?_; refine gc (some 4) func106 (dH.n0 g s0_0 s0_1 s0_2 8 true tq3 tq4 w0 _ (pi_ HI0) (pbI HB) A2.out) ?_; rintro e w5 ⟨rfl, hi, hb, hk⟩; refine ⟨_, rfl, ?_⟩; replace HK := kh HK hk; replace HB := aQ (hb); replace HI0 := aQ (hi); (try clear hb); (try clear hk); (try clear hi)) | ((with_reducible refine gate_dst (N := 6) rfl ?_); refine Kd.z8 (Kd.int .i64) _ 3 ?hg (N := 6) ?hd (xs := ([(-1), 256, 1000, (-9223372036854775808)] : List Int)) (inner := [.int .i64 (-1), .int .i64 256, .int .i64 1000, .int .i64 (-9223372036854775808)]) (ok := fun _ => True) (okp := fun _ => True) ?hr ?hp (fun _ hk => hk) trivial (Below.refl _ _) (Nat.le_refl _) (by simp) ?_; (case hd => rfl); (case hg => rfl); (case hr => first | (go_simp; done) | (go_simp; rfl)); (case hp => exact (Reps.one (show Kd.M (Kd.int .i64) _ _ _ (-1) [.int .i64 (-1)] from rfl) (Reps.one (show Kd.M (Kd.int .i64) _ _ _ 256 [.int .i64 256] from rfl) (Reps.one (show Kd.M (Kd.int .i64) _ _ _ 1000 [.int .i64 1000] from rfl) (Reps.one (show Kd.M (Kd.int .i64) _ _ _ (-9223372036854775808) [.int .i64 (-9223372036854775808)] from rfl) (Reps.none _ _)))))); intro vq8 w6 ho7 hb hg_ hnew_; clear hg_ hnew_; (first | rw [← Nyq5.out] at ho7 | (simp only [Int.reduceToNat] at ho7; rw [← Nyq5.out] at ho7)); have HOq9 := aQ (Kd.n6 ho7 (b8 (w := w) (g := g) (row := none) (pq HK))); replace HK := kt HK hb; replace HB := bsI HB hb; replace HI0 := bI HI0 hb; clear hb ho7; obtain ⟨Ao8, co8, eo8⟩ := Kd.n8 HOq9.out; subst eo8) | (refine gt 172 ?_; refine gc (some 7) func172 (cg.n0 g s0_0 tq3 tq4 _ _ yq5 tq1 tq6 tq7 w0 _ (pi_ HI0) (pbI HB) (pC ((Kd.n5 HOq9.out).2.2)) ((Kd.n5 HOq9.out).2.1) (fP (F4.z7 HI0.out HOq9.out (by decide))) A4.out) ?_; rintro e w9 ⟨rfl, hi, hb, hk⟩; refine ⟨_, rfl, ?_⟩; replace HOq9 := rk HI0 HOq9 hk; replace HK := kh HK hk; replace HB := aQ (hb); replace HI0 := aQ (hi); (try clear hb); (try clear hk); (try clear hi)))
  go_ret
  exact ⟨re_, pi_ HI0, pbI HB, pq HK⟩
 ·replace H := bo H; obtain ⟨⟨tq2, tqa, tqb⟩, A10, H⟩ := H; (try dsimp only at H); obtain ⟨rfl, rfl, rfl⟩ := o3 H; go_enter func127, ntmps127; go_wp2_with (first | (refine gt 106 ?_; refine gc (some 4) func106 (dH.n0 g s0_0 s0_1 s0_2 8 false tq3 tq4 w0 _ (pi_ HI0) (pbI HB) A2.out) ?_; rintro e w11 ⟨rfl, hi, hb, hk⟩; refine ⟨_, rfl, ?_⟩; replace HK := kh HK hk; replace HB := aQ (hb); replace HI0 := aQ (hi); (try clear hb); (try clear hk); (try clear hi)) | (refine gt 213 ?_; refine gc (some 9) func213 (ei.n0 g s0_0 tq3 tq4 tq2 tqa tqb w0 _ (pi_ HI0) (pbI HB) A10.out) ?_; rintro e w12 ⟨rfl, hi, hb, hk⟩; refine ⟨_, rfl, ?_⟩; replace HK := kh HK hk; replace HB := aQ (hb); replace HI0 := aQ (hi); (try clear hb); (try clear hk); (try clear hi)))
  go_ret
  exact ⟨re_, pi_ HI0, pbI HB, pq HK⟩
end Go.Proofs.YtimkekeaeojpkaaGreat.A
namespace Go.Proofs.YtimkekeaeojpkaaGreat.A
open Go.RowKit Go.Proofs.YtimkekeaeojpkaaGreatW.PrintWords Go.Proofs.YtimkekeaeojpkaaGreatW.PrintLast Go.Proofs.YtimkekeaeojpkaaGreatW.PrintMore Go.Proofs.YtimkekeaeojpkaaGreat.Z Tryz
attribute [local go_sem] ck cl cE cD b4 bZ cm cp
set_option linter.unusedVariables false
set_option linter.unusedSimpArgs false
mutual
def ac.l0 : Nat → List Int → List Int → Int → Option (List Int)
 | 0, _, _, _ => none
 | k + 1, x0, x3, x4 => if x4 < (x0.length : Int) then (ac.l1 k x0 x3 x4 0) else (some x3)
def ac.l1 : Nat → List Int → List Int → Int → Int → Option (List Int)
 | 0, _, _, _, _ => none
 | k + 1, x0, x3, x4, x5 => if x5 < (x3.length : Int) then (if 0 ≤ x5 then (if 0 ≤ x4 then (if x4 < (x0.length : Int) then (if (rd x3 x5) < (rd x0 x4) then (ac.l1 k x0 x3 x4 (wrap64 (x5 + 1))) else (if (rd x3 x5) = (rd x0 x4) then (ac.l0 k x0 x3 (wrap64 (x4 + 1))) else ((some (([] : List Int) : List Int)).bind fun yq0 => (if x5 ≤ (x3.length : Int) then ((some (x3.drop (x5 : Int).toNat : List Int)).bind fun yq1 => (if yq0.length + yq1.length < 17592186044416 then ((some (yq0 ++ yq1 : List Int)).bind fun yq2 => ((some (x3.take (x5 : Int).toNat : List Int)).bind fun yq3 => (if yq3.length < 17592186044416 then ((some (yq3 ++ [rd x0 x4] : List Int)).bind fun yq4 => (if yq4.length + yq2.length < 17592186044416 then (ac.l0 k x0 (yq4 ++ yq2) (wrap64 (x4 + 1))) else (none))) else (none)))) else (none))) else (none))))) else (none)) else (none)) else (none)) else ((some (([] : List Int) : List Int)).bind fun yq5 => (if 0 ≤ x5 then (if x5 ≤ (x3.length : Int) then ((some (x3.drop (x5 : Int).toNat : List Int)).bind fun yq6 => (if yq5.length + yq6.length < 17592186044416 then ((some (yq5 ++ yq6 : List Int)).bind fun yq7 => ((some (x3.take (x5 : Int).toNat : List Int)).bind fun yq8 => (if 0 ≤ x4 then (if x4 < (x0.length : Int) then (if yq8.length < 17592186044416 then ((some (yq8 ++ [rd x0 x4] : List Int)).bind fun yq9 => (if yq9.length + yq7.length < 17592186044416 then (ac.l0 k x0 (yq9 ++ yq7) (wrap64 (x4 + 1))) else (none))) else (none)) else (none)) else (none)))) else (none))) else (none)) else (none)))
end
def ac.f (k : Nat) (l0 : List Int) : Option (List Int) := ac.l0 k l0 (([] : List Int)) 0
def ac.T6 : Bool × List (List Nat × List Nat) := (true, [([], []), ([], []), ([1], [1]), ([0, 2], [0, 2]), ([3], [3]), ([4], [4]), ([4], [4]), ([5, 6, 4], [4, 5, 6]), ([7, 4], [4, 7]), ([4], [4]), ([4], [4]), ([9, 10, 4], [4, 9, 10]), ([11, 4], [4, 11]), ([8, 12, 4], [4, 8, 12]), ([4, 13], [4, 13])])
def ac.B6 : List Nat := [0, 0, 2, 7, 15, 31, 31, 127, 255, 31, 31, 1567, 3615, 8191, 16383]
theorem ac.tab6 : rtab .any (fg Tryz.f140 6) = ac.T6 := by kernel_rfl
theorem ac.bits6 : di ac.T6.2 ac.B6 = true := by kernel_rfl
def ac.T8 : Bool × List (List Nat × List Nat) := (true, [([], []), ([], []), ([1], [1]), ([0, 2], [0, 2]), ([3], [3]), ([4], [4]), ([4], [4]), ([5, 6, 4], [4, 5, 6]), ([7, 4], [4, 7]), ([4], [4]), ([4], [4]), ([9, 10, 4], [4, 9, 10]), ([11, 4], [4, 11]), ([8, 12, 4], [4, 8, 12]), ([4, 13], [4, 13])])
def ac.B8 : List Nat := [0, 0, 2, 7, 15, 31, 31, 127, 255, 31, 31, 1567, 3615, 8191, 16383]
theorem ac.tab8 : rtab .any (fg Tryz.f140 8) = ac.T8 := by kernel_rfl
theorem ac.bits8 : di ac.T8.2 ac.B8 = true := by kernel_rfl
def ac.T10 : Bool × List (List Nat × List Nat) := (true, [([], []), ([], []), ([0, 1], [0, 1]), ([], []), ([], []), ([3, 4], [3, 4]), ([5], [5]), ([6], [6]), ([2, 7], [2, 7]), ([], []), ([8, 9, 8], [8, 9]), ([10, 10, 0, 1, 2, 3, 4, 5, 6, 7, 8, 9, 10], [0, 10])])
def ac.B10 : List Nat := [0, 0, 3, 0, 0, 24, 56, 120, 255, 0, 1023, 2047]
theorem ac.tab10 : rtab .any (fg Tryz.f140 10) = ac.T10 := by kernel_rfl
theorem ac.bits10 : di ac.T10.2 ac.B10 = true := by kernel_rfl
theorem ac.n0 (k : Nat) (A0 : Option Addr) (c0 : Nat) (l0 : List Int) (r : List Int) (w : World) (hr0 : Kd.C (Kd.int .i64) w A0 l0.length l0) (hc0 : l0.length ≤ c0) (h : ac.f k l0 = some r) :
  Calls Tryz.prog 140 #[.slice A0 l0.length c0] w fun e w' => ∃ v0_ : Value, e = .returned (v0_) ∧ Kd.R (Kd.int .i64) 3 w' w.heap.size (fun _ => True) v0_ r ∧ Below w.heap.size w w' := by
 have HR0 := aQ hr0; have HC0 := aQ hc0; clear hr0 hc0; have HB := aQ (Below.refl w.heap.size w); have H : (ac.l0 k l0 (([] : List Int)) 0) = some r := h; clear h; obtain ⟨yqa, hyqa⟩ : ∃ y_ : List Int, y_ = (([] : List Int)) := ⟨_, rfl⟩; replace H : (ac.l0 k l0 yqa 0) = some r := by first | (rw [hyqa]; with_reducible exact H) | (rw [hyqa]; exact H)
 have Nyqa := aQ hyqa; clear hyqa; have H' := aQ H; clear H; go_enter func140, ntmps140; go_wp2_with (first | (refine lI (d := Kd.int .i64) 7 Nyqa ?_; intro vqb w2 ho3 hb; have HOqc := aQ (Kd.n6 ho3 (aa (aj HB))); replace HB := bs HB hb; clear hb ho3))
 go_loopg [3, 4] k (fun kq v3 v4 w' => ∃ (x3_1 : List Int) (x4_1 : Int), v4 = .int .i64 x4_1 ∧ Aside0 (ac.l0 kq l0 x3_1 x4_1 = some r) ∧ Aside0 (kq ≤ k) ∧ Aside0 (Kd.R (Kd.int .i64) 3 w' w.heap.size (fun _ => True) v3 x3_1) ∧ Aside0 (Below w.heap.size w w'))
 case atStart => exact ⟨(yqa), (0), rs_, H', ⟨Nat.le_refl _⟩, ⟨ab HOqc⟩, ⟨aj HB⟩⟩
 clear H'; obtain ⟨x3_1, x4_1, rfl, HA, HK1, HO_3, HB⟩ := hrel; rcases gk with _ | k1
 ·exact absurd HA.out (by simp [ac.l0])
 have H := HA.out; clear HA; simp only [ac.l0] at H; replace H := ckD H; obtain ⟨c4b0, H⟩ | ⟨c4b0, H⟩ := H
 ·have H' := aQ H; clear H; go_wp2
  go_loopg [5] k1 (fun kq v5 w' => ∃ (x5_2 : Int), v5 = .int .i64 x5_2 ∧ Aside0 (ac.l1 kq l0 x3_1 x4_1 x5_2 = some r) ∧ Aside0 (kq ≤ k1) ∧ Aside0 (Kd.R (Kd.int .i64) 3 w' w.heap.size (fun _ => True) u3 x3_1) ∧ Aside0 (Below w.heap.size w w'))
  case atStart => exact ⟨(0), rs_, H', ⟨Nat.le_refl _⟩, ⟨ab HO_3⟩, ⟨aj HB⟩⟩
  clear H'; try clear c4
  try clear c4b0
  obtain ⟨x5_2, rfl, HA, HK2, HO_3, HB⟩ := hrel; rcases gk with _ | k2
  ·exact absurd HA.out (by simp [ac.l1])
  have H := HA.out; clear HA; simp only [ac.l1] at H; replace H := ckD H; obtain ⟨c5b0, H⟩ | ⟨c5b0, H⟩ := H
  ·replace H := gdD H; obtain ⟨c6b0, H⟩ := H; replace H := gdD H; obtain ⟨c7b0, H⟩ := H; replace H := gdD H; obtain ⟨c8b0, H⟩ := H; replace H := ckD H; obtain ⟨c9b0, H⟩ | ⟨c9b0, H⟩ := H
   ·have H' := aQ H; clear H; try go_wp2
    replace HO_3 := aQ (Kd.r7 HO_3.out); replace HB := aQ (aC HB.out); obtain ⟨Ao11, co11, eo11⟩ := Kd.n8 HO_3.out; (first | subst eo11 | (injection eo11 with f1_ f2_ f3_; have f4_ := f1_.symm; have f5_ := f3_.symm; clear f1_ f2_ f3_; subst f4_; subst f5_)); have pqd : 0 ≤ (x5_2 : Int) := of_decide_eq_true as_; have qqd : x5_2 < (x3_1.length : Int) := of_decide_eq_true as_; obtain ⟨adqd, eqd, hxqd_0⟩ := Kd.o0 (Kd.n5 HO_3.out).2.2 x5_2 pqd qqd; cases eqd; replace pqd := eq_true pqd; replace qqd := eq_true qqd; have pqe : 0 ≤ (x4_1 : Int) := of_decide_eq_true as_; have qqe : x4_1 < (l0.length : Int) := of_decide_eq_true as_; obtain ⟨adqe, eqe, hxqe_0⟩ := Kd.o0 HR0.out x4_1 pqe qqe; have hwqe_0 := hxqe_0; cases eqe; replace hxqe_0 := (HB.out.cell (World.block_lt_of_cell? w _ hxqe_0)).trans hxqe_0; replace pqe := eq_true pqe; replace qqe := eq_true qqe; refine cT (n := 15) (S := fun w' => w'.cell? (adqd.add (x5_2).toNat) = some (.int .i64 (rd x3_1 x5_2)) ∧ w'.cell? (adqe.add (x4_1).toNat) = some (.int .i64 (rd l0 x4_1))) (ds := []) _ (by kernel_rfl) rfl rfl ⟨hxqd_0, ((HB.out.cell (World.block_lt_of_cell? w _ hwqe_0)).trans hwqe_0)⟩ (fun hHeld => ?_); refine cA ac.tab6 ac.bits6 (fun HT_ HW_ => ?_); generalize wr.drew = w10 at HO_3 HB hxqd_0 hxqe_0 hHeld ⊢; refine pA 0 (some 14) HT_ ?_; refine pA 1 (some 15) HT_ ?_; refine pA 2 (some 16) HT_ ?_; refine pA 3 (some 17) HT_ ?_; refine pA 4 (some 18) HT_ ?_; refine pA 5 (some 19) HT_ ?_
    refine pA 6 (some 20) HT_ ?_; refine pA 7 (some 21) HT_ ?_; refine pA 9 (some 23) HT_ ?_; refine pA 10 (some 24) HT_ ?_; refine pA 11 (some 25) HT_ ?_; refine tA2 8 (some 22) HT_ HW_ hHeld ?_; refine tA2 12 (some 26) HT_ HW_ hHeld ?_; refine pA 13 (some 27) HT_ ?_; refine pA 14 (some 28) HT_ ?_; refine dq (dj HT_.out (by kernel_rfl)) ?_; try go_wp2
    go_roundg k2
    case measure => have := HK1.out; have := HK2.out; omega
    case rel => exact ⟨(wrap64 (x5_2 + 1)), rs_, H', ⟨by have := HK1.out; have := HK2.out; omega⟩, ⟨ab HO_3⟩, ⟨aj HB⟩⟩
   ·replace H := ckE H; obtain ⟨c12b0, c12b1, H⟩ | ⟨c12, c12b0, c12b1, H⟩ := H
    ·have H' := aQ H; clear H; try go_wp2
     replace HO_3 := aQ (Kd.r7 HO_3.out); replace HB := aQ (aC HB.out); obtain ⟨Ao14, co14, eo14⟩ := Kd.n8 HO_3.out; (first | subst eo14 | (injection eo14 with f1_ f2_ f3_; have f4_ := f1_.symm; have f5_ := f3_.symm; clear f1_ f2_ f3_; subst f4_; subst f5_)); have pqd : 0 ≤ (x5_2 : Int) := of_decide_eq_true as_; have qqd : x5_2 < (x3_1.length : Int) := of_decide_eq_true as_; obtain ⟨adqd, eqd, hxqd_0⟩ := Kd.o0 (Kd.n5 HO_3.out).2.2 x5_2 pqd qqd; cases eqd; replace pqd := eq_true pqd; replace qqd := eq_true qqd; have pqe : 0 ≤ (x4_1 : Int) := of_decide_eq_true as_; have qqe : x4_1 < (l0.length : Int) := of_decide_eq_true as_; obtain ⟨adqe, eqe, hxqe_0⟩ := Kd.o0 HR0.out x4_1 pqe qqe; have hwqe_0 := hxqe_0; cases eqe; replace hxqe_0 := (HB.out.cell (World.block_lt_of_cell? w _ hxqe_0)).trans hxqe_0; replace pqe := eq_true pqe; replace qqe := eq_true qqe; refine cT (n := 15) (S := fun w' => w'.cell? (adqd.add (x5_2).toNat) = some (.int .i64 (rd x3_1 x5_2)) ∧ w'.cell? (adqe.add (x4_1).toNat) = some (.int .i64 (rd l0 x4_1))) (ds := []) _ (by kernel_rfl) rfl rfl ⟨hxqd_0, ((HB.out.cell (World.block_lt_of_cell? w _ hwqe_0)).trans hwqe_0)⟩ (fun hHeld => ?_); refine cA ac.tab6 ac.bits6 (fun HT_ HW_ => ?_); generalize wr.drew = w13 at HO_3 HB hxqd_0 hxqe_0 hHeld ⊢; refine pA 0 (some 14) HT_ ?_; refine pA 1 (some 15) HT_ ?_; refine pA 2 (some 16) HT_ ?_; refine pA 3 (some 17) HT_ ?_; refine pA 4 (some 18) HT_ ?_; refine pA 5 (some 19) HT_ ?_
     refine pA 6 (some 20) HT_ ?_; refine pA 7 (some 21) HT_ ?_; refine pA 9 (some 23) HT_ ?_; refine pA 10 (some 24) HT_ ?_; refine pA 11 (some 25) HT_ ?_; refine tA2 8 (some 22) HT_ HW_ hHeld ?_; refine tA2 12 (some 26) HT_ HW_ hHeld ?_; refine pA 13 (some 27) HT_ ?_; refine pA 14 (some 28) HT_ ?_; refine dq (dj HT_.out (by kernel_rfl)) ?_; try go_wp2
     replace HO_3 := aQ (Kd.r7 HO_3.out); replace HB := aQ (aC HB.out); obtain ⟨adqf, eqf, hxqf_0, pqf, qqf⟩ := aI (Kd.n5 HO_3.out).2.2 x5_2; obtain rfl : adqd = adqf := (by injection eqf); obtain ⟨adqg, eqg, hxqg_0, pqg, qqg⟩ := aI HR0.out x4_1; have hwqg_0 := hxqg_0; obtain rfl : adqe = adqg := (by injection eqg); replace hxqg_0 := (HB.out.cell (World.block_lt_of_cell? w _ hxqg_0)).trans hxqg_0; refine cT (n := 15) (S := fun w' => w'.cell? (adqd.add (x5_2).toNat) = some (.int .i64 (rd x3_1 x5_2)) ∧ w'.cell? (adqe.add (x4_1).toNat) = some (.int .i64 (rd l0 x4_1))) (ds := []) _ (by kernel_rfl) rfl rfl ⟨hxqf_0, ((HB.out.cell (World.block_lt_of_cell? w _ hwqg_0)).trans hwqg_0)⟩ (fun hHeld => ?_); refine cA ac.tab8 ac.bits8 (fun HT_ HW_ => ?_); generalize w13.drew = w15 at HO_3 HB hxqf_0 hxqg_0 hHeld ⊢; refine pA 0 (some 31) HT_ ?_; refine pA 1 (some 32) HT_ ?_; refine pA 2 (some 33) HT_ ?_; refine pA 3 (some 34) HT_ ?_; refine pA 4 (some 35) HT_ ?_; refine pA 5 (some 36) HT_ ?_; refine pA 6 (some 37) HT_ ?_; refine pA 7 (some 38) HT_ ?_; refine pA 9 (some 40) HT_ ?_; refine pA 10 (some 41) HT_ ?_; refine pA 11 (some 42) HT_ ?_; refine tA2 8 (some 39) HT_ HW_ hHeld ?_; refine tA2 12 (some 43) HT_ HW_ hHeld ?_; refine pA 13 (some 44) HT_ ?_; refine pA 14 (some 45) HT_ ?_; refine dq (dj HT_.out (by kernel_rfl)) ?_; try go_wp2
     go_roundg k2
     case measure => have := HK1.out; have := HK2.out; omega
     case rel => exact ⟨(x3_1), (wrap64 (x4_1 + 1)), rs_, H', ⟨by have := HK1.out; have := HK2.out; omega⟩, ⟨ab HO_3⟩, ⟨aj HB⟩⟩
    ·obtain ⟨yq0, hyq0⟩ : ∃ y_ : List Int, y_ = (([] : List Int)) := ⟨_, rfl⟩; replace H : (if x5_2 ≤ (x3_1.length : Int) then ((some (x3_1.drop (x5_2 : Int).toNat : List Int)).bind fun yq1 => (if yq0.length + yq1.length < 17592186044416 then ((some (yq0 ++ yq1 : List Int)).bind fun yq2 => ((some (x3_1.take (x5_2 : Int).toNat : List Int)).bind fun yq3 => (if yq3.length < 17592186044416 then ((some (yq3 ++ [rd l0 x4_1] : List Int)).bind fun yq4 => (if yq4.length + yq2.length < 17592186044416 then (ac.l0 k2 l0 (yq4 ++ yq2) (wrap64 (x4_1 + 1))) else (none))) else (none)))) else (none))) else (none)) = some r := by first | (rw [hyq0]; with_reducible exact H) | (rw [hyq0]; exact H)
     have Nyq0 := aQ hyq0; clear hyq0; have c16b0 := eq_true (of_decide_eq_true as_ : 0 ≤ x5_2); replace H := gdB H; obtain ⟨c17b0, c17b1, H⟩ := H; obtain ⟨yq1, hyq1⟩ : ∃ y_ : List Int, y_ = (x3_1.drop (x5_2 : Int).toNat) := ⟨_, rfl⟩; replace H : (if yq0.length + yq1.length < 17592186044416 then ((some (yq0 ++ yq1 : List Int)).bind fun yq2 => ((some (x3_1.take (x5_2 : Int).toNat : List Int)).bind fun yq3 => (if yq3.length < 17592186044416 then ((some (yq3 ++ [rd l0 x4_1] : List Int)).bind fun yq4 => (if yq4.length + yq2.length < 17592186044416 then (ac.l0 k2 l0 (yq4 ++ yq2) (wrap64 (x4_1 + 1))) else (none))) else (none)))) else (none)) = some r := by first | (rw [hyq1]; with_reducible exact H) | (rw [hyq1]; exact H)
     have Nyq1 := aQ hyq1; clear hyq1; replace H := gdA H; obtain ⟨LMc18, H⟩ := H; obtain ⟨yq2, hyq2⟩ : ∃ y_ : List Int, y_ = (yq0 ++ yq1) := ⟨_, rfl⟩; replace H : ((some (x3_1.take (x5_2 : Int).toNat : List Int)).bind fun yq3 => (if yq3.length < 17592186044416 then ((some (yq3 ++ [rd l0 x4_1] : List Int)).bind fun yq4 => (if yq4.length + yq2.length < 17592186044416 then (ac.l0 k2 l0 (yq4 ++ yq2) (wrap64 (x4_1 + 1))) else (none))) else (none))) = some r := by first | (rw [hyq2]; with_reducible exact H) | (rw [hyq2]; exact H)
     have Nyq2 := aQ hyq2; clear hyq2; have c19b0 := eq_true (of_decide_eq_true as_ : x5_2 ≤ (x3_1.length : Int)); replace H := yz H; obtain ⟨yq3, Nyq3, H⟩ := H; (try dsimp only at H); replace H := gdA H; obtain ⟨LMc20, H⟩ := H; obtain ⟨yq4, hyq4⟩ : ∃ y_ : List Int, y_ = (yq3 ++ [rd l0 x4_1]) := ⟨_, rfl⟩; replace H : (if yq4.length + yq2.length < 17592186044416 then (ac.l0 k2 l0 (yq4 ++ yq2) (wrap64 (x4_1 + 1))) else (none)) = some r := by first | (rw [hyq4]; with_reducible exact H) | (rw [hyq4]; exact H)
     have Nyq4 := aQ hyq4; clear hyq4; replace H := gdA H; obtain ⟨LMc21, H⟩ := H; obtain ⟨yqh, hyqh⟩ : ∃ y_ : List Int, y_ = (yq4 ++ yq2) := ⟨_, rfl⟩; replace H : (ac.l0 k2 l0 yqh (wrap64 (x4_1 + 1))) = some r := by first | (rw [hyqh]; with_reducible exact H) | (rw [hyqh]; exact H)
     have Nyqh := aQ hyqh; clear hyqh; have H' := aQ H; clear H; try go_wp2
     replace HO_3 := aQ (Kd.r7 HO_3.out); replace HB := aQ (aC HB.out); obtain ⟨Ao23, co23, eo23⟩ := Kd.n8 HO_3.out; (first | subst eo23 | (injection eo23 with f1_ f2_ f3_; have f4_ := f1_.symm; have f5_ := f3_.symm; clear f1_ f2_ f3_; subst f4_; subst f5_)); have pqd : 0 ≤ (x5_2 : Int) := of_decide_eq_true as_; have qqd : x5_2 < (x3_1.length : Int) := of_decide_eq_true as_; obtain ⟨adqd, eqd, hxqd_0⟩ := Kd.o0 (Kd.n5 HO_3.out).2.2 x5_2 pqd qqd; cases eqd; replace pqd := eq_true pqd; replace qqd := eq_true qqd; have pqe : 0 ≤ (x4_1 : Int) := of_decide_eq_true as_; have qqe : x4_1 < (l0.length : Int) := of_decide_eq_true as_; obtain ⟨adqe, eqe, hxqe_0⟩ := Kd.o0 HR0.out x4_1 pqe qqe; have hwqe_0 := hxqe_0; cases eqe; replace hxqe_0 := (HB.out.cell (World.block_lt_of_cell? w _ hxqe_0)).trans hxqe_0; replace pqe := eq_true pqe; replace qqe := eq_true qqe; refine cT (n := 15) (S := fun w' => w'.cell? (adqd.add (x5_2).toNat) = some (.int .i64 (rd x3_1 x5_2)) ∧ w'.cell? (adqe.add (x4_1).toNat) = some (.int .i64 (rd l0 x4_1))) (ds := []) _ (by kernel_rfl) rfl rfl ⟨hxqd_0, ((HB.out.cell (World.block_lt_of_cell? w _ hwqe_0)).trans hwqe_0)⟩ (fun hHeld => ?_); refine cA ac.tab6 ac.bits6 (fun HT_ HW_ => ?_); generalize wr.drew = w22 at HO_3 HB hxqd_0 hxqe_0 hHeld ⊢; refine pA 0 (some 14) HT_ ?_; refine pA 1 (some 15) HT_ ?_; refine pA 2 (some 16) HT_ ?_; refine pA 3 (some 17) HT_ ?_; refine pA 4 (some 18) HT_ ?_; refine pA 5 (some 19) HT_ ?_
     refine pA 6 (some 20) HT_ ?_; refine pA 7 (some 21) HT_ ?_; refine pA 9 (some 23) HT_ ?_; refine pA 10 (some 24) HT_ ?_; refine pA 11 (some 25) HT_ ?_; refine tA2 8 (some 22) HT_ HW_ hHeld ?_; refine tA2 12 (some 26) HT_ HW_ hHeld ?_; refine pA 13 (some 27) HT_ ?_; refine pA 14 (some 28) HT_ ?_; refine dq (dj HT_.out (by kernel_rfl)) ?_; try go_wp2
     replace HO_3 := aQ (Kd.r7 HO_3.out); replace HB := aQ (aC HB.out); obtain ⟨adqf, eqf, hxqf_0, pqf, qqf⟩ := aI (Kd.n5 HO_3.out).2.2 x5_2; obtain rfl : adqd = adqf := (by injection eqf); obtain ⟨adqg, eqg, hxqg_0, pqg, qqg⟩ := aI HR0.out x4_1; have hwqg_0 := hxqg_0; obtain rfl : adqe = adqg := (by injection eqg); replace hxqg_0 := (HB.out.cell (World.block_lt_of_cell? w _ hxqg_0)).trans hxqg_0; refine cT (n := 15) (S := fun w' => w'.cell? (adqd.add (x5_2).toNat) = some (.int .i64 (rd x3_1 x5_2)) ∧ w'.cell? (adqe.add (x4_1).toNat) = some (.int .i64 (rd l0 x4_1))) (ds := []) _ (by kernel_rfl) rfl rfl ⟨hxqf_0, ((HB.out.cell (World.block_lt_of_cell? w _ hwqg_0)).trans hwqg_0)⟩ (fun hHeld => ?_); refine cA ac.tab8 ac.bits8 (fun HT_ HW_ => ?_); generalize w22.drew = w24 at HO_3 HB hxqf_0 hxqg_0 hHeld ⊢; refine pA 0 (some 31) HT_ ?_; refine pA 1 (some 32) HT_ ?_; refine pA 2 (some 33) HT_ ?_; refine pA 3 (some 34) HT_ ?_; refine pA 4 (some 35) HT_ ?_; refine pA 5 (some 36) HT_ ?_; refine pA 6 (some 37) HT_ ?_; refine pA 7 (some 38) HT_ ?_; refine pA 9 (some 40) HT_ ?_; refine pA 10 (some 41) HT_ ?_; refine pA 11 (some 42) HT_ ?_; refine tA2 8 (some 39) HT_ HW_ hHeld ?_; refine tA2 12 (some 43) HT_ HW_ hHeld ?_; refine pA 13 (some 44) HT_ ?_; refine pA 14 (some 45) HT_ ?_; refine dq (dj HT_.out (by kernel_rfl)) ?_; try go_wp2_with (first | (refine lI (d := Kd.int .i64) 46 Nyq0 ?_; intro vqi w25 ho26 hb; have HOqj := aQ (Kd.n6 (Kd.q8 ho26 (Kd.r6 (ab HO_3))) (aa (aj HB))); replace HO_3 := aQ (Kd.o8 (ab HO_3) (Kd.p8 ho26) hb); replace HB := bs HB hb; clear hb ho26; have q27 : (x5_2 : Int) ≤ ((x3_1.length : Int) : Int) := of_decide_eq_true as_; obtain ⟨i027, hi027, _, hsz27, _⟩ := info_parts cv; have hroom27 : x3_1.length ≤ co23 := (Kd.n5 HO_3.out).2.1; have hC27 : Kd.C (Kd.int .i64) _ (some adqd) x3_1.length x3_1 := (Kd.n5 HO_3.out).2.2; have q027 : (0 : Int) ≤ (x5_2 : Int) := of_decide_eq_true as_; have hcut27 := iM (P := Tryz.prog) 24 3 .i64 underlying24 hi027 1 hsz27 (some adqd) x3_1.length co23 x5_2 q027 q27; have hr27 := Kd.C3 (m := (x5_2 : Int).toNat) (c := co23) hC27 (by omega) hroom27; obtain ⟨A27, hA27⟩ : ∃ A1, A1 = (if co23 = (x5_2 : Int).toNat then (some adqd) else ((some adqd) : Option Addr).map (·.add ((x5_2 : Int).toNat * 1))) := ⟨_, rfl⟩; obtain ⟨c27, hc27⟩ : ∃ c1, c1 = co23 - (x5_2 : Int).toNat := ⟨_, rfl⟩; have hy27 : yq1.length = x3_1.length - (x5_2 : Int).toNat := (by rw [Nyq1.out, List.length_drop] <;> omega); rw [show (x3_1).drop (x5_2 : Int).toNat = yq1 from Nyq1.out.symm] at hr27; replace hr27 : Kd.C (Kd.int .i64) _ A27 yq1.length yq1 := (by rw [hA27]; exact hr27); rw [← hy27, ← hA27, ← hc27] at hcut27; have HRqk := aQ hr27; have HCqk := aQ (show yq1.length ≤ c27 from by rw [hy27, hc27]; exact Nat.sub_le_sub_right hroom27 _); clear hr27 hC27 hroom27 hi027 hsz27 hc27; have KY27 := aQ hy27; have KA27 := aQ hA27; clear hy27 hA27; have KL27 := aQ (show (x5_2 : Int).toNat ≤ x3_1.length from by omega); replace q27 := eq_true q27) | ((with_reducible refine gate_builtin (b := .append) (xs := #[.tmp 46, .tmp 49]) rfl ?_); at_builtin; refine Kd.B9 (Kd.int .i64) (w0 := w) w.heap.size rfl (.tmp 46) (.tmp 49) 24 3 (.int .i64 0) 8 rfl underlying24 cv rfl (by decide) (by omega) vqi yq0 yq1 _ _ _ (fun k_ => some k_ ≠ (.slice (some adqd) x3_1.length co23 : Value).ownBlock) (fun _ => False) rfl rfl ?aO ?aR (fun _ _ h => h) (fun _ h => h.elim) ?aF ?aB ?aS ?aL ?_; (case aR => repeat (first | exact (by repeat (first | (with_reducible exact HRqk.out) | (with_reducible refine Kd.y9 ?_ _) | (with_reducible refine Kd.y8 ?_ _) | (with_reducible refine Kd.z6 ?_) | exact HRqk.out)) | (with_reducible refine Kd.y9 ?_ _) | (with_reducible refine Kd.y8 ?_ _) | (with_reducible refine Kd.z6 ?_))); (case aB => exact (aj HB)); (case aF => exact (fun k_ hk => Kd.u9 (Kd.r6 (ab HO_3)) k_ hk)); (case aO => exact (by refine pRx ?_; exact Kd.n7 HOqj.out (fun _ hk => hk.2))); (case aS => exact (aa (aj HB))); (case aL => have := LMc18.out; omega); intro vql w28 ho hb hg hat; rw [← Nyq2.out] at ho; replace HB := aQ (hb); replace HRqk := aQ ((show Kd.C (Kd.int .i64) w28 A27 yq1.length yq1 from by rw [Nyq1.out, KA27.out]; exact Kd.C3 (m := (x5_2 : Int).toNat) (c := co23) ((Kd.n5 (Kd.q5 (ok := (fun _ => True)) (ab HO_3) hg hat)).2.2) KL27.out ((Kd.n5 (Kd.q5 (ok := (fun _ => True)) (ab HO_3) hg hat)).2.1))); replace HO_3 := aQ (Kd.q5 (ok := (fun _ => True)) (ab HO_3) hg hat); have HOqm := aQ (ho); clear HOqj; clear ho hb hg hat))
     replace HO_3 := aQ (Kd.r7 HO_3.out); replace HOqm := aQ (Kd.r7 HOqm.out); replace HRqk := aQ (Kd.z6 HRqk.out); replace HB := aQ (aC HB.out); have q30 : (x5_2 : Int) ≤ ((x3_1.length : Int) : Int) := of_decide_eq_true as_; obtain ⟨i030, hi030, _, hsz30, _⟩ := info_parts cv; have hcut30 := ka (P := Tryz.prog) 24 3 .i64 underlying24 hi030 (some adqd) x3_1.length co23 x5_2 (of_decide_eq_true as_) q30 (Kd.n5 HO_3.out).2.1; have hr30 := Kd.E4 (m := (x5_2 : Int).toNat) HO_3.out (by omega); have hy30 : yq3.length = (x5_2 : Int).toNat := (by rw [Nyq3.out, List.length_take]; omega); rw [← Nyq3.out] at hr30; rw [← hy30] at hr30 hcut30; clear hy30 hi030 hsz30 HO_3; have HOqn := aQ hr30; clear hr30; replace q30 := eq_true q30; obtain ⟨adqo, eqo, hxqo_0, pqo, qqo⟩ := aI HR0.out x4_1; have hwqo_0 := hxqo_0; obtain rfl : adqe = adqo := (by injection eqo); replace hxqo_0 := (HB.out.cell (World.block_lt_of_cell? w _ hxqo_0)).trans hxqo_0; refine cT (n := 12) (S := fun w' => w'.cell? (adqe.add (x4_1).toNat) = some (.int .i64 (rd l0 x4_1))) (ds := []) _ (by kernel_rfl) rfl rfl (((HB.out.cell (World.block_lt_of_cell? w _ hwqo_0)).trans hwqo_0)) (fun hHeld => ?_); refine cA ac.tab10 ac.bits10 (fun HT_ HW_ => ?_); generalize w28.drew = w29 at HO_3 HOqm HRqk HB HOqn hxqo_0 hHeld ⊢; refine pA 0 (some 51) HT_ ?_; refine pA 1 (some 52) HT_ ?_; refine pA 2 (some 53) HT_ ?_; refine pA 3 (some 54) HT_ ?_; refine pA 4 (some 55) HT_ ?_
     refine pA 5 (some 56) HT_ ?_; refine pA 9 (some 60) HT_ ?_; refine tA1 6 (some 57) HT_ HW_ hHeld ?_; refine onA (i := 7) (N := some 58) HT_ (h := fun K hK => ?_); refine lD (w1 := ?_) (v := ?_) (by rfl) rfl ?_ ?_
     rotate_left 2
     ·go_simp
      constructor
      ·rfl
      ·rfl
     refine hK.out _ _ ((World.cell?_alloc_lt _ _ _ (World.block_lt_of_cell? _ _ (((HB.out.cell (World.block_lt_of_cell? w _ hwqo_0)).trans hwqo_0)))).trans (((HB.out.cell (World.block_lt_of_cell? w _ hwqo_0)).trans hwqo_0))) (fun hHeld => ?_); clear hK K; refine noN (some 58) (h := ?_); refine onA (i := 8) (N := some 59) HT_ (h := fun K hK => ?_); refine Kd.C1 (Kd.int .i64) (w0 := w) w.heap.size (by rfl) (.tmp 53) (.tmp 58) 24 3 (.int .i64 0) 8 rfl underlying24 cv rfl (by decide) (by omega) (.slice (some adqd) yq3.length co23) yq3 (rd l0 x4_1) [.int .i64 (rd l0 x4_1)] (fun k_ => some k_ ≠ (vql : Value).ownBlock) (fun _ => False) rfl rfl ?aP (fun _ hk => hk.elim) ?aF ?aO ?aB ?aS ?aL ?_; (case aP => exact rfl); (case aB => exact (aj HB)); (case aF => exact (fun k_ hk => Kd.u9 (Kd.r6 (ab HOqm)) k_ hk)); (case aO => exact (by refine pRx ?_; exact Kd.n7 HOqn.out (fun _ hk => hk.2))); (case aS => exact (aa (aj HB))); (case aL => have := LMc20.out; omega); intro vqp w31 ho hb hg hat; rw [← Nyq4.out] at ho; replace HOqm := aQ (Kd.q5 (ok := (fun _ => True)) (by refine pRx ?_; exact Kd.n7 HOqm.out (fun _ hk => ⟨trivial, by first | exact hk | exact fun h_ => hk (h_.trans (m9 _ _ _ _))⟩)) hg hat); replace HB := aQ (hb); have HOqq := aQ (ho); clear HOqn; clear ho hb hg hat; obtain ⟨Ao33, co33, eo33⟩ := Kd.n8 HOqm.out; (first | subst eo33 | (injection eo33 with f1_ f2_ f3_; have f4_ := f1_.symm; have f5_ := f3_.symm; clear f1_ f2_ f3_; subst f4_; subst f5_))
     refine hK.out _ _ (((HB.out.cell (World.block_lt_of_cell? w _ hwqo_0)).trans hwqo_0)) (fun hHeld => ?_); clear hK K; refine noN (some 59) (h := ?_); refine onA (i := 10) (N := some 61) HT_ (h := fun K hK => ?_); refine Kd.p5 (Kd.int .i64) (w0 := w) w.heap.size (by rfl) (.tmp 59) (.tmp 60) 24 3 (.int .i64 0) 8 rfl underlying24 cv rfl (by decide) (by omega) vqp yq4 yq2 _ _ _ (fun k_ => some k_ ≠ (.slice Ao33 yq2.length co33 : Value).ownBlock) (fun _ => False) rfl rfl ?aO ?aR (fun _ _ h => h) (fun _ h => h.elim) ?aF ?aB ?aS ?aL ?_; (case aR => exact pC ((Kd.n5 HOqm.out).2.2)); (case aB => exact (aj HB)); (case aF => exact (fun k_ hk => Kd.u9 (Kd.r6 (ab HOqm)) k_ hk)); (case aO => exact (ab HOqq)); (case aS => exact (aa (aj HB))); (case aL => have := LMc21.out; omega); intro vqr w32 ho hb hg hat; rw [← Nyqh.out] at ho; replace HOqm := aQ (Kd.q5 (ok := (fun _ => True)) (ab HOqm) hg hat); replace HB := aQ (hb); have HOqs := aQ (ho); clear HOqq; clear ho hb hg hat; refine hK.out _ _ (((HB.out.cell (World.block_lt_of_cell? w _ hwqo_0)).trans hwqo_0)) (fun hHeld => ?_); clear hK K; refine noN (some 61) (h := ?_); refine pA 11 (some 3) HT_ ?_; refine dq (dj HT_.out (by kernel_rfl)) ?_; try go_wp2
     go_roundg k2
     case measure => have := HK1.out; have := HK2.out; omega
     case rel => exact ⟨(yqh), (wrap64 (x4_1 + 1)), rs_, H', ⟨by have := HK1.out; have := HK2.out; omega⟩, ⟨by refine pRx ?_; exact Kd.n7 HOqs.out (fun _ hk => trivial)⟩, ⟨aj HB⟩⟩
  ·obtain ⟨yq5, hyq5⟩ : ∃ y_ : List Int, y_ = (([] : List Int)) := ⟨_, rfl⟩; replace H : (if 0 ≤ x5_2 then (if x5_2 ≤ (x3_1.length : Int) then ((some (x3_1.drop (x5_2 : Int).toNat : List Int)).bind fun yq6 => (if yq5.length + yq6.length < 17592186044416 then ((some (yq5 ++ yq6 : List Int)).bind fun yq7 => ((some (x3_1.take (x5_2 : Int).toNat : List Int)).bind fun yq8 => (if 0 ≤ x4_1 then (if x4_1 < (l0.length : Int) then (if yq8.length < 17592186044416 then ((some (yq8 ++ [rd l0 x4_1] : List Int)).bind fun yq9 => (if yq9.length + yq7.length < 17592186044416 then (ac.l0 k2 l0 (yq9 ++ yq7) (wrap64 (x4_1 + 1))) else (none))) else (none)) else (none)) else (none)))) else (none))) else (none)) else (none)) = some r := by first | (rw [hyq5]; with_reducible exact H) | (rw [hyq5]; exact H)
   have Nyq5 := aQ hyq5; clear hyq5; replace H := gdB H; obtain ⟨c34b0, c34b1, H⟩ := H; replace H := gdB H; obtain ⟨c35b0, c35b1, H⟩ := H; obtain ⟨yq6, hyq6⟩ : ∃ y_ : List Int, y_ = (x3_1.drop (x5_2 : Int).toNat) := ⟨_, rfl⟩; replace H : (if yq5.length + yq6.length < 17592186044416 then ((some (yq5 ++ yq6 : List Int)).bind fun yq7 => ((some (x3_1.take (x5_2 : Int).toNat : List Int)).bind fun yq8 => (if 0 ≤ x4_1 then (if x4_1 < (l0.length : Int) then (if yq8.length < 17592186044416 then ((some (yq8 ++ [rd l0 x4_1] : List Int)).bind fun yq9 => (if yq9.length + yq7.length < 17592186044416 then (ac.l0 k2 l0 (yq9 ++ yq7) (wrap64 (x4_1 + 1))) else (none))) else (none)) else (none)) else (none)))) else (none)) = some r := by first | (rw [hyq6]; with_reducible exact H) | (rw [hyq6]; exact H)
   have Nyq6 := aQ hyq6; clear hyq6; replace H := gdA H; obtain ⟨LMc36, H⟩ := H; obtain ⟨yq7, hyq7⟩ : ∃ y_ : List Int, y_ = (yq5 ++ yq6) := ⟨_, rfl⟩; replace H : ((some (x3_1.take (x5_2 : Int).toNat : List Int)).bind fun yq8 => (if 0 ≤ x4_1 then (if x4_1 < (l0.length : Int) then (if yq8.length < 17592186044416 then ((some (yq8 ++ [rd l0 x4_1] : List Int)).bind fun yq9 => (if yq9.length + yq7.length < 17592186044416 then (ac.l0 k2 l0 (yq9 ++ yq7) (wrap64 (x4_1 + 1))) else (none))) else (none)) else (none)) else (none))) = some r := by first | (rw [hyq7]; with_reducible exact H) | (rw [hyq7]; exact H)
   have Nyq7 := aQ hyq7; clear hyq7; have c37b0 := eq_true (of_decide_eq_true as_ : x5_2 ≤ (x3_1.length : Int)); replace H := yz H; obtain ⟨yq8, Nyq8, H⟩ := H; (try dsimp only at H); replace H := gdD H; obtain ⟨c38b0, H⟩ := H; replace H := gdD H; obtain ⟨c39b0, H⟩ := H; replace H := gdA H; obtain ⟨LMc40, H⟩ := H; obtain ⟨yq9, hyq9⟩ : ∃ y_ : List Int, y_ = (yq8 ++ [rd l0 x4_1]) := ⟨_, rfl⟩; replace H : (if yq9.length + yq7.length < 17592186044416 then (ac.l0 k2 l0 (yq9 ++ yq7) (wrap64 (x4_1 + 1))) else (none)) = some r := by first | (rw [hyq9]; with_reducible exact H) | (rw [hyq9]; exact H)
   have Nyq9 := aQ hyq9; clear hyq9; replace H := gdA H; obtain ⟨LMc41, H⟩ := H; obtain ⟨yqt, hyqt⟩ : ∃ y_ : List Int, y_ = (yq9 ++ yq7) := ⟨_, rfl⟩; replace H : (ac.l0 k2 l0 yqt (wrap64 (x4_1 + 1))) = some r := by first | (rw [hyqt]; with_reducible exact H) | (rw [hyqt]; exact H)
   have Nyqt := aQ hyqt; clear hyqt; have H' := aQ H; clear H; try go_wp2
   replace HO_3 := aQ (Kd.r7 HO_3.out); replace HB := aQ (aC HB.out); obtain ⟨Ao43, co43, eo43⟩ := Kd.n8 HO_3.out; (first | subst eo43 | (injection eo43 with f1_ f2_ f3_; have f4_ := f1_.symm; have f5_ := f3_.symm; clear f1_ f2_ f3_; subst f4_; subst f5_)); refine cT (n := 15) (S := fun w' => True) (ds := []) _ (by kernel_rfl) rfl rfl trivial (fun hHeld => ?_); refine cA ac.tab6 ac.bits6 (fun HT_ HW_ => ?_); generalize wr.drew = w42 at HO_3 HB hHeld ⊢; refine pA 0 (some 14) HT_ ?_; refine pA 1 (some 15) HT_ ?_; refine pA 2 (some 16) HT_ ?_; refine pA 3 (some 17) HT_ ?_; refine pA 4 (some 18) HT_ ?_; refine pU 5 (some 19) HT_ ?_; refine pU 6 (some 20) HT_ ?_; refine pU 7 (some 21) HT_ ?_; refine pU 8 (some 22) HT_ ?_; refine pU 9 (some 23) HT_ ?_; refine pU 10 (some 24) HT_ ?_; refine pU 11 (some 25) HT_ ?_; refine pU 12 (some 26) HT_ ?_; refine pU 13 (some 27) HT_ ?_; refine pA 14 (some 28) HT_ ?_; refine dq (dj HT_.out (by kernel_rfl)) ?_; try go_wp2
   replace HO_3 := aQ (Kd.r7 HO_3.out); replace HB := aQ (aC HB.out); refine cT (n := 15) (S := fun w' => True) (ds := []) _ (by kernel_rfl) rfl rfl trivial (fun hHeld => ?_); refine cA ac.tab8 ac.bits8 (fun HT_ HW_ => ?_); generalize w42.drew = w44 at HO_3 HB hHeld ⊢; refine pA 0 (some 31) HT_ ?_; refine pA 1 (some 32) HT_ ?_; refine pA 2 (some 33) HT_ ?_; refine pA 3 (some 34) HT_ ?_; refine pA 4 (some 35) HT_ ?_; refine pU 5 (some 36) HT_ ?_; refine pU 6 (some 37) HT_ ?_; refine pU 7 (some 38) HT_ ?_; refine pU 8 (some 39) HT_ ?_; refine pU 9 (some 40) HT_ ?_; refine pU 10 (some 41) HT_ ?_; refine pU 11 (some 42) HT_ ?_; refine pU 12 (some 43) HT_ ?_; refine pU 13 (some 44) HT_ ?_; refine pA 14 (some 45) HT_ ?_; refine dq (dj HT_.out (by kernel_rfl)) ?_; try go_wp2_with (first | (refine lI (d := Kd.int .i64) 46 Nyq5 ?_; intro vqu w45 ho46 hb; have HOqv := aQ (Kd.n6 (Kd.q8 ho46 (Kd.r6 (ab HO_3))) (aa (aj HB))); replace HO_3 := aQ (Kd.o8 (ab HO_3) (Kd.p8 ho46) hb); replace HB := bs HB hb; clear hb ho46; have q47 : (x5_2 : Int) ≤ ((x3_1.length : Int) : Int) := of_decide_eq_true as_; obtain ⟨i047, hi047, _, hsz47, _⟩ := info_parts cv; have hroom47 : x3_1.length ≤ co43 := (Kd.n5 HO_3.out).2.1; have hC47 : Kd.C (Kd.int .i64) _ Ao43 x3_1.length x3_1 := (Kd.n5 HO_3.out).2.2; have q047 : (0 : Int) ≤ (x5_2 : Int) := of_decide_eq_true as_; have hcut47 := iM (P := Tryz.prog) 24 3 .i64 underlying24 hi047 1 hsz47 Ao43 x3_1.length co43 x5_2 q047 q47; have hr47 := Kd.C3 (m := (x5_2 : Int).toNat) (c := co43) hC47 (by omega) hroom47; obtain ⟨A47, hA47⟩ : ∃ A1, A1 = (if co43 = (x5_2 : Int).toNat then Ao43 else (Ao43 : Option Addr).map (·.add ((x5_2 : Int).toNat * 1))) := ⟨_, rfl⟩; obtain ⟨c47, hc47⟩ : ∃ c1, c1 = co43 - (x5_2 : Int).toNat := ⟨_, rfl⟩; have hy47 : yq6.length = x3_1.length - (x5_2 : Int).toNat := (by rw [Nyq6.out, List.length_drop] <;> omega); rw [show (x3_1).drop (x5_2 : Int).toNat = yq6 from Nyq6.out.symm] at hr47; replace hr47 : Kd.C (Kd.int .i64) _ A47 yq6.length yq6 := (by rw [hA47]; exact hr47); rw [← hy47, ← hA47, ← hc47] at hcut47; have HRqw := aQ hr47; have HCqw := aQ (show yq6.length ≤ c47 from by rw [hy47, hc47]; exact Nat.sub_le_sub_right hroom47 _); clear hr47 hC47 hroom47 hi047 hsz47 hc47; have KY47 := aQ hy47; have KA47 := aQ hA47; clear hy47 hA47; have KL47 := aQ (show (x5_2 : Int).toNat ≤ x3_1.length from by omega); replace q47 := eq_true q47) | ((with_reducible refine gate_builtin (b := .append) (xs := #[.tmp 46, .tmp 49]) rfl ?_); at_builtin; refine Kd.B9 (Kd.int .i64) (w0 := w) w.heap.size rfl (.tmp 46) (.tmp 49) 24 3 (.int .i64 0) 8 rfl underlying24 cv rfl (by decide) (by omega) vqu yq5 yq6 _ _ _ (fun k_ => some k_ ≠ (.slice Ao43 x3_1.length co43 : Value).ownBlock) (fun _ => False) rfl rfl ?aO ?aR (fun _ _ h => h) (fun _ h => h.elim) ?aF ?aB ?aS ?aL ?_; (case aR => repeat (first | exact (by repeat (first | (with_reducible exact HRqw.out) | (with_reducible refine Kd.y9 ?_ _) | (with_reducible refine Kd.y8 ?_ _) | (with_reducible refine Kd.z6 ?_) | exact HRqw.out)) | (with_reducible refine Kd.y9 ?_ _) | (with_reducible refine Kd.y8 ?_ _) | (with_reducible refine Kd.z6 ?_))); (case aB => exact (aj HB)); (case aF => exact (fun k_ hk => Kd.u9 (Kd.r6 (ab HO_3)) k_ hk)); (case aO => exact (by refine pRx ?_; exact Kd.n7 HOqv.out (fun _ hk => hk.2))); (case aS => exact (aa (aj HB))); (case aL => have := LMc36.out; omega); intro vqx w48 ho hb hg hat; rw [← Nyq7.out] at ho; replace HB := aQ (hb); replace HRqw := aQ ((show Kd.C (Kd.int .i64) w48 A47 yq6.length yq6 from by rw [Nyq6.out, KA47.out]; exact Kd.C3 (m := (x5_2 : Int).toNat) (c := co43) ((Kd.n5 (Kd.q5 (ok := (fun _ => True)) (ab HO_3) hg hat)).2.2) KL47.out ((Kd.n5 (Kd.q5 (ok := (fun _ => True)) (ab HO_3) hg hat)).2.1))); replace HO_3 := aQ (Kd.q5 (ok := (fun _ => True)) (ab HO_3) hg hat); have HOqy := aQ (ho); clear HOqv; clear ho hb hg hat))
   replace HO_3 := aQ (Kd.r7 HO_3.out); replace HOqy := aQ (Kd.r7 HOqy.out); replace HRqw := aQ (Kd.z6 HRqw.out); replace HB := aQ (aC HB.out); have q50 : (x5_2 : Int) ≤ ((x3_1.length : Int) : Int) := of_decide_eq_true as_; obtain ⟨i050, hi050, _, hsz50, _⟩ := info_parts cv; have hcut50 := ka (P := Tryz.prog) 24 3 .i64 underlying24 hi050 Ao43 x3_1.length co43 x5_2 (of_decide_eq_true as_) q50 (Kd.n5 HO_3.out).2.1; have hr50 := Kd.E4 (m := (x5_2 : Int).toNat) HO_3.out (by omega); have hy50 : yq8.length = (x5_2 : Int).toNat := (by rw [Nyq8.out, List.length_take]; omega); rw [← Nyq8.out] at hr50; rw [← hy50] at hr50 hcut50; clear hy50 hi050 hsz50 HO_3; have HOqz := aQ hr50; clear hr50; replace q50 := eq_true q50; have pq10 : 0 ≤ (x4_1 : Int) := of_decide_eq_true as_; have qq10 : x4_1 < (l0.length : Int) := of_decide_eq_true as_; obtain ⟨adq10, eq10, hxq10_0⟩ := Kd.o0 HR0.out x4_1 pq10 qq10; have hwq10_0 := hxq10_0; cases eq10; replace hxq10_0 := (HB.out.cell (World.block_lt_of_cell? w _ hxq10_0)).trans hxq10_0; replace pq10 := eq_true pq10; replace qq10 := eq_true qq10; refine cT (n := 12) (S := fun w' => w'.cell? (adq10.add (x4_1).toNat) = some (.int .i64 (rd l0 x4_1))) (ds := []) _ (by kernel_rfl) rfl rfl (((HB.out.cell (World.block_lt_of_cell? w _ hwq10_0)).trans hwq10_0)) (fun hHeld => ?_); refine cA ac.tab10 ac.bits10 (fun HT_ HW_ => ?_); generalize w48.drew = w49 at HO_3 HOqy HRqw HB HOqz hxq10_0 hHeld ⊢
   refine pA 0 (some 51) HT_ ?_; refine pA 1 (some 52) HT_ ?_; refine pA 2 (some 53) HT_ ?_; refine pA 3 (some 54) HT_ ?_; refine pA 4 (some 55) HT_ ?_; refine pA 5 (some 56) HT_ ?_; refine pA 9 (some 60) HT_ ?_; refine tA1 6 (some 57) HT_ HW_ hHeld ?_; refine onA (i := 7) (N := some 58) HT_ (h := fun K hK => ?_); refine lD (w1 := ?_) (v := ?_) (by rfl) rfl ?_ ?_
   rotate_left 2
   ·go_simp
    constructor
    ·rfl
    ·rfl
   refine hK.out _ _ ((World.cell?_alloc_lt _ _ _ (World.block_lt_of_cell? _ _ (((HB.out.cell (World.block_lt_of_cell? w _ hwq10_0)).trans hwq10_0)))).trans (((HB.out.cell (World.block_lt_of_cell? w _ hwq10_0)).trans hwq10_0))) (fun hHeld => ?_); clear hK K; refine noN (some 58) (h := ?_); refine onA (i := 8) (N := some 59) HT_ (h := fun K hK => ?_); refine Kd.C1 (Kd.int .i64) (w0 := w) w.heap.size (by rfl) (.tmp 53) (.tmp 58) 24 3 (.int .i64 0) 8 rfl underlying24 cv rfl (by decide) (by omega) (.slice Ao43 yq8.length co43) yq8 (rd l0 x4_1) [.int .i64 (rd l0 x4_1)] (fun k_ => some k_ ≠ (vqx : Value).ownBlock) (fun _ => False) rfl rfl ?aP (fun _ hk => hk.elim) ?aF ?aO ?aB ?aS ?aL ?_; (case aP => exact rfl); (case aB => exact (aj HB)); (case aF => exact (fun k_ hk => Kd.u9 (Kd.r6 (ab HOqy)) k_ hk)); (case aO => exact (by refine pRx ?_; exact Kd.n7 HOqz.out (fun _ hk => hk.2))); (case aS => exact (aa (aj HB))); (case aL => have := LMc40.out; omega); intro vq11 w51 ho hb hg hat; rw [← Nyq9.out] at ho; replace HOqy := aQ (Kd.q5 (ok := (fun _ => True)) (by refine pRx ?_; exact Kd.n7 HOqy.out (fun _ hk => ⟨trivial, by first | exact hk | exact fun h_ => hk (h_.trans (m9 _ _ _ _))⟩)) hg hat); replace HB := aQ (hb); have HOq12 := aQ (ho); clear HOqz; clear ho hb hg hat; obtain ⟨Ao53, co53, eo53⟩ := Kd.n8 HOqy.out; (first | subst eo53 | (injection eo53 with f1_ f2_ f3_; have f4_ := f1_.symm; have f5_ := f3_.symm; clear f1_ f2_ f3_; subst f4_; subst f5_))
   refine hK.out _ _ (((HB.out.cell (World.block_lt_of_cell? w _ hwq10_0)).trans hwq10_0)) (fun hHeld => ?_); clear hK K; refine noN (some 59) (h := ?_); refine onA (i := 10) (N := some 61) HT_ (h := fun K hK => ?_); refine Kd.p5 (Kd.int .i64) (w0 := w) w.heap.size (by rfl) (.tmp 59) (.tmp 60) 24 3 (.int .i64 0) 8 rfl underlying24 cv rfl (by decide) (by omega) vq11 yq9 yq7 _ _ _ (fun k_ => some k_ ≠ (.slice Ao53 yq7.length co53 : Value).ownBlock) (fun _ => False) rfl rfl ?aO ?aR (fun _ _ h => h) (fun _ h => h.elim) ?aF ?aB ?aS ?aL ?_; (case aR => exact pC ((Kd.n5 HOqy.out).2.2)); (case aB => exact (aj HB)); (case aF => exact (fun k_ hk => Kd.u9 (Kd.r6 (ab HOqy)) k_ hk)); (case aO => exact (ab HOq12)); (case aS => exact (aa (aj HB))); (case aL => have := LMc41.out; omega); intro vq13 w52 ho hb hg hat; rw [← Nyqt.out] at ho; replace HOqy := aQ (Kd.q5 (ok := (fun _ => True)) (ab HOqy) hg hat); replace HB := aQ (hb); have HOq14 := aQ (ho); clear HOq12; clear ho hb hg hat; refine hK.out _ _ (((HB.out.cell (World.block_lt_of_cell? w _ hwq10_0)).trans hwq10_0)) (fun hHeld => ?_); clear hK K; refine noN (some 61) (h := ?_); refine pA 11 (some 3) HT_ ?_; refine dq (dj HT_.out (by kernel_rfl)) ?_; try go_wp2
   go_roundg k2
   case measure => have := HK1.out; have := HK2.out; omega
   case rel => exact ⟨(yqt), (wrap64 (x4_1 + 1)), rs_, H', ⟨by have := HK1.out; have := HK2.out; omega⟩, ⟨by refine pRx ?_; exact Kd.n7 HOq14.out (fun _ hk => trivial)⟩, ⟨aj HB⟩⟩
 ·obtain rfl := oj H; go_wp2
  go_ret
  exact ⟨_, re_, by refine pRx ?_; exact HO_3.out, aj HB⟩
end Go.Proofs.YtimkekeaeojpkaaGreat.A
namespace Go.Proofs.YtimkekeaeojpkaaGreat.A
open Go.RowKit Go.Proofs.YtimkekeaeojpkaaGreatW.PrintWords Go.Proofs.YtimkekeaeojpkaaGreatW.PrintLast Go.Proofs.YtimkekeaeojpkaaGreatW.PrintMore Tryz
attribute [local go_sem] ck cl cE cD b4 bZ cm cp
set_option linter.unusedVariables false
set_option linter.unusedSimpArgs false
def az.l0 : Nat → Int → Int → Option (Int)
 | 0, _, _ => none
 | k + 1, x0, x3 => if x0 > 0 then (az.l0 k (x0 / 2) (wrap64 (x3 + (Go.bits .and .i64 x0 1)))) else (some x3)
def az.f (k : Nat) (a0 : Int) : Option (Int) := (a8.f 8 a0).bind fun tq0 => (if tq0 = true then (az.l0 k a0 0) else (some 0))
theorem az.n0 (k : Nat) (a0 : Int) (r : Int) (w : World) (h : az.f k a0 = some r) :
  CD Tryz.prog 22 #[.int .i64 a0] w (.int .i64 r) := by
 have H := h; clear h; unfold az.f at H; (try dsimp only at H); replace H := bo H; obtain ⟨tq0, A2, H⟩ := H; replace H := ckB H; obtain ⟨rfl, H⟩ | ⟨rfl, H⟩ := H
 ·have H' := aQ H; clear H; go_enter func22, ntmps22; go_wp2_with (first | (refine gt 112 ?_; refine gcD (some 5) func112 (a8.n0 8 a0 true _ A2.out) ?_; intro nd))
  go_loopg [0, 3] k (fun kq v0 v3 w' => ∃ (x0_1 : Int) (x3_1 : Int), v0 = .int .i64 x0_1 ∧ v3 = .int .i64 x3_1 ∧ Aside0 (az.l0 kq x0_1 x3_1 = some r) ∧ Aside0 (kq ≤ k) ∧ Drawn0 w w')
  case atStart => exact ⟨(a0), (0), rs_, rs_, H', ⟨Nat.le_refl _⟩, rd_⟩
  clear H'; try clear c3
  obtain ⟨x0_1, x3_1, rfl, rfl, HA, HK1, ⟨m1, rfl⟩⟩ := hrel; rcases gk with _ | k1
  ·exact absurd HA.out (by simp [az.l0])
  have H := HA.out; clear HA; simp only [az.l0] at H; replace H := ckD H; obtain ⟨c4b0, H⟩ | ⟨c4b0, H⟩ := H
  ·have H' := aQ H; clear H; go_wp2
   go_roundg k1
   case measure => exact omeg HK1
   case rel => exact ⟨(x0_1 / 2), (wrap64 (x3_1 + (Go.bits .and .i64 x0_1 1))), rs_, rs_, H', ⟨omeg HK1⟩, rd_⟩
  ·obtain rfl := oj H; go_wp2
   go_ret
   exact ⟨rs_, rd_⟩
 ·obtain rfl := oj H; go_enter func22, ntmps22; go_wp2_with (first | (refine gt 112 ?_; refine gcD (some 5) func112 (a8.n0 8 a0 false _ A2.out) ?_; intro nd))
  go_ret
  exact ⟨rs_, rd_⟩
def aM.f (a0 : Int) : Option (Int) := (bE.f a0 0 8).bind fun tq0 => (if tq0 = true then (if 0 ≤ (IntKind.u64.wrap (a0)) then (some (wrap64 ((shl .i64 1 (IntKind.u64.wrap (a0))) - 1))) else (none)) else (some 0))
theorem aM.n0 (a0 : Int) (r : Int) (w : World) (h : aM.f a0 = some r) :
  CD Tryz.prog 104 #[.int .i64 a0] w (.int .i64 r) := by
 have H := h; clear h; unfold aM.f at H; (try dsimp only at H); replace H := bo H; obtain ⟨tq0, A2, H⟩ := H; replace H := ckB H; obtain ⟨rfl, H⟩ | ⟨rfl, H⟩ := H
 ·obtain ⟨ji4, hji4⟩ : ∃ j_ : Int, (IntKind.u64.wrap (a0)) = j_ := ⟨_, rfl⟩; (first | rw [hji4] at H | simp only [hji4] at H); (try rw [hji4] at A2); replace H := gdB H; obtain ⟨c5b0, c5b1, H⟩ := H; obtain ⟨ji6, hji6⟩ : ∃ j_ : Int, (shl .i64 1 (ji4)) = j_ := ⟨_, rfl⟩; (first | rw [hji6] at H | simp only [hji6] at H); (try rw [hji6] at A2); have hji6_ : (IntKind.i64.wrap (1 * 2 ^ min (ji4).toNat 64)) = ji6 := hji6; have hji6z : (ji4) ≤ 64 → (IntKind.i64.wrap (1 * 2 ^ (ji4).toNat)) = ji6 := dD hji6; have hji6u : (IntKind.i64.wrap (2 ^ min (ji4).toNat 64)) = ji6 := by have h_ := hji6_; rw [Int.one_mul] at h_; exact h_
  have hji6v : (ji4) ≤ 64 → (IntKind.i64.wrap (2 ^ (ji4).toNat)) = ji6 := fun hle_ => by have h_ := hji6z hle_; rw [Int.one_mul] at h_; exact h_
  have hji6y : (wrap64 (1 * 2 ^ min (ji4).toNat 64)) = ji6 := (i64_w _).symm.trans hji6_; have hji6x : (ji4) ≤ 64 → (wrap64 (1 * 2 ^ (ji4).toNat)) = ji6 := fun h_ => (i64_w _).symm.trans (hji6z h_)
  obtain rfl := oj H; go_enter func104, ntmps104; go_wp2_with (first | (refine gt 116 ?_; refine gcD (some 4) func116 (bE.n0 a0 0 8 true _ A2.out) ?_; intro nd))
  go_ret
  exact ⟨by first | rfl | (simp; done) | (simp only [← hji4, ← hji6] <;> (first | rfl | simp)) | (simp [*]; done), rd_⟩
 ·obtain rfl := oj H; go_enter func104, ntmps104; go_wp2_with (first | (refine gt 116 ?_; refine gcD (some 4) func116 (bE.n0 a0 0 8 false _ A2.out) ?_; intro nd))
  go_ret
  exact ⟨rs_, rd_⟩
mutual
def ak.l0 : Nat → Int → Int → Int → Int → List Int → Int → Int → Option (Int)
 | 0, _, _, _, _, _, _, _ => none
 | k + 1, x0, x1, x2, x4, x11, x12, x13 => if x13 < x2 then ((bG.f x4 x13).bind fun tq0 => (if tq0 = true then (ak.l1 k x0 x1 x2 x4 x11 x12 x13 x12) else (ak.l0 k x0 x1 x2 x4 x11 x12 (wrap64 (x13 + 1))))) else (some x12)
def ak.j2 : Nat → Int → Int → Int → Int → List Int → Int → Int → Int → Option (Int)
 | 0, _, _, _, _, _, _, _, _ => none
 | k + 1, x0, x1, x2, x4, x11, x12, x13, x14 => if x14 ≥ x1 then (ak.l0 k x0 x1 x2 x4 x11 x12 (wrap64 (x13 + 1))) else (ak.l2 k x0 x1 x2 x4 x11 x12 x13 x14 0)
def ak.l2 : Nat → Int → Int → Int → Int → List Int → Int → Int → Int → Int → Option (Int)
 | 0, _, _, _, _, _, _, _, _, _ => none
 | k + 1, x0, x1, x2, x4, x11, x12, x13, x14, x15 => if x15 < x2 then (if 0 ≤ (wrap64 ((wrap64 (x14 * x2)) + x15)) then (if (wrap64 ((wrap64 (x14 * x2)) + x15)) < (x11.length : Int) then (if 0 ≤ (wrap64 ((wrap64 (x12 * x2)) + x15)) then (if (wrap64 ((wrap64 (x12 * x2)) + x15)) < (x11.length : Int) then (ak.l2 k x0 x1 x2 x4 ((x11.set ((wrap64 ((wrap64 (x14 * x2)) + x15)) : Int).toNat (rd x11 (wrap64 ((wrap64 (x12 * x2)) + x15)))).set ((wrap64 ((wrap64 (x12 * x2)) + x15)) : Int).toNat (rd x11 (wrap64 ((wrap64 (x14 * x2)) + x15)))) x12 x13 x14 (wrap64 (x15 + 1))) else (none)) else (none)) else (none)) else (none)) else (ak.l3 k x0 x1 x2 x4 x11 x12 x13 (wrap64 (x12 + 1)))
def ak.l3 : Nat → Int → Int → Int → Int → List Int → Int → Int → Int → Option (Int)
 | 0, _, _, _, _, _, _, _, _ => none
 | k + 1, x0, x1, x2, x4, x11, x12, x13, x17 => if x17 < x1 then (if 0 ≤ (wrap64 ((wrap64 (x17 * x2)) + x13)) then (if (wrap64 ((wrap64 (x17 * x2)) + x13)) < (x11.length : Int) then (if 0 ≤ (wrap64 ((wrap64 (x12 * x2)) + x13)) then (if (wrap64 ((wrap64 (x12 * x2)) + x13)) < (x11.length : Int) then (ak.l4 k x0 x1 x2 x4 x11 x12 x13 x17 (rd x11 (wrap64 ((wrap64 (x17 * x2)) + x13))) (rd x11 (wrap64 ((wrap64 (x12 * x2)) + x13))) 0) else (none)) else (none)) else (none)) else (none)) else (ak.l0 k x0 x1 x2 x4 x11 (wrap64 (x12 + 1)) (wrap64 (x13 + 1)))
def ak.l4 : Nat → Int → Int → Int → Int → List Int → Int → Int → Int → Int → Int → Int → Option (Int)
 | 0, _, _, _, _, _, _, _, _, _, _, _ => none
 | k + 1, x0, x1, x2, x4, x11, x12, x13, x17, x18, x19, x20 => if x20 < x2 then (if 0 ≤ (wrap64 ((wrap64 (x17 * x2)) + x20)) then (if (wrap64 ((wrap64 (x17 * x2)) + x20)) < (x11.length : Int) then (if 0 ≤ (wrap64 ((wrap64 (x12 * x2)) + x20)) then (if (wrap64 ((wrap64 (x12 * x2)) + x20)) < (x11.length : Int) then (if x0 = 0 then (none) else (ak.l4 k x0 x1 x2 x4 (x11.set ((wrap64 ((wrap64 (x17 * x2)) + x20)) : Int).toNat (Int.tmod (wrap64 ((Int.tmod (wrap64 ((wrap64 ((rd x11 (wrap64 ((wrap64 (x17 * x2)) + x20))) * x19)) - (wrap64 ((rd x11 (wrap64 ((wrap64 (x12 * x2)) + x20))) * x18)))) x0) + x0)) x0)) x12 x13 x17 x18 x19 (wrap64 (x20 + 1)))) else (none)) else (none)) else (none)) else (none)) else (ak.l3 k x0 x1 x2 x4 x11 x12 x13 (wrap64 (x17 + 1)))
def ak.l1 : Nat → Int → Int → Int → Int → List Int → Int → Int → Int → Option (Int)
 | 0, _, _, _, _, _, _, _, _ => none
 | k + 1, x0, x1, x2, x4, x11, x12, x13, x14 => if x14 < x1 then (if 0 ≤ (wrap64 ((wrap64 (x14 * x2)) + x13)) then (if (wrap64 ((wrap64 (x14 * x2)) + x13)) < (x11.length : Int) then (if (rd x11 (wrap64 ((wrap64 (x14 * x2)) + x13))) = 0 then (ak.l1 k x0 x1 x2 x4 x11 x12 x13 (wrap64 (x14 + 1))) else (ak.j2 k x0 x1 x2 x4 x11 x12 x13 x14)) else (none)) else (none)) else (ak.j2 k x0 x1 x2 x4 x11 x12 x13 x14)
end
def ak.f (k : Nat) (a0 : Int) (a1 : Int) (a2 : Int) (l3 : List Int) (a4 : Int) : Option (Int) := (some (([] : List Int) : List Int)).bind fun yq1 => (if yq1.length + l3.length < 17592186044416 then (ak.l0 k a0 a1 a2 a4 (yq1 ++ l3) 0 0) else (none))
def ak.T25 : Bool × List (List Nat × List Nat) := (true, [([], []), ([], []), ([], []), ([1, 2], [1, 2]), ([], []), ([3, 4], [3, 4]), ([], []), ([], []), ([], []), ([7, 8], [7, 8]), ([], []), ([9, 10], [9, 10]), ([6, 11], [6, 11]), ([12], [12]), ([], []), ([13, 14], [13, 14]), ([], []), ([], []), ([], []), ([17, 18], [17, 18]), ([], []), ([19, 20], [19, 20]), ([16, 21], [16, 21]), ([22], [22]), ([], []), ([23, 24], [23, 24]), ([15, 25], [15, 25]), ([], []), ([26, 27], [26, 27]), ([], []), ([28, 29], [28, 29]), ([], []), ([30, 31], [30, 31]), ([0, 5, 0, 1, 2, 3, 4, 5, 6, 7, 8, 9, 10, 11, 12, 13, 14, 15, 16, 17, 18, 19, 20, 21, 22, 23, 24, 25, 26, 27, 28, 29, 30, 31, 32], [0, 5]), ([33, 32, 0, 1, 2, 3, 4, 5, 6, 7, 8, 9, 10, 11, 12, 13, 14, 15, 16, 17, 18, 19, 20, 21, 22, 23, 24, 25, 26, 27, 28, 29, 30, 31, 32], [32, 33])])
def ak.B25 : List Nat := [0, 0, 0, 6, 0, 30, 0, 0, 0, 384, 0, 1920, 4032, 8128, 0, 32704, 0, 0, 0, 393216, 0, 1966080, 4128768, 8323072, 0, 33488896, 67108800, 0, 268435392, 0, 1073741760, 0, 4294967232, 8589934591, 17179869183]
theorem ak.tab25 : rtab .any (fg Tryz.f275 25) = ak.T25 := by kernel_rfl
theorem ak.bits25 : di ak.T25.2 ak.B25 = true := by kernel_rfl
theorem ak.n0 (k : Nat) (a0 : Int) (a1 : Int) (a2 : Int) (A3 : Option Addr) (c3 : Nat) (l3 : List Int) (a4 : Int) (r : Int) (w : World) (hr3 : Kd.C (Kd.int .i64) w A3 l3.length l3) (hc3 : l3.length ≤ c3) (h : ak.f k a0 a1 a2 l3 a4 = some r) :
  CB Tryz.prog 275 #[.int .i64 a0, .int .i64 a1, .int .i64 a2, .slice A3 l3.length c3, .int .i64 a4] w (.int .i64 r) := by
 have HR3 := aQ hr3; have HC3 := aQ hc3; clear hr3 hc3; have HB := aQ (Below.refl w.heap.size w); have H := h; clear h; unfold ak.f at H; (try dsimp only at H); replace H := yz H; obtain ⟨yq1, Nyq1, H⟩ := H; (try dsimp only at H); replace H := gdA H; obtain ⟨LMc6, H⟩ := H; obtain ⟨yq2, hyq2⟩ : ∃ y_ : List Int, y_ = (yq1 ++ l3) := ⟨_, rfl⟩; replace H : (ak.l0 k a0 a1 a2 a4 yq2 0 0) = some r := by first | (rw [hyq2]; with_reducible exact H) | (rw [hyq2]; exact H)
 have Nyq2 := aQ hyq2; clear hyq2; have H' := aQ H; clear H; go_enter func275, ntmps275; go_wp2_with (first | (refine lI (d := Kd.int .i64) 21 Nyq1 ?_; intro vq3 w7 ho8 hb; have HOq4 := aQ (Kd.n6 ho8 (aa (aj HB))); replace HB := bs HB hb; clear hb ho8) | ((with_reducible refine gate_builtin (b := .append) (xs := #[.tmp 21, .tmp 22]) rfl ?_); at_builtin; refine Kd.B9 (Kd.int .i64) (w0 := w) w.heap.size rfl (.tmp 21) (.tmp 22) 24 3 (.int .i64 0) 8 rfl underlying24 cv rfl (by decide) (by omega) vq3 yq1 l3 _ _ _ (fun _ => True) (fun _ => False) rfl rfl ?aO ?aR (fun _ _ h => h) (fun _ h => h.elim) ?aF ?aB ?aS ?aL ?_; (case aR => exact pC (Cbel HR3 HB)); (case aB => exact (aj HB)); (case aF => exact (fun _ _ => trivial)); (case aO => exact (ab HOq4)); (case aS => exact (aa (aj HB))); (case aL => have := LMc6.out; omega); intro vq5 w9 ho hb hg hat; rw [← Nyq2.out] at ho; replace HB := aQ (hb); have HOq6 := aQ (ho); clear HOq4; clear ho hb hg hat))
 go_loopg [12, 13] k (fun kq v12 v13 w' => ∃ (x11_1 : List Int) (x12_1 : Int) (x13_1 : Int), v12 = .int .i64 x12_1 ∧ v13 = .int .i64 x13_1 ∧ Aside0 (ak.l0 kq a0 a1 a2 a4 x11_1 x12_1 x13_1 = some r) ∧ Aside0 (kq ≤ k) ∧ Aside0 (Kd.R (Kd.int .i64) 3 w' w.heap.size (fun _ => True) vq5 x11_1) ∧ Aside0 (Below w.heap.size w w'))
 case atStart => exact ⟨(yq2), (0), (0), rs_, rs_, H', ⟨Nat.le_refl _⟩, ⟨ab HOq6⟩, ⟨aj HB⟩⟩
 clear H'; try clear c3
 try clear c6
 obtain ⟨x11_1, x12_1, x13_1, rfl, rfl, HA, HK1, HO_11, HB⟩ := hrel; rcases gk with _ | k1
 ·exact absurd HA.out (by simp [ak.l0])
 have H := HA.out; clear HA; simp only [ak.l0] at H; replace H := ckD H; obtain ⟨c10b0, H⟩ | ⟨c10b0, H⟩ := H
 ·replace H := bo H; obtain ⟨tq0, A11, H⟩ := H; replace H := ckB H; obtain ⟨rfl, H⟩ | ⟨rfl, H⟩ := H
  ·have HC13 := aQ H; clear H; go_upto_block 2 with (first | (refine gt 124 ?_; refine gcD (some 31) func124 (bG.n0 a4 x13_1 true _ A11.out) ?_; intro nd))
   (try simp only [Act.put, List.setIfInBounds_toArray, List.set_cons_zero, List.set_cons_succ]); go_cut [14] (fun v14 wc => ∃ (kq : Nat) (x14_12 : Int), v14 = .int .i64 x14_12 ∧ Aside0 (ak.j2 kq a0 a1 a2 a4 x11_1 x12_1 x13_1 x14_12 = some r) ∧ Aside0 (kq ≤ k1) ∧ Aside0 (Kd.R (Kd.int .i64) 3 wc w.heap.size (fun _ => True) vq5 x11_1) ∧ Aside0 (Below w.heap.size w wc))
   case first =>
    have H := HC13.out; clear HC13; have H' := aQ H; clear H; go_wp2
    go_loopg [14] k1 (fun kq v14 w' => ∃ (x14_2 : Int), v14 = .int .i64 x14_2 ∧ Aside0 (ak.l1 kq a0 a1 a2 a4 x11_1 x12_1 x13_1 x14_2 = some r) ∧ Aside0 (kq ≤ k1) ∧ Aside0 (Kd.R (Kd.int .i64) 3 w' w.heap.size (fun _ => True) vq5 x11_1) ∧ Aside0 (Below w.heap.size w w'))
    case atStart => exact ⟨(x12_1), rs_, H', ⟨Nat.le_refl _⟩, ⟨ab HO_11⟩, ⟨aj HB⟩⟩
    clear H'; try clear c3
    try clear c6
    try clear c10
    try clear c10b0
    try clear c12
    obtain ⟨x14_2, rfl, HA, HK2, HO_11, HB⟩ := hrel; rcases gk with _ | k2
    ·exact absurd HA.out (by simp [ak.l1])
    have H := HA.out; clear HA; simp only [ak.l1] at H; replace H := ckD H; obtain ⟨c14b0, H⟩ | ⟨c14b0, H⟩ := H
    ·(first | rw [c14b0] | (simp only [i64_w, cB]; rw [c14b0]) | skip); obtain ⟨ji15, hji15⟩ : ∃ j_ : Int, (wrap64 ((wrap64 (x14_2 * a2)) + x13_1)) = j_ := ⟨_, rfl⟩
     (first | rw [hji15] at H | simp only [hji15] at H); have hji15w : (IntKind.i64.wrap ((wrap64 (x14_2 * a2)) + x13_1)) = ji15 := (i64_w _).trans hji15
     replace H := gdD H; obtain ⟨c16b0, H⟩ := H; replace H := gdD H; obtain ⟨c17b0, H⟩ := H; replace H := ckE H; obtain ⟨c18b0, c18b1, H⟩ | ⟨c18, c18b0, c18b1, H⟩ := H
     ·have H' := aQ H; clear H; obtain ⟨Ao19, co19, eo19⟩ := Kd.n8 HO_11.out; subst eo19; have pq7 : 0 ≤ ((ji15) : Int) := of_decide_eq_true as_; have qq7 : (ji15) < (x11_1.length : Int) := of_decide_eq_true as_; obtain ⟨adq7, eq7, hxq7_0⟩ := Kd.o0 (Kd.n5 HO_11.out).2.2 (ji15) pq7 qq7; cases eq7; replace pq7 := eq_true pq7; replace qq7 := eq_true qq7; go_wp2
      go_roundg k2
      case measure => have := HK1.out; have := HK2.out; omega
      case rel => exact ⟨(wrap64 (x14_2 + 1)), rs_, H', ⟨by have := HK1.out; have := HK2.out; omega⟩, ⟨ab HO_11⟩, ⟨aj HB⟩⟩
     ·have H' := aQ H; clear H; obtain ⟨Ao20, co20, eo20⟩ := Kd.n8 HO_11.out; subst eo20; have pq7 : 0 ≤ ((ji15) : Int) := of_decide_eq_true as_; have qq7 : (ji15) < (x11_1.length : Int) := of_decide_eq_true as_; obtain ⟨adq7, eq7, hxq7_0⟩ := Kd.o0 (Kd.n5 HO_11.out).2.2 (ji15) pq7 qq7; cases eq7; replace pq7 := eq_true pq7; replace qq7 := eq_true qq7; go_wp2
      go_meet
      case rel => exact ⟨_, (x14_2), rs_, H', ⟨by have := HK1.out; have := HK2.out; first | omega | exact Nat.le_refl _⟩, ⟨ab HO_11⟩, ⟨aj HB⟩⟩
    ·(first | rw [c14b0] | (simp only [i64_w, cB]; rw [c14b0]) | skip); have H' := aQ H
     clear H; go_wp2
     go_meet
     case rel => exact ⟨_, (x14_2), rs_, H', ⟨by have := HK1.out; have := HK2.out; first | omega | exact Nat.le_refl _⟩, ⟨ab HO_11⟩, ⟨aj HB⟩⟩
   case rest =>
    clear HC13; try clear c3
    try clear c6
    try clear c10
    try clear c10b0
    try clear c12
    obtain ⟨kq, x14_12, rfl, HA, HJ12, HO_11, HB⟩ := hcut; cases kq with
    | zero => exact absurd HA.out (by simp [ak.j2])
    | succ kj12 =>
     have H := HA.out; clear HA; simp only [ak.j2] at H; replace H := ckD H; obtain ⟨c21b0, H⟩ | ⟨c21b0, H⟩ := H
     ·have H' := aQ H; clear H; go_wp2
      go_roundg kj12
      case measure => have := HK1.out; have := HJ12.out; omega
      case rel => exact ⟨(x11_1), (x12_1), (wrap64 (x13_1 + 1)), rs_, rs_, H', ⟨by have := HK1.out; have := HJ12.out; omega⟩, ⟨ab HO_11⟩, ⟨aj HB⟩⟩
     ·have H' := aQ H; clear H; go_wp2
      go_loopg [15] kj12 (fun kq v15 w' => ∃ (x11_3 : List Int) (x15_3 : Int), v15 = .int .i64 x15_3 ∧ Aside0 (ak.l2 kq a0 a1 a2 a4 x11_3 x12_1 x13_1 x14_12 x15_3 = some r) ∧ Aside0 (kq ≤ kj12) ∧ Aside0 (Kd.R (Kd.int .i64) 3 w' w.heap.size (fun _ => True) vq5 x11_3) ∧ Aside0 (Below w.heap.size w w'))
      case atStart => exact ⟨(x11_1), (0), rs_, H', ⟨Nat.le_refl _⟩, ⟨ab HO_11⟩, ⟨aj HB⟩⟩
      clear H'; try clear c3
      try clear c6
      try clear c10
      try clear c10b0
      try clear c12
      try clear c21
      try clear c21b0
      obtain ⟨x11_3, x15_3, rfl, HA, HK3, HO_11, HB⟩ := hrel; rcases gk with _ | k3
      ·exact absurd HA.out (by simp [ak.l2])
      have H := HA.out; clear HA; simp only [ak.l2] at H; replace H := ckD H; obtain ⟨c22b0, H⟩ | ⟨c22b0, H⟩ := H
      ·obtain ⟨ji23, hji23⟩ : ∃ j_ : Int, (wrap64 ((wrap64 (x14_12 * a2)) + x15_3)) = j_ := ⟨_, rfl⟩; (first | rw [hji23] at H | simp only [hji23] at H); have hji23w : (IntKind.i64.wrap ((wrap64 (x14_12 * a2)) + x15_3)) = ji23 := (i64_w _).trans hji23; replace H := gdD H; obtain ⟨c24b0, H⟩ := H; replace H := gdD H; obtain ⟨c25b0, H⟩ := H; obtain ⟨ji26, hji26⟩ : ∃ j_ : Int, (wrap64 ((wrap64 (x12_1 * a2)) + x15_3)) = j_ := ⟨_, rfl⟩; (first | rw [hji26] at H | simp only [hji26] at H); have hji26w : (IntKind.i64.wrap ((wrap64 (x12_1 * a2)) + x15_3)) = ji26 := (i64_w _).trans hji26; replace H := gdD H; obtain ⟨c27b0, H⟩ := H; replace H := gdD H; obtain ⟨c28b0, H⟩ := H; obtain ⟨yq8, hyq8⟩ : ∃ y_ : List Int, y_ = (x11_3.set ((ji23) : Int).toNat (rd x11_3 (ji26))) := ⟨_, rfl⟩; replace H : (ak.l2 k3 a0 a1 a2 a4 (yq8.set ((ji26) : Int).toNat (rd x11_3 (ji23))) x12_1 x13_1 x14_12 (wrap64 (x15_3 + 1))) = some r := by first | (rw [hyq8]; with_reducible exact H) | (rw [hyq8]; exact H)
       have Nyq8 := aQ hyq8; clear hyq8; obtain ⟨yq9, hyq9⟩ : ∃ y_ : List Int, y_ = (yq8.set ((ji26) : Int).toNat (rd x11_3 (ji23))) := ⟨_, rfl⟩; replace H : (ak.l2 k3 a0 a1 a2 a4 yq9 x12_1 x13_1 x14_12 (wrap64 (x15_3 + 1))) = some r := by first | (rw [hyq9]; with_reducible exact H) | (rw [hyq9]; exact H)
       have Nyq9 := aQ hyq9; clear hyq9; have H' := aQ H; clear H; obtain ⟨Ao31, co31, eo31⟩ := Kd.n8 HO_11.out; subst eo31; have pqa : 0 ≤ ((ji23) : Int) := of_decide_eq_true as_; have qqa : (ji23) < (x11_3.length : Int) := of_decide_eq_true as_; obtain ⟨adqa, eqa, hxqa_0⟩ := Kd.o0 (Kd.n5 HO_11.out).2.2 (ji23) pqa qqa; cases eqa; replace pqa := eq_true pqa; replace qqa := eq_true qqa; obtain ⟨adqb, eqb, hxqb_0, pqb, qqb⟩ := aI (Kd.n5 HO_11.out).2.2 (ji26); obtain rfl : adqa = adqb := (by injection eqb); have p29 : 0 ≤ ((ji23) : Int) := of_decide_eq_true as_; have q29 : ((ji23) : Int) < ((x11_3.length : Int) : Int) := of_decide_eq_true as_; obtain ⟨go29, co29, eo29, gb29, gl29, cl29, HG29⟩ := Kd.E5 HO_11.out (by omega); (first | cases eo29 | (injection eo29 with ea_ en_ ec_; (first | subst ea_ | (injection ea_ with ea_; subst ea_)); subst ec_; clear en_)); have GB29 := aQ gb29; have GG29 := aQ HG29; clear gb29 gl29 HG29; (first | simp only [ed] at hxqa_0 | skip); (first | simp only [ed] at hxqb_0 | skip); obtain ⟨hx29_0, hf29_0⟩ := Kd.C7 0 HO_11.out ((ji23) : Int) p29 q29; replace p29 := eq_true p29; replace q29 := eq_true q29; have HP32 := Kd.E8 HO_11.out ((ji23) : Int) (rd x11_3 (ji26)); go_wp2_with (first | ((with_reducible refine jk (t := 3) (p := 80) rfl ?_); refine ip (t := 3) (p := 80) (v := ?vo_w33) (w1 := (wr.setCell ⟨go29, ((ji23) : Int).toNat, none⟩ (.int .i64 (rd x11_3 (ji26))))) ?hg ?ho ?hn ?hr ?_; (case ho => rfl); (case hg => rfl); (case hn => rfl); (case hr => first | (go_simp; done) | (go_simp; rfl)); intro w33 hw; have hg : wr.grownBy w33 (some go29) := (by rw [hw]; exact HP32.2); have hp_ : Kd.R (Kd.int .i64) 3 w33 w.heap.size (fun _ => True) (.slice (some ⟨go29, 0, none⟩) x11_3.length co31) yq8 := (by rw [hw, Nyq8.out]; exact HP32.1); clear HP32; replace HO_11 := aQ (hp_); replace HB := aQ ((by rw [hw]; exact dc (HB.out) GB29.out : Below w.heap.size w w33)); clear hg hw hp_; have p30 : 0 ≤ ((ji26) : Int) := of_decide_eq_true as_; have q30 : ((ji26) : Int) < ((x11_3.length : Int) : Int) := of_decide_eq_true as_; obtain ⟨hx30_0, hf30_0⟩ := Kd.C7 0 HO_11.out ((ji26) : Int) p30 q30; replace p30 := eq_true p30; replace q30 := eq_true q30; obtain ⟨hy34_, hz34_⟩ := Kd.C7 0 HO_11.out ((ji26) : Int) (of_decide_eq_true as_) (of_decide_eq_true as_); have HP34 := Kd.E8 HO_11.out ((ji26) : Int) (rd x11_3 (ji23))) | ((with_reducible refine jk (t := 3) (p := 88) rfl ?_); refine ip (t := 3) (p := 88) (v := ?vo_w35) (w1 := (w33.setCell ⟨go29, ((ji26) : Int).toNat, none⟩ (.int .i64 (rd x11_3 (ji23))))) ?hg ?ho ?hn ?hr ?_; (case ho => rfl); (case hg => rfl); (case hn => rfl); (case hr => first | (go_simp; done) | (go_simp; rfl)); intro w35 hw; have hg : w33.grownBy w35 (some go29) := (by rw [hw]; exact HP34.2); have hp_ : Kd.R (Kd.int .i64) 3 w35 w.heap.size (fun _ => True) (.slice (some ⟨go29, 0, none⟩) x11_3.length co31) yq9 := (by rw [hw, Nyq9.out]; exact HP34.1); clear HP34; replace HO_11 := aQ (hp_); replace HB := aQ ((by rw [hw]; exact dc (HB.out) GB29.out : Below w.heap.size w w35)); clear hg hw hp_))
       go_roundg k3
       case measure => have := HK1.out; have := HJ12.out; have := HK3.out; omega
       case rel => exact ⟨(yq9), (wrap64 (x15_3 + 1)), rs_, H', ⟨by have := HK1.out; have := HJ12.out; have := HK3.out; omega⟩, ⟨ab HO_11⟩, ⟨aj HB⟩⟩
      ·have H' := aQ H; clear H; go_wp2
       go_loopg [17] k3 (fun kq v17 w' => ∃ (x11_4 : List Int) (x17_4 : Int), v17 = .int .i64 x17_4 ∧ Aside0 (ak.l3 kq a0 a1 a2 a4 x11_4 x12_1 x13_1 x17_4 = some r) ∧ Aside0 (kq ≤ k3) ∧ Aside0 (Kd.R (Kd.int .i64) 3 w' w.heap.size (fun _ => True) vq5 x11_4) ∧ Aside0 (Below w.heap.size w w'))
       case atStart => exact ⟨(x11_3), (wrap64 (x12_1 + 1)), rs_, H', ⟨Nat.le_refl _⟩, ⟨ab HO_11⟩, ⟨aj HB⟩⟩
       clear H'; try clear c3
       try clear c6
       try clear c10
       try clear c10b0
       try clear c12
       try clear c21
       try clear c21b0
       try clear c22
       try clear c22b0
       obtain ⟨x11_4, x17_4, rfl, HA, HK4, HO_11, HB⟩ := hrel; rcases gk with _ | k4
       ·exact absurd HA.out (by simp [ak.l3])
       have H := HA.out; clear HA; simp only [ak.l3] at H; replace H := ckD H; obtain ⟨c36b0, H⟩ | ⟨c36b0, H⟩ := H
       ·obtain ⟨ji37, hji37⟩ : ∃ j_ : Int, (wrap64 ((wrap64 (x17_4 * a2)) + x13_1)) = j_ := ⟨_, rfl⟩; (first | rw [hji37] at H | simp only [hji37] at H); have hji37w : (IntKind.i64.wrap ((wrap64 (x17_4 * a2)) + x13_1)) = ji37 := (i64_w _).trans hji37; replace H := gdD H; obtain ⟨c38b0, H⟩ := H; replace H := gdD H; obtain ⟨c39b0, H⟩ := H; obtain ⟨ji40, hji40⟩ : ∃ j_ : Int, (wrap64 ((wrap64 (x12_1 * a2)) + x13_1)) = j_ := ⟨_, rfl⟩; (first | rw [hji40] at H | simp only [hji40] at H); have hji40w : (IntKind.i64.wrap ((wrap64 (x12_1 * a2)) + x13_1)) = ji40 := (i64_w _).trans hji40; replace H := gdD H; obtain ⟨c41b0, H⟩ := H; replace H := gdD H; obtain ⟨c42b0, H⟩ := H; have H' := aQ H; clear H; obtain ⟨Ao43, co43, eo43⟩ := Kd.n8 HO_11.out; subst eo43; have pqc : 0 ≤ ((ji37) : Int) := of_decide_eq_true as_; have qqc : (ji37) < (x11_4.length : Int) := of_decide_eq_true as_; obtain ⟨adqc, eqc, hxqc_0⟩ := Kd.o0 (Kd.n5 HO_11.out).2.2 (ji37) pqc qqc; cases eqc; replace pqc := eq_true pqc; replace qqc := eq_true qqc; obtain ⟨adqd, eqd, hxqd_0, pqd, qqd⟩ := aI (Kd.n5 HO_11.out).2.2 (ji40); obtain rfl : adqc = adqd := (by injection eqd); obtain ⟨go52, co52, eo52, gb52, gl52, cl52, HG52⟩ := Kd.E5 HO_11.out (by have := of_eq_true pqc; have := of_eq_true qqc; omega); (first | cases eo52 | (injection eo52 with ea_ en_ ec_; (first | subst ea_ | (injection ea_ with ea_; subst ea_)); subst ec_; clear en_)); clear gb52 gl52 HG52; (first | simp only [ed] at hxqc_0 | skip)
        (first | simp only [ed] at hxqd_0 | skip); go_wp2
        go_loopg [20] k4 (fun kq v20 w' => ∃ (x11_5 : List Int) (x20_5 : Int), v20 = .int .i64 x20_5 ∧ Aside0 (ak.l4 kq a0 a1 a2 a4 x11_5 x12_1 x13_1 x17_4 (rd x11_4 (ji37)) (rd x11_4 (ji40)) x20_5 = some r) ∧ Aside0 (kq ≤ k4) ∧ Aside0 (Kd.R (Kd.int .i64) 3 w' w.heap.size (fun _ => True) (.slice (some ⟨go52, 0, none⟩) x11_4.length co43) x11_5) ∧ Aside0 (Below w.heap.size w w'))
        case atStart => exact ⟨(x11_4), (0), rs_, H', ⟨Nat.le_refl _⟩, ⟨ab HO_11⟩, ⟨aj HB⟩⟩
        clear H'; try clear c3
        try clear c6
        try clear c10
        try clear c10b0
        try clear c12
        try clear c21
        try clear c21b0
        try clear c22
        try clear c22b0
        try clear c36
        try clear c36b0
        try clear c38
        try clear c38b0
        try clear c39
        try clear c39b0
        try clear c41
        try clear c41b0
        try clear c42
        try clear c42b0
        try clear hxqc_0
        try clear hxqd_0
        try clear pqc
        try clear pqd
        try clear qqc
        try clear qqd
        obtain ⟨x11_5, x20_5, rfl, HA, HK5, HO_11, HB⟩ := hrel; have hl11_5 := (Kd.n5 HO_11.out).1; rw [hl11_5] at HO_11; (try simp only [hl11_5]); rcases gk with _ | k5
        ·exact absurd HA.out (by simp [ak.l4])
        have H := HA.out; clear HA; simp only [ak.l4] at H; replace H := ckD H; obtain ⟨c44b0, H⟩ | ⟨c44b0, H⟩ := H
        ·obtain ⟨ji45, hji45⟩ : ∃ j_ : Int, (wrap64 ((wrap64 (x17_4 * a2)) + x20_5)) = j_ := ⟨_, rfl⟩; (first | rw [hji45] at H | simp only [hji45] at H); have hji45w : (IntKind.i64.wrap ((wrap64 (x17_4 * a2)) + x20_5)) = ji45 := (i64_w _).trans hji45; replace H := gdD H; obtain ⟨c46b0, H⟩ := H; replace H := gdD H; obtain ⟨c47b0, H⟩ := H; obtain ⟨ji48, hji48⟩ : ∃ j_ : Int, (wrap64 ((wrap64 (x12_1 * a2)) + x20_5)) = j_ := ⟨_, rfl⟩; (first | rw [hji48] at H | simp only [hji48] at H); have hji48w : (IntKind.i64.wrap ((wrap64 (x12_1 * a2)) + x20_5)) = ji48 := (i64_w _).trans hji48; replace H := gdD H; obtain ⟨c49b0, H⟩ := H; replace H := gdD H; obtain ⟨c50b0, H⟩ := H; by_cases c51 : a0 = 0
         ·rw [if_pos c51] at H; exact absurd H (by simp)
         ·rw [if_neg c51] at H; obtain ⟨c51b0, c51b1⟩ := eqF c51; obtain ⟨yqe, hyqe⟩ : ∃ y_ : List Int, y_ = (x11_5.set ((ji45) : Int).toNat (Int.tmod (wrap64 ((Int.tmod (wrap64 ((wrap64 ((rd x11_5 (ji45)) * (rd x11_4 (ji40)))) - (wrap64 ((rd x11_5 (ji48)) * (rd x11_4 (ji37)))))) a0) + a0)) a0)) := ⟨_, rfl⟩; replace H : (ak.l4 k5 a0 a1 a2 a4 yqe x12_1 x13_1 x17_4 (rd x11_4 (ji37)) (rd x11_4 (ji40)) (wrap64 (x20_5 + 1))) = some r := by first | (rw [hyqe]; with_reducible exact H) | (rw [hyqe]; exact H)
          have Nyqe := aQ hyqe; clear hyqe; have H' := aQ H; clear H; try go_wp2
          replace HO_11 := aQ (Kd.r7 HO_11.out); replace HB := aQ (aC HB.out); have pqf : 0 ≤ ((ji45) : Int) := of_decide_eq_true as_; have qqf : (ji45) < (x11_5.length : Int) := of_decide_eq_true as_; obtain ⟨adqf, eqf, hxqf_0⟩ := Kd.o0 (Kd.n5 HO_11.out).2.2 (ji45) pqf qqf; cases eqf; replace pqf := eq_true pqf; replace qqf := eq_true qqf; have pqg : 0 ≤ ((ji48) : Int) := of_decide_eq_true as_; have qqg : (ji48) < (x11_5.length : Int) := of_decide_eq_true as_; obtain ⟨adqg, eqg, hxqg_0⟩ := Kd.o0 (Kd.n5 HO_11.out).2.2 (ji48) pqg qqg; cases eqg; replace pqg := eq_true pqg; replace qqg := eq_true qqg; have p52 : 0 ≤ ((ji45) : Int) := of_decide_eq_true as_; have q52 : ((ji45) : Int) < ((x11_5.length : Int) : Int) := of_decide_eq_true as_; obtain ⟨go52z, co52, eo52, gb52, gl52, cl52, HG52⟩ := Kd.E5 HO_11.out (by omega); obtain rfl : go52 = go52z := (by have h_ := eo52; simp at h_; first | exact h_ | exact h_.1); (first | cases eo52 | (injection eo52 with ea_ en_ ec_; (first | subst ea_ | (injection ea_ with ea_; subst ea_)); subst ec_; clear en_)); have GB52 := aQ gb52; have GG52 := aQ HG52; clear gb52 gl52 HG52; (first | simp only [ed] at hxqc_0 | skip); (first | simp only [ed] at hxqd_0 | skip); (first | simp only [ed] at hxqf_0 | skip); (first | simp only [ed] at hxqg_0 | skip); obtain ⟨hx52_0, hf52_0⟩ := Kd.C7 0 HO_11.out ((ji45) : Int) p52 q52; replace p52 := eq_true p52; replace q52 := eq_true q52; have HP54 := Kd.F2 HO_11.out ((ji45) : Int) (Int.tmod (wrap64 ((Int.tmod (wrap64 ((wrap64 ((rd x11_5 (ji45)) * (rd x11_4 (ji40)))) - (wrap64 ((rd x11_5 (ji48)) * (rd x11_4 (ji37)))))) a0) + a0)) a0)
          rw [← Nyqe.out] at HP54; have HQ54 := aQ HP54; clear HP54; refine cT (n := 35) (S := fun w' => w'.cell? ⟨go52, ((ji45)).toNat, none⟩ = some (.int .i64 (rd x11_5 (ji45))) ∧ w'.cell? ⟨go52, ((ji48)).toNat, none⟩ = some (.int .i64 (rd x11_5 (ji48)))) (ds := [34]) _ (by kernel_rfl) rfl rfl ⟨hxqf_0, hxqg_0⟩ (fun hHeld => ?_); refine cA ak.tab25 ak.bits25 (fun HT_ HW_ => ?_); generalize wr.drew = w53 at HO_11 HB GG52 HQ54 hf52_0 hxqf_0 hxqg_0 hx52_0 hHeld ⊢; refine pJ 0 (some 117) HT_ (ar 1 34) ?_; refine pJ 1 (some 118) HT_ (ar 2 33) ?_; refine pJ 2 (some 119) HT_ (ar 3 32) ?_; refine pJ 3 (some 120) HT_ (ar 4 31) ?_; refine pJ 4 (some 121) HT_ (ar 5 30) ?_; refine pJ 5 (some 122) HT_ (ar 6 29) ?_; refine pJ 6 (some 123) HT_ (ar 7 28) ?_; refine pJ 7 (some 124) HT_ (ar 8 27) ?_; refine pJ 8 (some 125) HT_ (ar 9 26) ?_; refine pJ 9 (some 126) HT_ (ar 10 25) ?_; refine pJ 10 (some 127) HT_ (ar 11 24) ?_; refine pJ 11 (some 128) HT_ (ar 12 23) ?_; refine pJ 12 (some 129) HT_ (ar 13 22) ?_; refine pJ 14 (some 131) HT_ #[true, true, true, true, true, true, true, true, true, true, true, true, true, false, true, false, false, false, false, false, false, false, false, false, false, false, false, false, false, false, false, false, false, false, false] ?_; refine pJ 16 (some 133) HT_ #[true, true, true, true, true, true, true, true, true, true, true, true, true, false, true, false, true, false, false, false, false, false, false, false, false, false, false, false, false, false, false, false, false, false, false] ?_
          refine pJ 17 (some 134) HT_ #[true, true, true, true, true, true, true, true, true, true, true, true, true, false, true, false, true, true, false, false, false, false, false, false, false, false, false, false, false, false, false, false, false, false, false] ?_; refine pJ 18 (some 135) HT_ #[true, true, true, true, true, true, true, true, true, true, true, true, true, false, true, false, true, true, true, false, false, false, false, false, false, false, false, false, false, false, false, false, false, false, false] ?_; refine pJ 19 (some 136) HT_ #[true, true, true, true, true, true, true, true, true, true, true, true, true, false, true, false, true, true, true, true, false, false, false, false, false, false, false, false, false, false, false, false, false, false, false] ?_; refine pJ 20 (some 137) HT_ #[true, true, true, true, true, true, true, true, true, true, true, true, true, false, true, false, true, true, true, true, true, false, false, false, false, false, false, false, false, false, false, false, false, false, false] ?_; refine pJ 21 (some 138) HT_ #[true, true, true, true, true, true, true, true, true, true, true, true, true, false, true, false, true, true, true, true, true, true, false, false, false, false, false, false, false, false, false, false, false, false, false] ?_; refine pJ 22 (some 139) HT_ #[true, true, true, true, true, true, true, true, true, true, true, true, true, false, true, false, true, true, true, true, true, true, true, false, false, false, false, false, false, false, false, false, false, false, false] ?_
          refine pJ 24 (some 141) HT_ #[true, true, true, true, true, true, true, true, true, true, true, true, true, false, true, false, true, true, true, true, true, true, true, false, true, false, false, false, false, false, false, false, false, false, false] ?_; refine pJ 27 (some 144) HT_ #[true, true, true, true, true, true, true, true, true, true, true, true, true, false, true, false, true, true, true, true, true, true, true, false, true, false, false, true, false, false, false, false, false, false, false] ?_; refine pJ 29 (some 146) HT_ #[true, true, true, true, true, true, true, true, true, true, true, true, true, false, true, false, true, true, true, true, true, true, true, false, true, false, false, true, false, true, false, false, false, false, false] ?_; refine pJ 31 (some 148) HT_ #[true, true, true, true, true, true, true, true, true, true, true, true, true, false, true, false, true, true, true, true, true, true, true, false, true, false, false, true, false, true, false, true, false, false, false] ?_; refine take_ (i := 13) (N := some 130) (v := ?_) (a' := ?_) #[true, true, true, true, true, true, true, true, true, true, true, true, true, true, true, false, true, true, true, true, true, true, true, false, true, false, false, true, false, true, false, true, false, false, false] rfl rfl (dE HT_.out HW_.out (by kernel_rfl)) (fun _ _ _ h => h) (Or.inl ⟨by rfl, ?_⟩) hHeld ?_ ?_
          rotate_left
          ·rintro w' ⟨s0, s1⟩; go_simp
           with_reducible rfl
          rotate_left
          ·simp only [Act.put, List.setIfInBounds_toArray, List.set_cons_zero, List.set_cons_succ, i64_w, cB]
           rfl
          refine pJ 15 (some 132) HT_ #[true, true, true, true, true, true, true, true, true, true, true, true, true, true, true, true, true, true, true, true, true, true, true, false, true, false, false, true, false, true, false, true, false, false, false] ?_; refine take_ (i := 23) (N := some 140) (v := ?_) (a' := ?_) #[true, true, true, true, true, true, true, true, true, true, true, true, true, true, true, true, true, true, true, true, true, true, true, true, true, false, false, true, false, true, false, true, false, false, false] rfl rfl (dE HT_.out HW_.out (by kernel_rfl)) (fun _ _ _ h => h) (Or.inl ⟨by rfl, ?_⟩) hHeld ?_ ?_
          rotate_left
          ·rintro w' ⟨s0, s1⟩; go_simp
           with_reducible rfl
          rotate_left
          ·simp only [Act.put, List.setIfInBounds_toArray, List.set_cons_zero, List.set_cons_succ, i64_w, cB]
           rfl
          refine pJ 25 (some 142) HT_ #[true, true, true, true, true, true, true, true, true, true, true, true, true, true, true, true, true, true, true, true, true, true, true, true, true, true, false, true, false, true, false, true, false, false, false] ?_; refine pJ 26 (some 143) HT_ #[true, true, true, true, true, true, true, true, true, true, true, true, true, true, true, true, true, true, true, true, true, true, true, true, true, true, true, true, false, true, false, true, false, false, false] ?_; refine pJ 28 (some 145) HT_ #[true, true, true, true, true, true, true, true, true, true, true, true, true, true, true, true, true, true, true, true, true, true, true, true, true, true, true, true, true, true, false, true, false, false, false] ?_; refine pJ 30 (some 147) HT_ (ar 32 3) ?_; refine pJ 32 (some 149) HT_ (ar 33 2) ?_; refine pJ 33 (some 150) HT_ (ar 34 1) ?_; refine m0 (i := 34) (N := none) (ar 35 0) rfl rfl (du HT_.out (by kernel_rfl)) (by decide) (fun K hK => ?_); refine gU (w1 := ?_) (by rfl) rfl ?_ ?_
          rotate_left
          ·go_simp
           rfl
          refine hK.out _ _ ?_; clear hK K; refine dq (dj HT_.out (by kernel_rfl)) ?_; try go_wp2
          (try simp only [← hl11_5]); go_roundg k5
          case measure => have := HK1.out; have := HJ12.out; have := HK3.out; have := HK4.out; have := HK5.out; omega
          case rel => exact ⟨(yqe), (wrap64 (x20_5 + 1)), rs_, H', ⟨by have := HK1.out; have := HJ12.out; have := HK3.out; have := HK4.out; have := HK5.out; omega⟩, ⟨by (try simp only [hl11_5]); refine pRx ?_; exact HQ54.out⟩, ⟨pb HB⟩⟩
        ·have H' := aQ H; clear H; go_wp2
         (try simp only [← hl11_5]); go_roundg k5
         case measure => have := HK1.out; have := HJ12.out; have := HK3.out; have := HK4.out; have := HK5.out; omega
         case rel => exact ⟨(x11_5), (wrap64 (x17_4 + 1)), rs_, H', ⟨by have := HK1.out; have := HJ12.out; have := HK3.out; have := HK4.out; have := HK5.out; omega⟩, ⟨by (try simp only [hl11_5]); refine pRx ?_; exact HO_11.out⟩, ⟨aj HB⟩⟩
       ·have H' := aQ H; clear H; go_wp2
        go_roundg k4
        case measure => have := HK1.out; have := HJ12.out; have := HK3.out; have := HK4.out; omega
        case rel => exact ⟨(x11_4), (wrap64 (x12_1 + 1)), (wrap64 (x13_1 + 1)), rs_, rs_, H', ⟨by have := HK1.out; have := HJ12.out; have := HK3.out; have := HK4.out; omega⟩, ⟨ab HO_11⟩, ⟨aj HB⟩⟩
  ·have H' := aQ H; clear H; go_wp2_with (first | (refine gt 124 ?_; refine gcD (some 31) func124 (bG.n0 a4 x13_1 false _ A11.out) ?_; intro nd))
   go_roundg k1
   case measure => exact omeg HK1
   case rel => exact ⟨(x11_1), (x12_1), (wrap64 (x13_1 + 1)), rs_, rs_, H', ⟨omeg HK1⟩, ⟨ab HO_11⟩, ⟨aj HB⟩⟩
 ·obtain rfl := oj H; go_wp2
  go_ret
  exact ⟨re_, aj HB⟩
def bS.l0 : Nat → Int → Int → Int → List Int → Int → Int → Int → List Int → Option (Int × List Int)
 | 0, _, _, _, _, _, _, _, _ => none
 | k + 1, x0, x1, x2, x3, x10, x11, x243003000, x243003001 => (aM.f x2).bind fun tq0 => (if x11 ≤ tq0 then ((az.f k x11).bind fun tq1 => (if tq1 = x10 then ((ak.f k x0 x1 x2 x3 x11).bind fun tq2 => (if tq2 = x10 then (if x243003001.length < 17592186044416 then (bS.l0 k x0 x1 x2 x3 x10 (wrap64 (x11 + 1)) x243003000 (x243003001 ++ [x11])) else (none)) else (bS.l0 k x0 x1 x2 x3 x10 (wrap64 (x11 + 1)) x243003000 x243003001))) else (bS.l0 k x0 x1 x2 x3 x10 (wrap64 (x11 + 1)) x243003000 x243003001))) else (some (x243003000, x243003001)))
def bS.f (k : Nat) (a0 : Int) (a1 : Int) (a2 : Int) (l3 : List Int) : Option (Int × List Int) := (aM.f a2).bind fun tq3 => ((ak.f k a0 a1 a2 l3 tq3).bind fun tq4 => (bS.l0 k a0 a1 a2 l3 tq4 0 a2 ([] : List Int)))
theorem bS.n0 (k : Nat) (a0 : Int) (a1 : Int) (a2 : Int) (A3 : Option Addr) (c3 : Nat) (l3 : List Int) (r1 : Int) (r2 : List Int) (w : World) (hr3 : Kd.C (Kd.int .i64) w A3 l3.length l3) (hc3 : l3.length ≤ c3) (h : bS.f k a0 a1 a2 l3 = some (r1, r2)) :
  Calls Tryz.prog 242 #[.int .i64 a0, .int .i64 a1, .int .i64 a2, .slice A3 l3.length c3] w fun e w' => ∃ v1_ : Value, e = .returned (.agg #[.int .i64 r1, v1_]) ∧ Kd.R (Kd.int .i64) 3 w' w.heap.size (fun _ => True) v1_ r2 ∧ Below w.heap.size w w' := by
 have hu26 := underlying26; have HR3 := aQ hr3; have HC3 := aQ hc3; clear hr3 hc3; have HB := aQ (Below.refl w.heap.size w); have H := h; clear h; unfold bS.f at H; (try dsimp only at H); replace H := bo H; obtain ⟨tq3, A5, H⟩ := H; replace H := bo H; obtain ⟨tq4, A6, H⟩ := H; have H' := aQ H; clear H; go_enter func242, ntmps242; go_wp2_with (first | (refine bX 8 #[.int .i64 0, .slice none 0 0] 26 ?_; intro gbq5 hg w7 BKq5 hb; have GEq5 := gB HB hg; replace HB := bs HB hb; clear hb hg) | (refine bX 9 #[.int .i64 0, .slice none 0 0] 26 ?_; intro gbq6 hg w8 BKq6 hb; have GEq6 := gB HB hg; replace HB := bs HB hb; have NBq5_q6 := nl BKq5 hg; have NBq6_q5 := ng BKq5 hg; replace BKq5 := bb BKq5 hb; clear hb hg; have := NBq6_q5.out; have := NBq5_q6.out; obtain ⟨hcz10_0, hcz10_1, hfz10_0, hfz10_1⟩ := cz2 BKq6) | (refine gt 104 ?_; refine gcD (some 19) func104 (aM.n0 a2 tq3 _ A5.out) ?_; intro nd) | (refine gt 275 ?_; refine gcB (some 20) func275 (ak.n0 k a0 a1 a2 _ _ l3 tq3 tq4 _ (Kd.n9 HR3.out (a6 HB GEq5 GEq6)) HC3.out A6.out) ?_; intro w11 hb; replace BKq5 := bf BKq5 hb; replace BKq6 := aQ (aq (g := gbq6) (o := .cells #[.int .i64 a2, .slice none 0 0] 26 (0, 0)) (by refine pkx ?_; refine ai (cs := #[.int .i64 a2, .slice none 0 0]) ?_ 1 _ rfl; refine pkx ?_; refine ai (cs := #[.int .i64 0, .slice none 0 0]) ?_ 0 _ rfl; refine pkx ?_; exact BKq6.out) hb); replace HB := bs HB hb; (try clear hb)))
 go_loopg [11] k (fun kq v11 w' => ∃ (x11_1 : Int) (x243003001_1 : List Int) (u243003001 : Value), v11 = .int .i64 x11_1 ∧ Aside0 (bS.l0 kq a0 a1 a2 l3 tq4 x11_1 a2 x243003001_1 = some (r1, r2)) ∧ Aside0 (kq ≤ k) ∧ Aside0 (Kd.R (Kd.int .i64) 3 w' w.heap.size (fun _ => True) u243003001 x243003001_1) ∧ Aside0 (w'.heap[gbq5]? = some (.cells #[.int .i64 0, (.slice none 0 0)] 26 (0, 0))) ∧ Aside0 (w'.heap[gbq6]? = some (.cells #[.int .i64 a2, u243003001] 26 (0, 0))) ∧ Aside0 (Below w.heap.size w w'))
 case atStart => exact ⟨(0), (([] : List Int)), (.slice none 0 0), rs_, H', ⟨Nat.le_refl _⟩, ⟨by first | exact Kd.y6 _ _ _ _ _ | exact Kd.B4 _ _ _ _ _ | exact Kd.V_nil _ _ _ _ _ | exact Kd.B5 _ _ _ _ _ | exact Kd.B7 _ _ _ _ _⟩, ⟨af BKq5⟩, ⟨af BKq6⟩, ⟨a6 HB GEq5 GEq6⟩⟩
 clear H'; try clear c3
 try clear hcz10_0
 try clear hcz10_1
 try clear hfz10_0
 try clear hfz10_1
 obtain ⟨x11_1, x243003001_1, u243003001, rfl, HA, HK1, HO_243003001, BKq5, BKq6, HB⟩ := hrel; rcases gk with _ | k1
 ·exact absurd HA.out (by simp [bS.l0])
 have H := HA.out; clear HA; simp only [bS.l0] at H; replace H := bo H; obtain ⟨tq0, A12, H⟩ := H; replace H := ckD H; obtain ⟨c13b0, H⟩ | ⟨c13b0, H⟩ := H
 ·replace H := bo H; obtain ⟨tq1, A14, H⟩ := H; replace H := ckE H; obtain ⟨c15b0, c15b1, H⟩ | ⟨c15, c15b0, c15b1, H⟩ := H
  ·replace H := bo H; obtain ⟨tq2, A16, H⟩ := H; replace H := ckE H; obtain ⟨c17b0, c17b1, H⟩ | ⟨c17, c17b0, c17b1, H⟩ := H
   ·replace H := gdA H; obtain ⟨LMc18, H⟩ := H; obtain ⟨yq7, hyq7⟩ : ∃ y_ : List Int, y_ = (x243003001_1 ++ [x11_1]) := ⟨_, rfl⟩; replace H : (bS.l0 k1 a0 a1 a2 l3 tq4 (wrap64 (x11_1 + 1)) a2 yq7) = some (r1, r2) := by first | (rw [hyq7]; with_reducible exact H) | (rw [hyq7]; exact H)
    have Nyq7 := aQ hyq7; clear hyq7; have H' := aQ H; clear H; go_wp2_with (first | (refine gt 104 ?_; refine gcD (some 23) func104 (aM.n0 a2 tq0 _ A12.out) ?_; intro nd; (try (rw [cU wr]; generalize hq_ : World.drewN wr _ = wr; have n0_ : Aside0 (Kd.R (Kd.int .i64) 3 wr w.heap.size (fun _ => True) u243003001 x243003001_1) := ⟨by rw [← hq_]; exact (ab HO_243003001)⟩; have n1_ : Aside0 (wr.heap[gbq5]? = some (.cells #[.int .i64 0, .slice none 0 0] 26 (0, 0))) := ⟨by rw [← hq_]; exact (af BKq5)⟩; have n2_ : Aside0 (wr.heap[gbq6]? = some (.cells #[.int .i64 a2, u243003001] 26 (0, 0))) := ⟨by rw [← hq_]; exact (af BKq6)⟩; have n3_ : Aside0 (Below w.heap.size w wr) := ⟨by rw [← hq_]; exact (a6 HB GEq5 GEq6)⟩; clear HO_243003001 BKq5 BKq6 HB hq_; have HO_243003001 := n0_; have BKq5 := n1_; have BKq6 := n2_; have HB := n3_; clear n0_ n1_ n2_ n3_))) | (refine gt 22 ?_; refine gcD (some 28) func22 (az.n0 k1 x11_1 tq1 _ A14.out) ?_; intro nd; (try (rw [cU wr]; generalize hq_ : World.drewN wr _ = wr; have n0_ : Aside0 (Kd.R (Kd.int .i64) 3 wr w.heap.size (fun _ => True) u243003001 x243003001_1) := ⟨by rw [← hq_]; exact (ab HO_243003001)⟩; have n1_ : Aside0 (wr.heap[gbq5]? = some (.cells #[.int .i64 0, .slice none 0 0] 26 (0, 0))) := ⟨by rw [← hq_]; exact (af BKq5)⟩; have n2_ : Aside0 (wr.heap[gbq6]? = some (.cells #[.int .i64 a2, u243003001] 26 (0, 0))) := ⟨by rw [← hq_]; exact (af BKq6)⟩; have n3_ : Aside0 (Below w.heap.size w wr) := ⟨by rw [← hq_]; exact (a6 HB GEq5 GEq6)⟩; clear HO_243003001 BKq5 BKq6 HB hq_; have HO_243003001 := n0_; have BKq5 := n1_; have BKq6 := n2_; have HB := n3_; clear n0_ n1_ n2_ n3_))) | (go_at_call 275; (with_reducible refine (ak.n0 k1 a0 a1 a2 _ _ l3 x11_1 tq2 _ ?side1 ?side2 A16.out).mono ?_); (case side1 => exact pC (Cbel HR3 HB)); (case side2 => exact HC3.out); rintro e w19 ⟨rfl, hb⟩; replace HO_243003001 := aQ (Kd.o1 (ab HO_243003001) hb); replace BKq5 := bb BKq5 hb; replace BKq6 := bb BKq6 hb; replace HB := bs HB hb; (try clear hb); have := NBq6_q5.out; have := NBq5_q6.out; obtain ⟨_, _, _, _⟩ := cz2 BKq6) | ((with_reducible refine gate_builtin (b := .append) (xs := #[.tmp 42, .tmp 44]) rfl ?_); at_builtin; refine ap (ok := fun _ => True) (.tmp 42) (.tmp 44) underlying24 cv u243003001 x243003001_1 Nyq7 LMc18 (ab HO_243003001) ?_; intro vq8 w22 ho hb hg hat; replace BKq5 := aQ (bA (g := gbq5) (o := .cells #[.int .i64 0, .slice none 0 0] 26 (0, 0)) (af BKq5) hg (Kd.r8 HO_243003001.out BKq5.out (by decide))); replace BKq6 := aQ (bA (g := gbq6) (o := .cells #[.int .i64 a2, u243003001] 26 (0, 0)) (af BKq6) hg (Kd.r8 HO_243003001.out BKq6.out (by decide))); replace HB := aQ (hb); have HOq9 := aQ (ho); clear HO_243003001; clear ho hb hg hat; obtain ⟨Ao23, co23, eo23⟩ := Kd.n8 HOq9.out; subst eo23; obtain ⟨_, _, _, _⟩ := cz2 BKq6))
    go_roundg k1
    case measure => exact omeg HK1
    case rel => exact ⟨(wrap64 (x11_1 + 1)), (yq7), (.slice Ao23 yq7.length co23), rs_, H', ⟨omeg HK1⟩, ⟨by refine pRx ?_; exact rf1 HOq9 BKq6⟩, ⟨by refine pkx ?_; refine au ?_ NBq5_q6.out _; refine pkx ?_; exact BKq5.out⟩, ⟨by refine pkx ?_; refine ai (cs := #[.int .i64 a2, u243003001]) ?_ 1 _ rfl; refine pkx ?_; exact BKq6.out⟩, ⟨a6 HB GEq5 GEq6⟩⟩
   ·have H' := aQ H; clear H; go_wp2_with (first | (refine gt 104 ?_; refine gcD (some 23) func104 (aM.n0 a2 tq0 _ A12.out) ?_; intro nd) | (refine gt 22 ?_; refine gcD (some 28) func22 (az.n0 k1 x11_1 tq1 _ A14.out) ?_; intro nd) | (go_at_call 275; (with_reducible refine (ak.n0 k1 a0 a1 a2 _ _ l3 x11_1 tq2 _ ?side1 ?side2 A16.out).mono ?_); (case side1 => exact pC ((Kd.n9 HR3.out (a6 HB GEq5 GEq6)))); (case side2 => exact HC3.out); rintro e w25 ⟨rfl, hb⟩; replace HO_243003001 := aQ (Kd.o1 (ab HO_243003001) hb); replace BKq5 := bb BKq5 hb; replace BKq6 := bb BKq6 hb; replace HB := bs HB hb; (try clear hb)))
    go_roundg k1
    case measure => exact omeg HK1
    case rel => exact ⟨(wrap64 (x11_1 + 1)), (x243003001_1), (u243003001), rs_, H', ⟨omeg HK1⟩, ⟨ab HO_243003001⟩, ⟨af BKq5⟩, ⟨af BKq6⟩, ⟨a6 HB GEq5 GEq6⟩⟩
  ·have H' := aQ H; clear H; go_wp2_with (first | (refine gt 104 ?_; refine gcD (some 23) func104 (aM.n0 a2 tq0 _ A12.out) ?_; intro nd) | (refine gt 22 ?_; refine gcD (some 28) func22 (az.n0 k1 x11_1 tq1 _ A14.out) ?_; intro nd))
   go_roundg k1
   case measure => exact omeg HK1
   case rel => exact ⟨(wrap64 (x11_1 + 1)), (x243003001_1), (u243003001), rs_, H', ⟨omeg HK1⟩, ⟨ab HO_243003001⟩, ⟨af BKq5⟩, ⟨af BKq6⟩, ⟨a6 HB GEq5 GEq6⟩⟩
 ·obtain ⟨rfl, rfl⟩ := o2 H; go_wp2_with (first | (refine gt 104 ?_; refine gcD (some 23) func104 (aM.n0 a2 tq0 _ A12.out) ?_; intro nd; (try (rw [cU wr]; generalize hq_ : World.drewN wr _ = wr; have n0_ : Aside0 (Kd.R (Kd.int .i64) 3 wr w.heap.size (fun _ => True) u243003001 x243003001_1) := ⟨by rw [← hq_]; exact (ab HO_243003001)⟩; have n1_ : Aside0 (wr.heap[gbq5]? = some (.cells #[.int .i64 0, .slice none 0 0] 26 (0, 0))) := ⟨by rw [← hq_]; exact (af BKq5)⟩; have n2_ : Aside0 (wr.heap[gbq6]? = some (.cells #[.int .i64 a2, u243003001] 26 (0, 0))) := ⟨by rw [← hq_]; exact (af BKq6)⟩; have n3_ : Aside0 (Below w.heap.size w wr) := ⟨by rw [← hq_]; exact (a6 HB GEq5 GEq6)⟩; clear HO_243003001 BKq5 BKq6 HB hq_; have HO_243003001 := n0_; have BKq5 := n1_; have BKq6 := n2_; have HB := n3_; clear n0_ n1_ n2_ n3_)); have := NBq6_q5.out; have := NBq5_q6.out; obtain ⟨_, _, _, _⟩ := cz2 BKq6; obtain ⟨_, _, _, _⟩ := cz2 BKq5; obtain ⟨Ao29, co29, eo29⟩ := Kd.n8 HO_243003001.out; subst eo29))
  refine bodyPost_ret (results_cell_row rfl _ _ gbq5 26 #[.int .i64 a2, .slice Ao29 x243003001_1.length co29] (0, 0) _ rfl (by refine pkx ?_; refine ai (cs := #[.int .i64 a2, .slice none 0 0]) ?_ 1 _ rfl; refine pkx ?_; refine ai (cs := #[.int .i64 0, .slice none 0 0]) ?_ 0 _ rfl; refine pkx ?_; exact BKq5.out) underlying26 rfl (by kernel_rfl)) rfl ?_; exact ⟨_, re_, by refine pRx ?_; exact rf HO_243003001 BKq5, a6 HB GEq5 GEq6⟩
def bv.l0 : Nat → Int → Int → Int → List Int → Int → List Int → Int → Int → Option (Int × List Int × Int × Int)
 | 0, _, _, _, _, _, _, _, _ => none
 | k + 1, x1, x5, x6, x7, x8, xq0, xq1, xq2 => if x8 < (wrap64 (x6 * x1)) then ((an.f xq0 xq1 xq2 x5).bind fun btq3 => (if x7.length < 17592186044416 then (bv.l0 k x1 x5 x6 (x7 ++ [btq3.1]) (wrap64 (x8 + 1)) xq0 btq3.2.1 btq3.2.2) else (none))) else ((bS.f k x5 x6 x1 x7).bind fun btq4 => (some (btq4.1, btq4.2, xq1, xq2)))
def bv.f (k : Nat) (s0_0 : List Int) (s0_1 : Int) (s0_2 : Int) (a1 : Int) : Option (Int × List Int × Int × Int) := (cg.f s0_0 s0_1 s0_2 (([2, 3, 5, 2] : List Int))).bind fun btq5 => ((an.f s0_0 btq5.2.1 btq5.2.2 3).bind fun btq6 => (bv.l0 k a1 btq5.1 (wrap64 (1 + btq6.1)) (([] : List Int)) 0 s0_0 btq6.2.1 btq6.2.2))
theorem bv.n0 (k : Nat) (g : Nat) (s0_0 : List Int) (s0_1 : Int) (s0_2 : Int) (a1 : Int) (r1 : Int) (r2 : List Int) (r3 : Int) (r4 : Int) (w0 w : World) (hI : F4 w0 w g s0_0 s0_1 s0_2) (hB : Below w0.heap.size w0 w) (h : bv.f k s0_0 s0_1 s0_2 a1 = some (r1, r2, r3, r4)) :
  Calls Tryz.prog 202 #[.pointer (some ⟨g, 0, none⟩), .int .i64 a1] w fun e w' => ∃ v1_ : Value, e = .returned (.agg #[.int .i64 r1, v1_]) ∧ Kd.R (Kd.int .i64) 3 w' w.heap.size (fun _ => True) v1_ r2 ∧ F4 w0 w' g s0_0 r3 r4 ∧ Below w0.heap.size w0 w' ∧ KeepBut w w' g none := by
 have hu26 := underlying26; have HI0 := aQ hI; have HK := aQ (KeepBut.refl w g none); have HL := aQ hB.size; clear hI; have HW0 := aQ hB.size; have HB := aQ hB; clear hB; have H := h; clear h; unfold bv.f at H; (try dsimp only at H); obtain ⟨yq7, hyq7⟩ : ∃ y_ : List Int, y_ = (([2, 3, 5, 2] : List Int)) := ⟨_, rfl⟩; replace H : ((cg.f s0_0 s0_1 s0_2 yq7).bind fun btq5 => ((an.f s0_0 btq5.2.1 btq5.2.2 3).bind fun btq6 => (bv.l0 k a1 btq5.1 (wrap64 (1 + btq6.1)) (([] : List Int)) 0 s0_0 btq6.2.1 btq6.2.2))) = some (r1, r2, r3, r4) := by first | (rw [hyq7]; with_reducible exact H) | (rw [hyq7]; exact H)
 have Nyq7 := aQ hyq7; clear hyq7; replace H := bo H; obtain ⟨⟨tq5, tq8, tq9⟩, A3, H⟩ := H; (try dsimp only at H); replace H := bo H; obtain ⟨⟨tq6, tqa, tqb⟩, A4, H⟩ := H; (try dsimp only at H); obtain ⟨yqc, hyqc⟩ : ∃ y_ : List Int, y_ = (([] : List Int)) := ⟨_, rfl⟩; replace H : (bv.l0 k a1 tq5 (wrap64 (1 + tq6)) yqc 0 s0_0 tqa tqb) = some (r1, r2, r3, r4) := by first | (rw [hyqc]; with_reducible exact H) | (rw [hyqc]; exact H)
 have Nyqc := aQ hyqc; clear hyqc; have H' := aQ H; clear H; go_enter func202, ntmps202; go_wp2_with (first | (refine bX 4 #[.int .i64 0, .slice none 0 0] 26 ?_; intro gbqd hg w5 BKqd hb; replace HB := bsI HB hb; have GWqd := gw HK hg; have GEqd := ge HK HW0 hg; replace HK := kt HK hb; have NB0_qd := nI HI0 hg; have NBqd_0 := mI HI0 hg; replace HI0 := bI HI0 hb; clear hb hg) | ((with_reducible refine gate_dst (N := 10) rfl ?_); refine Kd.z8 (Kd.int .i64) _ 3 ?hg (N := 10) ?hd (xs := ([2, 3, 5, 2] : List Int)) (inner := [.int .i64 2, .int .i64 3, .int .i64 5, .int .i64 2]) (ok := fun _ => True) (okp := fun _ => True) ?hr ?hp (fun _ hk => hk) trivial (Below.refl _ _) (Nat.le_refl _) (by simp) ?_; (case hd => rfl); (case hg => rfl); (case hr => first | (go_simp; done) | (go_simp; rfl)); (case hp => exact (Reps.one (show Kd.M (Kd.int .i64) _ _ _ 2 [.int .i64 2] from rfl) (Reps.one (show Kd.M (Kd.int .i64) _ _ _ 3 [.int .i64 3] from rfl) (Reps.one (show Kd.M (Kd.int .i64) _ _ _ 5 [.int .i64 5] from rfl) (Reps.one (show Kd.M (Kd.int .i64) _ _ _ 2 [.int .i64 2] from rfl) (Reps.none _ _)))))); intro vqe w6 ho7 hb hg_ hnew_; clear hg_ hnew_; (first | rw [← Nyq7.out] at ho7 | (simp only [Int.reduceToNat] at ho7; rw [← Nyq7.out] at ho7)); have HOqf := aQ (Kd.n6 ho7 (b8 (w := w) (g := g) (row := none) (pq HK))); replace BKqd := bb BKqd hb; replace HK := kt HK hb; replace HB := bsI HB hb; replace HI0 := bI HI0 hb; clear hb ho7; obtain ⟨Ao8, co8, eo8⟩ := Kd.n8 HOqf.out; subst eo8) | (refine gt 172 ?_; refine gc (some 11) func172 (cg.n0 g s0_0 s0_1 s0_2 _ _ yq7 tq5 tq8 tq9 w0 _ (pi_ HI0) (pbI HB) (pC ((Kd.n5 HOqf.out).2.2)) ((Kd.n5 HOqf.out).2.1) (fP (F4.z7 HI0.out HOqf.out (by decide))) A3.out) ?_; rintro e w9 ⟨rfl, hi, hb, hk⟩; refine ⟨_, rfl, ?_⟩; replace BKqd := kk BKqd hk NBqd_0.out; replace HOqf := rk HI0 HOqf hk; replace HK := kh HK hk; replace HB := aQ (hb); replace HI0 := aQ (hi); (try clear hb); (try clear hk); (try clear hi)) | (refine gt 99 ?_; refine gc (some 13) func99 (an.n0 g s0_0 tq8 tq9 3 tq6 tqa tqb w0 _ (pi_ HI0) (pbI HB) A4.out) ?_; rintro e w10 ⟨rfl, hi, hb, hk⟩; refine ⟨_, rfl, ?_⟩; replace BKqd := kk BKqd hk NBqd_0.out; replace HOqf := rk HI0 HOqf hk; replace HK := kh HK hk; replace HB := aQ (hb); replace HI0 := aQ (hi); (try clear hb); (try clear hk); (try clear hi)) | (refine lI (d := Kd.int .i64) 15 Nyqc ?_; intro vqg w11 ho12 hb; have HOqh := aQ (Kd.n6 (Kd.q8 ho12 (Kd.r6 (ab HOqf))) (b8 (w := w) (g := g) (row := none) (pq HK))); replace HOqf := aQ (Kd.o8 (ab HOqf) (Kd.p8 ho12) hb); replace BKqd := bb BKqd hb; replace HK := kt HK hb; replace HB := bsI HB hb; replace HI0 := bI HI0 hb; clear hb ho12))
 go_loopg [7, 8] k (fun kq v7 v8 w' => ∃ (x7_1 : List Int) (x8_1 : Int) (xq1_1 : Int) (xq2_1 : Int), v8 = .int .i64 x8_1 ∧ Aside0 (bv.l0 kq a1 tq5 (wrap64 (1 + tq6)) x7_1 x8_1 s0_0 xq1_1 xq2_1 = some (r1, r2, r3, r4)) ∧ Aside0 (kq ≤ k) ∧ Aside0 (Kd.R (Kd.int .i64) 3 w' w.heap.size (fun _ => True) v7 x7_1) ∧ Aside0 (w'.heap[gbqd]? = some (.cells #[.int .i64 0, (.slice none 0 0)] 26 (0, 0))) ∧ Aside0 (F4 w0 w' g s0_0 xq1_1 xq2_1) ∧ Aside0 (KeepBut w w' g none) ∧ Aside0 (Below w0.heap.size w0 w'))
 case atStart => exact ⟨(yqc), (0), (tqa), (tqb), rs_, H', ⟨Nat.le_refl _⟩, ⟨by refine pRx ?_; exact Kd.n7 HOqh.out (fun _ hk => trivial)⟩, ⟨af BKqd⟩, ⟨pi_ HI0⟩, ⟨pq HK⟩, ⟨pbI HB⟩⟩
 clear H'; obtain ⟨x7_1, x8_1, xq1_1, xq2_1, rfl, HA, HK1, HO_7, BKqd, HI0, HK, HB⟩ := hrel; rcases gk with _ | k1
 ·exact absurd HA.out (by simp [bv.l0])
 have H := HA.out; clear HA; simp only [bv.l0] at H; replace H := ckD H; obtain ⟨c13b0, H⟩ | ⟨c13b0, H⟩ := H
 ·replace H := bo H; obtain ⟨⟨tq3, tqi, tqj⟩, A14, H⟩ := H; (try dsimp only at H); replace H := gdA H; obtain ⟨LMc15, H⟩ := H; obtain ⟨yqk, hyqk⟩ : ∃ y_ : List Int, y_ = (x7_1 ++ [tq3]) := ⟨_, rfl⟩; replace H : (bv.l0 k1 a1 tq5 (wrap64 (1 + tq6)) yqk (wrap64 (x8_1 + 1)) s0_0 tqi tqj) = some (r1, r2, r3, r4) := by first | (rw [hyqk]; with_reducible exact H) | (rw [hyqk]; exact H)
  have Nyqk := aQ hyqk; clear hyqk; have H' := aQ H; clear H; go_wp2_with (first | (refine gt 99 ?_; refine gc (some 26) func99 (an.n0 g s0_0 xq1_1 xq2_1 tq5 tq3 tqi tqj w0 _ (pi_ HI0) (pbI HB) A14.out) ?_; rintro e w16 ⟨rfl, hi, hb, hk⟩; refine ⟨_, rfl, ?_⟩; replace HO_7 := rk HI0 HO_7 hk; replace BKqd := kk BKqd hk NBqd_0.out; replace HK := kh HK hk; replace HB := aQ (hb); replace HI0 := aQ (hi); (try clear hb); (try clear hk); (try clear hi)) | ((with_reducible refine gate_builtin (b := .append) (xs := #[.tmp 23, .tmp 27]) rfl ?_); at_builtin; refine Kd.u4 (Kd.int .i64) w.heap.size rfl (.tmp 23) (.tmp 27) 24 3 (.int .i64 0) 8 rfl underlying24 cv rfl (by decide) (by omega) u7 x7_1 tq3 [.int .i64 tq3] (fun _ => True) (fun _ => False) rfl rfl ?aP (fun _ hk => hk.elim) ?aF ?aO (Below.refl _ _) ?aS ?aL ?_; (case aP => exact rfl); (case aF => exact (fun _ _ => trivial)); (case aO => exact (ab HO_7)); (case aS => exact (b8 (w := w) (g := g) (row := none) (pq HK))); (case aL => have := LMc15.out; omega); intro vql w17 ho hb hg hat; rw [← Nyqk.out] at ho; replace BKqd := aQ (bA (g := gbqd) (o := .cells #[.int .i64 0, .slice none 0 0] 26 (0, 0)) (af BKqd) hg (Kd.r8 HO_7.out BKqd.out (by decide))); replace HB := aQ (en (pbI HB) HL.out hb); replace HI0 := aQ (F4.grown (pi_ HI0) hg (F4.z7 HI0.out HO_7.out (by decide))); replace HK := aQ (KeepBut.trans (pq HK) (KeepBut.C0 hg g) (Kd.C4 HO_7.out)); have HOqm := aQ (ho); clear HO_7; clear ho hb hg hat))
  go_roundg k1
  case measure => exact omeg HK1
  case rel => exact ⟨(yqk), (wrap64 (x8_1 + 1)), (tqi), (tqj), rs_, H', ⟨omeg HK1⟩, ⟨ab HOqm⟩, ⟨af BKqd⟩, ⟨pi_ HI0⟩, ⟨pq HK⟩, ⟨pbI HB⟩⟩
 ·replace H := bo H; obtain ⟨⟨tq4, tqn⟩, A18, H⟩ := H; (try dsimp only at H); obtain ⟨rfl, rfl, rfl, rfl⟩ := o4 H; obtain ⟨Ao19, co19, eo19⟩ := Kd.n8 HO_7.out; subst eo19; go_wp2_with (first | (refine gt 242 ?_; refine gc (some 33) func242 (bS.n0 k1 tq5 (wrap64 (1 + tq6)) a1 _ _ x7_1 tq4 tqn _ (pC ((Kd.n5 HO_7.out).2.2)) ((Kd.n5 HO_7.out).2.1) A18.out) ?_; rintro e w20 ⟨vqo, rfl, ho0, hb⟩; refine ⟨_, rfl, ?_⟩; have HOqp := aQ (Kd.n6 (Kd.q8 ho0 (Kd.r6 (ab HO_7))) (b8 (w := w) (g := g) (row := none) (pq HK))); replace HO_7 := aQ (Kd.o8 (ab HO_7) (Kd.p8 ho0) hb); replace BKqd := bb BKqd hb; replace HK := kt HK hb; replace HB := bsI HB hb; replace HI0 := bI HI0 hb; (try clear hb); (try clear ho0); have := NBqd_0.out; have := NB0_qd.out; obtain ⟨_, _, _, _⟩ := cz2 BKqd; obtain ⟨Ao23, co23, eo23⟩ := Kd.n8 HOqp.out; subst eo23))
  refine bodyPost_ret (results_cell_row rfl _ _ gbqd 26 #[.int .i64 tq4, .slice Ao23 tqn.length co23] (0, 0) _ rfl (by refine pkx ?_; refine ai (cs := #[.int .i64 tq4, .slice none 0 0]) ?_ 1 _ rfl; refine pkx ?_; refine ai (cs := #[.int .i64 0, .slice none 0 0]) ?_ 0 _ rfl; refine pkx ?_; exact BKqd.out) underlying26 rfl (by kernel_rfl)) rfl ?_; exact ⟨_, re_, by refine pRx ?_; exact rf HOqp BKqd, pi_ HI0, pbI HB, pq HK⟩
mutual
def br.j0 : Nat → Int → Int → Bool → Option (Int × List Int)
 | 0, _, _, _ => none
 | k + 1, x0, x1, x15 => if x15 = true then (some (0, ([] : List Int))) else (br.l0 k x0 x1 0 x1 ([] : List Int))
def br.l0 : Nat → Int → Int → Int → Int → List Int → Option (Int × List Int)
 | 0, _, _, _, _, _ => none
 | k + 1, x0, x1, x6, x225005000, x225005001 => (aM.f x1).bind fun tq0 => (if x6 ≤ tq0 then ((az.f k x6).bind fun tq1 => (if tq1 = x0 then (if x225005001.length < 17592186044416 then (br.l0 k x0 x1 (wrap64 (x6 + 1)) x225005000 (x225005001 ++ [x6])) else (none)) else (br.l0 k x0 x1 (wrap64 (x6 + 1)) x225005000 x225005001))) else (some (x225005000, x225005001)))
end
def br.f (k : Nat) (a0 : Int) (a1 : Int) : Option (Int × List Int) := (bE.f a1 0 8).bind fun tq2 => (if tq2 = true then ((bE.f a0 0 a1).bind fun tq3 => (br.j0 k a0 a1 (!tq3))) else (br.j0 k a0 a1 true))
theorem br.n0 (k : Nat) (a0 : Int) (a1 : Int) (r1 : Int) (r2 : List Int) (w : World) (h : br.f k a0 a1 = some (r1, r2)) :
  Calls Tryz.prog 224 #[.int .i64 a0, .int .i64 a1] w fun e w' => ∃ v1_ : Value, e = .returned (.agg #[.int .i64 r1, v1_]) ∧ Kd.R (Kd.int .i64) 3 w' w.heap.size (fun _ => True) v1_ r2 ∧ Below w.heap.size w w' := by
 have hu26 := underlying26; have HB := aQ (Below.refl w.heap.size w); have H := h; clear h; unfold br.f at H; (try dsimp only at H); have HC3 := aQ H; clear H; go_enter func224, ntmps224; go_upto_region 1 with (first | (refine bX 4 #[.int .i64 0, .slice none 0 0] 26 ?_; intro gbq4 hg w4 BKq4 hb; have GEq4 := gB HB hg; replace HB := bs HB hb; clear hb hg))
 (try simp only [Act.put, List.setIfInBounds_toArray, List.set_cons_zero, List.set_cons_succ]); go_cut [15] (fun v15 wc => ∃ (kq : Nat) (x15_2 : Bool), v15 = .bool x15_2 ∧ Aside0 (br.j0 kq a0 a1 x15_2 = some (r1, r2)) ∧ Aside0 (kq ≤ k) ∧ Aside0 (wc.heap[gbq4]? = some (.cells #[.int .i64 0, (.slice none 0 0)] 26 (0, 0))) ∧ Aside0 (Below w.heap.size w wc))
 case first =>
  have H := HC3.out; clear HC3; replace H := bo H; obtain ⟨tq2, A5, H⟩ := H; replace H := ckB H; obtain ⟨rfl, H⟩ | ⟨rfl, H⟩ := H
  ·replace H := bo H; obtain ⟨tq3, A7, H⟩ := H; have H' := aQ H; clear H; go_wp2_with (first | (refine gt 116 ?_; refine gcD (some 8) func116 (bE.n0 a1 0 8 true _ A5.out) ?_; intro nd) | (go_at_call 116; (with_reducible refine (bE.n0 a0 0 a1 tq3 _ A7.out).mono ?_); rintro e w' ⟨rfl, ⟨nd, rfl⟩⟩))
   go_meet
   case rel => exact ⟨_, (!tq3), rs_, H', ⟨by first | omega | exact Nat.le_refl _⟩, ⟨af BKq4⟩, ⟨am HB GEq4⟩⟩
  ·have H' := aQ H; clear H; go_wp2_with (first | (refine gt 116 ?_; refine gcD (some 8) func116 (bE.n0 a1 0 8 false _ A5.out) ?_; intro nd))
   go_meet
   case rel => exact ⟨_, (true), rs_, H', ⟨by first | omega | exact Nat.le_refl _⟩, ⟨af BKq4⟩, ⟨am HB GEq4⟩⟩
 case rest =>
  clear HC3; obtain ⟨kq, x15_2, rfl, HA, HJ2, BKq4, HB⟩ := hcut; cases kq with
  | zero => exact absurd HA.out (by simp [br.j0])
  | succ kj2 =>
   have H := HA.out; clear HA; simp only [br.j0] at H; replace H := ckB H; obtain ⟨rfl, H⟩ | ⟨rfl, H⟩ := H
   ·obtain ⟨rfl, rfl⟩ := o2 H; obtain ⟨_, _, _, _⟩ := cz2 BKq4; go_wp2
    refine bodyPost_ret (results_cell_row rfl _ _ gbq4 26 #[.int .i64 0, .slice none 0 0] (0, 0) _ rfl (by refine pkx ?_; refine ai (cs := #[.int .i64 0, .slice none 0 0]) ?_ 1 _ rfl; refine pkx ?_; refine ai (cs := #[.int .i64 0, .slice none 0 0]) ?_ 0 _ rfl; refine pkx ?_; exact BKq4.out) underlying26 rfl (by kernel_rfl)) rfl ?_; exact ⟨_, by first | rfl | (simp [errW_none, bK] <;> rfl) | (simp [*, errW_none, bK] <;> rfl), by first | exact Kd.y6 _ _ _ _ _ | exact Kd.B4 _ _ _ _ _ | exact Kd.V_nil _ _ _ _ _ | exact Kd.B5 _ _ _ _ _ | exact Kd.B7 _ _ _ _ _, am HB GEq4⟩
   ·have H' := aQ H; clear H; go_wp2_with (first | (refine bX 5 #[.int .i64 0, .slice none 0 0] 26 ?_; intro gbq5 hg w10 BKq5 hb; have GEq5 := gB HB hg; replace HB := bs HB hb; have NBq4_q5 := nl BKq4 hg; have NBq5_q4 := ng BKq4 hg; replace BKq4 := bb BKq4 hb; clear hb hg; have := NBq5_q4.out; have := NBq4_q5.out; obtain ⟨hcz12_0, hcz12_1, hfz12_0, hfz12_1⟩ := cz2 BKq5))
    go_loopg [6] kj2 (fun kq v6 w' => ∃ (x6_2 : Int) (x225005001_2 : List Int) (u225005001 : Value), v6 = .int .i64 x6_2 ∧ Aside0 (br.l0 kq a0 a1 x6_2 a1 x225005001_2 = some (r1, r2)) ∧ Aside0 (kq ≤ kj2) ∧ Aside0 (Kd.R (Kd.int .i64) 3 w' w.heap.size (fun _ => True) u225005001 x225005001_2) ∧ Aside0 (w'.heap[gbq4]? = some (.cells #[.int .i64 0, (.slice none 0 0)] 26 (0, 0))) ∧ Aside0 (w'.heap[gbq5]? = some (.cells #[.int .i64 a1, u225005001] 26 (0, 0))) ∧ Aside0 (Below w.heap.size w w'))
    case atStart => exact ⟨(0), (([] : List Int)), (.slice none 0 0), rs_, H', ⟨Nat.le_refl _⟩, ⟨by first | exact Kd.y6 _ _ _ _ _ | exact Kd.B4 _ _ _ _ _ | exact Kd.V_nil _ _ _ _ _ | exact Kd.B5 _ _ _ _ _ | exact Kd.B7 _ _ _ _ _⟩, ⟨by refine pkx ?_; refine au ?_ NBq4_q5.out _; refine pkx ?_; refine au ?_ NBq4_q5.out _; refine pkx ?_; exact BKq4.out⟩, ⟨by refine pkx ?_; refine ai (cs := #[.int .i64 a1, .slice none 0 0]) ?_ 1 _ rfl; refine pkx ?_; refine ai (cs := #[.int .i64 0, .slice none 0 0]) ?_ 0 _ rfl; refine pkx ?_; exact BKq5.out⟩, ⟨a6 HB GEq4 GEq5⟩⟩
    clear H'; try clear c8
    try clear hcz12_0
    try clear hcz12_1
    try clear hfz12_0
    try clear hfz12_1
    obtain ⟨x6_2, x225005001_2, u225005001, rfl, HA, HK2, HO_225005001, BKq4, BKq5, HB⟩ := hrel; rcases gk with _ | k2
    ·exact absurd HA.out (by simp [br.l0])
    have H := HA.out; clear HA; simp only [br.l0] at H; replace H := bo H; obtain ⟨tq0, A13, H⟩ := H; replace H := ckD H; obtain ⟨c14b0, H⟩ | ⟨c14b0, H⟩ := H
    ·replace H := bo H; obtain ⟨tq1, A15, H⟩ := H; replace H := ckE H; obtain ⟨c16b0, c16b1, H⟩ | ⟨c16, c16b0, c16b1, H⟩ := H
     ·replace H := gdA H; obtain ⟨LMc17, H⟩ := H; obtain ⟨yq6, hyq6⟩ : ∃ y_ : List Int, y_ = (x225005001_2 ++ [x6_2]) := ⟨_, rfl⟩; replace H : (br.l0 k2 a0 a1 (wrap64 (x6_2 + 1)) a1 yq6) = some (r1, r2) := by first | (rw [hyq6]; with_reducible exact H) | (rw [hyq6]; exact H)
      have Nyq6 := aQ hyq6; clear hyq6; have H' := aQ H; clear H; go_wp2_with (first | (refine gt 104 ?_; refine gcD (some 21) func104 (aM.n0 a1 tq0 _ A13.out) ?_; intro nd; (try (rw [cU wr]; generalize hq_ : World.drewN wr _ = wr; have n0_ : Aside0 (Kd.R (Kd.int .i64) 3 wr w.heap.size (fun _ => True) u225005001 x225005001_2) := ⟨by rw [← hq_]; exact (ab HO_225005001)⟩; have n1_ : Aside0 (wr.heap[gbq4]? = some (.cells #[.int .i64 0, .slice none 0 0] 26 (0, 0))) := ⟨by rw [← hq_]; exact (af BKq4)⟩; have n2_ : Aside0 (wr.heap[gbq5]? = some (.cells #[.int .i64 a1, u225005001] 26 (0, 0))) := ⟨by rw [← hq_]; exact (af BKq5)⟩; have n3_ : Aside0 (Below w.heap.size w wr) := ⟨by rw [← hq_]; exact (a6 HB GEq4 GEq5)⟩; clear HO_225005001 BKq4 BKq5 HB hq_; have HO_225005001 := n0_; have BKq4 := n1_; have BKq5 := n2_; have HB := n3_; clear n0_ n1_ n2_ n3_))) | (refine gt 22 ?_; refine gcD (some 26) func22 (az.n0 k2 x6_2 tq1 _ A15.out) ?_; intro nd; (try (rw [cU wr]; generalize hq_ : World.drewN wr _ = wr; have n0_ : Aside0 (Kd.R (Kd.int .i64) 3 wr w.heap.size (fun _ => True) u225005001 x225005001_2) := ⟨by rw [← hq_]; exact (ab HO_225005001)⟩; have n1_ : Aside0 (wr.heap[gbq4]? = some (.cells #[.int .i64 0, .slice none 0 0] 26 (0, 0))) := ⟨by rw [← hq_]; exact (af BKq4)⟩; have n2_ : Aside0 (wr.heap[gbq5]? = some (.cells #[.int .i64 a1, u225005001] 26 (0, 0))) := ⟨by rw [← hq_]; exact (af BKq5)⟩; have n3_ : Aside0 (Below w.heap.size w wr) := ⟨by rw [← hq_]; exact (a6 HB GEq4 GEq5)⟩; clear HO_225005001 BKq4 BKq5 HB hq_; have HO_225005001 := n0_; have BKq4 := n1_; have BKq5 := n2_; have HB := n3_; clear n0_ n1_ n2_ n3_)); have := NBq5_q4.out; have := NBq4_q5.out; obtain ⟨_, _, _, _⟩ := cz2 BKq5) | ((with_reducible refine gate_builtin (b := .append) (xs := #[.tmp 30, .tmp 32]) rfl ?_); at_builtin; refine ap (ok := fun _ => True) (.tmp 30) (.tmp 32) underlying24 cv u225005001 x225005001_2 Nyq6 LMc17 (ab HO_225005001) ?_; intro vq7 w20 ho hb hg hat; replace BKq4 := aQ (bA (g := gbq4) (o := .cells #[.int .i64 0, .slice none 0 0] 26 (0, 0)) (af BKq4) hg (Kd.r8 HO_225005001.out BKq4.out (by decide))); replace BKq5 := aQ (bA (g := gbq5) (o := .cells #[.int .i64 a1, u225005001] 26 (0, 0)) (af BKq5) hg (Kd.r8 HO_225005001.out BKq5.out (by decide))); replace HB := aQ (hb); have HOq8 := aQ (ho); clear HO_225005001; clear ho hb hg hat; obtain ⟨Ao21, co21, eo21⟩ := Kd.n8 HOq8.out; subst eo21; obtain ⟨_, _, _, _⟩ := cz2 BKq5))
      go_roundg k2
      case measure => have := HJ2.out; have := HK2.out; omega
      case rel => exact ⟨(wrap64 (x6_2 + 1)), (yq6), (.slice Ao21 yq6.length co21), rs_, H', ⟨by have := HJ2.out; have := HK2.out; omega⟩, ⟨by refine pRx ?_; exact rf1 HOq8 BKq5⟩, ⟨by refine pkx ?_; refine au ?_ NBq4_q5.out _; refine pkx ?_; exact BKq4.out⟩, ⟨by refine pkx ?_; refine ai (cs := #[.int .i64 a1, u225005001]) ?_ 1 _ rfl; refine pkx ?_; exact BKq5.out⟩, ⟨a6 HB GEq4 GEq5⟩⟩
     ·have H' := aQ H; clear H; go_wp2_with (first | (refine gt 104 ?_; refine gcD (some 21) func104 (aM.n0 a1 tq0 _ A13.out) ?_; intro nd) | (refine gt 22 ?_; refine gcD (some 26) func22 (az.n0 k2 x6_2 tq1 _ A15.out) ?_; intro nd))
      go_roundg k2
      case measure => have := HJ2.out; have := HK2.out; omega
      case rel => exact ⟨(wrap64 (x6_2 + 1)), (x225005001_2), (u225005001), rs_, H', ⟨by have := HJ2.out; have := HK2.out; omega⟩, ⟨ab HO_225005001⟩, ⟨af BKq4⟩, ⟨af BKq5⟩, ⟨a6 HB GEq4 GEq5⟩⟩
    ·obtain ⟨rfl, rfl⟩ := o2 H; go_wp2_with (first | (refine gt 104 ?_; refine gcD (some 21) func104 (aM.n0 a1 tq0 _ A13.out) ?_; intro nd; (try (rw [cU wr]; generalize hq_ : World.drewN wr _ = wr; have n0_ : Aside0 (Kd.R (Kd.int .i64) 3 wr w.heap.size (fun _ => True) u225005001 x225005001_2) := ⟨by rw [← hq_]; exact (ab HO_225005001)⟩; have n1_ : Aside0 (wr.heap[gbq4]? = some (.cells #[.int .i64 0, .slice none 0 0] 26 (0, 0))) := ⟨by rw [← hq_]; exact (af BKq4)⟩; have n2_ : Aside0 (wr.heap[gbq5]? = some (.cells #[.int .i64 a1, u225005001] 26 (0, 0))) := ⟨by rw [← hq_]; exact (af BKq5)⟩; have n3_ : Aside0 (Below w.heap.size w wr) := ⟨by rw [← hq_]; exact (a6 HB GEq4 GEq5)⟩; clear HO_225005001 BKq4 BKq5 HB hq_; have HO_225005001 := n0_; have BKq4 := n1_; have BKq5 := n2_; have HB := n3_; clear n0_ n1_ n2_ n3_)); have := NBq5_q4.out; have := NBq4_q5.out; obtain ⟨_, _, _, _⟩ := cz2 BKq5; obtain ⟨_, _, _, _⟩ := cz2 BKq4; obtain ⟨Ao26, co26, eo26⟩ := Kd.n8 HO_225005001.out; subst eo26))
     refine bodyPost_ret (results_cell_row rfl _ _ gbq4 26 #[.int .i64 a1, .slice Ao26 x225005001_2.length co26] (0, 0) _ rfl (by refine pkx ?_; refine ai (cs := #[.int .i64 a1, .slice none 0 0]) ?_ 1 _ rfl; refine pkx ?_; refine ai (cs := #[.int .i64 0, .slice none 0 0]) ?_ 0 _ rfl; refine pkx ?_; exact BKq4.out) underlying26 rfl (by kernel_rfl)) rfl ?_; exact ⟨_, re_, by refine pRx ?_; exact rf HO_225005001 BKq4, a6 HB GEq4 GEq5⟩
def aN.l0 : Nat → ByteArray → Int → List ByteArray → Int → Int → Option (List ByteArray)
 | 0, _, _, _, _, _ => none
 | k + 1, x0, x1, x5, x6, x7 => if x7 ≤ (x0.size : Int) then (if x7 = (x0.size : Int) then (if 0 ≤ x6 then (if x6 ≤ x7 then (if x5.length < 8796093022208 then (aN.l0 k x0 x1 (x5 ++ [x0.extract (x6 : Int).toNat (x7 : Int).toNat]) (wrap64 (x7 + 1)) (wrap64 (x7 + 1))) else (none)) else (none)) else (none)) else (if 0 ≤ x7 then (if x7 < (x0.size : Int) then (if (bt x0 x7) = x1 then (if 0 ≤ x6 then (if x6 ≤ x7 then (if x5.length < 8796093022208 then (aN.l0 k x0 x1 (x5 ++ [x0.extract (x6 : Int).toNat (x7 : Int).toNat]) (wrap64 (x7 + 1)) (wrap64 (x7 + 1))) else (none)) else (none)) else (none)) else (aN.l0 k x0 x1 x5 x6 (wrap64 (x7 + 1)))) else (none)) else (none))) else (some x5)
def aN.f (k : Nat) (a0 : ByteArray) (a1 : Int) : Option (List ByteArray) := aN.l0 k a0 a1 (([] : List ByteArray)) 0 0
theorem aN.o6 : ∀ k, (∀ y0 y1 y2 y3 y4, LeO (aN.l0 k y0 y1 y2 y3 y4) (aN.l0 (k + 1) y0 y1 y2 y3 y4))
 | 0 => fun _ _ _ _ _ r h => by simp [aN.l0] at h
 | k + 1 => by
  have ih0 := aN.o6 k
  ·intro y0 y1 y2 y3 y4; unfold aN.l0; exact mn_
theorem aN.mono : ∀ a0 a1 k, LeO (aN.f k a0 a1) (aN.f (k + 1) a0 a1) := by
 intro a0 a1 k; have ih0 := aN.o6 k; unfold aN.f; exact mn_
theorem aN.n0 (k : Nat) (a0 : ByteArray) (a1 : Int) (r : List ByteArray) (w : World) (h : aN.f k a0 a1 = some r) :
  Calls Tryz.prog 283 #[.string a0, .int .u8 a1] w fun e w' => ∃ v0_ : Value, e = .returned (v0_) ∧ Kd.R Kd.string 9 w' w.heap.size (fun _ => True) v0_ r ∧ Below w.heap.size w w' := by
 have HB := aQ (Below.refl w.heap.size w); have H : (aN.l0 k a0 a1 (([] : List ByteArray)) 0 0) = some r := h; clear h; obtain ⟨yq0, hyq0⟩ : ∃ y_ : List ByteArray, y_ = (([] : List ByteArray)) := ⟨_, rfl⟩; replace H : (aN.l0 k a0 a1 yq0 0 0) = some r := by first | (rw [hyq0]; with_reducible exact H) | (rw [hyq0]; exact H)
 have Nyq0 := aQ hyq0; clear hyq0; have H' := aQ H; clear H; go_enter func283, ntmps283; go_wp2_with (first | ((with_reducible refine gate_dst (N := 8) rfl ?_); refine Kd.z8 Kd.string _ 9 ?hg (N := 8) ?hd (xs := ([] : List ByteArray)) (inner := []) (ok := fun _ => True) (okp := fun _ => True) ?hr ?hp (fun _ hk => hk) trivial (Below.refl _ _) (Nat.le_refl _) (by simp) ?_; (case hd => rfl); (case hg => rfl); (case hr => first | (go_simp; done) | (go_simp; rfl)); (case hp => exact (Reps.none _ _)); intro vq1 w3 ho4 hb hg_ hnew_; clear hg_ hnew_; (first | rw [← Nyq0.out] at ho4 | (simp only [Int.reduceToNat] at ho4; rw [← Nyq0.out] at ho4)); have HOq2 := aQ (Kd.n6 ho4 (aa (aj HB))); replace HB := bs HB hb; clear hb ho4))
 go_loopg [5, 6, 7] k (fun kq v5 v6 v7 w' => ∃ (x5_1 : List ByteArray) (x6_1 : Int) (x7_1 : Int), v6 = .int .i64 x6_1 ∧ v7 = .int .i64 x7_1 ∧ Aside0 (aN.l0 kq a0 a1 x5_1 x6_1 x7_1 = some r) ∧ Aside0 (kq ≤ k) ∧ Aside0 (Kd.R Kd.string 9 w' w.heap.size (fun _ => True) v5 x5_1) ∧ Aside0 (Below w.heap.size w w'))
 case atStart => exact ⟨(yq0), (0), (0), rs_, rs_, H', ⟨Nat.le_refl _⟩, ⟨ab HOq2⟩, ⟨aj HB⟩⟩
 clear H'; obtain ⟨x5_1, x6_1, x7_1, rfl, rfl, HA, HK1, HO_5, HB⟩ := hrel; rcases gk with _ | k1
 ·exact absurd HA.out (by simp [aN.l0])
 have H := HA.out; clear HA; simp only [aN.l0] at H; replace H := ckD H; obtain ⟨c5b0, H⟩ | ⟨c5b0, H⟩ := H
 ·replace H := ckE H; obtain ⟨c6b0, c6b1, H⟩ | ⟨c6, c6b0, c6b1, H⟩ := H
  ·replace H := gdB H; obtain ⟨c7b0, c7b1, H⟩ := H; replace H := gdB H; obtain ⟨c8b0, c8b1, H⟩ := H; have c9b0 := eq_true (of_decide_eq_true as_ : x7_1 ≤ (a0.size : Int)); replace H := gdA H; obtain ⟨LMc10, H⟩ := H; obtain ⟨yq3, hyq3⟩ : ∃ y_ : List ByteArray, y_ = (x5_1 ++ [a0.extract (x6_1 : Int).toNat (x7_1 : Int).toNat]) := ⟨_, rfl⟩; replace H : (aN.l0 k1 a0 a1 yq3 (wrap64 (x7_1 + 1)) (wrap64 (x7_1 + 1))) = some r := by first | (rw [hyq3]; with_reducible exact H) | (rw [hyq3]; exact H)
   have Nyq3 := aQ hyq3; clear hyq3; have H' := aQ H; clear H; go_wp2_with (first | ((with_reducible refine gate_builtin (b := .append) (xs := #[.tmp 26, .tmp 31]) rfl ?_); at_builtin; refine Kd.u4 Kd.string (w0 := w) w.heap.size rfl (.tmp 26) (.tmp 31) 153 9 (.string ⟨#[]⟩) 16 rfl underlying153 ni rfl (by decide) (by omega) u5 x5_1 (a0.extract (x6_1 : Int).toNat (x7_1 : Int).toNat) [.string (a0.extract (x6_1 : Int).toNat (x7_1 : Int).toNat)] (fun _ => True) (fun _ => False) rfl rfl ?aP (fun _ hk => hk.elim) ?aF ?aO ?aB ?aS ?aL ?_; (case aP => exact rfl); (case aB => exact (aj HB)); (case aF => exact (fun _ _ => trivial)); (case aO => exact (ab HO_5)); (case aS => exact (aa (aj HB))); (case aL => have := LMc10.out; omega); intro vq4 w11 ho hb hg hat; rw [← Nyq3.out] at ho; replace HB := aQ (hb); have HOq5 := aQ (ho); clear HO_5; clear ho hb hg hat))
   go_roundg k1
   case measure => exact omeg HK1
   case rel => exact ⟨(yq3), (wrap64 (x7_1 + 1)), (wrap64 (x7_1 + 1)), rs_, rs_, H', ⟨omeg HK1⟩, ⟨ab HOq5⟩, ⟨aj HB⟩⟩
  ·replace H := gdD H; obtain ⟨c12b0, H⟩ := H; replace H := gdD H; obtain ⟨c13b0, H⟩ := H; replace H := ckE H; obtain ⟨c15b0, c15b1, H⟩ | ⟨c15, c15b0, c15b1, H⟩ := H
   ·replace H := gdB H; obtain ⟨c16b0, c16b1, H⟩ := H; replace H := gdB H; obtain ⟨c17b0, c17b1, H⟩ := H; have c18b0 := eq_true (of_decide_eq_true as_ : x7_1 ≤ (a0.size : Int)); replace H := gdA H; obtain ⟨LMc19, H⟩ := H; obtain ⟨yq6, hyq6⟩ : ∃ y_ : List ByteArray, y_ = (x5_1 ++ [a0.extract (x6_1 : Int).toNat (x7_1 : Int).toNat]) := ⟨_, rfl⟩; replace H : (aN.l0 k1 a0 a1 yq6 (wrap64 (x7_1 + 1)) (wrap64 (x7_1 + 1))) = some r := by first | (rw [hyq6]; with_reducible exact H) | (rw [hyq6]; exact H)
    have Nyq6 := aQ hyq6; clear hyq6; have H' := aQ H; clear H; have p14 : 0 ≤ (x7_1 : Int) := of_decide_eq_true as_; have q14 : x7_1 < (a0.size : Int) := of_decide_eq_true as_; have hx14 := eM a0 x7_1; replace p14 := eq_true p14; replace q14 := eq_true q14; go_wp2_with (first | ((with_reducible refine gate_builtin (b := .append) (xs := #[.tmp 26, .tmp 31]) rfl ?_); at_builtin; refine Kd.u4 Kd.string (w0 := w) w.heap.size rfl (.tmp 26) (.tmp 31) 153 9 (.string ⟨#[]⟩) 16 rfl underlying153 ni rfl (by decide) (by omega) u5 x5_1 (a0.extract (x6_1 : Int).toNat (x7_1 : Int).toNat) [.string (a0.extract (x6_1 : Int).toNat (x7_1 : Int).toNat)] (fun _ => True) (fun _ => False) rfl rfl ?aP (fun _ hk => hk.elim) ?aF ?aO ?aB ?aS ?aL ?_; (case aP => exact rfl); (case aB => exact (aj HB)); (case aF => exact (fun _ _ => trivial)); (case aO => exact (ab HO_5)); (case aS => exact (aa (aj HB))); (case aL => have := LMc19.out; omega); intro vq7 w20 ho hb hg hat; rw [← Nyq6.out] at ho; replace HB := aQ (hb); have HOq8 := aQ (ho); clear HO_5; clear ho hb hg hat))
    go_roundg k1
    case measure => exact omeg HK1
    case rel => exact ⟨(yq6), (wrap64 (x7_1 + 1)), (wrap64 (x7_1 + 1)), rs_, rs_, H', ⟨omeg HK1⟩, ⟨ab HOq8⟩, ⟨aj HB⟩⟩
   ·have H' := aQ H; clear H; have p14 : 0 ≤ (x7_1 : Int) := of_decide_eq_true as_; have q14 : x7_1 < (a0.size : Int) := of_decide_eq_true as_; have hx14 := eM a0 x7_1; replace p14 := eq_true p14; replace q14 := eq_true q14; go_wp2
    go_roundg k1
    case measure => exact omeg HK1
    case rel => exact ⟨(x5_1), (x6_1), (wrap64 (x7_1 + 1)), rs_, rs_, H', ⟨omeg HK1⟩, ⟨ab HO_5⟩, ⟨aj HB⟩⟩
 ·obtain rfl := oj H; go_wp2
  go_ret
  exact ⟨_, re_, by refine pRx ?_; exact HO_5.out, aj HB⟩
def aJ.l0 : Nat → Int → Bool → ByteArray → Option (ByteArray)
 | 0, _, _, _ => none
 | k + 1, x0, x3, x4 => if x0 = 0 then (if x3 = true then (if 1 + x4.size ≤ 9223372036854775807 then (some ((⟨#[45]⟩ : ByteArray) ++ x4)) else (none)) else (some x4)) else (if (Int.tmod x0 10) < 0 then ((some (([(wrap64 (48 + (wrap64 (-(Int.tmod x0 10))))) % 256] : List Int) : List Int)).bind fun yq0 => (if (strOfNums yq0).size + x4.size ≤ 9223372036854775807 then (aJ.l0 k (wrap64 (Int.tdiv x0 10)) x3 ((strOfNums yq0) ++ x4)) else (none))) else ((some (([(wrap64 (48 + (Int.tmod x0 10))) % 256] : List Int) : List Int)).bind fun yq1 => (if (strOfNums yq1).size + x4.size ≤ 9223372036854775807 then (aJ.l0 k (wrap64 (Int.tdiv x0 10)) x3 ((strOfNums yq1) ++ x4)) else (none))))
def aJ.f (k : Nat) (a0 : Int) : Option (ByteArray) := if a0 = 0 then (some (⟨#[48]⟩ : ByteArray)) else (aJ.l0 k a0 (decide (a0 < 0)) (⟨#[]⟩ : ByteArray))
theorem aJ.o6 : ∀ k, (∀ y0 y1 y2, LeO (aJ.l0 k y0 y1 y2) (aJ.l0 (k + 1) y0 y1 y2))
 | 0 => fun _ _ _ r h => by simp [aJ.l0] at h
 | k + 1 => by
  have ih0 := aJ.o6 k
  ·intro y0 y1 y2; unfold aJ.l0; exact mn_
theorem aJ.mono : ∀ a0 k, LeO (aJ.f k a0) (aJ.f (k + 1) a0) := by
 intro a0 k; have ih0 := aJ.o6 k; unfold aJ.f; exact mn_
theorem aJ.n0 (k : Nat) (a0 : Int) (r : ByteArray) (w : World) (h : aJ.f k a0 = some r) :
  CB Tryz.prog 295 #[.int .i64 a0] w (.string r) := by
 have HB := aQ (Below.refl w.heap.size w); have H := h; clear h; unfold aJ.f at H; (try dsimp only at H); replace H := ckE H; obtain ⟨c2b0, c2b1, H⟩ | ⟨c2, c2b0, c2b1, H⟩ := H
 ·obtain rfl := oj H; go_enter func295, ntmps295; go_wp2
  go_ret
  exact ⟨re_, aj HB⟩
 ·have H' := aQ H; clear H; go_enter func295, ntmps295; go_wp2
  go_loopg [0, 4] k (fun kq v0 v4 w' => ∃ (x0_1 : Int) (x4_1 : ByteArray), v0 = .int .i64 x0_1 ∧ v4 = .string x4_1 ∧ Aside0 (aJ.l0 kq x0_1 (decide (a0 < 0)) x4_1 = some r) ∧ Aside0 (kq ≤ k) ∧ Aside0 (Below w.heap.size w w'))
  case atStart => exact ⟨(a0), ((⟨#[]⟩ : ByteArray)), rs_, rs_, H', ⟨Nat.le_refl _⟩, ⟨aj HB⟩⟩
  clear H'; try clear c2
  try clear c2b0
  try clear c2b1
  obtain ⟨x0_1, x4_1, rfl, rfl, HA, HK1, HB⟩ := hrel; rcases gk with _ | k1
  ·exact absurd HA.out (by simp [aJ.l0])
  have H := HA.out; clear HA; simp only [aJ.l0] at H; replace H := ckE H; obtain ⟨c3b0, c3b1, H⟩ | ⟨c3, c3b0, c3b1, H⟩ := H
  ·by_cases c4 : (decide (a0 < 0)) = true
   ·rw [if_pos c4] at H; have c4b0 : (decide (a0 < 0)) = true := c4; (first | rw [c4b0] | skip); clear c4; replace H := gd H; obtain ⟨c5, H⟩ := H; have c5b0 := eq_true c5; have c5b1 := decide_eq_true c5; try have c5b2 : (9223372036854775807 < 1 + x4_1.size) = False := eq_false (Nat.not_lt.2 c5)
    obtain rfl := oj H; go_wp2
    go_ret
    exact ⟨re_, aj HB⟩
   ·rw [if_neg c4] at H; have c4b0 : (decide (a0 < 0)) = false := by simpa using c4
    (first | rw [c4b0] | skip); clear c4
    obtain rfl := oj H; go_wp2
    go_ret
    exact ⟨re_, aj HB⟩
  ·replace H := ckD H; obtain ⟨c6b0, H⟩ | ⟨c6b0, H⟩ := H
   ·obtain ⟨yq0, hyq0⟩ : ∃ y_ : List Int, y_ = (([(wrap64 (48 + (wrap64 (-(Int.tmod x0_1 10))))) % 256] : List Int)) := ⟨_, rfl⟩; replace H : (if (strOfNums yq0).size + x4_1.size ≤ 9223372036854775807 then (aJ.l0 k1 (wrap64 (Int.tdiv x0_1 10)) (decide (a0 < 0)) ((strOfNums yq0) ++ x4_1)) else (none)) = some r := by first | (rw [hyq0]; with_reducible exact H) | (rw [hyq0]; exact H)
    have Nyq0 := aQ hyq0; clear hyq0; replace H := gd H; obtain ⟨c7, H⟩ := H; have c7b0 := eq_true c7; have c7b1 := decide_eq_true c7; try have c7b2 : (9223372036854775807 < (strOfNums yq0).size + x4_1.size) = False := eq_false (Nat.not_lt.2 c7)
    have H' := aQ H; clear H; go_wp2_with (first | ((with_reducible refine gate_dst (N := 21) rfl ?_); refine Kd.z8 (Kd.int .u8) _ 5 ?hg (N := 21) ?hd (xs := ([(wrap64 (48 + (wrap64 (-(Int.tmod x0_1 10))))) % 256] : List Int)) (inner := [.int .u8 ((wrap64 (48 + (wrap64 (-(Int.tmod x0_1 10))))) % 256)]) (ok := fun _ => True) (okp := fun _ => True) ?hr ?hp (fun _ hk => hk) trivial (Below.refl _ _) (Nat.le_refl _) (by simp) ?_; (case hd => rfl); (case hg => rfl); (case hr => first | (go_simp; done) | (go_simp; rfl)); (case hp => exact (Reps.one (show Kd.M (Kd.int .u8) _ _ _ ((wrap64 (48 + (wrap64 (-(Int.tmod x0_1 10))))) % 256) [.int .u8 ((wrap64 (48 + (wrap64 (-(Int.tmod x0_1 10))))) % 256)] from rfl) (Reps.none _ _))); intro vq2 w8 ho9 hb hg_ hnew_; clear hg_ hnew_; (first | rw [← Nyq0.out] at ho9 | (simp only [Int.reduceToNat] at ho9; rw [← Nyq0.out] at ho9)); have HOq3 := aQ (Kd.n6 ho9 (aa (aj HB))); replace HB := bs HB hb; clear hb ho9; have hcv10 := gx (P := Tryz.prog) underlying22 underlying5 underlying9 (Kd.own_of_R HOq3.out)))
    go_roundg k1
    case measure => exact omeg HK1
    case rel => exact ⟨(wrap64 (Int.tdiv x0_1 10)), ((strOfNums yq0) ++ x4_1), rs_, rs_, H', ⟨omeg HK1⟩, ⟨aj HB⟩⟩
   ·obtain ⟨yq1, hyq1⟩ : ∃ y_ : List Int, y_ = (([(wrap64 (48 + (Int.tmod x0_1 10))) % 256] : List Int)) := ⟨_, rfl⟩; replace H : (if (strOfNums yq1).size + x4_1.size ≤ 9223372036854775807 then (aJ.l0 k1 (wrap64 (Int.tdiv x0_1 10)) (decide (a0 < 0)) ((strOfNums yq1) ++ x4_1)) else (none)) = some r := by first | (rw [hyq1]; with_reducible exact H) | (rw [hyq1]; exact H)
    have Nyq1 := aQ hyq1; clear hyq1; replace H := gd H; obtain ⟨c11, H⟩ := H; have c11b0 := eq_true c11; have c11b1 := decide_eq_true c11; try have c11b2 : (9223372036854775807 < (strOfNums yq1).size + x4_1.size) = False := eq_false (Nat.not_lt.2 c11)
    have H' := aQ H; clear H; go_wp2_with (first | ((with_reducible refine gate_dst (N := 21) rfl ?_); refine Kd.z8 (Kd.int .u8) _ 5 ?hg (N := 21) ?hd (xs := ([(wrap64 (48 + (Int.tmod x0_1 10))) % 256] : List Int)) (inner := [.int .u8 ((wrap64 (48 + (Int.tmod x0_1 10))) % 256)]) (ok := fun _ => True) (okp := fun _ => True) ?hr ?hp (fun _ hk => hk) trivial (Below.refl _ _) (Nat.le_refl _) (by simp) ?_; (case hd => rfl); (case hg => rfl); (case hr => first | (go_simp; done) | (go_simp; rfl)); (case hp => exact (Reps.one (show Kd.M (Kd.int .u8) _ _ _ ((wrap64 (48 + (Int.tmod x0_1 10))) % 256) [.int .u8 ((wrap64 (48 + (Int.tmod x0_1 10))) % 256)] from rfl) (Reps.none _ _))); intro vq4 w12 ho13 hb hg_ hnew_; clear hg_ hnew_; (first | rw [← Nyq1.out] at ho13 | (simp only [Int.reduceToNat] at ho13; rw [← Nyq1.out] at ho13)); have HOq5 := aQ (Kd.n6 ho13 (aa (aj HB))); replace HB := bs HB hb; clear hb ho13; have hcv14 := gx (P := Tryz.prog) underlying22 underlying5 underlying9 (Kd.own_of_R HOq5.out)))
    go_roundg k1
    case measure => exact omeg HK1
    case rel => exact ⟨(wrap64 (Int.tdiv x0_1 10)), ((strOfNums yq1) ++ x4_1), rs_, rs_, H', ⟨omeg HK1⟩, ⟨aj HB⟩⟩
mutual
def aA.j0 : Nat → ByteArray → Int → Bool → Option (Int × Bool)
 | 0, _, _, _ => none
 | k + 1, x0, x1, x6 => if x6 = true then (if 1 ≤ (x0.size : Int) then (aA.j1 k x0 x1 x6 (x0.extract 1 x0.size)) else (none)) else (aA.j1 k x0 x1 x6 x0)
def aA.j1 : Nat → ByteArray → Int → Bool → ByteArray → Option (Int × Bool)
 | 0, _, _, _, _ => none
 | k + 1, x0, x1, x6, x7 => if (x7.size : Int) < 1 then (aA.j2 k x0 x6 x7 true) else (aA.j2 k x0 x6 x7 (decide ((x7.size : Int) > x1)))
def aA.j2 : Nat → ByteArray → Bool → ByteArray → Bool → Option (Int × Bool)
 | 0, _, _, _, _ => none
 | k + 1, x0, x6, x7, x30 => if x30 = true then (some (0, false)) else (aA.l0 k x0 x6 x7 0 0)
def aA.l0 : Nat → ByteArray → Bool → ByteArray → Int → Int → Option (Int × Bool)
 | 0, _, _, _, _, _ => none
 | k + 1, x0, x6, x7, x8, x9 => if x9 < (x7.size : Int) then (if 0 ≤ x9 then (if (bt x7 x9) < 48 then (some (0, false)) else (if (bt x7 x9) > 57 then (some (0, false)) else (aA.l0 k x0 x6 x7 (wrap64 ((wrap64 (10 * x8)) + (((bt x7 x9) - 48) % 256))) (wrap64 (x9 + 1))))) else (none)) else (if x6 = true then ((aJ.f k (wrap64 (-x8))).bind fun tq0 => (if tq0.toList = x0.toList then (some (wrap64 (-x8), true)) else (some (0, false)))) else ((aJ.f k x8).bind fun tq1 => (if tq1.toList = x0.toList then (some (x8, true)) else (some (0, false)))))
end
def aA.f (k : Nat) (a0 : ByteArray) (a1 : Int) : Option (Int × Bool) := if (a0.size : Int) > 0 then (if 0 < (a0.size : Int) then (aA.j0 k a0 a1 ((bt a0 0) == 45)) else (none)) else (aA.j0 k a0 a1 false)
theorem aA.o6 : ∀ k, (∀ y0 y1 y2, LeO (aA.j0 k y0 y1 y2) (aA.j0 (k + 1) y0 y1 y2)) ∧ (∀ y0 y1 y2 y3, LeO (aA.j1 k y0 y1 y2 y3) (aA.j1 (k + 1) y0 y1 y2 y3)) ∧ (∀ y0 y1 y2 y3, LeO (aA.j2 k y0 y1 y2 y3) (aA.j2 (k + 1) y0 y1 y2 y3)) ∧ (∀ y0 y1 y2 y3 y4, LeO (aA.l0 k y0 y1 y2 y3 y4) (aA.l0 (k + 1) y0 y1 y2 y3 y4))
 | 0 => ⟨fun _ _ _ r h => by simp [aA.j0] at h, fun _ _ _ _ r h => by simp [aA.j1] at h, fun _ _ _ _ r h => by simp [aA.j2] at h, fun _ _ _ _ _ r h => by simp [aA.l0] at h⟩
 | k + 1 => by
  obtain ⟨ih0, ih1, ih2, ih3⟩ := aA.o6 k; refine ⟨?_, ?_, ?_, ?_⟩
  ·intro y0 y1 y2; unfold aA.j0
   repeat' first | (with_reducible first | exact ih0 _ _ _ | exact ih1 _ _ _ _ | exact ih2 _ _ _ _ | exact ih3 _ _ _ _ _ | exact aJ.mono _ _ | exact LeO.refl _ | exact LeO.none _ | refine LeO.ite ?_ ?_ | refine LeO.bind ?_ (fun _ => ?_)) | exact ih0 _ _ _ | exact ih1 _ _ _ _ | exact ih2 _ _ _ _ | exact ih3 _ _ _ _ _ | exact LeO.none _ | refine LeO.ite ?_ ?_ | refine LeO.bind ?_ (fun _ => ?_)
  ·intro y0 y1 y2 y3; unfold aA.j1
   repeat' first | (with_reducible first | exact ih0 _ _ _ | exact ih1 _ _ _ _ | exact ih2 _ _ _ _ | exact ih3 _ _ _ _ _ | exact aJ.mono _ _ | exact LeO.refl _ | exact LeO.none _ | refine LeO.ite ?_ ?_ | refine LeO.bind ?_ (fun _ => ?_)) | exact ih0 _ _ _ | exact ih1 _ _ _ _ | exact ih2 _ _ _ _ | exact ih3 _ _ _ _ _ | exact LeO.none _ | refine LeO.ite ?_ ?_ | refine LeO.bind ?_ (fun _ => ?_)
  ·intro y0 y1 y2 y3; unfold aA.j2
   repeat' first | (with_reducible first | exact ih0 _ _ _ | exact ih1 _ _ _ _ | exact ih2 _ _ _ _ | exact ih3 _ _ _ _ _ | exact aJ.mono _ _ | exact LeO.refl _ | exact LeO.none _ | refine LeO.ite ?_ ?_ | refine LeO.bind ?_ (fun _ => ?_)) | exact ih0 _ _ _ | exact ih1 _ _ _ _ | exact ih2 _ _ _ _ | exact ih3 _ _ _ _ _ | exact LeO.none _ | refine LeO.ite ?_ ?_ | refine LeO.bind ?_ (fun _ => ?_)
  ·intro y0 y1 y2 y3 y4; unfold aA.l0
   repeat' first | (with_reducible first | exact ih0 _ _ _ | exact ih1 _ _ _ _ | exact ih2 _ _ _ _ | exact ih3 _ _ _ _ _ | exact aJ.mono _ _ | exact LeO.refl _ | exact LeO.none _ | refine LeO.ite ?_ ?_ | refine LeO.bind ?_ (fun _ => ?_)) | exact ih0 _ _ _ | exact ih1 _ _ _ _ | exact ih2 _ _ _ _ | exact ih3 _ _ _ _ _ | exact LeO.none _ | refine LeO.ite ?_ ?_ | refine LeO.bind ?_ (fun _ => ?_)
theorem aA.mono : ∀ a0 a1 k, LeO (aA.f k a0 a1) (aA.f (k + 1) a0 a1) := by
 intro a0 a1 k; obtain ⟨ih0, ih1, ih2, ih3⟩ := aA.o6 k; unfold aA.f
 repeat' first | (with_reducible first | exact ih0 _ _ _ | exact ih1 _ _ _ _ | exact ih2 _ _ _ _ | exact ih3 _ _ _ _ _ | exact aJ.mono _ _ | exact LeO.refl _ | exact LeO.none _ | refine LeO.ite ?_ ?_ | refine LeO.bind ?_ (fun _ => ?_)) | exact ih0 _ _ _ | exact ih1 _ _ _ _ | exact ih2 _ _ _ _ | exact ih3 _ _ _ _ _ | exact LeO.none _ | refine LeO.ite ?_ ?_ | refine LeO.bind ?_ (fun _ => ?_)
theorem aA.n0 (k : Nat) (a0 : ByteArray) (a1 : Int) (r1 : Int) (r2 : Bool) (w : World) (h : aA.f k a0 a1 = some (r1, r2)) :
  CB Tryz.prog 292 #[.string a0, .int .i64 a1] w (.tuple #[.int .i64 r1, .bool r2]) := by
 have HB := aQ (Below.refl w.heap.size w); have H := h; clear h; unfold aA.f at H; (try dsimp only at H); have HC3 := aQ H; clear H; go_enter func292, ntmps292; go_upto_region 1 with (fail)
 go_cut [6] (fun v6 wc => ∃ (kq : Nat) (x6_2 : Bool), v6 = .bool x6_2 ∧ Aside0 (aA.j0 kq a0 a1 x6_2 = some (r1, r2)) ∧ Aside0 (kq ≤ k) ∧ Aside0 (Below w.heap.size w wc))
 case first =>
  have H := HC3.out; clear HC3; by_cases c4 : (a0.size : Int) > 0
  ·rw [if_pos c4] at H; have c4b0 := decide_eq_true c4; have c4b1 : decide (0 < a0.size) = true := decide_eq_true (by omega); clear c4; (first | rw [c4b0] | (simp only [i64_w, cB]; rw [c4b0]) | skip); replace H := gd H; obtain ⟨c5, H⟩ := H; have c5b0 := decide_eq_true c5; have c5b1 : decide (0 < a0.size) = true := decide_eq_true (by omega); clear c5; have H' := aQ H; clear H; have p6 : 0 ≤ (0 : Int) := (by omega); have q6 : 0 < a0.size := (by have : (0 : Int) < (a0.size : Int) := of_decide_eq_true as_; omega); have hx6 : ∀ h : 0 < a0.size, ((a0[0]'h).toNat : Int) = bt a0 0 := eM a0 0; clear p6; have qi6 : (0 < (a0.size : Int)) = True := eq_true (of_decide_eq_true as_); replace q6 := eq_true q6; go_wp2
   go_meet
   case rel => exact ⟨_, (((bt a0 0) == 45)), rs_, H', ⟨by first | omega | exact Nat.le_refl _⟩, ⟨aj HB⟩⟩
  ·rw [if_neg c4] at H; have c4b0 := decide_eq_false c4; have c4b1 : decide (0 < a0.size) = false := decide_eq_false (by omega); clear c4; (first | rw [c4b0] | (simp only [i64_w, cB]; rw [c4b0]) | skip); have H' := aQ H; clear H; go_wp2
   go_meet
   case rel => exact ⟨_, (false), rs_, H', ⟨by first | omega | exact Nat.le_refl _⟩, ⟨aj HB⟩⟩
 case rest =>
  clear HC3; obtain ⟨kq, x6_2, rfl, HA, HJ2, HB⟩ := hcut; cases kq with
  | zero => exact absurd HA.out (by simp [aA.j0])
  | succ kj2 =>
   have H := HA.out; clear HA; simp only [aA.j0] at H; have HC7 := aQ H; clear H; go_upto_if 19 with (fail)
   go_cut [7] (fun v7 wc => ∃ (kq : Nat) (x7_6 : ByteArray), v7 = .string x7_6 ∧ Aside0 (aA.j1 kq a0 a1 x6_2 x7_6 = some (r1, r2)) ∧ Aside0 (kq ≤ kj2) ∧ Aside0 (Below w.heap.size w wc))
   case first =>
    have H := HC7.out; clear HC7; replace H := ckB H; obtain ⟨rfl, H⟩ | ⟨rfl, H⟩ := H
    ·replace H := gdB H; obtain ⟨c9b0, c9b1, H⟩ := H; have H' := aQ H; clear H; go_wp2
     go_meet
     case rel => exact ⟨_, (a0.extract 1 a0.size), rs_, H', ⟨by have := HJ2.out; first | omega | exact Nat.le_refl _⟩, ⟨aj HB⟩⟩
    ·have H' := aQ H; clear H; go_wp2
     go_meet
     case rel => exact ⟨_, (a0), rs_, H', ⟨by have := HJ2.out; first | omega | exact Nat.le_refl _⟩, ⟨aj HB⟩⟩
   case rest =>
    clear HC7; obtain ⟨kq, x7_6, rfl, HA, HJ6, HB⟩ := hcut; cases kq with
    | zero => exact absurd HA.out (by simp [aA.j1])
    | succ kj6 =>
     have H := HA.out; clear HA; simp only [aA.j1] at H; have HC10 := aQ H; clear H; go_upto_region 5 with (fail)
     go_cut [30] (fun v30 wc => ∃ (kq : Nat) (x30_9 : Bool), v30 = .bool x30_9 ∧ Aside0 (aA.j2 kq a0 x6_2 x7_6 x30_9 = some (r1, r2)) ∧ Aside0 (kq ≤ kj6) ∧ Aside0 (Below w.heap.size w wc))
     case first =>
      have H := HC10.out; clear HC10; by_cases c11 : (x7_6.size : Int) < 1
      ·rw [if_pos c11] at H; have c11b0 := decide_eq_true c11; have c11b1 : decide (x7_6.size < 1) = true := decide_eq_true (by omega); clear c11; (first | rw [c11b0] | (simp only [i64_w, cB]; rw [c11b0]) | skip); have H' := aQ H; clear H; go_wp2
       go_meet
       case rel => exact ⟨_, (true), rs_, H', ⟨by have := HJ2.out; have := HJ6.out; first | omega | exact Nat.le_refl _⟩, ⟨aj HB⟩⟩
      ·rw [if_neg c11] at H; have c11b0 := decide_eq_false c11; have c11b1 : decide (x7_6.size < 1) = false := decide_eq_false (by omega); clear c11; (first | rw [c11b0] | (simp only [i64_w, cB]; rw [c11b0]) | skip); have H' := aQ H; clear H; go_wp2
       go_meet
       case rel => exact ⟨_, (decide ((x7_6.size : Int) > a1)), rs_, H', ⟨by have := HJ2.out; have := HJ6.out; first | omega | exact Nat.le_refl _⟩, ⟨aj HB⟩⟩
     case rest =>
      clear HC10; obtain ⟨kq, x30_9, rfl, HA, HJ9, HB⟩ := hcut; cases kq with
      | zero => exact absurd HA.out (by simp [aA.j2])
      | succ kj9 =>
       have H := HA.out; clear HA; simp only [aA.j2] at H; replace H := ckB H; obtain ⟨rfl, H⟩ | ⟨rfl, H⟩ := H
       ·obtain ⟨rfl, rfl⟩ := o2 H; go_wp2
        go_ret2
        exact ⟨re_, aj HB⟩
       ·have H' := aQ H; clear H; go_wp2
        go_loopg [8, 9] kj9 (fun kq v8 v9 w' => ∃ (x8_4 : Int) (x9_4 : Int), v8 = .int .i64 x8_4 ∧ v9 = .int .i64 x9_4 ∧ Aside0 (aA.l0 kq a0 x6_2 x7_6 x8_4 x9_4 = some (r1, r2)) ∧ Aside0 (kq ≤ kj9) ∧ Aside0 (Below w.heap.size w w'))
        case atStart => exact ⟨(0), (0), rs_, rs_, H', ⟨Nat.le_refl _⟩, ⟨aj HB⟩⟩
        clear H'; try clear c12
        obtain ⟨x8_4, x9_4, rfl, rfl, HA, HK4, HB⟩ := hrel; rcases gk with _ | k4
        ·exact absurd HA.out (by simp [aA.l0])
        have H := HA.out; clear HA; simp only [aA.l0] at H; replace H := ckD H; obtain ⟨c13b0, H⟩ | ⟨c13b0, H⟩ := H
        ·replace H := gdD H; obtain ⟨c14b0, H⟩ := H; replace H := ckD H; obtain ⟨c16b0, H⟩ | ⟨c16b0, H⟩ := H
         ·obtain ⟨rfl, rfl⟩ := o2 H; have p15 : 0 ≤ (x9_4 : Int) := of_decide_eq_true as_; have q15 : x9_4 < (x7_6.size : Int) := of_decide_eq_true as_; have hx15 := eM x7_6 x9_4; replace p15 := eq_true p15; replace q15 := eq_true q15; go_wp2
          go_ret2
          exact ⟨re_, aj HB⟩
         ·replace H := ckD H; obtain ⟨c18b0, H⟩ | ⟨c18b0, H⟩ := H
          ·obtain ⟨rfl, rfl⟩ := o2 H; have p15 : 0 ≤ (x9_4 : Int) := of_decide_eq_true as_; have q15 : x9_4 < (x7_6.size : Int) := of_decide_eq_true as_; have hx15 := eM x7_6 x9_4; replace p15 := eq_true p15; replace q15 := eq_true q15; have p17 : 0 ≤ (x9_4 : Int) := of_decide_eq_true as_; have q17 : x9_4 < (x7_6.size : Int) := of_decide_eq_true as_; have hx17 := eM x7_6 x9_4; replace p17 := eq_true p17; replace q17 := eq_true q17; go_wp2
           go_ret2
           exact ⟨re_, aj HB⟩
          ·have H' := aQ H; clear H; have p15 : 0 ≤ (x9_4 : Int) := of_decide_eq_true as_; have q15 : x9_4 < (x7_6.size : Int) := of_decide_eq_true as_; have hx15 := eM x7_6 x9_4; replace p15 := eq_true p15; replace q15 := eq_true q15; have p17 : 0 ≤ (x9_4 : Int) := of_decide_eq_true as_; have q17 : x9_4 < (x7_6.size : Int) := of_decide_eq_true as_; have hx17 := eM x7_6 x9_4; replace p17 := eq_true p17; replace q17 := eq_true q17; have p19 : 0 ≤ (x9_4 : Int) := of_decide_eq_true as_; have q19 : x9_4 < (x7_6.size : Int) := of_decide_eq_true as_; have hx19 := eM x7_6 x9_4; replace p19 := eq_true p19; replace q19 := eq_true q19; go_wp2
           go_roundg k4
           case measure => have := HJ2.out; have := HJ6.out; have := HJ9.out; have := HK4.out; omega
           case rel => exact ⟨(wrap64 ((wrap64 (10 * x8_4)) + (((bt x7_6 x9_4) - 48) % 256))), (wrap64 (x9_4 + 1)), rs_, rs_, H', ⟨by have := HJ2.out; have := HJ6.out; have := HJ9.out; have := HK4.out; omega⟩, ⟨aj HB⟩⟩
        ·replace H := ckB H; obtain ⟨rfl, H⟩ | ⟨rfl, H⟩ := H
         ·replace H := bo H; obtain ⟨tq0, A21, H⟩ := H; replace H := ckE H; obtain ⟨c22b0, c22b1, H⟩ | ⟨c22, c22b0, c22b1, H⟩ := H
          ·obtain ⟨rfl, rfl⟩ := o2 H; go_wp2_with (first | (refine gt 295 ?_; refine gcB (some 59) func295 (aJ.n0 k4 (wrap64 (-x8_4)) tq0 _ A21.out) ?_; intro w23 hb; replace HB := bs HB hb; (try clear hb)))
           go_ret2
           exact ⟨re_, aj HB⟩
          ·obtain ⟨rfl, rfl⟩ := o2 H; go_wp2_with (first | (refine gt 295 ?_; refine gcB (some 59) func295 (aJ.n0 k4 (wrap64 (-x8_4)) tq0 _ A21.out) ?_; intro w24 hb; replace HB := bs HB hb; (try clear hb)))
           go_ret2
           exact ⟨re_, aj HB⟩
         ·replace H := bo H; obtain ⟨tq1, A25, H⟩ := H; replace H := ckE H; obtain ⟨c26b0, c26b1, H⟩ | ⟨c26, c26b0, c26b1, H⟩ := H
          ·obtain ⟨rfl, rfl⟩ := o2 H; go_wp2_with (first | (refine gt 295 ?_; refine gcB (some 59) func295 (aJ.n0 k4 x8_4 tq1 _ A25.out) ?_; intro w27 hb; replace HB := bs HB hb; (try clear hb)))
           go_ret2
           exact ⟨re_, aj HB⟩
          ·obtain ⟨rfl, rfl⟩ := o2 H; go_wp2_with (first | (refine gt 295 ?_; refine gcB (some 59) func295 (aJ.n0 k4 x8_4 tq1 _ A25.out) ?_; intro w28 hb; replace HB := bs HB hb; (try clear hb)))
           go_ret2
           exact ⟨re_, aj HB⟩
def cY.f (k : Nat) (a0 : ByteArray) : Option (Int × Bool) := (aA.f k a0 12).bind fun btq0 => (some (btq0.1, btq0.2))
theorem cY.mono : ∀ a0 k, LeO (cY.f k a0) (cY.f (k + 1) a0) := by
 intro a0 k; unfold cY.f
 repeat' first | (with_reducible first | exact aA.mono _ _ _ | exact LeO.refl _ | exact LeO.none _ | refine LeO.ite ?_ ?_ | refine LeO.bind ?_ (fun _ => ?_)) | exact LeO.none _ | refine LeO.ite ?_ ?_ | refine LeO.bind ?_ (fun _ => ?_)
theorem cY.n0 (k : Nat) (a0 : ByteArray) (r1 : Int) (r2 : Bool) (w : World) (h : cY.f k a0 = some (r1, r2)) :
  CB Tryz.prog 284 #[.string a0] w (.tuple #[.int .i64 r1, .bool r2]) := by
 have HB := aQ (Below.refl w.heap.size w); have H := h; clear h; unfold cY.f at H; (try dsimp only at H); replace H := bo H; obtain ⟨⟨tq0, tq1⟩, A2, H⟩ := H; (try dsimp only at H); obtain ⟨rfl, rfl⟩ := o2 H; go_enter func284, ntmps284; go_wp2_with (first | (refine gt 292 ?_; refine gcB (some 5) func292 (aA.n0 k a0 12 tq0 tq1 _ A2.out) ?_; intro w3 hb; replace HB := bs HB hb; (try clear hb)))
 go_ret2
 exact ⟨re_, aj HB⟩
def ay.l0 : Nat → Int → List Int → Int → Option (Bool)
 | 0, _, _, _ => none
 | k + 1, x0, x1, x5 => if x5 < (x1.length : Int) then (if 0 ≤ x5 then ((a8.f x0 (rd x1 x5)).bind fun tq0 => (if tq0 = true then (if x5 > 0 then (if 0 ≤ (wrap64 (x5 - 1)) then (if (wrap64 (x5 - 1)) < (x1.length : Int) then (if (rd x1 (wrap64 (x5 - 1))) ≥ (rd x1 x5) then (some false) else (ay.l0 k x0 x1 (wrap64 (x5 + 1)))) else (none)) else (none)) else (ay.l0 k x0 x1 (wrap64 (x5 + 1)))) else (some false))) else (none)) else ((bE.f x0 0 8).bind fun tq1 => (some tq1))
def ay.f (k : Nat) (a0 : Int) (l1 : List Int) : Option (Bool) := ay.l0 k a0 l1 0
theorem ay.o6 : ∀ k, (∀ y0 y1 y2, LeO (ay.l0 k y0 y1 y2) (ay.l0 (k + 1) y0 y1 y2))
 | 0 => fun _ _ _ r h => by simp [ay.l0] at h
 | k + 1 => by
  have ih0 := ay.o6 k
  ·intro y0 y1 y2; unfold ay.l0; exact mn_
theorem ay.mono : ∀ a0 a1 k, LeO (ay.f k a0 a1) (ay.f (k + 1) a0 a1) := by
 intro a0 a1 k; have ih0 := ay.o6 k; unfold ay.f; exact mn_
theorem ay.n0 (k : Nat) (a0 : Int) (A1 : Option Addr) (c1 : Nat) (l1 : List Int) (r : Bool) (w : World) (hr1 : Kd.C (Kd.int .i64) w A1 l1.length l1) (hc1 : l1.length ≤ c1) (h : ay.f k a0 l1 = some r) :
  CD Tryz.prog 155 #[.int .i64 a0, .slice A1 l1.length c1] w (.bool r) := by
 have HR1 := aQ hr1; have HC1 := aQ hc1; clear hr1 hc1; have H : (ay.l0 k a0 l1 0) = some r := h; clear h; have H' := aQ H; clear H; go_enter func155, ntmps155; go_wp2
 repeat (go_quiet (fail); try go_wp2)
 go_loopg [5] k (fun kq v5 w' => ∃ (x5_1 : Int), v5 = .int .i64 x5_1 ∧ Aside0 (ay.l0 kq a0 l1 x5_1 = some r) ∧ Aside0 (kq ≤ k) ∧ Drawn0 w w')
 case atStart => exact ⟨(0), rs_, H', ⟨Nat.le_refl _⟩, rd_⟩
 clear H'; try clear c1
 obtain ⟨x5_1, rfl, HA, HK1, ⟨m1, rfl⟩⟩ := hrel; rcases gk with _ | k1
 ·exact absurd HA.out (by simp [ay.l0])
 have H := HA.out; clear HA; simp only [ay.l0] at H; replace H := ckD H; obtain ⟨c3b0, H⟩ | ⟨c3b0, H⟩ := H
 ·replace H := gdD H; obtain ⟨c4b0, H⟩ := H; replace H := bo H; obtain ⟨tq0, A5, H⟩ := H; replace H := ckB H; obtain ⟨rfl, H⟩ | ⟨rfl, H⟩ := H
  ·replace H := ckD H; obtain ⟨c7b0, H⟩ | ⟨c7b0, H⟩ := H
   ·obtain ⟨ji8, hji8⟩ : ∃ j_ : Int, (wrap64 (x5_1 - 1)) = j_ := ⟨_, rfl⟩; (first | rw [hji8] at H | simp only [hji8] at H); (try rw [hji8] at A5); have hji8w : (IntKind.i64.wrap (x5_1 - 1)) = ji8 := (i64_w _).trans hji8; replace H := gdD H; obtain ⟨c9b0, H⟩ := H; replace H := gdD H; obtain ⟨c10b0, H⟩ := H; replace H := ckD H; obtain ⟨c11b0, H⟩ | ⟨c11b0, H⟩ := H
    ·obtain rfl := oj H; have pq2 : 0 ≤ (x5_1 : Int) := of_decide_eq_true as_; have qq2 : x5_1 < (l1.length : Int) := of_decide_eq_true as_; obtain ⟨adq2, eq2, hxq2_0⟩ := Kd.o0 HR1.out x5_1 pq2 qq2; cases eq2; replace pq2 := eq_true pq2; replace qq2 := eq_true qq2; go_wp2_with (first | (go_at_call 112; (with_reducible refine (a8.n0 a0 (rd l1 x5_1) true _ A5.out).mono ?_); rintro e w' ⟨rfl, ⟨nd, rfl⟩⟩; (try exact dq_); obtain ⟨adq3, eq3, hxq3_0, pq3, qq3⟩ := aI HR1.out (ji8); obtain rfl : adq2 = adq3 := (by injection eq3); obtain ⟨adq4, eq4, hxq4_0, pq4, qq4⟩ := aI HR1.out x5_1; obtain rfl : adq2 = adq4 := (by injection eq4)))
     repeat (go_quiet (first | (go_at_call 112; (with_reducible refine (a8.n0 a0 (rd l1 x5_1) true _ A5.out).mono ?_); rintro e w' ⟨rfl, ⟨nd, rfl⟩⟩; (try exact dq_); obtain ⟨adq3, eq3, hxq3_0, pq3, qq3⟩ := aI HR1.out (ji8); obtain rfl : adq2 = adq3 := (by injection eq3); obtain ⟨adq4, eq4, hxq4_0, pq4, qq4⟩ := aI HR1.out x5_1; obtain rfl : adq2 = adq4 := (by injection eq4))); try go_wp2_with (first | (go_at_call 112; (with_reducible refine (a8.n0 a0 (rd l1 x5_1) true _ A5.out).mono ?_); rintro e w' ⟨rfl, ⟨nd, rfl⟩⟩; (try exact dq_); have pq3 : 0 ≤ ((ji8) : Int) := of_decide_eq_true as_; have qq3 : (ji8) < (l1.length : Int) := of_decide_eq_true as_; obtain ⟨adq3, eq3, hxq3_0⟩ := Kd.o0 HR1.out (ji8) pq3 qq3; obtain rfl : adq2 = adq3 := (by injection eq3); replace pq3 := eq_true pq3; replace qq3 := eq_true qq3; have pq4 : 0 ≤ (x5_1 : Int) := of_decide_eq_true as_; have qq4 : x5_1 < (l1.length : Int) := of_decide_eq_true as_; obtain ⟨adq4, eq4, hxq4_0⟩ := Kd.o0 HR1.out x5_1 pq4 qq4; obtain rfl : adq2 = adq4 := (by injection eq4); replace pq4 := eq_true pq4; replace qq4 := eq_true qq4)))
     go_ret
     exact ⟨by first | rfl | (simp; done) | (simp only [← hji8] <;> (first | rfl | simp)) | (simp [*]; done), rd_⟩
    ·have H' := aQ H; clear H; have pq2 : 0 ≤ (x5_1 : Int) := of_decide_eq_true as_; have qq2 : x5_1 < (l1.length : Int) := of_decide_eq_true as_; obtain ⟨adq2, eq2, hxq2_0⟩ := Kd.o0 HR1.out x5_1 pq2 qq2; cases eq2; replace pq2 := eq_true pq2; replace qq2 := eq_true qq2; go_wp2_with (first | (go_at_call 112; (with_reducible refine (a8.n0 a0 (rd l1 x5_1) true _ A5.out).mono ?_); rintro e w' ⟨rfl, ⟨nd, rfl⟩⟩; (try exact dq_); obtain ⟨adq3, eq3, hxq3_0, pq3, qq3⟩ := aI HR1.out (ji8); obtain rfl : adq2 = adq3 := (by injection eq3); obtain ⟨adq4, eq4, hxq4_0, pq4, qq4⟩ := aI HR1.out x5_1; obtain rfl : adq2 = adq4 := (by injection eq4)))
     repeat (go_quiet (first | (go_at_call 112; (with_reducible refine (a8.n0 a0 (rd l1 x5_1) true _ A5.out).mono ?_); rintro e w' ⟨rfl, ⟨nd, rfl⟩⟩; (try exact dq_); obtain ⟨adq3, eq3, hxq3_0, pq3, qq3⟩ := aI HR1.out (ji8); obtain rfl : adq2 = adq3 := (by injection eq3); obtain ⟨adq4, eq4, hxq4_0, pq4, qq4⟩ := aI HR1.out x5_1; obtain rfl : adq2 = adq4 := (by injection eq4))); try go_wp2_with (first | (go_at_call 112; (with_reducible refine (a8.n0 a0 (rd l1 x5_1) true _ A5.out).mono ?_); rintro e w' ⟨rfl, ⟨nd, rfl⟩⟩; (try exact dq_); have pq3 : 0 ≤ ((ji8) : Int) := of_decide_eq_true as_; have qq3 : (ji8) < (l1.length : Int) := of_decide_eq_true as_; obtain ⟨adq3, eq3, hxq3_0⟩ := Kd.o0 HR1.out (ji8) pq3 qq3; obtain rfl : adq2 = adq3 := (by injection eq3); replace pq3 := eq_true pq3; replace qq3 := eq_true qq3; have pq4 : 0 ≤ (x5_1 : Int) := of_decide_eq_true as_; have qq4 : x5_1 < (l1.length : Int) := of_decide_eq_true as_; obtain ⟨adq4, eq4, hxq4_0⟩ := Kd.o0 HR1.out x5_1 pq4 qq4; obtain rfl : adq2 = adq4 := (by injection eq4); replace pq4 := eq_true pq4; replace qq4 := eq_true qq4)))
     go_roundg k1
     case measure => exact omeg HK1
     case rel => exact ⟨(wrap64 (x5_1 + 1)), rs_, H', ⟨omeg HK1⟩, rd_⟩
   ·have H' := aQ H; clear H; have pq2 : 0 ≤ (x5_1 : Int) := of_decide_eq_true as_; have qq2 : x5_1 < (l1.length : Int) := of_decide_eq_true as_; obtain ⟨adq2, eq2, hxq2_0⟩ := Kd.o0 HR1.out x5_1 pq2 qq2; cases eq2; replace pq2 := eq_true pq2; replace qq2 := eq_true qq2; go_wp2_with (first | (go_at_call 112; (with_reducible refine (a8.n0 a0 (rd l1 x5_1) true _ A5.out).mono ?_); rintro e w' ⟨rfl, ⟨nd, rfl⟩⟩; (try exact dq_)))
    repeat (go_quiet (first | (go_at_call 112; (with_reducible refine (a8.n0 a0 (rd l1 x5_1) true _ A5.out).mono ?_); rintro e w' ⟨rfl, ⟨nd, rfl⟩⟩; (try exact dq_))); try go_wp2_with (first | (go_at_call 112; (with_reducible refine (a8.n0 a0 (rd l1 x5_1) true _ A5.out).mono ?_); rintro e w' ⟨rfl, ⟨nd, rfl⟩⟩; (try exact dq_))))
    go_roundg k1
    case measure => exact omeg HK1
    case rel => exact ⟨(wrap64 (x5_1 + 1)), rs_, H', ⟨omeg HK1⟩, rd_⟩
  ·obtain rfl := oj H; have pq2 : 0 ≤ (x5_1 : Int) := of_decide_eq_true as_; have qq2 : x5_1 < (l1.length : Int) := of_decide_eq_true as_; obtain ⟨adq2, eq2, hxq2_0⟩ := Kd.o0 HR1.out x5_1 pq2 qq2; cases eq2; replace pq2 := eq_true pq2; replace qq2 := eq_true qq2; go_wp2_with (first | (go_at_call 112; (with_reducible refine (a8.n0 a0 (rd l1 x5_1) false _ A5.out).mono ?_); rintro e w' ⟨rfl, ⟨nd, rfl⟩⟩; (try exact dq_)))
   repeat (go_quiet (first | (go_at_call 112; (with_reducible refine (a8.n0 a0 (rd l1 x5_1) false _ A5.out).mono ?_); rintro e w' ⟨rfl, ⟨nd, rfl⟩⟩; (try exact dq_))); try go_wp2_with (first | (go_at_call 112; (with_reducible refine (a8.n0 a0 (rd l1 x5_1) false _ A5.out).mono ?_); rintro e w' ⟨rfl, ⟨nd, rfl⟩⟩; (try exact dq_))))
   go_ret
   exact ⟨rs_, rd_⟩
 ·replace H := bo H; obtain ⟨tq1, A12, H⟩ := H; obtain rfl := oj H; go_wp2_with (first | (go_at_call 116; (with_reducible refine (bE.n0 a0 0 8 tq1 _ A12.out).mono ?_); rintro e w' ⟨rfl, ⟨nd, rfl⟩⟩; (try exact dq_)))
  repeat (go_quiet (first | (go_at_call 116; (with_reducible refine (bE.n0 a0 0 8 tq1 _ A12.out).mono ?_); rintro e w' ⟨rfl, ⟨nd, rfl⟩⟩; (try exact dq_))); try go_wp2_with (first | (go_at_call 116; (with_reducible refine (bE.n0 a0 0 8 tq1 _ A12.out).mono ?_); rintro e w' ⟨rfl, ⟨nd, rfl⟩⟩; (try exact dq_))))
  go_ret
  exact ⟨rs_, rd_⟩
def dG.f (a0 : Int) (a1 : Int) : Option (Int) := (a8.f 8 a0).bind fun tq0 => (if tq0 = true then ((bE.f a1 0 7).bind fun tq1 => (if tq1 = true then (if 0 ≤ (IntKind.u64.wrap (a1)) then (some (Go.bits .or .i64 a0 (shl .i64 1 (IntKind.u64.wrap (a1))))) else (none)) else (some a0))) else (some a0))
theorem dG.n0 (a0 : Int) (a1 : Int) (r : Int) (w : World) (h : dG.f a0 a1 = some r) :
  CD Tryz.prog 61 #[.int .i64 a0, .int .i64 a1] w (.int .i64 r) := by
 have H := h; clear h; unfold dG.f at H; (try dsimp only at H); replace H := bo H; obtain ⟨tq0, A3, H⟩ := H; replace H := ckB H; obtain ⟨rfl, H⟩ | ⟨rfl, H⟩ := H
 ·replace H := bo H; obtain ⟨tq1, A5, H⟩ := H; replace H := ckB H; obtain ⟨rfl, H⟩ | ⟨rfl, H⟩ := H
  ·obtain ⟨ji7, hji7⟩ : ∃ j_ : Int, (IntKind.u64.wrap (a1)) = j_ := ⟨_, rfl⟩; (first | rw [hji7] at H | simp only [hji7] at H); (try rw [hji7] at A3); (try rw [hji7] at A5); replace H := gdB H; obtain ⟨c8b0, c8b1, H⟩ := H; obtain ⟨ji9, hji9⟩ : ∃ j_ : Int, (shl .i64 1 (ji7)) = j_ := ⟨_, rfl⟩; (first | rw [hji9] at H | simp only [hji9] at H); (try rw [hji9] at A3); (try rw [hji9] at A5); have hji9_ : (IntKind.i64.wrap (1 * 2 ^ min (ji7).toNat 64)) = ji9 := hji9; have hji9z : (ji7) ≤ 64 → (IntKind.i64.wrap (1 * 2 ^ (ji7).toNat)) = ji9 := dD hji9; have hji9u : (IntKind.i64.wrap (2 ^ min (ji7).toNat 64)) = ji9 := by have h_ := hji9_; rw [Int.one_mul] at h_; exact h_
   have hji9v : (ji7) ≤ 64 → (IntKind.i64.wrap (2 ^ (ji7).toNat)) = ji9 := fun hle_ => by have h_ := hji9z hle_; rw [Int.one_mul] at h_; exact h_
   have hji9y : (wrap64 (1 * 2 ^ min (ji7).toNat 64)) = ji9 := (i64_w _).symm.trans hji9_; have hji9x : (ji7) ≤ 64 → (wrap64 (1 * 2 ^ (ji7).toNat)) = ji9 := fun h_ => (i64_w _).symm.trans (hji9z h_)
   obtain rfl := oj H; go_enter func61, ntmps61; go_wp2_with (first | (refine gt 112 ?_; refine gcD (some 6) func112 (a8.n0 8 a0 true _ A3.out) ?_; intro nd) | (go_at_call 116; (with_reducible refine (bE.n0 a1 0 7 true _ A5.out).mono ?_); rintro e w' ⟨rfl, ⟨nd, rfl⟩⟩))
   go_ret
   exact ⟨by first | rfl | (simp; done) | (simp only [← hji7, ← hji9] <;> (first | rfl | simp)) | (simp [*]; done), rd_⟩
  ·obtain rfl := oj H; go_enter func61, ntmps61; go_wp2_with (first | (refine gt 112 ?_; refine gcD (some 6) func112 (a8.n0 8 a0 true _ A3.out) ?_; intro nd) | (go_at_call 116; (with_reducible refine (bE.n0 a1 0 7 false _ A5.out).mono ?_); rintro e w' ⟨rfl, ⟨nd, rfl⟩⟩))
   go_ret
   exact ⟨rs_, rd_⟩
 ·obtain rfl := oj H; go_enter func61, ntmps61; go_wp2_with (first | (refine gt 112 ?_; refine gcD (some 6) func112 (a8.n0 8 a0 false _ A3.out) ?_; intro nd))
  go_ret
  exact ⟨rs_, rd_⟩
def a7.l0 : Nat → Int → List Int → Int → Option (List Int)
 | 0, _, _, _ => none
 | k + 1, x0, x3, x4 => if x4 < 8 then ((dz.f x0 x4).bind fun tq0 => (if tq0 = true then (if x3.length < 17592186044416 then (a7.l0 k x0 (x3 ++ [x4]) (wrap64 (x4 + 1))) else (none)) else (a7.l0 k x0 x3 (wrap64 (x4 + 1))))) else (some x3)
def a7.f (k : Nat) (a0 : Int) : Option (List Int) := a7.l0 k a0 (([] : List Int)) 0
theorem a7.o6 : ∀ k, (∀ y0 y1 y2, LeO (a7.l0 k y0 y1 y2) (a7.l0 (k + 1) y0 y1 y2))
 | 0 => fun _ _ _ r h => by simp [a7.l0] at h
 | k + 1 => by
  have ih0 := a7.o6 k
  ·intro y0 y1 y2; unfold a7.l0; exact mn_
theorem a7.mono : ∀ a0 k, LeO (a7.f k a0) (a7.f (k + 1) a0) := by
 intro a0 k; have ih0 := a7.o6 k; unfold a7.f; exact mn_
theorem a7.n0 (k : Nat) (a0 : Int) (r : List Int) (w : World) (h : a7.f k a0 = some r) :
  Calls Tryz.prog 241 #[.int .i64 a0] w fun e w' => ∃ v0_ : Value, e = .returned (v0_) ∧ Kd.R (Kd.int .i64) 3 w' w.heap.size (fun _ => True) v0_ r ∧ Below w.heap.size w w' := by
 have HB := aQ (Below.refl w.heap.size w); have H : (a7.l0 k a0 (([] : List Int)) 0) = some r := h; clear h; obtain ⟨yq1, hyq1⟩ : ∃ y_ : List Int, y_ = (([] : List Int)) := ⟨_, rfl⟩; replace H : (a7.l0 k a0 yq1 0) = some r := by first | (rw [hyq1]; with_reducible exact H) | (rw [hyq1]; exact H)
 have Nyq1 := aQ hyq1; clear hyq1; have H' := aQ H; clear H; go_enter func241, ntmps241; go_wp2_with (first | (refine lI (d := Kd.int .i64) 5 Nyq1 ?_; intro vq2 w2 ho3 hb; have HOq3 := aQ (Kd.n6 ho3 (aa (aj HB))); replace HB := bs HB hb; clear hb ho3))
 go_loopg [3, 4] k (fun kq v3 v4 w' => ∃ (x3_1 : List Int) (x4_1 : Int), v4 = .int .i64 x4_1 ∧ Aside0 (a7.l0 kq a0 x3_1 x4_1 = some r) ∧ Aside0 (kq ≤ k) ∧ Aside0 (Kd.R (Kd.int .i64) 3 w' w.heap.size (fun _ => True) v3 x3_1) ∧ Aside0 (Below w.heap.size w w'))
 case atStart => exact ⟨(yq1), (0), rs_, H', ⟨Nat.le_refl _⟩, ⟨ab HOq3⟩, ⟨aj HB⟩⟩
 clear H'; obtain ⟨x3_1, x4_1, rfl, HA, HK1, HO_3, HB⟩ := hrel; rcases gk with _ | k1
 ·exact absurd HA.out (by simp [a7.l0])
 have H := HA.out; clear HA; simp only [a7.l0] at H; replace H := ckD H; obtain ⟨c4b0, H⟩ | ⟨c4b0, H⟩ := H
 ·replace H := bo H; obtain ⟨tq0, A5, H⟩ := H; replace H := ckB H; obtain ⟨rfl, H⟩ | ⟨rfl, H⟩ := H
  ·replace H := gdA H; obtain ⟨LMc7, H⟩ := H; obtain ⟨yq4, hyq4⟩ : ∃ y_ : List Int, y_ = (x3_1 ++ [x4_1]) := ⟨_, rfl⟩; replace H : (a7.l0 k1 a0 yq4 (wrap64 (x4_1 + 1))) = some r := by first | (rw [hyq4]; with_reducible exact H) | (rw [hyq4]; exact H)
   have Nyq4 := aQ hyq4; clear hyq4; have H' := aQ H; clear H; go_wp2_with (first | (refine gt 41 ?_; refine gcD (some 12) func41 (dz.n0 a0 x4_1 true _ A5.out) ?_; intro nd) | ((with_reducible refine gate_builtin (b := .append) (xs := #[.tmp 13, .tmp 15]) rfl ?_); at_builtin; refine ap (ok := fun _ => True) (.tmp 13) (.tmp 15) underlying24 cv u3 x3_1 Nyq4 LMc7 (ab HO_3) ?_; intro vq5 w8 ho hb hg hat; replace HB := aQ (hb); have HOq6 := aQ (ho); clear HO_3; clear ho hb hg hat))
   go_roundg k1
   case measure => exact omeg HK1
   case rel => exact ⟨(yq4), (wrap64 (x4_1 + 1)), rs_, H', ⟨omeg HK1⟩, ⟨ab HOq6⟩, ⟨aj HB⟩⟩
  ·have H' := aQ H; clear H; go_wp2_with (first | (refine gt 41 ?_; refine gcD (some 12) func41 (dz.n0 a0 x4_1 false _ A5.out) ?_; intro nd))
   go_roundg k1
   case measure => exact omeg HK1
   case rel => exact ⟨(x3_1), (wrap64 (x4_1 + 1)), rs_, H', ⟨omeg HK1⟩, ⟨ab HO_3⟩, ⟨aj HB⟩⟩
 ·obtain rfl := oj H; go_wp2
  go_ret
  exact ⟨_, re_, by refine pRx ?_; exact HO_3.out, aj HB⟩
def bh.l0 : Nat → ByteArray → List Int → Int → Option (ByteArray)
 | 0, _, _, _ => none
 | k + 1, x3, x4, x5 => if x5 < (x4.length : Int) then (if 0 ≤ x5 then (if 0 ≤ (rd x4 x5) then (if (rd x4 x5) ≤ (wrap64 ((rd x4 x5) + 1)) then (if (wrap64 ((rd x4 x5) + 1)) ≤ 8 then (if x3.size + ((⟨#[97, 98, 99, 100, 101, 102, 103, 104]⟩ : ByteArray).extract ((rd x4 x5) : Int).toNat ((wrap64 ((rd x4 x5) + 1)) : Int).toNat).size ≤ 9223372036854775807 then (bh.l0 k (x3 ++ ((⟨#[97, 98, 99, 100, 101, 102, 103, 104]⟩ : ByteArray).extract ((rd x4 x5) : Int).toNat ((wrap64 ((rd x4 x5) + 1)) : Int).toNat)) x4 (wrap64 (x5 + 1))) else (none)) else (none)) else (none)) else (none)) else (none)) else (some x3)
def bh.f (k : Nat) (a0 : Int) : Option (ByteArray) := (a8.f 8 a0).bind fun tq0 => (if tq0 = true then (if a0 = 0 then (some (⟨#[45]⟩ : ByteArray)) else ((a7.f k a0).bind fun tq1 => (bh.l0 k (⟨#[]⟩ : ByteArray) tq1 0))) else (some (⟨#[]⟩ : ByteArray)))
theorem bh.o6 : ∀ k, (∀ y0 y1 y2, LeO (bh.l0 k y0 y1 y2) (bh.l0 (k + 1) y0 y1 y2))
 | 0 => fun _ _ _ r h => by simp [bh.l0] at h
 | k + 1 => by
  have ih0 := bh.o6 k
  ·intro y0 y1 y2; unfold bh.l0
   repeat' first | (with_reducible first | exact ih0 _ _ _ | exact a7.mono _ _ | exact LeO.refl _ | exact LeO.none _ | refine LeO.ite ?_ ?_ | refine LeO.bind ?_ (fun _ => ?_)) | exact ih0 _ _ _ | exact LeO.none _ | refine LeO.ite ?_ ?_ | refine LeO.bind ?_ (fun _ => ?_)
theorem bh.mono : ∀ a0 k, LeO (bh.f k a0) (bh.f (k + 1) a0) := by
 intro a0 k; have ih0 := bh.o6 k; unfold bh.f
 repeat' first | (with_reducible first | exact ih0 _ _ _ | exact a7.mono _ _ | exact LeO.refl _ | exact LeO.none _ | refine LeO.ite ?_ ?_ | refine LeO.bind ?_ (fun _ => ?_)) | exact ih0 _ _ _ | exact LeO.none _ | refine LeO.ite ?_ ?_ | refine LeO.bind ?_ (fun _ => ?_)
theorem bh.n0 (k : Nat) (a0 : Int) (r : ByteArray) (w : World) (h : bh.f k a0 = some r) :
  CB Tryz.prog 298 #[.int .i64 a0] w (.string r) := by
 have HB := aQ (Below.refl w.heap.size w); have H := h; clear h; unfold bh.f at H; (try dsimp only at H); replace H := bo H; obtain ⟨tq0, A2, H⟩ := H; replace H := ckB H; obtain ⟨rfl, H⟩ | ⟨rfl, H⟩ := H
 ·replace H := ckE H; obtain ⟨c4b0, c4b1, H⟩ | ⟨c4, c4b0, c4b1, H⟩ := H
  ·obtain rfl := oj H; go_enter func298, ntmps298; go_wp2_with (first | (go_at_call 112; (with_reducible refine (a8.n0 8 a0 true _ A2.out).mono ?_); rintro e w' ⟨rfl, ⟨nd, rfl⟩⟩; (try exact dq_)))
   repeat (go_quiet (first | (go_at_call 112; (with_reducible refine (a8.n0 8 a0 true _ A2.out).mono ?_); rintro e w' ⟨rfl, ⟨nd, rfl⟩⟩; (try exact dq_))); try go_wp2_with (first | (go_at_call 112; (with_reducible refine (a8.n0 8 a0 true _ A2.out).mono ?_); rintro e w' ⟨rfl, ⟨nd, rfl⟩⟩; (try exact dq_))))
   go_ret
   exact ⟨re_, aj HB⟩
  ·replace H := bo H; obtain ⟨tq1, A5, H⟩ := H; have H' := aQ H; clear H; go_enter func298, ntmps298; go_wp2_with (first | (go_at_call 112; (with_reducible refine (a8.n0 8 a0 true _ A2.out).mono ?_); rintro e w' ⟨rfl, ⟨nd, rfl⟩⟩; (try exact dq_)) | (go_at_call 241; (with_reducible refine (a7.n0 k a0 tq1 _ A5.out).mono ?_); rintro e w6 ⟨vq2, rfl, ho0, hb⟩; have HOq3 := aQ (Kd.n6 ho0 (aa (aj HB))); replace HB := bs HB hb; (try clear hb); (try clear ho0)))
   repeat (go_quiet (first | (go_at_call 112; (with_reducible refine (a8.n0 8 a0 true _ A2.out).mono ?_); rintro e w' ⟨rfl, ⟨nd, rfl⟩⟩; (try exact dq_)) | (go_at_call 241; (with_reducible refine (a7.n0 k a0 tq1 _ A5.out).mono ?_); rintro e w6 ⟨vq2, rfl, ho0, hb⟩; have HOq3 := aQ (Kd.n6 ho0 (aa (aj HB))); replace HB := bs HB hb; (try clear hb); (try clear ho0))); try go_wp2_with (first | (go_at_call 112; (with_reducible refine (a8.n0 8 a0 true _ A2.out).mono ?_); rintro e w' ⟨rfl, ⟨nd, rfl⟩⟩; (try exact dq_)) | (go_at_call 241; (with_reducible refine (a7.n0 k a0 tq1 _ A5.out).mono ?_); rintro e w6 ⟨vq2, rfl, ho0, hb⟩; have HOq3 := aQ (Kd.n6 ho0 (aa (aj HB))); replace HB := bs HB hb; (try clear hb); (try clear ho0))))
   go_loopg [3, 5] k (fun kq v3 v5 w' => ∃ (x3_1 : ByteArray) (x5_1 : Int), v3 = .string x3_1 ∧ v5 = .int .i64 x5_1 ∧ Aside0 (bh.l0 kq x3_1 tq1 x5_1 = some r) ∧ Aside0 (kq ≤ k) ∧ Aside0 (Kd.R (Kd.int .i64) 3 w' w.heap.size (fun _ => True) vq2 tq1) ∧ Aside0 (Below w.heap.size w w'))
   case atStart => exact ⟨((⟨#[]⟩ : ByteArray)), (0), rs_, rs_, H', ⟨Nat.le_refl _⟩, ⟨ab HOq3⟩, ⟨aj HB⟩⟩
   clear H'; try clear c3
   try clear c4
   try clear c4b0
   try clear c4b1
   obtain ⟨x3_1, x5_1, rfl, rfl, HA, HK1, HO_4, HB⟩ := hrel; rcases gk with _ | k1
   ·exact absurd HA.out (by simp [bh.l0])
   have H := HA.out; clear HA; simp only [bh.l0] at H; replace H := ckD H; obtain ⟨c7b0, H⟩ | ⟨c7b0, H⟩ := H
   ·replace H := gdD H; obtain ⟨c8b0, H⟩ := H; replace H := gdB H; obtain ⟨c9b0, c9b1, H⟩ := H; replace H := gd H; obtain ⟨c10, H⟩ := H; have c10b0 := eq_true c10; have c10b1 := decide_eq_true c10; replace H := gd H; obtain ⟨c11, H⟩ := H; have c11b0 := eq_true c11; have c11b1 := decide_eq_true c11; replace H := gd H; obtain ⟨c12, H⟩ := H; have c12b0 := eq_true c12; have c12b1 := decide_eq_true c12; try have c12b2 : (9223372036854775807 < x3_1.size + ((⟨#[97, 98, 99, 100, 101, 102, 103, 104]⟩ : ByteArray).extract ((rd tq1 x5_1) : Int).toNat ((wrap64 ((rd tq1 x5_1) + 1)) : Int).toNat).size) = False := eq_false (Nat.not_lt.2 c12)
    have H' := aQ H; clear H; obtain ⟨Ao13, co13, eo13⟩ := Kd.n8 HO_4.out; subst eo13; have pq4 : 0 ≤ (x5_1 : Int) := of_decide_eq_true as_; have qq4 : x5_1 < (tq1.length : Int) := of_decide_eq_true as_; obtain ⟨adq4, eq4, hxq4_0⟩ := Kd.o0 (Kd.n5 HO_4.out).2.2 x5_1 pq4 qq4; cases eq4; replace pq4 := eq_true pq4; replace qq4 := eq_true qq4; obtain ⟨adq5, eq5, hxq5_0, pq5, qq5⟩ := aI (Kd.n5 HO_4.out).2.2 x5_1; obtain rfl : adq4 = adq5 := (by injection eq5); go_wp2
    repeat (go_quiet (fail); try go_wp2)
    go_roundg k1
    case measure => exact omeg HK1
    case rel => exact ⟨(x3_1 ++ ((⟨#[97, 98, 99, 100, 101, 102, 103, 104]⟩ : ByteArray).extract ((rd tq1 x5_1) : Int).toNat ((wrap64 ((rd tq1 x5_1) + 1)) : Int).toNat)), (wrap64 (x5_1 + 1)), rs_, rs_, H', ⟨omeg HK1⟩, ⟨ab HO_4⟩, ⟨aj HB⟩⟩
   ·obtain rfl := oj H; obtain ⟨Ao14, co14, eo14⟩ := Kd.n8 HO_4.out; subst eo14; go_wp2
    repeat (go_quiet (fail); try go_wp2)
    go_ret
    exact ⟨re_, aj HB⟩
 ·obtain rfl := oj H; go_enter func298, ntmps298; go_wp2_with (first | (go_at_call 112; (with_reducible refine (a8.n0 8 a0 false _ A2.out).mono ?_); rintro e w' ⟨rfl, ⟨nd, rfl⟩⟩; (try exact dq_)))
  repeat (go_quiet (first | (go_at_call 112; (with_reducible refine (a8.n0 8 a0 false _ A2.out).mono ?_); rintro e w' ⟨rfl, ⟨nd, rfl⟩⟩; (try exact dq_))); try go_wp2_with (first | (go_at_call 112; (with_reducible refine (a8.n0 8 a0 false _ A2.out).mono ?_); rintro e w' ⟨rfl, ⟨nd, rfl⟩⟩; (try exact dq_))))
  go_ret
  exact ⟨re_, aj HB⟩
end Go.Proofs.YtimkekeaeojpkaaGreat.A
