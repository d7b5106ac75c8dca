/- Machine side of the law FnRenamed: Go functions as Lean functions, and proofs that calls come to what these tell. Conditions: those in each theorem. -/
import Derived.Test.YtbdloopelidneaaGreatMFnRenamedwRepsOne
import Derived.Test.YtbdloopelidneaaGreatMFnRenamed0
import Derived.Test.YtbdloopelidneaaGreatMFnRenamed1
set_option maxHeartbeats 8000000
set_option maxRecDepth 100000
namespace Go.Proofs.YtbdloopelidneaaGreat.A
open Go.RowKit Go.Proofs.YtbdloopelidneaaGreatW.PrintWords Go.Proofs.YtbdloopelidneaaGreatW.PrintLast Go.Proofs.YtbdloopelidneaaGreatW.PrintMore Tryz
attribute [local go_sem] cy ct cP cN b7 b9 cu cv
set_option linter.unusedVariables false
set_option linter.unusedSimpArgs false
def dJ.f (a0 : Int) (a1 : Int) : Option (Int) := if a0 < a1 then (some a0) else (some a1)
theorem dJ.n0 (a0 : Int) (a1 : Int) (r : Int) (w : World) (h : dJ.f a0 a1 = some r) :
  CD Tryz.prog 85 #[.int .i64 a0, .int .i64 a1] w (.int .i64 r) := by
 have H : (if a0 < a1 then (some a0) else (some a1)) = some r := h; clear h; replace H := ckD H; obtain ⟨c3b0, H⟩ | ⟨c3b0, H⟩ := H
 ·obtain rfl := oj H; go_enter func85, ntmps85; go_wp2
  go_ret
  exact ⟨rs_, rd_⟩
 ·obtain rfl := oj H; go_enter func85, ntmps85; go_wp2
  go_ret
  exact ⟨rs_, rd_⟩
def cR.f (s0_0 : List Int) (s0_1 : Int) (s0_2 : Int) : Option (Int × Int × Int) := if s0_1 < (s0_0.length : Int) then (if 0 ≤ s0_1 then (some (Go.bits .and .i64 (wrap64 ((Go.bits .and .i64 (Go.bits .xor .i64 ((wrap64 ((wrap64 (s0_2 * 6364136223846793005)) + 1442695040888963407)) / 8589934592) ((wrap64 ((wrap64 (s0_2 * 6364136223846793005)) + 1442695040888963407)) / 35184372088832)) 255) + (wrap64 (rd s0_0 s0_1)))) 255, wrap64 (s0_1 + 1), wrap64 ((wrap64 (s0_2 * 6364136223846793005)) + 1442695040888963407))) else (none)) else (some (Go.bits .and .i64 (Go.bits .xor .i64 ((wrap64 ((wrap64 (s0_2 * 6364136223846793005)) + 1442695040888963407)) / 8589934592) ((wrap64 ((wrap64 (s0_2 * 6364136223846793005)) + 1442695040888963407)) / 35184372088832)) 255, s0_1, wrap64 ((wrap64 (s0_2 * 6364136223846793005)) + 1442695040888963407)))
theorem cR.n0 (g : Nat) (s0_0 : List Int) (s0_1 : Int) (s0_2 : Int) (r1 : Int) (r2 : Int) (r3 : Int) (w0 w : World) (hI : H4 w0 w g s0_0 s0_1 s0_2) (hB : Below w0.heap.size w0 w) (h : cR.f s0_0 s0_1 s0_2 = some (r1, r2, r3)) :
  Calls Tryz.prog 130 #[.pointer (some ⟨g, 0, none⟩)] w fun e w' => e = .returned (.int .i64 r1) ∧ H4 w0 w' g s0_0 r2 r3 ∧ Below w0.heap.size w0 w' ∧ KeepBut w w' g none := by
 have HI0 := aQ hI; have HK := aQ (KeepBut.refl w g none); have HL := aQ hB.size; clear hI; have HW0 := aQ hB.size; have HB := aQ hB; clear hB; have H := h; clear h; unfold cR.f at H; (try dsimp only at H); replace H := ckD H; obtain ⟨c2b0, H⟩ | ⟨c2b0, H⟩ := H
 ·replace H := gdD H; obtain ⟨c3b0, H⟩ := H; obtain ⟨rfl, rfl, rfl⟩ := o3 H; obtain ⟨ASz4_0, cSz4_0, HGz4, hgz4, HSz4_0⟩ := HI0.out; have hcz4_0 := je HGz4; have hcz4_1 := jg HGz4; have hcz4_2 := i6 HGz4; have hfz4_1 := ag HGz4 1; have hfz4_2 := ag HGz4 2; clear HGz4 hgz4; have pq0 : 0 ≤ (s0_1 : Int) := of_decide_eq_true as_; have qq0 : s0_1 < (s0_0.length : Int) := of_decide_eq_true as_; obtain ⟨adq0, eq0, hxq0_0⟩ := Kd.o5 HSz4_0 s0_1 pq0 qq0; cases eq0; have hnq0_0 : adq0.block ≠ g := Nat.ne_of_lt (Nat.lt_of_lt_of_le (by have := World.block_lt_of_cell? _ _ hxq0_0; first | rwa [ff] at this | exact this) (H4.ge HI0.out)); replace hxq0_0 := dC HB.out hxq0_0; replace hxq0_0 := (bH (p := ⟨g, 2, none⟩) (by first | (rw [ff]; exact hnq0_0) | (show (Addr.add _ _).block ≠ _; rw [ff]; exact hnq0_0) | exact hnq0_0) (.int .i64 (wrap64 ((wrap64 (s0_2 * 6364136223846793005)) + 1442695040888963407)))).trans hxq0_0; (try have hyq0_0 := fun (n_ : Nat) => (show (((w.drewN n_).setCell ⟨g, 2, none⟩ (.int .i64 (wrap64 ((wrap64 (s0_2 * 6364136223846793005)) + 1442695040888963407))))).cell? _ = some _ from hxq0_0)); clear hnq0_0; replace pq0 := eq_true pq0; replace qq0 := eq_true qq0; go_enter func130, ntmps130; go_wp2
  repeat (go_quiet (fail); try go_wp2)
  go_ret
  exact ⟨re_, pi_ HI0, pbI HB, pq HK⟩
 ·obtain ⟨rfl, rfl, rfl⟩ := o3 H; obtain ⟨ASz5_0, cSz5_0, HGz5, hgz5, HSz5_0⟩ := HI0.out; have hcz5_0 := je HGz5; have hcz5_1 := jg HGz5; have hcz5_2 := i6 HGz5; have hfz5_1 := ag HGz5 1; have hfz5_2 := ag HGz5 2; clear HGz5 hgz5; go_enter func130, ntmps130; go_wp2
  repeat (go_quiet (fail); try go_wp2)
  go_ret
  exact ⟨re_, pi_ HI0, pbI HB, pq HK⟩
def az.f (s0_0 : List Int) (s0_1 : Int) (s0_2 : Int) (a1 : Int) : Option (Int × Int × Int) := if a1 ≤ 0 then (some (0, s0_1, s0_2)) else (if a1 ≤ 256 then ((cR.f s0_0 s0_1 s0_2).bind fun btq0 => (if a1 = 0 then (none) else (some (Int.tmod btq0.1 a1, btq0.2.1, btq0.2.2)))) else ((cR.f s0_0 s0_1 s0_2).bind fun btq1 => ((cR.f s0_0 btq1.2.1 btq1.2.2).bind fun btq2 => ((cR.f s0_0 btq2.2.1 btq2.2.2).bind fun btq3 => ((cR.f s0_0 btq3.2.1 btq3.2.2).bind fun btq4 => (if a1 = 0 then (none) else (some (Int.tmod (wrap64 ((wrap64 ((wrap64 ((wrap64 (btq1.1 * 16777216)) + (wrap64 (btq2.1 * 65536)))) + (wrap64 (btq3.1 * 256)))) + btq4.1)) a1, btq4.2.1, btq4.2.2))))))))
theorem az.n0 (g : Nat) (s0_0 : List Int) (s0_1 : Int) (s0_2 : Int) (a1 : Int) (r1 : Int) (r2 : Int) (r3 : Int) (w0 w : World) (hI : H4 w0 w g s0_0 s0_1 s0_2) (hB : Below w0.heap.size w0 w) (h : az.f s0_0 s0_1 s0_2 a1 = some (r1, r2, r3)) :
  Calls Tryz.prog 98 #[.pointer (some ⟨g, 0, none⟩), .int .i64 a1] w fun e w' => e = .returned (.int .i64 r1) ∧ H4 w0 w' g s0_0 r2 r3 ∧ Below w0.heap.size w0 w' ∧ KeepBut w w' g none := by
 have HI0 := aQ hI; have HK := aQ (KeepBut.refl w g none); have HL := aQ hB.size; clear hI; have HW0 := aQ hB.size; have HB := aQ hB; clear hB; have H := h; clear h; unfold az.f at H; (try dsimp only at H); replace H := ckD H; obtain ⟨c3b0, H⟩ | ⟨c3b0, H⟩ := H
 ·obtain ⟨rfl, rfl, rfl⟩ := o3 H; go_enter func98, ntmps98; go_wp2
  go_ret
  exact ⟨re_, pi_ HI0, pbI HB, pq HK⟩
 ·replace H := ckD H; obtain ⟨c4b0, H⟩ | ⟨c4b0, H⟩ := H
  ·replace H := bo H; obtain ⟨⟨tq0, tq5, tq6⟩, A5, H⟩ := H; (try dsimp only at H); by_cases c6 : a1 = 0
   ·rw [if_pos c6] at H; exact absurd H (by simp)
   ·rw [if_neg c6] at H; obtain ⟨c6b0, c6b1⟩ := eqF c6; obtain ⟨rfl, rfl, rfl⟩ := o3 H; go_enter func98, ntmps98; go_wp2_with (first | (refine gt 130 ?_; refine gc (some 14) func130 (cR.n0 g s0_0 s0_1 s0_2 tq0 tq5 tq6 w0 _ (pi_ HI0) (pbI HB) A5.out) ?_; rintro e w7 ⟨rfl, hi, hb, hk⟩; refine ⟨_, rfl, ?_⟩; replace HK := kh HK hk; replace HB := aQ (hb); replace HI0 := aQ (hi); (try clear hb); (try clear hk); (try clear hi)))
    go_ret
    exact ⟨re_, pi_ HI0, pbI HB, pq HK⟩
  ·replace H := bo H; obtain ⟨⟨tq1, tq7, tq8⟩, A8, H⟩ := H; (try dsimp only at H); replace H := bo H; obtain ⟨⟨tq2, tq9, tqa⟩, A9, H⟩ := H; (try dsimp only at H); replace H := bo H; obtain ⟨⟨tq3, tqb, tqc⟩, A10, H⟩ := H; (try dsimp only at H); replace H := bo H; obtain ⟨⟨tq4, tqd, tqe⟩, A11, H⟩ := H; (try dsimp only at H); by_cases c12 : a1 = 0
   ·rw [if_pos c12] at H; exact absurd H (by simp)
   ·rw [if_neg c12] at H; obtain ⟨c12b0, c12b1⟩ := eqF c12; obtain ⟨rfl, rfl, rfl⟩ := o3 H; go_enter func98, ntmps98; go_wp2_with (first | (refine gt 130 ?_; refine gc (some 18) func130 (cR.n0 g s0_0 s0_1 s0_2 tq1 tq7 tq8 w0 _ (pi_ HI0) (pbI HB) A8.out) ?_; rintro e w13 ⟨rfl, hi, hb, hk⟩; refine ⟨_, rfl, ?_⟩; replace HK := kh HK hk; replace HB := aQ (hb); replace HI0 := aQ (hi); (try clear hb); (try clear hk); (try clear hi)) | (refine gt 130 ?_; refine gc (some 20) func130 (cR.n0 g s0_0 tq7 tq8 tq2 tq9 tqa w0 _ (pi_ HI0) (pbI HB) A9.out) ?_; rintro e w14 ⟨rfl, hi, hb, hk⟩; refine ⟨_, rfl, ?_⟩; replace HK := kh HK hk; replace HB := aQ (hb); replace HI0 := aQ (hi); (try clear hb); (try clear hk); (try clear hi)) | (refine gt 130 ?_; refine gc (some 22) func130 (cR.n0 g s0_0 tq9 tqa tq3 tqb tqc w0 _ (pi_ HI0) (pbI HB) A10.out) ?_; rintro e w15 ⟨rfl, hi, hb, hk⟩; refine ⟨_, rfl, ?_⟩; replace HK := kh HK hk; replace HB := aQ (hb); replace HI0 := aQ (hi); (try clear hb); (try clear hk); (try clear hi)) | (refine gt 130 ?_; refine gc (some 24) func130 (cR.n0 g s0_0 tqb tqc tq4 tqd tqe w0 _ (pi_ HI0) (pbI HB) A11.out) ?_; rintro e w16 ⟨rfl, hi, hb, hk⟩; refine ⟨_, rfl, ?_⟩; replace HK := kh HK hk; replace HB := aQ (hb); replace HI0 := aQ (hi); (try clear hb); (try clear hk); (try clear hi)))
    go_ret
    exact ⟨re_, pi_ HI0, pbI HB, pq HK⟩
def cA.f (a0 : Int) : Option (Int) := (b3.f a0 0 8).bind fun tq0 => (if tq0 = true then (if 0 ≤ (IntKind.u64.wrap (a0)) then (some (wrap64 ((shl .i64 1 (IntKind.u64.wrap (a0))) - 1))) else (none)) else (some 0))
theorem cA.n0 (a0 : Int) (r : Int) (w : World) (h : cA.f a0 = some r) :
  CD Tryz.prog 54 #[.int .i64 a0] w (.int .i64 r) := by
 have H := h; clear h; unfold cA.f at H; (try dsimp only at H); replace H := bo H; obtain ⟨tq0, A2, H⟩ := H; replace H := ckB H; obtain ⟨rfl, H⟩ | ⟨rfl, H⟩ := H
 ·obtain ⟨ji4, hji4⟩ : ∃ j_ : Int, (IntKind.u64.wrap (a0)) = j_ := ⟨_, rfl⟩; (first | rw [hji4] at H | simp only [hji4] at H); (try rw [hji4] at A2); replace H := gdB H; obtain ⟨c5b0, c5b1, H⟩ := H; obtain ⟨ji6, hji6⟩ : ∃ j_ : Int, (shl .i64 1 (ji4)) = j_ := ⟨_, rfl⟩; (first | rw [hji6] at H | simp only [hji6] at H); (try rw [hji6] at A2); have hji6_ : (IntKind.i64.wrap (1 * 2 ^ min (ji4).toNat 64)) = ji6 := hji6; have hji6z : (ji4) ≤ 64 → (IntKind.i64.wrap (1 * 2 ^ (ji4).toNat)) = ji6 := dr hji6; have hji6u : (IntKind.i64.wrap (2 ^ min (ji4).toNat 64)) = ji6 := by have h_ := hji6_; rw [Int.one_mul] at h_; exact h_
  have hji6v : (ji4) ≤ 64 → (IntKind.i64.wrap (2 ^ (ji4).toNat)) = ji6 := fun hle_ => by have h_ := hji6z hle_; rw [Int.one_mul] at h_; exact h_
  have hji6y : (wrap64 (1 * 2 ^ min (ji4).toNat 64)) = ji6 := (i64_w _).symm.trans hji6_; have hji6x : (ji4) ≤ 64 → (wrap64 (1 * 2 ^ (ji4).toNat)) = ji6 := fun h_ => (i64_w _).symm.trans (hji6z h_)
  obtain rfl := oj H; go_enter func54, ntmps54; go_wp2_with (first | (refine gt 82 ?_; refine gcD (some 4) func82 (b3.n0 a0 0 8 true _ A2.out) ?_; intro nd))
  go_ret
  exact ⟨by first | rfl | (simp; done) | (simp only [← hji4, ← hji6] <;> (first | rfl | simp)) | (simp [*]; done), rd_⟩
 ·obtain rfl := oj H; go_enter func54, ntmps54; go_wp2_with (first | (refine gt 82 ?_; refine gcD (some 4) func82 (b3.n0 a0 0 8 false _ A2.out) ?_; intro nd))
  go_ret
  exact ⟨rs_, rd_⟩
def b5.l0 : Nat → Int → Int → Option (Int)
 | 0, _, _ => none
 | k + 1, x0, x3 => if x0 > 0 then (b5.l0 k (x0 / 2) (wrap64 (x3 + (Go.bits .and .i64 x0 1)))) else (some x3)
def b5.f (k : Nat) (a0 : Int) : Option (Int) := (bg.f 8 a0).bind fun tq0 => (if tq0 = true then (b5.l0 k a0 0) else (some 0))
theorem b5.n0 (k : Nat) (a0 : Int) (r : Int) (w : World) (h : b5.f k a0 = some r) :
  CD Tryz.prog 58 #[.int .i64 a0] w (.int .i64 r) := by
 have H := h; clear h; unfold b5.f at H; (try dsimp only at H); replace H := bo H; obtain ⟨tq0, A2, H⟩ := H; replace H := ckB H; obtain ⟨rfl, H⟩ | ⟨rfl, H⟩ := H
 ·have H' := aQ H; clear H; go_enter func58, ntmps58; go_wp2_with (first | (refine gt 81 ?_; refine gcD (some 5) func81 (bg.n0 8 a0 true _ A2.out) ?_; intro nd))
  go_loopg [0, 3] k (fun kq v0 v3 w' => ∃ (x0_1 : Int) (x3_1 : Int), v0 = .int .i64 x0_1 ∧ v3 = .int .i64 x3_1 ∧ Aside0 (b5.l0 kq x0_1 x3_1 = some r) ∧ Aside0 (kq ≤ k) ∧ Drawn0 w w')
  case atStart => exact ⟨(a0), (0), rs_, rs_, H', ⟨Nat.le_refl _⟩, rd_⟩
  clear H'; try clear c3
  obtain ⟨x0_1, x3_1, rfl, rfl, HA, HK1, ⟨m1, rfl⟩⟩ := hrel; rcases gk with _ | k1
  ·exact absurd HA.out (by simp [b5.l0])
  have H := HA.out; clear HA; simp only [b5.l0] at H; replace H := ckD H; obtain ⟨c4b0, H⟩ | ⟨c4b0, H⟩ := H
  ·have H' := aQ H; clear H; go_wp2
   go_roundg k1
   case measure => exact omeg HK1
   case rel => exact ⟨(x0_1 / 2), (wrap64 (x3_1 + (Go.bits .and .i64 x0_1 1))), rs_, rs_, H', ⟨omeg HK1⟩, rd_⟩
  ·obtain rfl := oj H; go_wp2
   go_ret
   exact ⟨rs_, rd_⟩
 ·obtain rfl := oj H; go_enter func58, ntmps58; go_wp2_with (first | (refine gt 81 ?_; refine gcD (some 5) func81 (bg.n0 8 a0 false _ A2.out) ?_; intro nd))
  go_ret
  exact ⟨rs_, rd_⟩
mutual
def bN.j0 : Nat → Int → Int → Bool → Option (Int × List Int)
 | 0, _, _, _ => none
 | k + 1, x0, x1, x15 => if x15 = true then (some (0, ([] : List Int))) else (bN.l0 k x0 x1 0 x1 ([] : List Int))
def bN.l0 : Nat → Int → Int → Int → Int → List Int → Option (Int × List Int)
 | 0, _, _, _, _, _ => none
 | k + 1, x0, x1, x6, x127005000, x127005001 => (cA.f x1).bind fun tq0 => (if x6 ≤ tq0 then ((b5.f k x6).bind fun tq1 => (if tq1 = x0 then (if x127005001.length < 17592186044416 then (bN.l0 k x0 x1 (wrap64 (x6 + 1)) x127005000 (x127005001 ++ [x6])) else (none)) else (bN.l0 k x0 x1 (wrap64 (x6 + 1)) x127005000 x127005001))) else (some (x127005000, x127005001)))
end
def bN.f (k : Nat) (a0 : Int) (a1 : Int) : Option (Int × List Int) := (b3.f a1 0 8).bind fun tq2 => (if tq2 = true then ((b3.f a0 0 a1).bind fun tq3 => (bN.j0 k a0 a1 (!tq3))) else (bN.j0 k a0 a1 true))
theorem bN.n0 (k : Nat) (a0 : Int) (a1 : Int) (r1 : Int) (r2 : List Int) (w : World) (h : bN.f k a0 a1 = some (r1, r2)) :
  Calls Tryz.prog 126 #[.int .i64 a0, .int .i64 a1] w fun e w' => ∃ v1_ : Value, e = .returned (.agg #[.int .i64 r1, v1_]) ∧ Kd.R (Kd.int .i64) 3 w' w.heap.size (fun _ => True) v1_ r2 ∧ Below w.heap.size w w' := by
 have hu26 := underlying26; have HB := aQ (Below.refl w.heap.size w); have H := h; clear h; unfold bN.f at H; (try dsimp only at H); have HC3 := aQ H; clear H; go_enter func126, ntmps126; go_upto_region 1 with (first | (refine bX 4 #[.int .i64 0, .slice none 0 0] 26 ?_; intro gbq4 hg w4 BKq4 hb; have GEq4 := gB HB hg; replace HB := bs HB hb; clear hb hg))
 (try simp only [Act.put, List.setIfInBounds_toArray, List.set_cons_zero, List.set_cons_succ]); go_cut [15] (fun v15 wc => ∃ (kq : Nat) (x15_2 : Bool), v15 = .bool x15_2 ∧ Aside0 (bN.j0 kq a0 a1 x15_2 = some (r1, r2)) ∧ Aside0 (kq ≤ k) ∧ Aside0 (wc.heap[gbq4]? = some (.cells #[.int .i64 0, (.slice none 0 0)] 26 (0, 0))) ∧ Aside0 (Below w.heap.size w wc))
 case first =>
  have H := HC3.out; clear HC3; replace H := bo H; obtain ⟨tq2, A5, H⟩ := H; replace H := ckB H; obtain ⟨rfl, H⟩ | ⟨rfl, H⟩ := H
  ·replace H := bo H; obtain ⟨tq3, A7, H⟩ := H; have H' := aQ H; clear H; go_wp2_with (first | (refine gt 82 ?_; refine gcD (some 8) func82 (b3.n0 a1 0 8 true _ A5.out) ?_; intro nd) | (go_at_call 82; (with_reducible refine (b3.n0 a0 0 a1 tq3 _ A7.out).mono ?_); rintro e w' ⟨rfl, ⟨nd, rfl⟩⟩))
   go_meet
   case rel => exact ⟨_, (!tq3), rs_, H', ⟨by first | omega | exact Nat.le_refl _⟩, ⟨ah BKq4⟩, ⟨bv HB GEq4⟩⟩
  ·have H' := aQ H; clear H; go_wp2_with (first | (refine gt 82 ?_; refine gcD (some 8) func82 (b3.n0 a1 0 8 false _ A5.out) ?_; intro nd))
   go_meet
   case rel => exact ⟨_, (true), rs_, H', ⟨by first | omega | exact Nat.le_refl _⟩, ⟨ah BKq4⟩, ⟨bv HB GEq4⟩⟩
 case rest =>
  clear HC3; obtain ⟨kq, x15_2, rfl, HA, HJ2, BKq4, HB⟩ := hcut; cases kq with
  | zero => exact absurd HA.out (by simp [bN.j0])
  | succ kj2 =>
   have H := HA.out; clear HA; simp only [bN.j0] at H; replace H := ckB H; obtain ⟨rfl, H⟩ | ⟨rfl, H⟩ := H
   ·obtain ⟨rfl, rfl⟩ := o2 H; obtain ⟨_, _, _, _⟩ := cz2 BKq4; go_wp2
    refine bodyPost_ret (results_cell_row rfl _ _ gbq4 26 #[.int .i64 0, .slice none 0 0] (0, 0) _ rfl (by refine pkx ?_; refine aj (cs := #[.int .i64 0, .slice none 0 0]) ?_ 1 _ rfl; refine pkx ?_; refine aj (cs := #[.int .i64 0, .slice none 0 0]) ?_ 0 _ rfl; refine pkx ?_; exact BKq4.out) underlying26 rfl (by kernel_rfl)) rfl ?_; exact ⟨_, by first | rfl | (simp [errW_none, bZ] <;> rfl) | (simp [*, errW_none, bZ] <;> rfl), by first | exact Kd.C0 _ _ _ _ _ | exact Kd.E7 _ _ _ _ _ | exact Kd.V_nil _ _ _ _ _ | exact Kd.E6 _ _ _ _ _ | exact Kd.E5 _ _ _ _ _, bv HB GEq4⟩
   ·have H' := aQ H; clear H; go_wp2_with (first | (refine bX 5 #[.int .i64 0, .slice none 0 0] 26 ?_; intro gbq5 hg w10 BKq5 hb; have GEq5 := gB HB hg; replace HB := bs HB hb; have NBq4_q5 := nl BKq4 hg; have NBq5_q4 := ng BKq4 hg; replace BKq4 := bb BKq4 hb; clear hb hg; have := NBq5_q4.out; have := NBq4_q5.out; obtain ⟨hcz12_0, hcz12_1, hfz12_0, hfz12_1⟩ := cz2 BKq5))
    go_loopg [6] kj2 (fun kq v6 w' => ∃ (x6_2 : Int) (x127005001_2 : List Int) (u127005001 : Value), v6 = .int .i64 x6_2 ∧ Aside0 (bN.l0 kq a0 a1 x6_2 a1 x127005001_2 = some (r1, r2)) ∧ Aside0 (kq ≤ kj2) ∧ Aside0 (Kd.R (Kd.int .i64) 3 w' w.heap.size (fun _ => True) u127005001 x127005001_2) ∧ Aside0 (w'.heap[gbq4]? = some (.cells #[.int .i64 0, (.slice none 0 0)] 26 (0, 0))) ∧ Aside0 (w'.heap[gbq5]? = some (.cells #[.int .i64 a1, u127005001] 26 (0, 0))) ∧ Aside0 (Below w.heap.size w w'))
    case atStart => exact ⟨(0), (([] : List Int)), (.slice none 0 0), rs_, H', ⟨Nat.le_refl _⟩, ⟨by first | exact Kd.C0 _ _ _ _ _ | exact Kd.E7 _ _ _ _ _ | exact Kd.V_nil _ _ _ _ _ | exact Kd.E6 _ _ _ _ _ | exact Kd.E5 _ _ _ _ _⟩, ⟨by refine pkx ?_; refine ae ?_ NBq4_q5.out _; refine pkx ?_; refine ae ?_ NBq4_q5.out _; refine pkx ?_; exact BKq4.out⟩, ⟨by refine pkx ?_; refine aj (cs := #[.int .i64 a1, .slice none 0 0]) ?_ 1 _ rfl; refine pkx ?_; refine aj (cs := #[.int .i64 0, .slice none 0 0]) ?_ 0 _ rfl; refine pkx ?_; exact BKq5.out⟩, ⟨aq HB GEq4 GEq5⟩⟩
    clear H'; try clear c8
    try clear hcz12_0
    try clear hcz12_1
    try clear hfz12_0
    try clear hfz12_1
    obtain ⟨x6_2, x127005001_2, u127005001, rfl, HA, HK2, HO_127005001, BKq4, BKq5, HB⟩ := hrel; rcases gk with _ | k2
    ·exact absurd HA.out (by simp [bN.l0])
    have H := HA.out; clear HA; simp only [bN.l0] at H; replace H := bo H; obtain ⟨tq0, A13, H⟩ := H; replace H := ckD H; obtain ⟨c14b0, H⟩ | ⟨c14b0, H⟩ := H
    ·replace H := bo H; obtain ⟨tq1, A15, H⟩ := H; replace H := ckE H; obtain ⟨c16b0, c16b1, H⟩ | ⟨c16, c16b0, c16b1, H⟩ := H
     ·replace H := gdA H; obtain ⟨LMc17, H⟩ := H; generalize hyq6 : x127005001_2 ++ [x6_2] = yq6 at H
      have Nyq6 := aQ hyq6.symm; clear hyq6; have H' := aQ H; clear H; go_wp2_with (first | (refine gt 54 ?_; refine gcD (some 21) func54 (cA.n0 a1 tq0 _ A13.out) ?_; intro nd; (try (rw [cX wr]; generalize hq_ : World.drewN wr _ = wr; have n0_ : Aside0 (Kd.R (Kd.int .i64) 3 wr w.heap.size (fun _ => True) u127005001 x127005001_2) := ⟨by rw [← hq_]; exact (ac HO_127005001)⟩; have n1_ : Aside0 (wr.heap[gbq4]? = some (.cells #[.int .i64 0, .slice none 0 0] 26 (0, 0))) := ⟨by rw [← hq_]; exact (ah BKq4)⟩; have n2_ : Aside0 (wr.heap[gbq5]? = some (.cells #[.int .i64 a1, u127005001] 26 (0, 0))) := ⟨by rw [← hq_]; exact (ah BKq5)⟩; have n3_ : Aside0 (Below w.heap.size w wr) := ⟨by rw [← hq_]; exact (aq HB GEq4 GEq5)⟩; clear HO_127005001 BKq4 BKq5 HB hq_; have HO_127005001 := n0_; have BKq4 := n1_; have BKq5 := n2_; have HB := n3_; clear n0_ n1_ n2_ n3_))) | (refine gt 58 ?_; refine gcD (some 26) func58 (b5.n0 k2 x6_2 tq1 _ A15.out) ?_; intro nd; (try (rw [cX wr]; generalize hq_ : World.drewN wr _ = wr; have n0_ : Aside0 (Kd.R (Kd.int .i64) 3 wr w.heap.size (fun _ => True) u127005001 x127005001_2) := ⟨by rw [← hq_]; exact (ac HO_127005001)⟩; have n1_ : Aside0 (wr.heap[gbq4]? = some (.cells #[.int .i64 0, .slice none 0 0] 26 (0, 0))) := ⟨by rw [← hq_]; exact (ah BKq4)⟩; have n2_ : Aside0 (wr.heap[gbq5]? = some (.cells #[.int .i64 a1, u127005001] 26 (0, 0))) := ⟨by rw [← hq_]; exact (ah BKq5)⟩; have n3_ : Aside0 (Below w.heap.size w wr) := ⟨by rw [← hq_]; exact (aq HB GEq4 GEq5)⟩; clear HO_127005001 BKq4 BKq5 HB hq_; have HO_127005001 := n0_; have BKq4 := n1_; have BKq5 := n2_; have HB := n3_; clear n0_ n1_ n2_ n3_)); have := NBq5_q4.out; have := NBq4_q5.out; obtain ⟨_, _, _, _⟩ := cz2 BKq5) | ((with_reducible refine gate_builtin (b := .append) (xs := #[.tmp 30, .tmp 32]) rfl ?_); at_builtin; refine ap (ok := fun _ => True) (.tmp 30) (.tmp 32) underlying24 cp u127005001 x127005001_2 Nyq6 LMc17 (ac HO_127005001) ?_; intro vq7 w20 ho hb hg hat; replace BKq4 := aQ (bJ (g := gbq4) (o := .cells #[.int .i64 0, .slice none 0 0] 26 (0, 0)) (ah BKq4) hg (Kd.y9 HO_127005001.out BKq4.out (by decide))); replace BKq5 := aQ (bJ (g := gbq5) (o := .cells #[.int .i64 a1, u127005001] 26 (0, 0)) (ah BKq5) hg (Kd.y9 HO_127005001.out BKq5.out (by decide))); replace HB := aQ (hb); have HOq8 := aQ (ho); clear HO_127005001; clear ho hb hg hat; obtain ⟨Ao21, co21, eo21⟩ := Kd.n9 HOq8.out; subst eo21; obtain ⟨_, _, _, _⟩ := cz2 BKq5))
      go_roundg k2
      case measure => have := HJ2.out; have := HK2.out; omega
      case rel => exact ⟨(wrap64 (x6_2 + 1)), (yq6), (.slice Ao21 yq6.length co21), rs_, H', ⟨by have := HJ2.out; have := HK2.out; omega⟩, ⟨by refine pRx ?_; exact rf1 HOq8 BKq5⟩, ⟨by refine pkx ?_; refine ae ?_ NBq4_q5.out _; refine pkx ?_; exact BKq4.out⟩, ⟨by refine pkx ?_; refine aj (cs := #[.int .i64 a1, u127005001]) ?_ 1 _ rfl; refine pkx ?_; exact BKq5.out⟩, ⟨aq HB GEq4 GEq5⟩⟩
     ·have H' := aQ H; clear H; go_wp2_with (first | (refine gt 54 ?_; refine gcD (some 21) func54 (cA.n0 a1 tq0 _ A13.out) ?_; intro nd) | (refine gt 58 ?_; refine gcD (some 26) func58 (b5.n0 k2 x6_2 tq1 _ A15.out) ?_; intro nd))
      go_roundg k2
      case measure => have := HJ2.out; have := HK2.out; omega
      case rel => exact ⟨(wrap64 (x6_2 + 1)), (x127005001_2), (u127005001), rs_, H', ⟨by have := HJ2.out; have := HK2.out; omega⟩, ⟨ac HO_127005001⟩, ⟨ah BKq4⟩, ⟨ah BKq5⟩, ⟨aq HB GEq4 GEq5⟩⟩
    ·obtain ⟨rfl, rfl⟩ := o2 H; go_wp2_with (first | (refine gt 54 ?_; refine gcD (some 21) func54 (cA.n0 a1 tq0 _ A13.out) ?_; intro nd; (try (rw [cX wr]; generalize hq_ : World.drewN wr _ = wr; have n0_ : Aside0 (Kd.R (Kd.int .i64) 3 wr w.heap.size (fun _ => True) u127005001 x127005001_2) := ⟨by rw [← hq_]; exact (ac HO_127005001)⟩; have n1_ : Aside0 (wr.heap[gbq4]? = some (.cells #[.int .i64 0, .slice none 0 0] 26 (0, 0))) := ⟨by rw [← hq_]; exact (ah BKq4)⟩; have n2_ : Aside0 (wr.heap[gbq5]? = some (.cells #[.int .i64 a1, u127005001] 26 (0, 0))) := ⟨by rw [← hq_]; exact (ah BKq5)⟩; have n3_ : Aside0 (Below w.heap.size w wr) := ⟨by rw [← hq_]; exact (aq HB GEq4 GEq5)⟩; clear HO_127005001 BKq4 BKq5 HB hq_; have HO_127005001 := n0_; have BKq4 := n1_; have BKq5 := n2_; have HB := n3_; clear n0_ n1_ n2_ n3_)); have := NBq5_q4.out; have := NBq4_q5.out; obtain ⟨_, _, _, _⟩ := cz2 BKq5; obtain ⟨_, _, _, _⟩ := cz2 BKq4; obtain ⟨Ao26, co26, eo26⟩ := Kd.n9 HO_127005001.out; subst eo26))
     refine bodyPost_ret (results_cell_row rfl _ _ gbq4 26 #[.int .i64 a1, .slice Ao26 x127005001_2.length co26] (0, 0) _ rfl (by refine pkx ?_; refine aj (cs := #[.int .i64 a1, .slice none 0 0]) ?_ 1 _ rfl; refine pkx ?_; refine aj (cs := #[.int .i64 0, .slice none 0 0]) ?_ 0 _ rfl; refine pkx ?_; exact BKq4.out) underlying26 rfl (by kernel_rfl)) rfl ?_; exact ⟨_, re_, by refine pRx ?_; exact rf HO_127005001 BKq4, aq HB GEq4 GEq5⟩
def bd.l0 : Nat → ByteArray → Int → List ByteArray → Int → Int → Option (List ByteArray)
 | 0, _, _, _, _, _ => none
 | k + 1, x0, x1, x5, x6, x7 => if x7 ≤ (x0.size : Int) then (if x7 = (x0.size : Int) then (if 0 ≤ x6 then (if x6 ≤ x7 then (if x5.length < 8796093022208 then (bd.l0 k x0 x1 (x5 ++ [x0.extract (x6 : Int).toNat (x7 : Int).toNat]) (wrap64 (x7 + 1)) (wrap64 (x7 + 1))) else (none)) else (none)) else (none)) else (if 0 ≤ x7 then (if x7 < (x0.size : Int) then (if (bt x0 x7) = x1 then (if 0 ≤ x6 then (if x6 ≤ x7 then (if x5.length < 8796093022208 then (bd.l0 k x0 x1 (x5 ++ [x0.extract (x6 : Int).toNat (x7 : Int).toNat]) (wrap64 (x7 + 1)) (wrap64 (x7 + 1))) else (none)) else (none)) else (none)) else (bd.l0 k x0 x1 x5 x6 (wrap64 (x7 + 1)))) else (none)) else (none))) else (some x5)
def bd.f (k : Nat) (a0 : ByteArray) (a1 : Int) : Option (List ByteArray) := bd.l0 k a0 a1 (([] : List ByteArray)) 0 0
theorem bd.r7 : ∀ k, (∀ y0 y1 y2 y3 y4, LeO (bd.l0 k y0 y1 y2 y3 y4) (bd.l0 (k + 1) y0 y1 y2 y3 y4))
 | 0 => fun _ _ _ _ _ r h => by simp [bd.l0] at h
 | k + 1 => by
  have ih0 := bd.r7 k
  ·intro y0 y1 y2 y3 y4; unfold bd.l0; exact mn_
theorem bd.mono : ∀ a0 a1 k, LeO (bd.f k a0 a1) (bd.f (k + 1) a0 a1) := by
 intro a0 a1 k; have ih0 := bd.r7 k; unfold bd.f; exact mn_
theorem bd.n0 (k : Nat) (a0 : ByteArray) (a1 : Int) (r : List ByteArray) (w : World) (h : bd.f k a0 a1 = some r) :
  Calls Tryz.prog 174 #[.string a0, .int .u8 a1] w fun e w' => ∃ v0_ : Value, e = .returned (v0_) ∧ Kd.R Kd.string 9 w' w.heap.size (fun _ => True) v0_ r ∧ Below w.heap.size w w' := by
 have HB := aQ (Below.refl w.heap.size w); have H : (bd.l0 k a0 a1 (([] : List ByteArray)) 0 0) = some r := h; clear h; generalize hyq0 : ([] : List ByteArray) = yq0 at H
 have Nyq0 := aQ hyq0.symm; clear hyq0; have H' := aQ H; clear H; go_enter func174, ntmps174; go_wp2_with (first | ((with_reducible refine gate_dst (N := 8) rfl ?_); refine Kd.C3 Kd.string _ 9 ?hg (N := 8) ?hd (xs := ([] : List ByteArray)) (inner := []) (ok := fun _ => True) (okp := fun _ => True) ?hr ?hp (fun _ hk => hk) trivial (Below.refl _ _) (Nat.le_refl _) (by simp) ?_; (case hd => rfl); (case hg => rfl); (case hr => first | (go_simp; done) | (go_simp; rfl)); (case hp => exact (Reps.none _ _)); intro vq1 w3 ho4 hb hg_ hnew_; clear hg_ hnew_; (first | rw [← Nyq0.out] at ho4 | (simp only [Int.reduceToNat] at ho4; rw [← Nyq0.out] at ho4)); have HOq2 := aQ (Kd.n8 ho4 (aa (au HB))); replace HB := bs HB hb; clear hb ho4))
 go_loopg [5, 6, 7] k (fun kq v5 v6 v7 w' => ∃ (x5_1 : List ByteArray) (x6_1 : Int) (x7_1 : Int), v6 = .int .i64 x6_1 ∧ v7 = .int .i64 x7_1 ∧ Aside0 (bd.l0 kq a0 a1 x5_1 x6_1 x7_1 = some r) ∧ Aside0 (kq ≤ k) ∧ Aside0 (Kd.R Kd.string 9 w' w.heap.size (fun _ => True) v5 x5_1) ∧ Aside0 (Below w.heap.size w w'))
 case atStart => exact ⟨(yq0), (0), (0), rs_, rs_, H', ⟨Nat.le_refl _⟩, ⟨ac HOq2⟩, ⟨au HB⟩⟩
 clear H'; obtain ⟨x5_1, x6_1, x7_1, rfl, rfl, HA, HK1, HO_5, HB⟩ := hrel; rcases gk with _ | k1
 ·exact absurd HA.out (by simp [bd.l0])
 have H := HA.out; clear HA; simp only [bd.l0] at H; replace H := ckD H; obtain ⟨c5b0, H⟩ | ⟨c5b0, H⟩ := H
 ·replace H := ckE H; obtain ⟨c6b0, c6b1, H⟩ | ⟨c6, c6b0, c6b1, H⟩ := H
  ·replace H := gdB H; obtain ⟨c7b0, c7b1, H⟩ := H; replace H := gdB H; obtain ⟨c8b0, c8b1, H⟩ := H; have c9b0 := eq_true (of_decide_eq_true as_ : x7_1 ≤ (a0.size : Int)); replace H := gdA H; obtain ⟨LMc10, H⟩ := H; generalize hyq3 : x5_1 ++ [a0.extract (x6_1 : Int).toNat (x7_1 : Int).toNat] = yq3 at H
   have Nyq3 := aQ hyq3.symm; clear hyq3; have H' := aQ H; clear H; go_wp2_with (first | ((with_reducible refine gate_builtin (b := .append) (xs := #[.tmp 26, .tmp 31]) rfl ?_); at_builtin; refine Kd.C4 Kd.string (w0 := w) w.heap.size rfl (.tmp 26) (.tmp 31) 118 9 (.string ⟨#[]⟩) 16 rfl underlying118 ma rfl (by decide) (by omega) u5 x5_1 (a0.extract (x6_1 : Int).toNat (x7_1 : Int).toNat) [.string (a0.extract (x6_1 : Int).toNat (x7_1 : Int).toNat)] (fun _ => True) (fun _ => False) rfl rfl ?aP (fun _ hk => hk.elim) ?aF ?aO ?aB ?aS ?aL ?_; (case aP => exact rfl); (case aB => exact (au HB)); (case aF => exact (fun _ _ => trivial)); (case aO => exact (ac HO_5)); (case aS => exact (aa (au HB))); (case aL => have := LMc10.out; omega); intro vq4 w11 ho hb hg hat; rw [← Nyq3.out] at ho; replace HB := aQ (hb); have HOq5 := aQ (ho); clear HO_5; clear ho hb hg hat))
   go_roundg k1
   case measure => exact omeg HK1
   case rel => exact ⟨(yq3), (wrap64 (x7_1 + 1)), (wrap64 (x7_1 + 1)), rs_, rs_, H', ⟨omeg HK1⟩, ⟨ac HOq5⟩, ⟨au HB⟩⟩
  ·replace H := gdD H; obtain ⟨c12b0, H⟩ := H; replace H := gdD H; obtain ⟨c13b0, H⟩ := H; replace H := ckE H; obtain ⟨c15b0, c15b1, H⟩ | ⟨c15, c15b0, c15b1, H⟩ := H
   ·replace H := gdB H; obtain ⟨c16b0, c16b1, H⟩ := H; replace H := gdB H; obtain ⟨c17b0, c17b1, H⟩ := H; have c18b0 := eq_true (of_decide_eq_true as_ : x7_1 ≤ (a0.size : Int)); replace H := gdA H; obtain ⟨LMc19, H⟩ := H; generalize hyq6 : x5_1 ++ [a0.extract (x6_1 : Int).toNat (x7_1 : Int).toNat] = yq6 at H
    have Nyq6 := aQ hyq6.symm; clear hyq6; have H' := aQ H; clear H; have p14 : 0 ≤ (x7_1 : Int) := of_decide_eq_true as_; have q14 : x7_1 < (a0.size : Int) := of_decide_eq_true as_; have hx14 := ez a0 x7_1; replace p14 := eq_true p14; replace q14 := eq_true q14; go_wp2_with (first | ((with_reducible refine gate_builtin (b := .append) (xs := #[.tmp 26, .tmp 31]) rfl ?_); at_builtin; refine Kd.C4 Kd.string (w0 := w) w.heap.size rfl (.tmp 26) (.tmp 31) 118 9 (.string ⟨#[]⟩) 16 rfl underlying118 ma rfl (by decide) (by omega) u5 x5_1 (a0.extract (x6_1 : Int).toNat (x7_1 : Int).toNat) [.string (a0.extract (x6_1 : Int).toNat (x7_1 : Int).toNat)] (fun _ => True) (fun _ => False) rfl rfl ?aP (fun _ hk => hk.elim) ?aF ?aO ?aB ?aS ?aL ?_; (case aP => exact rfl); (case aB => exact (au HB)); (case aF => exact (fun _ _ => trivial)); (case aO => exact (ac HO_5)); (case aS => exact (aa (au HB))); (case aL => have := LMc19.out; omega); intro vq7 w20 ho hb hg hat; rw [← Nyq6.out] at ho; replace HB := aQ (hb); have HOq8 := aQ (ho); clear HO_5; clear ho hb hg hat))
    go_roundg k1
    case measure => exact omeg HK1
    case rel => exact ⟨(yq6), (wrap64 (x7_1 + 1)), (wrap64 (x7_1 + 1)), rs_, rs_, H', ⟨omeg HK1⟩, ⟨ac HOq8⟩, ⟨au HB⟩⟩
   ·have H' := aQ H; clear H; have p14 : 0 ≤ (x7_1 : Int) := of_decide_eq_true as_; have q14 : x7_1 < (a0.size : Int) := of_decide_eq_true as_; have hx14 := ez a0 x7_1; replace p14 := eq_true p14; replace q14 := eq_true q14; go_wp2
    go_roundg k1
    case measure => exact omeg HK1
    case rel => exact ⟨(x5_1), (x6_1), (wrap64 (x7_1 + 1)), rs_, rs_, H', ⟨omeg HK1⟩, ⟨ac HO_5⟩, ⟨au HB⟩⟩
 ·obtain rfl := oj H; go_wp2
  go_ret
  exact ⟨_, re_, by refine pRx ?_; exact HO_5.out, au HB⟩
def aX.l0 : Nat → Int → Bool → ByteArray → Option (ByteArray)
 | 0, _, _, _ => none
 | k + 1, x0, x3, x4 => if x0 = 0 then (if x3 = true then (if 1 + x4.size ≤ 9223372036854775807 then (some ((⟨#[45]⟩ : ByteArray) ++ x4)) else (none)) else (some x4)) else (if (Int.tmod x0 10) < 0 then ((some (([(wrap64 (48 + (wrap64 (-(Int.tmod x0 10))))) % 256] : List Int) : List Int)).bind fun yq0 => (if (strOfNums yq0).size + x4.size ≤ 9223372036854775807 then (aX.l0 k (wrap64 (Int.tdiv x0 10)) x3 ((strOfNums yq0) ++ x4)) else (none))) else ((some (([(wrap64 (48 + (Int.tmod x0 10))) % 256] : List Int) : List Int)).bind fun yq1 => (if (strOfNums yq1).size + x4.size ≤ 9223372036854775807 then (aX.l0 k (wrap64 (Int.tdiv x0 10)) x3 ((strOfNums yq1) ++ x4)) else (none))))
def aX.f (k : Nat) (a0 : Int) : Option (ByteArray) := if a0 = 0 then (some (⟨#[48]⟩ : ByteArray)) else (aX.l0 k a0 (decide (a0 < 0)) (⟨#[]⟩ : ByteArray))
theorem aX.r7 : ∀ k, (∀ y0 y1 y2, LeO (aX.l0 k y0 y1 y2) (aX.l0 (k + 1) y0 y1 y2))
 | 0 => fun _ _ _ r h => by simp [aX.l0] at h
 | k + 1 => by
  have ih0 := aX.r7 k
  ·intro y0 y1 y2; unfold aX.l0; exact mn_
theorem aX.mono : ∀ a0 k, LeO (aX.f k a0) (aX.f (k + 1) a0) := by
 intro a0 k; have ih0 := aX.r7 k; unfold aX.f; exact mn_
theorem aX.n0 (k : Nat) (a0 : Int) (r : ByteArray) (w : World) (h : aX.f k a0 = some r) :
  CB Tryz.prog 186 #[.int .i64 a0] w (.string r) := by
 have HB := aQ (Below.refl w.heap.size w); have H := h; clear h; unfold aX.f at H; (try dsimp only at H); replace H := ckE H; obtain ⟨c2b0, c2b1, H⟩ | ⟨c2, c2b0, c2b1, H⟩ := H
 ·obtain rfl := oj H; go_enter func186, ntmps186; go_wp2
  go_ret
  exact ⟨re_, au HB⟩
 ·have H' := aQ H; clear H; go_enter func186, ntmps186; go_wp2
  go_loopg [0, 4] k (fun kq v0 v4 w' => ∃ (x0_1 : Int) (x4_1 : ByteArray), v0 = .int .i64 x0_1 ∧ v4 = .string x4_1 ∧ Aside0 (aX.l0 kq x0_1 (decide (a0 < 0)) x4_1 = some r) ∧ Aside0 (kq ≤ k) ∧ Aside0 (Below w.heap.size w w'))
  case atStart => exact ⟨(a0), ((⟨#[]⟩ : ByteArray)), rs_, rs_, H', ⟨Nat.le_refl _⟩, ⟨au HB⟩⟩
  clear H'; try clear c2
  try clear c2b0
  try clear c2b1
  obtain ⟨x0_1, x4_1, rfl, rfl, HA, HK1, HB⟩ := hrel; rcases gk with _ | k1
  ·exact absurd HA.out (by simp [aX.l0])
  have H := HA.out; clear HA; simp only [aX.l0] at H; replace H := ckE H; obtain ⟨c3b0, c3b1, H⟩ | ⟨c3, c3b0, c3b1, H⟩ := H
  ·by_cases c4 : (decide (a0 < 0)) = true
   ·rw [if_pos c4] at H; have c4b0 : (decide (a0 < 0)) = true := c4; (first | rw [c4b0] | skip); clear c4; replace H := gd H; obtain ⟨c5, H⟩ := H; have c5b0 := eq_true c5; have c5b1 := decide_eq_true c5; try have c5b2 : (9223372036854775807 < 1 + x4_1.size) = False := eq_false (Nat.not_lt.2 c5)
    obtain rfl := oj H; go_wp2
    go_ret
    exact ⟨re_, au HB⟩
   ·rw [if_neg c4] at H; have c4b0 : (decide (a0 < 0)) = false := by simpa using c4
    (first | rw [c4b0] | skip); clear c4
    obtain rfl := oj H; go_wp2
    go_ret
    exact ⟨re_, au HB⟩
  ·replace H := ckD H; obtain ⟨c6b0, H⟩ | ⟨c6b0, H⟩ := H
   ·replace H := yz H; obtain ⟨yq0, Nyq0, H⟩ := H; (try dsimp only at H)
    replace H := gd H; obtain ⟨c7, H⟩ := H; have c7b0 := eq_true c7; have c7b1 := decide_eq_true c7; try have c7b2 : (9223372036854775807 < (strOfNums yq0).size + x4_1.size) = False := eq_false (Nat.not_lt.2 c7)
    have H' := aQ H; clear H; go_wp2_with (first | ((with_reducible refine gate_dst (N := 21) rfl ?_); refine Kd.C3 (Kd.int .u8) _ 5 ?hg (N := 21) ?hd (xs := ([(wrap64 (48 + (wrap64 (-(Int.tmod x0_1 10))))) % 256] : List Int)) (inner := [.int .u8 ((wrap64 (48 + (wrap64 (-(Int.tmod x0_1 10))))) % 256)]) (ok := fun _ => True) (okp := fun _ => True) ?hr ?hp (fun _ hk => hk) trivial (Below.refl _ _) (Nat.le_refl _) (by simp) ?_; (case hd => rfl); (case hg => rfl); (case hr => first | (go_simp; done) | (go_simp; rfl)); (case hp => exact (Reps.one (show Kd.M (Kd.int .u8) _ _ _ ((wrap64 (48 + (wrap64 (-(Int.tmod x0_1 10))))) % 256) [.int .u8 ((wrap64 (48 + (wrap64 (-(Int.tmod x0_1 10))))) % 256)] from rfl) (Reps.none _ _))); intro vq2 w8 ho9 hb hg_ hnew_; clear hg_ hnew_; (first | rw [← Nyq0.out] at ho9 | (simp only [Int.reduceToNat] at ho9; rw [← Nyq0.out] at ho9)); have HOq3 := aQ (Kd.n8 ho9 (aa (au HB))); replace HB := bs HB hb; clear hb ho9; have hcv10 := gi (P := Tryz.prog) underlying22 underlying5 underlying9 (Kd.own_of_R HOq3.out)))
    go_roundg k1
    case measure => exact omeg HK1
    case rel => exact ⟨(wrap64 (Int.tdiv x0_1 10)), ((strOfNums yq0) ++ x4_1), rs_, rs_, H', ⟨omeg HK1⟩, ⟨au HB⟩⟩
   ·replace H := yz H; obtain ⟨yq1, Nyq1, H⟩ := H; (try dsimp only at H)
    replace H := gd H; obtain ⟨c11, H⟩ := H; have c11b0 := eq_true c11; have c11b1 := decide_eq_true c11; try have c11b2 : (9223372036854775807 < (strOfNums yq1).size + x4_1.size) = False := eq_false (Nat.not_lt.2 c11)
    have H' := aQ H; clear H; go_wp2_with (first | ((with_reducible refine gate_dst (N := 21) rfl ?_); refine Kd.C3 (Kd.int .u8) _ 5 ?hg (N := 21) ?hd (xs := ([(wrap64 (48 + (Int.tmod x0_1 10))) % 256] : List Int)) (inner := [.int .u8 ((wrap64 (48 + (Int.tmod x0_1 10))) % 256)]) (ok := fun _ => True) (okp := fun _ => True) ?hr ?hp (fun _ hk => hk) trivial (Below.refl _ _) (Nat.le_refl _) (by simp) ?_; (case hd => rfl); (case hg => rfl); (case hr => first | (go_simp; done) | (go_simp; rfl)); (case hp => exact (Reps.one (show Kd.M (Kd.int .u8) _ _ _ ((wrap64 (48 + (Int.tmod x0_1 10))) % 256) [.int .u8 ((wrap64 (48 + (Int.tmod x0_1 10))) % 256)] from rfl) (Reps.none _ _))); intro vq4 w12 ho13 hb hg_ hnew_; clear hg_ hnew_; (first | rw [← Nyq1.out] at ho13 | (simp only [Int.reduceToNat] at ho13; rw [← Nyq1.out] at ho13)); have HOq5 := aQ (Kd.n8 ho13 (aa (au HB))); replace HB := bs HB hb; clear hb ho13; have hcv14 := gi (P := Tryz.prog) underlying22 underlying5 underlying9 (Kd.own_of_R HOq5.out)))
    go_roundg k1
    case measure => exact omeg HK1
    case rel => exact ⟨(wrap64 (Int.tdiv x0_1 10)), ((strOfNums yq1) ++ x4_1), rs_, rs_, H', ⟨omeg HK1⟩, ⟨au HB⟩⟩
mutual
def aK.j0 : Nat → ByteArray → Int → Bool → Option (Int × Bool)
 | 0, _, _, _ => none
 | k + 1, x0, x1, x6 => if x6 = true then (if 1 ≤ (x0.size : Int) then (aK.j1 k x0 x1 x6 (x0.extract 1 x0.size)) else (none)) else (aK.j1 k x0 x1 x6 x0)
def aK.j1 : Nat → ByteArray → Int → Bool → ByteArray → Option (Int × Bool)
 | 0, _, _, _, _ => none
 | k + 1, x0, x1, x6, x7 => if (x7.size : Int) < 1 then (aK.j2 k x0 x6 x7 true) else (aK.j2 k x0 x6 x7 (decide ((x7.size : Int) > x1)))
def aK.j2 : Nat → ByteArray → Bool → ByteArray → Bool → Option (Int × Bool)
 | 0, _, _, _, _ => none
 | k + 1, x0, x6, x7, x30 => if x30 = true then (some (0, false)) else (aK.l0 k x0 x6 x7 0 0)
def aK.l0 : Nat → ByteArray → Bool → ByteArray → Int → Int → Option (Int × Bool)
 | 0, _, _, _, _, _ => none
 | k + 1, x0, x6, x7, x8, x9 => if x9 < (x7.size : Int) then (if 0 ≤ x9 then (if (bt x7 x9) < 48 then (some (0, false)) else (if (bt x7 x9) > 57 then (some (0, false)) else (aK.l0 k x0 x6 x7 (wrap64 ((wrap64 (10 * x8)) + (((bt x7 x9) - 48) % 256))) (wrap64 (x9 + 1))))) else (none)) else (if x6 = true then ((aX.f k (wrap64 (-x8))).bind fun tq0 => (if tq0.toList = x0.toList then (some (wrap64 (-x8), true)) else (some (0, false)))) else ((aX.f k x8).bind fun tq1 => (if tq1.toList = x0.toList then (some (x8, true)) else (some (0, false)))))
end
def aK.f (k : Nat) (a0 : ByteArray) (a1 : Int) : Option (Int × Bool) := if (a0.size : Int) > 0 then (if 0 < (a0.size : Int) then (aK.j0 k a0 a1 ((bt a0 0) == 45)) else (none)) else (aK.j0 k a0 a1 false)
theorem aK.r7 : ∀ k, (∀ y0 y1 y2, LeO (aK.j0 k y0 y1 y2) (aK.j0 (k + 1) y0 y1 y2)) ∧ (∀ y0 y1 y2 y3, LeO (aK.j1 k y0 y1 y2 y3) (aK.j1 (k + 1) y0 y1 y2 y3)) ∧ (∀ y0 y1 y2 y3, LeO (aK.j2 k y0 y1 y2 y3) (aK.j2 (k + 1) y0 y1 y2 y3)) ∧ (∀ y0 y1 y2 y3 y4, LeO (aK.l0 k y0 y1 y2 y3 y4) (aK.l0 (k + 1) y0 y1 y2 y3 y4))
 | 0 => ⟨fun _ _ _ r h => by simp [aK.j0] at h, fun _ _ _ _ r h => by simp [aK.j1] at h, fun _ _ _ _ r h => by simp [aK.j2] at h, fun _ _ _ _ _ r h => by simp [aK.l0] at h⟩
 | k + 1 => by
  obtain ⟨ih0, ih1, ih2, ih3⟩ := aK.r7 k; refine ⟨?_, ?_, ?_, ?_⟩
  ·intro y0 y1 y2; unfold aK.j0
   repeat' first | (with_reducible first | exact ih0 _ _ _ | exact ih1 _ _ _ _ | exact ih2 _ _ _ _ | exact ih3 _ _ _ _ _ | exact aX.mono _ _ | exact LeO.refl _ | exact LeO.none _ | refine LeO.ite ?_ ?_ | refine LeO.bind ?_ (fun _ => ?_)) | exact ih0 _ _ _ | exact ih1 _ _ _ _ | exact ih2 _ _ _ _ | exact ih3 _ _ _ _ _ | exact LeO.none _ | refine LeO.ite ?_ ?_ | refine LeO.bind ?_ (fun _ => ?_)
  ·intro y0 y1 y2 y3; unfold aK.j1
   repeat' first | (with_reducible first | exact ih0 _ _ _ | exact ih1 _ _ _ _ | exact ih2 _ _ _ _ | exact ih3 _ _ _ _ _ | exact aX.mono _ _ | exact LeO.refl _ | exact LeO.none _ | refine LeO.ite ?_ ?_ | refine LeO.bind ?_ (fun _ => ?_)) | exact ih0 _ _ _ | exact ih1 _ _ _ _ | exact ih2 _ _ _ _ | exact ih3 _ _ _ _ _ | exact LeO.none _ | refine LeO.ite ?_ ?_ | refine LeO.bind ?_ (fun _ => ?_)
  ·intro y0 y1 y2 y3; unfold aK.j2
   repeat' first | (with_reducible first | exact ih0 _ _ _ | exact ih1 _ _ _ _ | exact ih2 _ _ _ _ | exact ih3 _ _ _ _ _ | exact aX.mono _ _ | exact LeO.refl _ | exact LeO.none _ | refine LeO.ite ?_ ?_ | refine LeO.bind ?_ (fun _ => ?_)) | exact ih0 _ _ _ | exact ih1 _ _ _ _ | exact ih2 _ _ _ _ | exact ih3 _ _ _ _ _ | exact LeO.none _ | refine LeO.ite ?_ ?_ | refine LeO.bind ?_ (fun _ => ?_)
  ·intro y0 y1 y2 y3 y4; unfold aK.l0
   repeat' first | (with_reducible first | exact ih0 _ _ _ | exact ih1 _ _ _ _ | exact ih2 _ _ _ _ | exact ih3 _ _ _ _ _ | exact aX.mono _ _ | exact LeO.refl _ | exact LeO.none _ | refine LeO.ite ?_ ?_ | refine LeO.bind ?_ (fun _ => ?_)) | exact ih0 _ _ _ | exact ih1 _ _ _ _ | exact ih2 _ _ _ _ | exact ih3 _ _ _ _ _ | exact LeO.none _ | refine LeO.ite ?_ ?_ | refine LeO.bind ?_ (fun _ => ?_)
theorem aK.mono : ∀ a0 a1 k, LeO (aK.f k a0 a1) (aK.f (k + 1) a0 a1) := by
 intro a0 a1 k; obtain ⟨ih0, ih1, ih2, ih3⟩ := aK.r7 k; unfold aK.f
 repeat' first | (with_reducible first | exact ih0 _ _ _ | exact ih1 _ _ _ _ | exact ih2 _ _ _ _ | exact ih3 _ _ _ _ _ | exact aX.mono _ _ | exact LeO.refl _ | exact LeO.none _ | refine LeO.ite ?_ ?_ | refine LeO.bind ?_ (fun _ => ?_)) | exact ih0 _ _ _ | exact ih1 _ _ _ _ | exact ih2 _ _ _ _ | exact ih3 _ _ _ _ _ | exact LeO.none _ | refine LeO.ite ?_ ?_ | refine LeO.bind ?_ (fun _ => ?_)
theorem aK.n0 (k : Nat) (a0 : ByteArray) (a1 : Int) (r1 : Int) (r2 : Bool) (w : World) (h : aK.f k a0 a1 = some (r1, r2)) :
  CB Tryz.prog 183 #[.string a0, .int .i64 a1] w (.tuple #[.int .i64 r1, .bool r2]) := by
 have HB := aQ (Below.refl w.heap.size w); have H := h; clear h; unfold aK.f at H; (try dsimp only at H); have HC3 := aQ H; clear H; go_enter func183, ntmps183; go_upto_region 1 with (fail)
 go_cut [6] (fun v6 wc => ∃ (kq : Nat) (x6_2 : Bool), v6 = .bool x6_2 ∧ Aside0 (aK.j0 kq a0 a1 x6_2 = some (r1, r2)) ∧ Aside0 (kq ≤ k) ∧ Aside0 (Below w.heap.size w wc))
 case first =>
  have H := HC3.out; clear HC3; by_cases c4 : (a0.size : Int) > 0
  ·rw [if_pos c4] at H; have c4b0 := decide_eq_true c4; have c4b1 : decide (0 < a0.size) = true := decide_eq_true (by omega); clear c4; (first | rw [c4b0] | (simp only [i64_w, cJ]; rw [c4b0]) | skip); replace H := gd H; obtain ⟨c5, H⟩ := H; have c5b0 := decide_eq_true c5; have c5b1 : decide (0 < a0.size) = true := decide_eq_true (by omega); clear c5; have H' := aQ H; clear H; have p6 : 0 ≤ (0 : Int) := (by omega); have q6 : 0 < a0.size := (by have : (0 : Int) < (a0.size : Int) := of_decide_eq_true as_; omega); have hx6 : ∀ h : 0 < a0.size, ((a0[0]'h).toNat : Int) = bt a0 0 := ez a0 0; clear p6; have qi6 : (0 < (a0.size : Int)) = True := eq_true (of_decide_eq_true as_); replace q6 := eq_true q6; go_wp2
   go_meet
   case rel => exact ⟨_, (((bt a0 0) == 45)), rs_, H', ⟨by first | omega | exact Nat.le_refl _⟩, ⟨au HB⟩⟩
  ·rw [if_neg c4] at H; have c4b0 := decide_eq_false c4; have c4b1 : decide (0 < a0.size) = false := decide_eq_false (by omega); clear c4; (first | rw [c4b0] | (simp only [i64_w, cJ]; rw [c4b0]) | skip); have H' := aQ H; clear H; go_wp2
   go_meet
   case rel => exact ⟨_, (false), rs_, H', ⟨by first | omega | exact Nat.le_refl _⟩, ⟨au HB⟩⟩
 case rest =>
  clear HC3; obtain ⟨kq, x6_2, rfl, HA, HJ2, HB⟩ := hcut; cases kq with
  | zero => exact absurd HA.out (by simp [aK.j0])
  | succ kj2 =>
   have H := HA.out; clear HA; simp only [aK.j0] at H; have HC7 := aQ H; clear H; go_upto_if 19 with (fail)
   go_cut [7] (fun v7 wc => ∃ (kq : Nat) (x7_6 : ByteArray), v7 = .string x7_6 ∧ Aside0 (aK.j1 kq a0 a1 x6_2 x7_6 = some (r1, r2)) ∧ Aside0 (kq ≤ kj2) ∧ Aside0 (Below w.heap.size w wc))
   case first =>
    have H := HC7.out; clear HC7; replace H := ckB H; obtain ⟨rfl, H⟩ | ⟨rfl, H⟩ := H
    ·replace H := gdB H; obtain ⟨c9b0, c9b1, H⟩ := H; have H' := aQ H; clear H; go_wp2
     go_meet
     case rel => exact ⟨_, (a0.extract 1 a0.size), rs_, H', ⟨by have := HJ2.out; first | omega | exact Nat.le_refl _⟩, ⟨au HB⟩⟩
    ·have H' := aQ H; clear H; go_wp2
     go_meet
     case rel => exact ⟨_, (a0), rs_, H', ⟨by have := HJ2.out; first | omega | exact Nat.le_refl _⟩, ⟨au HB⟩⟩
   case rest =>
    clear HC7; obtain ⟨kq, x7_6, rfl, HA, HJ6, HB⟩ := hcut; cases kq with
    | zero => exact absurd HA.out (by simp [aK.j1])
    | succ kj6 =>
     have H := HA.out; clear HA; simp only [aK.j1] at H; have HC10 := aQ H; clear H; go_upto_region 5 with (fail)
     go_cut [30] (fun v30 wc => ∃ (kq : Nat) (x30_9 : Bool), v30 = .bool x30_9 ∧ Aside0 (aK.j2 kq a0 x6_2 x7_6 x30_9 = some (r1, r2)) ∧ Aside0 (kq ≤ kj6) ∧ Aside0 (Below w.heap.size w wc))
     case first =>
      have H := HC10.out; clear HC10; by_cases c11 : (x7_6.size : Int) < 1
      ·rw [if_pos c11] at H; have c11b0 := decide_eq_true c11; have c11b1 : decide (x7_6.size < 1) = true := decide_eq_true (by omega); clear c11; (first | rw [c11b0] | (simp only [i64_w, cJ]; rw [c11b0]) | skip); have H' := aQ H; clear H; go_wp2
       go_meet
       case rel => exact ⟨_, (true), rs_, H', ⟨by have := HJ2.out; have := HJ6.out; first | omega | exact Nat.le_refl _⟩, ⟨au HB⟩⟩
      ·rw [if_neg c11] at H; have c11b0 := decide_eq_false c11; have c11b1 : decide (x7_6.size < 1) = false := decide_eq_false (by omega); clear c11; (first | rw [c11b0] | (simp only [i64_w, cJ]; rw [c11b0]) | skip); have H' := aQ H; clear H; go_wp2
       go_meet
       case rel => exact ⟨_, (decide ((x7_6.size : Int) > a1)), rs_, H', ⟨by have := HJ2.out; have := HJ6.out; first | omega | exact Nat.le_refl _⟩, ⟨au HB⟩⟩
     case rest =>
      clear HC10; obtain ⟨kq, x30_9, rfl, HA, HJ9, HB⟩ := hcut; cases kq with
      | zero => exact absurd HA.out (by simp [aK.j2])
      | succ kj9 =>
       have H := HA.out; clear HA; simp only [aK.j2] at H; replace H := ckB H; obtain ⟨rfl, H⟩ | ⟨rfl, H⟩ := H
       ·obtain ⟨rfl, rfl⟩ := o2 H; go_wp2
        go_ret2
        exact ⟨re_, au HB⟩
       ·have H' := aQ H; clear H; go_wp2
        go_loopg [8, 9] kj9 (fun kq v8 v9 w' => ∃ (x8_4 : Int) (x9_4 : Int), v8 = .int .i64 x8_4 ∧ v9 = .int .i64 x9_4 ∧ Aside0 (aK.l0 kq a0 x6_2 x7_6 x8_4 x9_4 = some (r1, r2)) ∧ Aside0 (kq ≤ kj9) ∧ Aside0 (Below w.heap.size w w'))
        case atStart => exact ⟨(0), (0), rs_, rs_, H', ⟨Nat.le_refl _⟩, ⟨au HB⟩⟩
        clear H'; try clear c12
        obtain ⟨x8_4, x9_4, rfl, rfl, HA, HK4, HB⟩ := hrel; rcases gk with _ | k4
        ·exact absurd HA.out (by simp [aK.l0])
        have H := HA.out; clear HA; simp only [aK.l0] at H; replace H := ckD H; obtain ⟨c13b0, H⟩ | ⟨c13b0, H⟩ := H
        ·replace H := gdD H; obtain ⟨c14b0, H⟩ := H; replace H := ckD H; obtain ⟨c16b0, H⟩ | ⟨c16b0, H⟩ := H
         ·obtain ⟨rfl, rfl⟩ := o2 H; have p15 : 0 ≤ (x9_4 : Int) := of_decide_eq_true as_; have q15 : x9_4 < (x7_6.size : Int) := of_decide_eq_true as_; have hx15 := ez x7_6 x9_4; replace p15 := eq_true p15; replace q15 := eq_true q15; go_wp2
          go_ret2
          exact ⟨re_, au HB⟩
         ·replace H := ckD H; obtain ⟨c18b0, H⟩ | ⟨c18b0, H⟩ := H
          ·obtain ⟨rfl, rfl⟩ := o2 H; have p15 : 0 ≤ (x9_4 : Int) := of_decide_eq_true as_; have q15 : x9_4 < (x7_6.size : Int) := of_decide_eq_true as_; have hx15 := ez x7_6 x9_4; replace p15 := eq_true p15; replace q15 := eq_true q15; have p17 : 0 ≤ (x9_4 : Int) := of_decide_eq_true as_; have q17 : x9_4 < (x7_6.size : Int) := of_decide_eq_true as_; have hx17 := ez x7_6 x9_4; replace p17 := eq_true p17; replace q17 := eq_true q17; go_wp2
           go_ret2
           exact ⟨re_, au HB⟩
          ·have H' := aQ H; clear H; have p15 : 0 ≤ (x9_4 : Int) := of_decide_eq_true as_; have q15 : x9_4 < (x7_6.size : Int) := of_decide_eq_true as_; have hx15 := ez x7_6 x9_4; replace p15 := eq_true p15; replace q15 := eq_true q15; have p17 : 0 ≤ (x9_4 : Int) := of_decide_eq_true as_; have q17 : x9_4 < (x7_6.size : Int) := of_decide_eq_true as_; have hx17 := ez x7_6 x9_4; replace p17 := eq_true p17; replace q17 := eq_true q17; have p19 : 0 ≤ (x9_4 : Int) := of_decide_eq_true as_; have q19 : x9_4 < (x7_6.size : Int) := of_decide_eq_true as_; have hx19 := ez x7_6 x9_4; replace p19 := eq_true p19; replace q19 := eq_true q19; go_wp2
           go_roundg k4
           case measure => have := HJ2.out; have := HJ6.out; have := HJ9.out; have := HK4.out; omega
           case rel => exact ⟨(wrap64 ((wrap64 (10 * x8_4)) + (((bt x7_6 x9_4) - 48) % 256))), (wrap64 (x9_4 + 1)), rs_, rs_, H', ⟨by have := HJ2.out; have := HJ6.out; have := HJ9.out; have := HK4.out; omega⟩, ⟨au HB⟩⟩
        ·replace H := ckB H; obtain ⟨rfl, H⟩ | ⟨rfl, H⟩ := H
         ·replace H := bo H; obtain ⟨tq0, A21, H⟩ := H; replace H := ckE H; obtain ⟨c22b0, c22b1, H⟩ | ⟨c22, c22b0, c22b1, H⟩ := H
          ·obtain ⟨rfl, rfl⟩ := o2 H; go_wp2_with (first | (refine gt 186 ?_; refine gcB (some 59) func186 (aX.n0 k4 (wrap64 (-x8_4)) tq0 _ A21.out) ?_; intro w23 hb; replace HB := bs HB hb; (try clear hb)))
           go_ret2
           exact ⟨re_, au HB⟩
          ·obtain ⟨rfl, rfl⟩ := o2 H; go_wp2_with (first | (refine gt 186 ?_; refine gcB (some 59) func186 (aX.n0 k4 (wrap64 (-x8_4)) tq0 _ A21.out) ?_; intro w24 hb; replace HB := bs HB hb; (try clear hb)))
           go_ret2
           exact ⟨re_, au HB⟩
         ·replace H := bo H; obtain ⟨tq1, A25, H⟩ := H; replace H := ckE H; obtain ⟨c26b0, c26b1, H⟩ | ⟨c26, c26b0, c26b1, H⟩ := H
          ·obtain ⟨rfl, rfl⟩ := o2 H; go_wp2_with (first | (refine gt 186 ?_; refine gcB (some 59) func186 (aX.n0 k4 x8_4 tq1 _ A25.out) ?_; intro w27 hb; replace HB := bs HB hb; (try clear hb)))
           go_ret2
           exact ⟨re_, au HB⟩
          ·obtain ⟨rfl, rfl⟩ := o2 H; go_wp2_with (first | (refine gt 186 ?_; refine gcB (some 59) func186 (aX.n0 k4 x8_4 tq1 _ A25.out) ?_; intro w28 hb; replace HB := bs HB hb; (try clear hb)))
           go_ret2
           exact ⟨re_, au HB⟩
def da.f (k : Nat) (a0 : ByteArray) : Option (Int × Bool) := (aK.f k a0 12).bind fun btq0 => (some (btq0.1, btq0.2))
theorem da.mono : ∀ a0 k, LeO (da.f k a0) (da.f (k + 1) a0) := by
 intro a0 k; unfold da.f
 repeat' first | (with_reducible first | exact aK.mono _ _ _ | exact LeO.refl _ | exact LeO.none _ | refine LeO.ite ?_ ?_ | refine LeO.bind ?_ (fun _ => ?_)) | exact LeO.none _ | refine LeO.ite ?_ ?_ | refine LeO.bind ?_ (fun _ => ?_)
theorem da.n0 (k : Nat) (a0 : ByteArray) (r1 : Int) (r2 : Bool) (w : World) (h : da.f k a0 = some (r1, r2)) :
  CB Tryz.prog 175 #[.string a0] w (.tuple #[.int .i64 r1, .bool r2]) := by
 have HB := aQ (Below.refl w.heap.size w); have H := h; clear h; unfold da.f at H; (try dsimp only at H); replace H := bo H; obtain ⟨⟨tq0, tq1⟩, A2, H⟩ := H; (try dsimp only at H); obtain ⟨rfl, rfl⟩ := o2 H; go_enter func175, ntmps175; go_wp2_with (first | (refine gt 183 ?_; refine gcB (some 5) func183 (aK.n0 k a0 12 tq0 tq1 _ A2.out) ?_; intro w3 hb; replace HB := bs HB hb; (try clear hb)))
 go_ret2
 exact ⟨re_, au HB⟩
def dw.f (a0 : Int) (a1 : Int) : Option (Int) := (bg.f 8 a0).bind fun tq0 => (if tq0 = true then ((b3.f a1 0 7).bind fun tq1 => (if tq1 = true then (if 0 ≤ (IntKind.u64.wrap (a1)) then (some (Go.bits .or .i64 a0 (shl .i64 1 (IntKind.u64.wrap (a1))))) else (none)) else (some a0))) else (some a0))
theorem dw.n0 (a0 : Int) (a1 : Int) (r : Int) (w : World) (h : dw.f a0 a1 = some r) :
  CD Tryz.prog 25 #[.int .i64 a0, .int .i64 a1] w (.int .i64 r) := by
 have H := h; clear h; unfold dw.f at H; (try dsimp only at H); replace H := bo H; obtain ⟨tq0, A3, H⟩ := H; replace H := ckB H; obtain ⟨rfl, H⟩ | ⟨rfl, H⟩ := H
 ·replace H := bo H; obtain ⟨tq1, A5, H⟩ := H; replace H := ckB H; obtain ⟨rfl, H⟩ | ⟨rfl, H⟩ := H
  ·obtain ⟨ji7, hji7⟩ : ∃ j_ : Int, (IntKind.u64.wrap (a1)) = j_ := ⟨_, rfl⟩; (first | rw [hji7] at H | simp only [hji7] at H); (try rw [hji7] at A3); (try rw [hji7] at A5); replace H := gdB H; obtain ⟨c8b0, c8b1, H⟩ := H; obtain ⟨ji9, hji9⟩ : ∃ j_ : Int, (shl .i64 1 (ji7)) = j_ := ⟨_, rfl⟩; (first | rw [hji9] at H | simp only [hji9] at H); (try rw [hji9] at A3); (try rw [hji9] at A5); have hji9_ : (IntKind.i64.wrap (1 * 2 ^ min (ji7).toNat 64)) = ji9 := hji9; have hji9z : (ji7) ≤ 64 → (IntKind.i64.wrap (1 * 2 ^ (ji7).toNat)) = ji9 := dr hji9; have hji9u : (IntKind.i64.wrap (2 ^ min (ji7).toNat 64)) = ji9 := by have h_ := hji9_; rw [Int.one_mul] at h_; exact h_
   have hji9v : (ji7) ≤ 64 → (IntKind.i64.wrap (2 ^ (ji7).toNat)) = ji9 := fun hle_ => by have h_ := hji9z hle_; rw [Int.one_mul] at h_; exact h_
   have hji9y : (wrap64 (1 * 2 ^ min (ji7).toNat 64)) = ji9 := (i64_w _).symm.trans hji9_; have hji9x : (ji7) ≤ 64 → (wrap64 (1 * 2 ^ (ji7).toNat)) = ji9 := fun h_ => (i64_w _).symm.trans (hji9z h_)
   obtain rfl := oj H; go_enter func25, ntmps25; go_wp2_with (first | (refine gt 81 ?_; refine gcD (some 6) func81 (bg.n0 8 a0 true _ A3.out) ?_; intro nd) | (go_at_call 82; (with_reducible refine (b3.n0 a1 0 7 true _ A5.out).mono ?_); rintro e w' ⟨rfl, ⟨nd, rfl⟩⟩))
   go_ret
   exact ⟨by first | rfl | (simp; done) | (simp only [← hji7, ← hji9] <;> (first | rfl | simp)) | (simp [*]; done), rd_⟩
  ·obtain rfl := oj H; go_enter func25, ntmps25; go_wp2_with (first | (refine gt 81 ?_; refine gcD (some 6) func81 (bg.n0 8 a0 true _ A3.out) ?_; intro nd) | (go_at_call 82; (with_reducible refine (b3.n0 a1 0 7 false _ A5.out).mono ?_); rintro e w' ⟨rfl, ⟨nd, rfl⟩⟩))
   go_ret
   exact ⟨rs_, rd_⟩
 ·obtain rfl := oj H; go_enter func25, ntmps25; go_wp2_with (first | (refine gt 81 ?_; refine gcD (some 6) func81 (bg.n0 8 a0 false _ A3.out) ?_; intro nd))
  go_ret
  exact ⟨rs_, rd_⟩
def dq.f (a0 : Int) (a1 : Int) : Option (Bool) := (bg.f 8 a0).bind fun tq0 => (if tq0 = true then ((b3.f a1 0 7).bind fun tq1 => (if tq1 = true then ((bA.f a0 a1).bind fun tq2 => (some tq2)) else (some false))) else (some false))
theorem dq.n0 (a0 : Int) (a1 : Int) (r : Bool) (w : World) (h : dq.f a0 a1 = some r) :
  CD Tryz.prog 152 #[.int .i64 a0, .int .i64 a1] w (.bool r) := by
 have H := h; clear h; unfold dq.f at H; (try dsimp only at H); replace H := bo H; obtain ⟨tq0, A3, H⟩ := H; replace H := ckB H; obtain ⟨rfl, H⟩ | ⟨rfl, H⟩ := H
 ·replace H := bo H; obtain ⟨tq1, A5, H⟩ := H; replace H := ckB H; obtain ⟨rfl, H⟩ | ⟨rfl, H⟩ := H
  ·replace H := bo H; obtain ⟨tq2, A7, H⟩ := H; obtain rfl := oj H; go_enter func152, ntmps152; go_wp2_with (first | (refine gt 81 ?_; refine gcD (some 6) func81 (bg.n0 8 a0 true _ A3.out) ?_; intro nd) | (go_at_call 82; (with_reducible refine (b3.n0 a1 0 7 true _ A5.out).mono ?_); rintro e w' ⟨rfl, ⟨nd, rfl⟩⟩) | (go_at_call 73; (with_reducible refine (bA.n0 a0 a1 tq2 _ A7.out).mono ?_); rintro e w' ⟨rfl, ⟨nd, rfl⟩⟩))
   go_ret
   exact ⟨rs_, rd_⟩
  ·obtain rfl := oj H; go_enter func152, ntmps152; go_wp2_with (first | (refine gt 81 ?_; refine gcD (some 6) func81 (bg.n0 8 a0 true _ A3.out) ?_; intro nd) | (go_at_call 82; (with_reducible refine (b3.n0 a1 0 7 false _ A5.out).mono ?_); rintro e w' ⟨rfl, ⟨nd, rfl⟩⟩))
   go_ret
   exact ⟨rs_, rd_⟩
 ·obtain rfl := oj H; go_enter func152, ntmps152; go_wp2_with (first | (refine gt 81 ?_; refine gcD (some 6) func81 (bg.n0 8 a0 false _ A3.out) ?_; intro nd))
  go_ret
  exact ⟨rs_, rd_⟩
def bh.l0 : Nat → Int → List Int → Int → Option (List Int)
 | 0, _, _, _ => none
 | k + 1, x0, x3, x4 => if x4 < 8 then ((dq.f x0 x4).bind fun tq0 => (if tq0 = true then (if x3.length < 17592186044416 then (bh.l0 k x0 (x3 ++ [x4]) (wrap64 (x4 + 1))) else (none)) else (bh.l0 k x0 x3 (wrap64 (x4 + 1))))) else (some x3)
def bh.f (k : Nat) (a0 : Int) : Option (List Int) := bh.l0 k a0 (([] : List Int)) 0
theorem bh.r7 : ∀ k, (∀ y0 y1 y2, LeO (bh.l0 k y0 y1 y2) (bh.l0 (k + 1) y0 y1 y2))
 | 0 => fun _ _ _ r h => by simp [bh.l0] at h
 | k + 1 => by
  have ih0 := bh.r7 k
  ·intro y0 y1 y2; unfold bh.l0; exact mn_
theorem bh.mono : ∀ a0 k, LeO (bh.f k a0) (bh.f (k + 1) a0) := by
 intro a0 k; have ih0 := bh.r7 k; unfold bh.f; exact mn_
theorem bh.n0 (k : Nat) (a0 : Int) (r : List Int) (w : World) (h : bh.f k a0 = some r) :
  Calls Tryz.prog 151 #[.int .i64 a0] w fun e w' => ∃ v0_ : Value, e = .returned (v0_) ∧ Kd.R (Kd.int .i64) 3 w' w.heap.size (fun _ => True) v0_ r ∧ Below w.heap.size w w' := by
 have HB := aQ (Below.refl w.heap.size w); have H : (bh.l0 k a0 (([] : List Int)) 0) = some r := h; clear h; generalize hyq1 : ([] : List Int) = yq1 at H
 have Nyq1 := aQ hyq1.symm; clear hyq1; have H' := aQ H; clear H; go_enter func151, ntmps151; go_wp2_with (first | (refine lI (d := Kd.int .i64) 5 Nyq1 ?_; intro vq2 w2 ho3 hb; have HOq3 := aQ (Kd.n8 ho3 (aa (au HB))); replace HB := bs HB hb; clear hb ho3))
 go_loopg [3, 4] k (fun kq v3 v4 w' => ∃ (x3_1 : List Int) (x4_1 : Int), v4 = .int .i64 x4_1 ∧ Aside0 (bh.l0 kq a0 x3_1 x4_1 = some r) ∧ Aside0 (kq ≤ k) ∧ Aside0 (Kd.R (Kd.int .i64) 3 w' w.heap.size (fun _ => True) v3 x3_1) ∧ Aside0 (Below w.heap.size w w'))
 case atStart => exact ⟨(yq1), (0), rs_, H', ⟨Nat.le_refl _⟩, ⟨ac HOq3⟩, ⟨au HB⟩⟩
 clear H'; obtain ⟨x3_1, x4_1, rfl, HA, HK1, HO_3, HB⟩ := hrel; rcases gk with _ | k1
 ·exact absurd HA.out (by simp [bh.l0])
 have H := HA.out; clear HA; simp only [bh.l0] at H; replace H := ckD H; obtain ⟨c4b0, H⟩ | ⟨c4b0, H⟩ := H
 ·replace H := bo H; obtain ⟨tq0, A5, H⟩ := H; replace H := ckB H; obtain ⟨rfl, H⟩ | ⟨rfl, H⟩ := H
  ·replace H := gdA H; obtain ⟨LMc7, H⟩ := H; generalize hyq4 : x3_1 ++ [x4_1] = yq4 at H
   have Nyq4 := aQ hyq4.symm; clear hyq4; have H' := aQ H; clear H; go_wp2_with (first | (refine gt 152 ?_; refine gcD (some 12) func152 (dq.n0 a0 x4_1 true _ A5.out) ?_; intro nd) | ((with_reducible refine gate_builtin (b := .append) (xs := #[.tmp 13, .tmp 15]) rfl ?_); at_builtin; refine ap (ok := fun _ => True) (.tmp 13) (.tmp 15) underlying24 cp u3 x3_1 Nyq4 LMc7 (ac HO_3) ?_; intro vq5 w8 ho hb hg hat; replace HB := aQ (hb); have HOq6 := aQ (ho); clear HO_3; clear ho hb hg hat))
   go_roundg k1
   case measure => exact omeg HK1
   case rel => exact ⟨(yq4), (wrap64 (x4_1 + 1)), rs_, H', ⟨omeg HK1⟩, ⟨ac HOq6⟩, ⟨au HB⟩⟩
  ·have H' := aQ H; clear H; go_wp2_with (first | (refine gt 152 ?_; refine gcD (some 12) func152 (dq.n0 a0 x4_1 false _ A5.out) ?_; intro nd))
   go_roundg k1
   case measure => exact omeg HK1
   case rel => exact ⟨(x3_1), (wrap64 (x4_1 + 1)), rs_, H', ⟨omeg HK1⟩, ⟨ac HO_3⟩, ⟨au HB⟩⟩
 ·obtain rfl := oj H; go_wp2
  go_ret
  exact ⟨_, re_, by refine pRx ?_; exact HO_3.out, au HB⟩
def bw.l0 : Nat → ByteArray → List Int → Int → Option (ByteArray)
 | 0, _, _, _ => none
 | k + 1, x3, x4, x5 => if x5 < (x4.length : Int) then (if 0 ≤ x5 then (if 0 ≤ (rd x4 x5) then (if (rd x4 x5) ≤ (wrap64 ((rd x4 x5) + 1)) then (if (wrap64 ((rd x4 x5) + 1)) ≤ 8 then (if x3.size + ((⟨#[97, 98, 99, 100, 101, 102, 103, 104]⟩ : ByteArray).extract ((rd x4 x5) : Int).toNat ((wrap64 ((rd x4 x5) + 1)) : Int).toNat).size ≤ 9223372036854775807 then (bw.l0 k (x3 ++ ((⟨#[97, 98, 99, 100, 101, 102, 103, 104]⟩ : ByteArray).extract ((rd x4 x5) : Int).toNat ((wrap64 ((rd x4 x5) + 1)) : Int).toNat)) x4 (wrap64 (x5 + 1))) else (none)) else (none)) else (none)) else (none)) else (none)) else (some x3)
def bw.f (k : Nat) (a0 : Int) : Option (ByteArray) := (bg.f 8 a0).bind fun tq0 => (if tq0 = true then (if a0 = 0 then (some (⟨#[45]⟩ : ByteArray)) else ((bh.f k a0).bind fun tq1 => (bw.l0 k (⟨#[]⟩ : ByteArray) tq1 0))) else (some (⟨#[]⟩ : ByteArray)))
theorem bw.r7 : ∀ k, (∀ y0 y1 y2, LeO (bw.l0 k y0 y1 y2) (bw.l0 (k + 1) y0 y1 y2))
 | 0 => fun _ _ _ r h => by simp [bw.l0] at h
 | k + 1 => by
  have ih0 := bw.r7 k
  ·intro y0 y1 y2; unfold bw.l0
   repeat' first | (with_reducible first | exact ih0 _ _ _ | exact bh.mono _ _ | exact LeO.refl _ | exact LeO.none _ | refine LeO.ite ?_ ?_ | refine LeO.bind ?_ (fun _ => ?_)) | exact ih0 _ _ _ | exact LeO.none _ | refine LeO.ite ?_ ?_ | refine LeO.bind ?_ (fun _ => ?_)
theorem bw.mono : ∀ a0 k, LeO (bw.f k a0) (bw.f (k + 1) a0) := by
 intro a0 k; have ih0 := bw.r7 k; unfold bw.f
 repeat' first | (with_reducible first | exact ih0 _ _ _ | exact bh.mono _ _ | exact LeO.refl _ | exact LeO.none _ | refine LeO.ite ?_ ?_ | refine LeO.bind ?_ (fun _ => ?_)) | exact ih0 _ _ _ | exact LeO.none _ | refine LeO.ite ?_ ?_ | refine LeO.bind ?_ (fun _ => ?_)
theorem bw.n0 (k : Nat) (a0 : Int) (r : ByteArray) (w : World) (h : bw.f k a0 = some r) :
  CB Tryz.prog 188 #[.int .i64 a0] w (.string r) := by
 have HB := aQ (Below.refl w.heap.size w); have H := h; clear h; unfold bw.f at H; (try dsimp only at H); replace H := bo H; obtain ⟨tq0, A2, H⟩ := H; replace H := ckB H; obtain ⟨rfl, H⟩ | ⟨rfl, H⟩ := H
 ·replace H := ckE H; obtain ⟨c4b0, c4b1, H⟩ | ⟨c4, c4b0, c4b1, H⟩ := H
  ·obtain rfl := oj H; go_enter func188, ntmps188; go_wp2_with (first | (go_at_call 81; (with_reducible refine (bg.n0 8 a0 true _ A2.out).mono ?_); rintro e w' ⟨rfl, ⟨nd, rfl⟩⟩; (try exact dq_)))
   repeat (go_quiet (first | (go_at_call 81; (with_reducible refine (bg.n0 8 a0 true _ A2.out).mono ?_); rintro e w' ⟨rfl, ⟨nd, rfl⟩⟩; (try exact dq_))); try go_wp2_with (first | (go_at_call 81; (with_reducible refine (bg.n0 8 a0 true _ A2.out).mono ?_); rintro e w' ⟨rfl, ⟨nd, rfl⟩⟩; (try exact dq_))))
   go_ret
   exact ⟨re_, au HB⟩
  ·replace H := bo H; obtain ⟨tq1, A5, H⟩ := H; have H' := aQ H; clear H; go_enter func188, ntmps188; go_wp2_with (first | (go_at_call 81; (with_reducible refine (bg.n0 8 a0 true _ A2.out).mono ?_); rintro e w' ⟨rfl, ⟨nd, rfl⟩⟩; (try exact dq_)) | (go_at_call 151; (with_reducible refine (bh.n0 k a0 tq1 _ A5.out).mono ?_); rintro e w6 ⟨vq2, rfl, ho0, hb⟩; have HOq3 := aQ (Kd.n8 ho0 (aa (au HB))); replace HB := bs HB hb; (try clear hb); (try clear ho0)))
   repeat (go_quiet (first | (go_at_call 81; (with_reducible refine (bg.n0 8 a0 true _ A2.out).mono ?_); rintro e w' ⟨rfl, ⟨nd, rfl⟩⟩; (try exact dq_)) | (go_at_call 151; (with_reducible refine (bh.n0 k a0 tq1 _ A5.out).mono ?_); rintro e w6 ⟨vq2, rfl, ho0, hb⟩; have HOq3 := aQ (Kd.n8 ho0 (aa (au HB))); replace HB := bs HB hb; (try clear hb); (try clear ho0))); try go_wp2_with (first | (go_at_call 81; (with_reducible refine (bg.n0 8 a0 true _ A2.out).mono ?_); rintro e w' ⟨rfl, ⟨nd, rfl⟩⟩; (try exact dq_)) | (go_at_call 151; (with_reducible refine (bh.n0 k a0 tq1 _ A5.out).mono ?_); rintro e w6 ⟨vq2, rfl, ho0, hb⟩; have HOq3 := aQ (Kd.n8 ho0 (aa (au HB))); replace HB := bs HB hb; (try clear hb); (try clear ho0))))
   go_loopg [3, 5] k (fun kq v3 v5 w' => ∃ (x3_1 : ByteArray) (x5_1 : Int), v3 = .string x3_1 ∧ v5 = .int .i64 x5_1 ∧ Aside0 (bw.l0 kq x3_1 tq1 x5_1 = some r) ∧ Aside0 (kq ≤ k) ∧ Aside0 (Kd.R (Kd.int .i64) 3 w' w.heap.size (fun _ => True) vq2 tq1) ∧ Aside0 (Below w.heap.size w w'))
   case atStart => exact ⟨((⟨#[]⟩ : ByteArray)), (0), rs_, rs_, H', ⟨Nat.le_refl _⟩, ⟨ac HOq3⟩, ⟨au HB⟩⟩
   clear H'; try clear c3
   try clear c4
   try clear c4b0
   try clear c4b1
   obtain ⟨x3_1, x5_1, rfl, rfl, HA, HK1, HO_4, HB⟩ := hrel; rcases gk with _ | k1
   ·exact absurd HA.out (by simp [bw.l0])
   have H := HA.out; clear HA; simp only [bw.l0] at H; replace H := ckD H; obtain ⟨c7b0, H⟩ | ⟨c7b0, H⟩ := H
   ·replace H := gdD H; obtain ⟨c8b0, H⟩ := H; replace H := gdB H; obtain ⟨c9b0, c9b1, H⟩ := H; replace H := gd H; obtain ⟨c10, H⟩ := H; have c10b0 := eq_true c10; have c10b1 := decide_eq_true c10; replace H := gd H; obtain ⟨c11, H⟩ := H; have c11b0 := eq_true c11; have c11b1 := decide_eq_true c11; replace H := gd H; obtain ⟨c12, H⟩ := H; have c12b0 := eq_true c12; have c12b1 := decide_eq_true c12; try have c12b2 : (9223372036854775807 < x3_1.size + ((⟨#[97, 98, 99, 100, 101, 102, 103, 104]⟩ : ByteArray).extract ((rd tq1 x5_1) : Int).toNat ((wrap64 ((rd tq1 x5_1) + 1)) : Int).toNat).size) = False := eq_false (Nat.not_lt.2 c12)
    have H' := aQ H; clear H; obtain ⟨Ao13, co13, eo13⟩ := Kd.n9 HO_4.out; subst eo13; have pq4 : 0 ≤ (x5_1 : Int) := of_decide_eq_true as_; have qq4 : x5_1 < (tq1.length : Int) := of_decide_eq_true as_; obtain ⟨adq4, eq4, hxq4_0⟩ := Kd.o5 (Kd.n4 HO_4.out).2.2 x5_1 pq4 qq4; cases eq4; replace pq4 := eq_true pq4; replace qq4 := eq_true qq4; obtain ⟨adq5, eq5, hxq5_0, pq5, qq5⟩ := aI (Kd.n4 HO_4.out).2.2 x5_1; obtain rfl : adq4 = adq5 := (by injection eq5); go_wp2
    repeat (go_quiet (fail); try go_wp2)
    go_roundg k1
    case measure => exact omeg HK1
    case rel => exact ⟨(x3_1 ++ ((⟨#[97, 98, 99, 100, 101, 102, 103, 104]⟩ : ByteArray).extract ((rd tq1 x5_1) : Int).toNat ((wrap64 ((rd tq1 x5_1) + 1)) : Int).toNat)), (wrap64 (x5_1 + 1)), rs_, rs_, H', ⟨omeg HK1⟩, ⟨ac HO_4⟩, ⟨au HB⟩⟩
   ·obtain rfl := oj H; obtain ⟨Ao14, co14, eo14⟩ := Kd.n9 HO_4.out; subst eo14; go_wp2
    repeat (go_quiet (fail); try go_wp2)
    go_ret
    exact ⟨re_, au HB⟩
 ·obtain rfl := oj H; go_enter func188, ntmps188; go_wp2_with (first | (go_at_call 81; (with_reducible refine (bg.n0 8 a0 false _ A2.out).mono ?_); rintro e w' ⟨rfl, ⟨nd, rfl⟩⟩; (try exact dq_)))
  repeat (go_quiet (first | (go_at_call 81; (with_reducible refine (bg.n0 8 a0 false _ A2.out).mono ?_); rintro e w' ⟨rfl, ⟨nd, rfl⟩⟩; (try exact dq_))); try go_wp2_with (first | (go_at_call 81; (with_reducible refine (bg.n0 8 a0 false _ A2.out).mono ?_); rintro e w' ⟨rfl, ⟨nd, rfl⟩⟩; (try exact dq_))))
  go_ret
  exact ⟨re_, au HB⟩
mutual
def a6.l0 : Nat → ByteArray → Int → Int → Option (Int × Bool)
 | 0, _, _, _ => none
 | k + 1, x0, x4, x5 => if x5 < (x0.size : Int) then (a6.j1 k x0 x4 x5 (x0.toList != ([45] : List UInt8))) else (a6.j1 k x0 x4 x5 false)
def a6.j1 : Nat → ByteArray → Int → Int → Bool → Option (Int × Bool)
 | 0, _, _, _, _ => none
 | k + 1, x0, x4, x5, x13 => if x13 = true then (if 0 ≤ x5 then (if x5 < (x0.size : Int) then (if (bt x0 x5) < 97 then (some (0, false)) else (if (bt x0 x5) > 104 then (some (0, false)) else ((dw.f x4 (((bt x0 x5) - 97) % 256)).bind fun tq0 => (a6.l0 k x0 tq0 (wrap64 (x5 + 1)))))) else (none)) else (none)) else ((bw.f k x4).bind fun tq1 => (if tq1.toList = x0.toList then (some (x4, true)) else (some (0, false))))
end
def a6.f (k : Nat) (a0 : ByteArray) : Option (Int × Bool) := a6.l0 k a0 0 0
theorem a6.r7 : ∀ k, (∀ y0 y1 y2, LeO (a6.l0 k y0 y1 y2) (a6.l0 (k + 1) y0 y1 y2)) ∧ (∀ y0 y1 y2 y3, LeO (a6.j1 k y0 y1 y2 y3) (a6.j1 (k + 1) y0 y1 y2 y3))
 | 0 => ⟨fun _ _ _ r h => by simp [a6.l0] at h, fun _ _ _ _ r h => by simp [a6.j1] at h⟩
 | k + 1 => by
  obtain ⟨ih0, ih1⟩ := a6.r7 k; refine ⟨?_, ?_⟩
  ·intro y0 y1 y2; unfold a6.l0
   repeat' first | (with_reducible first | exact ih0 _ _ _ | exact ih1 _ _ _ _ | exact bw.mono _ _ | exact LeO.refl _ | exact LeO.none _ | refine LeO.ite ?_ ?_ | refine LeO.bind ?_ (fun _ => ?_)) | exact ih0 _ _ _ | exact ih1 _ _ _ _ | exact LeO.none _ | refine LeO.ite ?_ ?_ | refine LeO.bind ?_ (fun _ => ?_)
  ·intro y0 y1 y2 y3; unfold a6.j1
   repeat' first | (with_reducible first | exact ih0 _ _ _ | exact ih1 _ _ _ _ | exact bw.mono _ _ | exact LeO.refl _ | exact LeO.none _ | refine LeO.ite ?_ ?_ | refine LeO.bind ?_ (fun _ => ?_)) | exact ih0 _ _ _ | exact ih1 _ _ _ _ | exact LeO.none _ | refine LeO.ite ?_ ?_ | refine LeO.bind ?_ (fun _ => ?_)
theorem a6.mono : ∀ a0 k, LeO (a6.f k a0) (a6.f (k + 1) a0) := by
 intro a0 k; obtain ⟨ih0, ih1⟩ := a6.r7 k; unfold a6.f
 repeat' first | (with_reducible first | exact ih0 _ _ _ | exact ih1 _ _ _ _ | exact bw.mono _ _ | exact LeO.refl _ | exact LeO.none _ | refine LeO.ite ?_ ?_ | refine LeO.bind ?_ (fun _ => ?_)) | exact ih0 _ _ _ | exact ih1 _ _ _ _ | exact LeO.none _ | refine LeO.ite ?_ ?_ | refine LeO.bind ?_ (fun _ => ?_)
theorem a6.n0 (k : Nat) (a0 : ByteArray) (r1 : Int) (r2 : Bool) (w : World) (h : a6.f k a0 = some (r1, r2)) :
  CB Tryz.prog 184 #[.string a0] w (.tuple #[.int .i64 r1, .bool r2]) := by
 have HB := aQ (Below.refl w.heap.size w); have H : (a6.l0 k a0 0 0) = some (r1, r2) := h; clear h; have H' := aQ H; clear H; go_enter func184, ntmps184; go_wp2
 go_loopg [4, 5] k (fun kq v4 v5 w' => ∃ (x4_1 : Int) (x5_1 : Int), v4 = .int .i64 x4_1 ∧ v5 = .int .i64 x5_1 ∧ Aside0 (a6.l0 kq a0 x4_1 x5_1 = some (r1, r2)) ∧ Aside0 (kq ≤ k) ∧ Aside0 (Below w.heap.size w w'))
 case atStart => exact ⟨(0), (0), rs_, rs_, H', ⟨Nat.le_refl _⟩, ⟨au HB⟩⟩
 clear H'; obtain ⟨x4_1, x5_1, rfl, rfl, HA, HK1, HB⟩ := hrel; rcases gk with _ | k1
 ·exact absurd HA.out (by simp [a6.l0])
 have H := HA.out; clear HA; simp only [a6.l0] at H; have HC2 := aQ H; clear H; go_upto_region 3 with (fail)
 go_cut [13] (fun v13 wc => ∃ (kq : Nat) (x13_1 : Bool), v13 = .bool x13_1 ∧ Aside0 (a6.j1 kq a0 x4_1 x5_1 x13_1 = some (r1, r2)) ∧ Aside0 (kq ≤ k1) ∧ Aside0 (Below w.heap.size w wc))
 case first =>
  have H := HC2.out; clear HC2; replace H := ckD H; obtain ⟨c3b0, H⟩ | ⟨c3b0, H⟩ := H
  ·(first | rw [c3b0] | (simp only [i64_w, cJ]; rw [c3b0]) | skip); have H' := aQ H
   clear H; go_wp2
   go_meet
   case rel => exact ⟨_, ((a0.toList != ([45] : List UInt8))), rs_, H', ⟨by have := HK1.out; first | omega | exact Nat.le_refl _⟩, ⟨au HB⟩⟩
  ·(first | rw [c3b0] | (simp only [i64_w, cJ]; rw [c3b0]) | skip); have H' := aQ H
   clear H; go_wp2
   go_meet
   case rel => exact ⟨_, (false), rs_, H', ⟨by have := HK1.out; first | omega | exact Nat.le_refl _⟩, ⟨au HB⟩⟩
 case rest =>
  clear HC2; obtain ⟨kq, x13_1, rfl, HA, HJ1, HB⟩ := hcut; cases kq with
  | zero => exact absurd HA.out (by simp [a6.j1])
  | succ kj1 =>
   have H := HA.out; clear HA; simp only [a6.j1] at H; replace H := ckB H; obtain ⟨rfl, H⟩ | ⟨rfl, H⟩ := H
   ·replace H := gdD H; obtain ⟨c5b0, H⟩ := H; replace H := gdD H; obtain ⟨c6b0, H⟩ := H; replace H := ckD H; obtain ⟨c8b0, H⟩ | ⟨c8b0, H⟩ := H
    ·obtain ⟨rfl, rfl⟩ := o2 H; have p7 : 0 ≤ (x5_1 : Int) := of_decide_eq_true as_; have q7 : x5_1 < (a0.size : Int) := of_decide_eq_true as_; have hx7 := ez a0 x5_1; replace p7 := eq_true p7; replace q7 := eq_true q7; go_wp2
     go_ret2
     exact ⟨re_, au HB⟩
    ·replace H := ckD H; obtain ⟨c10b0, H⟩ | ⟨c10b0, H⟩ := H
     ·obtain ⟨rfl, rfl⟩ := o2 H; have p7 : 0 ≤ (x5_1 : Int) := of_decide_eq_true as_; have q7 : x5_1 < (a0.size : Int) := of_decide_eq_true as_; have hx7 := ez a0 x5_1; replace p7 := eq_true p7; replace q7 := eq_true q7; have p9 : 0 ≤ (x5_1 : Int) := of_decide_eq_true as_; have q9 : x5_1 < (a0.size : Int) := of_decide_eq_true as_; have hx9 := ez a0 x5_1; replace p9 := eq_true p9; replace q9 := eq_true q9; go_wp2
      go_ret2
      exact ⟨re_, au HB⟩
     ·replace H := bo H; obtain ⟨tq0, A12, H⟩ := H; have H' := aQ H; clear H; have p7 : 0 ≤ (x5_1 : Int) := of_decide_eq_true as_; have q7 : x5_1 < (a0.size : Int) := of_decide_eq_true as_; have hx7 := ez a0 x5_1; replace p7 := eq_true p7; replace q7 := eq_true q7; have p9 : 0 ≤ (x5_1 : Int) := of_decide_eq_true as_; have q9 : x5_1 < (a0.size : Int) := of_decide_eq_true as_; have hx9 := ez a0 x5_1; replace p9 := eq_true p9; replace q9 := eq_true q9; have p11 : 0 ≤ (x5_1 : Int) := of_decide_eq_true as_; have q11 : x5_1 < (a0.size : Int) := of_decide_eq_true as_; have hx11 := ez a0 x5_1; replace p11 := eq_true p11; replace q11 := eq_true q11; go_wp2_with (first | (refine gt 25 ?_; refine gcD (some 32) func25 (dw.n0 x4_1 (((bt a0 x5_1) - 97) % 256) tq0 _ A12.out) ?_; intro nd))
      go_roundg kj1
      case measure => have := HK1.out; have := HJ1.out; omega
      case rel => exact ⟨(tq0), (wrap64 (x5_1 + 1)), rs_, rs_, H', ⟨by have := HK1.out; have := HJ1.out; omega⟩, ⟨au HB⟩⟩
   ·replace H := bo H; obtain ⟨tq1, A13, H⟩ := H; replace H := ckE H; obtain ⟨c14b0, c14b1, H⟩ | ⟨c14, c14b0, c14b1, H⟩ := H
    ·obtain ⟨rfl, rfl⟩ := o2 H; go_wp2_with (first | (refine gt 188 ?_; refine gcB (some 34) func188 (bw.n0 kj1 x4_1 tq1 _ A13.out) ?_; intro w15 hb; replace HB := bs HB hb; (try clear hb)))
     go_ret2
     exact ⟨re_, au HB⟩
    ·obtain ⟨rfl, rfl⟩ := o2 H; go_wp2_with (first | (refine gt 188 ?_; refine gcB (some 34) func188 (bw.n0 kj1 x4_1 tq1 _ A13.out) ?_; intro w16 hb; replace HB := bs HB hb; (try clear hb)))
     go_ret2
     exact ⟨re_, au HB⟩
def bT.l0 : Nat → Int → List Int → Int → Option (Bool)
 | 0, _, _, _ => none
 | k + 1, x0, x1, x5 => if x5 < (x1.length : Int) then (if 0 ≤ x5 then ((bg.f x0 (rd x1 x5)).bind fun tq0 => (if tq0 = true then (bT.l0 k x0 x1 (wrap64 (x5 + 1))) else (some false))) else (none)) else (some true)
def bT.f (k : Nat) (a0 : Int) (l1 : List Int) : Option (Bool) := bT.l0 k a0 l1 0
theorem bT.r7 : ∀ k, (∀ y0 y1 y2, LeO (bT.l0 k y0 y1 y2) (bT.l0 (k + 1) y0 y1 y2))
 | 0 => fun _ _ _ r h => by simp [bT.l0] at h
 | k + 1 => by
  have ih0 := bT.r7 k
  ·intro y0 y1 y2; unfold bT.l0; exact mn_
theorem bT.mono : ∀ a0 a1 k, LeO (bT.f k a0 a1) (bT.f (k + 1) a0 a1) := by
 intro a0 a1 k; have ih0 := bT.r7 k; unfold bT.f; exact mn_
theorem bT.n0 (k : Nat) (a0 : Int) (A1 : Option Addr) (c1 : Nat) (l1 : List Int) (r : Bool) (w : World) (hr1 : Kd.C (Kd.int .i64) w A1 l1.length l1) (hc1 : l1.length ≤ c1) (h : bT.f k a0 l1 = some r) :
  CD Tryz.prog 189 #[.int .i64 a0, .slice A1 l1.length c1] w (.bool r) := by
 have HR1 := aQ hr1; have HC1 := aQ hc1; clear hr1 hc1; have H : (bT.l0 k a0 l1 0) = some r := h; clear h; have H' := aQ H; clear H; go_enter func189, ntmps189; go_wp2
 go_loopg [5] k (fun kq v5 w' => ∃ (x5_1 : Int), v5 = .int .i64 x5_1 ∧ Aside0 (bT.l0 kq a0 l1 x5_1 = some r) ∧ Aside0 (kq ≤ k) ∧ Drawn0 w w')
 case atStart => exact ⟨(0), rs_, H', ⟨Nat.le_refl _⟩, rd_⟩
 clear H'; try clear c1
 obtain ⟨x5_1, rfl, HA, HK1, ⟨m1, rfl⟩⟩ := hrel; rcases gk with _ | k1
 ·exact absurd HA.out (by simp [bT.l0])
 have H := HA.out; clear HA; simp only [bT.l0] at H; replace H := ckD H; obtain ⟨c3b0, H⟩ | ⟨c3b0, H⟩ := H
 ·replace H := gdD H; obtain ⟨c4b0, H⟩ := H; replace H := bo H; obtain ⟨tq0, A5, H⟩ := H; replace H := ckB H; obtain ⟨rfl, H⟩ | ⟨rfl, H⟩ := H
  ·have H' := aQ H; clear H; have pq1 : 0 ≤ (x5_1 : Int) := of_decide_eq_true as_; have qq1 : x5_1 < (l1.length : Int) := of_decide_eq_true as_; obtain ⟨adq1, eq1, hxq1_0⟩ := Kd.o5 HR1.out x5_1 pq1 qq1; cases eq1; replace pq1 := eq_true pq1; replace qq1 := eq_true qq1; go_wp2_with (first | (refine gt 81 ?_; refine gcD (some 17) func81 (bg.n0 a0 (rd l1 x5_1) true _ A5.out) ?_; intro nd))
   go_roundg k1
   case measure => exact omeg HK1
   case rel => exact ⟨(wrap64 (x5_1 + 1)), rs_, H', ⟨omeg HK1⟩, rd_⟩
  ·obtain rfl := oj H; have pq1 : 0 ≤ (x5_1 : Int) := of_decide_eq_true as_; have qq1 : x5_1 < (l1.length : Int) := of_decide_eq_true as_; obtain ⟨adq1, eq1, hxq1_0⟩ := Kd.o5 HR1.out x5_1 pq1 qq1; cases eq1; replace pq1 := eq_true pq1; replace qq1 := eq_true qq1; go_wp2_with (first | (refine gt 81 ?_; refine gcD (some 17) func81 (bg.n0 a0 (rd l1 x5_1) false _ A5.out) ?_; intro nd))
   go_ret
   exact ⟨rs_, rd_⟩
 ·obtain rfl := oj H; go_wp2
  go_ret
  exact ⟨rs_, rd_⟩
def cr.l0 : Nat → List ByteArray → ByteArray → List Int → Int → Option (ByteArray)
 | 0, _, _, _, _ => none
 | k + 1, x0, x1, x5, x6 => if x6 < (x0.length : Int) then (if x6 > 0 then (if x5.length + x1.size < 140737488355328 then ((some (x5 ++ bytesOf x1 : List Int)).bind fun yq0 => (if 0 ≤ x6 then (if yq0.length + (rdOf ByteArray.empty x0 x6).size < 140737488355328 then (cr.l0 k x0 x1 (yq0 ++ bytesOf (rdOf ByteArray.empty x0 x6)) (wrap64 (x6 + 1))) else (none)) else (none))) else (none)) else (if 0 ≤ x6 then (if x5.length + (rdOf ByteArray.empty x0 x6).size < 140737488355328 then (cr.l0 k x0 x1 (x5 ++ bytesOf (rdOf ByteArray.empty x0 x6)) (wrap64 (x6 + 1))) else (none)) else (none))) else (some (strOfNums x5))
def cr.f (k : Nat) (l0 : List ByteArray) (a1 : ByteArray) : Option (ByteArray) := cr.l0 k l0 a1 (([] : List Int)) 0
theorem cr.r7 : ∀ k, (∀ y0 y1 y2 y3, LeO (cr.l0 k y0 y1 y2 y3) (cr.l0 (k + 1) y0 y1 y2 y3))
 | 0 => fun _ _ _ _ r h => by simp [cr.l0] at h
 | k + 1 => by
  have ih0 := cr.r7 k
  ·intro y0 y1 y2 y3; unfold cr.l0; exact mn_
theorem cr.mono : ∀ a0 a1 k, LeO (cr.f k a0 a1) (cr.f (k + 1) a0 a1) := by
 intro a0 a1 k; have ih0 := cr.r7 k; unfold cr.f; exact mn_
theorem cr.n0 (k : Nat) (A0 : Option Addr) (c0 : Nat) (l0 : List ByteArray) (a1 : ByteArray) (r : ByteArray) (w : World) (hr0 : Kd.C Kd.string w A0 l0.length l0) (hc0 : l0.length ≤ c0) (h : cr.f k l0 a1 = some r) :
  CB Tryz.prog 190 #[.slice A0 l0.length c0, .string a1] w (.string r) := by
 have HR0 := aQ hr0; have HC0 := aQ hc0; clear hr0 hc0; have HB := aQ (Below.refl w.heap.size w); have H : (cr.l0 k l0 a1 (([] : List Int)) 0) = some r := h; clear h; generalize hyq1 : ([] : List Int) = yq1 at H
 have Nyq1 := aQ hyq1.symm; clear hyq1; have H' := aQ H; clear H; go_enter func190, ntmps190; go_wp2_with (first | ((with_reducible refine gate_dst (N := 7) rfl ?_); refine Kd.C3 (Kd.int .u8) _ 5 ?hg (N := 7) ?hd (xs := ([] : List Int)) (inner := []) (ok := fun _ => True) (okp := fun _ => True) ?hr ?hp (fun _ hk => hk) trivial (Below.refl _ _) (Nat.le_refl _) (by simp) ?_; (case hd => rfl); (case hg => rfl); (case hr => first | (go_simp; done) | (go_simp; rfl)); (case hp => exact (Reps.none _ _)); intro vq2 w3 ho4 hb hg_ hnew_; clear hg_ hnew_; (first | rw [← Nyq1.out] at ho4 | (simp only [Int.reduceToNat] at ho4; rw [← Nyq1.out] at ho4)); have HOq3 := aQ (Kd.n8 ho4 (aa (au HB))); replace HB := bs HB hb; clear hb ho4))
 go_loopg [5, 6] k (fun kq v5 v6 w' => ∃ (x5_1 : List Int) (x6_1 : Int), v6 = .int .i64 x6_1 ∧ Aside0 (cr.l0 kq l0 a1 x5_1 x6_1 = some r) ∧ Aside0 (kq ≤ k) ∧ Aside0 (Kd.R (Kd.int .u8) 5 w' w.heap.size (fun _ => True) v5 x5_1) ∧ Aside0 (Below w.heap.size w w'))
 case atStart => exact ⟨(yq1), (0), rs_, H', ⟨Nat.le_refl _⟩, ⟨ac HOq3⟩, ⟨au HB⟩⟩
 clear H'; obtain ⟨x5_1, x6_1, rfl, HA, HK1, HO_5, HB⟩ := hrel; rcases gk with _ | k1
 ·exact absurd HA.out (by simp [cr.l0])
 have H := HA.out; clear HA; simp only [cr.l0] at H; replace H := ckD H; obtain ⟨c5b0, H⟩ | ⟨c5b0, H⟩ := H
 ·replace H := ckD H; obtain ⟨c6b0, H⟩ | ⟨c6b0, H⟩ := H
  ·replace H := gdA H; obtain ⟨LMc7, H⟩ := H; replace H := yz H; obtain ⟨yq0, Nyq0, H⟩ := H; (try dsimp only at H)
   replace H := gdD H; obtain ⟨c8b0, H⟩ := H; replace H := gdA H; obtain ⟨LMc9, H⟩ := H; generalize hyq4 : yq0 ++ bytesOf (rdOf ByteArray.empty l0 x6_1) = yq4 at H
   have Nyq4 := aQ hyq4.symm; clear hyq4; have H' := aQ H; clear H; go_wp2_with (first | (at_builtin; refine dX (w0 := w) w.heap.size rfl (.tmp 16) _ 22 9 5 rfl underlying22 underlying9 mh u5 x5_1 a1 rfl rfl ?aO ?aB ?aS ?aL ?_; (case aB => exact (au HB)); (case aO => exact (Kd.own_of_R (ac HO_5))); (case aS => exact (aa (au HB))); (case aL => have := LMc7.out; omega); intro vq5 w10 ho0 hb hg; have ho := Kd.E9 (h1 := fun _ => rfl) (ok := fun _ => True) ho0 (fun _ _ => trivial); clear ho0; have hat := True.intro; rw [← Nyq0.out] at ho; change Kd.R (Kd.int .u8) 5 w10 w.heap.size (fun _ => True) vq5 yq0 at ho; replace HB := aQ (hb); have HOq6 := aQ (ho); clear HO_5; clear ho hb hg hat; have pq7 : 0 ≤ (x6_1 : Int) := of_decide_eq_true as_; have qq7 : x6_1 < (l0.length : Int) := of_decide_eq_true as_; obtain ⟨adq7, eq7, hxq7_0⟩ := Kd.C2 HR0.out x6_1 pq7 qq7; cases eq7; replace hxq7_0 := (HB.out.cell (World.block_lt_of_cell? w _ hxq7_0)).trans hxq7_0; replace pq7 := eq_true pq7; replace qq7 := eq_true qq7) | (at_builtin; refine dX (w0 := w) w.heap.size rfl (.tmp 19) _ 22 9 5 rfl underlying22 underlying9 mh vq5 yq0 (rdOf ByteArray.empty l0 x6_1) rfl rfl ?aO ?aB ?aS ?aL ?_; (case aB => exact (au HB)); (case aO => exact (Kd.own_of_R (ac HOq6))); (case aS => exact (aa (au HB))); (case aL => have := LMc9.out; omega); intro vq8 w11 ho0 hb hg; have ho := Kd.E9 (h1 := fun _ => rfl) (ok := fun _ => True) ho0 (fun _ _ => trivial); clear ho0; have hat := True.intro; rw [← Nyq4.out] at ho; change Kd.R (Kd.int .u8) 5 w11 w.heap.size (fun _ => True) vq8 yq4 at ho; replace HB := aQ (hb); have HOq9 := aQ (ho); clear HOq6; clear ho hb hg hat))
   go_roundg k1
   case measure => exact omeg HK1
   case rel => exact ⟨(yq4), (wrap64 (x6_1 + 1)), rs_, H', ⟨omeg HK1⟩, ⟨ac HOq9⟩, ⟨au HB⟩⟩
  ·replace H := gdD H; obtain ⟨c12b0, H⟩ := H; replace H := gdA H; obtain ⟨LMc13, H⟩ := H; generalize hyqa : x5_1 ++ bytesOf (rdOf ByteArray.empty l0 x6_1) = yqa at H
   have Nyqa := aQ hyqa.symm; clear hyqa; have H' := aQ H; clear H; have pqb : 0 ≤ (x6_1 : Int) := of_decide_eq_true as_; have qqb : x6_1 < (l0.length : Int) := of_decide_eq_true as_; obtain ⟨adqb, eqb, hxqb_0⟩ := Kd.C2 HR0.out x6_1 pqb qqb; cases eqb; replace hxqb_0 := (HB.out.cell (World.block_lt_of_cell? w _ hxqb_0)).trans hxqb_0; replace pqb := eq_true pqb; replace qqb := eq_true qqb; go_wp2_with (first | (at_builtin; refine dX (w0 := w) w.heap.size rfl (.tmp 19) _ 22 9 5 rfl underlying22 underlying9 mh u5 x5_1 (rdOf ByteArray.empty l0 x6_1) rfl rfl ?aO ?aB ?aS ?aL ?_; (case aB => exact (au HB)); (case aO => exact (Kd.own_of_R (ac HO_5))); (case aS => exact (aa (au HB))); (case aL => have := LMc13.out; omega); intro vqc w14 ho0 hb hg; have ho := Kd.E9 (h1 := fun _ => rfl) (ok := fun _ => True) ho0 (fun _ _ => trivial); clear ho0; have hat := True.intro; rw [← Nyqa.out] at ho; change Kd.R (Kd.int .u8) 5 w14 w.heap.size (fun _ => True) vqc yqa at ho; replace HB := aQ (hb); have HOqd := aQ (ho); clear HO_5; clear ho hb hg hat))
   go_roundg k1
   case measure => exact omeg HK1
   case rel => exact ⟨(yqa), (wrap64 (x6_1 + 1)), rs_, H', ⟨omeg HK1⟩, ⟨ac HOqd⟩, ⟨au HB⟩⟩
 ·obtain rfl := oj H; have hcv15 := gi (P := Tryz.prog) underlying22 underlying5 underlying9 (Kd.own_of_R HO_5.out); go_wp2
  go_ret
  exact ⟨re_, au HB⟩
def a8.l0 : Nat → List Int → List ByteArray → Int → Option (ByteArray)
 | 0, _, _, _ => none
 | k + 1, x0, x3, x4 => if x4 < (x0.length : Int) then (if 0 ≤ x4 then ((bw.f k (rd x0 x4)).bind fun tq0 => (if x3.length < 8796093022208 then (a8.l0 k x0 (x3 ++ [tq0]) (wrap64 (x4 + 1))) else (none))) else (none)) else ((cr.f k x3 (⟨#[44]⟩ : ByteArray)).bind fun tq1 => (some tq1))
def a8.f (k : Nat) (l0 : List Int) : Option (ByteArray) := (bT.f k 8 l0).bind fun tq2 => (if tq2 = true then (if (l0.length : Int) = 0 then (some (⟨#[110, 111, 110, 101]⟩ : ByteArray)) else (a8.l0 k l0 (([] : List ByteArray)) 0)) else (some (⟨#[]⟩ : ByteArray)))
theorem a8.r7 : ∀ k, (∀ y0 y1 y2, LeO (a8.l0 k y0 y1 y2) (a8.l0 (k + 1) y0 y1 y2))
 | 0 => fun _ _ _ r h => by simp [a8.l0] at h
 | k + 1 => by
  have ih0 := a8.r7 k
  ·intro y0 y1 y2; unfold a8.l0
   repeat' first | (with_reducible first | exact ih0 _ _ _ | exact cr.mono _ _ _ | exact bw.mono _ _ | exact bT.mono _ _ _ | exact LeO.refl _ | exact LeO.none _ | refine LeO.ite ?_ ?_ | refine LeO.bind ?_ (fun _ => ?_)) | exact ih0 _ _ _ | exact LeO.none _ | refine LeO.ite ?_ ?_ | refine LeO.bind ?_ (fun _ => ?_)
theorem a8.mono : ∀ a0 k, LeO (a8.f k a0) (a8.f (k + 1) a0) := by
 intro a0 k; have ih0 := a8.r7 k; unfold a8.f
 repeat' first | (with_reducible first | exact ih0 _ _ _ | exact cr.mono _ _ _ | exact bw.mono _ _ | exact bT.mono _ _ _ | exact LeO.refl _ | exact LeO.none _ | refine LeO.ite ?_ ?_ | refine LeO.bind ?_ (fun _ => ?_)) | exact ih0 _ _ _ | exact LeO.none _ | refine LeO.ite ?_ ?_ | refine LeO.bind ?_ (fun _ => ?_)
theorem a8.n0 (k : Nat) (A0 : Option Addr) (c0 : Nat) (l0 : List Int) (r : ByteArray) (w : World) (hr0 : Kd.C (Kd.int .i64) w A0 l0.length l0) (hc0 : l0.length ≤ c0) (h : a8.f k l0 = some r) :
  CB Tryz.prog 185 #[.slice A0 l0.length c0] w (.string r) := by
 have HR0 := aQ hr0; have HC0 := aQ hc0; clear hr0 hc0; have HB := aQ (Below.refl w.heap.size w); have H := h; clear h; unfold a8.f at H; (try dsimp only at H); replace H := bo H; obtain ⟨tq2, A2, H⟩ := H; replace H := ckB H; obtain ⟨rfl, H⟩ | ⟨rfl, H⟩ := H
 ·replace H := ckE H; obtain ⟨c4b0, c4b1, H⟩ | ⟨c4, c4b0, c4b1, H⟩ := H
  ·obtain rfl := oj H; go_enter func185, ntmps185; go_wp2_with (first | (refine gt 189 ?_; refine gcD (some 6) func189 (bT.n0 k 8 _ _ l0 true _ (pC HR0.out) HC0.out A2.out) ?_; intro nd))
   go_ret
   exact ⟨re_, au HB⟩
  ·have c4b2 : ¬ (l0 = []) := fun h_ => c4 (by rw [h_]; rfl)
   generalize hyq3 : ([] : List ByteArray) = yq3 at H
   have Nyq3 := aQ hyq3.symm; clear hyq3; have H' := aQ H; clear H; go_enter func185, ntmps185; go_wp2_with (first | (refine gt 189 ?_; refine gcD (some 6) func189 (bT.n0 k 8 _ _ l0 true _ (pC HR0.out) HC0.out A2.out) ?_; intro nd) | ((with_reducible refine gate_dst (N := 11) rfl ?_); refine Kd.C3 Kd.string _ 9 ?hg (N := 11) ?hd (xs := ([] : List ByteArray)) (inner := []) (ok := fun _ => True) (okp := fun _ => True) ?hr ?hp (fun _ hk => hk) trivial (Below.refl _ _) (Nat.le_refl _) (by simp) ?_; (case hd => rfl); (case hg => rfl); (case hr => first | (go_simp; done) | (go_simp; rfl)); (case hp => exact (Reps.none _ _)); intro vq4 w5 ho6 hb hg_ hnew_; clear hg_ hnew_; (first | rw [← Nyq3.out] at ho6 | (simp only [Int.reduceToNat] at ho6; rw [← Nyq3.out] at ho6)); have HOq5 := aQ (Kd.n8 ho6 (aa (au HB))); replace HB := bs HB hb; clear hb ho6))
   go_loopg [3, 4] k (fun kq v3 v4 w' => ∃ (x3_1 : List ByteArray) (x4_1 : Int), v4 = .int .i64 x4_1 ∧ Aside0 (a8.l0 kq l0 x3_1 x4_1 = some r) ∧ Aside0 (kq ≤ k) ∧ Aside0 (Kd.R Kd.string 9 w' w.heap.size (fun _ => True) v3 x3_1) ∧ Aside0 (Below w.heap.size w w'))
   case atStart => exact ⟨(yq3), (0), rs_, H', ⟨Nat.le_refl _⟩, ⟨ac HOq5⟩, ⟨au HB⟩⟩
   clear H'; try clear c3
   try clear c4
   try clear c4b0
   try clear c4b1
   try clear c4b2
   obtain ⟨x3_1, x4_1, rfl, HA, HK1, HO_3, HB⟩ := hrel; rcases gk with _ | k1
   ·exact absurd HA.out (by simp [a8.l0])
   have H := HA.out; clear HA; simp only [a8.l0] at H; replace H := ckD H; obtain ⟨c7b0, H⟩ | ⟨c7b0, H⟩ := H
   ·replace H := gdD H; obtain ⟨c8b0, H⟩ := H; replace H := bo H; obtain ⟨tq0, A9, H⟩ := H; replace H := gdA H; obtain ⟨LMc10, H⟩ := H; generalize hyq6 : x3_1 ++ [tq0] = yq6 at H
    have Nyq6 := aQ hyq6.symm; clear hyq6; have H' := aQ H; clear H; have pq7 : 0 ≤ (x4_1 : Int) := of_decide_eq_true as_; have qq7 : x4_1 < (l0.length : Int) := of_decide_eq_true as_; obtain ⟨adq7, eq7, hxq7_0⟩ := Kd.o5 HR0.out x4_1 pq7 qq7; cases eq7; replace hxq7_0 := (HB.out.cell (World.block_lt_of_cell? w _ hxq7_0)).trans hxq7_0; replace pq7 := eq_true pq7; replace qq7 := eq_true qq7; go_wp2_with (first | (refine gt 188 ?_; refine gcB (some 23) func188 (bw.n0 k1 (rd l0 x4_1) tq0 _ A9.out) ?_; intro w11 hb; replace HO_3 := aQ (Kd.o0 (ac HO_3) hb); replace HB := bs HB hb; (try clear hb)) | ((with_reducible refine gate_builtin (b := .append) (xs := #[.tmp 18, .tmp 24]) rfl ?_); at_builtin; refine Kd.C4 Kd.string (w0 := w) w.heap.size rfl (.tmp 18) (.tmp 24) 118 9 (.string ⟨#[]⟩) 16 rfl underlying118 ma rfl (by decide) (by omega) u3 x3_1 tq0 [.string tq0] (fun _ => True) (fun _ => False) rfl rfl ?aP (fun _ hk => hk.elim) ?aF ?aO ?aB ?aS ?aL ?_; (case aP => exact rfl); (case aB => exact (au HB)); (case aF => exact (fun _ _ => trivial)); (case aO => exact (ac HO_3)); (case aS => exact (aa (au HB))); (case aL => have := LMc10.out; omega); intro vq8 w12 ho hb hg hat; rw [← Nyq6.out] at ho; replace HB := aQ (hb); have HOq9 := aQ (ho); clear HO_3; clear ho hb hg hat))
    go_roundg k1
    case measure => exact omeg HK1
    case rel => exact ⟨(yq6), (wrap64 (x4_1 + 1)), rs_, H', ⟨omeg HK1⟩, ⟨ac HOq9⟩, ⟨au HB⟩⟩
   ·replace H := bo H; obtain ⟨tq1, A13, H⟩ := H; obtain rfl := oj H; obtain ⟨Ao14, co14, eo14⟩ := Kd.n9 HO_3.out; subst eo14; go_wp2_with (first | (refine gt 190 ?_; refine gcB (some 27) func190 (cr.n0 k1 _ _ x3_1 (⟨#[44]⟩ : ByteArray) tq1 _ (pC ((Kd.n4 HO_3.out).2.2)) ((Kd.n4 HO_3.out).2.1) A13.out) ?_; intro w15 hb; replace HO_3 := aQ (Kd.o0 (ac HO_3) hb); replace HB := bs HB hb; (try clear hb)))
    go_ret
    exact ⟨re_, au HB⟩
 ·obtain rfl := oj H; go_enter func185, ntmps185; go_wp2_with (first | (refine gt 189 ?_; refine gcD (some 6) func189 (bT.n0 k 8 _ _ l0 false _ (pC HR0.out) HC0.out A2.out) ?_; intro nd))
  go_ret
  exact ⟨re_, au HB⟩
mutual
def aE.l0 : Nat → Int → ByteArray → List Int → List ByteArray → Int → Option (List Int × Bool)
 | 0, _, _, _, _, _ => none
 | k + 1, x0, x1, x6, x7, x8 => if x8 < (x7.length : Int) then (aE.j1 k x0 x1 x6 x7 x8 (x1.toList != ([110, 111, 110, 101] : List UInt8))) else (aE.j1 k x0 x1 x6 x7 x8 false)
def aE.j1 : Nat → Int → ByteArray → List Int → List ByteArray → Int → Bool → Option (List Int × Bool)
 | 0, _, _, _, _, _, _ => none
 | k + 1, x0, x1, x6, x7, x8, x21 => if x21 = true then (if 0 ≤ x8 then (if x8 < (x7.length : Int) then ((a6.f k (rdOf ByteArray.empty x7 x8)).bind fun btq0 => (if btq0.2 = true then (if x6.length < 17592186044416 then (aE.l0 k x0 x1 (x6 ++ [btq0.1]) x7 (wrap64 (x8 + 1))) else (none)) else (some ((([] : List Int)), false)))) else (none)) else (none)) else ((aG.f k x0 x6).bind fun tq1 => (if tq1 = true then ((a8.f k x6).bind fun tq2 => (if tq2.toList = x1.toList then (some (x6, true)) else (some ((([] : List Int)), false)))) else (some ((([] : List Int)), false))))
end
def aE.f (k : Nat) (a0 : Int) (a1 : ByteArray) : Option (List Int × Bool) := (bd.f k a1 44).bind fun tq3 => (aE.l0 k a0 a1 (([] : List Int)) tq3 0)
theorem aE.r7 : ∀ k, (∀ y0 y1 y2 y3 y4, LeO (aE.l0 k y0 y1 y2 y3 y4) (aE.l0 (k + 1) y0 y1 y2 y3 y4)) ∧ (∀ y0 y1 y2 y3 y4 y5, LeO (aE.j1 k y0 y1 y2 y3 y4 y5) (aE.j1 (k + 1) y0 y1 y2 y3 y4 y5))
 | 0 => ⟨fun _ _ _ _ _ r h => by simp [aE.l0] at h, fun _ _ _ _ _ _ r h => by simp [aE.j1] at h⟩
 | k + 1 => by
  obtain ⟨ih0, ih1⟩ := aE.r7 k; refine ⟨?_, ?_⟩
  ·intro y0 y1 y2 y3 y4; unfold aE.l0
   repeat' first | (with_reducible first | exact ih0 _ _ _ _ _ | exact ih1 _ _ _ _ _ _ | exact a8.mono _ _ | exact aG.mono _ _ _ | exact a6.mono _ _ | exact bd.mono _ _ _ | exact LeO.refl _ | exact LeO.none _ | refine LeO.ite ?_ ?_ | refine LeO.bind ?_ (fun _ => ?_)) | exact ih0 _ _ _ _ _ | exact ih1 _ _ _ _ _ _ | exact LeO.none _ | refine LeO.ite ?_ ?_ | refine LeO.bind ?_ (fun _ => ?_)
  ·intro y0 y1 y2 y3 y4 y5; unfold aE.j1
   repeat' first | (with_reducible first | exact ih0 _ _ _ _ _ | exact ih1 _ _ _ _ _ _ | exact a8.mono _ _ | exact aG.mono _ _ _ | exact a6.mono _ _ | exact bd.mono _ _ _ | exact LeO.refl _ | exact LeO.none _ | refine LeO.ite ?_ ?_ | refine LeO.bind ?_ (fun _ => ?_)) | exact ih0 _ _ _ _ _ | exact ih1 _ _ _ _ _ _ | exact LeO.none _ | refine LeO.ite ?_ ?_ | refine LeO.bind ?_ (fun _ => ?_)
theorem aE.mono : ∀ a0 a1 k, LeO (aE.f k a0 a1) (aE.f (k + 1) a0 a1) := by
 intro a0 a1 k; obtain ⟨ih0, ih1⟩ := aE.r7 k; unfold aE.f
 repeat' first | (with_reducible first | exact ih0 _ _ _ _ _ | exact ih1 _ _ _ _ _ _ | exact a8.mono _ _ | exact aG.mono _ _ _ | exact a6.mono _ _ | exact bd.mono _ _ _ | exact LeO.refl _ | exact LeO.none _ | refine LeO.ite ?_ ?_ | refine LeO.bind ?_ (fun _ => ?_)) | exact ih0 _ _ _ _ _ | exact ih1 _ _ _ _ _ _ | exact LeO.none _ | refine LeO.ite ?_ ?_ | refine LeO.bind ?_ (fun _ => ?_)
theorem aE.n0 (k : Nat) (a0 : Int) (a1 : ByteArray) (r1 : List Int) (r2 : Bool) (w : World) (h : aE.f k a0 a1 = some (r1, r2)) :
  Calls Tryz.prog 176 #[.int .i64 a0, .string a1] w fun e w' => ∃ v0_ : Value, e = .returned (.tuple #[v0_, .bool r2]) ∧ Kd.R (Kd.int .i64) 3 w' w.heap.size (fun _ => True) v0_ r1 ∧ Below w.heap.size w w' := by
 have HB := aQ (Below.refl w.heap.size w); have H := h; clear h; unfold aE.f at H; (try dsimp only at H); generalize hyq4 : ([] : List Int) = yq4 at H
 have Nyq4 := aQ hyq4.symm; clear hyq4; replace H := bo H; obtain ⟨tq3, A3, H⟩ := H; have H' := aQ H; clear H; go_enter func176, ntmps176; go_wp2_with (first | (refine lI (d := Kd.int .i64) 11 Nyq4 ?_; intro vq5 w4 ho5 hb; have HOq6 := aQ (Kd.n8 ho5 (aa (au HB))); replace HB := bs HB hb; clear hb ho5) | (refine gt 174 ?_; refine gc (some 13) func174 (bd.n0 k a1 44 tq3 _ A3.out) ?_; rintro e w6 ⟨vq7, rfl, ho0, hb⟩; refine ⟨_, rfl, ?_⟩; replace HOq6 := aQ (Kd.o0 (ac HOq6) hb); have HOq8 := aQ (Kd.n8 ho0 (aa (au HB))); replace HB := bs HB hb; (try clear hb); (try clear ho0)))
 go_loopg [6, 8] k (fun kq v6 v8 w' => ∃ (x6_1 : List Int) (x8_1 : Int), v8 = .int .i64 x8_1 ∧ Aside0 (aE.l0 kq a0 a1 x6_1 tq3 x8_1 = some (r1, r2)) ∧ Aside0 (kq ≤ k) ∧ Aside0 (Kd.R (Kd.int .i64) 3 w' w.heap.size (fun _ => True) v6 x6_1) ∧ Aside0 (Kd.R Kd.string 9 w' w.heap.size (fun _ => True) vq7 tq3) ∧ Aside0 (Below w.heap.size w w'))
 case atStart => exact ⟨(yq4), (0), rs_, H', ⟨Nat.le_refl _⟩, ⟨ac HOq6⟩, ⟨ac HOq8⟩, ⟨au HB⟩⟩
 clear H'; obtain ⟨x6_1, x8_1, rfl, HA, HK1, HO_6, HO_7, HB⟩ := hrel; rcases gk with _ | k1
 ·exact absurd HA.out (by simp [aE.l0])
 have H := HA.out; clear HA; simp only [aE.l0] at H; have HC7 := aQ H; clear H; go_upto_region 4 with (fail)
 go_cut [21] (fun v21 wc => ∃ (kq : Nat) (x21_6 : Bool), v21 = .bool x21_6 ∧ Aside0 (aE.j1 kq a0 a1 x6_1 tq3 x8_1 x21_6 = some (r1, r2)) ∧ Aside0 (kq ≤ k1) ∧ Aside0 (Kd.R (Kd.int .i64) 3 wc w.heap.size (fun _ => True) u6 x6_1) ∧ Aside0 (Kd.R Kd.string 9 wc w.heap.size (fun _ => True) vq7 tq3) ∧ Aside0 (Below w.heap.size w wc))
 case first =>
  have H := HC7.out; clear HC7; replace H := ckD H; obtain ⟨c8b0, H⟩ | ⟨c8b0, H⟩ := H
  ·(first | rw [c8b0] | (simp only [i64_w, cJ]; rw [c8b0]) | skip); have H' := aQ H
   clear H; obtain ⟨Ao9, co9, eo9⟩ := Kd.n9 HO_7.out; subst eo9; go_wp2
   go_meet
   case rel => exact ⟨_, ((a1.toList != ([110, 111, 110, 101] : List UInt8))), rs_, H', ⟨by have := HK1.out; first | omega | exact Nat.le_refl _⟩, ⟨ac HO_6⟩, ⟨ac HO_7⟩, ⟨au HB⟩⟩
  ·(first | rw [c8b0] | (simp only [i64_w, cJ]; rw [c8b0]) | skip); have H' := aQ H
   clear H; obtain ⟨Ao10, co10, eo10⟩ := Kd.n9 HO_7.out; subst eo10; go_wp2
   go_meet
   case rel => exact ⟨_, (false), rs_, H', ⟨by have := HK1.out; first | omega | exact Nat.le_refl _⟩, ⟨ac HO_6⟩, ⟨ac HO_7⟩, ⟨au HB⟩⟩
 case rest =>
  clear HC7; obtain ⟨kq, x21_6, rfl, HA, HJ6, HO_6, HO_7, HB⟩ := hcut; cases kq with
  | zero => exact absurd HA.out (by simp [aE.j1])
  | succ kj6 =>
   have H := HA.out; clear HA; simp only [aE.j1] at H; replace H := ckB H; obtain ⟨rfl, H⟩ | ⟨rfl, H⟩ := H
   ·replace H := gdD H; obtain ⟨c12b0, H⟩ := H; replace H := gdD H; obtain ⟨c13b0, H⟩ := H; replace H := bo H; obtain ⟨⟨tq0, tq9⟩, A14, H⟩ := H; (try dsimp only at H); replace H := ckB H; obtain ⟨rfl, H⟩ | ⟨rfl, H⟩ := H
    ·replace H := gdA H; obtain ⟨LMc16, H⟩ := H; generalize hyqa : x6_1 ++ [tq0] = yqa at H
     have Nyqa := aQ hyqa.symm; clear hyqa; have H' := aQ H; clear H; obtain ⟨Ao17, co17, eo17⟩ := Kd.n9 HO_7.out; subst eo17; have pqb : 0 ≤ (x8_1 : Int) := of_decide_eq_true as_; have qqb : x8_1 < (tq3.length : Int) := of_decide_eq_true as_; obtain ⟨adqb, eqb, hxqb_0⟩ := Kd.C2 (Kd.n4 HO_7.out).2.2 x8_1 pqb qqb; cases eqb; replace pqb := eq_true pqb; replace qqb := eq_true qqb; go_wp2_with (first | (refine gt 184 ?_; refine gcB (some 29) func184 (a6.n0 kj6 (rdOf ByteArray.empty tq3 x8_1) tq0 true _ A14.out) ?_; intro w18 hb; replace HO_6 := aQ (Kd.o0 (ac HO_6) hb); replace HO_7 := aQ (Kd.o0 (ac HO_7) hb); replace HB := bs HB hb; (try clear hb)) | ((with_reducible refine gate_builtin (b := .append) (xs := #[.tmp 35, .tmp 37]) rfl ?_); at_builtin; refine ap (ok := fun _ => True) (.tmp 35) (.tmp 37) underlying24 cp u6 x6_1 Nyqa LMc16 (ac HO_6) ?_; intro vqc w19 ho hb hg hat; replace HO_7 := aQ (Kd.G6 (ac HO_7) (Kd.G5 (ac HO_6)) (by decide) hg); replace HB := aQ (hb); have HOqd := aQ (ho); clear HO_6; clear ho hb hg hat))
     go_roundg kj6
     case measure => have := HK1.out; have := HJ6.out; omega
     case rel => exact ⟨(yqa), (wrap64 (x8_1 + 1)), rs_, H', ⟨by have := HK1.out; have := HJ6.out; omega⟩, ⟨ac HOqd⟩, ⟨ac HO_7⟩, ⟨au HB⟩⟩
    ·generalize hyqe : ([] : List Int) = yqe at H
     have Nyqe := aQ hyqe.symm; clear hyqe; obtain ⟨rfl, rfl⟩ := o2 H; obtain ⟨Ao20, co20, eo20⟩ := Kd.n9 HO_7.out; subst eo20; have pqb : 0 ≤ (x8_1 : Int) := of_decide_eq_true as_; have qqb : x8_1 < (tq3.length : Int) := of_decide_eq_true as_; obtain ⟨adqb, eqb, hxqb_0⟩ := Kd.C2 (Kd.n4 HO_7.out).2.2 x8_1 pqb qqb; cases eqb; replace pqb := eq_true pqb; replace qqb := eq_true qqb; go_wp2_with (first | (refine gt 184 ?_; refine gcB (some 29) func184 (a6.n0 kj6 (rdOf ByteArray.empty tq3 x8_1) tq0 false _ A14.out) ?_; intro w21 hb; replace HO_6 := aQ (Kd.o0 (ac HO_6) hb); replace HO_7 := aQ (Kd.o0 (ac HO_7) hb); replace HB := bs HB hb; (try clear hb)) | (refine lI (d := Kd.int .i64) 34 Nyqe ?_; intro vqf w22 ho23 hb; replace HO_7 := aQ (Kd.o0 (ac HO_7) hb); have HOqg := aQ (Kd.n8 (Kd.o9 ho23 (Kd.p8 (ac HO_6))) (aa (au HB))); replace HO_6 := aQ (Kd.o1 (ac HO_6) (Kd.o7 ho23) hb); replace HB := bs HB hb; clear hb ho23))
     go_ret2
     exact ⟨_, re_, by refine pRx ?_; exact Kd.n7 HOqg.out (fun _ hk => trivial), au HB⟩
   ·replace H := bo H; obtain ⟨tq1, A24, H⟩ := H; replace H := ckB H; obtain ⟨rfl, H⟩ | ⟨rfl, H⟩ := H
    ·replace H := bo H; obtain ⟨tq2, A26, H⟩ := H; replace H := ckE H; obtain ⟨c27b0, c27b1, H⟩ | ⟨c27, c27b0, c27b1, H⟩ := H
     ·obtain ⟨rfl, rfl⟩ := o2 H; obtain ⟨Ao28, co28, eo28⟩ := Kd.n9 HO_6.out; subst eo28; go_wp2_with (first | (refine gt 77 ?_; refine gcD (some 41) func77 (aG.n0 kj6 a0 _ _ x6_1 true _ (pC ((Kd.n4 HO_6.out).2.2)) ((Kd.n4 HO_6.out).2.1) A24.out) ?_; intro nd) | (go_at_call 185; (with_reducible refine (a8.n0 kj6 _ _ x6_1 tq2 _ ?side1 ?side2 A26.out).mono ?_); (case side1 => exact pC ((Kd.n4 HO_6.out).2.2)); (case side2 => exact (Kd.n4 HO_6.out).2.1); rintro e w29 ⟨rfl, hb⟩; replace HO_6 := aQ (Kd.o0 (ac HO_6) hb); replace HO_7 := aQ (Kd.o0 (ac HO_7) hb); replace HB := bs HB hb; (try clear hb)))
      go_ret2
      exact ⟨_, re_, by refine pRx ?_; exact HO_6.out, au HB⟩
     ·generalize hyqh : ([] : List Int) = yqh at H
      have Nyqh := aQ hyqh.symm; clear hyqh; obtain ⟨rfl, rfl⟩ := o2 H; obtain ⟨Ao30, co30, eo30⟩ := Kd.n9 HO_6.out; subst eo30; go_wp2_with (first | (refine gt 77 ?_; refine gcD (some 41) func77 (aG.n0 kj6 a0 _ _ x6_1 true _ (pC ((Kd.n4 HO_6.out).2.2)) ((Kd.n4 HO_6.out).2.1) A24.out) ?_; intro nd) | (go_at_call 185; (with_reducible refine (a8.n0 kj6 _ _ x6_1 tq2 _ ?side1 ?side2 A26.out).mono ?_); (case side1 => exact pC ((Kd.n4 HO_6.out).2.2)); (case side2 => exact (Kd.n4 HO_6.out).2.1); rintro e w31 ⟨rfl, hb⟩; replace HO_6 := aQ (Kd.o0 (ac HO_6) hb); replace HO_7 := aQ (Kd.o0 (ac HO_7) hb); replace HB := bs HB hb; (try clear hb)) | (refine lI (d := Kd.int .i64) 49 Nyqh ?_; intro vqi w32 ho33 hb; replace HO_7 := aQ (Kd.o0 (ac HO_7) hb); have HOqj := aQ (Kd.n8 (Kd.o9 ho33 (Kd.p8 (ac HO_6))) (aa (au HB))); replace HO_6 := aQ (Kd.o1 (ac HO_6) (Kd.o7 ho33) hb); replace HB := bs HB hb; clear hb ho33))
      go_ret2
      exact ⟨_, re_, by refine pRx ?_; exact Kd.n7 HOqj.out (fun _ hk => trivial), au HB⟩
    ·generalize hyqk : ([] : List Int) = yqk at H
     have Nyqk := aQ hyqk.symm; clear hyqk; obtain ⟨rfl, rfl⟩ := o2 H; obtain ⟨Ao34, co34, eo34⟩ := Kd.n9 HO_6.out; subst eo34; go_wp2_with (first | (refine gt 77 ?_; refine gcD (some 41) func77 (aG.n0 kj6 a0 _ _ x6_1 false _ (pC ((Kd.n4 HO_6.out).2.2)) ((Kd.n4 HO_6.out).2.1) A24.out) ?_; intro nd) | (refine lI (d := Kd.int .i64) 49 Nyqk ?_; intro vql w35 ho36 hb; replace HO_7 := aQ (Kd.o0 (ac HO_7) hb); have HOqm := aQ (Kd.n8 (Kd.o9 ho36 (Kd.p8 (ac HO_6))) (aa (au HB))); replace HO_6 := aQ (Kd.o1 (ac HO_6) (Kd.o7 ho36) hb); replace HB := bs HB hb; clear hb ho36))
     go_ret2
     exact ⟨_, re_, by refine pRx ?_; exact Kd.n7 HOqm.out (fun _ hk => trivial), au HB⟩
end Go.Proofs.YtbdloopelidneaaGreat.A
