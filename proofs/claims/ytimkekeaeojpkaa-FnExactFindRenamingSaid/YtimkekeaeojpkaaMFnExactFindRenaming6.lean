/- Machine side of the law FnExactFindRenaming: Go functions as Lean functions, and proofs that calls come to what these tell. Conditions: those in each theorem. -/
import Derived.Test.YtimkekeaeojpkaaMFnExactFindRenaming0
import Derived.Test.YtimkekeaeojpkaaMFnExactFindRenaming5
set_option maxHeartbeats 8000000
set_option maxRecDepth 100000
namespace Go.Proofs.Ytimkekeaeojpkaa.A
open Go.RowKit Go.Proofs.YtimkekeaeojpkaaW.PrintWords Go.Proofs.YtimkekeaeojpkaaW.PrintLast Go.Proofs.YtimkekeaeojpkaaW.PrintMore Try
attribute [local go_sem] bA bv bK bJ bl bk bw bz
set_option linter.unusedVariables false
set_option linter.unusedSimpArgs false
def laws_eqMatroid.f (k : Nat) (a0_0 : Int) (l0_1 : List Int) (a1_0 : Int) (l1_1 : List Int) : Option (Bool) := if a0_0 = a1_0 then ((laws_eqIntS.f k l0_1 l1_1).bind fun tq0 => (if tq0 = true then (some true) else (some false))) else (some false)
theorem laws_eqMatroid.j3 (k : Nat) (a0_0 : Int) (A0_1 : Option Addr) (c0_1 : Nat) (l0_1 : List Int) (a1_0 : Int) (A1_1 : Option Addr) (c1_1 : Nat) (l1_1 : List Int) (r : Bool) (w : World) (hr0_1 : Kd.C (Kd.int .i64) w A0_1 l0_1.length l0_1) (hc0_1 : l0_1.length ≤ c0_1) (hr1_1 : Kd.C (Kd.int .i64) w A1_1 l1_1.length l1_1) (hc1_1 : l1_1.length ≤ c1_1) (h : laws_eqMatroid.f k a0_0 l0_1 a1_0 l1_1 = some r) :
  CB Try.prog 13 #[.agg #[.int .i64 a0_0, .slice A0_1 l0_1.length c0_1], .agg #[.int .i64 a1_0, .slice A1_1 l1_1.length c1_1]] w (.bool r) := by
 have hu28 := underlying28; have HR0_1 := aQ hr0_1; have HC0_1 := aQ hc0_1; clear hr0_1 hc0_1; have HR1_1 := aQ hr1_1; have HC1_1 := aQ hc1_1; clear hr1_1 hc1_1; have HB := aQ (Below.refl w.heap.size w); have H := h; clear h; unfold laws_eqMatroid.f at H; (try dsimp only at H); replace H := ckE H; obtain ⟨c3b0, c3b1, H⟩ | ⟨c3, c3b0, c3b1, H⟩ := H
 ·replace H := bo H; obtain ⟨tq0, A4, H⟩ := H; replace H := ckB H; obtain ⟨rfl, H⟩ | ⟨rfl, H⟩ := H
  ·obtain rfl := oj H; go_enter func13, ntmps13; go_wp2_with (first | (refine bX 2 #[.int .i64 a0_0, .slice A0_1 l0_1.length c0_1] 28 ?_; intro gbq1 hg w6 BKq1 hb; have GEq1 := gB HB hg; replace HB := bs HB hb; clear hb hg) | (refine bX 3 #[.int .i64 a1_0, .slice A1_1 l1_1.length c1_1] 28 ?_; intro gbq2 hg w7 BKq2 hb; have GEq2 := gB HB hg; replace HB := bs HB hb; have NBq1_q2 := nl BKq1 hg; have NBq2_q1 := ng BKq1 hg; replace BKq1 := bb BKq1 hb; clear hb hg; have := NBq1_q2.out; have := NBq2_q1.out; obtain ⟨_, _, _, _⟩ := cz2 BKq1; obtain ⟨_, _, _, _⟩ := cz2 BKq2) | (refine gt 12 ?_; refine gcD (some 14) func12 (laws_eqIntS.j3 k _ _ l0_1 _ _ l1_1 true _ (pC (Cbel HR0_1 HB)) HC0_1.out (pC (Cbel HR1_1 HB)) HC1_1.out A4.out) ?_; intro nd))
   go_ret
   exact ⟨re_, ao HB GEq1 GEq2⟩
  ·obtain rfl := oj H; go_enter func13, ntmps13; go_wp2_with (first | (refine bX 2 #[.int .i64 a0_0, .slice A0_1 l0_1.length c0_1] 28 ?_; intro gbq1 hg w11 BKq1 hb; have GEq1 := gB HB hg; replace HB := bs HB hb; clear hb hg) | (refine bX 3 #[.int .i64 a1_0, .slice A1_1 l1_1.length c1_1] 28 ?_; intro gbq2 hg w12 BKq2 hb; have GEq2 := gB HB hg; replace HB := bs HB hb; have NBq1_q2 := nl BKq1 hg; have NBq2_q1 := ng BKq1 hg; replace BKq1 := bb BKq1 hb; clear hb hg; have := NBq1_q2.out; have := NBq2_q1.out; obtain ⟨_, _, _, _⟩ := cz2 BKq1; obtain ⟨_, _, _, _⟩ := cz2 BKq2) | (refine gt 12 ?_; refine gcD (some 14) func12 (laws_eqIntS.j3 k _ _ l0_1 _ _ l1_1 false _ (pC (Cbel HR0_1 HB)) HC0_1.out (pC (Cbel HR1_1 HB)) HC1_1.out A4.out) ?_; intro nd))
   go_ret
   exact ⟨re_, ao HB GEq1 GEq2⟩
 ·obtain rfl := oj H; go_enter func13, ntmps13; go_wp2_with (first | (refine bX 2 #[.int .i64 a0_0, .slice A0_1 l0_1.length c0_1] 28 ?_; intro gbq1 hg w16 BKq1 hb; have GEq1 := gB HB hg; replace HB := bs HB hb; clear hb hg) | (refine bX 3 #[.int .i64 a1_0, .slice A1_1 l1_1.length c1_1] 28 ?_; intro gbq2 hg w17 BKq2 hb; have GEq2 := gB HB hg; replace HB := bs HB hb; have NBq1_q2 := nl BKq1 hg; have NBq2_q1 := ng BKq1 hg; replace BKq1 := bb BKq1 hb; clear hb hg; have := NBq1_q2.out; have := NBq2_q1.out; obtain ⟨_, _, _, _⟩ := cz2 BKq1; obtain ⟨_, _, _, _⟩ := cz2 BKq2))
  go_ret
  exact ⟨re_, ao HB GEq1 GEq2⟩
def laws_markIntS.l0 : Nat → List Int → Int → Int → Option (Int × List Int)
 | 0, _, _, _ => none
 | k + 1, x0, x1, x5 => if x5 < (x0.length : Int) then (if 0 ≤ x5 then (laws_markIntS.l0 k (x0.set (x5 : Int).toNat x1) (wrap64 (x1 + 1)) (wrap64 (x5 + 1))) else (none)) else (some (x1, x0))
def laws_markIntS.f (k : Nat) (l0 : List Int) (a1 : Int) : Option (Int × List Int) := laws_markIntS.l0 k l0 a1 0
theorem laws_markIntS.j3 (k : Nat) (P0_ : Nat → Prop) (uq0_ : Value) (l0 : List Int) (a1 : Int) (r1 : Int) (r2 : List Int) (w0 w : World) (hB : Below w0.heap.size w0 w) (ho0 : Kd.R (Kd.int .i64) 3 w w0.heap.size P0_ uq0_ l0) (h : laws_markIntS.f k l0 a1 = some (r1, r2)) :
  Calls Try.prog 15 #[uq0_, .int .i64 a1] w fun e w' => e = .returned (.int .i64 r1) ∧ Kd.R (Kd.int .i64) 3 w' w0.heap.size (fun k_ => (P0_ k_ ∨ w.heap.size ≤ k_)) uq0_ r2 ∧ Below w0.heap.size w0 w' ∧ Kept w w' (fun k_ => P0_ k_) := by
 have HO0 := aQ (show Kd.R (Kd.int .i64) 3 w w0.heap.size (fun k_ => (P0_ k_ ∨ w.heap.size ≤ k_)) uq0_ l0 from Kd.j5 ho0 (fun k_ hk => (.inl hk))); have HK := aQ (Kept.refl w (fun k_ => P0_ k_)); have HW0 := aQ hB.size; have HB := aQ hB; clear hB; have H : (laws_markIntS.l0 k l0 a1 0) = some (r1, r2) := h; clear h; have H' := aQ H; clear H; go_enter func15, ntmps15; go_wp2
 go_loopg [1, 5] k (fun kq v1 v5 w' => ∃ (x0_1 : List Int) (x1_1 : Int) (x5_1 : Int), v1 = .int .i64 x1_1 ∧ v5 = .int .i64 x5_1 ∧ Aside0 (laws_markIntS.l0 kq x0_1 x1_1 x5_1 = some (r1, r2)) ∧ Aside0 (kq ≤ k) ∧ Aside0 (Kd.R (Kd.int .i64) 3 w' w0.heap.size (fun k_ => (P0_ k_ ∨ w.heap.size ≤ k_)) uq0_ x0_1) ∧ Aside0 (Kept w w' (fun k_ => P0_ k_)) ∧ Aside0 (Below w0.heap.size w0 w'))
 case atStart => exact ⟨(l0), (a1), (0), rs_, rs_, H', ⟨Nat.le_refl _⟩, ⟨ak HO0⟩, ⟨pt HK⟩, ⟨aH HB⟩⟩
 clear H'; obtain ⟨x0_1, x1_1, x5_1, rfl, rfl, HA, HK1, HO_0, HK, HB⟩ := hrel; rcases gk with _ | k1
 ·exact absurd HA.out (by simp [laws_markIntS.l0])
 have H := HA.out; clear HA; simp only [laws_markIntS.l0] at H; replace H := ckD H; obtain ⟨c3b0, H⟩ | ⟨c3b0, H⟩ := H
 ·replace H := gdD H; obtain ⟨c4b0, H⟩ := H; obtain ⟨yq1, hyq1⟩ : ∃ y_ : List Int, y_ = (x0_1.set (x5_1 : Int).toNat x1_1) := ⟨_, rfl⟩; replace H : (laws_markIntS.l0 k1 yq1 (wrap64 (x1_1 + 1)) (wrap64 (x5_1 + 1))) = some (r1, r2) := by first | (rw [hyq1]; with_reducible exact H) | (rw [hyq1]; exact H)
  have Nyq1 := aQ hyq1; clear hyq1; have H' := aQ H; clear H; obtain ⟨Ao6, co6, eo6⟩ := Kd.k4 HO_0.out; subst eo6; have p5 : 0 ≤ (x5_1 : Int) := of_decide_eq_true as_; have q5 : (x5_1 : Int) < ((x0_1.length : Int) : Int) := of_decide_eq_true as_; obtain ⟨go5, co5, eo5, gb5, gl5, cl5, HG5⟩ := Kd.r5 HO_0.out (by omega); (first | cases eo5 | (injection eo5 with ea_ en_ ec_; (first | subst ea_ | (injection ea_ with ea_; subst ea_)); subst ec_; clear en_)); have GB5 := aQ gb5; have GG5 := aQ HG5; clear gb5 gl5 HG5; have HMgo5 := aQ (show (P0_ go5 ∨ w.heap.size ≤ go5) from (HO_0.out.1 _ rfl)); obtain ⟨hx5_0, hf5_0⟩ := Kd.p4 0 HO_0.out (x5_1 : Int) p5 q5; replace p5 := eq_true p5; replace q5 := eq_true q5; have HP7 := Kd.r8 HO_0.out (x5_1 : Int) x1_1; go_wp2_with (first | ((with_reducible refine cj (t := 3) (p := 15) rfl ?_); refine cf (t := 3) (p := 15) (v := ?vo_w8) (w1 := (wr.setCell ⟨go5, (x5_1 : Int).toNat, none⟩ (.int .i64 x1_1))) ?hg ?ho ?hn ?hr ?_; (case ho => rfl); (case hg => rfl); (case hn => rfl); (case hr => first | (go_simp; done) | (go_simp; rfl)); intro w8 hw; have hg : wr.grownBy w8 (some go5) := (by rw [hw]; exact HP7.2); have hp_ : Kd.R (Kd.int .i64) 3 w8 w0.heap.size (fun k_ => (P0_ k_ ∨ w.heap.size ≤ k_)) (.slice (some ⟨go5, 0, none⟩) x0_1.length co6) yq1 := (by rw [hw, Nyq1.out]; exact HP7.1); clear HP7; replace HB := aQ ((by rw [hw]; exact aZ (HB.out) GB5.out : Below w0.heap.size w0 w8)); replace HK := aQ (Kept.n3 (S := (fun k_ => P0_ k_)) hg (pt HK) (fun k_ e_ => (HO_0.out.1 k_ e_))); replace HO_0 := aQ (hp_); clear hg hw hp_))
  go_roundg k1
  case measure => exact omeg HK1
  case rel => exact ⟨(yq1), (wrap64 (x1_1 + 1)), (wrap64 (x5_1 + 1)), rs_, rs_, H', ⟨omeg HK1⟩, ⟨ak HO_0⟩, ⟨pt HK⟩, ⟨aH HB⟩⟩
 ·obtain ⟨rfl, rfl⟩ := o2 H; obtain ⟨Ao9, co9, eo9⟩ := Kd.k4 HO_0.out; subst eo9; go_wp2
  go_ret
  exact ⟨re_, by refine pRx ?_; exact HO_0.out, aH HB, pt HK⟩
def laws_markMatroid.f (k : Nat) (a0_0 : Int) (l0_1 : List Int) (a1 : Int) : Option (Int × List Int) := (laws_markIntS.f k l0_1 a1).bind fun btq0 => (some (btq0.1, btq0.2))
theorem laws_markMatroid.j3 (k : Nat) (a0_0 : Int) (P0_1_ : Nat → Prop) (uq1_ : Value) (l0_1 : List Int) (a1 : Int) (r1 : Int) (r2 : List Int) (w0 w : World) (hB : Below w0.heap.size w0 w) (ho0_1 : Kd.R (Kd.int .i64) 3 w w0.heap.size P0_1_ uq1_ l0_1) (h : laws_markMatroid.f k a0_0 l0_1 a1 = some (r1, r2)) :
  Calls Try.prog 14 #[.agg #[.int .i64 a0_0, uq1_], .int .i64 a1] w fun e w' => e = .returned (.int .i64 r1) ∧ Kd.R (Kd.int .i64) 3 w' w0.heap.size (fun k_ => (P0_1_ k_ ∨ w.heap.size ≤ k_)) uq1_ r2 ∧ Below w0.heap.size w0 w' ∧ Kept w w' (fun k_ => P0_1_ k_) := by
 have hu28 := underlying28; have HO0_1 := aQ (show Kd.R (Kd.int .i64) 3 w w0.heap.size (fun k_ => (P0_1_ k_ ∨ w.heap.size ≤ k_)) uq1_ l0_1 from Kd.j5 ho0_1 (fun k_ hk => (.inl hk))); have HK := aQ (Kept.refl w (fun k_ => P0_1_ k_)); have HW0 := aQ hB.size; have HB := aQ hB; clear hB; have H := h; clear h; unfold laws_markMatroid.f at H; (try dsimp only at H); replace H := bo H; obtain ⟨⟨tq0, tq2⟩, A3, H⟩ := H; (try dsimp only at H); obtain ⟨rfl, rfl⟩ := o2 H; obtain ⟨Ao4, co4, eo4⟩ := Kd.k4 HO0_1.out; subst eo4; go_enter func14, ntmps14; go_wp2_with (first | (refine bX 2 #[.int .i64 a0_0, .slice Ao4 l0_1.length co4] 28 ?_; intro gbq3 hg w5 BKq3 hb; replace HO0_1 := aQ (Kd.k8 (ak HO0_1) hb); have GWq3 := aQ ((by rw [hg]; exact (by first | exact HK.out.1 | exact (show Kept w _ (fun k_ => P0_1_ k_) from pt HK).1) : w.heap.size ≤ gbq3)); replace HK := aQ (Kept.below (S := (fun k_ => P0_1_ k_)) (pt HK) hb); have GEq3 := aQ ((by rw [hg]; exact (ab (aH HB)) : w0.heap.size ≤ gbq3)); replace HB := bs HB hb; clear hb hg; obtain ⟨_, _, _, _⟩ := cz2 BKq3) | (refine gt 15 ?_; refine gc (some 8) func15 (laws_markIntS.j3 k (fun k_ => some k_ = (.slice Ao4 l0_1.length co4 : Value).ownBlock) (.slice Ao4 l0_1.length co4) l0_1 a1 tq0 tq2 w0 _ (pb HB) (Kd.n9 rfl HO0_1.out) A3.out) ?_; rintro e w7 ⟨rfl, hy0, hb, hkp⟩; refine ⟨_, rfl, ?_⟩; replace BKq3 := aQ (bD (ay BKq3) hkp (fun hs_ => (fun e_ => (Kd.m3 HO0_1.out BKq3.out (by decide)) e_) hs_)); replace HK := aQ (Kept.then_ (S := (fun k_ => P0_1_ k_)) (pt HK) hkp (fun k_ hs_ => (fun e_ => (HO0_1.out.1 k_ e_.symm)) hs_)); replace HO0_1 := aQ (Kd.o9 rfl hy0 (fun k_ e_ => HO0_1.out.1 k_ e_)); replace HB := aQ (hb); (try clear hb); (try clear hkp); (try clear hy0)))
 go_ret
 exact ⟨re_, by refine pRx ?_; exact HO0_1.out, bU HB GEq3, pt HK⟩
def laws_heldIntS.l0 : Nat → List Int → Int → Int → Option (Int)
 | 0, _, _, _ => none
 | k + 1, x0, x1, x5 => if x5 < (x0.length : Int) then (if 0 ≤ x5 then (if (rd x0 x5) = x1 then (laws_heldIntS.l0 k x0 (wrap64 (x1 + 1)) (wrap64 (x5 + 1))) else (some (-1))) else (none)) else (some x1)
def laws_heldIntS.f (k : Nat) (l0 : List Int) (a1 : Int) : Option (Int) := laws_heldIntS.l0 k l0 a1 0
theorem laws_heldIntS.j3 (k : Nat) (A0 : Option Addr) (c0 : Nat) (l0 : List Int) (a1 : Int) (r : Int) (w : World) (hr0 : Kd.C (Kd.int .i64) w A0 l0.length l0) (hc0 : l0.length ≤ c0) (h : laws_heldIntS.f k l0 a1 = some r) :
  CD Try.prog 16 #[.slice A0 l0.length c0, .int .i64 a1] w (.int .i64 r) := by
 have HR0 := aQ hr0; have HC0 := aQ hc0; clear hr0 hc0; have H : (laws_heldIntS.l0 k l0 a1 0) = some r := h; clear h; have H' := aQ H; clear H; go_enter func16, ntmps16; go_wp2
 go_loopg [1, 5] k (fun kq v1 v5 w' => ∃ (x1_1 : Int) (x5_1 : Int), v1 = .int .i64 x1_1 ∧ v5 = .int .i64 x5_1 ∧ Aside0 (laws_heldIntS.l0 kq l0 x1_1 x5_1 = some r) ∧ Aside0 (kq ≤ k) ∧ Drawn0 w w')
 case atStart => exact ⟨(a1), (0), rs_, rs_, H', ⟨Nat.le_refl _⟩, rd_⟩
 clear H'; obtain ⟨x1_1, x5_1, rfl, rfl, HA, HK1, ⟨m1, rfl⟩⟩ := hrel; rcases gk with _ | k1
 ·exact absurd HA.out (by simp [laws_heldIntS.l0])
 have H := HA.out; clear HA; simp only [laws_heldIntS.l0] at H; replace H := ckD H; obtain ⟨c3b0, H⟩ | ⟨c3b0, H⟩ := H
 ·replace H := gdD H; obtain ⟨c4b0, H⟩ := H; replace H := ckE H; obtain ⟨c5b0, c5b1, H⟩ | ⟨c5, c5b0, c5b1, H⟩ := H
  ·have H' := aQ H; clear H; have pq0 : 0 ≤ (x5_1 : Int) := of_decide_eq_true as_; have qq0 : x5_1 < (l0.length : Int) := of_decide_eq_true as_; obtain ⟨adq0, eq0, hxq0_0⟩ := Kd.k7 HR0.out x5_1 pq0 qq0; cases eq0; replace pq0 := eq_true pq0; replace qq0 := eq_true qq0; go_wp2
   go_roundg k1
   case measure => exact omeg HK1
   case rel => exact ⟨(wrap64 (x1_1 + 1)), (wrap64 (x5_1 + 1)), rs_, rs_, H', ⟨omeg HK1⟩, rd_⟩
  ·obtain rfl := oj H; have pq0 : 0 ≤ (x5_1 : Int) := of_decide_eq_true as_; have qq0 : x5_1 < (l0.length : Int) := of_decide_eq_true as_; obtain ⟨adq0, eq0, hxq0_0⟩ := Kd.k7 HR0.out x5_1 pq0 qq0; cases eq0; replace pq0 := eq_true pq0; replace qq0 := eq_true qq0; go_wp2
   go_ret
   exact ⟨rs_, rd_⟩
 ·obtain rfl := oj H; go_wp2
  go_ret
  exact ⟨rs_, rd_⟩
end Go.Proofs.Ytimkekeaeojpkaa.A
