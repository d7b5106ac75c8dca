/- Machine side of the law FnExactAllCuts: Go functions as Lean functions, and proofs that calls come to what these tell. Conditions: those in each theorem. -/
import Derived.Test.YtbdloopelidneaaMFnExactAllCuts0
import Derived.Test.YtbdloopelidneaaMFnExactAllCutsq0
import Derived.Test.YtbdloopelidneaaMFnExactAllCuts1
import Derived.Test.YtbdloopelidneaaMFnExactAllCuts6
namespace Go.Proofs.Ytbdloopelidneaa.A
open Go.RowKit Go.Proofs.YtbdloopelidneaaW.PrintWords Go.Proofs.YtbdloopelidneaaW.PrintLast Go.Proofs.YtbdloopelidneaaW.PrintMore
attribute [local go_sem] max2_int min2_int max_two min_two max_three min_three max_four min_four
set_option linter.unusedVariables false
set_option linter.unusedSimpArgs false
/-! ### laws_markIntS: function 26 -/
def laws_markIntS.l0 : Nat → List Int → Int → Int → Option (Int × List Int)
 | 0, _, _, _ => none
 | k + 1, x0, x1, x5 => if x5 < (x0.length : Int) then (if 0 ≤ x5 then (laws_markIntS.l0 k (x0.set (x5 : Int).toNat x1) (wrap64 (x1 + 1)) (wrap64 (x5 + 1))) else (none)) else (some (x1, x0))
def laws_markIntS.f (k : Nat) (l0 : List Int) (a1 : Int) : Option (Int × List Int) := laws_markIntS.l0 k l0 a1 0
theorem laws_markIntS.mono_l : ∀ k, (∀ y0 y1 y2, LeO (laws_markIntS.l0 k y0 y1 y2) (laws_markIntS.l0 (k + 1) y0 y1 y2))
 | 0 => fun _ _ _ r h => by simp [laws_markIntS.l0] at h
 | k + 1 => by
  have ih0 := laws_markIntS.mono_l k
  ·intro y0 y1 y2
   unfold laws_markIntS.l0
   repeat' first
   | (with_reducible exact ih0 _ _ _)
   | (with_reducible exact LeO.refl _)
   | (with_reducible exact LeO.none _)
   | (with_reducible refine LeO.ite ?_ ?_)
   | (with_reducible refine LeO.bind ?_ (fun _ => ?_))
   | exact ih0 _ _ _
   | exact LeO.none _
   | refine LeO.ite ?_ ?_
   | refine LeO.bind ?_ (fun _ => ?_)
theorem laws_markIntS.mono : ∀ a0 a1 k, LeO (laws_markIntS.f k a0 a1) (laws_markIntS.f (k + 1) a0 a1) := by
 intro a0 a1 k
 have ih0 := laws_markIntS.mono_l k
 unfold laws_markIntS.f
 repeat' first
   | (with_reducible exact ih0 _ _ _)
   | (with_reducible exact LeO.refl _)
   | (with_reducible exact LeO.none _)
   | (with_reducible refine LeO.ite ?_ ?_)
   | (with_reducible refine LeO.bind ?_ (fun _ => ?_))
   | exact ih0 _ _ _
   | exact LeO.none _
   | refine LeO.ite ?_ ?_
   | refine LeO.bind ?_ (fun _ => ?_)
set_option maxHeartbeats 8000000 in
set_option maxRecDepth 100000 in
theorem laws_markIntS.calls (k : Nat) (P0_ : Nat → Prop) (u9000_ : Value) (l0 : List Int) (a1 : Int) (r1 : Int) (r2 : List Int) (w0 w : World) (hB : Below w0.heap.size w0 w) (ho0 : Kd.R (Kd.int .i64) 3 w w0.heap.size P0_ u9000_ l0) (h : laws_markIntS.f k l0 a1 = some (r1, r2)) :
  Calls Try.prog 26 #[u9000_, .int .i64 a1] w fun e w' => e = .returned (.int .i64 r1) ∧ Kd.R (Kd.int .i64) 3 w' w0.heap.size (fun k_ => (P0_ k_ ∨ w.heap.size ≤ k_)) u9000_ r2 ∧ Below w0.heap.size w0 w' ∧ Kept w w' (fun k_ => P0_ k_) := by
 have HO0 := aQ (show Kd.R (Kd.int .i64) 3 w w0.heap.size (fun k_ => (P0_ k_ ∨ w.heap.size ≤ k_)) u9000_ l0 from Kd.R_mono ho0 (fun k_ hk => (.inl hk)))
 have HK := aQ (Kept.refl w (fun k_ => P0_ k_))
 have HW0 := aQ hB.size
 have HB := aQ hB
 clear hB
 have H : (laws_markIntS.l0 k l0 a1 0) = some (r1, r2) := h
 clear h
 have H' := aQ H
 clear H
 go_enter Try.func26, Try.ntmps26
 go_wp2
 go_loopg [1, 5] k (fun kq v1 v5 w' => ∃ (x0_1 : List Int) (x1_1 : Int) (x5_1 : Int), v1 = .int .i64 x1_1 ∧ v5 = .int .i64 x5_1 ∧ Aside0 (laws_markIntS.l0 kq x0_1 x1_1 x5_1 = some (r1, r2)) ∧ Aside0 (kq ≤ k) ∧ Aside0 (Kd.R (Kd.int .i64) 3 w' w0.heap.size (fun k_ => (P0_ k_ ∨ w.heap.size ≤ k_)) u9000_ x0_1) ∧ Aside0 (Kept w w' (fun k_ => P0_ k_)) ∧ Aside0 (Below w0.heap.size w0 w'))
 case atStart => exact ⟨(l0), (a1), (0), rs_, rs_, H', ⟨Nat.le_refl _⟩, ⟨pR HO0.out⟩, ⟨by repeat (first | (with_reducible first | exact HK.out | apply Kept.alloc | apply Kept.drewN | apply Kept.drew) | exact HK.out)⟩, ⟨pB HB.out⟩⟩
 case round =>
  clear H'
  try clear c2
  try clear p2
  obtain ⟨x0_1, x1_1, x5_1, rfl, rfl, HA, HK1, HO_0, HK, HB⟩ := hrel
  cases gk with
  | zero => exact absurd HA.out (by simp [laws_markIntS.l0])
  | succ k1 =>
   have H := HA.out
   clear HA
   simp only [laws_markIntS.l0] at H
   by_cases c3 : x5_1 < (x0_1.length : Int)
   ·rw [if_pos c3] at H
    have c3b0 : decide (x5_1 < (x0_1.length : Int)) = true := decide_eq_true c3
    clear c3
    by_cases c4 : 0 ≤ x5_1
    ·rw [if_pos c4] at H
     have c4b0 : decide (0 ≤ x5_1) = true := decide_eq_true c4
     clear c4
     obtain ⟨y27001, hy27001⟩ : ∃ y_ : List Int, y_ = (x0_1.set (x5_1 : Int).toNat x1_1) := ⟨_, rfl⟩
     replace H : (laws_markIntS.l0 k1 y27001 (wrap64 (x1_1 + 1)) (wrap64 (x5_1 + 1))) = some (r1, r2) := by first | (rw [hy27001]; with_reducible exact H) | (have H2_ := (Option.bind_some _ _).symm.trans H; rw [hy27001]; with_reducible exact H2_) | (have H2_ := (Option.bind_some _ _).symm.trans H; with_reducible exact H2_) | with_reducible exact H | (rw [hy27001]; exact H) | exact H
     have Ny27001 := aQ hy27001
     clear hy27001
     have H' := aQ H
     clear H
     obtain ⟨Ao6, co6, eo6⟩ := Kd.R_slice HO_0.out
     subst eo6
     have p5 : 0 ≤ (x5_1 : Int) := of_decide_eq_true as_
     have q5 : (x5_1 : Int) < ((x0_1.length : Int) : Int) := of_decide_eq_true as_
     obtain ⟨go5, co5, eo5, gb5, gl5, cl5, HG5⟩ := Kd.R_form HO_0.out (by omega)
     (first | cases eo5 | (injection eo5 with ea_ en_ ec_; (first | subst ea_ | (injection ea_ with ea_; subst ea_)); subst ec_; clear en_))
     have GB5 := aQ gb5
     have GG5 := aQ HG5
     clear gb5 gl5 HG5
     have HMgo5 := aQ (show (P0_ go5 ∨ w.heap.size ≤ go5) from (HO_0.out.1 _ rfl))
     obtain ⟨hx5_0, hf5_0⟩ := Kd.R_celln 0 HO_0.out (x5_1 : Int) p5 q5
     replace p5 := eq_true p5
     replace q5 := eq_true q5
     have HP7 := Kd.R_putg HO_0.out (x5_1 : Int) x1_1
     go_wp2_with (first | ((with_reducible refine gate_store (t := 3) (p := 15) rfl ?_); refine store_event (t := 3) (p := 15) (v := ?vo_w8) (w1 := (wr.setCell ⟨go5, (x5_1 : Int).toNat, none⟩ (.int .i64 x1_1))) ?hg ?ho ?hn ?hr ?_; (case ho => rfl); (case hg => rfl); (case hn => rfl); (case hr => first | (go_simp; done) | (go_simp; rfl)); intro w8 hw; have hg : wr.grownBy w8 (some go5) := (by rw [hw]; exact HP7.2); have hp_ : Kd.R (Kd.int .i64) 3 w8 w0.heap.size (fun k_ => (P0_ k_ ∨ w.heap.size ≤ k_)) (.slice (some ⟨go5, 0, none⟩) x0_1.length co6) y27001 := (by rw [hw, Ny27001.out]; exact HP7.1); clear HP7; replace HB := aQ ((by rw [hw]; exact below_set (HB.out) GB5.out : Below w0.heap.size w0 w8)); replace HK := aQ (Kept.of_grown (S := (fun k_ => P0_ k_)) hg (by repeat (first | (with_reducible first | exact HK.out | apply Kept.alloc | apply Kept.drewN | apply Kept.drew) | exact HK.out)) (fun k_ e_ => (HO_0.out.1 k_ e_))); replace HO_0 := aQ (hp_); clear hg hw hp_))
     go_roundg k1
     case measure => have := HK1.out; omega
     case rel => exact ⟨(y27001), (wrap64 (x1_1 + 1)), (wrap64 (x5_1 + 1)), rs_, rs_, H', ⟨by have := HK1.out; omega⟩, ⟨pR HO_0.out⟩, ⟨by repeat (first | (with_reducible first | exact HK.out | apply Kept.alloc | apply Kept.drewN | apply Kept.drew) | exact HK.out)⟩, ⟨pB HB.out⟩⟩
    ·rw [if_neg c4] at H
     exact absurd H (by simp)
   ·rw [if_neg c3] at H
    have c3b0 : decide (x5_1 < (x0_1.length : Int)) = false := decide_eq_false c3
    clear c3
    simp only [Option.some.injEq, Prod.mk.injEq] at H
    obtain ⟨rfl, rfl⟩ := H
    obtain ⟨Ao9, co9, eo9⟩ := Kd.R_slice HO_0.out
    subst eo9
    go_wp2
    go_ret
    exact ⟨re_, by (with_reducible repeat (first | apply Kd.R_alloc | apply Kd.R_drewN | apply Kd.R_drew)); exact HO_0.out, pB HB.out, by repeat (first | (with_reducible first | exact HK.out | apply Kept.alloc | apply Kept.drewN | apply Kept.drew) | exact HK.out)⟩
/-! ### laws_markMatroid: function 10 -/
def laws_markMatroid.f (k : Nat) (a0_0 : Int) (l0_1 : List Int) (a1 : Int) : Option (Int × List Int) := (laws_markIntS.f k l0_1 a1).bind fun bt11002 => (some (bt11002.1, bt11002.2))
theorem laws_markMatroid.mono : ∀ a0 a1 a2 k, LeO (laws_markMatroid.f k a0 a1 a2) (laws_markMatroid.f (k + 1) a0 a1 a2) := by
 intro a0 a1 a2 k
 unfold laws_markMatroid.f
 repeat' first
   | (with_reducible exact laws_markIntS.mono _ _ _)
   | (with_reducible exact LeO.refl _)
   | (with_reducible exact LeO.none _)
   | (with_reducible refine LeO.ite ?_ ?_)
   | (with_reducible refine LeO.bind ?_ (fun _ => ?_))
   | exact laws_markIntS.mono _ _ _
   | exact LeO.none _
   | refine LeO.ite ?_ ?_
   | refine LeO.bind ?_ (fun _ => ?_)
set_option maxHeartbeats 8000000 in
set_option maxRecDepth 100000 in
theorem laws_markMatroid.calls (k : Nat) (a0_0 : Int) (P0_1_ : Nat → Prop) (u9000_ : Value) (l0_1 : List Int) (a1 : Int) (r1 : Int) (r2 : List Int) (w0 w : World) (hB : Below w0.heap.size w0 w) (ho0_1 : Kd.R (Kd.int .i64) 3 w w0.heap.size P0_1_ u9000_ l0_1) (h : laws_markMatroid.f k a0_0 l0_1 a1 = some (r1, r2)) :
  Calls Try.prog 10 #[.agg #[.int .i64 a0_0, u9000_], .int .i64 a1] w fun e w' => e = .returned (.int .i64 r1) ∧ Kd.R (Kd.int .i64) 3 w' w0.heap.size (fun k_ => (P0_1_ k_ ∨ w.heap.size ≤ k_)) u9000_ r2 ∧ Below w0.heap.size w0 w' ∧ Kept w w' (fun k_ => P0_1_ k_) := by
 have hu28 := Try.underlying28
 have HO0_1 := aQ (show Kd.R (Kd.int .i64) 3 w w0.heap.size (fun k_ => (P0_1_ k_ ∨ w.heap.size ≤ k_)) u9000_ l0_1 from Kd.R_mono ho0_1 (fun k_ hk => (.inl hk)))
 have HK := aQ (Kept.refl w (fun k_ => P0_1_ k_))
 have HW0 := aQ hB.size
 have HB := aQ hB
 clear hB
 have H : ((laws_markIntS.f k l0_1 a1).bind fun bt11002 => (some (bt11002.1, bt11002.2))) = some (r1, r2) := h
 clear h
 replace H := Option.bind_eq_some_iff.mp H
 obtain ⟨⟨t11002, t11003⟩, A30, H⟩ := H
 replace H : (some (t11002, t11003)) = some (r1, r2) := H
 have A3 := aQ A30
 clear A30
 simp only [Option.some.injEq, Prod.mk.injEq] at H
 obtain ⟨rfl, rfl⟩ := H
 obtain ⟨Ao4, co4, eo4⟩ := Kd.R_slice HO0_1.out
 subst eo4
 go_enter Try.func10, Try.ntmps10
 go_wp2_with (first | ((with_reducible refine gate_dst (N := 2) rfl ?_); refine box_event ?hg (N := 2) ?hd (cs := #[.int .i64 a0_0, .slice Ao4 l0_1.length co4]) (t := 28) ?hr ?_; (case hd => rfl); (case hg => rfl); (case hr => first | (go_simp; done) | (go_simp; rfl)); intro gb11001 hg w5 hbox hb; replace HO0_1 := aQ (Kd.R_below (pR HO0_1.out) hb); have BK11001 := aQ (hbox); have GW11001 := aQ ((by rw [hg]; exact (by first | exact HK.out.1 | exact (show Kept w _ (fun k_ => P0_1_ k_) from by repeat (first | (with_reducible first | exact HK.out | apply Kept.alloc | apply Kept.drewN | apply Kept.drew) | exact HK.out)).1) : w.heap.size ≤ gb11001)); replace HK := aQ (Kept.below (S := (fun k_ => P0_1_ k_)) (by repeat (first | (with_reducible first | exact HK.out | apply Kept.alloc | apply Kept.drewN | apply Kept.drew) | exact HK.out)) hb); have GE11001 := aQ ((by rw [hg]; exact (below_size (pB HB.out)) : w0.heap.size ≤ gb11001)); replace HB := aQ (below_step (pB HB.out) hb); clear hb hbox hg; have hcz6_0 := bc (v := (.int .i64 a0_0)) BK11001.out 0; have hcz6_1 := bc (v := (.slice Ao4 l0_1.length co4)) BK11001.out 1; have hfz6_0 := blk_frozen BK11001.out 0; have hfz6_1 := blk_frozen BK11001.out 1) | ((with_reducible refine gate_callee (f := 26) rfl ?_); refine goesL_ (some 8) rfl rfl Try.func26 (by kernel_rfl) rfl #[.slice Ao4 l0_1.length co4, .int .i64 a1] rfl lm ?_; (with_reducible refine (laws_markIntS.calls k (fun k_ => some k_ = (.slice Ao4 l0_1.length co4 : Value).ownBlock) (.slice Ao4 l0_1.length co4) l0_1 a1 t11002 t11003 w0 _ ?side1 ?side2 A3.out).mono ?_); (case side1 => repeat (first | (with_reducible first | exact HB.out | apply below_alloc | apply pw_below_drewN | apply below_drew1 | refine below_set ?_ GE11001.out) | exact HB.out)); (case side2 => exact Kd.R_tight rfl HO0_1.out); rintro e w7 ⟨rfl, hy0, hb, hkp⟩; refine ⟨_, rfl, ?_⟩; replace BK11001 := aQ (blk_kept (pk BK11001.out) hkp (fun hs_ => (fun e_ => (Kd.R_ne HO0_1.out BK11001.out (by decide)) e_) hs_)); replace HK := aQ (Kept.then_ (S := (fun k_ => P0_1_ k_)) (by repeat (first | (with_reducible first | exact HK.out | apply Kept.alloc | apply Kept.drewN | apply Kept.drew | refine Kept.setCell ?_ (.inr GW11001.out) _) | exact HK.out)) hkp (fun k_ hs_ => (fun e_ => (HO0_1.out.1 k_ e_.symm)) hs_)); replace HO0_1 := aQ (Kd.R_reok rfl hy0 (fun k_ e_ => HO0_1.out.1 k_ e_)); replace HB := aQ (hb); (try clear hb); (try clear hkp); (try clear hy0)))
 go_ret
 exact ⟨re_, by (with_reducible repeat (first | apply Kd.R_alloc | apply Kd.R_drewN | apply Kd.R_drew)); exact HO0_1.out, pB1 HB.out GE11001.out, by repeat (first | (with_reducible first | exact HK.out | apply Kept.alloc | apply Kept.drewN | apply Kept.drew | refine Kept.setCell ?_ (.inr GW11001.out) _) | exact HK.out)⟩
end Go.Proofs.Ytbdloopelidneaa.A
namespace Go.Proofs.Ytbdloopelidneaa.A
open Go.RowKit Go.Proofs.YtbdloopelidneaaW.PrintWords Go.Proofs.YtbdloopelidneaaW.PrintLast Go.Proofs.YtbdloopelidneaaW.PrintMore Go.Proofs.Ytbdloopelidneaa.Z
attribute [local go_sem] max2_int min2_int max_two min_two max_three min_three max_four min_four
set_option linter.unusedVariables false
set_option linter.unusedSimpArgs false
/-! ### laws_markIntSS: function 11 (by hand) -/
def laws_markIntSS.l (k : Nat) : List (List Int) → Int → Option (Int × List (List Int))
 | [], a => some (a, [])
 | x :: xs, a => (laws_markIntS.f k x a).bind fun b => (laws_markIntSS.l k xs b.1).bind fun c => some (c.1, b.2 :: c.2)
theorem laws_markIntSS.l_mono (k : Nat) : ∀ (xs : List (List Int)) (a : Int), LeO (laws_markIntSS.l k xs a) (laws_markIntSS.l (k + 1) xs a) := by
 intro xs
 induction xs with
 | nil => intro a; exact LeO.refl _
 | cons x xs ih => intro a; exact LeO.bind (laws_markIntS.mono _ _ _) (fun b => LeO.bind (ih _) (fun c => LeO.refl _))
def laws_markIntSS.f (k : Nat) (l0 : List (List Int)) (a1 : Int) : Option (Int × List (List Int)) := if l0.length ≤ 4096 then laws_markIntSS.l k l0 a1 else none
theorem laws_markIntSS.mono : ∀ a0 a1 k, LeO (laws_markIntSS.f k a0 a1) (laws_markIntSS.f (k + 1) a0 a1) := by
 intro a0 a1 k
 unfold laws_markIntSS.f
 exact LeO.ite (laws_markIntSS.l_mono _ _ _) (LeO.refl _)
theorem laws_markIntSS.l_len (k : Nat) : ∀ (xs : List (List Int)) (a b : Int) (ys : List (List Int)), laws_markIntSS.l k xs a = some (b, ys) → xs.length = ys.length := by
 intro xs
 induction xs with
 | nil => intro a b ys h; simp only [laws_markIntSS.l, Option.some.injEq, Prod.mk.injEq] at h; rw [← h.2]
 | cons x xs ih =>
  intro a b ys h
  simp only [laws_markIntSS.l] at h
  obtain ⟨b1, _, h⟩ := Option.bind_eq_some_iff.1 h
  obtain ⟨⟨c1, c2⟩, h2, h⟩ := Option.bind_eq_some_iff.1 h
  simp only [Option.some.injEq, Prod.mk.injEq] at h
  rw [← h.2, List.length_cons, List.length_cons, ih _ _ _ h2]
theorem laws_markIntSS.f_len {k : Nat} {xs : List (List Int)} {a b : Int} {ys : List (List Int)} (h : laws_markIntSS.f k xs a = some (b, ys)) : xs.length = ys.length := by
 unfold laws_markIntSS.f at h
 by_cases hl : xs.length ≤ 4096
 ·rw [if_pos hl] at h; exact laws_markIntSS.l_len k _ _ _ _ h
 ·rw [if_neg hl] at h; cases h
set_option maxHeartbeats 4000000 in
set_option maxRecDepth 100000 in
theorem laws_markIntSS.calls (k : Nat) (P0_ : Nat → Prop) (u0_ : Value) (l0 : List (List Int)) (a1 r1 : Int) (r2 : List (List Int)) (w0 w : World) (hB : Below w0.heap.size w0 w) (ho0 : Kd.S (Kd.slice 3 (Kd.int .i64)) 22 w w0.heap.size P0_ u0_ l0) (h : laws_markIntSS.f k l0 a1 = some (r1, r2)) :
  Calls Try.prog 11 #[u0_, .int .i64 a1] w fun e w' => e = .returned (.int .i64 r1) ∧ Kd.S (Kd.slice 3 (Kd.int .i64)) 22 w' w0.heap.size P0_ u0_ r2 ∧ Below w0.heap.size w0 w' ∧ Kept w w' (fun k_ => P0_ k_ ∧ ∃ cells, w.heap[k_]? = some (.cells cells 3 (0, 0))) := by
 obtain ⟨vs, hV, hI, hS, hP⟩ := S_open ho0
 have hl4 : l0.length ≤ 4096 := by
  refine Classical.byContradiction fun hc => ?_
  unfold laws_markIntSS.f at h
  rw [if_neg hc] at h; cases h
 have h1 : laws_markIntSS.l k l0 a1 = some (r1, r2) := by
  unfold laws_markIntSS.f at h
  rw [if_pos hl4] at h; exact h
 obtain ⟨A, c, eu⟩ := Kd.R_slice hV
 subst eu
 have HS := aQ hS
 have HP := aQ hP
 have HW := aQ h1
 have HN4 := aQ (show vs.length ≤ 4096 by rw [hI.1]; exact hl4)
 have HT := aQ (show ∀ x ∈ vs, ∀ k, (svV x).ownBlock = some k → ∃ cells, w.heap[k]? = some (.cells cells 3 (0, 0)) from fun x hx k hk => by
  obtain ⟨j, hj, rfl⟩ := List.getElem_of_mem hx
  have hj2 : j < l0.length := by rw [← hI.1]; exact hj
  have h3 : j < (vs.zip l0).length := by rw [List.length_zip]; omega
  have h4 := List.getElem_mem h3
  rw [List.getElem_zip] at h4
  exact Kd.R_typed (hI.2 _ h4) k hk)
 have HO := aQ hV
 have HN := aQ hI
 have HB := aQ hB
 have HK := aQ (Kept.refl w (fun k_ => P0_ k_ ∧ ∃ cells, w.heap[k_]? = some (.cells cells 3 (0, 0))))
 clear hV hI hS hP h h1 hl4 hB ho0
 go_enter Try.func11, Try.ntmps11
 go_wp2
 go_loopg [1, 5] vs.length (fun gg v1 v5 wr => ∃ (z : Nat) (x1 : Int) (cur q : List (List Int)), v1 = .int .i64 x1 ∧ v5 = .int .i64 (z : Int) ∧ Aside0 (z ≤ vs.length) ∧ Aside0 (vs.length - z ≤ gg) ∧ Aside0 (laws_markIntSS.l k (cur.drop z) x1 = some (r1, q)) ∧ Aside0 (cur.take z ++ q = r2) ∧ Aside0 (kSV.R 22 wr w0.heap.size P0_ (.slice A vs.length c) vs) ∧ Aside0 (Inn 3 wr w0.heap.size vs cur) ∧ Aside0 (Kept w wr (fun k_ => P0_ k_ ∧ ∃ cells, w.heap[k_]? = some (.cells cells 3 (0, 0)))) ∧ Aside0 (Below w0.heap.size w0 wr))
 case atStart => exact ⟨0, a1, l0, r2, rfl, rfl, ⟨Nat.zero_le _⟩, ⟨Nat.le_refl _⟩, ⟨HW.out⟩, ⟨rfl⟩, ⟨pR HO.out⟩, ⟨by (with_reducible repeat (first | apply Inn.alloc | apply Inn.drewN | apply Inn.drew)); exact HN.out⟩, ⟨by repeat (first | (with_reducible first | exact HK.out | apply Kept.alloc | apply Kept.drewN | apply Kept.drew) | exact HK.out)⟩, ⟨pB HB.out⟩⟩
 case round =>
  clear HW HO HN HK HB
  obtain ⟨z, x1, cur, q, rfl, rfl, HZ, HG, HW, HQ, HO, HN, HK, HB⟩ := hrel
  by_cases hz : z < vs.length
  ·have hzc : z < cur.length := by rw [← HN.out.1]; exact hz
   have m1_ : decide ((z : Int) < (vs.length : Int)) = true := decide_eq_true (by omega)
   have m7_ : decide (z < vs.length) = true := decide_eq_true hz
   have m3_ := eq_true (show (0 : Int) ≤ (z : Int) by omega)
   have m4_ := eq_true (show (z : Int) < (vs.length : Int) by omega)
   have hw_ := HW.out
   rw [List.drop_eq_getElem_cons hzc] at hw_
   simp only [laws_markIntSS.l] at hw_
   obtain ⟨⟨b1, b2⟩, hm, hwb_⟩ := Option.bind_eq_some_iff.1 hw_
   obtain ⟨⟨c1, c2⟩, hm2, hwc_⟩ := Option.bind_eq_some_iff.1 hwb_
   simp only [Option.some.injEq, Prod.mk.injEq] at hwc_
   obtain ⟨hw1_, hw2_⟩ := hwc_
   clear hw_ hwb_
   subst hw1_
   have HM := Lib.hid hm
   have HM2 := Lib.hid hm2
   have HQ2 := Lib.hid (show cur.take z ++ b2 :: c2 = r2 by rw [hw2_]; exact HQ.out)
   clear hm hm2 hw2_ HW HQ
   obtain ⟨g0, cO, eO0, _, _, _⟩ := Kd.R_form HO.out (by omega)
   injection eO0 with eO1_ _ eO3_
   subst eO1_
   have hcell := (Kd.R_cell (none, 0, 0) HO.out (z : Int) (by omega) (by omega)).1
   have hel := Inn.at HN.out (z : Int) (by omega) (by omega)
   have er1 : rdOf (none, 0, 0) vs (z : Int) = vs[z] := by unfold rdOf; rw [Int.toNat_natCast, List.getD_eq_getElem?_getD, List.getElem?_eq_getElem hz]; rfl
   have er2 : rdOf [] cur (z : Int) = cur[z] := by unfold rdOf; rw [Int.toNat_natCast, List.getD_eq_getElem?_getD, List.getElem?_eq_getElem hzc]; rfl
   rw [er1, er2] at hel
   rw [er1, Int.toNat_natCast] at hcell
   have hel2 := Kd.R_tight rfl hel
   obtain ⟨Ae, ce, ee⟩ := Kd.R_slice hel
   rw [ee] at hcell
   have HEL := Lib.hid (show Kd.R (Kd.int .i64) 3 wr w0.heap.size (fun k_ => some k_ = (.slice Ae cur[z].length ce : Value).ownBlock) (.slice Ae cur[z].length ce) cur[z] by rw [ee] at hel2; exact hel2)
   have HEE := Lib.hid ee
   have HPZ := Lib.hid (show ∀ k_, some k_ = (.slice Ae cur[z].length ce : Value).ownBlock → P0_ k_ ∧ ∃ cells, w.heap[k_]? = some (.cells cells 3 (0, 0)) from fun k_ h1_ => by rw [← ee] at h1_; exact ⟨HP.out _ (List.getElem_mem hz) k_ h1_.symm, HT.out _ (List.getElem_mem hz) k_ h1_.symm⟩)
   have E3 := Lib.hid (wrap64_of (n := (z : Int) + 1) (by omega) (by have := HN4.out; omega))
   have HZ1 := Lib.hid hz
   have HZC := Lib.hid hzc
   clear er1 er2 hel hel2 ee eO3_
   generalize hoz : cur[z] = oz at *
   go_wp2_with (first | (go_at_call 26; (with_reducible refine (laws_markIntS.calls k (fun k_ => some k_ = (.slice Ae oz.length ce : Value).ownBlock) (.slice Ae oz.length ce) oz x1 b1 b2 w0 _ ?side1 ?side2 HM.out).mono ?_); (case side1 => repeat (first | (with_reducible first | exact HB.out | apply below_alloc | apply pw_below_drewN | apply below_drew1) | exact HB.out)); (case side2 => (with_reducible repeat (first | apply Kd.R_alloc | apply Kd.R_drewN | apply Kd.R_drew)); exact HEL.out); rintro e w7_ ⟨rfl, hy0, hb, hkp⟩; have hkp2 := hkp; have hy2 := hy0; rw [← HEE.out] at hkp2 hy2; have n_HN := aQ (Inn.mark (z := z) (l := b2) (by (with_reducible repeat (first | apply Inn.alloc | apply Inn.drewN | apply Inn.drew)); exact HN.out) HS.out HZ1.out hkp2 hy2); have HOn := aQ (show kSV.R 22 _ w0.heap.size P0_ (.slice (some ⟨g0, 0, none⟩) vs.length c) vs from HO.out); have n_HO := aQ (Kd.R_mono (ok' := P0_) (Kd.R_kept (Kd.R_tight (d := kSV) (ok := P0_) rfl HOn.out) hkp (fun k_ h1_ h2_ => by obtain ⟨c1_, h3_⟩ := Kd.R_typed HO.out k_ h1_.symm; obtain ⟨c2_, h4_⟩ := Kd.R_typed HEL.out k_ h2_.symm; rw [h3_] at h4_; injection h4_ with h4_; injection h4_ with _ h4_; exact absurd h4_ (by decide))) (fun k_ h1_ => HO.out.1 k_ h1_.symm)); have n_HK := aQ (Kept.then_ (w := w) (S := fun k_ => P0_ k_ ∧ ∃ cells, w.heap[k_]? = some (.cells cells 3 (0, 0))) (by repeat (first | (with_reducible first | exact HK.out | apply Kept.alloc | apply Kept.drewN | apply Kept.drew) | exact HK.out)) hkp (fun k_ h1_ => .inl (HPZ.out k_ h1_))); clear HN HO HOn HK HB hkp hy0 hkp2 hy2; have HN := n_HN; have HO := n_HO; have HK := n_HK; have HB := aQ hb; clear n_HN n_HO n_HK hb))
   go_roundg (vs.length - (z + 1))
   case measure => have := HG.out; omega
   case rel => exact ⟨z + 1, b1, cur.set z b2, c2, rfl, by rw [E3.out]; rfl, ⟨HZ1.out⟩, ⟨Nat.le_refl _⟩, ⟨by rw [List.drop_set_of_lt (by omega)]; exact HM2.out⟩, ⟨by rw [← HQ2.out, List.take_succ_eq_append_getElem (by rw [List.length_set]; exact HZC.out), List.take_set_of_le (Nat.le_refl _), List.getElem_set_self, List.append_assoc]; rfl⟩, ⟨pR HO.out⟩, ⟨by (with_reducible repeat (first | apply Inn.alloc | apply Inn.drewN | apply Inn.drew)); exact HN.out⟩, ⟨by repeat (first | (with_reducible first | exact HK.out | apply Kept.alloc | apply Kept.drewN | apply Kept.drew) | exact HK.out)⟩, ⟨pB HB.out⟩⟩
  ·have m1_ : decide ((z : Int) < (vs.length : Int)) = false := decide_eq_false (by omega)
   have m5_ := eq_false (show ¬ (z : Int) < (vs.length : Int) by omega)
   have m6_ := eq_false hz
   have m7_ : decide (z < vs.length) = false := decide_eq_false hz
   have hcl : cur.length ≤ z := by rw [← HN.out.1]; omega
   have hw_ := HW.out
   rw [List.drop_eq_nil_of_le hcl] at hw_
   simp only [laws_markIntSS.l, Option.some.injEq, Prod.mk.injEq] at hw_
   obtain ⟨hw1_, hw2_⟩ := hw_
   subst hw1_
   have hq_ := HQ.out
   rw [← hw2_, List.append_nil, List.take_of_length_le hcl] at hq_
   subst hq_
   clear HW HQ hz hw2_
   go_wp2
   go_ret
   exact ⟨rs_, Inn.srowP (by decide) (pR HO.out) (by (with_reducible repeat (first | apply Inn.alloc | apply Inn.drewN | apply Inn.drew)); exact HN.out) HS.out HP.out, pB HB.out, by repeat (first | (with_reducible first | exact HK.out | apply Kept.alloc | apply Kept.drewN | apply Kept.drew) | exact HK.out)⟩
end Go.Proofs.Ytbdloopelidneaa.A
namespace Go.Proofs.Ytbdloopelidneaa.A
open Go.RowKit Go.Proofs.YtbdloopelidneaaW.PrintWords Go.Proofs.YtbdloopelidneaaW.PrintLast Go.Proofs.YtbdloopelidneaaW.PrintMore
attribute [local go_sem] max2_int min2_int max_two min_two max_three min_three max_four min_four
set_option linter.unusedVariables false
set_option linter.unusedSimpArgs false
/-! ### laws_heldIntS: function 27 -/
def laws_heldIntS.l0 : Nat → List Int → Int → Int → Option (Int)
 | 0, _, _, _ => none
 | k + 1, x0, x1, x5 => if x5 < (x0.length : Int) then (if 0 ≤ x5 then (if (rd x0 x5) = x1 then (laws_heldIntS.l0 k x0 (wrap64 (x1 + 1)) (wrap64 (x5 + 1))) else (some (-1))) else (none)) else (some x1)
def laws_heldIntS.f (k : Nat) (l0 : List Int) (a1 : Int) : Option (Int) := laws_heldIntS.l0 k l0 a1 0
theorem laws_heldIntS.mono_l : ∀ k, (∀ y0 y1 y2, LeO (laws_heldIntS.l0 k y0 y1 y2) (laws_heldIntS.l0 (k + 1) y0 y1 y2))
 | 0 => fun _ _ _ r h => by simp [laws_heldIntS.l0] at h
 | k + 1 => by
  have ih0 := laws_heldIntS.mono_l k
  ·intro y0 y1 y2
   unfold laws_heldIntS.l0
   repeat' first
   | (with_reducible exact ih0 _ _ _)
   | (with_reducible exact LeO.refl _)
   | (with_reducible exact LeO.none _)
   | (with_reducible refine LeO.ite ?_ ?_)
   | (with_reducible refine LeO.bind ?_ (fun _ => ?_))
   | exact ih0 _ _ _
   | exact LeO.none _
   | refine LeO.ite ?_ ?_
   | refine LeO.bind ?_ (fun _ => ?_)
theorem laws_heldIntS.mono : ∀ a0 a1 k, LeO (laws_heldIntS.f k a0 a1) (laws_heldIntS.f (k + 1) a0 a1) := by
 intro a0 a1 k
 have ih0 := laws_heldIntS.mono_l k
 unfold laws_heldIntS.f
 repeat' first
   | (with_reducible exact ih0 _ _ _)
   | (with_reducible exact LeO.refl _)
   | (with_reducible exact LeO.none _)
   | (with_reducible refine LeO.ite ?_ ?_)
   | (with_reducible refine LeO.bind ?_ (fun _ => ?_))
   | exact ih0 _ _ _
   | exact LeO.none _
   | refine LeO.ite ?_ ?_
   | refine LeO.bind ?_ (fun _ => ?_)
set_option maxHeartbeats 8000000 in
set_option maxRecDepth 100000 in
theorem laws_heldIntS.calls (k : Nat) (A0 : Option Addr) (c0 : Nat) (l0 : List Int) (a1 : Int) (r : Int) (w : World) (hr0 : Kd.C (Kd.int .i64) w A0 l0.length l0) (hc0 : l0.length ≤ c0) (h : laws_heldIntS.f k l0 a1 = some r) :
  Calls Try.prog 27 #[.slice A0 l0.length c0, .int .i64 a1] w fun e w' => e = .returned (.int .i64 r) ∧ Drawn0 w w' := by
 have HR0 := aQ hr0
 have HC0 := aQ hc0
 clear hr0 hc0
 have H : (laws_heldIntS.l0 k l0 a1 0) = some r := h
 clear h
 have H' := aQ H
 clear H
 go_enter Try.func27, Try.ntmps27
 go_wp2
 go_loopg [1, 5] k (fun kq v1 v5 w' => ∃ (x1_1 : Int) (x5_1 : Int), v1 = .int .i64 x1_1 ∧ v5 = .int .i64 x5_1 ∧ Aside0 (laws_heldIntS.l0 kq l0 x1_1 x5_1 = some r) ∧ Aside0 (kq ≤ k) ∧ Drawn0 w w')
 case atStart => exact ⟨(a1), (0), rs_, rs_, H', ⟨Nat.le_refl _⟩, rd_⟩
 case round =>
  clear H'
  try clear c2
  try clear p2
  obtain ⟨x1_1, x5_1, rfl, rfl, HA, HK1, ⟨m1, rfl⟩⟩ := hrel
  cases gk with
  | zero => exact absurd HA.out (by simp [laws_heldIntS.l0])
  | succ k1 =>
   have H := HA.out
   clear HA
   simp only [laws_heldIntS.l0] at H
   by_cases c3 : x5_1 < (l0.length : Int)
   ·rw [if_pos c3] at H
    have c3b0 : decide (x5_1 < (l0.length : Int)) = true := decide_eq_true c3
    clear c3
    by_cases c4 : 0 ≤ x5_1
    ·rw [if_pos c4] at H
     have c4b0 : decide (0 ≤ x5_1) = true := decide_eq_true c4
     clear c4
     by_cases c5 : (rd l0 x5_1) = x1_1
     ·rw [if_pos c5] at H
      have c5b0 : ((rd l0 x5_1) == x1_1) = true := beq_iff_eq.mpr c5
      have c5b1 : ((rd l0 x5_1) != x1_1) = false := bne_eq_false_iff_eq.mpr c5
      clear c5
      have H' := aQ H
      clear H
      have p28001 : 0 ≤ (x5_1 : Int) := of_decide_eq_true as_
      have q28001 : x5_1 < (l0.length : Int) := of_decide_eq_true as_
      obtain ⟨ad28001, e28001, hx28001_0⟩ := Kd.at_int HR0.out x5_1 p28001 q28001
      cases e28001
      replace p28001 := eq_true p28001
      replace q28001 := eq_true q28001
      go_wp2
      go_roundg k1
      case measure => have := HK1.out; omega
      case rel => exact ⟨(wrap64 (x1_1 + 1)), (wrap64 (x5_1 + 1)), rs_, rs_, H', ⟨by have := HK1.out; omega⟩, rd_⟩
     ·rw [if_neg c5] at H
      have c5b0 : ((rd l0 x5_1) == x1_1) = false := beq_eq_false_iff_ne.mpr c5
      have c5b1 : ((rd l0 x5_1) != x1_1) = true := bne_iff_ne.mpr c5
      obtain rfl := Option.some.inj H
      have p28001 : 0 ≤ (x5_1 : Int) := of_decide_eq_true as_
      have q28001 : x5_1 < (l0.length : Int) := of_decide_eq_true as_
      obtain ⟨ad28001, e28001, hx28001_0⟩ := Kd.at_int HR0.out x5_1 p28001 q28001
      cases e28001
      replace p28001 := eq_true p28001
      replace q28001 := eq_true q28001
      go_wp2
      go_ret
      exact ⟨rs_, rd_⟩
    ·rw [if_neg c4] at H
     exact absurd H (by simp)
   ·rw [if_neg c3] at H
    have c3b0 : decide (x5_1 < (l0.length : Int)) = false := decide_eq_false c3
    clear c3
    obtain rfl := Option.some.inj H
    go_wp2
    go_ret
    exact ⟨rs_, rd_⟩
/-! ### laws_heldIntSS: function 12 -/
def laws_heldIntSS.l0 : Nat → List (List Int) → Int → Int → Option (Int)
 | 0, _, _, _ => none
 | k + 1, x0, x1, x5 => if x5 < (x0.length : Int) then (if 0 ≤ x5 then ((laws_heldIntS.f k (rd_L1 x0 x5) x1).bind fun t13002 => (if t13002 < 0 then (some (-1)) else (laws_heldIntSS.l0 k x0 t13002 (wrap64 (x5 + 1))))) else (none)) else (some x1)
def laws_heldIntSS.f (k : Nat) (l0 : List (List Int)) (a1 : Int) : Option (Int) := laws_heldIntSS.l0 k l0 a1 0
theorem laws_heldIntSS.mono_l : ∀ k, (∀ y0 y1 y2, LeO (laws_heldIntSS.l0 k y0 y1 y2) (laws_heldIntSS.l0 (k + 1) y0 y1 y2))
 | 0 => fun _ _ _ r h => by simp [laws_heldIntSS.l0] at h
 | k + 1 => by
  have ih0 := laws_heldIntSS.mono_l k
  ·intro y0 y1 y2
   unfold laws_heldIntSS.l0
   repeat' first
   | (with_reducible exact ih0 _ _ _)
   | (with_reducible exact laws_heldIntS.mono _ _ _)
   | (with_reducible exact LeO.refl _)
   | (with_reducible exact LeO.none _)
   | (with_reducible refine LeO.ite ?_ ?_)
   | (with_reducible refine LeO.bind ?_ (fun _ => ?_))
   | exact ih0 _ _ _
   | exact laws_heldIntS.mono _ _ _
   | exact LeO.none _
   | refine LeO.ite ?_ ?_
   | refine LeO.bind ?_ (fun _ => ?_)
theorem laws_heldIntSS.mono : ∀ a0 a1 k, LeO (laws_heldIntSS.f k a0 a1) (laws_heldIntSS.f (k + 1) a0 a1) := by
 intro a0 a1 k
 have ih0 := laws_heldIntSS.mono_l k
 unfold laws_heldIntSS.f
 repeat' first
   | (with_reducible exact ih0 _ _ _)
   | (with_reducible exact laws_heldIntS.mono _ _ _)
   | (with_reducible exact LeO.refl _)
   | (with_reducible exact LeO.none _)
   | (with_reducible refine LeO.ite ?_ ?_)
   | (with_reducible refine LeO.bind ?_ (fun _ => ?_))
   | exact ih0 _ _ _
   | exact laws_heldIntS.mono _ _ _
   | exact LeO.none _
   | refine LeO.ite ?_ ?_
   | refine LeO.bind ?_ (fun _ => ?_)
set_option maxHeartbeats 8000000 in
set_option maxRecDepth 100000 in
theorem laws_heldIntSS.calls (k : Nat) (A0 : Option Addr) (c0 : Nat) (l0 : List (List Int)) (a1 : Int) (r : Int) (w : World) (hr0 : Kd.C (Kd.slice 3 (Kd.int .i64)) w A0 l0.length l0) (hc0 : l0.length ≤ c0) (h : laws_heldIntSS.f k l0 a1 = some r) :
  Calls Try.prog 12 #[.slice A0 l0.length c0, .int .i64 a1] w fun e w' => e = .returned (.int .i64 r) ∧ Drawn0 w w' := by
 have HR0 := aQ hr0
 have HC0 := aQ hc0
 clear hr0 hc0
 have H : (laws_heldIntSS.l0 k l0 a1 0) = some r := h
 clear h
 have H' := aQ H
 clear H
 go_enter Try.func12, Try.ntmps12
 go_wp2
 go_loopg [1, 5] k (fun kq v1 v5 w' => ∃ (x1_1 : Int) (x5_1 : Int), v1 = .int .i64 x1_1 ∧ v5 = .int .i64 x5_1 ∧ Aside0 (laws_heldIntSS.l0 kq l0 x1_1 x5_1 = some r) ∧ Aside0 (kq ≤ k) ∧ Drawn0 w w')
 case atStart => exact ⟨(a1), (0), rs_, rs_, H', ⟨Nat.le_refl _⟩, rd_⟩
 case round =>
  clear H'
  try clear c1
  try clear p2
  obtain ⟨x1_1, x5_1, rfl, rfl, HA, HK1, ⟨m1, rfl⟩⟩ := hrel
  cases gk with
  | zero => exact absurd HA.out (by simp [laws_heldIntSS.l0])
  | succ k1 =>
   have H := HA.out
   clear HA
   simp only [laws_heldIntSS.l0] at H
   by_cases c3 : x5_1 < (l0.length : Int)
   ·rw [if_pos c3] at H
    have c3b0 : decide (x5_1 < (l0.length : Int)) = true := decide_eq_true c3
    clear c3
    by_cases c4 : 0 ≤ x5_1
    ·rw [if_pos c4] at H
     have c4b0 : decide (0 ≤ x5_1) = true := decide_eq_true c4
     clear c4
     replace H := Option.bind_eq_some_iff.mp H
     obtain ⟨t13002, A50, H⟩ := H
     replace H : (if t13002 < 0 then (some (-1)) else (laws_heldIntSS.l0 k1 l0 t13002 (wrap64 (x5_1 + 1)))) = some r := H
     have A5 := aQ A50
     clear A50
     by_cases c6 : t13002 < 0
     ·rw [if_pos c6] at H
      have c6b0 : decide (t13002 < 0) = true := decide_eq_true c6
      clear c6
      obtain rfl := Option.some.inj H
      have p13001 : 0 ≤ (x5_1 : Int) := of_decide_eq_true as_
      have q13001 : x5_1 < (l0.length : Int) := of_decide_eq_true as_
      obtain ⟨ad13001, A13001_0, c13001_0, e13001, hx13001_0, hl13001_0, hi13001_0⟩ := at_L1 HR0.out x5_1 p13001 q13001
      cases e13001
      have HR13001_0 := aQ hi13001_0
      have HC13001_0 := aQ hl13001_0
      clear hi13001_0 hl13001_0
      replace p13001 := eq_true p13001
      replace q13001 := eq_true q13001
      go_wp2_with (first | ((with_reducible refine gate_callee (f := 27) rfl ?_); refine goesL_ (some 17) rfl rfl Try.func27 (by kernel_rfl) rfl #[.slice A13001_0 (rd_L1 l0 x5_1).length c13001_0, .int .i64 x1_1] rfl lm ?_; (with_reducible refine (laws_heldIntS.calls k1 _ _ (rd_L1 l0 x5_1) x1_1 t13002 _ ?side1 ?side2 A5.out).mono ?_); (case side1 => exact pC HR13001_0.out); (case side2 => exact HC13001_0.out); rintro e w' ⟨rfl, ⟨nd, rfl⟩⟩; refine ⟨_, rfl, ?_⟩))
      go_ret
      exact ⟨rs_, rd_⟩
     ·rw [if_neg c6] at H
      have c6b0 : decide (t13002 < 0) = false := decide_eq_false c6
      clear c6
      have H' := aQ H
      clear H
      have p13001 : 0 ≤ (x5_1 : Int) := of_decide_eq_true as_
      have q13001 : x5_1 < (l0.length : Int) := of_decide_eq_true as_
      obtain ⟨ad13001, A13001_0, c13001_0, e13001, hx13001_0, hl13001_0, hi13001_0⟩ := at_L1 HR0.out x5_1 p13001 q13001
      cases e13001
      have HR13001_0 := aQ hi13001_0
      have HC13001_0 := aQ hl13001_0
      clear hi13001_0 hl13001_0
      replace p13001 := eq_true p13001
      replace q13001 := eq_true q13001
      go_wp2_with (first | ((with_reducible refine gate_callee (f := 27) rfl ?_); refine goesL_ (some 17) rfl rfl Try.func27 (by kernel_rfl) rfl #[.slice A13001_0 (rd_L1 l0 x5_1).length c13001_0, .int .i64 x1_1] rfl lm ?_; (with_reducible refine (laws_heldIntS.calls k1 _ _ (rd_L1 l0 x5_1) x1_1 t13002 _ ?side1 ?side2 A5.out).mono ?_); (case side1 => exact pC HR13001_0.out); (case side2 => exact HC13001_0.out); rintro e w' ⟨rfl, ⟨nd, rfl⟩⟩; refine ⟨_, rfl, ?_⟩))
      go_roundg k1
      case measure => have := HK1.out; omega
      case rel => exact ⟨(t13002), (wrap64 (x5_1 + 1)), rs_, rs_, H', ⟨by have := HK1.out; omega⟩, rd_⟩
    ·rw [if_neg c4] at H
     exact absurd H (by simp)
   ·rw [if_neg c3] at H
    have c3b0 : decide (x5_1 < (l0.length : Int)) = false := decide_eq_false c3
    clear c3
    obtain rfl := Option.some.inj H
    go_wp2
    go_ret
    exact ⟨rs_, rd_⟩
end Go.Proofs.Ytbdloopelidneaa.A
namespace Go.Proofs.Ytbdloopelidneaa.A
open Go.RowKit Go.Proofs.YtbdloopelidneaaW.PrintWords Go.Proofs.YtbdloopelidneaaW.PrintLast Go.Proofs.YtbdloopelidneaaW.PrintMore Go.Proofs.Ytbdloopelidneaa.Z
attribute [local go_sem] max2_int min2_int max_two min_two max_three min_three max_four min_four
set_option linter.unusedVariables false
set_option linter.unusedSimpArgs false
/-! ### laws_FnExactAllCuts: function 3 -/
def laws_FnExactAllCuts.j0 : Nat → List (List Int) → List (List Int) → Bool → Int → List Int → Option (Bool)
 | 0, _, _, _, _, _ => none
 | k + 1, x4, x6, x42, x4002000, x4002001 => if x42 = true then (some false) else ((laws_markIntSS.f k x6 1).bind fun bt4027 => ((laws_heldIntSS.f k bt4027.2 1).bind fun t4028 => (if t4028 < 0 then (some false) else (if t4028 = bt4027.1 then ((laws_toMatroid.f k x4002000 x4002001).bind fun bt4029 => ((impl_AllCuts.f k bt4029.1 bt4029.2).bind fun t4033 => ((laws_eqIntSS.f k t4033 x4).bind fun t4036 => (if t4036 = true then ((laws_heldIntSS.f k bt4027.2 1).bind fun t4037 => (if t4037 < 0 then (some false) else (if t4037 = bt4027.1 then (some true) else (some false)))) else (some false))))) else (some false)))))
def laws_FnExactAllCuts.f (k : Nat) (a0_0 : Int) (l0_1 : List Int) : Option (Bool) := (laws_szMatroid.f a0_0 l0_1 1048576).bind fun t4002 => (if t4002 < 0 then (some true) else ((laws_toMatroid.f k a0_0 l0_1).bind fun bt4003 => ((spec_AllCuts.f k bt4003.1 bt4003.2).bind fun t4007 => ((laws_toMatroid.f k a0_0 l0_1).bind fun bt4010 => ((impl_AllCuts.f k bt4010.1 bt4010.2).bind fun t4015 => ((laws_eqIntSS.f k t4015 t4007).bind fun t4018 => (if t4018 = true then ((laws_toMatroid.f k a0_0 l0_1).bind fun bt4019 => ((laws_eqMatroid.f k bt4010.1 bt4010.2 bt4019.1 bt4019.2).bind fun t4023 => (if t4023 = true then ((laws_markMatroid.f k bt4010.1 bt4010.2 1).bind fun bt4024 => (if bt4024.1 < 0 then (laws_FnExactAllCuts.j0 k t4007 t4015 true a0_0 l0_1) else ((laws_eqIntSS.f k t4015 t4007).bind fun t4026 => (laws_FnExactAllCuts.j0 k t4007 t4015 (!t4026) a0_0 l0_1)))) else (some false)))) else (some false))))))))
theorem laws_FnExactAllCuts.mono_l : ∀ k, (∀ y0 y1 y2 y3 y4, LeO (laws_FnExactAllCuts.j0 k y0 y1 y2 y3 y4) (laws_FnExactAllCuts.j0 (k + 1) y0 y1 y2 y3 y4))
 | 0 => fun _ _ _ _ _ r h => by simp [laws_FnExactAllCuts.j0] at h
 | k + 1 => by
  have ih0 := laws_FnExactAllCuts.mono_l k
  ·intro y0 y1 y2 y3 y4
   unfold laws_FnExactAllCuts.j0
   repeat' first
   | (with_reducible exact ih0 _ _ _ _ _)
   | (with_reducible exact impl_AllCuts.mono _ _ _)
   | (with_reducible exact laws_eqIntSS.mono _ _ _)
   | (with_reducible exact laws_eqMatroid.mono _ _ _ _ _)
   | (with_reducible exact laws_heldIntSS.mono _ _ _)
   | (with_reducible exact laws_markIntSS.mono _ _ _)
   | (with_reducible exact laws_markMatroid.mono _ _ _ _)
   | (with_reducible exact laws_toMatroid.mono _ _ _)
   | (with_reducible exact spec_AllCuts.mono _ _ _)
   | (with_reducible exact LeO.refl _)
   | (with_reducible exact LeO.none _)
   | (with_reducible refine LeO.ite ?_ ?_)
   | (with_reducible refine LeO.bind ?_ (fun _ => ?_))
   | exact ih0 _ _ _ _ _
   | exact impl_AllCuts.mono _ _ _
   | exact laws_eqIntSS.mono _ _ _
   | exact laws_eqMatroid.mono _ _ _ _ _
   | exact laws_heldIntSS.mono _ _ _
   | exact laws_markIntSS.mono _ _ _
   | exact laws_markMatroid.mono _ _ _ _
   | exact laws_toMatroid.mono _ _ _
   | exact spec_AllCuts.mono _ _ _
   | exact LeO.none _
   | refine LeO.ite ?_ ?_
   | refine LeO.bind ?_ (fun _ => ?_)
theorem laws_FnExactAllCuts.mono : ∀ a0 a1 k, LeO (laws_FnExactAllCuts.f k a0 a1) (laws_FnExactAllCuts.f (k + 1) a0 a1) := by
 intro a0 a1 k
 have ih0 := laws_FnExactAllCuts.mono_l k
 unfold laws_FnExactAllCuts.f
 repeat' first
   | (with_reducible exact ih0 _ _ _ _ _)
   | (with_reducible exact impl_AllCuts.mono _ _ _)
   | (with_reducible exact laws_eqIntSS.mono _ _ _)
   | (with_reducible exact laws_eqMatroid.mono _ _ _ _ _)
   | (with_reducible exact laws_heldIntSS.mono _ _ _)
   | (with_reducible exact laws_markIntSS.mono _ _ _)
   | (with_reducible exact laws_markMatroid.mono _ _ _ _)
   | (with_reducible exact laws_toMatroid.mono _ _ _)
   | (with_reducible exact spec_AllCuts.mono _ _ _)
   | (with_reducible exact LeO.refl _)
   | (with_reducible exact LeO.none _)
   | (with_reducible refine LeO.ite ?_ ?_)
   | (with_reducible refine LeO.bind ?_ (fun _ => ?_))
   | exact ih0 _ _ _ _ _
   | exact impl_AllCuts.mono _ _ _
   | exact laws_eqIntSS.mono _ _ _
   | exact laws_eqMatroid.mono _ _ _ _ _
   | exact laws_heldIntSS.mono _ _ _
   | exact laws_markIntSS.mono _ _ _
   | exact laws_markMatroid.mono _ _ _ _
   | exact laws_toMatroid.mono _ _ _
   | exact spec_AllCuts.mono _ _ _
   | exact LeO.none _
   | refine LeO.ite ?_ ?_
   | refine LeO.bind ?_ (fun _ => ?_)
set_option maxHeartbeats 8000000 in
set_option maxRecDepth 100000 in
theorem laws_FnExactAllCuts.calls (k : Nat) (a0_0 : Int) (A0_1 : Option Addr) (c0_1 : Nat) (l0_1 : List Int) (w : World) (hr0_1 : Kd.C (Kd.int .i64) w A0_1 l0_1.length l0_1) (hc0_1 : l0_1.length ≤ c0_1) (h : laws_FnExactAllCuts.f k a0_0 l0_1 = some true) :
  Calls Try.prog 3 #[.agg #[.int .i64 a0_0, .slice A0_1 l0_1.length c0_1]] w fun e w' => e = .returned (.bool true) ∧ Below w.heap.size w w' := by
 have hu24 := Try.underlying24
 have hu28 := Try.underlying28
 have HR0_1 := aQ hr0_1
 have HC0_1 := aQ hc0_1
 clear hr0_1 hc0_1
 have HB := aQ (Below.refl w.heap.size w)
 have H : ((laws_szMatroid.f a0_0 l0_1 1048576).bind fun t4002 => (if t4002 < 0 then (some true) else ((laws_toMatroid.f k a0_0 l0_1).bind fun bt4003 => ((spec_AllCuts.f k bt4003.1 bt4003.2).bind fun t4007 => ((laws_toMatroid.f k a0_0 l0_1).bind fun bt4010 => ((impl_AllCuts.f k bt4010.1 bt4010.2).bind fun t4015 => ((laws_eqIntSS.f k t4015 t4007).bind fun t4018 => (if t4018 = true then ((laws_toMatroid.f k a0_0 l0_1).bind fun bt4019 => ((laws_eqMatroid.f k bt4010.1 bt4010.2 bt4019.1 bt4019.2).bind fun t4023 => (if t4023 = true then ((laws_markMatroid.f k bt4010.1 bt4010.2 1).bind fun bt4024 => (if bt4024.1 < 0 then (laws_FnExactAllCuts.j0 k t4007 t4015 true a0_0 l0_1) else ((laws_eqIntSS.f k t4015 t4007).bind fun t4026 => (laws_FnExactAllCuts.j0 k t4007 t4015 (!t4026) a0_0 l0_1)))) else (some false)))) else (some false))))))))) = some true := h
 clear h
 replace H := Option.bind_eq_some_iff.mp H
 obtain ⟨t4002, A20, H⟩ := H
 replace H : (if t4002 < 0 then (some true) else ((laws_toMatroid.f k a0_0 l0_1).bind fun bt4003 => ((spec_AllCuts.f k bt4003.1 bt4003.2).bind fun t4007 => ((laws_toMatroid.f k a0_0 l0_1).bind fun bt4010 => ((impl_AllCuts.f k bt4010.1 bt4010.2).bind fun t4015 => ((laws_eqIntSS.f k t4015 t4007).bind fun t4018 => (if t4018 = true then ((laws_toMatroid.f k a0_0 l0_1).bind fun bt4019 => ((laws_eqMatroid.f k bt4010.1 bt4010.2 bt4019.1 bt4019.2).bind fun t4023 => (if t4023 = true then ((laws_markMatroid.f k bt4010.1 bt4010.2 1).bind fun bt4024 => (if bt4024.1 < 0 then (laws_FnExactAllCuts.j0 k t4007 t4015 true a0_0 l0_1) else ((laws_eqIntSS.f k t4015 t4007).bind fun t4026 => (laws_FnExactAllCuts.j0 k t4007 t4015 (!t4026) a0_0 l0_1)))) else (some false)))) else (some false)))))))) = some true := H
 have A2 := aQ A20
 clear A20
 by_cases c3 : t4002 < 0
 ·rw [if_pos c3] at H
  have c3b0 : decide (t4002 < 0) = true := decide_eq_true c3
  clear c3
  have HR_ := Option.some.inj H
  (try (have HS_ := HR_; simp only [bne_iff_ne, ne_eq] at HS_))
  clear H
  go_enter Try.func3, Try.ntmps3
  go_wp2_with (first | ((with_reducible refine gate_dst (N := 1) rfl ?_); refine box_event ?hg (N := 1) ?hd (cs := #[.int .i64 a0_0, .slice A0_1 l0_1.length c0_1]) (t := 24) ?hr ?_; (case hd => rfl); (case hg => rfl); (case hr => first | (go_simp; done) | (go_simp; rfl)); intro gb4001 hg w4 hbox hb; have BK4001 := aQ (hbox); have GW4001 := aQ ((by rw [hg]; exact (below_size (pB HB.out)) : w.heap.size ≤ gb4001)); have GE4001 := aQ ((by rw [hg]; exact (below_size (pB HB.out)) : w.heap.size ≤ gb4001)); replace HB := aQ (below_step (pB HB.out) hb); clear hb hbox hg; have hcz5_0 := bc (v := (.int .i64 a0_0)) BK4001.out 0; have hcz5_1 := bc (v := (.slice A0_1 l0_1.length c0_1)) BK4001.out 1; have hfz5_0 := blk_frozen BK4001.out 0; have hfz5_1 := blk_frozen BK4001.out 1) | ((with_reducible refine gate_callee (f := 4) rfl ?_); refine goesL_ (some 13) rfl rfl Try.func4 (by kernel_rfl) rfl #[.agg #[.int .i64 a0_0, .slice A0_1 l0_1.length c0_1], .int .i64 1048576] rfl lm ?_; (with_reducible refine (laws_szMatroid.calls a0_0 _ _ l0_1 1048576 t4002 _ ?side1 ?side2 A2.out).mono ?_); (case side1 => exact pC (Kd.C_below HR0_1.out HB.out)); (case side2 => exact HC0_1.out); rintro e w6 ⟨rfl, hb⟩; refine ⟨_, rfl, ?_⟩; replace BK4001 := aQ (blk_below (g := gb4001) (o := .cells #[.int .i64 a0_0, .slice A0_1 l0_1.length c0_1] 24 (0, 0)) (pk BK4001.out) hb); replace HB := aQ (below_step (pB1 HB.out GE4001.out) hb); (try clear hb)))
  go_ret
  exact ⟨re_, pB1 HB.out GE4001.out⟩
 ·rw [if_neg c3] at H
  have c3b0 : decide (t4002 < 0) = false := decide_eq_false c3
  clear c3
  replace H := Option.bind_eq_some_iff.mp H
  obtain ⟨⟨t4003, t4004⟩, A70, H⟩ := H
  replace H : ((spec_AllCuts.f k t4003 t4004).bind fun t4007 => ((laws_toMatroid.f k a0_0 l0_1).bind fun bt4010 => ((impl_AllCuts.f k bt4010.1 bt4010.2).bind fun t4015 => ((laws_eqIntSS.f k t4015 t4007).bind fun t4018 => (if t4018 = true then ((laws_toMatroid.f k a0_0 l0_1).bind fun bt4019 => ((laws_eqMatroid.f k bt4010.1 bt4010.2 bt4019.1 bt4019.2).bind fun t4023 => (if t4023 = true then ((laws_markMatroid.f k bt4010.1 bt4010.2 1).bind fun bt4024 => (if bt4024.1 < 0 then (laws_FnExactAllCuts.j0 k t4007 t4015 true a0_0 l0_1) else ((laws_eqIntSS.f k t4015 t4007).bind fun t4026 => (laws_FnExactAllCuts.j0 k t4007 t4015 (!t4026) a0_0 l0_1)))) else (some false)))) else (some false)))))) = some true := H
  have A7 := aQ A70
  clear A70
  replace H := Option.bind_eq_some_iff.mp H
  obtain ⟨t4007, A80, H⟩ := H
  replace H : ((laws_toMatroid.f k a0_0 l0_1).bind fun bt4010 => ((impl_AllCuts.f k bt4010.1 bt4010.2).bind fun t4015 => ((laws_eqIntSS.f k t4015 t4007).bind fun t4018 => (if t4018 = true then ((laws_toMatroid.f k a0_0 l0_1).bind fun bt4019 => ((laws_eqMatroid.f k bt4010.1 bt4010.2 bt4019.1 bt4019.2).bind fun t4023 => (if t4023 = true then ((laws_markMatroid.f k bt4010.1 bt4010.2 1).bind fun bt4024 => (if bt4024.1 < 0 then (laws_FnExactAllCuts.j0 k t4007 t4015 true a0_0 l0_1) else ((laws_eqIntSS.f k t4015 t4007).bind fun t4026 => (laws_FnExactAllCuts.j0 k t4007 t4015 (!t4026) a0_0 l0_1)))) else (some false)))) else (some false))))) = some true := H
  have A8 := aQ A80
  clear A80
  replace H := Option.bind_eq_some_iff.mp H
  obtain ⟨⟨t4010, t4011⟩, A90, H⟩ := H
  replace H : ((impl_AllCuts.f k t4010 t4011).bind fun t4015 => ((laws_eqIntSS.f k t4015 t4007).bind fun t4018 => (if t4018 = true then ((laws_toMatroid.f k a0_0 l0_1).bind fun bt4019 => ((laws_eqMatroid.f k t4010 t4011 bt4019.1 bt4019.2).bind fun t4023 => (if t4023 = true then ((laws_markMatroid.f k t4010 t4011 1).bind fun bt4024 => (if bt4024.1 < 0 then (laws_FnExactAllCuts.j0 k t4007 t4015 true a0_0 l0_1) else ((laws_eqIntSS.f k t4015 t4007).bind fun t4026 => (laws_FnExactAllCuts.j0 k t4007 t4015 (!t4026) a0_0 l0_1)))) else (some false)))) else (some false)))) = some true := H
  have A9 := aQ A90
  clear A90
  replace H := Option.bind_eq_some_iff.mp H
  obtain ⟨t4015, A100, H⟩ := H
  replace H : ((laws_eqIntSS.f k t4015 t4007).bind fun t4018 => (if t4018 = true then ((laws_toMatroid.f k a0_0 l0_1).bind fun bt4019 => ((laws_eqMatroid.f k t4010 t4011 bt4019.1 bt4019.2).bind fun t4023 => (if t4023 = true then ((laws_markMatroid.f k t4010 t4011 1).bind fun bt4024 => (if bt4024.1 < 0 then (laws_FnExactAllCuts.j0 k t4007 t4015 true a0_0 l0_1) else ((laws_eqIntSS.f k t4015 t4007).bind fun t4026 => (laws_FnExactAllCuts.j0 k t4007 t4015 (!t4026) a0_0 l0_1)))) else (some false)))) else (some false))) = some true := H
  have A10 := aQ A100
  clear A100
  replace H := Option.bind_eq_some_iff.mp H
  obtain ⟨t4018, A110, H⟩ := H
  replace H : (if t4018 = true then ((laws_toMatroid.f k a0_0 l0_1).bind fun bt4019 => ((laws_eqMatroid.f k t4010 t4011 bt4019.1 bt4019.2).bind fun t4023 => (if t4023 = true then ((laws_markMatroid.f k t4010 t4011 1).bind fun bt4024 => (if bt4024.1 < 0 then (laws_FnExactAllCuts.j0 k t4007 t4015 true a0_0 l0_1) else ((laws_eqIntSS.f k t4015 t4007).bind fun t4026 => (laws_FnExactAllCuts.j0 k t4007 t4015 (!t4026) a0_0 l0_1)))) else (some false)))) else (some false)) = some true := H
  have A11 := aQ A110
  clear A110
  by_cases c12 : t4018 = true
  ·subst c12
   have H1 : ((laws_toMatroid.f k a0_0 l0_1).bind fun bt4019 => ((laws_eqMatroid.f k t4010 t4011 bt4019.1 bt4019.2).bind fun t4023 => (if t4023 = true then ((laws_markMatroid.f k t4010 t4011 1).bind fun bt4024 => (if bt4024.1 < 0 then (laws_FnExactAllCuts.j0 k t4007 t4015 true a0_0 l0_1) else ((laws_eqIntSS.f k t4015 t4007).bind fun t4026 => (laws_FnExactAllCuts.j0 k t4007 t4015 (!t4026) a0_0 l0_1)))) else (some false)))) = some true := by rw [if_pos rfl] at H; exact H
   clear H
   have H := H1
   clear H1
   replace H := Option.bind_eq_some_iff.mp H
   obtain ⟨⟨t4019, t4020⟩, A130, H⟩ := H
   replace H : ((laws_eqMatroid.f k t4010 t4011 t4019 t4020).bind fun t4023 => (if t4023 = true then ((laws_markMatroid.f k t4010 t4011 1).bind fun bt4024 => (if bt4024.1 < 0 then (laws_FnExactAllCuts.j0 k t4007 t4015 true a0_0 l0_1) else ((laws_eqIntSS.f k t4015 t4007).bind fun t4026 => (laws_FnExactAllCuts.j0 k t4007 t4015 (!t4026) a0_0 l0_1)))) else (some false))) = some true := H
   have A13 := aQ A130
   clear A130
   replace H := Option.bind_eq_some_iff.mp H
   obtain ⟨t4023, A140, H⟩ := H
   replace H : (if t4023 = true then ((laws_markMatroid.f k t4010 t4011 1).bind fun bt4024 => (if bt4024.1 < 0 then (laws_FnExactAllCuts.j0 k t4007 t4015 true a0_0 l0_1) else ((laws_eqIntSS.f k t4015 t4007).bind fun t4026 => (laws_FnExactAllCuts.j0 k t4007 t4015 (!t4026) a0_0 l0_1)))) else (some false)) = some true := H
   have A14 := aQ A140
   clear A140
   by_cases c15 : t4023 = true
   ·subst c15
    have H1 : ((laws_markMatroid.f k t4010 t4011 1).bind fun bt4024 => (if bt4024.1 < 0 then (laws_FnExactAllCuts.j0 k t4007 t4015 true a0_0 l0_1) else ((laws_eqIntSS.f k t4015 t4007).bind fun t4026 => (laws_FnExactAllCuts.j0 k t4007 t4015 (!t4026) a0_0 l0_1)))) = some true := by rw [if_pos rfl] at H; exact H
    clear H
    have H := H1
    clear H1
    replace H := Option.bind_eq_some_iff.mp H
    obtain ⟨⟨t4024, t4025⟩, A160, H⟩ := H
    replace H : (if t4024 < 0 then (laws_FnExactAllCuts.j0 k t4007 t4015 true a0_0 l0_1) else ((laws_eqIntSS.f k t4015 t4007).bind fun t4026 => (laws_FnExactAllCuts.j0 k t4007 t4015 (!t4026) a0_0 l0_1))) = some true := H
    have A16 := aQ A160
    clear A160
    have HC17 := aQ H
    clear H
    go_enter Try.func3, Try.ntmps3
    try go_wp2_with (first | ((with_reducible refine gate_dst (N := 1) rfl ?_); refine box_event ?hg (N := 1) ?hd (cs := #[.int .i64 a0_0, .slice A0_1 l0_1.length c0_1]) (t := 24) ?hr ?_; (case hd => rfl); (case hg => rfl); (case hr => first | (go_simp; done) | (go_simp; rfl)); intro gb4001 hg w18 hbox hb; have BK4001 := aQ (hbox); have GW4001 := aQ ((by rw [hg]; exact (below_size (pB HB.out)) : w.heap.size ≤ gb4001)); have GE4001 := aQ ((by rw [hg]; exact (below_size (pB HB.out)) : w.heap.size ≤ gb4001)); replace HB := aQ (below_step (pB HB.out) hb); clear hb hbox hg; have hcz19_0 := bc (v := (.int .i64 a0_0)) BK4001.out 0; have hcz19_1 := bc (v := (.slice A0_1 l0_1.length c0_1)) BK4001.out 1; have hfz19_0 := blk_frozen BK4001.out 0; have hfz19_1 := blk_frozen BK4001.out 1) | ((with_reducible refine gate_callee (f := 4) rfl ?_); refine goesL_ (some 13) rfl rfl Try.func4 (by kernel_rfl) rfl #[.agg #[.int .i64 a0_0, .slice A0_1 l0_1.length c0_1], .int .i64 1048576] rfl lm ?_; (with_reducible refine (laws_szMatroid.calls a0_0 _ _ l0_1 1048576 t4002 _ ?side1 ?side2 A2.out).mono ?_); (case side1 => exact pC (Kd.C_below HR0_1.out HB.out)); (case side2 => exact HC0_1.out); rintro e w20 ⟨rfl, hb⟩; refine ⟨_, rfl, ?_⟩; replace BK4001 := aQ (blk_below (g := gb4001) (o := .cells #[.int .i64 a0_0, .slice A0_1 l0_1.length c0_1] 24 (0, 0)) (pk BK4001.out) hb); replace HB := aQ (below_step (pB1 HB.out GE4001.out) hb); (try clear hb); have hcz21_0 := bc (v := (.int .i64 a0_0)) BK4001.out 0; have hcz21_1 := bc (v := (.slice A0_1 l0_1.length c0_1)) BK4001.out 1; have hfz21_0 := blk_frozen BK4001.out 0; have hfz21_1 := blk_frozen BK4001.out 1) | ((with_reducible refine gate_callee (f := 6) rfl ?_); refine goesL_ (some 17) rfl rfl Try.func6 (by kernel_rfl) rfl #[.agg #[.int .i64 a0_0, .slice A0_1 l0_1.length c0_1]] rfl lm ?_; (with_reducible refine (laws_toMatroid.calls k a0_0 _ _ l0_1 t4003 t4004 _ ?side1 ?side2 A7.out).mono ?_); (case side1 => exact pC (Kd.C_below HR0_1.out HB.out)); (case side2 => exact HC0_1.out); rintro e w22 ⟨v4005, rfl, ho0, hb⟩; refine ⟨_, rfl, ?_⟩; have HO4006 := aQ (Kd.R_lower ho0 (below_size (pB1 HB.out GE4001.out))); replace BK4001 := aQ (blk_below (g := gb4001) (o := .cells #[.int .i64 a0_0, .slice A0_1 l0_1.length c0_1] 24 (0, 0)) (pk BK4001.out) hb); replace HB := aQ (below_step (pB1 HB.out GE4001.out) hb); (try clear hb); (try clear ho0); obtain ⟨Ao23, co23, eo23⟩ := Kd.R_slice HO4006.out; subst eo23) | ((with_reducible refine gate_callee (f := 5) rfl ?_); refine goesL_ (some 18) rfl rfl Try.func5 (by kernel_rfl) rfl #[.agg #[.int .i64 t4003, .slice Ao23 t4004.length co23]] rfl lm ?_; (with_reducible refine (spec_AllCuts.calls k t4003 _ _ t4004 t4007 _ ?side1 ?side2 A8.out).mono ?_); (case side1 => repeat (first | exact (Kd.R_reads' HO4006.out).2.2 | (with_reducible refine Kd.C_alloc ?_ _) | (with_reducible refine Kd.C_drewN ?_ _) | (with_reducible refine Kd.C_drew ?_))); (case side2 => exact (Kd.R_reads' HO4006.out).2.1); rintro e w24 ⟨v4008, rfl, ho0, hb⟩; refine ⟨_, rfl, ?_⟩; have HO4009 := aQ (Kd.S_lower (Kd.S_new' ho0 (Kd.R_lt (pR HO4006.out))) (below_size (pB1 HB.out GE4001.out))); replace HO4006 := aQ (Kd.R_below (pR HO4006.out) hb); replace BK4001 := aQ (blk_below (g := gb4001) (o := .cells #[.int .i64 a0_0, .slice A0_1 l0_1.length c0_1] 24 (0, 0)) (pk BK4001.out) hb); replace HB := aQ (below_step (pB1 HB.out GE4001.out) hb); (try clear hb); (try clear ho0); have hcz25_0 := bc (v := (.int .i64 a0_0)) BK4001.out 0; have hcz25_1 := bc (v := (.slice A0_1 l0_1.length c0_1)) BK4001.out 1; have hfz25_0 := blk_frozen BK4001.out 0; have hfz25_1 := blk_frozen BK4001.out 1) | ((with_reducible refine gate_callee (f := 6) rfl ?_); refine goesL_ (some 20) rfl rfl Try.func6 (by kernel_rfl) rfl #[.agg #[.int .i64 a0_0, .slice A0_1 l0_1.length c0_1]] rfl lm ?_; (with_reducible refine (laws_toMatroid.calls k a0_0 _ _ l0_1 t4010 t4011 _ ?side1 ?side2 A9.out).mono ?_); (case side1 => exact pC (Kd.C_below HR0_1.out HB.out)); (case side2 => exact HC0_1.out); rintro e w26 ⟨v4012, rfl, ho0, hb⟩; refine ⟨_, rfl, ?_⟩; replace HO4009 := aQ (Kd.S_elder' (by (with_reducible repeat (first | apply Kd.S_alloc | apply Kd.S_drewN | apply Kd.S_drew)); exact HO4009.out) (Kd.R_base ho0) hb); have HO4013 := aQ (Kd.R_lower (Kd.R_new' ho0 (Kd.R_lt (pR HO4006.out))) (below_size (pB1 HB.out GE4001.out))); replace HO4006 := aQ (Kd.R_elder' (pR HO4006.out) (Kd.R_base ho0) hb); replace BK4001 := aQ (blk_below (g := gb4001) (o := .cells #[.int .i64 a0_0, .slice A0_1 l0_1.length c0_1] 24 (0, 0)) (pk BK4001.out) hb); replace HB := aQ (below_step (pB1 HB.out GE4001.out) hb); (try clear hb); (try clear ho0)) | ((with_reducible refine gate_dst (N := 5) rfl ?_); refine box_event ?hg (N := 5) ?hd (cs := #[.int .i64 0, .slice none 0 0]) (t := 28) ?hr ?_; (case hd => rfl); (case hg => rfl); (case hr => first | (go_simp; done) | (go_simp; rfl)); intro gb4014 hg w27 hbox hb; replace HO4006 := aQ (Kd.R_below (pR HO4006.out) hb); replace HO4009 := aQ (Kd.S_below (by (with_reducible repeat (first | apply Kd.S_alloc | apply Kd.S_drewN | apply Kd.S_drew)); exact HO4009.out) hb); replace HO4013 := aQ (Kd.R_below (pR HO4013.out) hb); have BK4014 := aQ (hbox); have GW4014 := aQ ((by rw [hg]; exact (below_size (pB1 HB.out GE4001.out)) : w.heap.size ≤ gb4014)); have GE4014 := aQ ((by rw [hg]; exact (below_size (pB1 HB.out GE4001.out)) : w.heap.size ≤ gb4014)); replace HB := aQ (below_step (pB1 HB.out GE4001.out) hb); have NB4001_4014 := aQ ((by rw [hg]; exact Nat.ne_of_lt (blk_lt (g := gb4001) (o := .cells #[.int .i64 a0_0, .slice A0_1 l0_1.length c0_1] 24 (0, 0)) (pk BK4001.out)) : gb4001 ≠ gb4014)); have NB4014_4001 := aQ ((by rw [hg]; exact Nat.ne_of_gt (blk_lt (g := gb4001) (o := .cells #[.int .i64 a0_0, .slice A0_1 l0_1.length c0_1] 24 (0, 0)) (pk BK4001.out)) : gb4014 ≠ gb4001)); replace BK4001 := aQ (blk_below (g := gb4001) (o := .cells #[.int .i64 a0_0, .slice A0_1 l0_1.length c0_1] 24 (0, 0)) (pk BK4001.out) hb); clear hb hbox hg; have hnb28 := NB4014_4001.out; have hnc28 := NB4001_4014.out; have hcz29_0 := bc (v := (.int .i64 0)) BK4014.out 0; have hcz29_1 := bc (v := (.slice none 0 0)) BK4014.out 1; have hfz29_0 := blk_frozen BK4014.out 0; have hfz29_1 := blk_frozen BK4014.out 1; obtain ⟨Ao30, co30, eo30⟩ := Kd.R_slice HO4013.out; subst eo30) | ((with_reducible refine gate_callee (f := 7) rfl ?_); refine goesL_ (some 22) rfl rfl Try.func7 (by kernel_rfl) rfl #[.agg #[.int .i64 t4010, .slice Ao30 t4011.length co30]] rfl lm ?_; (with_reducible refine (impl_AllCuts.calls k t4010 _ _ t4011 t4015 _ ?side1 ?side2 A10.out).mono ?_); (case side1 => refine (Kd.R_reads' (e := 3) (base := w.heap.size) (ok := fun k_ => (True ∧ some k_ ≠ (.slice Ao23 t4004.length co23 : Value).ownBlock)) (n := t4011.length) (c := co30) ?_).2.2; exact (by (with_reducible repeat (first | apply Kd.R_alloc | apply Kd.R_drewN | apply Kd.R_drew)); exact (Kd.R_mono (Kd.R_far (p := ⟨gb4014, 1, none⟩) (Kd.R_far (p := ⟨gb4014, 0, none⟩) (Kd.R_types HO4013.out BK4014.out (by decide)) (fun _ hk => hk.2) (.int .i64 t4010)) (fun _ hk => hk.2) (.slice Ao30 t4011.length co30)) (fun _ h_ => h_.1)))); (case side2 => exact (Kd.R_reads' HO4013.out).2.1); rintro e w31 ⟨v4016, rfl, ho0, hb⟩; refine ⟨_, rfl, ?_⟩; obtain ⟨Mk, hMk⟩ := S_size ho0; have HO4017 := aQ (Kd.S_lower (Kd.S_new' (Kd.S_new' (Kd.S_new' (S_over hMk ho0) (Kd.R_lt (by (with_reducible repeat (first | apply Kd.R_alloc | apply Kd.R_drewN | apply Kd.R_drew)); exact (Kd.R_mono (Kd.R_far (p := ⟨gb4014, 1, none⟩) (Kd.R_far (p := ⟨gb4014, 0, none⟩) (Kd.R_types HO4006.out BK4014.out (by decide)) (fun _ hk => hk.2) (.int .i64 t4010)) (fun _ hk => hk.2) (.slice Ao30 t4011.length co30)) (fun _ h_ => h_.1))))) (Kd.S_lt (by (with_reducible repeat (first | apply Kd.S_alloc | apply Kd.S_drewN | apply Kd.S_drew)); exact (Kd.S_mono (Kd.S_far (p := ⟨gb4014, 1, none⟩) (Kd.S_far (p := ⟨gb4014, 0, none⟩) (Kd.S_types HO4009.out BK4014.out (by decide)) (fun _ hk => hk.2) (.int .i64 t4010)) (fun _ hk => hk.2) (.slice Ao30 t4011.length co30)) (fun _ h_ => h_.1))))) (Kd.R_lt (by (with_reducible repeat (first | apply Kd.R_alloc | apply Kd.R_drewN | apply Kd.R_drew)); exact (Kd.R_mono (Kd.R_far (p := ⟨gb4014, 1, none⟩) (Kd.R_far (p := ⟨gb4014, 0, none⟩) (Kd.R_types HO4013.out BK4014.out (by decide)) (fun _ hk => hk.2) (.int .i64 t4010)) (fun _ hk => hk.2) (.slice Ao30 t4011.length co30)) (fun _ h_ => h_.1))))) (below_size (pB2 HB.out GE4001.out GE4014.out))); replace HO4006 := aQ (Kd.R_below (by (with_reducible repeat (first | apply Kd.R_alloc | apply Kd.R_drewN | apply Kd.R_drew)); exact (Kd.R_mono (Kd.R_far (p := ⟨gb4014, 1, none⟩) (Kd.R_far (p := ⟨gb4014, 0, none⟩) (Kd.R_types HO4006.out BK4014.out (by decide)) (fun _ hk => hk.2) (.int .i64 t4010)) (fun _ hk => hk.2) (.slice Ao30 t4011.length co30)) (fun _ h_ => h_.1))) hb); replace HO4009 := aQ (Kd.S_elder' (S_under hMk (by (with_reducible repeat (first | apply Kd.S_alloc | apply Kd.S_drewN | apply Kd.S_drew)); exact (Kd.S_mono (Kd.S_far (p := ⟨gb4014, 1, none⟩) (Kd.S_far (p := ⟨gb4014, 0, none⟩) (Kd.S_types HO4009.out BK4014.out (by decide)) (fun _ hk => hk.2) (.int .i64 t4010)) (fun _ hk => hk.2) (.slice Ao30 t4011.length co30)) (fun _ h_ => h_.1)))) (Kd.S_base ho0) hb); replace HO4013 := aQ (Kd.R_below (by (with_reducible repeat (first | apply Kd.R_alloc | apply Kd.R_drewN | apply Kd.R_drew)); exact (Kd.R_mono (Kd.R_far (p := ⟨gb4014, 1, none⟩) (Kd.R_far (p := ⟨gb4014, 0, none⟩) (Kd.R_types HO4013.out BK4014.out (by decide)) (fun _ hk => hk.2) (.int .i64 t4010)) (fun _ hk => hk.2) (.slice Ao30 t4011.length co30)) (fun _ h_ => h_.1))) hb); replace BK4001 := aQ (blk_below (g := gb4001) (o := .cells #[.int .i64 a0_0, .slice A0_1 l0_1.length c0_1] 24 (0, 0)) (by (with_reducible repeat (first | refine blk_drewN ?_ _ | refine blk_drew ?_ | refine blk_alloc ?_ _)); refine blk_far ?_ NB4001_4014.out _; (with_reducible repeat (first | refine blk_drewN ?_ _ | refine blk_drew ?_ | refine blk_alloc ?_ _)); refine blk_far ?_ NB4001_4014.out _; (with_reducible repeat (first | refine blk_drewN ?_ _ | refine blk_drew ?_ | refine blk_alloc ?_ _)); exact BK4001.out) hb); replace BK4014 := aQ (blk_below (g := gb4014) (o := .cells #[.int .i64 t4010, .slice Ao30 t4011.length co30] 28 (0, 0)) (by (with_reducible repeat (first | refine blk_drewN ?_ _ | refine blk_drew ?_ | refine blk_alloc ?_ _)); refine blk_put (cs := #[.int .i64 t4010, .slice none 0 0]) ?_ 1 _ rfl; (with_reducible repeat (first | refine blk_drewN ?_ _ | refine blk_drew ?_ | refine blk_alloc ?_ _)); refine blk_put (cs := #[.int .i64 0, .slice none 0 0]) ?_ 0 _ rfl; (with_reducible repeat (first | refine blk_drewN ?_ _ | refine blk_drew ?_ | refine blk_alloc ?_ _)); exact BK4014.out) hb); replace HB := aQ (below_step (pB2 HB.out GE4001.out GE4014.out) hb); clear hMk; (try clear hb); (try clear hk); (try clear ho0); obtain ⟨Ao32, co32, eo32⟩ := Kd.S_slice HO4017.out; subst eo32; obtain ⟨Ao33, co33, eo33⟩ := Kd.S_slice HO4009.out; subst eo33) | ((with_reducible refine gate_callee (f := 8) rfl ?_); refine goesL_ (some 25) rfl rfl Try.func8 (by kernel_rfl) rfl #[.slice Ao32 t4015.length co32, .slice Ao33 t4007.length co33] rfl lm ?_; (with_reducible refine (laws_eqIntSS.calls k _ _ t4015 _ _ t4007 true _ ?side1 ?side2 ?side3 ?side4 A11.out).mono ?_); (case side1 => repeat (first | exact (Kd.S_reads' HO4017.out).2.2 | (with_reducible refine Kd.C_alloc ?_ _) | (with_reducible refine Kd.C_drewN ?_ _) | (with_reducible refine Kd.C_drew ?_))); (case side2 => exact (Kd.S_reads' HO4017.out).2.1); (case side3 => repeat (first | exact (Kd.S_reads' HO4009.out).2.2 | (with_reducible refine Kd.C_alloc ?_ _) | (with_reducible refine Kd.C_drewN ?_ _) | (with_reducible refine Kd.C_drew ?_))); (case side4 => exact (Kd.S_reads' HO4009.out).2.1); rintro e w' ⟨rfl, ⟨nd, rfl⟩⟩; refine ⟨_, rfl, ?_⟩))
    (try (rw [drewN_self w31]; generalize hq_ : World.drewN w31 _ = w31; have n0_ : Aside0 (Kd.R (Kd.int .i64) 3 w31 w.heap.size (fun k_ => True ∧ some k_ ≠ (.slice Ao30 t4011.length co30 : Value).ownBlock) (.slice Ao23 t4004.length co23) t4004) := ⟨by rw [← hq_]; exact (pR HO4006.out)⟩; have n1_ : Aside0 (Kd.S (Kd.slice 3 (Kd.int .i64)) 22 w31 w.heap.size (fun k_ => ((k_ < Mk ∧ some k_ ≠ (.slice Ao23 t4004.length co23 : Value).ownBlock) ∧ some k_ ≠ (.slice Ao30 t4011.length co30 : Value).ownBlock) ∧ some k_ ≠ (.slice Ao32 t4015.length co32 : Value).ownBlock) (.slice Ao33 t4007.length co33) t4007) := ⟨by rw [← hq_]; exact (by (with_reducible repeat (first | apply Kd.S_alloc | apply Kd.S_drewN | apply Kd.S_drew)); exact HO4009.out)⟩; have n2_ : Aside0 (Kd.R (Kd.int .i64) 3 w31 w.heap.size (fun k_ => True ∧ some k_ ≠ (.slice Ao23 t4004.length co23 : Value).ownBlock) (.slice Ao30 t4011.length co30) t4011) := ⟨by rw [← hq_]; exact (pR HO4013.out)⟩; have n3_ : Aside0 (Kd.S (Kd.slice 3 (Kd.int .i64)) 22 w31 w.heap.size (fun k_ => ((Mk ≤ k_ ∧ some k_ ≠ (.slice Ao23 t4004.length co23 : Value).ownBlock) ∧ some k_ ≠ (.slice Ao33 t4007.length co33 : Value).ownBlock) ∧ some k_ ≠ (.slice Ao30 t4011.length co30 : Value).ownBlock) (.slice Ao32 t4015.length co32) t4015) := ⟨by rw [← hq_]; exact (by (with_reducible repeat (first | apply Kd.S_alloc | apply Kd.S_drewN | apply Kd.S_drew)); exact HO4017.out)⟩; have n4_ : Aside0 (w31.heap[gb4001]? = some (.cells #[.int .i64 a0_0, .slice A0_1 l0_1.length c0_1] 24 (0, 0))) := ⟨by rw [← hq_]; exact (pk BK4001.out)⟩; have n5_ : Aside0 (w31.heap[gb4014]? = some (.cells #[.int .i64 t4010, .slice Ao30 t4011.length co30] 28 (0, 0))) := ⟨by rw [← hq_]; exact (pk BK4014.out)⟩; have n6_ : Aside0 (Below w.heap.size w w31) := ⟨by rw [← hq_]; exact (pB2 HB.out GE4001.out GE4014.out)⟩; clear HO4006 HO4009 HO4013 HO4017 BK4001 BK4014 HB hq_; have HO4006 := n0_; have HO4009 := n1_; have HO4013 := n2_; have HO4017 := n3_; have BK4001 := n4_; have BK4014 := n5_; have HB := n6_; clear n0_ n1_ n2_ n3_ n4_ n5_ n6_))
    have n0_ := aQ (Kd.R_drew HO4006.out)
    have n1_ := aQ (Kd.S_drew HO4009.out)
    have n2_ := aQ (Kd.R_drew HO4013.out)
    have n3_ := aQ (Kd.S_drew HO4017.out)
    have n4_ := aQ (blk_drew BK4001.out)
    have n5_ := aQ (blk_drew BK4014.out)
    have n6_ := aQ (below_drew1 HB.out)
    clear HO4006
    clear HO4009
    clear HO4013
    clear HO4017
    clear BK4001
    clear BK4014
    clear HB
    have HO4006 := n0_
    have HO4009 := n1_
    have HO4013 := n2_
    have HO4017 := n3_
    have BK4001 := n4_
    have BK4014 := n5_
    have HB := n6_
    clear n0_ n1_ n2_ n3_ n4_ n5_ n6_
    refine start_ (n := 5) (S := fun w' => w'.cell? ⟨gb4014, 0, none⟩ = some (.int .i64 t4010) ∧ w'.cell? ⟨gb4014, 1, none⟩ = some (.slice Ao30 t4011.length co30) ∧ w'.cell? ⟨gb4001, 0, none⟩ = some (.int .i64 a0_0) ∧ w'.cell? ⟨gb4001, 1, none⟩ = some (.slice A0_1 l0_1.length c0_1)) (ds := []) #[false, false, false, false, false] (by kernel_rfl) rfl rfl ⟨(blk_cell BK4014.out 0).trans rfl, (blk_cell BK4014.out 1).trans rfl, (blk_cell BK4001.out 0).trans rfl, (blk_cell BK4001.out 1).trans rfl⟩ (fun hHeld => ?_)
    generalize w31.drew = w34 at HO4006 HO4009 HO4013 HO4017 BK4001 BK4014 HB hHeld ⊢
    refine take_ (i := 0) (N := some 27) (v := ?_) (a' := ?_) #[true, false, false, false, false] rfl rfl (by kernel_rfl) (fun _ _ _ h => h) (Or.inl ⟨by rfl, ?_⟩) hHeld ?_ ?_
    rotate_left
    ·rintro w' ⟨s0, s1, s2, s3⟩
     go_simp
     with_reducible rfl
    rotate_left
    ·simp only [Act.put, List.setIfInBounds_toArray, List.set_cons_zero, List.set_cons_succ, i64_w, i32_w]
     rfl
    refine take_ (i := 1) (N := some 28) (v := ?_) (a' := ?_) #[true, true, false, false, false] rfl rfl (by kernel_rfl) (fun _ _ _ h => h) (Or.inl ⟨by rfl, ?_⟩) hHeld ?_ ?_
    rotate_left
    ·rintro w' ⟨s0, s1, s2, s3⟩
     go_simp
     with_reducible rfl
    rotate_left
    ·simp only [Act.put, List.setIfInBounds_toArray, List.set_cons_zero, List.set_cons_succ, i64_w, i32_w]
     rfl
    refine one_ (i := 2) (N := some 29) #[true, true, true, false, false] rfl rfl (by kernel_rfl) (by decide) (fun K hK => ?_)
    refine goes_ Try.func6 (by kernel_rfl) rfl #[.agg #[.int .i64 a0_0, .slice A0_1 l0_1.length c0_1]] (by rfl) rfl rfl lm ?_
    with_reducible refine (laws_toMatroid.calls k a0_0 _ _ l0_1 t4019 t4020 _ ?side1 ?side2 A13.out).mono ?_
    (case side1 => exact pC (Kd.C_below HR0_1.out HB.out))
    (case side2 => exact HC0_1.out)
    rintro e w35 ⟨v4021, rfl, ho0, hb⟩
    refine ⟨_, rfl, ?_⟩
    have n0_ := aQ (Kd.R_elder' (pR HO4006.out) (Kd.R_base ho0) hb)
    have n1_ := aQ (Kd.S_elder' (by (with_reducible repeat (first | apply Kd.S_alloc | apply Kd.S_drewN | apply Kd.S_drew)); exact HO4009.out) (Kd.R_base ho0) hb)
    have n2_ := aQ (Kd.R_elder' (pR HO4013.out) (Kd.R_base ho0) hb)
    have n3_ := aQ (Kd.S_elder' (by (with_reducible repeat (first | apply Kd.S_alloc | apply Kd.S_drewN | apply Kd.S_drew)); exact HO4017.out) (Kd.R_base ho0) hb)
    have n4_ := aQ (Kd.R_lower (Kd.R_new' (Kd.R_new' ho0 (Kd.R_lt (pR HO4006.out))) (Kd.R_lt (pR HO4013.out))) (below_size (pB2 HB.out GE4001.out GE4014.out)))
    have n5_ := aQ (blk_below (g := gb4001) (o := .cells #[.int .i64 a0_0, .slice A0_1 l0_1.length c0_1] 24 (0, 0)) (pk BK4001.out) hb)
    have n6_ := aQ (blk_below (g := gb4014) (o := .cells #[.int .i64 t4010, .slice Ao30 t4011.length co30] 28 (0, 0)) (pk BK4014.out) hb)
    have n7_ := aQ (below_step (pB2 HB.out GE4001.out GE4014.out) hb)
    clear HO4006
    clear HO4009
    clear HO4013
    clear HO4017
    clear BK4001
    clear BK4014
    clear HB
    have HO4006 := n0_
    have HO4009 := n1_
    have HO4013 := n2_
    have HO4017 := n3_
    have HO4022 := n4_
    have BK4001 := n5_
    have BK4014 := n6_
    have HB := n7_
    clear n0_ n1_ n2_ n3_ n4_ n5_ n6_ n7_
    (try clear hb)
    (try clear hb2)
    (try clear hk)
    (try clear hi)
    (try clear ho0)
    obtain ⟨Ao36, co36, eo36⟩ := Kd.R_slice HO4022.out
    (first | subst eo36 | (injection eo36 with f1_ f2_ f3_; have f4_ := f1_.symm; have f5_ := f3_.symm; clear f1_ f2_ f3_; subst f4_; subst f5_))
    refine hK.out _ _ ⟨(blk_cell BK4014.out 0).trans rfl, (blk_cell BK4014.out 1).trans rfl, (blk_cell BK4001.out 0).trans rfl, (blk_cell BK4001.out 1).trans rfl⟩ (fun hHeld => ?_)
    clear hK K
    refine norm_ (a' := ?_) ?_ ?_
    rotate_left
    ·show Act.put _ (some 29) _ = _
     simp only [Act.put, List.setIfInBounds_toArray, List.set_cons_zero, List.set_cons_succ, i64_w, i32_w]
     rfl
    refine one_ (i := 3) (N := some 30) #[true, true, true, true, false] rfl rfl (by kernel_rfl) (by decide) (fun K hK => ?_)
    refine goes_ Try.func9 (by kernel_rfl) rfl #[.agg #[.int .i64 t4010, .slice Ao30 t4011.length co30], .agg #[.int .i64 t4019, .slice Ao36 t4020.length co36]] (by rfl) rfl rfl lm ?_
    with_reducible refine (laws_eqMatroid.calls k t4010 _ _ t4011 t4019 _ _ t4020 true _ ?side1 ?side2 ?side3 ?side4 A14.out).mono ?_
    (case side1 => repeat (first | exact (Kd.R_reads' HO4013.out).2.2 | (with_reducible refine Kd.C_alloc ?_ _) | (with_reducible refine Kd.C_drewN ?_ _) | (with_reducible refine Kd.C_drew ?_)))
    (case side2 => exact (Kd.R_reads' HO4013.out).2.1)
    (case side3 => repeat (first | exact (Kd.R_reads' HO4022.out).2.2 | (with_reducible refine Kd.C_alloc ?_ _) | (with_reducible refine Kd.C_drewN ?_ _) | (with_reducible refine Kd.C_drew ?_)))
    (case side4 => exact (Kd.R_reads' HO4022.out).2.1)
    rintro e w37 ⟨rfl, hb⟩
    refine ⟨_, rfl, ?_⟩
    have n0_ := aQ (Kd.R_below (pR HO4006.out) hb)
    have n1_ := aQ (Kd.S_below (by (with_reducible repeat (first | apply Kd.S_alloc | apply Kd.S_drewN | apply Kd.S_drew)); exact HO4009.out) hb)
    have n2_ := aQ (Kd.R_below (pR HO4013.out) hb)
    have n3_ := aQ (Kd.S_below (by (with_reducible repeat (first | apply Kd.S_alloc | apply Kd.S_drewN | apply Kd.S_drew)); exact HO4017.out) hb)
    have n4_ := aQ (Kd.R_below (pR HO4022.out) hb)
    have n5_ := aQ (blk_below (g := gb4001) (o := .cells #[.int .i64 a0_0, .slice A0_1 l0_1.length c0_1] 24 (0, 0)) (pk BK4001.out) hb)
    have n6_ := aQ (blk_below (g := gb4014) (o := .cells #[.int .i64 t4010, .slice Ao30 t4011.length co30] 28 (0, 0)) (pk BK4014.out) hb)
    have n7_ := aQ (below_step (pB2 HB.out GE4001.out GE4014.out) hb)
    clear HO4006
    clear HO4009
    clear HO4013
    clear HO4017
    clear HO4022
    clear BK4001
    clear BK4014
    clear HB
    have HO4006 := n0_
    have HO4009 := n1_
    have HO4013 := n2_
    have HO4017 := n3_
    have HO4022 := n4_
    have BK4001 := n5_
    have BK4014 := n6_
    have HB := n7_
    clear n0_ n1_ n2_ n3_ n4_ n5_ n6_ n7_
    (try clear hb)
    (try clear hb2)
    (try clear hk)
    (try clear hi)
    refine hK.out _ _ ⟨(blk_cell BK4014.out 0).trans rfl, (blk_cell BK4014.out 1).trans rfl, (blk_cell BK4001.out 0).trans rfl, (blk_cell BK4001.out 1).trans rfl⟩ (fun hHeld => ?_)
    clear hK K
    refine norm_ (a' := ?_) ?_ ?_
    rotate_left
    ·show Act.put _ (some 30) _ = _
     simp only [Act.put, List.setIfInBounds_toArray, List.set_cons_zero, List.set_cons_succ, i64_w, i32_w]
     rfl
    refine pure_ (i := 4) (N := some 31) (v := ?_) (a' := ?_) #[true, true, true, true, true] rfl rfl (by kernel_rfl) (fun _ _ _ h => h) (Or.inl ⟨by rfl, ?_⟩) ?_ ?_
    rotate_left
    ·intro w'
     go_simp
     with_reducible rfl
    rotate_left
    ·simp only [Act.put, List.setIfInBounds_toArray, List.set_cons_zero, List.set_cons_succ, i64_w, i32_w]
     rfl
    refine done_ (by kernel_rfl) ?_
    have hcz38_0 := bc (v := (.int .i64 t4010)) BK4014.out 0
    have hcz38_1 := bc (v := (.slice Ao30 t4011.length co30)) BK4014.out 1
    have hfz38_0 := blk_frozen BK4014.out 0
    have hfz38_1 := blk_frozen BK4014.out 1
    go_upto_region 14 with (first | ((with_reducible refine gate_callee (f := 10) rfl ?_); refine goesL_ (some 34) rfl rfl Try.func10 (by kernel_rfl) rfl #[.agg #[.int .i64 t4010, .slice Ao30 t4011.length co30], .int .i64 1] rfl lm ?_; (with_reducible refine (laws_markMatroid.calls k t4010 (fun k_ => some k_ = (.slice Ao30 t4011.length co30 : Value).ownBlock) (.slice Ao30 t4011.length co30) t4011 1 t4024 t4025 w _ ?side1 ?side2 A16.out).mono ?_); (case side1 => repeat (first | (with_reducible first | exact HB.out | apply below_alloc | apply pw_below_drewN | apply below_drew1 | refine below_set ?_ GE4001.out | refine below_set ?_ GE4014.out) | exact HB.out)); (case side2 => exact Kd.R_tight rfl HO4013.out); rintro e w39 ⟨rfl, hy0, hb, hkp⟩; refine ⟨_, rfl, ?_⟩; replace BK4001 := aQ (blk_kept (pk BK4001.out) hkp (fun hs_ => (fun e_ => (Kd.R_ne HO4013.out BK4001.out (by decide)) e_) hs_)); replace HO4006 := aQ (Kd.R_mono (ok' := fun k_ => some k_ ≠ (.slice Ao30 t4011.length co30 : Value).ownBlock ∧ some k_ ≠ (.slice Ao36 t4020.length co36 : Value).ownBlock) (Kd.R_keptB (HO4006.out) hkp (fun k_ hk_ hs_ => (hk_.1.2) hs_)) (fun k_ hk_ => ⟨hk_.1.1.2, hk_.1.2⟩)); replace HO4009 := aQ (Kd.S_mono (ok' := fun k_ => k_ < Mk ∧ some k_ ≠ (.slice Ao23 t4004.length co23 : Value).ownBlock ∧ some k_ ≠ (.slice Ao30 t4011.length co30 : Value).ownBlock ∧ some k_ ≠ (.slice Ao32 t4015.length co32 : Value).ownBlock ∧ some k_ ≠ (.slice Ao36 t4020.length co36 : Value).ownBlock) (Kd.S_keptB (HO4009.out) hkp (fun k_ hk_ hs_ => (hk_.1.1.2) hs_)) (fun k_ hk_ => ⟨hk_.1.1.1.1.1, hk_.1.1.1.1.2, hk_.1.1.1.2, hk_.1.1.2, hk_.1.2⟩)); replace BK4014 := aQ (blk_kept (pk BK4014.out) hkp (fun hs_ => (fun e_ => (Kd.R_ne HO4013.out BK4014.out (by decide)) e_) hs_)); replace HO4013 := aQ (Kd.R_reok rfl hy0 (fun k_ e_ => HO4013.out.1 k_ e_)); replace HO4017 := aQ (Kd.S_mono (ok' := fun k_ => Mk ≤ k_ ∧ some k_ ≠ (.slice Ao23 t4004.length co23 : Value).ownBlock ∧ some k_ ≠ (.slice Ao33 t4007.length co33 : Value).ownBlock ∧ some k_ ≠ (.slice Ao30 t4011.length co30 : Value).ownBlock ∧ some k_ ≠ (.slice Ao36 t4020.length co36 : Value).ownBlock) (Kd.S_keptB (HO4017.out) hkp (fun k_ hk_ hs_ => (hk_.1.2) hs_)) (fun k_ hk_ => ⟨hk_.1.1.1.1.1, hk_.1.1.1.1.2, hk_.1.1.1.2, hk_.1.1.2, hk_.1.2⟩)); replace HO4022 := aQ (Kd.R_mono (ok' := fun k_ => some k_ ≠ (.slice Ao23 t4004.length co23 : Value).ownBlock ∧ some k_ ≠ (.slice Ao30 t4011.length co30 : Value).ownBlock) (Kd.R_keptB (HO4022.out) hkp (fun k_ hk_ hs_ => (hk_.2) hs_)) (fun k_ hk_ => ⟨hk_.1.1.2, hk_.1.2⟩)); replace HB := aQ (hb); (try clear hb); (try clear hkp); (try clear hy0)))
    (try simp only [Act.put, List.setIfInBounds_toArray, List.set_cons_zero, List.set_cons_succ])
    go_cut [42] (fun v42 wc => ∃ (kq : Nat) (x42_16 : Bool), v42 = .bool x42_16 ∧ Aside0 (laws_FnExactAllCuts.j0 kq t4007 t4015 x42_16 a0_0 l0_1 = some true) ∧ Aside0 (kq ≤ k) ∧ Aside0 (Kd.S (Kd.slice 3 (Kd.int .i64)) 22 wc w.heap.size (fun k_ => k_ < Mk ∧ some k_ ≠ ((.slice Ao32 t4015.length co32) : Value).ownBlock ∧ some k_ ≠ ((.slice Ao30 t4011.length co30) : Value).ownBlock) (.slice Ao33 t4007.length co33) t4007) ∧ Aside0 (Kd.S (Kd.slice 3 (Kd.int .i64)) 22 wc w.heap.size (fun k_ => Mk ≤ k_ ∧ some k_ ≠ ((.slice Ao33 t4007.length co33) : Value).ownBlock ∧ some k_ ≠ ((.slice Ao30 t4011.length co30) : Value).ownBlock) (.slice Ao32 t4015.length co32) t4015) ∧ Aside0 (Kd.R (Kd.int .i64) 3 wc w.heap.size (fun _ => True) (.slice Ao30 t4011.length co30) t4025) ∧ Aside0 (wc.heap[gb4001]? = some (.cells #[.int .i64 a0_0, (.slice A0_1 l0_1.length c0_1)] 24 (0, 0))) ∧ Aside0 (wc.heap[gb4014]? = some (.cells #[.int .i64 t4010, (.slice Ao30 t4011.length co30)] 28 (0, 0))) ∧ Aside0 (Below w.heap.size w wc))
    case first =>
     have H := HC17.out
     clear HC17
     by_cases c40 : t4024 < 0
     ·rw [if_pos c40] at H
      have c40b0 : decide (t4024 < 0) = true := decide_eq_true c40
      clear c40
      (first | rw [c40b0] | (simp only [i64_w, i32_w]; rw [c40b0]) | skip)
      exact absurd H (by cases k <;> simp [laws_FnExactAllCuts.j0])
     ·rw [if_neg c40] at H
      have c40b0 : decide (t4024 < 0) = false := decide_eq_false c40
      clear c40
      (first | rw [c40b0] | (simp only [i64_w, i32_w]; rw [c40b0]) | skip)
      replace H := Option.bind_eq_some_iff.mp H
      obtain ⟨t4026, A410, H⟩ := H
      replace H : (laws_FnExactAllCuts.j0 k t4007 t4015 (!t4026) a0_0 l0_1) = some true := H
      have A41 := aQ A410
      clear A410
      have H' := aQ H
      clear H
      go_wp2_with (first | (go_at_call 8; (with_reducible refine (laws_eqIntSS.calls k _ _ t4015 _ _ t4007 t4026 _ ?side1 ?side2 ?side3 ?side4 A41.out).mono ?_); (case side1 => repeat (first | exact (Kd.S_reads' HO4017.out).2.2 | (with_reducible refine Kd.C_alloc ?_ _) | (with_reducible refine Kd.C_drewN ?_ _) | (with_reducible refine Kd.C_drew ?_))); (case side2 => exact (Kd.S_reads' HO4017.out).2.1); (case side3 => repeat (first | exact (Kd.S_reads' HO4009.out).2.2 | (with_reducible refine Kd.C_alloc ?_ _) | (with_reducible refine Kd.C_drewN ?_ _) | (with_reducible refine Kd.C_drew ?_))); (case side4 => exact (Kd.S_reads' HO4009.out).2.1); rintro e w' ⟨rfl, ⟨nd, rfl⟩⟩))
      go_meet
      case rel => exact ⟨_, (!t4026), rs_, H', ⟨by first | omega | exact Nat.le_refl _⟩, ⟨by (with_reducible repeat (first | apply Kd.S_alloc | apply Kd.S_drewN | apply Kd.S_drew)); exact Kd.S_mono HO4009.out (fun _ hk => ⟨hk.1, hk.2.2.2.1, hk.2.2.1⟩)⟩, ⟨by (with_reducible repeat (first | apply Kd.S_alloc | apply Kd.S_drewN | apply Kd.S_drew)); exact Kd.S_mono HO4017.out (fun _ hk => ⟨hk.1, hk.2.2.1, hk.2.2.2.1⟩)⟩, ⟨by (with_reducible repeat (first | apply Kd.R_alloc | apply Kd.R_drewN | apply Kd.R_drew)); exact Kd.R_mono HO4013.out (fun _ hk => trivial)⟩, ⟨pk BK4001.out⟩, ⟨pk BK4014.out⟩, ⟨pB2 HB.out GE4001.out GE4014.out⟩⟩
    case rest =>
     clear HC17
     try clear c1
     try clear c2
     try clear p2
     try clear c3
     try clear c3b0
     try clear c4
     try clear c5
     try clear c6
     try clear c7
     try clear c8
     try clear c9
     try clear c10
     try clear c12
     try clear c15
     try clear c28
     try clear c40
     try clear c40b0
     try clear hcz19_0
     try clear hcz19_1
     try clear hcz21_0
     try clear hcz21_1
     try clear hcz25_0
     try clear hcz25_1
     try clear hcz29_0
     try clear hcz29_1
     try clear hcz38_0
     try clear hcz38_1
     try clear hcz5_0
     try clear hcz5_1
     try clear hfz19_0
     try clear hfz19_1
     try clear hfz21_0
     try clear hfz21_1
     try clear hfz25_0
     try clear hfz25_1
     try clear hfz29_0
     try clear hfz29_1
     try clear hfz38_0
     try clear hfz38_1
     try clear hfz5_0
     try clear hfz5_1
     obtain ⟨kq, x42_16, rfl, HA, HJ16, HO_4, HO_6, HO_4015001, BK4001, BK4014, HB⟩ := hcut
     have hl4015001_16 := (Kd.R_reads' HO_4015001.out).1
     rw [hl4015001_16] at HO_4015001
     (try simp only [hl4015001_16])
     (try simp only [hl4015001_16] at BK4001)
     (try simp only [hl4015001_16] at BK4014)
     (try simp only [hl4015001_16] at HO_4)
     (try simp only [hl4015001_16] at HO_6)
     cases kq with
     | zero => exact absurd HA.out (by simp [laws_FnExactAllCuts.j0])
     | succ kj16 =>
      have H := HA.out
      clear HA
      simp only [laws_FnExactAllCuts.j0] at H
      by_cases c42 : x42_16 = true
      ·subst c42
       have H1 : (some false) = some true := by rw [if_pos rfl] at H; exact H
       clear H
       have H := H1
       clear H1
       exact absurd (Option.some.inj H) (by decide)
      ·replace c42 := Bool.eq_false_iff.mpr c42
       subst c42
       have H1 : ((laws_markIntSS.f kj16 t4015 1).bind fun bt4027 => ((laws_heldIntSS.f kj16 bt4027.2 1).bind fun t4028 => (if t4028 < 0 then (some false) else (if t4028 = bt4027.1 then ((laws_toMatroid.f kj16 a0_0 l0_1).bind fun bt4029 => ((impl_AllCuts.f kj16 bt4029.1 bt4029.2).bind fun t4033 => ((laws_eqIntSS.f kj16 t4033 t4007).bind fun t4036 => (if t4036 = true then ((laws_heldIntSS.f kj16 bt4027.2 1).bind fun t4037 => (if t4037 < 0 then (some false) else (if t4037 = bt4027.1 then (some true) else (some false)))) else (some false))))) else (some false))))) = some true := by rw [if_neg (show ¬ (false = true) by decide)] at H; exact H
       clear H
       have H := H1
       clear H1
       replace H := Option.bind_eq_some_iff.mp H
       obtain ⟨⟨t4027, t4015m⟩, A430, H⟩ := H
       replace H : ((laws_heldIntSS.f kj16 t4015m 1).bind fun t4028 => (if t4028 < 0 then (some false) else (if t4028 = t4027 then ((laws_toMatroid.f kj16 a0_0 l0_1).bind fun bt4029 => ((impl_AllCuts.f kj16 bt4029.1 bt4029.2).bind fun t4033 => ((laws_eqIntSS.f kj16 t4033 t4007).bind fun t4036 => (if t4036 = true then ((laws_heldIntSS.f kj16 t4015m 1).bind fun t4037 => (if t4037 < 0 then (some false) else (if t4037 = t4027 then (some true) else (some false)))) else (some false))))) else (some false)))) = some true := H
       have A43 := aQ A430
       clear A430
       have hlm := laws_markIntSS.f_len A43.out
       (try simp only [hlm])
       (try simp only [hlm] at HO_4)
       (try simp only [hlm] at HO_6)
       (try simp only [hlm] at HO_4015001)
       clear hlm
       replace H := Option.bind_eq_some_iff.mp H
       obtain ⟨t4028, A440, H⟩ := H
       replace H : (if t4028 < 0 then (some false) else (if t4028 = t4027 then ((laws_toMatroid.f kj16 a0_0 l0_1).bind fun bt4029 => ((impl_AllCuts.f kj16 bt4029.1 bt4029.2).bind fun t4033 => ((laws_eqIntSS.f kj16 t4033 t4007).bind fun t4036 => (if t4036 = true then ((laws_heldIntSS.f kj16 t4015m 1).bind fun t4037 => (if t4037 < 0 then (some false) else (if t4037 = t4027 then (some true) else (some false)))) else (some false))))) else (some false))) = some true := H
       have A44 := aQ A440
       clear A440
       by_cases c45 : t4028 < 0
       ·rw [if_pos c45] at H
        have c45b0 : decide (t4028 < 0) = true := decide_eq_true c45
        clear c45
        exact absurd (Option.some.inj H) (by decide)
       ·rw [if_neg c45] at H
        have c45b0 : decide (t4028 < 0) = false := decide_eq_false c45
        clear c45
        by_cases c46 : t4028 = t4027
        ·rw [if_pos c46] at H
         have c46b0 : (t4028 == t4027) = true := beq_iff_eq.mpr c46
         have c46b1 : (t4028 != t4027) = false := bne_eq_false_iff_eq.mpr c46
         clear c46
         replace H := Option.bind_eq_some_iff.mp H
         obtain ⟨⟨t4029, t4030⟩, A470, H⟩ := H
         replace H : ((impl_AllCuts.f kj16 t4029 t4030).bind fun t4033 => ((laws_eqIntSS.f kj16 t4033 t4007).bind fun t4036 => (if t4036 = true then ((laws_heldIntSS.f kj16 t4015m 1).bind fun t4037 => (if t4037 < 0 then (some false) else (if t4037 = t4027 then (some true) else (some false)))) else (some false)))) = some true := H
         have A47 := aQ A470
         clear A470
         replace H := Option.bind_eq_some_iff.mp H
         obtain ⟨t4033, A480, H⟩ := H
         replace H : ((laws_eqIntSS.f kj16 t4033 t4007).bind fun t4036 => (if t4036 = true then ((laws_heldIntSS.f kj16 t4015m 1).bind fun t4037 => (if t4037 < 0 then (some false) else (if t4037 = t4027 then (some true) else (some false)))) else (some false))) = some true := H
         have A48 := aQ A480
         clear A480
         replace H := Option.bind_eq_some_iff.mp H
         obtain ⟨t4036, A490, H⟩ := H
         replace H : (if t4036 = true then ((laws_heldIntSS.f kj16 t4015m 1).bind fun t4037 => (if t4037 < 0 then (some false) else (if t4037 = t4027 then (some true) else (some false)))) else (some false)) = some true := H
         have A49 := aQ A490
         clear A490
         by_cases c50 : t4036 = true
         ·subst c50
          have H1 : ((laws_heldIntSS.f kj16 t4015m 1).bind fun t4037 => (if t4037 < 0 then (some false) else (if t4037 = t4027 then (some true) else (some false)))) = some true := by rw [if_pos rfl] at H; exact H
          clear H
          have H := H1
          clear H1
          replace H := Option.bind_eq_some_iff.mp H
          obtain ⟨t4037, A510, H⟩ := H
          replace H : (if t4037 < 0 then (some false) else (if t4037 = t4027 then (some true) else (some false))) = some true := H
          have A51 := aQ A510
          clear A510
          by_cases c52 : t4037 < 0
          ·rw [if_pos c52] at H
           have c52b0 : decide (t4037 < 0) = true := decide_eq_true c52
           clear c52
           exact absurd (Option.some.inj H) (by decide)
          ·rw [if_neg c52] at H
           have c52b0 : decide (t4037 < 0) = false := decide_eq_false c52
           clear c52
           by_cases c59 : t4037 = t4027
           ·rw [if_pos c59] at H
            have c59b0 : (t4037 == t4027) = true := beq_iff_eq.mpr c59
            have c59b1 : (t4037 != t4027) = false := bne_eq_false_iff_eq.mpr c59
            clear c59
            have HR_ := Option.some.inj H
            (try (have HS_ := HR_; simp only [bne_iff_ne, ne_eq] at HS_))
            clear H
            go_wp2_with (first | ((with_reducible refine gate_callee (f := 11) rfl ?_); refine goesL_ (some 45) rfl rfl Try.func11 (by kernel_rfl) rfl #[.slice Ao32 t4015m.length co32, .int .i64 1] rfl lm ?_; (with_reducible refine (laws_markIntSS.calls kj16 (fun k_ => Mk ≤ k_ ∧ some k_ ≠ ((.slice Ao33 t4007.length co33) : Value).ownBlock ∧ some k_ ≠ ((.slice Ao30 t4025.length co30) : Value).ownBlock) (.slice Ao32 t4015m.length co32) t4015 1 t4027 t4015m w _ ?side1 ?side2 A43.out).mono ?_); (case side1 => exact (pB2 HB.out GE4001.out GE4014.out)); (case side2 => (with_reducible repeat (first | apply Kd.S_alloc | apply Kd.S_drewN | apply Kd.S_drew)); exact HO_6.out); rintro e wM ⟨rfl, hy0, hb, hkp⟩; refine ⟨_, rfl, ?_⟩; have n0_ := aQ (blk_keptT (pk BK4001.out) hkp (by decide)); have n1_ := aQ (blk_keptT (pk BK4014.out) hkp (by decide)); have n2_ := aQ (Kd.S_kept (HO_4.out) hkp (fun k_ hk_ hs_ => absurd hk_.1 (Nat.not_lt.2 hs_.1.1))); have n3_ := aQ (Kd.R_mono (ok' := fun _ => True) (Kd.R_kept (Kd.R_tight rfl (HO_4015001.out)) hkp (fun k_ h1_ hs_ => hs_.1.2.2 h1_)) (fun _ _ => trivial)); clear BK4001 BK4014 HO_4 HO_6 HO_4015001 HB; have BK4001 := n0_; have BK4014 := n1_; have HO_4 := n2_; have HO_4015001 := n3_; have HO_6 := aQ hy0; have HB := aQ hb; clear n0_ n1_ n2_ n3_ hy0 hb hkp) | ((with_reducible refine gate_callee (f := 12) rfl ?_); refine goesL_ (some 48) rfl rfl Try.func12 (by kernel_rfl) rfl #[.slice Ao32 t4015m.length co32, .int .i64 1] rfl lm ?_; (with_reducible refine (laws_heldIntSS.calls kj16 _ _ t4015m 1 t4028 _ ?side1 ?side2 A44.out).mono ?_); (case side1 => repeat (first | exact (Kd.S_reads' HO_6.out).2.2 | (with_reducible refine Kd.C_alloc ?_ _) | (with_reducible refine Kd.C_drewN ?_ _) | (with_reducible refine Kd.C_drew ?_))); (case side2 => exact (Kd.S_reads' HO_6.out).2.1); rintro e w' ⟨rfl, ⟨nd, rfl⟩⟩; refine ⟨_, rfl, ?_⟩; have hnb60 := NB4001_4014.out; have hnc60 := NB4014_4001.out; have hcz61_0 := bc (v := (.int .i64 a0_0)) BK4001.out 0; have hcz61_1 := bc (v := (.slice A0_1 l0_1.length c0_1)) BK4001.out 1; have hfz61_0 := blk_frozen BK4001.out 0; have hfz61_1 := blk_frozen BK4001.out 1) | ((with_reducible refine gate_callee (f := 6) rfl ?_); refine goesL_ (some 55) rfl rfl Try.func6 (by kernel_rfl) rfl #[.agg #[.int .i64 a0_0, .slice A0_1 l0_1.length c0_1]] rfl lm ?_; (with_reducible refine (laws_toMatroid.calls kj16 a0_0 _ _ l0_1 t4029 t4030 _ ?side1 ?side2 A47.out).mono ?_); (case side1 => repeat (first | exact (Kd.C_below HR0_1.out (pB2 HB.out GE4001.out GE4014.out)) | (with_reducible refine Kd.C_alloc ?_ _) | (with_reducible refine Kd.C_drewN ?_ _) | (with_reducible refine Kd.C_drew ?_))); (case side2 => exact HC0_1.out); rintro e w62 ⟨v4031, rfl, ho0, hb⟩; refine ⟨_, rfl, ?_⟩; replace HO_4 := aQ (Kd.S_elder' (by (with_reducible repeat (first | apply Kd.S_alloc | apply Kd.S_drewN | apply Kd.S_drew)); exact HO_4.out) (Kd.R_base ho0) hb); replace HO_6 := aQ (Kd.S_elder' (by (with_reducible repeat (first | apply Kd.S_alloc | apply Kd.S_drewN | apply Kd.S_drew)); exact HO_6.out) (Kd.R_base ho0) hb); have HO4032 := aQ (Kd.R_lower (Kd.R_new' ho0 (Kd.R_lt (pR HO_4015001.out))) (below_size (pB2 HB.out GE4001.out GE4014.out))); replace HO_4015001 := aQ (Kd.R_elder' (pR HO_4015001.out) (Kd.R_base ho0) hb); replace BK4001 := aQ (blk_below (g := gb4001) (o := .cells #[.int .i64 a0_0, .slice A0_1 l0_1.length c0_1] 24 (0, 0)) (pk BK4001.out) hb); replace BK4014 := aQ (blk_below (g := gb4014) (o := .cells #[.int .i64 t4010, .slice Ao30 t4025.length co30] 28 (0, 0)) (pk BK4014.out) hb); replace HB := aQ (below_step (pB2 HB.out GE4001.out GE4014.out) hb); (try clear hb); (try clear ho0); obtain ⟨Ao63, co63, eo63⟩ := Kd.R_slice HO4032.out; subst eo63) | ((with_reducible refine gate_callee (f := 7) rfl ?_); refine goesL_ (some 56) rfl rfl Try.func7 (by kernel_rfl) rfl #[.agg #[.int .i64 t4029, .slice Ao63 t4030.length co63]] rfl lm ?_; (with_reducible refine (impl_AllCuts.calls kj16 t4029 _ _ t4030 t4033 _ ?side1 ?side2 A48.out).mono ?_); (case side1 => repeat (first | exact (Kd.R_reads' HO4032.out).2.2 | (with_reducible refine Kd.C_alloc ?_ _) | (with_reducible refine Kd.C_drewN ?_ _) | (with_reducible refine Kd.C_drew ?_))); (case side2 => exact (Kd.R_reads' HO4032.out).2.1); rintro e w64 ⟨v4034, rfl, ho0, hb⟩; refine ⟨_, rfl, ?_⟩; have HO4035 := aQ (Kd.S_lower (Kd.S_new' (Kd.S_new' (Kd.S_new' (Kd.S_new' ho0 (Kd.S_lt (by (with_reducible repeat (first | apply Kd.S_alloc | apply Kd.S_drewN | apply Kd.S_drew)); exact HO_4.out))) (Kd.S_lt (by (with_reducible repeat (first | apply Kd.S_alloc | apply Kd.S_drewN | apply Kd.S_drew)); exact HO_6.out))) (Kd.R_lt (pR HO_4015001.out))) (Kd.R_lt (pR HO4032.out))) (below_size (pB2 HB.out GE4001.out GE4014.out))); replace HO_4 := aQ (Kd.S_elder' (by (with_reducible repeat (first | apply Kd.S_alloc | apply Kd.S_drewN | apply Kd.S_drew)); exact HO_4.out) (Kd.S_base ho0) hb); replace HO_6 := aQ (Kd.S_elder' (by (with_reducible repeat (first | apply Kd.S_alloc | apply Kd.S_drewN | apply Kd.S_drew)); exact HO_6.out) (Kd.S_base ho0) hb); replace HO_4015001 := aQ (Kd.R_below (pR HO_4015001.out) hb); replace HO4032 := aQ (Kd.R_below (pR HO4032.out) hb); replace BK4001 := aQ (blk_below (g := gb4001) (o := .cells #[.int .i64 a0_0, .slice A0_1 l0_1.length c0_1] 24 (0, 0)) (pk BK4001.out) hb); replace BK4014 := aQ (blk_below (g := gb4014) (o := .cells #[.int .i64 t4010, .slice Ao30 t4025.length co30] 28 (0, 0)) (pk BK4014.out) hb); replace HB := aQ (below_step (pB2 HB.out GE4001.out GE4014.out) hb); (try clear hb); (try clear ho0); obtain ⟨Ao65, co65, eo65⟩ := Kd.S_slice HO4035.out; subst eo65) | ((with_reducible refine gate_callee (f := 8) rfl ?_); refine goesL_ (some 59) rfl rfl Try.func8 (by kernel_rfl) rfl #[.slice Ao65 t4033.length co65, .slice Ao33 t4007.length co33] rfl lm ?_; (with_reducible refine (laws_eqIntSS.calls kj16 _ _ t4033 _ _ t4007 true _ ?side1 ?side2 ?side3 ?side4 A49.out).mono ?_); (case side1 => repeat (first | exact (Kd.S_reads' HO4035.out).2.2 | (with_reducible refine Kd.C_alloc ?_ _) | (with_reducible refine Kd.C_drewN ?_ _) | (with_reducible refine Kd.C_drew ?_))); (case side2 => exact (Kd.S_reads' HO4035.out).2.1); (case side3 => repeat (first | exact (Kd.S_reads' HO_4.out).2.2 | (with_reducible refine Kd.C_alloc ?_ _) | (with_reducible refine Kd.C_drewN ?_ _) | (with_reducible refine Kd.C_drew ?_))); (case side4 => exact (Kd.S_reads' HO_4.out).2.1); rintro e w' ⟨rfl, ⟨nd, rfl⟩⟩; refine ⟨_, rfl, ?_⟩) | ((with_reducible refine gate_callee (f := 12) rfl ?_); refine goesL_ (some 63) rfl rfl Try.func12 (by kernel_rfl) rfl #[.slice Ao32 t4015m.length co32, .int .i64 1] rfl lm ?_; (with_reducible refine (laws_heldIntSS.calls kj16 _ _ t4015m 1 t4037 _ ?side1 ?side2 A51.out).mono ?_); (case side1 => repeat (first | exact (Kd.S_reads' HO_6.out).2.2 | (with_reducible refine Kd.C_alloc ?_ _) | (with_reducible refine Kd.C_drewN ?_ _) | (with_reducible refine Kd.C_drew ?_))); (case side2 => exact (Kd.S_reads' HO_6.out).2.1); rintro e w' ⟨rfl, ⟨nd, rfl⟩⟩; refine ⟨_, rfl, ?_⟩))
            go_ret
            exact ⟨re_, pB2 HB.out GE4001.out GE4014.out⟩
           ·rw [if_neg c59] at H
            have c59b0 : (t4037 == t4027) = false := beq_eq_false_iff_ne.mpr c59
            have c59b1 : (t4037 != t4027) = true := bne_iff_ne.mpr c59
            exact absurd (Option.some.inj H) (by decide)
         ·replace c50 := Bool.eq_false_iff.mpr c50
          subst c50
          have H1 : (some false) = some true := by rw [if_neg (show ¬ (false = true) by decide)] at H; exact H
          clear H
          have H := H1
          clear H1
          exact absurd (Option.some.inj H) (by decide)
        ·rw [if_neg c46] at H
         have c46b0 : (t4028 == t4027) = false := beq_eq_false_iff_ne.mpr c46
         have c46b1 : (t4028 != t4027) = true := bne_iff_ne.mpr c46
         exact absurd (Option.some.inj H) (by decide)
   ·replace c15 := Bool.eq_false_iff.mpr c15
    subst c15
    have H1 : (some false) = some true := by rw [if_neg (show ¬ (false = true) by decide)] at H; exact H
    clear H
    have H := H1
    clear H1
    exact absurd (Option.some.inj H) (by decide)
  ·replace c12 := Bool.eq_false_iff.mpr c12
   subst c12
   have H1 : (some false) = some true := by rw [if_neg (show ¬ (false = true) by decide)] at H; exact H
   clear H
   have H := H1
   clear H1
   exact absurd (Option.some.inj H) (by decide)
end Go.Proofs.Ytbdloopelidneaa.A
