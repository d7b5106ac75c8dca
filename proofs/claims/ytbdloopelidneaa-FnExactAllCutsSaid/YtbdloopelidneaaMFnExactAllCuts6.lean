/- Machine side of the law FnExactAllCuts: Go functions as Lean functions, and proofs that calls come to what these tell. Conditions: those in each theorem. -/
import Derived.Test.YtbdloopelidneaaMFnExactAllCuts0
import Derived.Test.YtbdloopelidneaaMFnExactAllCutsq0
import Derived.Test.YtbdloopelidneaaMFnExactAllCuts1
import Derived.Test.YtbdloopelidneaaMFnExactAllCuts2
import Derived.Test.YtbdloopelidneaaMFnExactAllCuts3
import Derived.Test.YtbdloopelidneaaMFnExactAllCuts4
import Derived.Test.YtbdloopelidneaaMFnExactAllCuts5
namespace Go.Proofs.Ytbdloopelidneaa.A
open Go.RowKit Go.Proofs.YtbdloopelidneaaW.PrintWords Go.Proofs.YtbdloopelidneaaW.PrintLast Go.Proofs.YtbdloopelidneaaW.PrintMore Go.Proofs.Ytbdloopelidneaa.Z
attribute [local go_sem] max2_int min2_int max_two min_two max_three min_three max_four min_four
set_option linter.unusedVariables false
set_option linter.unusedSimpArgs false
/-! ### impl_AllCuts: function 7 (by hand) -/
def impl_AllCuts.c (b : Int) : Int → List Int → List Int
 | _, [] => []
 | i, x :: xs => if Go.bits .and .i64 (shr .i64 b i) 1 = 1 then x :: impl_AllCuts.c b (i + 1) xs else impl_AllCuts.c b (i + 1) xs
theorem impl_AllCuts.c_len (b : Int) : ∀ (xs : List Int) (i : Int), (impl_AllCuts.c b i xs).length ≤ xs.length := by
 intro xs
 induction xs with
 | nil => intro i; exact Nat.le_refl _
 | cons x xs ih =>
  intro i
  have := ih (i + 1)
  unfold impl_AllCuts.c
  split
  ·simp only [List.length_cons]; omega
  ·simp only [List.length_cons]; omega
def impl_AllCuts.l (k : Nat) (n : Int) (l F : List Int) : Nat → Int → List (List Int) → Option (List (List Int))
 | 0, _, out => some out
 | d + 1, b, out => (impl_IsModularCut.f k n l (impl_AllCuts.c b 0 F)).bind fun t => if t = true then impl_AllCuts.l k n l F d (b + 1) (out ++ [impl_AllCuts.c b 0 F]) else impl_AllCuts.l k n l F d (b + 1) out
theorem impl_AllCuts.l_mono (k : Nat) (n : Int) (l F : List Int) : ∀ (d : Nat) (b : Int) (out : List (List Int)), LeO (impl_AllCuts.l k n l F d b out) (impl_AllCuts.l (k + 1) n l F d b out) := by
 intro d
 induction d with
 | zero => intro b out; exact LeO.refl _
 | succ d ih =>
  intro b out
  exact LeO.bind (impl_IsModularCut.mono _ _ _ _) (fun t => LeO.ite (ih _ _) (ih _ _))
def impl_AllCuts.f (k : Nat) (a0_0 : Int) (l0_1 : List Int) : Option (List (List Int)) := (impl_Flats.f k a0_0 l0_1).bind fun F => (impl_IsMatroid.f k a0_0 l0_1).bind fun t => if t = true then (if 10 < (F.length : Int) then some [] else (impl_AllCuts.l k a0_0 l0_1 F (2 ^ F.length) 0 []).bind fun out => if out = [] then none else some (sortS out)) else some []
theorem impl_AllCuts.mono : ∀ a0 a1 k, LeO (impl_AllCuts.f k a0 a1) (impl_AllCuts.f (k + 1) a0 a1) := by
 intro a0 a1 k
 unfold impl_AllCuts.f
 exact LeO.bind (impl_Flats.mono _ _ _) (fun F => LeO.bind (impl_IsMatroid.mono _ _ _) (fun t => LeO.ite (LeO.ite (LeO.refl _) (LeO.bind (impl_AllCuts.l_mono _ _ _ _ _ _ _) (fun out => LeO.refl _))) (LeO.refl _)))
theorem shl_pow10 : ∀ y : Nat, y ≤ 10 → shl .i64 1 (y : Int) = ((2 ^ y : Nat) : Int) := by
 have h : ∀ y < 11, shl .i64 1 ((y : Nat) : Int) = ((2 ^ y : Nat) : Int) := by decide +kernel
 exact fun y hy => h y (by omega)
theorem Inn.lt {e : Nat} {W : World} {base : Nat} {vs : List SV} {ls : List (List Int)} (h : Inn e W base vs ls) : ∀ p ∈ vs, ∀ k, (svV p).ownBlock = some k → k < W.heap.size := by
 intro p hp k hk
 obtain ⟨i, hi, rfl⟩ := List.getElem_of_mem hp
 have hi2 : i < ls.length := by rw [← h.1]; exact hi
 have h3 : i < (vs.zip ls).length := by rw [List.length_zip]; omega
 have h4 := h.2 _ (List.getElem_mem h3)
 rw [List.getElem_zip] at h4
 exact Kd.R_lt h4 k hk
theorem Inn.moveM {e M : Nat} {W W1 : World} {base : Nat} {vs : List SV} {ls : List (List Int)} (h : Inn e W base vs ls) (hlt : ∀ p ∈ vs, ∀ k, (svV p).ownBlock = some k → k < M) {row : Option Nat} (hg : W.grownBy W1 row) (hM : ∀ k, row = some k → M ≤ k) : Inn e W1 base vs ls :=
 ⟨h.1, fun p hp => Kd.R_mono (Kd.R_move (Kd.R_mono (ok' := fun k => k < M ∧ k < W.heap.size) (Kd.R_tight rfl (h.2 p hp)) (fun k hk => ⟨hlt p.1 (List.of_mem_zip hp).1 k hk.symm, Kd.R_lt (h.2 p hp) k hk.symm⟩)) (fun k hk => hg.block k hk.2 (fun he => by have := hM k he.symm; have := hk.1; omega))) (fun _ _ => trivial)⟩
set_option maxHeartbeats 4000000 in
set_option maxRecDepth 100000 in
theorem impl_AllCuts.calls_sep (k : Nat) (a0_0 : Int) (A0_1 : Option Addr) (c0_1 : Nat) (l0_1 : List Int) (r : List (List Int)) (w : World) (hr0_1 : Kd.C (Kd.int .i64) w A0_1 l0_1.length l0_1) (hc0_1 : l0_1.length ≤ c0_1) (h : impl_AllCuts.f k a0_0 l0_1 = some r) :
  Calls Try.prog 7 #[.agg #[.int .i64 a0_0, .slice A0_1 l0_1.length c0_1]] w fun e w' => ∃ (v0_ : Value) (vs : List SV), e = .returned (v0_) ∧ kSV.R 22 w' w.heap.size (fun _ => True) v0_ vs ∧ Inn 3 w' w.heap.size vs r ∧ vs.Pairwise SvNe ∧ Below w.heap.size w w' := by
 have hu := Try.underlying28
 have HR := aQ hr0_1
 have HC := aQ hc0_1
 have HB := aQ (Below.refl w.heap.size w)
 clear hr0_1 hc0_1
 unfold impl_AllCuts.f at h
 obtain ⟨F, hF, h⟩ := Option.bind_eq_some_iff.1 h
 obtain ⟨t, hT, h⟩ := Option.bind_eq_some_iff.1 h
 have HFl := aQ hF
 have HT := aQ hT
 clear hF hT
 cases t with
 | false =>
  rw [if_neg (by decide)] at h
  simp only [Option.some.injEq] at h
  subst h
  go_enter Try.func7, Try.ntmps7
  go_wp2_with (first | ((with_reducible refine gate_dst (N := 1) rfl ?_); refine box_event ?hg (N := 1) ?hd (cs := #[(.int .i64 a0_0), (.slice A0_1 l0_1.length c0_1)]) (t := 28) ?hr ?_; (case hd => rfl); (case hg => rfl); (case hr => first | (go_simp; done) | (go_simp; rfl)); intro gm hg w1_ hbox hb; have GBM := aQ ((by rw [hg]; exact below_size (pB HB.out)) : w.heap.size ≤ gm); replace HB := aQ (below_step (pB HB.out) hb); have BM := aQ hbox; clear hb hbox hg; have zBM0 : w1_.cell? ⟨gm, 0, none⟩ = some (.int .i64 a0_0) := (blk_cell BM.out 0).trans rfl; have zBM1 : w1_.cell? ⟨gm, 1, none⟩ = some (.slice A0_1 l0_1.length c0_1) := (blk_cell BM.out 1).trans rfl) | (go_at_call 20; (with_reducible refine (impl_Flats.calls k a0_0 _ _ l0_1 F _ ?side1 ?side2 HFl.out).mono ?_); (case side1 => repeat (first | exact HR.out | exact (Kd.C_below HR.out (pB HB.out)) | (with_reducible refine Kd.C_alloc ?_ _) | (with_reducible refine Kd.C_drewN ?_ _) | (with_reducible refine Kd.C_drew ?_))); (case side2 => exact HC.out); rintro e w2_ ⟨v_, rfl, ho_, hb⟩; have m_HF := aQ (Kd.R_lower ho_ (below_size (pB HB.out))); have n_BM := aQ (blk_below (g := gm) (o := .cells #[(.int .i64 a0_0), (.slice A0_1 l0_1.length c0_1)] 28 (0, 0)) (pk BM.out) hb); have n_HB := aQ (below_step (pB HB.out) hb); clear BM; have BM := n_BM; clear n_BM; clear HB; have HB := n_HB; clear n_HB; have HF := m_HF; clear m_HF ho_; obtain ⟨AHF, cHF, eHF⟩ := Kd.R_slice HF.out; subst eHF; clear hb; have zBM0 : w2_.cell? ⟨gm, 0, none⟩ = some (.int .i64 a0_0) := (blk_cell BM.out 0).trans rfl; have zBM1 : w2_.cell? ⟨gm, 1, none⟩ = some (.slice A0_1 l0_1.length c0_1) := (blk_cell BM.out 1).trans rfl) | (go_at_call 21; (with_reducible refine (impl_IsMatroid.calls k a0_0 _ _ l0_1 false _ ?side1 ?side2 HT.out).mono ?_); (case side1 => repeat (first | exact HR.out | exact (Kd.C_below HR.out (pB HB.out)) | (with_reducible refine Kd.C_alloc ?_ _) | (with_reducible refine Kd.C_drewN ?_ _) | (with_reducible refine Kd.C_drew ?_))); (case side2 => exact HC.out); rintro e w3_ ⟨rfl, hb⟩; have n_BM := aQ (blk_below (g := gm) (o := .cells #[(.int .i64 a0_0), (.slice A0_1 l0_1.length c0_1)] 28 (0, 0)) (pk BM.out) hb); have n_HF := aQ (Kd.R_below (pR HF.out) hb); have n_HB := aQ (below_step (pB HB.out) hb); clear BM; have BM := n_BM; clear n_BM; clear HF; have HF := n_HF; clear n_HF; clear HB; have HB := n_HB; clear n_HB; clear hb; have zBM0 : w3_.cell? ⟨gm, 0, none⟩ = some (.int .i64 a0_0) := (blk_cell BM.out 0).trans rfl; have zBM1 : w3_.cell? ⟨gm, 1, none⟩ = some (.slice A0_1 l0_1.length c0_1) := (blk_cell BM.out 1).trans rfl))
  go_ret
  exact ⟨_, [], rs_, Kd.R_nil _ _ _ _ _, Inn.nil _ _ _, List.Pairwise.nil, (pB HB.out)⟩
 | true =>
  rw [if_pos rfl] at h
  by_cases hg : 10 < (F.length : Int)
  ·rw [if_pos hg] at h
   simp only [Option.some.injEq] at h
   subst h
   have l5 : decide (10 < (F.length : Int)) = true := decide_eq_true hg
   clear hg
   go_enter Try.func7, Try.ntmps7
   go_wp2_with (first | ((with_reducible refine gate_dst (N := 1) rfl ?_); refine box_event ?hg (N := 1) ?hd (cs := #[(.int .i64 a0_0), (.slice A0_1 l0_1.length c0_1)]) (t := 28) ?hr ?_; (case hd => rfl); (case hg => rfl); (case hr => first | (go_simp; done) | (go_simp; rfl)); intro gm hg w1_ hbox hb; have GBM := aQ ((by rw [hg]; exact below_size (pB HB.out)) : w.heap.size ≤ gm); replace HB := aQ (below_step (pB HB.out) hb); have BM := aQ hbox; clear hb hbox hg; have zBM0 : w1_.cell? ⟨gm, 0, none⟩ = some (.int .i64 a0_0) := (blk_cell BM.out 0).trans rfl; have zBM1 : w1_.cell? ⟨gm, 1, none⟩ = some (.slice A0_1 l0_1.length c0_1) := (blk_cell BM.out 1).trans rfl) | (go_at_call 20; (with_reducible refine (impl_Flats.calls k a0_0 _ _ l0_1 F _ ?side1 ?side2 HFl.out).mono ?_); (case side1 => repeat (first | exact HR.out | exact (Kd.C_below HR.out (pB HB.out)) | (with_reducible refine Kd.C_alloc ?_ _) | (with_reducible refine Kd.C_drewN ?_ _) | (with_reducible refine Kd.C_drew ?_))); (case side2 => exact HC.out); rintro e w2_ ⟨v_, rfl, ho_, hb⟩; have m_HF := aQ (Kd.R_lower ho_ (below_size (pB HB.out))); have n_BM := aQ (blk_below (g := gm) (o := .cells #[(.int .i64 a0_0), (.slice A0_1 l0_1.length c0_1)] 28 (0, 0)) (pk BM.out) hb); have n_HB := aQ (below_step (pB HB.out) hb); clear BM; have BM := n_BM; clear n_BM; clear HB; have HB := n_HB; clear n_HB; have HF := m_HF; clear m_HF ho_; obtain ⟨AHF, cHF, eHF⟩ := Kd.R_slice HF.out; subst eHF; clear hb; have zBM0 : w2_.cell? ⟨gm, 0, none⟩ = some (.int .i64 a0_0) := (blk_cell BM.out 0).trans rfl; have zBM1 : w2_.cell? ⟨gm, 1, none⟩ = some (.slice A0_1 l0_1.length c0_1) := (blk_cell BM.out 1).trans rfl) | (go_at_call 21; (with_reducible refine (impl_IsMatroid.calls k a0_0 _ _ l0_1 true _ ?side1 ?side2 HT.out).mono ?_); (case side1 => repeat (first | exact HR.out | exact (Kd.C_below HR.out (pB HB.out)) | (with_reducible refine Kd.C_alloc ?_ _) | (with_reducible refine Kd.C_drewN ?_ _) | (with_reducible refine Kd.C_drew ?_))); (case side2 => exact HC.out); rintro e w3_ ⟨rfl, hb⟩; have n_BM := aQ (blk_below (g := gm) (o := .cells #[(.int .i64 a0_0), (.slice A0_1 l0_1.length c0_1)] 28 (0, 0)) (pk BM.out) hb); have n_HF := aQ (Kd.R_below (pR HF.out) hb); have n_HB := aQ (below_step (pB HB.out) hb); clear BM; have BM := n_BM; clear n_BM; clear HF; have HF := n_HF; clear n_HF; clear HB; have HB := n_HB; clear n_HB; clear hb; have zBM0 : w3_.cell? ⟨gm, 0, none⟩ = some (.int .i64 a0_0) := (blk_cell BM.out 0).trans rfl; have zBM1 : w3_.cell? ⟨gm, 1, none⟩ = some (.slice A0_1 l0_1.length c0_1) := (blk_cell BM.out 1).trans rfl))
   go_ret
   exact ⟨_, [], rs_, Kd.R_nil _ _ _ _ _, Inn.nil _ _ _, List.Pairwise.nil, (pB HB.out)⟩
  ·rw [if_neg hg] at h
   have l5 : decide (10 < (F.length : Int)) = false := decide_eq_false hg
   obtain ⟨ro, hL, h⟩ := Option.bind_eq_some_iff.1 h
   by_cases hne : ro = []
   ·rw [if_pos hne] at h; cases h
   rw [if_neg hne] at h
   simp only [Option.some.injEq] at h
   subst h
   have HNE := aQ hne
   have HFL := aQ (show F.length ≤ 10 by omega)
   have hpow : 0 < 2 ^ F.length ∧ 2 ^ F.length ≤ 1024 := ⟨Nat.two_pow_pos _, Nat.le_trans (Nat.pow_le_pow_right (by decide) HFL.out) (by decide)⟩
   have hji28 : shl .i64 1 (F.length : Int) = ((2 ^ F.length : Nat) : Int) := shl_pow10 F.length HFL.out
   generalize hK : 2 ^ F.length = N at hL hpow hji28
   have HL := aQ hL
   have HN1 := aQ hpow.2
   have hji28_ : (IntKind.i64.wrap (1 * 2 ^ min F.length 64)) = (N : Int) := hji28
   have hji28u : (IntKind.i64.wrap (2 ^ min F.length 64)) = (N : Int) := by have h_ := hji28_; rw [Int.one_mul] at h_; exact h_
   have hji28z : F.length ≤ 64 → (IntKind.i64.wrap (2 ^ F.length)) = (N : Int) := fun hle_ => by have h_ := hji28u; rw [Nat.min_eq_left hle_] at h_; exact h_
   have hji28v : F.length ≤ 64 → (IntKind.i64.wrap (1 * 2 ^ F.length)) = (N : Int) := fun hle_ => by rw [Int.one_mul]; exact hji28z hle_
   have hji28y : (wrap64 (1 * 2 ^ min F.length 64)) = (N : Int) := (i64_w _).symm.trans hji28_
   have hji28x : F.length ≤ 64 → (wrap64 (1 * 2 ^ F.length)) = (N : Int) := fun h_ => (i64_w _).symm.trans (hji28v h_)
   have hle64 : (F.length ≤ 64) = True := eq_true (by omega)
   clear hL hK hpow hne hg
   go_enter Try.func7, Try.ntmps7
   go_wp2_with (first | ((with_reducible refine gate_dst (N := 1) rfl ?_); refine box_event ?hg (N := 1) ?hd (cs := #[(.int .i64 a0_0), (.slice A0_1 l0_1.length c0_1)]) (t := 28) ?hr ?_; (case hd => rfl); (case hg => rfl); (case hr => first | (go_simp; done) | (go_simp; rfl)); intro gm hg w1_ hbox hb; have GBM := aQ ((by rw [hg]; exact below_size (pB HB.out)) : w.heap.size ≤ gm); replace HB := aQ (below_step (pB HB.out) hb); have BM := aQ hbox; clear hb hbox hg; have zBM0 : w1_.cell? ⟨gm, 0, none⟩ = some (.int .i64 a0_0) := (blk_cell BM.out 0).trans rfl; have zBM1 : w1_.cell? ⟨gm, 1, none⟩ = some (.slice A0_1 l0_1.length c0_1) := (blk_cell BM.out 1).trans rfl) | (go_at_call 20; (with_reducible refine (impl_Flats.calls k a0_0 _ _ l0_1 F _ ?side1 ?side2 HFl.out).mono ?_); (case side1 => repeat (first | exact HR.out | exact (Kd.C_below HR.out (pB HB.out)) | (with_reducible refine Kd.C_alloc ?_ _) | (with_reducible refine Kd.C_drewN ?_ _) | (with_reducible refine Kd.C_drew ?_))); (case side2 => exact HC.out); rintro e w2_ ⟨v_, rfl, ho_, hb⟩; have m_HF := aQ (Kd.R_lower ho_ (below_size (pB HB.out))); have n_BM := aQ (blk_below (g := gm) (o := .cells #[(.int .i64 a0_0), (.slice A0_1 l0_1.length c0_1)] 28 (0, 0)) (pk BM.out) hb); have n_HB := aQ (below_step (pB HB.out) hb); clear BM; have BM := n_BM; clear n_BM; clear HB; have HB := n_HB; clear n_HB; have HF := m_HF; clear m_HF ho_; obtain ⟨AHF, cHF, eHF⟩ := Kd.R_slice HF.out; subst eHF; clear hb; have zBM0 : w2_.cell? ⟨gm, 0, none⟩ = some (.int .i64 a0_0) := (blk_cell BM.out 0).trans rfl; have zBM1 : w2_.cell? ⟨gm, 1, none⟩ = some (.slice A0_1 l0_1.length c0_1) := (blk_cell BM.out 1).trans rfl) | (go_at_call 21; (with_reducible refine (impl_IsMatroid.calls k a0_0 _ _ l0_1 true _ ?side1 ?side2 HT.out).mono ?_); (case side1 => repeat (first | exact HR.out | exact (Kd.C_below HR.out (pB HB.out)) | (with_reducible refine Kd.C_alloc ?_ _) | (with_reducible refine Kd.C_drewN ?_ _) | (with_reducible refine Kd.C_drew ?_))); (case side2 => exact HC.out); rintro e w3_ ⟨rfl, hb⟩; have n_BM := aQ (blk_below (g := gm) (o := .cells #[(.int .i64 a0_0), (.slice A0_1 l0_1.length c0_1)] 28 (0, 0)) (pk BM.out) hb); have n_HF := aQ (Kd.R_below (pR HF.out) hb); have n_HB := aQ (below_step (pB HB.out) hb); clear BM; have BM := n_BM; clear n_BM; clear HF; have HF := n_HF; clear n_HF; clear HB; have HB := n_HB; clear n_HB; clear hb; have zBM0 : w3_.cell? ⟨gm, 0, none⟩ = some (.int .i64 a0_0) := (blk_cell BM.out 0).trans rfl; have zBM1 : w3_.cell? ⟨gm, 1, none⟩ = some (.slice A0_1 l0_1.length c0_1) := (blk_cell BM.out 1).trans rfl) | ((with_reducible refine gate_dst (N := 19) rfl ?_); refine Kd.R_lit kSV _ 22 ?hg (N := 19) ?hd (xs := ([] : List SV)) (inner := []) (ok := fun _ => True) (okp := fun _ => True) ?hr ?hp (fun _ hk => hk) trivial (Below.refl _ _) (Nat.le_refl _) (by simp) ?_; (case hd => rfl); (case hg => rfl); (case hr => first | (go_simp; done) | (go_simp; rfl)); (case hp => exact (Reps.none _ _)); intro v_ w4_ ho_ hb hg_ hnew_; clear hg_ hnew_; have m_HO := aQ (Kd.R_lower ho_ (below_size (pB HB.out))); have n_BM := aQ (blk_below (g := gm) (o := .cells #[(.int .i64 a0_0), (.slice A0_1 l0_1.length c0_1)] 28 (0, 0)) (pk BM.out) hb); have n_HF := aQ (Kd.R_below (pR HF.out) hb); have n_HB := aQ (below_step (pB HB.out) hb); clear BM; have BM := n_BM; clear n_BM; clear HF; have HF := n_HF; clear n_HF; clear HB; have HB := n_HB; clear n_HB; have HO := m_HO; clear m_HO ho_ hb; have zBM0 : w4_.cell? ⟨gm, 0, none⟩ = some (.int .i64 a0_0) := (blk_cell BM.out 0).trans rfl; have zBM1 : w4_.cell? ⟨gm, 1, none⟩ = some (.slice A0_1 l0_1.length c0_1) := (blk_cell BM.out 1).trans rfl))
   go_loopg [4, 5] N (fun gg s4 s5 wr => ∃ (x : Int) (vs : List SV) (out : List (List Int)), s5 = .int .i64 x ∧ Aside0 (0 ≤ x ∧ x ≤ (N : Int)) ∧ Aside0 (N - x.toNat ≤ gg) ∧ Aside0 (impl_AllCuts.l k a0_0 l0_1 F (N - x.toNat) x out = some ro) ∧ Aside0 (out.length ≤ x.toNat) ∧ Aside0 (kSV.R 22 wr w.heap.size (fun _ => True) s4 vs) ∧ Aside0 (Inn 3 wr w.heap.size vs out) ∧ Aside0 (vs.Pairwise SvNe) ∧ Aside0 (∀ l ∈ out, l.length ≤ 10) ∧ Aside0 (Kd.R (Kd.int .i64) 3 wr w.heap.size (fun _ => True) (.slice AHF F.length cHF) F) ∧ Aside0 (wr.heap[gm]? = some (.cells #[(.int .i64 a0_0), (.slice A0_1 l0_1.length c0_1)] 28 (0, 0))) ∧ Aside0 (Below w.heap.size w wr))
   case atStart => exact ⟨0, [], [], rfl, ⟨by omega⟩, ⟨by omega⟩, ⟨HL.out⟩, ⟨Nat.le_refl _⟩, ⟨pR HO.out⟩, ⟨Inn.nil _ _ _⟩, ⟨List.Pairwise.nil⟩, ⟨by simp⟩, ⟨pR HF.out⟩, ⟨pk BM.out⟩, ⟨(pB HB.out)⟩⟩
   case round =>
    clear HL
    try clear HO
    try clear HF
    try clear BM
    try clear HB
    try clear zBM0
    try clear zBM1
    obtain ⟨x, vs, out, rfl, HX, HG, HI, HOL, HO, HN, HS, HLL, HF, BM, HB⟩ := hrel
    by_cases hlt : x < (N : Int)
    ·have p1 : 0 ≤ x := HX.out.1
     have l1_ : decide (x < (N : Int)) = true := decide_eq_true hlt
     have hI := HI.out
     have HNL := Lib.hid (show N - x.toNat = (N - (x + 1).toNat) + 1 by omega)
     rw [HNL.out] at hI
     simp only [impl_AllCuts.l] at hI
     obtain ⟨tm, hM, hI⟩ := Option.bind_eq_some_iff.1 hI
     have HMo := Lib.hid hM
     have HI2 := Lib.hid hI
     have E1 := Lib.hid (wrap64_of (n := x + 1) (by omega) (by have := HN1.out; omega))
     have Q1 := aQ hlt
     clear hI hM HI
     obtain ⟨C, hC⟩ : ∃ C, impl_AllCuts.c x 0 F = C := ⟨_, rfl⟩
     have HCC := Lib.hid hC
     clear hC
     replace hlt := eq_true hlt
     replace p1 := eq_true p1
     have zBM0 : wr.cell? ⟨gm, 0, none⟩ = some (.int .i64 a0_0) := (blk_cell BM.out 0).trans rfl
     have zBM1 : wr.cell? ⟨gm, 1, none⟩ = some (.slice A0_1 l0_1.length c0_1) := (blk_cell BM.out 1).trans rfl
     go_wp2_with (first | ((with_reducible refine gate_dst (N := 27) rfl ?_); refine Kd.R_lit (Kd.int .i64) _ 3 ?hg (N := 27) ?hd (xs := ([] : List Int)) (inner := []) (ok := fun _ => True) (okp := fun _ => True) ?hr ?hp (fun _ hk => hk) trivial (Below.refl _ _) (Nat.le_refl _) (by simp) ?_; (case hd => rfl); (case hg => rfl); (case hr => first | (go_simp; done) | (go_simp; rfl)); (case hp => exact (Reps.none _ _)); intro v_ w5_ ho_ hb hg_ hnew_; clear hg_ hnew_; obtain ⟨M, hM_⟩ : ∃ M, wr.heap.size = M := ⟨_, rfl⟩; have HLT := aQ (show ∀ p ∈ vs, ∀ k, (svV p).ownBlock = some k → k < M from by rw [← hM_]; exact Inn.lt HN.out); have HFU := aQ (show ∀ k, (.slice AHF F.length cHF : Value).ownBlock = some k → k < M from by rw [← hM_]; exact Kd.R_lt HF.out); have HMS := aQ (show M ≤ w5_.heap.size from by rw [← hM_]; exact hb.size); have m_HU := aQ (Kd.R_lower (Kd.R_mono (ok' := fun k_ => M ≤ k_) (Kd.R_bound ho_) (fun k_ hk_ => by rw [← hM_]; exact hk_.2.1)) (below_size (pB HB.out))); have n_BM := aQ (blk_below (g := gm) (o := .cells #[(.int .i64 a0_0), (.slice A0_1 l0_1.length c0_1)] 28 (0, 0)) (pk BM.out) hb); have n_HF := aQ (Kd.R_below (pR HF.out) hb); have n_HO := aQ (Kd.R_below (pR HO.out) hb); have n_HN := aQ (Inn.below (by (with_reducible repeat (first | apply Inn.alloc | apply Inn.drewN | apply Inn.drew)); exact HN.out) hb); have n_HB := aQ (below_step (pB HB.out) hb); clear BM; have BM := n_BM; clear n_BM; clear HF; have HF := n_HF; clear n_HF; clear HO; have HO := n_HO; clear n_HO; clear HN; have HN := n_HN; clear n_HN; clear HB; have HB := n_HB; clear n_HB; have HU := m_HU; clear m_HU ho_ hb hM_; have zBM0 : w5_.cell? ⟨gm, 0, none⟩ = some (.int .i64 a0_0) := (blk_cell BM.out 0).trans rfl; have zBM1 : w5_.cell? ⟨gm, 1, none⟩ = some (.slice A0_1 l0_1.length c0_1) := (blk_cell BM.out 1).trans rfl))
     go_loopg [6, 30] F.length (fun gg s6 s30 wr => ∃ (y : Int) (cu : List Int), s30 = .int .i64 y ∧ Aside0 (0 ≤ y ∧ y ≤ (F.length : Int)) ∧ Aside0 (F.length - y.toNat ≤ gg) ∧ Aside0 (cu ++ impl_AllCuts.c x y (F.drop y.toNat) = C) ∧ Aside0 (cu.length ≤ y.toNat) ∧ Aside0 (M ≤ wr.heap.size) ∧ Aside0 (Kd.R (Kd.int .i64) 3 wr w.heap.size (fun k_ => M ≤ k_) s6 cu) ∧ Aside0 (kSV.R 22 wr w.heap.size (fun _ => True) u4 vs) ∧ Aside0 (Inn 3 wr w.heap.size vs out) ∧ Aside0 (Kd.R (Kd.int .i64) 3 wr w.heap.size (fun _ => True) (.slice AHF F.length cHF) F) ∧ Aside0 (wr.heap[gm]? = some (.cells #[(.int .i64 a0_0), (.slice A0_1 l0_1.length c0_1)] 28 (0, 0))) ∧ Aside0 (Below w.heap.size w wr))
     case atStart => exact ⟨0, [], rfl, ⟨by omega⟩, ⟨by omega⟩, ⟨HCC.out⟩, ⟨Nat.le_refl _⟩, ⟨by first | exact HMS.out | (have := HMS.out; simp at *; omega)⟩, ⟨pR HU.out⟩, ⟨pR HO.out⟩, ⟨by (with_reducible repeat (first | apply Inn.alloc | apply Inn.drewN | apply Inn.drew)); exact HN.out⟩, ⟨pR HF.out⟩, ⟨pk BM.out⟩, ⟨(pB HB.out)⟩⟩
     case round =>
      try clear HU
      try clear HMS
      try clear HO
      try clear HN
      try clear HF
      try clear BM
      try clear HB
      try clear zBM0
      try clear zBM1
      obtain ⟨y, cu, rfl, HY, HG2, HJ, HCL, HMS, HU, HO, HN, HF, BM, HB⟩ := hrel
      by_cases hlt2 : y < (F.length : Int)
      ·have p2 : 0 ≤ y := HY.out.1
       have l2_ : decide (y < (F.length : Int)) = true := decide_eq_true hlt2
       obtain ⟨ad, ea, hx⟩ := Kd.at_int (Kd.R_reads' HF.out).2.2 y p2 hlt2
       cases ea
       have hJ := HJ.out
       rw [int_drop F y p2 hlt2] at hJ
       simp only [impl_AllCuts.c] at hJ
       have E2 := Lib.hid (wrap64_of (n := y + 1) (by have := HFL.out; omega) (by have := HFL.out; omega))
       have Q2 := aQ hlt2
       clear HJ
       have r1_ : decide (0 ≤ y) = true := decide_eq_true p2
       replace p2 := eq_true p2
       replace hlt2 := eq_true hlt2
       have hle_ : (y ≤ 64) = True := eq_true (by have := Q2.out; have := HFL.out; omega)
       obtain ⟨ji, hji⟩ : ∃ j_ : Int, shr .i64 x y = j_ := ⟨_, rfl⟩
       rw [hji] at hJ
       have hjq_ : x / 2 ^ min y.toNat 64 = ji := hji
       have hjqz : y ≤ 64 → x / 2 ^ y.toNat = ji := shr_small hji
       by_cases hz : Go.bits .and .i64 ji 1 = 1
       ·rw [if_pos hz] at hJ
        have HJ2 := Lib.hid (show (cu ++ [rd F y]) ++ impl_AllCuts.c x (y + 1) (F.drop (y + 1).toNat) = C from by rw [List.append_assoc]; exact hJ)
        clear hJ
        have b1_ : (Go.bits .and .i64 ji 1 == 1) = true := beq_iff_eq.2 hz
        clear hz
        go_wp2_with (first | ((with_reducible refine gate_builtin (b := .append) (xs := #[.tmp 40, .tmp 42]) rfl ?_); at_builtin; refine Kd.R_append (Kd.int .i64) (w0 := w) w.heap.size rfl (.tmp 40) (.tmp 42) 22 3 (.int .i64 0) 8 rfl Try.underlying22 info3 rfl (by decide) (by omega) u6 cu (rd F y) [.int .i64 (rd F y)] (fun k_ => M ≤ k_) (fun _ => False) rfl rfl ?aP (fun _ hk => hk.elim) ?aF ?aO ?aB ?aS ?aL ?_; (case aP => exact rfl); (case aB => exact (pB HB.out)); (case aF => exact (fun k_ hk_ => by have := HMS.out; omega)); (case aO => exact (pR HU.out)); (case aS => exact (below_size (pB HB.out))); (case aL => have := HCL.out; have := HFL.out; have := HY.out; omega); intro v_ w6_ ho hb hg hat; have n_BM := aQ (blk_grown (g := gm) (o := .cells #[(.int .i64 a0_0), (.slice A0_1 l0_1.length c0_1)] 28 (0, 0)) (pk BM.out) hg (Kd.R_ne HU.out BM.out (by decide))); have n_HF := aQ (Kd.R_mono (Kd.R_grown (Kd.R_tight rfl (pR HF.out)) hg (fun k_ hk_ he_ => by have := HFU.out k_ hk_.symm; have := HU.out.1 k_ he_.symm; omega)) (fun _ _ => trivial)); have n_HO := aQ (Kd.R_over' (pR HO.out) (Kd.R_typed HU.out) (by decide) hg); have n_HN := aQ (Inn.moveM HN.out HLT.out hg (fun k_ he => HU.out.1 k_ he)); have n_HMS := aQ (Nat.le_trans HMS.out hg.size); have n_HB := aQ hb; have n_HU := aQ ho; clear BM HF HO HN HB HU HMS; have BM := n_BM; have HF := n_HF; have HO := n_HO; have HN := n_HN; have HB := n_HB; have HU := n_HU; have HMS := n_HMS; clear n_BM n_HF n_HO n_HN n_HB n_HU n_HMS ho hb hg hat))
        go_roundg (F.length - (y + 1).toNat)
        case measure => have := HG2.out; have := HY.out; have := Q2.out; omega
        case rel => exact ⟨y + 1, _, by rw [E2.out], ⟨by have := HY.out; have := Q2.out; omega⟩, ⟨Nat.le_refl _⟩, ⟨HJ2.out⟩, ⟨by have := HCL.out; have := HY.out; rw [List.length_append, List.length_singleton]; omega⟩, ⟨HMS.out⟩, ⟨pR HU.out⟩, ⟨pR HO.out⟩, ⟨by (with_reducible repeat (first | apply Inn.alloc | apply Inn.drewN | apply Inn.drew)); exact HN.out⟩, ⟨pR HF.out⟩, ⟨pk BM.out⟩, ⟨(pB HB.out)⟩⟩
       ·rw [if_neg hz] at hJ
        have HJ2 := Lib.hid (show cu ++ impl_AllCuts.c x (y + 1) (F.drop (y + 1).toNat) = C from hJ)
        clear hJ
        have b1_ : (Go.bits .and .i64 ji 1 == 1) = false := by rw [Bool.eq_false_iff]; exact fun h_ => hz (beq_iff_eq.1 h_)
        clear hz
        go_wp2
        go_roundg (F.length - (y + 1).toNat)
        case measure => have := HG2.out; have := HY.out; have := Q2.out; omega
        case rel => exact ⟨y + 1, _, by rw [E2.out], ⟨by have := HY.out; have := Q2.out; omega⟩, ⟨Nat.le_refl _⟩, ⟨HJ2.out⟩, ⟨by have := HCL.out; have := HY.out; omega⟩, ⟨HMS.out⟩, ⟨pR HU.out⟩, ⟨pR HO.out⟩, ⟨by (with_reducible repeat (first | apply Inn.alloc | apply Inn.drewN | apply Inn.drew)); exact HN.out⟩, ⟨pR HF.out⟩, ⟨pk BM.out⟩, ⟨(pB HB.out)⟩⟩
      ·have l2_ : decide (y < (F.length : Int)) = false := decide_eq_false hlt2
       have hJ := HJ.out
       rw [int_drop_end F y hlt2] at hJ
       simp only [impl_AllCuts.c, List.append_nil] at hJ
       subst hJ
       clear HJ hlt2
       obtain ⟨AU, cU, eU⟩ := Kd.R_slice HU.out
       subst eU
       have HCL2 := aQ (show cu.length ≤ 10 by have := HCL.out; have := HFL.out; have := HY.out; omega)
       have zBM0 : wr.cell? ⟨gm, 0, none⟩ = some (.int .i64 a0_0) := (blk_cell BM.out 0).trans rfl
       have zBM1 : wr.cell? ⟨gm, 1, none⟩ = some (.slice A0_1 l0_1.length c0_1) := (blk_cell BM.out 1).trans rfl
       cases tm with
       | true =>
        have HMo2 := Lib.hid (show impl_IsModularCut.f k a0_0 l0_1 cu = some true by have h_ := HMo.out; rw [HCC.out] at h_; exact h_)
        have HI3 := Lib.hid (show impl_AllCuts.l k a0_0 l0_1 F (N - (x + 1).toNat) (x + 1) (out ++ [cu]) = some ro by have h_ := HI2.out; rw [if_pos rfl, HCC.out] at h_; exact h_)
        go_wp2_with (first | (go_at_call 22; (with_reducible refine (impl_IsModularCut.calls k a0_0 _ _ l0_1 _ _ cu true _ ?side1 ?side2 ?side3 ?side4 HMo2.out).mono ?_); (case side1 => repeat (first | exact HR.out | exact (Kd.C_below HR.out (pB HB.out)) | (with_reducible refine Kd.C_alloc ?_ _) | (with_reducible refine Kd.C_drewN ?_ _) | (with_reducible refine Kd.C_drew ?_))); (case side2 => exact HC.out); (case side3 => repeat (first | exact (Kd.R_reads' HU.out).2.2 | (with_reducible refine Kd.C_alloc ?_ _) | (with_reducible refine Kd.C_drewN ?_ _) | (with_reducible refine Kd.C_drew ?_))); (case side4 => exact (Kd.R_reads' HU.out).2.1); rintro e w7_ ⟨rfl, hb⟩; have n_BM := aQ (blk_below (g := gm) (o := .cells #[(.int .i64 a0_0), (.slice A0_1 l0_1.length c0_1)] 28 (0, 0)) (pk BM.out) hb); have n_HF := aQ (Kd.R_below (pR HF.out) hb); have n_HO := aQ (Kd.R_below (pR HO.out) hb); have n_HU := aQ (Kd.R_below (pR HU.out) hb); have n_HN := aQ (Inn.below (by (with_reducible repeat (first | apply Inn.alloc | apply Inn.drewN | apply Inn.drew)); exact HN.out) hb); have n_HB := aQ (below_step (pB HB.out) hb); clear BM; have BM := n_BM; clear n_BM; clear HF; have HF := n_HF; clear n_HF; clear HO; have HO := n_HO; clear n_HO; clear HU; have HU := n_HU; clear n_HU; clear HN; have HN := n_HN; clear n_HN; clear HB; have HB := n_HB; clear n_HB; clear hb; have zBM0 : w7_.cell? ⟨gm, 0, none⟩ = some (.int .i64 a0_0) := (blk_cell BM.out 0).trans rfl; have zBM1 : w7_.cell? ⟨gm, 1, none⟩ = some (.slice A0_1 l0_1.length c0_1) := (blk_cell BM.out 1).trans rfl) | ((with_reducible refine gate_builtin (b := .append) (xs := #[.tmp 48, .tmp 50]) rfl ?_); at_builtin; refine Kd.R_append kSV (w0 := w) w.heap.size rfl (.tmp 48) (.tmp 50) 26 22 (.slice none 0 0) 24 rfl Try.underlying26 info22 rfl (by decide) (by omega) u4 vs (AU, cu.length, cU) [.slice AU cu.length cU] (fun _ => True) (fun _ => False) rfl rfl ?aP (fun _ hk => hk.elim) ?aF ?aO ?aB ?aS ?aL ?_; (case aP => exact rfl); (case aB => exact (pB HB.out)); (case aF => exact (fun _ _ => trivial)); (case aO => exact (pR HO.out)); (case aS => exact (below_size (pB HB.out))); (case aL => have := HOL.out; have := (Inn.len HN.out); have := HN1.out; have := HX.out; omega); intro v_ w8_ ho hb hg hat; have n_BM := aQ (blk_grown (g := gm) (o := .cells #[(.int .i64 a0_0), (.slice A0_1 l0_1.length c0_1)] 28 (0, 0)) (pk BM.out) hg (Kd.R_ne HO.out BM.out (by decide))); have n_HF := aQ (Kd.R_over' (pR HF.out) (Kd.R_typed HO.out) (by decide) hg); have n_HN := aQ (Inn.snoc (x := ((AU, cu.length, cU) : SV)) (Inn.grown (by (with_reducible repeat (first | apply Inn.alloc | apply Inn.drewN | apply Inn.drew)); exact HN.out) (Kd.R_typed HO.out) (by decide) hg) (Kd.R_mono (Kd.R_over' (pR HU.out) (Kd.R_typed HO.out) (by decide) hg) (fun _ _ => trivial))); have n_HS := aQ (show (vs ++ [((AU, cu.length, cU) : SV)]).Pairwise SvNe from List.pairwise_append.2 ⟨HS.out, List.pairwise_singleton _ _, fun a ha b hb_ => by rw [List.mem_singleton] at hb_; subst hb_; intro k_ h1_ h2_; have := HLT.out a ha k_ h1_; have := HU.out.1 k_ h2_; omega⟩); have n_HB := aQ hb; have n_HO := aQ ho; clear BM HF HO HN HS HB HU; have BM := n_BM; have HF := n_HF; have HO := n_HO; have HN := n_HN; have HS := n_HS; have HB := n_HB; clear n_BM n_HF n_HO n_HN n_HS n_HB ho hb hg hat))
        go_roundg (N - (x + 1).toNat)
        case measure => have := HG.out; have := HX.out; have := Q1.out; omega
        case rel => exact ⟨x + 1, _, _, by rw [E1.out], ⟨by have := HX.out; have := Q1.out; omega⟩, ⟨Nat.le_refl _⟩, ⟨HI3.out⟩, ⟨by have := HOL.out; have := HX.out; rw [List.length_append, List.length_singleton]; omega⟩, ⟨pR HO.out⟩, ⟨by (with_reducible repeat (first | apply Inn.alloc | apply Inn.drewN | apply Inn.drew)); exact HN.out⟩, ⟨HS.out⟩, ⟨fun l hl => by rcases List.mem_append.1 hl with hl | hl; exact HLL.out l hl; (rw [List.mem_singleton] at hl; subst hl; exact HCL2.out)⟩, ⟨pR HF.out⟩, ⟨pk BM.out⟩, ⟨(pB HB.out)⟩⟩
       | false =>
        have HMo2 := Lib.hid (show impl_IsModularCut.f k a0_0 l0_1 cu = some false by have h_ := HMo.out; rw [HCC.out] at h_; exact h_)
        have HI3 := Lib.hid (show impl_AllCuts.l k a0_0 l0_1 F (N - (x + 1).toNat) (x + 1) out = some ro by have h_ := HI2.out; rw [if_neg (by decide)] at h_; exact h_)
        go_wp2_with (first | (go_at_call 22; (with_reducible refine (impl_IsModularCut.calls k a0_0 _ _ l0_1 _ _ cu false _ ?side1 ?side2 ?side3 ?side4 HMo2.out).mono ?_); (case side1 => repeat (first | exact HR.out | exact (Kd.C_below HR.out (pB HB.out)) | (with_reducible refine Kd.C_alloc ?_ _) | (with_reducible refine Kd.C_drewN ?_ _) | (with_reducible refine Kd.C_drew ?_))); (case side2 => exact HC.out); (case side3 => repeat (first | exact (Kd.R_reads' HU.out).2.2 | (with_reducible refine Kd.C_alloc ?_ _) | (with_reducible refine Kd.C_drewN ?_ _) | (with_reducible refine Kd.C_drew ?_))); (case side4 => exact (Kd.R_reads' HU.out).2.1); rintro e w7_ ⟨rfl, hb⟩; have n_BM := aQ (blk_below (g := gm) (o := .cells #[(.int .i64 a0_0), (.slice A0_1 l0_1.length c0_1)] 28 (0, 0)) (pk BM.out) hb); have n_HF := aQ (Kd.R_below (pR HF.out) hb); have n_HO := aQ (Kd.R_below (pR HO.out) hb); have n_HU := aQ (Kd.R_below (pR HU.out) hb); have n_HN := aQ (Inn.below (by (with_reducible repeat (first | apply Inn.alloc | apply Inn.drewN | apply Inn.drew)); exact HN.out) hb); have n_HB := aQ (below_step (pB HB.out) hb); clear BM; have BM := n_BM; clear n_BM; clear HF; have HF := n_HF; clear n_HF; clear HO; have HO := n_HO; clear n_HO; clear HU; have HU := n_HU; clear n_HU; clear HN; have HN := n_HN; clear n_HN; clear HB; have HB := n_HB; clear n_HB; clear hb; have zBM0 : w7_.cell? ⟨gm, 0, none⟩ = some (.int .i64 a0_0) := (blk_cell BM.out 0).trans rfl; have zBM1 : w7_.cell? ⟨gm, 1, none⟩ = some (.slice A0_1 l0_1.length c0_1) := (blk_cell BM.out 1).trans rfl))
        go_roundg (N - (x + 1).toNat)
        case measure => have := HG.out; have := HX.out; have := Q1.out; omega
        case rel => exact ⟨x + 1, _, _, by rw [E1.out], ⟨by have := HX.out; have := Q1.out; omega⟩, ⟨Nat.le_refl _⟩, ⟨HI3.out⟩, ⟨by have := HOL.out; have := HX.out; omega⟩, ⟨pR HO.out⟩, ⟨by (with_reducible repeat (first | apply Inn.alloc | apply Inn.drewN | apply Inn.drew)); exact HN.out⟩, ⟨HS.out⟩, ⟨HLL.out⟩, ⟨pR HF.out⟩, ⟨pk BM.out⟩, ⟨(pB HB.out)⟩⟩
    ·have l1_ : decide (x < (N : Int)) = false := decide_eq_false hlt
     have hI := HI.out
     rw [show N - x.toNat = 0 by omega] at hI
     simp only [impl_AllCuts.l, Option.some.injEq] at hI
     subst hI
     clear HI hlt
     obtain ⟨AO, cO, eO⟩ := Kd.R_slice HO.out
     subst eO
     have HV := aQ (show vs ≠ [] from fun e_ => HNE.out (List.length_eq_zero_iff.1 (by rw [← (Inn.len HN.out), e_]; rfl)))
     go_wp2_with (first | (go_at_call 23; (with_reducible refine (sortFunc_walk vs out AO cO (fun _ => True) w _ (pB HB.out) (pR HO.out) (by (with_reducible repeat (first | apply Inn.alloc | apply Inn.drewN | apply Inn.drew)); exact HN.out) HV.out (by have := (Inn.len HN.out); have := HOL.out; have := HX.out; have := HN1.out; omega) (fun l hl => by have := HLL.out l hl; omega)).mono ?_); rintro e w9_ ⟨rfl, vs2, hp_, hl_, ho_, hn_, hb_, hk_⟩; have HP := aQ hp_; have HO2 := aQ ho_; have HN2 := aQ hn_; have HB2 := aQ hb_; clear HB hp_ hl_ ho_ hn_ hb_ hk_; have HB := HB2))
     go_ret
     exact ⟨_, vs2, rs_, by (with_reducible repeat (first | apply Kd.R_alloc | apply Kd.R_drewN | apply Kd.R_drew)); exact HO2.out, by (with_reducible repeat (first | apply Inn.alloc | apply Inn.drewN | apply Inn.drew)); exact HN2.out, (HP.out.pairwise_iff (fun {a b} h_ => SvNe.symm h_)).2 HS.out, (pB HB.out)⟩
theorem impl_AllCuts.calls (k : Nat) (a0_0 : Int) (A0_1 : Option Addr) (c0_1 : Nat) (l0_1 : List Int) (r : List (List Int)) (w : World) (hr0_1 : Kd.C (Kd.int .i64) w A0_1 l0_1.length l0_1) (hc0_1 : l0_1.length ≤ c0_1) (h : impl_AllCuts.f k a0_0 l0_1 = some r) :
  Calls Try.prog 7 #[.agg #[.int .i64 a0_0, .slice A0_1 l0_1.length c0_1]] w fun e w' => ∃ v0_ : Value, e = .returned (v0_) ∧ Kd.S (Kd.slice 3 (Kd.int .i64)) 22 w' w.heap.size (fun _ => True) v0_ r ∧ Below w.heap.size w w' :=
 (impl_AllCuts.calls_sep k a0_0 A0_1 c0_1 l0_1 r w hr0_1 hc0_1 h).mono (fun e w' ⟨v, vs, he, hr, hn, hs_, hb⟩ => ⟨v, he, Inn.srow (by decide) hr hn hs_, hb⟩)
/-! ### spec_AllCuts: function 5 (by hand) -/
theorem own_len (A : Option Addr) (n m c : Nat) : (Value.slice A n c).ownBlock = (Value.slice A m c).ownBlock := by
 rcases A with _ | ⟨g, o, p⟩ <;> rfl
def spec_AllCuts.c (b : Int) : Int → List Int → Option (List Int)
 | _, [] => some []
 | i, x :: xs => (spec_l2Has.f b i).bind fun h => (spec_AllCuts.c b (i + 1) xs).bind fun ys => some (if h = true then x :: ys else ys)
theorem spec_AllCuts.c_len (b : Int) : ∀ (xs : List Int) (i : Int) (C : List Int), spec_AllCuts.c b i xs = some C → C.length ≤ xs.length := by
 intro xs
 induction xs with
 | nil => intro i C h; cases h; exact Nat.le_refl _
 | cons x xs ih =>
  intro i C h
  simp only [spec_AllCuts.c] at h
  obtain ⟨hb, _, h⟩ := Option.bind_eq_some_iff.1 h
  obtain ⟨ys, h2, h⟩ := Option.bind_eq_some_iff.1 h
  have := ih _ _ h2
  cases hb
  ·rw [if_neg (by decide)] at h; cases h; simp only [List.length_cons]; omega
  ·rw [if_pos rfl] at h; cases h; simp only [List.length_cons]; omega
def spec_AllCuts.p (k : Nat) (C : List Int) : List (List Int) → Option Nat
 | [] => some 0
 | o :: os => (spec_l17Before.f k o C).bind fun h => if h = true then (spec_AllCuts.p k C os).bind fun q => some (q + 1) else some 0
theorem spec_AllCuts.p_mono (k : Nat) (C : List Int) : ∀ os : List (List Int), LeO (spec_AllCuts.p k C os) (spec_AllCuts.p (k + 1) C os) := by
 intro os
 induction os with
 | nil => exact LeO.refl _
 | cons o os ih => exact LeO.bind (spec_l17Before.mono _ _ _) (fun h => LeO.ite (LeO.bind ih (fun q => LeO.refl _)) (LeO.refl _))
theorem spec_AllCuts.p_le (k : Nat) (C : List Int) : ∀ (os : List (List Int)) (q : Nat), spec_AllCuts.p k C os = some q → q ≤ os.length := by
 intro os
 induction os with
 | nil => intro q h; cases h; exact Nat.le_refl _
 | cons o os ih =>
  intro q h
  simp only [spec_AllCuts.p] at h
  obtain ⟨hb, _, h⟩ := Option.bind_eq_some_iff.1 h
  cases hb
  ·rw [if_neg (by decide)] at h; cases h; exact Nat.zero_le _
  ·rw [if_pos rfl] at h
   obtain ⟨q2, h2, h⟩ := Option.bind_eq_some_iff.1 h
   have := ih _ h2
   cases h; simp only [List.length_cons]; omega
def spec_AllCuts.l (k : Nat) (n : Int) (l F : List Int) : Nat → Int → List (List Int) → Option (List (List Int))
 | 0, _, out => some out
 | d + 1, b, out => (spec_AllCuts.c b 0 F).bind fun C => (spec_l17Cut.f k n l F C).bind fun t => if t = true then (spec_AllCuts.p k C out).bind fun q => spec_AllCuts.l k n l F d (b + 1) ((out.take q ++ [C]) ++ out.drop q) else spec_AllCuts.l k n l F d (b + 1) out
theorem spec_AllCuts.l_mono (k : Nat) (n : Int) (l F : List Int) : ∀ (d : Nat) (b : Int) (out : List (List Int)), LeO (spec_AllCuts.l k n l F d b out) (spec_AllCuts.l (k + 1) n l F d b out) := by
 intro d
 induction d with
 | zero => intro b out; exact LeO.refl _
 | succ d ih =>
  intro b out
  exact LeO.bind (LeO.refl _) (fun C => LeO.bind (spec_l17Cut.mono _ _ _ _ _) (fun t => LeO.ite (LeO.bind (spec_AllCuts.p_mono _ _ _) (fun q => ih _ _)) (ih _ _)))
def spec_AllCuts.f (k : Nat) (a0_0 : Int) (l0_1 : List Int) : Option (List (List Int)) := (spec_Flats.f k a0_0 l0_1).bind fun F => (spec_IsMatroid.f k a0_0 l0_1).bind fun t => if t = true then (if 10 < (F.length : Int) then some [] else spec_AllCuts.l k a0_0 l0_1 F (2 ^ F.length) 0 []) else some []
theorem spec_AllCuts.mono : ∀ a0 a1 k, LeO (spec_AllCuts.f k a0 a1) (spec_AllCuts.f (k + 1) a0 a1) := by
 intro a0 a1 k
 unfold spec_AllCuts.f
 exact LeO.bind (spec_Flats.mono _ _ _) (fun F => LeO.bind (spec_IsMatroid.mono _ _ _) (fun t => LeO.ite (LeO.ite (LeO.refl _) (spec_AllCuts.l_mono _ _ _ _ _ _ _)) (LeO.refl _)))
set_option maxHeartbeats 4000000 in
set_option maxRecDepth 100000 in
theorem spec_AllCuts.calls_vs (k : Nat) (a0_0 : Int) (A0_1 : Option Addr) (c0_1 : Nat) (l0_1 : List Int) (r : List (List Int)) (w : World) (hr0_1 : Kd.C (Kd.int .i64) w A0_1 l0_1.length l0_1) (hc0_1 : l0_1.length ≤ c0_1) (h : spec_AllCuts.f k a0_0 l0_1 = some r) :
  Calls Try.prog 5 #[.agg #[.int .i64 a0_0, .slice A0_1 l0_1.length c0_1]] w fun e w' => ∃ (v0_ : Value) (vs : List SV), e = .returned (v0_) ∧ kSV.R 22 w' w.heap.size (fun _ => True) v0_ vs ∧ Inn 3 w' w.heap.size vs r ∧ vs.Pairwise SvNe ∧ Below w.heap.size w w' := by
 have hu := Try.underlying28
 have HR := aQ hr0_1
 have HC := aQ hc0_1
 have HB := aQ (Below.refl w.heap.size w)
 clear hr0_1 hc0_1
 unfold spec_AllCuts.f at h
 obtain ⟨F, hF, h⟩ := Option.bind_eq_some_iff.1 h
 obtain ⟨t, hT, h⟩ := Option.bind_eq_some_iff.1 h
 have HFl := aQ hF
 have HT := aQ hT
 clear hF hT
 cases t with
 | false =>
  rw [if_neg (by decide)] at h
  simp only [Option.some.injEq] at h
  subst h
  go_enter Try.func5, Try.ntmps5
  go_wp2_with (first | ((with_reducible refine gate_dst (N := 1) rfl ?_); refine box_event ?hg (N := 1) ?hd (cs := #[(.int .i64 a0_0), (.slice A0_1 l0_1.length c0_1)]) (t := 28) ?hr ?_; (case hd => rfl); (case hg => rfl); (case hr => first | (go_simp; done) | (go_simp; rfl)); intro gm hg w1_ hbox hb; have GBM := aQ ((by rw [hg]; exact below_size (pB HB.out)) : w.heap.size ≤ gm); replace HB := aQ (below_step (pB HB.out) hb); have BM := aQ hbox; clear hb hbox hg; have zBM0 : w1_.cell? ⟨gm, 0, none⟩ = some (.int .i64 a0_0) := (blk_cell BM.out 0).trans rfl; have zBM1 : w1_.cell? ⟨gm, 1, none⟩ = some (.slice A0_1 l0_1.length c0_1) := (blk_cell BM.out 1).trans rfl) | (go_at_call 14; (with_reducible refine (spec_Flats.calls k a0_0 _ _ l0_1 F _ ?side1 ?side2 HFl.out).mono ?_); (case side1 => repeat (first | exact HR.out | exact (Kd.C_below HR.out (pB HB.out)) | (with_reducible refine Kd.C_alloc ?_ _) | (with_reducible refine Kd.C_drewN ?_ _) | (with_reducible refine Kd.C_drew ?_))); (case side2 => exact HC.out); rintro e w2_ ⟨v_, rfl, ho_, hb⟩; have m_HF := aQ (Kd.R_lower ho_ (below_size (pB HB.out))); have n_BM := aQ (blk_below (g := gm) (o := .cells #[(.int .i64 a0_0), (.slice A0_1 l0_1.length c0_1)] 28 (0, 0)) (pk BM.out) hb); have n_HB := aQ (below_step (pB HB.out) hb); clear BM; have BM := n_BM; clear n_BM; clear HB; have HB := n_HB; clear n_HB; have HF := m_HF; clear m_HF ho_; obtain ⟨AHF, cHF, eHF⟩ := Kd.R_slice HF.out; subst eHF; clear hb; have zBM0 : w2_.cell? ⟨gm, 0, none⟩ = some (.int .i64 a0_0) := (blk_cell BM.out 0).trans rfl; have zBM1 : w2_.cell? ⟨gm, 1, none⟩ = some (.slice A0_1 l0_1.length c0_1) := (blk_cell BM.out 1).trans rfl) | ((with_reducible refine gate_dst (N := 12) rfl ?_); refine Kd.R_lit kSV _ 22 ?hg (N := 12) ?hd (xs := ([] : List SV)) (inner := []) (ok := fun _ => True) (okp := fun _ => True) ?hr ?hp (fun _ hk => hk) trivial (Below.refl _ _) (Nat.le_refl _) (by simp) ?_; (case hd => rfl); (case hg => rfl); (case hr => first | (go_simp; done) | (go_simp; rfl)); (case hp => exact (Reps.none _ _)); intro v_ w4_ ho_ hb hg_ hnew_; clear hg_ hnew_; have m_HO := aQ (Kd.R_lower ho_ (below_size (pB HB.out))); have n_BM := aQ (blk_below (g := gm) (o := .cells #[(.int .i64 a0_0), (.slice A0_1 l0_1.length c0_1)] 28 (0, 0)) (pk BM.out) hb); have n_HF := aQ (Kd.R_below (pR HF.out) hb); have n_HB := aQ (below_step (pB HB.out) hb); clear BM; have BM := n_BM; clear n_BM; clear HF; have HF := n_HF; clear n_HF; clear HB; have HB := n_HB; clear n_HB; have HO := m_HO; clear m_HO ho_ hb; have zBM0 : w4_.cell? ⟨gm, 0, none⟩ = some (.int .i64 a0_0) := (blk_cell BM.out 0).trans rfl; have zBM1 : w4_.cell? ⟨gm, 1, none⟩ = some (.slice A0_1 l0_1.length c0_1) := (blk_cell BM.out 1).trans rfl) | (go_at_call 15; (with_reducible refine (spec_IsMatroid.calls k a0_0 _ _ l0_1 false _ ?side1 ?side2 HT.out).mono ?_); (case side1 => repeat (first | exact HR.out | exact (Kd.C_below HR.out (pB HB.out)) | (with_reducible refine Kd.C_alloc ?_ _) | (with_reducible refine Kd.C_drewN ?_ _) | (with_reducible refine Kd.C_drew ?_))); (case side2 => exact HC.out); rintro e w3_ ⟨rfl, hb⟩; have n_BM := aQ (blk_below (g := gm) (o := .cells #[(.int .i64 a0_0), (.slice A0_1 l0_1.length c0_1)] 28 (0, 0)) (pk BM.out) hb); have n_HF := aQ (Kd.R_below (pR HF.out) hb); have n_HO := aQ (Kd.R_below (pR HO.out) hb); have n_HB := aQ (below_step (pB HB.out) hb); clear BM; have BM := n_BM; clear n_BM; clear HF; have HF := n_HF; clear n_HF; clear HO; have HO := n_HO; clear n_HO; clear HB; have HB := n_HB; clear n_HB; clear hb; have zBM0 : w3_.cell? ⟨gm, 0, none⟩ = some (.int .i64 a0_0) := (blk_cell BM.out 0).trans rfl; have zBM1 : w3_.cell? ⟨gm, 1, none⟩ = some (.slice A0_1 l0_1.length c0_1) := (blk_cell BM.out 1).trans rfl))
  go_ret
  exact ⟨_, [], rs_, by (with_reducible repeat (first | apply Kd.R_alloc | apply Kd.R_drewN | apply Kd.R_drew)); exact HO.out, Inn.nil _ _ _, List.Pairwise.nil, (pB HB.out)⟩
 | true =>
  rw [if_pos rfl] at h
  by_cases hg : 10 < (F.length : Int)
  ·rw [if_pos hg] at h
   simp only [Option.some.injEq] at h
   subst h
   have l5 : decide (10 < (F.length : Int)) = true := decide_eq_true hg
   clear hg
   go_enter Try.func5, Try.ntmps5
   go_wp2_with (first | ((with_reducible refine gate_dst (N := 1) rfl ?_); refine box_event ?hg (N := 1) ?hd (cs := #[(.int .i64 a0_0), (.slice A0_1 l0_1.length c0_1)]) (t := 28) ?hr ?_; (case hd => rfl); (case hg => rfl); (case hr => first | (go_simp; done) | (go_simp; rfl)); intro gm hg w1_ hbox hb; have GBM := aQ ((by rw [hg]; exact below_size (pB HB.out)) : w.heap.size ≤ gm); replace HB := aQ (below_step (pB HB.out) hb); have BM := aQ hbox; clear hb hbox hg; have zBM0 : w1_.cell? ⟨gm, 0, none⟩ = some (.int .i64 a0_0) := (blk_cell BM.out 0).trans rfl; have zBM1 : w1_.cell? ⟨gm, 1, none⟩ = some (.slice A0_1 l0_1.length c0_1) := (blk_cell BM.out 1).trans rfl) | (go_at_call 14; (with_reducible refine (spec_Flats.calls k a0_0 _ _ l0_1 F _ ?side1 ?side2 HFl.out).mono ?_); (case side1 => repeat (first | exact HR.out | exact (Kd.C_below HR.out (pB HB.out)) | (with_reducible refine Kd.C_alloc ?_ _) | (with_reducible refine Kd.C_drewN ?_ _) | (with_reducible refine Kd.C_drew ?_))); (case side2 => exact HC.out); rintro e w2_ ⟨v_, rfl, ho_, hb⟩; have m_HF := aQ (Kd.R_lower ho_ (below_size (pB HB.out))); have n_BM := aQ (blk_below (g := gm) (o := .cells #[(.int .i64 a0_0), (.slice A0_1 l0_1.length c0_1)] 28 (0, 0)) (pk BM.out) hb); have n_HB := aQ (below_step (pB HB.out) hb); clear BM; have BM := n_BM; clear n_BM; clear HB; have HB := n_HB; clear n_HB; have HF := m_HF; clear m_HF ho_; obtain ⟨AHF, cHF, eHF⟩ := Kd.R_slice HF.out; subst eHF; clear hb; have zBM0 : w2_.cell? ⟨gm, 0, none⟩ = some (.int .i64 a0_0) := (blk_cell BM.out 0).trans rfl; have zBM1 : w2_.cell? ⟨gm, 1, none⟩ = some (.slice A0_1 l0_1.length c0_1) := (blk_cell BM.out 1).trans rfl) | ((with_reducible refine gate_dst (N := 12) rfl ?_); refine Kd.R_lit kSV _ 22 ?hg (N := 12) ?hd (xs := ([] : List SV)) (inner := []) (ok := fun _ => True) (okp := fun _ => True) ?hr ?hp (fun _ hk => hk) trivial (Below.refl _ _) (Nat.le_refl _) (by simp) ?_; (case hd => rfl); (case hg => rfl); (case hr => first | (go_simp; done) | (go_simp; rfl)); (case hp => exact (Reps.none _ _)); intro v_ w4_ ho_ hb hg_ hnew_; clear hg_ hnew_; have m_HO := aQ (Kd.R_lower ho_ (below_size (pB HB.out))); have n_BM := aQ (blk_below (g := gm) (o := .cells #[(.int .i64 a0_0), (.slice A0_1 l0_1.length c0_1)] 28 (0, 0)) (pk BM.out) hb); have n_HF := aQ (Kd.R_below (pR HF.out) hb); have n_HB := aQ (below_step (pB HB.out) hb); clear BM; have BM := n_BM; clear n_BM; clear HF; have HF := n_HF; clear n_HF; clear HB; have HB := n_HB; clear n_HB; have HO := m_HO; clear m_HO ho_ hb; have zBM0 : w4_.cell? ⟨gm, 0, none⟩ = some (.int .i64 a0_0) := (blk_cell BM.out 0).trans rfl; have zBM1 : w4_.cell? ⟨gm, 1, none⟩ = some (.slice A0_1 l0_1.length c0_1) := (blk_cell BM.out 1).trans rfl) | (go_at_call 15; (with_reducible refine (spec_IsMatroid.calls k a0_0 _ _ l0_1 true _ ?side1 ?side2 HT.out).mono ?_); (case side1 => repeat (first | exact HR.out | exact (Kd.C_below HR.out (pB HB.out)) | (with_reducible refine Kd.C_alloc ?_ _) | (with_reducible refine Kd.C_drewN ?_ _) | (with_reducible refine Kd.C_drew ?_))); (case side2 => exact HC.out); rintro e w3_ ⟨rfl, hb⟩; have n_BM := aQ (blk_below (g := gm) (o := .cells #[(.int .i64 a0_0), (.slice A0_1 l0_1.length c0_1)] 28 (0, 0)) (pk BM.out) hb); have n_HF := aQ (Kd.R_below (pR HF.out) hb); have n_HO := aQ (Kd.R_below (pR HO.out) hb); have n_HB := aQ (below_step (pB HB.out) hb); clear BM; have BM := n_BM; clear n_BM; clear HF; have HF := n_HF; clear n_HF; clear HO; have HO := n_HO; clear n_HO; clear HB; have HB := n_HB; clear n_HB; clear hb; have zBM0 : w3_.cell? ⟨gm, 0, none⟩ = some (.int .i64 a0_0) := (blk_cell BM.out 0).trans rfl; have zBM1 : w3_.cell? ⟨gm, 1, none⟩ = some (.slice A0_1 l0_1.length c0_1) := (blk_cell BM.out 1).trans rfl))
   go_ret
   exact ⟨_, [], rs_, by (with_reducible repeat (first | apply Kd.R_alloc | apply Kd.R_drewN | apply Kd.R_drew)); exact HO.out, Inn.nil _ _ _, List.Pairwise.nil, (pB HB.out)⟩
  ·rw [if_neg hg] at h
   have l5 : decide (10 < (F.length : Int)) = false := decide_eq_false hg
   have HFL := aQ (show F.length ≤ 10 by omega)
   have hpow : 0 < 2 ^ F.length ∧ 2 ^ F.length ≤ 1024 := ⟨Nat.two_pow_pos _, Nat.le_trans (Nat.pow_le_pow_right (by decide) HFL.out) (by decide)⟩
   have hji28 : shl .i64 1 (F.length : Int) = ((2 ^ F.length : Nat) : Int) := shl_pow10 F.length HFL.out
   have hu64 : IntKind.u64.wrap (F.length : Int) = (F.length : Int) := by simp [IntKind.wrap, IntKind.bits, IntKind.signed]; omega
   generalize hK : 2 ^ F.length = N at h hpow hji28
   have HL := aQ h
   have HN1 := aQ hpow.2
   have hji28_ : (IntKind.i64.wrap (1 * 2 ^ min F.length 64)) = (N : Int) := hji28
   have hji28u : (IntKind.i64.wrap (2 ^ min F.length 64)) = (N : Int) := by have h_ := hji28_; rw [Int.one_mul] at h_; exact h_
   have hji28z : F.length ≤ 64 → (IntKind.i64.wrap (2 ^ F.length)) = (N : Int) := fun hle_ => by have h_ := hji28u; rw [Nat.min_eq_left hle_] at h_; exact h_
   have hji28v : F.length ≤ 64 → (IntKind.i64.wrap (1 * 2 ^ F.length)) = (N : Int) := fun hle_ => by rw [Int.one_mul]; exact hji28z hle_
   have hji28y : (wrap64 (1 * 2 ^ min F.length 64)) = (N : Int) := (i64_w _).symm.trans hji28_
   have hji28x : F.length ≤ 64 → (wrap64 (1 * 2 ^ F.length)) = (N : Int) := fun h_ => (i64_w _).symm.trans (hji28v h_)
   have hle64 : (F.length ≤ 64) = True := eq_true (by omega)
   clear h hK hpow hg
   go_enter Try.func5, Try.ntmps5
   go_wp2_with (first | ((with_reducible refine gate_dst (N := 1) rfl ?_); refine box_event ?hg (N := 1) ?hd (cs := #[(.int .i64 a0_0), (.slice A0_1 l0_1.length c0_1)]) (t := 28) ?hr ?_; (case hd => rfl); (case hg => rfl); (case hr => first | (go_simp; done) | (go_simp; rfl)); intro gm hg w1_ hbox hb; have GBM := aQ ((by rw [hg]; exact below_size (pB HB.out)) : w.heap.size ≤ gm); replace HB := aQ (below_step (pB HB.out) hb); have BM := aQ hbox; clear hb hbox hg; have zBM0 : w1_.cell? ⟨gm, 0, none⟩ = some (.int .i64 a0_0) := (blk_cell BM.out 0).trans rfl; have zBM1 : w1_.cell? ⟨gm, 1, none⟩ = some (.slice A0_1 l0_1.length c0_1) := (blk_cell BM.out 1).trans rfl) | (go_at_call 14; (with_reducible refine (spec_Flats.calls k a0_0 _ _ l0_1 F _ ?side1 ?side2 HFl.out).mono ?_); (case side1 => repeat (first | exact HR.out | exact (Kd.C_below HR.out (pB HB.out)) | (with_reducible refine Kd.C_alloc ?_ _) | (with_reducible refine Kd.C_drewN ?_ _) | (with_reducible refine Kd.C_drew ?_))); (case side2 => exact HC.out); rintro e w2_ ⟨v_, rfl, ho_, hb⟩; have m_HF := aQ (Kd.R_lower ho_ (below_size (pB HB.out))); have n_BM := aQ (blk_below (g := gm) (o := .cells #[(.int .i64 a0_0), (.slice A0_1 l0_1.length c0_1)] 28 (0, 0)) (pk BM.out) hb); have n_HB := aQ (below_step (pB HB.out) hb); clear BM; have BM := n_BM; clear n_BM; clear HB; have HB := n_HB; clear n_HB; have HF := m_HF; clear m_HF ho_; obtain ⟨AHF, cHF, eHF⟩ := Kd.R_slice HF.out; subst eHF; clear hb; have zBM0 : w2_.cell? ⟨gm, 0, none⟩ = some (.int .i64 a0_0) := (blk_cell BM.out 0).trans rfl; have zBM1 : w2_.cell? ⟨gm, 1, none⟩ = some (.slice A0_1 l0_1.length c0_1) := (blk_cell BM.out 1).trans rfl) | ((with_reducible refine gate_dst (N := 12) rfl ?_); refine Kd.R_lit kSV _ 22 ?hg (N := 12) ?hd (xs := ([] : List SV)) (inner := []) (ok := fun _ => True) (okp := fun _ => True) ?hr ?hp (fun _ hk => hk) trivial (Below.refl _ _) (Nat.le_refl _) (by simp) ?_; (case hd => rfl); (case hg => rfl); (case hr => first | (go_simp; done) | (go_simp; rfl)); (case hp => exact (Reps.none _ _)); intro v_ w4_ ho_ hb hg_ hnew_; clear hg_ hnew_; have m_HO := aQ (Kd.R_lower ho_ (below_size (pB HB.out))); have n_BM := aQ (blk_below (g := gm) (o := .cells #[(.int .i64 a0_0), (.slice A0_1 l0_1.length c0_1)] 28 (0, 0)) (pk BM.out) hb); have n_HF := aQ (Kd.R_below (pR HF.out) hb); have n_HB := aQ (below_step (pB HB.out) hb); clear BM; have BM := n_BM; clear n_BM; clear HF; have HF := n_HF; clear n_HF; clear HB; have HB := n_HB; clear n_HB; have HO := m_HO; clear m_HO ho_ hb; have zBM0 : w4_.cell? ⟨gm, 0, none⟩ = some (.int .i64 a0_0) := (blk_cell BM.out 0).trans rfl; have zBM1 : w4_.cell? ⟨gm, 1, none⟩ = some (.slice A0_1 l0_1.length c0_1) := (blk_cell BM.out 1).trans rfl) | (go_at_call 15; (with_reducible refine (spec_IsMatroid.calls k a0_0 _ _ l0_1 true _ ?side1 ?side2 HT.out).mono ?_); (case side1 => repeat (first | exact HR.out | exact (Kd.C_below HR.out (pB HB.out)) | (with_reducible refine Kd.C_alloc ?_ _) | (with_reducible refine Kd.C_drewN ?_ _) | (with_reducible refine Kd.C_drew ?_))); (case side2 => exact HC.out); rintro e w3_ ⟨rfl, hb⟩; have n_BM := aQ (blk_below (g := gm) (o := .cells #[(.int .i64 a0_0), (.slice A0_1 l0_1.length c0_1)] 28 (0, 0)) (pk BM.out) hb); have n_HF := aQ (Kd.R_below (pR HF.out) hb); have n_HO := aQ (Kd.R_below (pR HO.out) hb); have n_HB := aQ (below_step (pB HB.out) hb); clear BM; have BM := n_BM; clear n_BM; clear HF; have HF := n_HF; clear n_HF; clear HO; have HO := n_HO; clear n_HO; clear HB; have HB := n_HB; clear n_HB; clear hb; have zBM0 : w3_.cell? ⟨gm, 0, none⟩ = some (.int .i64 a0_0) := (blk_cell BM.out 0).trans rfl; have zBM1 : w3_.cell? ⟨gm, 1, none⟩ = some (.slice A0_1 l0_1.length c0_1) := (blk_cell BM.out 1).trans rfl))
   go_loopg [4, 5] N (fun gg s4 s5 wr => ∃ (x : Int) (vs : List SV) (out : List (List Int)), s5 = .int .i64 x ∧ Aside0 (0 ≤ x ∧ x ≤ (N : Int)) ∧ Aside0 (N - x.toNat ≤ gg) ∧ Aside0 (spec_AllCuts.l k a0_0 l0_1 F (N - x.toNat) x out = some r) ∧ Aside0 (out.length ≤ x.toNat) ∧ Aside0 (kSV.R 22 wr w.heap.size (fun _ => True) s4 vs) ∧ Aside0 (Inn 3 wr w.heap.size vs out) ∧ Aside0 (vs.Pairwise SvNe) ∧ Aside0 (Kd.R (Kd.int .i64) 3 wr w.heap.size (fun _ => True) (.slice AHF F.length cHF) F) ∧ Aside0 (wr.heap[gm]? = some (.cells #[(.int .i64 a0_0), (.slice A0_1 l0_1.length c0_1)] 28 (0, 0))) ∧ Aside0 (Below w.heap.size w wr))
   case atStart => exact ⟨0, [], [], rfl, ⟨by omega⟩, ⟨by omega⟩, ⟨HL.out⟩, ⟨Nat.le_refl _⟩, ⟨pR HO.out⟩, ⟨Inn.nil _ _ _⟩, ⟨List.Pairwise.nil⟩, ⟨pR HF.out⟩, ⟨pk BM.out⟩, ⟨(pB HB.out)⟩⟩
   case round =>
    clear HL
    try clear HO
    try clear HF
    try clear BM
    try clear HB
    try clear zBM0
    try clear zBM1
    obtain ⟨x, vs, out, rfl, HX, HG, HI, HOL, HO, HN, HS, HF, BM, HB⟩ := hrel
    by_cases hlt : x < (N : Int)
    ·have p1 : 0 ≤ x := HX.out.1
     have l1_ : decide (x < (N : Int)) = true := decide_eq_true hlt
     have hI := HI.out
     have HNL := Lib.hid (show N - x.toNat = (N - (x + 1).toNat) + 1 by omega)
     rw [HNL.out] at hI
     simp only [spec_AllCuts.l] at hI
     obtain ⟨C, hC, hI⟩ := Option.bind_eq_some_iff.1 hI
     obtain ⟨tm, hM, hI⟩ := Option.bind_eq_some_iff.1 hI
     have HMo := Lib.hid hM
     have HI2 := Lib.hid hI
     have HCC := Lib.hid hC
     have E1 := Lib.hid (wrap64_of (n := x + 1) (by omega) (by have := HN1.out; omega))
     have Q1 := aQ hlt
     clear hI hM HI hC
     replace hlt := eq_true hlt
     replace p1 := eq_true p1
     have zBM0 : wr.cell? ⟨gm, 0, none⟩ = some (.int .i64 a0_0) := (blk_cell BM.out 0).trans rfl
     have zBM1 : wr.cell? ⟨gm, 1, none⟩ = some (.slice A0_1 l0_1.length c0_1) := (blk_cell BM.out 1).trans rfl
     go_wp2_with (first | ((with_reducible refine gate_dst (N := 30) rfl ?_); refine Kd.R_lit (Kd.int .i64) _ 3 ?hg (N := 30) ?hd (xs := ([] : List Int)) (inner := []) (ok := fun _ => True) (okp := fun _ => True) ?hr ?hp (fun _ hk => hk) trivial (Below.refl _ _) (Nat.le_refl _) (by simp) ?_; (case hd => rfl); (case hg => rfl); (case hr => first | (go_simp; done) | (go_simp; rfl)); (case hp => exact (Reps.none _ _)); intro v_ w5_ ho_ hb hg_ hnew_; clear hg_ hnew_; obtain ⟨M, hM_⟩ : ∃ M, wr.heap.size = M := ⟨_, rfl⟩; have HLT := aQ (show ∀ p ∈ vs, ∀ k, (svV p).ownBlock = some k → k < M from by rw [← hM_]; exact Inn.lt HN.out); have HFU := aQ (show ∀ k, (.slice AHF F.length cHF : Value).ownBlock = some k → k < M from by rw [← hM_]; exact Kd.R_lt HF.out); have HMS := aQ (show M ≤ w5_.heap.size from by rw [← hM_]; exact hb.size); have m_HU := aQ (Kd.R_lower (Kd.R_mono (ok' := fun k_ => M ≤ k_) (Kd.R_bound ho_) (fun k_ hk_ => by rw [← hM_]; exact hk_.2.1)) (below_size (pB HB.out))); have n_BM := aQ (blk_below (g := gm) (o := .cells #[(.int .i64 a0_0), (.slice A0_1 l0_1.length c0_1)] 28 (0, 0)) (pk BM.out) hb); have n_HF := aQ (Kd.R_below (pR HF.out) hb); have n_HO := aQ (Kd.R_below (pR HO.out) hb); have n_HN := aQ (Inn.below (by (with_reducible repeat (first | apply Inn.alloc | apply Inn.drewN | apply Inn.drew)); exact HN.out) hb); have n_HB := aQ (below_step (pB HB.out) hb); clear BM; have BM := n_BM; clear n_BM; clear HF; have HF := n_HF; clear n_HF; clear HO; have HO := n_HO; clear n_HO; clear HN; have HN := n_HN; clear n_HN; clear HB; have HB := n_HB; clear n_HB; have HU := m_HU; clear m_HU ho_ hb hM_; have zBM0 : w5_.cell? ⟨gm, 0, none⟩ = some (.int .i64 a0_0) := (blk_cell BM.out 0).trans rfl; have zBM1 : w5_.cell? ⟨gm, 1, none⟩ = some (.slice A0_1 l0_1.length c0_1) := (blk_cell BM.out 1).trans rfl))
     go_loopg [6, 7] F.length (fun gg s6 s7 wr => ∃ (y : Int) (cu ys : List Int), s7 = .int .i64 y ∧ Aside0 (0 ≤ y ∧ y ≤ (F.length : Int)) ∧ Aside0 (F.length - y.toNat ≤ gg) ∧ Aside0 (spec_AllCuts.c x y (F.drop y.toNat) = some ys) ∧ Aside0 (cu ++ ys = C) ∧ Aside0 (cu.length ≤ y.toNat) ∧ Aside0 (M ≤ wr.heap.size) ∧ Aside0 (Kd.R (Kd.int .i64) 3 wr w.heap.size (fun k_ => M ≤ k_) s6 cu) ∧ Aside0 (kSV.R 22 wr w.heap.size (fun _ => True) u4 vs) ∧ Aside0 (Inn 3 wr w.heap.size vs out) ∧ Aside0 (Kd.R (Kd.int .i64) 3 wr w.heap.size (fun _ => True) (.slice AHF F.length cHF) F) ∧ Aside0 (wr.heap[gm]? = some (.cells #[(.int .i64 a0_0), (.slice A0_1 l0_1.length c0_1)] 28 (0, 0))) ∧ Aside0 (Below w.heap.size w wr))
     case atStart => exact ⟨0, [], C, rfl, ⟨by omega⟩, ⟨by omega⟩, ⟨HCC.out⟩, ⟨rfl⟩, ⟨Nat.le_refl _⟩, ⟨by first | exact HMS.out | (have := HMS.out; simp at *; omega)⟩, ⟨pR HU.out⟩, ⟨pR HO.out⟩, ⟨by (with_reducible repeat (first | apply Inn.alloc | apply Inn.drewN | apply Inn.drew)); exact HN.out⟩, ⟨pR HF.out⟩, ⟨pk BM.out⟩, ⟨(pB HB.out)⟩⟩
     case round =>
      try clear HU
      try clear HMS
      try clear HO
      try clear HN
      try clear HF
      try clear BM
      try clear HB
      try clear zBM0
      try clear zBM1
      obtain ⟨y, cu, ys, rfl, HY, HG2, HJ, HCU, HCL, HMS, HU, HO, HN, HF, BM, HB⟩ := hrel
      by_cases hlt2 : y < (F.length : Int)
      ·have p2 : 0 ≤ y := HY.out.1
       have l2_ : decide (y < (F.length : Int)) = true := decide_eq_true hlt2
       obtain ⟨ad, ea, hx⟩ := Kd.at_int (Kd.R_reads' HF.out).2.2 y p2 hlt2
       cases ea
       have hJ := HJ.out
       rw [int_drop F y p2 hlt2] at hJ
       simp only [spec_AllCuts.c] at hJ
       obtain ⟨tb, hH, hJ⟩ := Option.bind_eq_some_iff.1 hJ
       obtain ⟨ys2, hY2, hJ⟩ := Option.bind_eq_some_iff.1 hJ
       have HH := Lib.hid hH
       have HY2 := Lib.hid hY2
       clear hH hY2
       have E2 := Lib.hid (wrap64_of (n := y + 1) (by have := HFL.out; omega) (by have := HFL.out; omega))
       have Q2 := aQ hlt2
       clear HJ
       replace p2 := eq_true p2
       replace hlt2 := eq_true hlt2
       cases tb with
       | true =>
        rw [if_pos rfl] at hJ
        simp only [Option.some.injEq] at hJ
        have HCU2 := Lib.hid (show (cu ++ [rd F y]) ++ ys2 = C from by rw [List.append_assoc, ← HCU.out, ← hJ]; rfl)
        clear hJ HCU
        go_wp2_with (first | (go_at_call 16; (with_reducible refine (spec_l2Has.calls x y true _ HH.out).mono ?_); rintro e w' ⟨rfl, ⟨nd, rfl⟩⟩) | ((with_reducible refine gate_builtin (b := .append) (xs := #[.tmp 40, .tmp 45]) rfl ?_); at_builtin; refine Kd.R_append (Kd.int .i64) (w0 := w) w.heap.size rfl (.tmp 40) (.tmp 45) 22 3 (.int .i64 0) 8 rfl Try.underlying22 info3 rfl (by decide) (by omega) u6 cu (rd F y) [.int .i64 (rd F y)] (fun k_ => M ≤ k_) (fun _ => False) rfl rfl ?aP (fun _ hk => hk.elim) ?aF ?aO ?aB ?aS ?aL ?_; (case aP => exact rfl); (case aB => exact (pB HB.out)); (case aF => exact (fun k_ hk_ => Nat.le_trans HMS.out hk_)); (case aO => exact (pR HU.out)); (case aS => exact (below_size (pB HB.out))); (case aL => have := HCL.out; have := HFL.out; have := HY.out; omega); intro v_ w6_ ho hb hg hat; have n_BM := aQ (blk_grown (g := gm) (o := .cells #[(.int .i64 a0_0), (.slice A0_1 l0_1.length c0_1)] 28 (0, 0)) (pk BM.out) hg (Kd.R_ne HU.out BM.out (by decide))); have n_HF := aQ (Kd.R_mono (Kd.R_grown (Kd.R_tight rfl (pR HF.out)) hg (fun k_ hk_ he_ => by have := HFU.out k_ hk_.symm; have := HU.out.1 k_ he_.symm; omega)) (fun _ _ => trivial)); have n_HO := aQ (Kd.R_over' (pR HO.out) (Kd.R_typed (pR HU.out)) (by decide) hg); have n_HN := aQ (Inn.moveM (by (with_reducible repeat (first | apply Inn.alloc | apply Inn.drewN | apply Inn.drew)); exact HN.out) HLT.out hg (fun k_ he => HU.out.1 k_ he)); have n_HMS := aQ (Nat.le_trans HMS.out hg.size); have n_HB := aQ hb; have n_HU := aQ ho; clear BM HF HO HN HB HU HMS; have BM := n_BM; have HF := n_HF; have HO := n_HO; have HN := n_HN; have HB := n_HB; have HU := n_HU; have HMS := n_HMS; clear n_BM n_HF n_HO n_HN n_HB n_HU n_HMS ho hb hg hat))
        go_roundg (F.length - (y + 1).toNat)
        case measure => have := HG2.out; have := HY.out; have := Q2.out; omega
        case rel => exact ⟨y + 1, _, ys2, by rw [E2.out], ⟨by have := HY.out; have := Q2.out; omega⟩, ⟨Nat.le_refl _⟩, ⟨HY2.out⟩, ⟨HCU2.out⟩, ⟨by have := HCL.out; have := HY.out; rw [List.length_append, List.length_singleton]; omega⟩, ⟨HMS.out⟩, ⟨pR HU.out⟩, ⟨pR HO.out⟩, ⟨by (with_reducible repeat (first | apply Inn.alloc | apply Inn.drewN | apply Inn.drew)); exact HN.out⟩, ⟨pR HF.out⟩, ⟨pk BM.out⟩, ⟨(pB HB.out)⟩⟩
       | false =>
        rw [if_neg (by decide)] at hJ
        simp only [Option.some.injEq] at hJ
        have HCU2 := Lib.hid (show cu ++ ys2 = C from by rw [← HCU.out, ← hJ])
        clear hJ HCU
        go_wp2_with (first | (go_at_call 16; (with_reducible refine (spec_l2Has.calls x y false _ HH.out).mono ?_); rintro e w' ⟨rfl, ⟨nd, rfl⟩⟩))
        go_roundg (F.length - (y + 1).toNat)
        case measure => have := HG2.out; have := HY.out; have := Q2.out; omega
        case rel => exact ⟨y + 1, _, ys2, by rw [E2.out], ⟨by have := HY.out; have := Q2.out; omega⟩, ⟨Nat.le_refl _⟩, ⟨HY2.out⟩, ⟨HCU2.out⟩, ⟨by have := HCL.out; have := HY.out; omega⟩, ⟨HMS.out⟩, ⟨pR HU.out⟩, ⟨pR HO.out⟩, ⟨by (with_reducible repeat (first | apply Inn.alloc | apply Inn.drewN | apply Inn.drew)); exact HN.out⟩, ⟨pR HF.out⟩, ⟨pk BM.out⟩, ⟨(pB HB.out)⟩⟩
      ·have l2_ : decide (y < (F.length : Int)) = false := decide_eq_false hlt2
       have hJ := HJ.out
       rw [int_drop_end F y hlt2] at hJ
       simp only [spec_AllCuts.c, Option.some.injEq] at hJ
       subst hJ
       have hCC := HCU.out
       rw [List.append_nil] at hCC
       subst hCC
       clear HJ hlt2 HCU
       obtain ⟨AU, cU, eU⟩ := Kd.R_slice HU.out
       subst eU
       have zBM0 : wr.cell? ⟨gm, 0, none⟩ = some (.int .i64 a0_0) := (blk_cell BM.out 0).trans rfl
       have zBM1 : wr.cell? ⟨gm, 1, none⟩ = some (.slice A0_1 l0_1.length c0_1) := (blk_cell BM.out 1).trans rfl
       cases tm with
       | false =>
        have HI3 := Lib.hid (show spec_AllCuts.l k a0_0 l0_1 F (N - (x + 1).toNat) (x + 1) out = some r by have h_ := HI2.out; rw [if_neg (by decide)] at h_; exact h_)
        go_wp2_with (first | (go_at_call 17; (with_reducible refine (spec_l17Cut.calls k a0_0 _ _ l0_1 _ _ F _ _ cu false _ ?side1 ?side2 ?side3 ?side4 ?side5 ?side6 HMo.out).mono ?_); (case side1 => repeat (first | exact HR.out | exact (Kd.C_below HR.out (pB HB.out)) | (with_reducible refine Kd.C_alloc ?_ _) | (with_reducible refine Kd.C_drewN ?_ _) | (with_reducible refine Kd.C_drew ?_))); (case side2 => exact HC.out); (case side3 => repeat (first | exact (Kd.R_reads' HF.out).2.2 | (with_reducible refine Kd.C_alloc ?_ _) | (with_reducible refine Kd.C_drewN ?_ _) | (with_reducible refine Kd.C_drew ?_))); (case side4 => exact (Kd.R_reads' HF.out).2.1); (case side5 => repeat (first | exact (Kd.R_reads' HU.out).2.2 | (with_reducible refine Kd.C_alloc ?_ _) | (with_reducible refine Kd.C_drewN ?_ _) | (with_reducible refine Kd.C_drew ?_))); (case side6 => exact (Kd.R_reads' HU.out).2.1); rintro e w7_ ⟨rfl, hb⟩; have n_BM := aQ (blk_below (g := gm) (o := .cells #[(.int .i64 a0_0), (.slice A0_1 l0_1.length c0_1)] 28 (0, 0)) (pk BM.out) hb); have n_HF := aQ (Kd.R_below (pR HF.out) hb); have n_HO := aQ (Kd.R_below (pR HO.out) hb); have n_HU := aQ (Kd.R_below (pR HU.out) hb); have n_HN := aQ (Inn.below (by (with_reducible repeat (first | apply Inn.alloc | apply Inn.drewN | apply Inn.drew)); exact HN.out) hb); replace HMS := aQ (Nat.le_trans HMS.out hb.size); have n_HB := aQ (below_step (pB HB.out) hb); clear BM; have BM := n_BM; clear n_BM; clear HF; have HF := n_HF; clear n_HF; clear HO; have HO := n_HO; clear n_HO; clear HU; have HU := n_HU; clear n_HU; clear HN; have HN := n_HN; clear n_HN; clear HB; have HB := n_HB; clear n_HB; clear hb; have zBM0 : w7_.cell? ⟨gm, 0, none⟩ = some (.int .i64 a0_0) := (blk_cell BM.out 0).trans rfl; have zBM1 : w7_.cell? ⟨gm, 1, none⟩ = some (.slice A0_1 l0_1.length c0_1) := (blk_cell BM.out 1).trans rfl))
        go_roundg (N - (x + 1).toNat)
        case measure => have := HG.out; have := HX.out; have := Q1.out; omega
        case rel => exact ⟨x + 1, _, _, by rw [E1.out], ⟨by have := HX.out; have := Q1.out; omega⟩, ⟨Nat.le_refl _⟩, ⟨HI3.out⟩, ⟨by have := HOL.out; have := HX.out; omega⟩, ⟨pR HO.out⟩, ⟨by (with_reducible repeat (first | apply Inn.alloc | apply Inn.drewN | apply Inn.drew)); exact HN.out⟩, ⟨HS.out⟩, ⟨pR HF.out⟩, ⟨pk BM.out⟩, ⟨(pB HB.out)⟩⟩
       | true =>
        obtain ⟨qa, hP, hI3⟩ := Option.bind_eq_some_iff.1 (show (spec_AllCuts.p k cu out).bind (fun q => spec_AllCuts.l k a0_0 l0_1 F (N - (x + 1).toNat) (x + 1) ((out.take q ++ [cu]) ++ out.drop q)) = some r by have h_ := HI2.out; rw [if_pos rfl] at h_; exact h_)
        have HPL := aQ (spec_AllCuts.p_le k cu out qa hP)
        have HP := Lib.hid hP
        have HI3 := Lib.hid hI3
        clear hP hI3
        go_wp2_with (first | (go_at_call 17; (with_reducible refine (spec_l17Cut.calls k a0_0 _ _ l0_1 _ _ F _ _ cu true _ ?side1 ?side2 ?side3 ?side4 ?side5 ?side6 HMo.out).mono ?_); (case side1 => repeat (first | exact HR.out | exact (Kd.C_below HR.out (pB HB.out)) | (with_reducible refine Kd.C_alloc ?_ _) | (with_reducible refine Kd.C_drewN ?_ _) | (with_reducible refine Kd.C_drew ?_))); (case side2 => exact HC.out); (case side3 => repeat (first | exact (Kd.R_reads' HF.out).2.2 | (with_reducible refine Kd.C_alloc ?_ _) | (with_reducible refine Kd.C_drewN ?_ _) | (with_reducible refine Kd.C_drew ?_))); (case side4 => exact (Kd.R_reads' HF.out).2.1); (case side5 => repeat (first | exact (Kd.R_reads' HU.out).2.2 | (with_reducible refine Kd.C_alloc ?_ _) | (with_reducible refine Kd.C_drewN ?_ _) | (with_reducible refine Kd.C_drew ?_))); (case side6 => exact (Kd.R_reads' HU.out).2.1); rintro e w7_ ⟨rfl, hb⟩; have n_BM := aQ (blk_below (g := gm) (o := .cells #[(.int .i64 a0_0), (.slice A0_1 l0_1.length c0_1)] 28 (0, 0)) (pk BM.out) hb); have n_HF := aQ (Kd.R_below (pR HF.out) hb); have n_HO := aQ (Kd.R_below (pR HO.out) hb); have n_HU := aQ (Kd.R_below (pR HU.out) hb); have n_HN := aQ (Inn.below (by (with_reducible repeat (first | apply Inn.alloc | apply Inn.drewN | apply Inn.drew)); exact HN.out) hb); replace HMS := aQ (Nat.le_trans HMS.out hb.size); have n_HB := aQ (below_step (pB HB.out) hb); clear BM; have BM := n_BM; clear n_BM; clear HF; have HF := n_HF; clear n_HF; clear HO; have HO := n_HO; clear n_HO; clear HU; have HU := n_HU; clear n_HU; clear HN; have HN := n_HN; clear n_HN; clear HB; have HB := n_HB; clear n_HB; clear hb; have zBM0 : w7_.cell? ⟨gm, 0, none⟩ = some (.int .i64 a0_0) := (blk_cell BM.out 0).trans rfl; have zBM1 : w7_.cell? ⟨gm, 1, none⟩ = some (.slice A0_1 l0_1.length c0_1) := (blk_cell BM.out 1).trans rfl))
        go_loopg [8] out.length (fun gg s8 wr => ∃ (z q : Nat), s8 = .int .i64 (z : Int) ∧ Aside0 (z ≤ out.length) ∧ Aside0 (out.length - z ≤ gg) ∧ Aside0 (spec_AllCuts.p k cu (out.drop z) = some q) ∧ Aside0 (z + q = qa) ∧ Aside0 (M ≤ wr.heap.size) ∧ Aside0 (Kd.R (Kd.int .i64) 3 wr w.heap.size (fun k_ => M ≤ k_) (.slice AU cu.length cU) cu) ∧ Aside0 (kSV.R 22 wr w.heap.size (fun _ => True) u4 vs) ∧ Aside0 (Inn 3 wr w.heap.size vs out) ∧ Aside0 (Kd.R (Kd.int .i64) 3 wr w.heap.size (fun _ => True) (.slice AHF F.length cHF) F) ∧ Aside0 (wr.heap[gm]? = some (.cells #[(.int .i64 a0_0), (.slice A0_1 l0_1.length c0_1)] 28 (0, 0))) ∧ Aside0 (Below w.heap.size w wr))
        case atStart => exact ⟨0, qa, rfl, ⟨Nat.zero_le _⟩, ⟨Nat.le_refl _⟩, ⟨HP.out⟩, ⟨Nat.zero_add _⟩, ⟨by first | exact HMS.out | (have := HMS.out; simp at *; omega)⟩, ⟨pR HU.out⟩, ⟨pR HO.out⟩, ⟨by (with_reducible repeat (first | apply Inn.alloc | apply Inn.drewN | apply Inn.drew)); exact HN.out⟩, ⟨pR HF.out⟩, ⟨pk BM.out⟩, ⟨(pB HB.out)⟩⟩
        case round =>
         try clear HP
         try clear HU
         try clear HMS
         try clear HO
         try clear HN
         try clear HF
         try clear BM
         try clear HB
         try clear zBM0
         try clear zBM1
         obtain ⟨z, q, rfl, HZ, HG3, HP, HQ, HMS, HU, HO, HN, HF, BM, HB⟩ := hrel
         by_cases hz : z < out.length
         ·have m1_ : decide ((z : Int) < (out.length : Int)) = true := decide_eq_true (by omega)
          have HVL0 := aQ (Inn.len HN.out)
          have hp_ := HP.out
          rw [List.drop_eq_getElem_cons hz] at hp_
          simp only [spec_AllCuts.p] at hp_
          obtain ⟨tb2, hW, hp_⟩ := Option.bind_eq_some_iff.1 hp_
          obtain ⟨g0, cO, eO0, _, _, _⟩ := Kd.R_form HO.out (by have := HVL0.out; omega)
          subst eO0
          have m2_ : decide ((z : Int) < (vs.length : Int)) = true := decide_eq_true (by have := HVL0.out; omega)
          have hcell := (Kd.R_cell (none, 0, 0) HO.out (z : Int) (by omega) (by have := HVL0.out; omega)).1
          have hel := Inn.at HN.out (z : Int) (by omega) (by omega)
          rw [show rdOf [] out (z : Int) = out[z] from by unfold rdOf; rw [Int.toNat_natCast, List.getD_eq_getElem?_getD, List.getElem?_eq_getElem hz]; rfl] at hel
          obtain ⟨Ae, ce, ee, hle, hCe⟩ := Kd.R_reads hel
          rw [ee, Int.toNat_natCast] at hcell
          have HCe := Lib.hid hCe
          have HLe := Lib.hid hle
          have HW := Lib.hid hW
          clear hel hle hCe hW ee HP
          have m7_ : decide (z < vs.length) = true := decide_eq_true (by have := HVL0.out; omega)
          have m3_ := eq_true (show (0 : Int) ≤ (z : Int) by omega)
          have m4_ := eq_true (show (z : Int) < (vs.length : Int) by have := HVL0.out; omega)
          generalize hzz : out[z] = oz at *
          cases tb2 with
          | true =>
           rw [if_pos rfl] at hp_
           obtain ⟨q2, hq2, hp_⟩ := Option.bind_eq_some_iff.1 hp_
           simp only [Option.some.injEq] at hp_
           have HP2 := Lib.hid hq2
           have HQ2 := Lib.hid (show z + 1 + q2 = qa by have := HQ.out; omega)
           have E3 := Lib.hid (wrap64_of (n := (z : Int) + 1) (by omega) (by have := HOL.out; have := HX.out; have := HN1.out; omega))
           clear hq2 hp_
           go_wp2_with (first | ((with_reducible refine gate_callee (f := 18) rfl ?_); (try (refine gate_guard (by rfl) ?_; dsimp only)); refine goesL_ (some 62) rfl rfl Try.func18 (by kernel_rfl) rfl #[.slice Ae oz.length ce, .slice AU cu.length cU] rfl lm ?_; (with_reducible refine (spec_l17Before.calls k _ _ oz _ _ cu true _ ?side1 ?side2 ?side3 ?side4 HW.out).mono ?_); (case side1 => exact pC HCe.out); (case side2 => exact HLe.out); (case side3 => repeat (first | exact (Kd.R_reads' HU.out).2.2 | (with_reducible refine Kd.C_alloc ?_ _) | (with_reducible refine Kd.C_drewN ?_ _) | (with_reducible refine Kd.C_drew ?_))); (case side4 => exact (Kd.R_reads' HU.out).2.1); rintro e w' ⟨rfl, ⟨nd, rfl⟩⟩; refine ⟨_, rfl, ?_⟩))
           go_roundg (out.length - (z + 1))
           case measure => have := HG3.out; omega
           case rel => exact ⟨z + 1, q2, by rw [E3.out]; rfl, ⟨hz⟩, ⟨Nat.le_refl _⟩, ⟨HP2.out⟩, ⟨HQ2.out⟩, ⟨HMS.out⟩, ⟨pR HU.out⟩, ⟨pR HO.out⟩, ⟨by (with_reducible repeat (first | apply Inn.alloc | apply Inn.drewN | apply Inn.drew)); exact HN.out⟩, ⟨pR HF.out⟩, ⟨pk BM.out⟩, ⟨(pB HB.out)⟩⟩
          | false =>
           rw [if_neg (by decide)] at hp_
           simp only [Option.some.injEq] at hp_
           subst hp_
           have HVL := aQ (Inn.len HN.out)
           have HZL := aQ (show z ≤ vs.length by have := HVL.out; have := HZ.out; omega)
           have HVM := aQ (show vs.length ≤ 2048 by have := HVL.out; have := HOL.out; have := HX.out; have := HN1.out; omega)
           have q1_ : decide ((z : Int) ≤ (vs.length : Int)) = true := decide_eq_true (by have := HZL.out; omega)
           have q0_ : decide (0 ≤ (z : Int)) = true := decide_eq_true (by omega)
           have q2_ := eq_true (show (z : Int) ≤ (vs.length : Int) by have := HZL.out; omega)
           have q3_ := eq_true (show 0 ≤ (z : Int) by omega)
           go_wp2_with (first | ((with_reducible refine gate_callee (f := 18) rfl ?_); (try (refine gate_guard (by rfl) ?_; dsimp only)); refine goesL_ (some 62) rfl rfl Try.func18 (by kernel_rfl) rfl #[.slice Ae oz.length ce, .slice AU cu.length cU] rfl lm ?_; (with_reducible refine (spec_l17Before.calls k _ _ oz _ _ cu false _ ?side1 ?side2 ?side3 ?side4 HW.out).mono ?_); (case side1 => exact pC HCe.out); (case side2 => exact HLe.out); (case side3 => repeat (first | exact (Kd.R_reads' HU.out).2.2 | (with_reducible refine Kd.C_alloc ?_ _) | (with_reducible refine Kd.C_drewN ?_ _) | (with_reducible refine Kd.C_drew ?_))); (case side4 => exact (Kd.R_reads' HU.out).2.1); rintro e w' ⟨rfl, ⟨nd, rfl⟩⟩; refine ⟨_, rfl, ?_⟩) | ((with_reducible refine gate_dst (N := 66) rfl ?_); refine Kd.R_lit kSV _ 22 ?hg (N := 66) ?hd (xs := ([] : List SV)) (inner := []) (ok := fun _ => True) (okp := fun _ => True) ?hr ?hp (fun _ hk => hk) trivial (Below.refl _ _) (Nat.le_refl _) (by simp) ?_; (case hd => rfl); (case hg => rfl); (case hr => first | (go_simp; done) | (go_simp; rfl)); (case hp => exact (Reps.none _ _)); intro v8_ w8_ ho_ hb hg_ hnew_; clear hg_ hnew_; have m_HR := aQ (Kd.R_lower (Kd.R_new' ho_ (Kd.R_lt (pR HO.out))) (below_size (pB HB.out))); have m_HO := aQ (Kd.R_elder' (pR HO.out) (Kd.R_base ho_) hb); clear HO; have n_BM := aQ (blk_below (g := gm) (o := .cells #[(.int .i64 a0_0), (.slice A0_1 l0_1.length c0_1)] 28 (0, 0)) (pk BM.out) hb); have n_HF := aQ (Kd.R_below (pR HF.out) hb); have n_HU := aQ (Kd.R_below (pR HU.out) hb); have n_HN := aQ (Inn.below (by (with_reducible repeat (first | apply Inn.alloc | apply Inn.drewN | apply Inn.drew)); exact HN.out) hb); have n_HB := aQ (below_step (pB HB.out) hb); clear BM; have BM := n_BM; clear n_BM; clear HF; have HF := n_HF; clear n_HF; clear HU; have HU := n_HU; clear n_HU; clear HN; have HN := n_HN; clear n_HN; clear HB; have HB := n_HB; clear n_HB; have HO := m_HO; have HRs := m_HR; clear m_HR m_HO ho_ hb; obtain ⟨i0_, hi0_, _, hsz_, _⟩ := info_parts info22; have hroom_ : vs.length ≤ cO := (Kd.R_reads' HO.out).2.1; have hC_ : Kd.C kSV w8_ (some ⟨g0, 0, none⟩) vs.length vs := (Kd.R_reads' HO.out).2.2; have hcut_ := cut_from (P := Try.prog) 26 22 .i64 Try.underlying26 hi0_ 1 hsz_ (some ⟨g0, 0, none⟩) vs.length cO (z : Int) (by omega) (by have := HZL.out; omega); have hr_ := Kd.C_drop (m := z) (c := cO) hC_ HZL.out hroom_; obtain ⟨vd, hvd⟩ : ∃ y_ : List SV, y_ = vs.drop z := ⟨_, rfl⟩; obtain ⟨AD, hAD⟩ : ∃ A1, A1 = (if cO = ((z : Int)).toNat then (some ⟨g0, 0, none⟩) else ((some ⟨g0, 0, none⟩) : Option Addr).map (·.add (((z : Int)).toNat * 1))) := ⟨_, rfl⟩; obtain ⟨cD, hcD⟩ : ∃ c1, c1 = cO - ((z : Int)).toNat := ⟨_, rfl⟩; have hyl : vd.length = vs.length - ((z : Int)).toNat := (by rw [hvd, List.length_drop, Int.toNat_natCast]); rw [show vs.drop z = vd from hvd.symm] at hr_; replace hr_ : Kd.C kSV w8_ AD vd.length vd := (by rw [hAD, Int.toNat_natCast]; exact hr_); rw [← hyl, ← hAD, ← hcD] at hcut_; have HDr := aQ hr_; have HVD := aQ hvd; have HYL := aQ hyl; clear hr_ hC_ hroom_ hi0_ hsz_ hcD hAD hvd hyl) | ((with_reducible refine gate_builtin (b := .append) (xs := #[.tmp 66, .tmp 69]) rfl ?_); at_builtin; refine Kd.R_append_rows kSV (w0 := w) w.heap.size rfl (.tmp 66) (.tmp 69) 26 22 (.slice none 0 0) 24 rfl Try.underlying26 info22 rfl (by decide) (by omega) v8_ [] vd _ _ _ (fun k_ => some k_ ≠ (.slice (some ⟨g0, 0, none⟩) vs.length cO : Value).ownBlock) (fun _ => False) rfl rfl ?aO ?aR (fun _ _ h => h) (fun _ h => h.elim) ?aF ?aB ?aS ?aL ?_; (case aR => exact pC HDr.out); (case aF => exact (fun k_ hk => Kd.fresh' (Kd.R_lt (pR HO.out)) k_ hk)); (case aO => exact (by (with_reducible repeat (first | apply Kd.R_alloc | apply Kd.R_drewN | apply Kd.R_drew)); exact Kd.R_mono HRs.out (fun _ hk => hk.2))); (case aB => exact (pB HB.out)); (case aS => exact (below_size (pB HB.out))); (case aL => have := HYL.out; have := HVM.out; simp only [List.length_nil]; omega); intro v10_ w10_ ho hb hg hat; have m_HO := aQ (Kd.R_after (ok := (fun _ => True)) (pR HO.out) hg hat); replace BM := aQ (blk_grown (g := gm) (o := .cells #[(.int .i64 a0_0), (.slice A0_1 l0_1.length c0_1)] 28 (0, 0)) (pk BM.out) hg (Kd.R_ne HRs.out BM.out (by decide))); replace HF := aQ (Kd.R_over' (pR HF.out) (Kd.R_typed (pR HRs.out)) (by decide) hg); replace HU := aQ (Kd.R_over' (pR HU.out) (Kd.R_typed (pR HRs.out)) (by decide) hg); replace HN := aQ (Inn.grown (by (with_reducible repeat (first | apply Inn.alloc | apply Inn.drewN | apply Inn.drew)); exact HN.out) (Kd.R_typed (pR HRs.out)) (by decide) hg); replace HB := aQ hb; clear HO HRs HDr; have HO := m_HO; have HRs := aQ ho; clear m_HO ho hb hg hat; obtain ⟨i1_, hi1_, _, hsz1_, _⟩ := info_parts info22; have hcut2_ := cut_to (P := Try.prog) 26 22 .i64 Try.underlying26 hi1_ (some ⟨g0, 0, none⟩) vs.length cO (z : Int) (by omega) (by have := HZL.out; omega) (Kd.R_reads' HO.out).2.1; have hr2_ := Kd.R_take (m := z) HO.out HZL.out; obtain ⟨vt, hvt⟩ : ∃ y_ : List SV, y_ = vs.take z := ⟨_, rfl⟩; have hyt : vt.length = z := (by rw [hvt, List.length_take]; have := HZL.out; omega); have hyt2 : vt.length = ((z : Int)).toNat := (by rw [Int.toNat_natCast]; exact hyt); rw [← hvt, ← hyt] at hr2_; rw [← hyt2] at hcut2_; have HVT := aQ hvt; have HTL := aQ hyt; clear hyt hyt2 hi1_ hsz1_ HO hvt; have HO := aQ hr2_; clear hr2_) | ((with_reducible refine gate_builtin (b := .append) (xs := #[.tmp 73, .tmp 75]) rfl ?_); at_builtin; refine Kd.R_append kSV (w0 := w) w.heap.size rfl (.tmp 73) (.tmp 75) 26 22 (.slice none 0 0) 24 rfl Try.underlying26 info22 rfl (by decide) (by omega) (.slice (some ⟨g0, 0, none⟩) vt.length cO) vt (AU, cu.length, cU) [.slice AU cu.length cU] (fun k_ => some k_ ≠ (v10_ : Value).ownBlock) (fun _ => False) rfl rfl ?aP (fun _ hk => hk.elim) ?aF ?aO ?aB ?aS ?aL ?_; (case aP => exact rfl); (case aB => exact (pB HB.out)); (case aF => exact (fun k_ hk => Kd.fresh' (Kd.R_lt (pR HRs.out)) k_ hk)); (case aO => exact (by (with_reducible repeat (first | apply Kd.R_alloc | apply Kd.R_drewN | apply Kd.R_drew)); exact Kd.R_mono HO.out (fun _ hk => hk.2))); (case aS => exact (below_size (pB HB.out))); (case aL => have := HTL.out; have := HZL.out; have := HVM.out; omega); intro v12_ w12_ ho hb hg hat; have m_HR := aQ (Kd.R_after (ok := (fun _ => True)) (v := .slice (some ⟨g0, 0, none⟩) vt.length cO) (by (with_reducible repeat (first | apply Kd.R_alloc | apply Kd.R_drewN | apply Kd.R_drew)); exact Kd.R_mono HRs.out (fun k_ hk => ⟨trivial, fun e_ => hk (e_.trans (own_len _ _ _ _))⟩)) hg hat); replace BM := aQ (blk_grown (g := gm) (o := .cells #[(.int .i64 a0_0), (.slice A0_1 l0_1.length c0_1)] 28 (0, 0)) (pk BM.out) hg (Kd.R_ne HO.out BM.out (by decide))); replace HF := aQ (Kd.R_over' (pR HF.out) (Kd.R_typed (pR HO.out)) (by decide) hg); replace HU := aQ (Kd.R_over' (pR HU.out) (Kd.R_typed (pR HO.out)) (by decide) hg); replace HN := aQ (Inn.grown (by (with_reducible repeat (first | apply Inn.alloc | apply Inn.drewN | apply Inn.drew)); exact HN.out) (Kd.R_typed (pR HO.out)) (by decide) hg); replace HB := aQ hb; clear HO HRs; have HO := aQ ho; have HRs := m_HR; clear m_HR ho hb hg hat; obtain ⟨AR, cR_, eR⟩ := Kd.R_slice HRs.out; subst eR) | ((with_reducible refine gate_builtin (b := .append) (xs := #[.tmp 76, .tmp 77]) rfl ?_); at_builtin; refine Kd.R_append_rows kSV (w0 := w) w.heap.size rfl (.tmp 76) (.tmp 77) 26 22 (.slice none 0 0) 24 rfl Try.underlying26 info22 rfl (by decide) (by omega) v12_ (vt ++ [((AU, cu.length, cU) : SV)]) ([] ++ vd) _ _ _ (fun _ => True) (fun _ => False) rfl rfl ?aO ?aR (fun _ _ h => h) (fun _ h => h.elim) ?aF ?aB ?aS ?aL ?_; (case aR => repeat (first | exact (Kd.R_reads' HRs.out).2.2 | (with_reducible refine Kd.C_alloc ?_ _) | (with_reducible refine Kd.C_drewN ?_ _) | (with_reducible refine Kd.C_drew ?_))); (case aF => exact (fun _ _ => trivial)); (case aO => exact (by (with_reducible repeat (first | apply Kd.R_alloc | apply Kd.R_drewN | apply Kd.R_drew)); exact Kd.R_mono HO.out (fun _ _ => trivial))); (case aB => exact (pB HB.out)); (case aS => exact (below_size (pB HB.out))); (case aL => have := HYL.out; have := HTL.out; have := HZL.out; have := HVM.out; simp only [List.length_append, List.length_singleton, List.nil_append]; omega); intro v14_ w14_ ho hb hg hat; replace BM := aQ (blk_grown (g := gm) (o := .cells #[(.int .i64 a0_0), (.slice A0_1 l0_1.length c0_1)] 28 (0, 0)) (pk BM.out) hg (Kd.R_ne HO.out BM.out (by decide))); replace HF := aQ (Kd.R_over' (pR HF.out) (Kd.R_typed (pR HO.out)) (by decide) hg); replace HU := aQ (Kd.R_over' (pR HU.out) (Kd.R_typed (pR HO.out)) (by decide) hg); replace HN := aQ (Inn.grown (by (with_reducible repeat (first | apply Inn.alloc | apply Inn.drewN | apply Inn.drew)); exact HN.out) (Kd.R_typed (pR HO.out)) (by decide) hg); replace HB := aQ hb; clear HO HRs; have HO := aQ ho; clear ho hb hg hat))
           have HNn : Aside0 (Inn 3 w14_ w.heap.size ((vt ++ [((AU, cu.length, cU) : SV)]) ++ ([] ++ vd)) ((out.take qa ++ [cu]) ++ out.drop qa)) := ⟨by have hqa := HQ.out; rw [Nat.add_zero] at hqa; subst hqa; rw [HVT.out, HVD.out, List.nil_append]; exact Inn.app (Inn.snoc (x := ((AU, cu.length, cU) : SV)) (Inn.take HN.out z) (Kd.R_mono HU.out (fun _ _ => trivial))) (Inn.drop HN.out z)⟩
           go_roundg (N - (x + 1).toNat)
           case measure => have := HG.out; have := HX.out; have := Q1.out; omega
           case rel => exact ⟨x + 1, _, _, by rw [E1.out], ⟨by have := HX.out; have := Q1.out; omega⟩, ⟨Nat.le_refl _⟩, ⟨HI3.out⟩, ⟨by have := HOL.out; have := HX.out; have := HPL.out; simp only [List.length_append, List.length_take, List.length_drop, List.length_singleton]; omega⟩, ⟨pR HO.out⟩, ⟨by (with_reducible repeat (first | apply Inn.alloc | apply Inn.drewN | apply Inn.drew)); exact HNn.out⟩, ⟨by rw [HVT.out, HVD.out]; exact SvNe.ins z HS.out HLT.out HU.out.1⟩, ⟨pR HF.out⟩, ⟨pk BM.out⟩, ⟨(pB HB.out)⟩⟩
         ·have m1_ : decide ((z : Int) < (out.length : Int)) = false := decide_eq_false (by omega)
          have HVL0 := aQ (Inn.len HN.out)
          have hp_ := HP.out
          rw [List.drop_eq_nil_of_le (by omega)] at hp_
          simp only [spec_AllCuts.p, Option.some.injEq] at hp_
          subst hp_
          clear HP
          have m2_ : decide ((z : Int) < (vs.length : Int)) = false := decide_eq_false (by have := HVL0.out; omega)
          have m5_ := eq_false (show ¬ (z : Int) < (vs.length : Int) by have := HVL0.out; omega)
          have m6_ := eq_false (show ¬ z < vs.length by have := HVL0.out; omega)
          have m7_ : decide (z < vs.length) = false := decide_eq_false (by have := HVL0.out; omega)
          obtain ⟨AO, cO, eO1⟩ := Kd.R_slice HO.out
          subst eO1
          have HVL := aQ (Inn.len HN.out)
          have HZL := aQ (show z ≤ vs.length by have := HVL.out; have := HZ.out; omega)
          have HVM := aQ (show vs.length ≤ 2048 by have := HVL.out; have := HOL.out; have := HX.out; have := HN1.out; omega)
          have q1_ : decide ((z : Int) ≤ (vs.length : Int)) = true := decide_eq_true (by have := HZL.out; omega)
          have q0_ : decide (0 ≤ (z : Int)) = true := decide_eq_true (by omega)
          have q2_ := eq_true (show (z : Int) ≤ (vs.length : Int) by have := HZL.out; omega)
          have q3_ := eq_true (show 0 ≤ (z : Int) by omega)
          go_wp2_with (first | ((with_reducible refine gate_dst (N := 66) rfl ?_); refine Kd.R_lit kSV _ 22 ?hg (N := 66) ?hd (xs := ([] : List SV)) (inner := []) (ok := fun _ => True) (okp := fun _ => True) ?hr ?hp (fun _ hk => hk) trivial (Below.refl _ _) (Nat.le_refl _) (by simp) ?_; (case hd => rfl); (case hg => rfl); (case hr => first | (go_simp; done) | (go_simp; rfl)); (case hp => exact (Reps.none _ _)); intro v8_ w8_ ho_ hb hg_ hnew_; clear hg_ hnew_; have m_HR := aQ (Kd.R_lower (Kd.R_new' ho_ (Kd.R_lt (pR HO.out))) (below_size (pB HB.out))); have m_HO := aQ (Kd.R_elder' (pR HO.out) (Kd.R_base ho_) hb); clear HO; have n_BM := aQ (blk_below (g := gm) (o := .cells #[(.int .i64 a0_0), (.slice A0_1 l0_1.length c0_1)] 28 (0, 0)) (pk BM.out) hb); have n_HF := aQ (Kd.R_below (pR HF.out) hb); have n_HU := aQ (Kd.R_below (pR HU.out) hb); have n_HN := aQ (Inn.below (by (with_reducible repeat (first | apply Inn.alloc | apply Inn.drewN | apply Inn.drew)); exact HN.out) hb); have n_HB := aQ (below_step (pB HB.out) hb); clear BM; have BM := n_BM; clear n_BM; clear HF; have HF := n_HF; clear n_HF; clear HU; have HU := n_HU; clear n_HU; clear HN; have HN := n_HN; clear n_HN; clear HB; have HB := n_HB; clear n_HB; have HO := m_HO; have HRs := m_HR; clear m_HR m_HO ho_ hb; obtain ⟨i0_, hi0_, _, hsz_, _⟩ := info_parts info22; have hroom_ : vs.length ≤ cO := (Kd.R_reads' HO.out).2.1; have hC_ : Kd.C kSV w8_ AO vs.length vs := (Kd.R_reads' HO.out).2.2; have hcut_ := cut_from (P := Try.prog) 26 22 .i64 Try.underlying26 hi0_ 1 hsz_ AO vs.length cO (z : Int) (by omega) (by have := HZL.out; omega); have hr_ := Kd.C_drop (m := z) (c := cO) hC_ HZL.out hroom_; obtain ⟨vd, hvd⟩ : ∃ y_ : List SV, y_ = vs.drop z := ⟨_, rfl⟩; obtain ⟨AD, hAD⟩ : ∃ A1, A1 = (if cO = ((z : Int)).toNat then AO else (AO : Option Addr).map (·.add (((z : Int)).toNat * 1))) := ⟨_, rfl⟩; obtain ⟨cD, hcD⟩ : ∃ c1, c1 = cO - ((z : Int)).toNat := ⟨_, rfl⟩; have hyl : vd.length = vs.length - ((z : Int)).toNat := (by rw [hvd, List.length_drop, Int.toNat_natCast]); rw [show vs.drop z = vd from hvd.symm] at hr_; replace hr_ : Kd.C kSV w8_ AD vd.length vd := (by rw [hAD, Int.toNat_natCast]; exact hr_); rw [← hyl, ← hAD, ← hcD] at hcut_; have HDr := aQ hr_; have HVD := aQ hvd; have HYL := aQ hyl; clear hr_ hC_ hroom_ hi0_ hsz_ hcD hAD hvd hyl) | ((with_reducible refine gate_builtin (b := .append) (xs := #[.tmp 66, .tmp 69]) rfl ?_); at_builtin; refine Kd.R_append_rows kSV (w0 := w) w.heap.size rfl (.tmp 66) (.tmp 69) 26 22 (.slice none 0 0) 24 rfl Try.underlying26 info22 rfl (by decide) (by omega) v8_ [] vd _ _ _ (fun k_ => some k_ ≠ (.slice AO vs.length cO : Value).ownBlock) (fun _ => False) rfl rfl ?aO ?aR (fun _ _ h => h) (fun _ h => h.elim) ?aF ?aB ?aS ?aL ?_; (case aR => exact pC HDr.out); (case aF => exact (fun k_ hk => Kd.fresh' (Kd.R_lt (pR HO.out)) k_ hk)); (case aO => exact (by (with_reducible repeat (first | apply Kd.R_alloc | apply Kd.R_drewN | apply Kd.R_drew)); exact Kd.R_mono HRs.out (fun _ hk => hk.2))); (case aB => exact (pB HB.out)); (case aS => exact (below_size (pB HB.out))); (case aL => have := HYL.out; have := HVM.out; simp only [List.length_nil]; omega); intro v10_ w10_ ho hb hg hat; have m_HO := aQ (Kd.R_after (ok := (fun _ => True)) (pR HO.out) hg hat); replace BM := aQ (blk_grown (g := gm) (o := .cells #[(.int .i64 a0_0), (.slice A0_1 l0_1.length c0_1)] 28 (0, 0)) (pk BM.out) hg (Kd.R_ne HRs.out BM.out (by decide))); replace HF := aQ (Kd.R_over' (pR HF.out) (Kd.R_typed (pR HRs.out)) (by decide) hg); replace HU := aQ (Kd.R_over' (pR HU.out) (Kd.R_typed (pR HRs.out)) (by decide) hg); replace HN := aQ (Inn.grown (by (with_reducible repeat (first | apply Inn.alloc | apply Inn.drewN | apply Inn.drew)); exact HN.out) (Kd.R_typed (pR HRs.out)) (by decide) hg); replace HB := aQ hb; clear HO HRs HDr; have HO := m_HO; have HRs := aQ ho; clear m_HO ho hb hg hat; obtain ⟨i1_, hi1_, _, hsz1_, _⟩ := info_parts info22; have hcut2_ := cut_to (P := Try.prog) 26 22 .i64 Try.underlying26 hi1_ AO vs.length cO (z : Int) (by omega) (by have := HZL.out; omega) (Kd.R_reads' HO.out).2.1; have hr2_ := Kd.R_take (m := z) HO.out HZL.out; obtain ⟨vt, hvt⟩ : ∃ y_ : List SV, y_ = vs.take z := ⟨_, rfl⟩; have hyt : vt.length = z := (by rw [hvt, List.length_take]; have := HZL.out; omega); have hyt2 : vt.length = ((z : Int)).toNat := (by rw [Int.toNat_natCast]; exact hyt); rw [← hvt, ← hyt] at hr2_; rw [← hyt2] at hcut2_; have HVT := aQ hvt; have HTL := aQ hyt; clear hyt hyt2 hi1_ hsz1_ HO hvt; have HO := aQ hr2_; clear hr2_) | ((with_reducible refine gate_builtin (b := .append) (xs := #[.tmp 73, .tmp 75]) rfl ?_); at_builtin; refine Kd.R_append kSV (w0 := w) w.heap.size rfl (.tmp 73) (.tmp 75) 26 22 (.slice none 0 0) 24 rfl Try.underlying26 info22 rfl (by decide) (by omega) (.slice AO vt.length cO) vt (AU, cu.length, cU) [.slice AU cu.length cU] (fun k_ => some k_ ≠ (v10_ : Value).ownBlock) (fun _ => False) rfl rfl ?aP (fun _ hk => hk.elim) ?aF ?aO ?aB ?aS ?aL ?_; (case aP => exact rfl); (case aB => exact (pB HB.out)); (case aF => exact (fun k_ hk => Kd.fresh' (Kd.R_lt (pR HRs.out)) k_ hk)); (case aO => exact (by (with_reducible repeat (first | apply Kd.R_alloc | apply Kd.R_drewN | apply Kd.R_drew)); exact Kd.R_mono HO.out (fun _ hk => hk.2))); (case aS => exact (below_size (pB HB.out))); (case aL => have := HTL.out; have := HZL.out; have := HVM.out; omega); intro v12_ w12_ ho hb hg hat; have m_HR := aQ (Kd.R_after (ok := (fun _ => True)) (v := .slice AO vt.length cO) (by (with_reducible repeat (first | apply Kd.R_alloc | apply Kd.R_drewN | apply Kd.R_drew)); exact Kd.R_mono HRs.out (fun k_ hk => ⟨trivial, fun e_ => hk (e_.trans (own_len _ _ _ _))⟩)) hg hat); replace BM := aQ (blk_grown (g := gm) (o := .cells #[(.int .i64 a0_0), (.slice A0_1 l0_1.length c0_1)] 28 (0, 0)) (pk BM.out) hg (Kd.R_ne HO.out BM.out (by decide))); replace HF := aQ (Kd.R_over' (pR HF.out) (Kd.R_typed (pR HO.out)) (by decide) hg); replace HU := aQ (Kd.R_over' (pR HU.out) (Kd.R_typed (pR HO.out)) (by decide) hg); replace HN := aQ (Inn.grown (by (with_reducible repeat (first | apply Inn.alloc | apply Inn.drewN | apply Inn.drew)); exact HN.out) (Kd.R_typed (pR HO.out)) (by decide) hg); replace HB := aQ hb; clear HO HRs; have HO := aQ ho; have HRs := m_HR; clear m_HR ho hb hg hat; obtain ⟨AR, cR_, eR⟩ := Kd.R_slice HRs.out; subst eR) | ((with_reducible refine gate_builtin (b := .append) (xs := #[.tmp 76, .tmp 77]) rfl ?_); at_builtin; refine Kd.R_append_rows kSV (w0 := w) w.heap.size rfl (.tmp 76) (.tmp 77) 26 22 (.slice none 0 0) 24 rfl Try.underlying26 info22 rfl (by decide) (by omega) v12_ (vt ++ [((AU, cu.length, cU) : SV)]) ([] ++ vd) _ _ _ (fun _ => True) (fun _ => False) rfl rfl ?aO ?aR (fun _ _ h => h) (fun _ h => h.elim) ?aF ?aB ?aS ?aL ?_; (case aR => repeat (first | exact (Kd.R_reads' HRs.out).2.2 | (with_reducible refine Kd.C_alloc ?_ _) | (with_reducible refine Kd.C_drewN ?_ _) | (with_reducible refine Kd.C_drew ?_))); (case aF => exact (fun _ _ => trivial)); (case aO => exact (by (with_reducible repeat (first | apply Kd.R_alloc | apply Kd.R_drewN | apply Kd.R_drew)); exact Kd.R_mono HO.out (fun _ _ => trivial))); (case aB => exact (pB HB.out)); (case aS => exact (below_size (pB HB.out))); (case aL => have := HYL.out; have := HTL.out; have := HZL.out; have := HVM.out; simp only [List.length_append, List.length_singleton, List.nil_append]; omega); intro v14_ w14_ ho hb hg hat; replace BM := aQ (blk_grown (g := gm) (o := .cells #[(.int .i64 a0_0), (.slice A0_1 l0_1.length c0_1)] 28 (0, 0)) (pk BM.out) hg (Kd.R_ne HO.out BM.out (by decide))); replace HF := aQ (Kd.R_over' (pR HF.out) (Kd.R_typed (pR HO.out)) (by decide) hg); replace HU := aQ (Kd.R_over' (pR HU.out) (Kd.R_typed (pR HO.out)) (by decide) hg); replace HN := aQ (Inn.grown (by (with_reducible repeat (first | apply Inn.alloc | apply Inn.drewN | apply Inn.drew)); exact HN.out) (Kd.R_typed (pR HO.out)) (by decide) hg); replace HB := aQ hb; clear HO HRs; have HO := aQ ho; clear ho hb hg hat))
          have HNn : Aside0 (Inn 3 w14_ w.heap.size ((vt ++ [((AU, cu.length, cU) : SV)]) ++ ([] ++ vd)) ((out.take qa ++ [cu]) ++ out.drop qa)) := ⟨by have hqa := HQ.out; rw [Nat.add_zero] at hqa; subst hqa; rw [HVT.out, HVD.out, List.nil_append]; exact Inn.app (Inn.snoc (x := ((AU, cu.length, cU) : SV)) (Inn.take HN.out z) (Kd.R_mono HU.out (fun _ _ => trivial))) (Inn.drop HN.out z)⟩
          go_roundg (N - (x + 1).toNat)
          case measure => have := HG.out; have := HX.out; have := Q1.out; omega
          case rel => exact ⟨x + 1, _, _, by rw [E1.out], ⟨by have := HX.out; have := Q1.out; omega⟩, ⟨Nat.le_refl _⟩, ⟨HI3.out⟩, ⟨by have := HOL.out; have := HX.out; have := HPL.out; simp only [List.length_append, List.length_take, List.length_drop, List.length_singleton]; omega⟩, ⟨pR HO.out⟩, ⟨by (with_reducible repeat (first | apply Inn.alloc | apply Inn.drewN | apply Inn.drew)); exact HNn.out⟩, ⟨by rw [HVT.out, HVD.out]; exact SvNe.ins z HS.out HLT.out HU.out.1⟩, ⟨pR HF.out⟩, ⟨pk BM.out⟩, ⟨(pB HB.out)⟩⟩
    ·have l1_ : decide (x < (N : Int)) = false := decide_eq_false hlt
     have hI := HI.out
     rw [show N - x.toNat = 0 by omega] at hI
     simp only [spec_AllCuts.l, Option.some.injEq] at hI
     subst hI
     clear HI hlt
     go_wp2
     go_ret
     exact ⟨_, rs_, vs, by (with_reducible repeat (first | apply Kd.R_alloc | apply Kd.R_drewN | apply Kd.R_drew)); exact HO.out, by (with_reducible repeat (first | apply Inn.alloc | apply Inn.drewN | apply Inn.drew)); exact HN.out, HS.out, (pB HB.out)⟩
theorem spec_AllCuts.calls (k : Nat) (a0_0 : Int) (A0_1 : Option Addr) (c0_1 : Nat) (l0_1 : List Int) (r : List (List Int)) (w : World) (hr0_1 : Kd.C (Kd.int .i64) w A0_1 l0_1.length l0_1) (hc0_1 : l0_1.length ≤ c0_1) (h : spec_AllCuts.f k a0_0 l0_1 = some r) :
  Calls Try.prog 5 #[.agg #[.int .i64 a0_0, .slice A0_1 l0_1.length c0_1]] w fun e w' => ∃ v0_ : Value, e = .returned (v0_) ∧ Kd.S (Kd.slice 3 (Kd.int .i64)) 22 w' w.heap.size (fun _ => True) v0_ r ∧ Below w.heap.size w w' :=
 (spec_AllCuts.calls_vs k a0_0 A0_1 c0_1 l0_1 r w hr0_1 hc0_1 h).mono (fun e w' ⟨v, vs, he, hr, hn, hs_, hb⟩ => ⟨v, he, Inn.srow (by decide) hr hn hs_, hb⟩)
end Go.Proofs.Ytbdloopelidneaa.A
namespace Go.Proofs.Ytbdloopelidneaa.A
open Go.RowKit Go.Proofs.YtbdloopelidneaaW.PrintWords Go.Proofs.YtbdloopelidneaaW.PrintLast Go.Proofs.YtbdloopelidneaaW.PrintMore
attribute [local go_sem] max2_int min2_int max_two min_two max_three min_three max_four min_four
set_option linter.unusedVariables false
set_option linter.unusedSimpArgs false
/-! ### laws_toIntS: function 19 -/
def laws_toIntS.l0 : Nat → List Int → List Int → Int → Option (List Int)
 | 0, _, _, _ => none
 | k + 1, x0, x3, x4 => if x4 < (x0.length : Int) then (if 0 ≤ x4 then (if x4 < (x3.length : Int) then (laws_toIntS.l0 k x0 (x3.set (x4 : Int).toNat (rd x0 x4)) (wrap64 (x4 + 1))) else (none)) else (none)) else (some x3)
def laws_toIntS.f (k : Nat) (l0 : List Int) : Option (List Int) := if 0 ≤ (l0.length : Int) then (if ((l0.length : Int) : Int).toNat ≤ 35184372088832 then (laws_toIntS.l0 k l0 (List.replicate ((l0.length : Int) : Int).toNat 0) 0) else (none)) else (none)
theorem laws_toIntS.mono_l : ∀ k, (∀ y0 y1 y2, LeO (laws_toIntS.l0 k y0 y1 y2) (laws_toIntS.l0 (k + 1) y0 y1 y2))
 | 0 => fun _ _ _ r h => by simp [laws_toIntS.l0] at h
 | k + 1 => by
  have ih0 := laws_toIntS.mono_l k
  ·intro y0 y1 y2
   unfold laws_toIntS.l0
   repeat' first
   | (with_reducible exact ih0 _ _ _)
   | (with_reducible exact LeO.refl _)
   | (with_reducible exact LeO.none _)
   | (with_reducible refine LeO.ite ?_ ?_)
   | (with_reducible refine LeO.bind ?_ (fun _ => ?_))
   | exact ih0 _ _ _
   | exact LeO.none _
   | refine LeO.ite ?_ ?_
   | refine LeO.bind ?_ (fun _ => ?_)
theorem laws_toIntS.mono : ∀ a0 k, LeO (laws_toIntS.f k a0) (laws_toIntS.f (k + 1) a0) := by
 intro a0 k
 have ih0 := laws_toIntS.mono_l k
 unfold laws_toIntS.f
 repeat' first
   | (with_reducible exact ih0 _ _ _)
   | (with_reducible exact LeO.refl _)
   | (with_reducible exact LeO.none _)
   | (with_reducible refine LeO.ite ?_ ?_)
   | (with_reducible refine LeO.bind ?_ (fun _ => ?_))
   | exact ih0 _ _ _
   | exact LeO.none _
   | refine LeO.ite ?_ ?_
   | refine LeO.bind ?_ (fun _ => ?_)
set_option maxHeartbeats 8000000 in
set_option maxRecDepth 100000 in
theorem laws_toIntS.calls (k : Nat) (A0 : Option Addr) (c0 : Nat) (l0 : List Int) (r : List Int) (w : World) (hr0 : Kd.C (Kd.int .i64) w A0 l0.length l0) (hc0 : l0.length ≤ c0) (h : laws_toIntS.f k l0 = some r) :
  Calls Try.prog 19 #[.slice A0 l0.length c0] w fun e w' => ∃ v0_ : Value, e = .returned (v0_) ∧ Kd.R (Kd.int .i64) 3 w' w.heap.size (fun _ => True) v0_ r ∧ Below w.heap.size w w' := by
 have HR0 := aQ hr0
 have HC0 := aQ hc0
 clear hr0 hc0
 have HB := aQ (Below.refl w.heap.size w)
 have H : (if 0 ≤ (l0.length : Int) then (if ((l0.length : Int) : Int).toNat ≤ 35184372088832 then (laws_toIntS.l0 k l0 (List.replicate ((l0.length : Int) : Int).toNat 0) 0) else (none)) else (none)) = some r := h
 clear h
 by_cases c2 : 0 ≤ (l0.length : Int)
 ·rw [if_pos c2] at H
  have c2b0 := eq_true c2
  have c2b1 : decide (0 ≤ (l0.length : Int)) = true := decide_eq_true c2
  clear c2
  by_cases c3 : ((l0.length : Int) : Int).toNat ≤ 35184372088832
  ·rw [if_pos c3] at H
   have c3b0 := eq_true c3
   have c3b1 : decide (((l0.length : Int) : Int).toNat ≤ 35184372088832) = true := decide_eq_true c3
   clear c3
   obtain ⟨y20001, hy20001⟩ : ∃ y_ : List Int, y_ = (List.replicate ((l0.length : Int) : Int).toNat 0) := ⟨_, rfl⟩
   replace H : (laws_toIntS.l0 k l0 y20001 0) = some r := by first | (rw [hy20001]; with_reducible exact H) | (have H2_ := (Option.bind_some _ _).symm.trans H; rw [hy20001]; with_reducible exact H2_) | (have H2_ := (Option.bind_some _ _).symm.trans H; with_reducible exact H2_) | with_reducible exact H | (rw [hy20001]; exact H) | exact H
   have Ny20001 := aQ hy20001
   clear hy20001
   have H' := aQ H
   clear H
   go_enter Try.func19, Try.ntmps19
   go_wp2_with (first | ((with_reducible refine gate_dst (N := 7) rfl ?_); refine Kd.R_make (Kd.int .i64) _ 3 rfl (N := 7) rfl 22 _ _ rfl (l0.length : Int) rfl rfl Try.underlying22 (.int .i64 0) 8 info3 rfl (by decide) (by omega) 0 (ok := fun _ => True) (okp := fun _ => True) rfl (fun _ hk => hk) trivial (of_decide_eq_true as_) (Nat.le_trans (Nat.mul_le_mul_right _ (of_decide_eq_true as_ : (l0.length : Int).toNat ≤ 35184372088832)) (by omega)) (Below.refl _ _) (Nat.le_refl _) ?_; intro v20002 w4 ho5 hb hg_ hnew_; clear hg_ hnew_; (first | rw [← Ny20001.out] at ho5 | (simp only [Int.reduceToNat] at ho5; rw [← Ny20001.out] at ho5)); have HO20003 := aQ (Kd.R_lower ho5 (below_size (pB HB.out))); replace HB := aQ (below_step (pB HB.out) hb); clear hb ho5))
   go_loopg [4] k (fun kq v4 w' => ∃ (x3_1 : List Int) (x4_1 : Int), v4 = .int .i64 x4_1 ∧ Aside0 (laws_toIntS.l0 kq l0 x3_1 x4_1 = some r) ∧ Aside0 (kq ≤ k) ∧ Aside0 (Kd.R (Kd.int .i64) 3 w' w.heap.size (fun _ => True) v20002 x3_1) ∧ Aside0 (Below w.heap.size w w'))
   case atStart => exact ⟨(y20001), (0), rs_, H', ⟨Nat.le_refl _⟩, ⟨pR HO20003.out⟩, ⟨pB HB.out⟩⟩
   case round =>
    clear H'
    try clear c1
    try clear c2
    try clear c2b0
    try clear c2b1
    try clear p2
    try clear c3
    try clear c3b0
    try clear c3b1
    obtain ⟨x3_1, x4_1, rfl, HA, HK1, HO_3, HB⟩ := hrel
    cases gk with
    | zero => exact absurd HA.out (by simp [laws_toIntS.l0])
    | succ k1 =>
     have H := HA.out
     clear HA
     simp only [laws_toIntS.l0] at H
     by_cases c6 : x4_1 < (l0.length : Int)
     ·rw [if_pos c6] at H
      have c6b0 : decide (x4_1 < (l0.length : Int)) = true := decide_eq_true c6
      clear c6
      by_cases c7 : 0 ≤ x4_1
      ·rw [if_pos c7] at H
       have c7b0 : decide (0 ≤ x4_1) = true := decide_eq_true c7
       clear c7
       by_cases c8 : x4_1 < (x3_1.length : Int)
       ·rw [if_pos c8] at H
        have c8b0 : decide (x4_1 < (x3_1.length : Int)) = true := decide_eq_true c8
        clear c8
        obtain ⟨y20005, hy20005⟩ : ∃ y_ : List Int, y_ = (x3_1.set (x4_1 : Int).toNat (rd l0 x4_1)) := ⟨_, rfl⟩
        replace H : (laws_toIntS.l0 k1 l0 y20005 (wrap64 (x4_1 + 1))) = some r := by first | (rw [hy20005]; with_reducible exact H) | (have H2_ := (Option.bind_some _ _).symm.trans H; rw [hy20005]; with_reducible exact H2_) | (have H2_ := (Option.bind_some _ _).symm.trans H; with_reducible exact H2_) | with_reducible exact H | (rw [hy20005]; exact H) | exact H
        have Ny20005 := aQ hy20005
        clear hy20005
        have H' := aQ H
        clear H
        have p20004 : 0 ≤ (x4_1 : Int) := of_decide_eq_true as_
        have q20004 : x4_1 < (l0.length : Int) := of_decide_eq_true as_
        obtain ⟨ad20004, e20004, hx20004_0⟩ := Kd.at_int HR0.out x4_1 p20004 q20004
        cases e20004
        replace hx20004_0 := (HB.out.cell (World.block_lt_of_cell? w _ hx20004_0)).trans hx20004_0
        replace p20004 := eq_true p20004
        replace q20004 := eq_true q20004
        have p9 : 0 ≤ (x4_1 : Int) := of_decide_eq_true as_
        have q9 : (x4_1 : Int) < ((x3_1.length : Int) : Int) := of_decide_eq_true as_
        obtain ⟨go9, co9, eo9, gb9, gl9, cl9, HG9⟩ := Kd.R_form HO_3.out (by omega)
        (first | cases eo9 | (injection eo9 with ea_ en_ ec_; (first | subst ea_ | (injection ea_ with ea_; subst ea_)); subst ec_; clear en_))
        have GB9 := aQ gb9
        have GG9 := aQ HG9
        clear gb9 gl9 HG9
        obtain ⟨hx9_0, hf9_0⟩ := Kd.R_celln 0 HO_3.out (x4_1 : Int) p9 q9
        replace p9 := eq_true p9
        replace q9 := eq_true q9
        have HP10 := Kd.R_putg HO_3.out (x4_1 : Int) (rd l0 x4_1)
        go_wp2_with (first | ((with_reducible refine gate_store (t := 3) (p := 20) rfl ?_); refine store_event (t := 3) (p := 20) (v := ?vo_w11) (w1 := (wr.setCell ⟨go9, (x4_1 : Int).toNat, none⟩ (.int .i64 (rd l0 x4_1)))) ?hg ?ho ?hn ?hr ?_; (case ho => rfl); (case hg => rfl); (case hn => rfl); (case hr => first | (go_simp; done) | (go_simp; rfl)); intro w11 hw; have hg : wr.grownBy w11 (some go9) := (by rw [hw]; exact HP10.2); have hp_ : Kd.R (Kd.int .i64) 3 w11 w.heap.size (fun _ => True) (.slice (some ⟨go9, 0, none⟩) x3_1.length co9) y20005 := (by rw [hw, Ny20005.out]; exact HP10.1); clear HP10; replace HO_3 := aQ (hp_); replace HB := aQ ((by rw [hw]; exact below_set (HB.out) GB9.out : Below w.heap.size w w11)); clear hg hw hp_))
        go_roundg k1
        case measure => have := HK1.out; omega
        case rel => exact ⟨(y20005), (wrap64 (x4_1 + 1)), rs_, H', ⟨by have := HK1.out; omega⟩, ⟨pR HO_3.out⟩, ⟨pB HB.out⟩⟩
       ·rw [if_neg c8] at H
        exact absurd H (by simp)
      ·rw [if_neg c7] at H
       exact absurd H (by simp)
     ·rw [if_neg c6] at H
      have c6b0 : decide (x4_1 < (l0.length : Int)) = false := decide_eq_false c6
      clear c6
      obtain rfl := Option.some.inj H
      go_wp2
      go_ret
      exact ⟨_, by first | rfl | (simp [errW_none, errW_some] <;> rfl) | (simp [*, errW_none, errW_some] <;> rfl), by (with_reducible repeat (first | apply Kd.R_alloc | apply Kd.R_drewN | apply Kd.R_drew)); exact HO_3.out, pB HB.out⟩
  ·rw [if_neg c3] at H
   exact absurd H (by simp)
 ·rw [if_neg c2] at H
  exact absurd H (by simp)
/-! ### laws_toMatroid: function 6 -/
def laws_toMatroid.f (k : Nat) (a0_0 : Int) (l0_1 : List Int) : Option (Int × List Int) := (laws_toIntS.f k l0_1).bind fun t7004 => (some (a0_0, t7004))
theorem laws_toMatroid.mono : ∀ a0 a1 k, LeO (laws_toMatroid.f k a0 a1) (laws_toMatroid.f (k + 1) a0 a1) := by
 intro a0 a1 k
 unfold laws_toMatroid.f
 repeat' first
   | (with_reducible exact laws_toIntS.mono _ _)
   | (with_reducible exact LeO.refl _)
   | (with_reducible exact LeO.none _)
   | (with_reducible refine LeO.ite ?_ ?_)
   | (with_reducible refine LeO.bind ?_ (fun _ => ?_))
   | exact laws_toIntS.mono _ _
   | exact LeO.none _
   | refine LeO.ite ?_ ?_
   | refine LeO.bind ?_ (fun _ => ?_)
set_option maxHeartbeats 8000000 in
set_option maxRecDepth 100000 in
theorem laws_toMatroid.calls (k : Nat) (a0_0 : Int) (A0_1 : Option Addr) (c0_1 : Nat) (l0_1 : List Int) (r1 : Int) (r2 : List Int) (w : World) (hr0_1 : Kd.C (Kd.int .i64) w A0_1 l0_1.length l0_1) (hc0_1 : l0_1.length ≤ c0_1) (h : laws_toMatroid.f k a0_0 l0_1 = some (r1, r2)) :
  Calls Try.prog 6 #[.agg #[.int .i64 a0_0, .slice A0_1 l0_1.length c0_1]] w fun e w' => ∃ v1_ : Value, e = .returned (.agg #[.int .i64 r1, v1_]) ∧ Kd.R (Kd.int .i64) 3 w' w.heap.size (fun _ => True) v1_ r2 ∧ Below w.heap.size w w' := by
 have hu24 := Try.underlying24
 have hu28 := Try.underlying28
 have HR0_1 := aQ hr0_1
 have HC0_1 := aQ hc0_1
 clear hr0_1 hc0_1
 have HB := aQ (Below.refl w.heap.size w)
 have H : ((laws_toIntS.f k l0_1).bind fun t7004 => (some (a0_0, t7004))) = some (r1, r2) := h
 clear h
 replace H := Option.bind_eq_some_iff.mp H
 obtain ⟨t7004, A20, H⟩ := H
 replace H : (some (a0_0, t7004)) = some (r1, r2) := H
 have A2 := aQ A20
 clear A20
 simp only [Option.some.injEq, Prod.mk.injEq] at H
 obtain ⟨rfl, rfl⟩ := H
 go_enter Try.func6, Try.ntmps6
 go_wp2_with (first | ((with_reducible refine gate_dst (N := 1) rfl ?_); refine box_event ?hg (N := 1) ?hd (cs := #[.int .i64 a0_0, .slice A0_1 l0_1.length c0_1]) (t := 24) ?hr ?_; (case hd => rfl); (case hg => rfl); (case hr => first | (go_simp; done) | (go_simp; rfl)); intro gb7001 hg w3 hbox hb; have BK7001 := aQ (hbox); have GW7001 := aQ ((by rw [hg]; exact (below_size (pB HB.out)) : w.heap.size ≤ gb7001)); have GE7001 := aQ ((by rw [hg]; exact (below_size (pB HB.out)) : w.heap.size ≤ gb7001)); replace HB := aQ (below_step (pB HB.out) hb); clear hb hbox hg) | ((with_reducible refine gate_dst (N := 2) rfl ?_); refine box_event ?hg (N := 2) ?hd (cs := #[.int .i64 0, .slice none 0 0]) (t := 28) ?hr ?_; (case hd => rfl); (case hg => rfl); (case hr => first | (go_simp; done) | (go_simp; rfl)); intro gb7002 hg w4 hbox hb; have BK7002 := aQ (hbox); have GW7002 := aQ ((by rw [hg]; exact (below_size (pB1 HB.out GE7001.out)) : w.heap.size ≤ gb7002)); have GE7002 := aQ ((by rw [hg]; exact (below_size (pB1 HB.out GE7001.out)) : w.heap.size ≤ gb7002)); replace HB := aQ (below_step (pB1 HB.out GE7001.out) hb); have NB7001_7002 := aQ ((by rw [hg]; exact Nat.ne_of_lt (blk_lt (g := gb7001) (o := .cells #[.int .i64 a0_0, .slice A0_1 l0_1.length c0_1] 24 (0, 0)) (pk BK7001.out)) : gb7001 ≠ gb7002)); have NB7002_7001 := aQ ((by rw [hg]; exact Nat.ne_of_gt (blk_lt (g := gb7001) (o := .cells #[.int .i64 a0_0, .slice A0_1 l0_1.length c0_1] 24 (0, 0)) (pk BK7001.out)) : gb7002 ≠ gb7001)); replace BK7001 := aQ (blk_below (g := gb7001) (o := .cells #[.int .i64 a0_0, .slice A0_1 l0_1.length c0_1] 24 (0, 0)) (pk BK7001.out) hb); clear hb hbox hg) | ((with_reducible refine gate_dst (N := 3) rfl ?_); refine box_event ?hg (N := 3) ?hd (cs := #[.int .i64 0, .slice none 0 0]) (t := 28) ?hr ?_; (case hd => rfl); (case hg => rfl); (case hr => first | (go_simp; done) | (go_simp; rfl)); intro gb7003 hg w5 hbox hb; have BK7003 := aQ (hbox); have GW7003 := aQ ((by rw [hg]; exact (below_size (pB2 HB.out GE7001.out GE7002.out)) : w.heap.size ≤ gb7003)); have GE7003 := aQ ((by rw [hg]; exact (below_size (pB2 HB.out GE7001.out GE7002.out)) : w.heap.size ≤ gb7003)); replace HB := aQ (below_step (pB2 HB.out GE7001.out GE7002.out) hb); have NB7001_7003 := aQ ((by rw [hg]; exact Nat.ne_of_lt (blk_lt (g := gb7001) (o := .cells #[.int .i64 a0_0, .slice A0_1 l0_1.length c0_1] 24 (0, 0)) (pk BK7001.out)) : gb7001 ≠ gb7003)); have NB7003_7001 := aQ ((by rw [hg]; exact Nat.ne_of_gt (blk_lt (g := gb7001) (o := .cells #[.int .i64 a0_0, .slice A0_1 l0_1.length c0_1] 24 (0, 0)) (pk BK7001.out)) : gb7003 ≠ gb7001)); replace BK7001 := aQ (blk_below (g := gb7001) (o := .cells #[.int .i64 a0_0, .slice A0_1 l0_1.length c0_1] 24 (0, 0)) (pk BK7001.out) hb); have NB7002_7003 := aQ ((by rw [hg]; exact Nat.ne_of_lt (blk_lt (g := gb7002) (o := .cells #[.int .i64 0, .slice none 0 0] 28 (0, 0)) (pk BK7002.out)) : gb7002 ≠ gb7003)); have NB7003_7002 := aQ ((by rw [hg]; exact Nat.ne_of_gt (blk_lt (g := gb7002) (o := .cells #[.int .i64 0, .slice none 0 0] 28 (0, 0)) (pk BK7002.out)) : gb7003 ≠ gb7002)); replace BK7002 := aQ (blk_below (g := gb7002) (o := .cells #[.int .i64 0, .slice none 0 0] 28 (0, 0)) (pk BK7002.out) hb); clear hb hbox hg; have hnb6 := NB7001_7002.out; have hnc6 := NB7002_7001.out; have hnb7 := NB7001_7003.out; have hnc7 := NB7003_7001.out; have hcz8_0 := bc (v := (.int .i64 a0_0)) BK7001.out 0; have hcz8_1 := bc (v := (.slice A0_1 l0_1.length c0_1)) BK7001.out 1; have hfz8_0 := blk_frozen BK7001.out 0; have hfz8_1 := blk_frozen BK7001.out 1; have hnb9 := NB7003_7002.out; have hnc9 := NB7002_7003.out; have hcz10_0 := bc (v := (.int .i64 0)) BK7003.out 0; have hcz10_1 := bc (v := (.slice none 0 0)) BK7003.out 1; have hfz10_0 := blk_frozen BK7003.out 0; have hfz10_1 := blk_frozen BK7003.out 1) | ((with_reducible refine gate_callee (f := 19) rfl ?_); refine goesL_ (some 9) rfl rfl Try.func19 (by kernel_rfl) rfl #[.slice A0_1 l0_1.length c0_1] rfl lm ?_; (with_reducible refine (laws_toIntS.calls k _ _ l0_1 t7004 _ ?side1 ?side2 A2.out).mono ?_); (case side1 => exact Kd.C_below HR0_1.out (pB3 HB.out GE7001.out GE7002.out GE7003.out)); (case side2 => exact HC0_1.out); rintro e w11 ⟨v7005, rfl, ho0, hb⟩; refine ⟨_, rfl, ?_⟩; have HO7006 := aQ (Kd.R_lower ho0 (below_size (pB3 HB.out GE7001.out GE7002.out GE7003.out))); replace BK7001 := aQ (blk_below (g := gb7001) (o := .cells #[.int .i64 a0_0, .slice A0_1 l0_1.length c0_1] 24 (0, 0)) (by (with_reducible repeat (first | refine blk_drewN ?_ _ | refine blk_drew ?_ | refine blk_alloc ?_ _)); refine blk_far ?_ NB7001_7003.out _; (with_reducible repeat (first | refine blk_drewN ?_ _ | refine blk_drew ?_ | refine blk_alloc ?_ _)); exact BK7001.out) hb); replace BK7002 := aQ (blk_below (g := gb7002) (o := .cells #[.int .i64 0, .slice none 0 0] 28 (0, 0)) (by (with_reducible repeat (first | refine blk_drewN ?_ _ | refine blk_drew ?_ | refine blk_alloc ?_ _)); refine blk_far ?_ NB7002_7003.out _; (with_reducible repeat (first | refine blk_drewN ?_ _ | refine blk_drew ?_ | refine blk_alloc ?_ _)); exact BK7002.out) hb); replace BK7003 := aQ (blk_below (g := gb7003) (o := .cells #[.int .i64 a0_0, .slice none 0 0] 28 (0, 0)) (by (with_reducible repeat (first | refine blk_drewN ?_ _ | refine blk_drew ?_ | refine blk_alloc ?_ _)); refine blk_put (cs := #[.int .i64 0, .slice none 0 0]) ?_ 0 _ rfl; (with_reducible repeat (first | refine blk_drewN ?_ _ | refine blk_drew ?_ | refine blk_alloc ?_ _)); exact BK7003.out) hb); replace HB := aQ (below_step (pB3 HB.out GE7001.out GE7002.out GE7003.out) hb); (try clear hb); (try clear ho0); obtain ⟨Ao12, co12, eo12⟩ := Kd.R_slice HO7006.out; subst eo12; have hcz13_0 := bc (v := (.int .i64 a0_0)) BK7003.out 0; have hcz13_1 := bc (v := (.slice none 0 0)) BK7003.out 1; have hfz13_0 := blk_frozen BK7003.out 0; have hfz13_1 := blk_frozen BK7003.out 1; have hcz14_0 := bc (v := (.int .i64 0)) BK7002.out 0; have hcz14_1 := bc (v := (.slice none 0 0)) BK7002.out 1; have hfz14_0 := blk_frozen BK7002.out 0; have hfz14_1 := blk_frozen BK7002.out 1))
 refine bodyPost_ret (results_cell_row rfl _ _ gb7002 28 #[.int .i64 a0_0, .slice Ao12 t7004.length co12] (0, 0) _ rfl (by (with_reducible repeat (first | refine blk_drewN ?_ _ | refine blk_drew ?_ | refine blk_alloc ?_ _)); refine blk_put (cs := #[.int .i64 a0_0, .slice none 0 0]) ?_ 1 _ rfl; (with_reducible repeat (first | refine blk_drewN ?_ _ | refine blk_drew ?_ | refine blk_alloc ?_ _)); refine blk_put (cs := #[.int .i64 0, .slice none 0 0]) ?_ 0 _ rfl; (with_reducible repeat (first | refine blk_drewN ?_ _ | refine blk_drew ?_ | refine blk_alloc ?_ _)); refine blk_far ?_ NB7002_7003.out _; (with_reducible repeat (first | refine blk_drewN ?_ _ | refine blk_drew ?_ | refine blk_alloc ?_ _)); exact BK7002.out) Try.underlying28 rfl (by kernel_rfl)) rfl ?_
 exact ⟨_, by first | rfl | (simp [errW_none, errW_some] <;> rfl) | (simp [*, errW_none, errW_some] <;> rfl), by (with_reducible repeat (first | apply Kd.R_alloc | apply Kd.R_drewN | apply Kd.R_drew)); exact Kd.R_mono (Kd.R_far (p := ⟨gb7002, 1, none⟩) (Kd.R_far (p := ⟨gb7002, 0, none⟩) (Kd.R_far (p := ⟨gb7003, 1, none⟩) (Kd.R_types (Kd.R_types HO7006.out BK7003.out (by decide)) BK7002.out (by decide)) (fun _ hk => hk.1.2) (.slice Ao12 t7004.length co12)) (fun _ hk => hk.2) (.int .i64 a0_0)) (fun _ hk => hk.2) (.slice Ao12 t7004.length co12)) (fun _ hk => trivial), pB3 HB.out GE7001.out GE7002.out GE7003.out⟩
/-! ### laws_eqIntS: function 25 -/
def laws_eqIntS.l0 : Nat → List Int → List Int → Int → Option (Bool)
 | 0, _, _, _ => none
 | k + 1, x0, x1, x5 => if x5 < (x0.length : Int) then (if 0 ≤ x5 then (if x5 < (x1.length : Int) then (if (rd x0 x5) = (rd x1 x5) then (laws_eqIntS.l0 k x0 x1 (wrap64 (x5 + 1))) else (some false)) else (none)) else (none)) else (some true)
def laws_eqIntS.f (k : Nat) (l0 : List Int) (l1 : List Int) : Option (Bool) := if (l0.length : Int) = (l1.length : Int) then (laws_eqIntS.l0 k l0 l1 0) else (some false)
theorem laws_eqIntS.mono_l : ∀ k, (∀ y0 y1 y2, LeO (laws_eqIntS.l0 k y0 y1 y2) (laws_eqIntS.l0 (k + 1) y0 y1 y2))
 | 0 => fun _ _ _ r h => by simp [laws_eqIntS.l0] at h
 | k + 1 => by
  have ih0 := laws_eqIntS.mono_l k
  ·intro y0 y1 y2
   unfold laws_eqIntS.l0
   repeat' first
   | (with_reducible exact ih0 _ _ _)
   | (with_reducible exact LeO.refl _)
   | (with_reducible exact LeO.none _)
   | (with_reducible refine LeO.ite ?_ ?_)
   | (with_reducible refine LeO.bind ?_ (fun _ => ?_))
   | exact ih0 _ _ _
   | exact LeO.none _
   | refine LeO.ite ?_ ?_
   | refine LeO.bind ?_ (fun _ => ?_)
theorem laws_eqIntS.mono : ∀ a0 a1 k, LeO (laws_eqIntS.f k a0 a1) (laws_eqIntS.f (k + 1) a0 a1) := by
 intro a0 a1 k
 have ih0 := laws_eqIntS.mono_l k
 unfold laws_eqIntS.f
 repeat' first
   | (with_reducible exact ih0 _ _ _)
   | (with_reducible exact LeO.refl _)
   | (with_reducible exact LeO.none _)
   | (with_reducible refine LeO.ite ?_ ?_)
   | (with_reducible refine LeO.bind ?_ (fun _ => ?_))
   | exact ih0 _ _ _
   | exact LeO.none _
   | refine LeO.ite ?_ ?_
   | refine LeO.bind ?_ (fun _ => ?_)
set_option maxHeartbeats 8000000 in
set_option maxRecDepth 100000 in
theorem laws_eqIntS.calls (k : Nat) (A0 : Option Addr) (c0 : Nat) (l0 : List Int) (A1 : Option Addr) (c1 : Nat) (l1 : List Int) (r : Bool) (w : World) (hr0 : Kd.C (Kd.int .i64) w A0 l0.length l0) (hc0 : l0.length ≤ c0) (hr1 : Kd.C (Kd.int .i64) w A1 l1.length l1) (hc1 : l1.length ≤ c1) (h : laws_eqIntS.f k l0 l1 = some r) :
  Calls Try.prog 25 #[.slice A0 l0.length c0, .slice A1 l1.length c1] w fun e w' => e = .returned (.bool r) ∧ Drawn0 w w' := by
 have HR0 := aQ hr0
 have HC0 := aQ hc0
 clear hr0 hc0
 have HR1 := aQ hr1
 have HC1 := aQ hc1
 clear hr1 hc1
 have H : (if (l0.length : Int) = (l1.length : Int) then (laws_eqIntS.l0 k l0 l1 0) else (some false)) = some r := h
 clear h
 by_cases c3 : (l0.length : Int) = (l1.length : Int)
 ·rw [if_pos c3] at H
  have c3b0 : ((l0.length : Int) == (l1.length : Int)) = true := beq_iff_eq.mpr c3
  have c3b1 : ((l0.length : Int) != (l1.length : Int)) = false := bne_eq_false_iff_eq.mpr c3
  have c3b2 : (l0.length == l1.length) = true := by first | simpa using c3 | (simp at c3 ⊢; omega)
  clear c3
  have H' := aQ H
  clear H
  go_enter Try.func25, Try.ntmps25
  go_wp2
  repeat (go_quiet (fail); try go_wp2)
  go_loopg [5] k (fun kq v5 w' => ∃ (x5_1 : Int), v5 = .int .i64 x5_1 ∧ Aside0 (laws_eqIntS.l0 kq l0 l1 x5_1 = some r) ∧ Aside0 (kq ≤ k) ∧ Drawn0 w w')
  case atStart => exact ⟨(0), rs_, H', ⟨Nat.le_refl _⟩, rd_⟩
  case round =>
   clear H'
   try clear c1
   try clear c2
   try clear p2
   try clear c3
   try clear c3b0
   try clear c3b1
   try clear c3b2
   obtain ⟨x5_1, rfl, HA, HK1, ⟨m1, rfl⟩⟩ := hrel
   cases gk with
   | zero => exact absurd HA.out (by simp [laws_eqIntS.l0])
   | succ k1 =>
    have H := HA.out
    clear HA
    simp only [laws_eqIntS.l0] at H
    by_cases c4 : x5_1 < (l0.length : Int)
    ·rw [if_pos c4] at H
     have c4b0 : decide (x5_1 < (l0.length : Int)) = true := decide_eq_true c4
     clear c4
     by_cases c5 : 0 ≤ x5_1
     ·rw [if_pos c5] at H
      have c5b0 : decide (0 ≤ x5_1) = true := decide_eq_true c5
      clear c5
      by_cases c6 : x5_1 < (l1.length : Int)
      ·rw [if_pos c6] at H
       have c6b0 : decide (x5_1 < (l1.length : Int)) = true := decide_eq_true c6
       clear c6
       by_cases c7 : (rd l0 x5_1) = (rd l1 x5_1)
       ·rw [if_pos c7] at H
        have c7b0 : ((rd l0 x5_1) == (rd l1 x5_1)) = true := beq_iff_eq.mpr c7
        have c7b1 : ((rd l0 x5_1) != (rd l1 x5_1)) = false := bne_eq_false_iff_eq.mpr c7
        clear c7
        have H' := aQ H
        clear H
        have p26001 : 0 ≤ (x5_1 : Int) := of_decide_eq_true as_
        have q26001 : x5_1 < (l0.length : Int) := of_decide_eq_true as_
        obtain ⟨ad26001, e26001, hx26001_0⟩ := Kd.at_int HR0.out x5_1 p26001 q26001
        cases e26001
        replace p26001 := eq_true p26001
        replace q26001 := eq_true q26001
        have p26002 : 0 ≤ (x5_1 : Int) := of_decide_eq_true as_
        have q26002 : x5_1 < (l1.length : Int) := of_decide_eq_true as_
        obtain ⟨ad26002, e26002, hx26002_0⟩ := Kd.at_int HR1.out x5_1 p26002 q26002
        cases e26002
        replace p26002 := eq_true p26002
        replace q26002 := eq_true q26002
        go_wp2
        repeat (go_quiet (fail); try go_wp2)
        go_roundg k1
        case measure => have := HK1.out; omega
        case rel => exact ⟨(wrap64 (x5_1 + 1)), rs_, H', ⟨by have := HK1.out; omega⟩, rd_⟩
       ·rw [if_neg c7] at H
        have c7b0 : ((rd l0 x5_1) == (rd l1 x5_1)) = false := beq_eq_false_iff_ne.mpr c7
        have c7b1 : ((rd l0 x5_1) != (rd l1 x5_1)) = true := bne_iff_ne.mpr c7
        obtain rfl := Option.some.inj H
        have p26001 : 0 ≤ (x5_1 : Int) := of_decide_eq_true as_
        have q26001 : x5_1 < (l0.length : Int) := of_decide_eq_true as_
        obtain ⟨ad26001, e26001, hx26001_0⟩ := Kd.at_int HR0.out x5_1 p26001 q26001
        cases e26001
        replace p26001 := eq_true p26001
        replace q26001 := eq_true q26001
        have p26002 : 0 ≤ (x5_1 : Int) := of_decide_eq_true as_
        have q26002 : x5_1 < (l1.length : Int) := of_decide_eq_true as_
        obtain ⟨ad26002, e26002, hx26002_0⟩ := Kd.at_int HR1.out x5_1 p26002 q26002
        cases e26002
        replace p26002 := eq_true p26002
        replace q26002 := eq_true q26002
        go_wp2
        repeat (go_quiet (fail); try go_wp2)
        go_ret
        exact ⟨rs_, rd_⟩
      ·rw [if_neg c6] at H
       exact absurd H (by simp)
     ·rw [if_neg c5] at H
      exact absurd H (by simp)
    ·rw [if_neg c4] at H
     have c4b0 : decide (x5_1 < (l0.length : Int)) = false := decide_eq_false c4
     clear c4
     obtain rfl := Option.some.inj H
     go_wp2
     repeat (go_quiet (fail); try go_wp2)
     go_ret
     exact ⟨rs_, rd_⟩
 ·rw [if_neg c3] at H
  have c3b0 : ((l0.length : Int) == (l1.length : Int)) = false := beq_eq_false_iff_ne.mpr c3
  have c3b1 : ((l0.length : Int) != (l1.length : Int)) = true := bne_iff_ne.mpr c3
  have c3b2 : (l0.length == l1.length) = false := by first | simpa using c3 | (simp at c3 ⊢; omega)
  obtain rfl := Option.some.inj H
  go_enter Try.func25, Try.ntmps25
  go_wp2
  repeat (go_quiet (fail); try go_wp2)
  go_ret
  exact ⟨rs_, rd_⟩
/-! ### laws_eqIntSS: function 8 -/
def laws_eqIntSS.l0 : Nat → List (List Int) → List (List Int) → Int → Option (Bool)
 | 0, _, _, _ => none
 | k + 1, x0, x1, x5 => if x5 < (x0.length : Int) then (if 0 ≤ x5 then (if x5 < (x1.length : Int) then ((laws_eqIntS.f k (rd_L1 x0 x5) (rd_L1 x1 x5)).bind fun t9003 => (if t9003 = true then (laws_eqIntSS.l0 k x0 x1 (wrap64 (x5 + 1))) else (some false))) else (none)) else (none)) else (some true)
def laws_eqIntSS.f (k : Nat) (l0 : List (List Int)) (l1 : List (List Int)) : Option (Bool) := if (l0.length : Int) = (l1.length : Int) then (laws_eqIntSS.l0 k l0 l1 0) else (some false)
theorem laws_eqIntSS.mono_l : ∀ k, (∀ y0 y1 y2, LeO (laws_eqIntSS.l0 k y0 y1 y2) (laws_eqIntSS.l0 (k + 1) y0 y1 y2))
 | 0 => fun _ _ _ r h => by simp [laws_eqIntSS.l0] at h
 | k + 1 => by
  have ih0 := laws_eqIntSS.mono_l k
  ·intro y0 y1 y2
   unfold laws_eqIntSS.l0
   repeat' first
   | (with_reducible exact ih0 _ _ _)
   | (with_reducible exact laws_eqIntS.mono _ _ _)
   | (with_reducible exact LeO.refl _)
   | (with_reducible exact LeO.none _)
   | (with_reducible refine LeO.ite ?_ ?_)
   | (with_reducible refine LeO.bind ?_ (fun _ => ?_))
   | exact ih0 _ _ _
   | exact laws_eqIntS.mono _ _ _
   | exact LeO.none _
   | refine LeO.ite ?_ ?_
   | refine LeO.bind ?_ (fun _ => ?_)
theorem laws_eqIntSS.mono : ∀ a0 a1 k, LeO (laws_eqIntSS.f k a0 a1) (laws_eqIntSS.f (k + 1) a0 a1) := by
 intro a0 a1 k
 have ih0 := laws_eqIntSS.mono_l k
 unfold laws_eqIntSS.f
 repeat' first
   | (with_reducible exact ih0 _ _ _)
   | (with_reducible exact laws_eqIntS.mono _ _ _)
   | (with_reducible exact LeO.refl _)
   | (with_reducible exact LeO.none _)
   | (with_reducible refine LeO.ite ?_ ?_)
   | (with_reducible refine LeO.bind ?_ (fun _ => ?_))
   | exact ih0 _ _ _
   | exact laws_eqIntS.mono _ _ _
   | exact LeO.none _
   | refine LeO.ite ?_ ?_
   | refine LeO.bind ?_ (fun _ => ?_)
set_option maxHeartbeats 8000000 in
set_option maxRecDepth 100000 in
theorem laws_eqIntSS.calls (k : Nat) (A0 : Option Addr) (c0 : Nat) (l0 : List (List Int)) (A1 : Option Addr) (c1 : Nat) (l1 : List (List Int)) (r : Bool) (w : World) (hr0 : Kd.C (Kd.slice 3 (Kd.int .i64)) w A0 l0.length l0) (hc0 : l0.length ≤ c0) (hr1 : Kd.C (Kd.slice 3 (Kd.int .i64)) w A1 l1.length l1) (hc1 : l1.length ≤ c1) (h : laws_eqIntSS.f k l0 l1 = some r) :
  Calls Try.prog 8 #[.slice A0 l0.length c0, .slice A1 l1.length c1] w fun e w' => e = .returned (.bool r) ∧ Drawn0 w w' := by
 have HR0 := aQ hr0
 have HC0 := aQ hc0
 clear hr0 hc0
 have HR1 := aQ hr1
 have HC1 := aQ hc1
 clear hr1 hc1
 have H : (if (l0.length : Int) = (l1.length : Int) then (laws_eqIntSS.l0 k l0 l1 0) else (some false)) = some r := h
 clear h
 by_cases c3 : (l0.length : Int) = (l1.length : Int)
 ·rw [if_pos c3] at H
  have c3b0 : ((l0.length : Int) == (l1.length : Int)) = true := beq_iff_eq.mpr c3
  have c3b1 : ((l0.length : Int) != (l1.length : Int)) = false := bne_eq_false_iff_eq.mpr c3
  have c3b2 : (l0.length == l1.length) = true := by first | simpa using c3 | (simp at c3 ⊢; omega)
  clear c3
  have H' := aQ H
  clear H
  go_enter Try.func8, Try.ntmps8
  go_wp2
  repeat (go_quiet (fail); try go_wp2)
  go_loopg [5] k (fun kq v5 w' => ∃ (x5_1 : Int), v5 = .int .i64 x5_1 ∧ Aside0 (laws_eqIntSS.l0 kq l0 l1 x5_1 = some r) ∧ Aside0 (kq ≤ k) ∧ Drawn0 w w')
  case atStart => exact ⟨(0), rs_, H', ⟨Nat.le_refl _⟩, rd_⟩
  case round =>
   clear H'
   try clear c1
   try clear p2
   try clear c3
   try clear c3b0
   try clear c3b1
   try clear c3b2
   obtain ⟨x5_1, rfl, HA, HK1, ⟨m1, rfl⟩⟩ := hrel
   cases gk with
   | zero => exact absurd HA.out (by simp [laws_eqIntSS.l0])
   | succ k1 =>
    have H := HA.out
    clear HA
    simp only [laws_eqIntSS.l0] at H
    by_cases c4 : x5_1 < (l0.length : Int)
    ·rw [if_pos c4] at H
     have c4b0 : decide (x5_1 < (l0.length : Int)) = true := decide_eq_true c4
     clear c4
     by_cases c5 : 0 ≤ x5_1
     ·rw [if_pos c5] at H
      have c5b0 : decide (0 ≤ x5_1) = true := decide_eq_true c5
      clear c5
      by_cases c6 : x5_1 < (l1.length : Int)
      ·rw [if_pos c6] at H
       have c6b0 : decide (x5_1 < (l1.length : Int)) = true := decide_eq_true c6
       clear c6
       replace H := Option.bind_eq_some_iff.mp H
       obtain ⟨t9003, A70, H⟩ := H
       replace H : (if t9003 = true then (laws_eqIntSS.l0 k1 l0 l1 (wrap64 (x5_1 + 1))) else (some false)) = some r := H
       have A7 := aQ A70
       clear A70
       by_cases c8 : t9003 = true
       ·subst c8
        have H1 : (laws_eqIntSS.l0 k1 l0 l1 (wrap64 (x5_1 + 1))) = some r := by rw [if_pos rfl] at H; exact H
        clear H
        have H := H1
        clear H1
        have H' := aQ H
        clear H
        have p9001 : 0 ≤ (x5_1 : Int) := of_decide_eq_true as_
        have q9001 : x5_1 < (l0.length : Int) := of_decide_eq_true as_
        obtain ⟨ad9001, A9001_0, c9001_0, e9001, hx9001_0, hl9001_0, hi9001_0⟩ := at_L1 HR0.out x5_1 p9001 q9001
        cases e9001
        have HR9001_0 := aQ hi9001_0
        have HC9001_0 := aQ hl9001_0
        clear hi9001_0 hl9001_0
        replace p9001 := eq_true p9001
        replace q9001 := eq_true q9001
        have p9002 : 0 ≤ (x5_1 : Int) := of_decide_eq_true as_
        have q9002 : x5_1 < (l1.length : Int) := of_decide_eq_true as_
        obtain ⟨ad9002, A9002_0, c9002_0, e9002, hx9002_0, hl9002_0, hi9002_0⟩ := at_L1 HR1.out x5_1 p9002 q9002
        cases e9002
        have HR9002_0 := aQ hi9002_0
        have HC9002_0 := aQ hl9002_0
        clear hi9002_0 hl9002_0
        replace p9002 := eq_true p9002
        replace q9002 := eq_true q9002
        go_wp2_with (first | (go_at_call 25; (with_reducible refine (laws_eqIntS.calls k1 _ _ (rd_L1 l0 x5_1) _ _ (rd_L1 l1 x5_1) true _ ?side1 ?side2 ?side3 ?side4 A7.out).mono ?_); (case side1 => exact pC HR9001_0.out); (case side2 => exact HC9001_0.out); (case side3 => exact pC HR9002_0.out); (case side4 => exact HC9002_0.out); rintro e w' ⟨rfl, ⟨nd, rfl⟩⟩; (try first | exact ⟨rfl, _, World.drewN_drewN _ _ _⟩ | exact ⟨rfl, _, Eq.trans (World.drewN_drewN _ _ _) (congrArg (World.drewN _) (Nat.add_assoc _ _ _))⟩)))
        repeat (go_quiet (first | (go_at_call 25; (with_reducible refine (laws_eqIntS.calls k1 _ _ (rd_L1 l0 x5_1) _ _ (rd_L1 l1 x5_1) true _ ?side1 ?side2 ?side3 ?side4 A7.out).mono ?_); (case side1 => exact pC HR9001_0.out); (case side2 => exact HC9001_0.out); (case side3 => exact pC HR9002_0.out); (case side4 => exact HC9002_0.out); rintro e w' ⟨rfl, ⟨nd, rfl⟩⟩; (try first | exact ⟨rfl, _, World.drewN_drewN _ _ _⟩ | exact ⟨rfl, _, Eq.trans (World.drewN_drewN _ _ _) (congrArg (World.drewN _) (Nat.add_assoc _ _ _))⟩))); try go_wp2_with (first | (go_at_call 25; (with_reducible refine (laws_eqIntS.calls k1 _ _ (rd_L1 l0 x5_1) _ _ (rd_L1 l1 x5_1) true _ ?side1 ?side2 ?side3 ?side4 A7.out).mono ?_); (case side1 => exact pC HR9001_0.out); (case side2 => exact HC9001_0.out); (case side3 => exact pC HR9002_0.out); (case side4 => exact HC9002_0.out); rintro e w' ⟨rfl, ⟨nd, rfl⟩⟩; (try first | exact ⟨rfl, _, World.drewN_drewN _ _ _⟩ | exact ⟨rfl, _, Eq.trans (World.drewN_drewN _ _ _) (congrArg (World.drewN _) (Nat.add_assoc _ _ _))⟩))))
        go_roundg k1
        case measure => have := HK1.out; omega
        case rel => exact ⟨(wrap64 (x5_1 + 1)), rs_, H', ⟨by have := HK1.out; omega⟩, rd_⟩
       ·replace c8 := Bool.eq_false_iff.mpr c8
        subst c8
        have H1 : (some false) = some r := by rw [if_neg (show ¬ (false = true) by decide)] at H; exact H
        clear H
        have H := H1
        clear H1
        obtain rfl := Option.some.inj H
        have p9001 : 0 ≤ (x5_1 : Int) := of_decide_eq_true as_
        have q9001 : x5_1 < (l0.length : Int) := of_decide_eq_true as_
        obtain ⟨ad9001, A9001_0, c9001_0, e9001, hx9001_0, hl9001_0, hi9001_0⟩ := at_L1 HR0.out x5_1 p9001 q9001
        cases e9001
        have HR9001_0 := aQ hi9001_0
        have HC9001_0 := aQ hl9001_0
        clear hi9001_0 hl9001_0
        replace p9001 := eq_true p9001
        replace q9001 := eq_true q9001
        have p9002 : 0 ≤ (x5_1 : Int) := of_decide_eq_true as_
        have q9002 : x5_1 < (l1.length : Int) := of_decide_eq_true as_
        obtain ⟨ad9002, A9002_0, c9002_0, e9002, hx9002_0, hl9002_0, hi9002_0⟩ := at_L1 HR1.out x5_1 p9002 q9002
        cases e9002
        have HR9002_0 := aQ hi9002_0
        have HC9002_0 := aQ hl9002_0
        clear hi9002_0 hl9002_0
        replace p9002 := eq_true p9002
        replace q9002 := eq_true q9002
        go_wp2_with (first | (go_at_call 25; (with_reducible refine (laws_eqIntS.calls k1 _ _ (rd_L1 l0 x5_1) _ _ (rd_L1 l1 x5_1) false _ ?side1 ?side2 ?side3 ?side4 A7.out).mono ?_); (case side1 => exact pC HR9001_0.out); (case side2 => exact HC9001_0.out); (case side3 => exact pC HR9002_0.out); (case side4 => exact HC9002_0.out); rintro e w' ⟨rfl, ⟨nd, rfl⟩⟩; (try first | exact ⟨rfl, _, World.drewN_drewN _ _ _⟩ | exact ⟨rfl, _, Eq.trans (World.drewN_drewN _ _ _) (congrArg (World.drewN _) (Nat.add_assoc _ _ _))⟩)))
        repeat (go_quiet (first | (go_at_call 25; (with_reducible refine (laws_eqIntS.calls k1 _ _ (rd_L1 l0 x5_1) _ _ (rd_L1 l1 x5_1) false _ ?side1 ?side2 ?side3 ?side4 A7.out).mono ?_); (case side1 => exact pC HR9001_0.out); (case side2 => exact HC9001_0.out); (case side3 => exact pC HR9002_0.out); (case side4 => exact HC9002_0.out); rintro e w' ⟨rfl, ⟨nd, rfl⟩⟩; (try first | exact ⟨rfl, _, World.drewN_drewN _ _ _⟩ | exact ⟨rfl, _, Eq.trans (World.drewN_drewN _ _ _) (congrArg (World.drewN _) (Nat.add_assoc _ _ _))⟩))); try go_wp2_with (first | (go_at_call 25; (with_reducible refine (laws_eqIntS.calls k1 _ _ (rd_L1 l0 x5_1) _ _ (rd_L1 l1 x5_1) false _ ?side1 ?side2 ?side3 ?side4 A7.out).mono ?_); (case side1 => exact pC HR9001_0.out); (case side2 => exact HC9001_0.out); (case side3 => exact pC HR9002_0.out); (case side4 => exact HC9002_0.out); rintro e w' ⟨rfl, ⟨nd, rfl⟩⟩; (try first | exact ⟨rfl, _, World.drewN_drewN _ _ _⟩ | exact ⟨rfl, _, Eq.trans (World.drewN_drewN _ _ _) (congrArg (World.drewN _) (Nat.add_assoc _ _ _))⟩))))
        go_ret
        exact ⟨rs_, rd_⟩
      ·rw [if_neg c6] at H
       exact absurd H (by simp)
     ·rw [if_neg c5] at H
      exact absurd H (by simp)
    ·rw [if_neg c4] at H
     have c4b0 : decide (x5_1 < (l0.length : Int)) = false := decide_eq_false c4
     clear c4
     obtain rfl := Option.some.inj H
     go_wp2
     repeat (go_quiet (fail); try go_wp2)
     go_ret
     exact ⟨rs_, rd_⟩
 ·rw [if_neg c3] at H
  have c3b0 : ((l0.length : Int) == (l1.length : Int)) = false := beq_eq_false_iff_ne.mpr c3
  have c3b1 : ((l0.length : Int) != (l1.length : Int)) = true := bne_iff_ne.mpr c3
  have c3b2 : (l0.length == l1.length) = false := by first | simpa using c3 | (simp at c3 ⊢; omega)
  obtain rfl := Option.some.inj H
  go_enter Try.func8, Try.ntmps8
  go_wp2
  repeat (go_quiet (fail); try go_wp2)
  go_ret
  exact ⟨rs_, rd_⟩
/-! ### laws_eqMatroid: function 9 -/
def laws_eqMatroid.f (k : Nat) (a0_0 : Int) (l0_1 : List Int) (a1_0 : Int) (l1_1 : List Int) : Option (Bool) := if a0_0 = a1_0 then ((laws_eqIntS.f k l0_1 l1_1).bind fun t10003 => (if t10003 = true then (some true) else (some false))) else (some false)
theorem laws_eqMatroid.mono : ∀ a0 a1 a2 a3 k, LeO (laws_eqMatroid.f k a0 a1 a2 a3) (laws_eqMatroid.f (k + 1) a0 a1 a2 a3) := by
 intro a0 a1 a2 a3 k
 unfold laws_eqMatroid.f
 repeat' first
   | (with_reducible exact laws_eqIntS.mono _ _ _)
   | (with_reducible exact LeO.refl _)
   | (with_reducible exact LeO.none _)
   | (with_reducible refine LeO.ite ?_ ?_)
   | (with_reducible refine LeO.bind ?_ (fun _ => ?_))
   | exact laws_eqIntS.mono _ _ _
   | exact LeO.none _
   | refine LeO.ite ?_ ?_
   | refine LeO.bind ?_ (fun _ => ?_)
set_option maxHeartbeats 8000000 in
set_option maxRecDepth 100000 in
theorem laws_eqMatroid.calls (k : Nat) (a0_0 : Int) (A0_1 : Option Addr) (c0_1 : Nat) (l0_1 : List Int) (a1_0 : Int) (A1_1 : Option Addr) (c1_1 : Nat) (l1_1 : List Int) (r : Bool) (w : World) (hr0_1 : Kd.C (Kd.int .i64) w A0_1 l0_1.length l0_1) (hc0_1 : l0_1.length ≤ c0_1) (hr1_1 : Kd.C (Kd.int .i64) w A1_1 l1_1.length l1_1) (hc1_1 : l1_1.length ≤ c1_1) (h : laws_eqMatroid.f k a0_0 l0_1 a1_0 l1_1 = some r) :
  Calls Try.prog 9 #[.agg #[.int .i64 a0_0, .slice A0_1 l0_1.length c0_1], .agg #[.int .i64 a1_0, .slice A1_1 l1_1.length c1_1]] w fun e w' => e = .returned (.bool r) ∧ Below w.heap.size w w' := by
 have hu28 := Try.underlying28
 have HR0_1 := aQ hr0_1
 have HC0_1 := aQ hc0_1
 clear hr0_1 hc0_1
 have HR1_1 := aQ hr1_1
 have HC1_1 := aQ hc1_1
 clear hr1_1 hc1_1
 have HB := aQ (Below.refl w.heap.size w)
 have H : (if a0_0 = a1_0 then ((laws_eqIntS.f k l0_1 l1_1).bind fun t10003 => (if t10003 = true then (some true) else (some false))) else (some false)) = some r := h
 clear h
 by_cases c3 : a0_0 = a1_0
 ·rw [if_pos c3] at H
  have c3b0 : (a0_0 == a1_0) = true := beq_iff_eq.mpr c3
  have c3b1 : (a0_0 != a1_0) = false := bne_eq_false_iff_eq.mpr c3
  clear c3
  replace H := Option.bind_eq_some_iff.mp H
  obtain ⟨t10003, A40, H⟩ := H
  replace H : (if t10003 = true then (some true) else (some false)) = some r := H
  have A4 := aQ A40
  clear A40
  by_cases c5 : t10003 = true
  ·subst c5
   have H1 : (some true) = some r := by rw [if_pos rfl] at H; exact H
   clear H
   have H := H1
   clear H1
   obtain rfl := Option.some.inj H
   go_enter Try.func9, Try.ntmps9
   go_wp2_with (first | ((with_reducible refine gate_dst (N := 2) rfl ?_); refine box_event ?hg (N := 2) ?hd (cs := #[.int .i64 a0_0, .slice A0_1 l0_1.length c0_1]) (t := 28) ?hr ?_; (case hd => rfl); (case hg => rfl); (case hr => first | (go_simp; done) | (go_simp; rfl)); intro gb10001 hg w6 hbox hb; have BK10001 := aQ (hbox); have GW10001 := aQ ((by rw [hg]; exact (below_size (pB HB.out)) : w.heap.size ≤ gb10001)); have GE10001 := aQ ((by rw [hg]; exact (below_size (pB HB.out)) : w.heap.size ≤ gb10001)); replace HB := aQ (below_step (pB HB.out) hb); clear hb hbox hg) | ((with_reducible refine gate_dst (N := 3) rfl ?_); refine box_event ?hg (N := 3) ?hd (cs := #[.int .i64 a1_0, .slice A1_1 l1_1.length c1_1]) (t := 28) ?hr ?_; (case hd => rfl); (case hg => rfl); (case hr => first | (go_simp; done) | (go_simp; rfl)); intro gb10002 hg w7 hbox hb; have BK10002 := aQ (hbox); have GW10002 := aQ ((by rw [hg]; exact (below_size (pB1 HB.out GE10001.out)) : w.heap.size ≤ gb10002)); have GE10002 := aQ ((by rw [hg]; exact (below_size (pB1 HB.out GE10001.out)) : w.heap.size ≤ gb10002)); replace HB := aQ (below_step (pB1 HB.out GE10001.out) hb); have NB10001_10002 := aQ ((by rw [hg]; exact Nat.ne_of_lt (blk_lt (g := gb10001) (o := .cells #[.int .i64 a0_0, .slice A0_1 l0_1.length c0_1] 28 (0, 0)) (pk BK10001.out)) : gb10001 ≠ gb10002)); have NB10002_10001 := aQ ((by rw [hg]; exact Nat.ne_of_gt (blk_lt (g := gb10001) (o := .cells #[.int .i64 a0_0, .slice A0_1 l0_1.length c0_1] 28 (0, 0)) (pk BK10001.out)) : gb10002 ≠ gb10001)); replace BK10001 := aQ (blk_below (g := gb10001) (o := .cells #[.int .i64 a0_0, .slice A0_1 l0_1.length c0_1] 28 (0, 0)) (pk BK10001.out) hb); clear hb hbox hg; have hnb8 := NB10001_10002.out; have hnc8 := NB10002_10001.out; have hcz9_0 := bc (v := (.int .i64 a0_0)) BK10001.out 0; have hcz9_1 := bc (v := (.slice A0_1 l0_1.length c0_1)) BK10001.out 1; have hfz9_0 := blk_frozen BK10001.out 0; have hfz9_1 := blk_frozen BK10001.out 1; have hcz10_0 := bc (v := (.int .i64 a1_0)) BK10002.out 0; have hcz10_1 := bc (v := (.slice A1_1 l1_1.length c1_1)) BK10002.out 1; have hfz10_0 := blk_frozen BK10002.out 0; have hfz10_1 := blk_frozen BK10002.out 1) | ((with_reducible refine gate_callee (f := 25) rfl ?_); refine goesL_ (some 14) rfl rfl Try.func25 (by kernel_rfl) rfl #[.slice A0_1 l0_1.length c0_1, .slice A1_1 l1_1.length c1_1] rfl lm ?_; (with_reducible refine (laws_eqIntS.calls k _ _ l0_1 _ _ l1_1 true _ ?side1 ?side2 ?side3 ?side4 A4.out).mono ?_); (case side1 => exact pC (Kd.C_below HR0_1.out HB.out)); (case side2 => exact HC0_1.out); (case side3 => exact pC (Kd.C_below HR1_1.out HB.out)); (case side4 => exact HC1_1.out); rintro e w' ⟨rfl, ⟨nd, rfl⟩⟩; refine ⟨_, rfl, ?_⟩))
   go_ret
   exact ⟨re_, pB2 HB.out GE10001.out GE10002.out⟩
  ·replace c5 := Bool.eq_false_iff.mpr c5
   subst c5
   have H1 : (some false) = some r := by rw [if_neg (show ¬ (false = true) by decide)] at H; exact H
   clear H
   have H := H1
   clear H1
   obtain rfl := Option.some.inj H
   go_enter Try.func9, Try.ntmps9
   go_wp2_with (first | ((with_reducible refine gate_dst (N := 2) rfl ?_); refine box_event ?hg (N := 2) ?hd (cs := #[.int .i64 a0_0, .slice A0_1 l0_1.length c0_1]) (t := 28) ?hr ?_; (case hd => rfl); (case hg => rfl); (case hr => first | (go_simp; done) | (go_simp; rfl)); intro gb10001 hg w11 hbox hb; have BK10001 := aQ (hbox); have GW10001 := aQ ((by rw [hg]; exact (below_size (pB HB.out)) : w.heap.size ≤ gb10001)); have GE10001 := aQ ((by rw [hg]; exact (below_size (pB HB.out)) : w.heap.size ≤ gb10001)); replace HB := aQ (below_step (pB HB.out) hb); clear hb hbox hg) | ((with_reducible refine gate_dst (N := 3) rfl ?_); refine box_event ?hg (N := 3) ?hd (cs := #[.int .i64 a1_0, .slice A1_1 l1_1.length c1_1]) (t := 28) ?hr ?_; (case hd => rfl); (case hg => rfl); (case hr => first | (go_simp; done) | (go_simp; rfl)); intro gb10002 hg w12 hbox hb; have BK10002 := aQ (hbox); have GW10002 := aQ ((by rw [hg]; exact (below_size (pB1 HB.out GE10001.out)) : w.heap.size ≤ gb10002)); have GE10002 := aQ ((by rw [hg]; exact (below_size (pB1 HB.out GE10001.out)) : w.heap.size ≤ gb10002)); replace HB := aQ (below_step (pB1 HB.out GE10001.out) hb); have NB10001_10002 := aQ ((by rw [hg]; exact Nat.ne_of_lt (blk_lt (g := gb10001) (o := .cells #[.int .i64 a0_0, .slice A0_1 l0_1.length c0_1] 28 (0, 0)) (pk BK10001.out)) : gb10001 ≠ gb10002)); have NB10002_10001 := aQ ((by rw [hg]; exact Nat.ne_of_gt (blk_lt (g := gb10001) (o := .cells #[.int .i64 a0_0, .slice A0_1 l0_1.length c0_1] 28 (0, 0)) (pk BK10001.out)) : gb10002 ≠ gb10001)); replace BK10001 := aQ (blk_below (g := gb10001) (o := .cells #[.int .i64 a0_0, .slice A0_1 l0_1.length c0_1] 28 (0, 0)) (pk BK10001.out) hb); clear hb hbox hg; have hnb13 := NB10001_10002.out; have hnc13 := NB10002_10001.out; have hcz14_0 := bc (v := (.int .i64 a0_0)) BK10001.out 0; have hcz14_1 := bc (v := (.slice A0_1 l0_1.length c0_1)) BK10001.out 1; have hfz14_0 := blk_frozen BK10001.out 0; have hfz14_1 := blk_frozen BK10001.out 1; have hcz15_0 := bc (v := (.int .i64 a1_0)) BK10002.out 0; have hcz15_1 := bc (v := (.slice A1_1 l1_1.length c1_1)) BK10002.out 1; have hfz15_0 := blk_frozen BK10002.out 0; have hfz15_1 := blk_frozen BK10002.out 1) | ((with_reducible refine gate_callee (f := 25) rfl ?_); refine goesL_ (some 14) rfl rfl Try.func25 (by kernel_rfl) rfl #[.slice A0_1 l0_1.length c0_1, .slice A1_1 l1_1.length c1_1] rfl lm ?_; (with_reducible refine (laws_eqIntS.calls k _ _ l0_1 _ _ l1_1 false _ ?side1 ?side2 ?side3 ?side4 A4.out).mono ?_); (case side1 => exact pC (Kd.C_below HR0_1.out HB.out)); (case side2 => exact HC0_1.out); (case side3 => exact pC (Kd.C_below HR1_1.out HB.out)); (case side4 => exact HC1_1.out); rintro e w' ⟨rfl, ⟨nd, rfl⟩⟩; refine ⟨_, rfl, ?_⟩))
   go_ret
   exact ⟨re_, pB2 HB.out GE10001.out GE10002.out⟩
 ·rw [if_neg c3] at H
  have c3b0 : (a0_0 == a1_0) = false := beq_eq_false_iff_ne.mpr c3
  have c3b1 : (a0_0 != a1_0) = true := bne_iff_ne.mpr c3
  obtain rfl := Option.some.inj H
  go_enter Try.func9, Try.ntmps9
  go_wp2_with (first | ((with_reducible refine gate_dst (N := 2) rfl ?_); refine box_event ?hg (N := 2) ?hd (cs := #[.int .i64 a0_0, .slice A0_1 l0_1.length c0_1]) (t := 28) ?hr ?_; (case hd => rfl); (case hg => rfl); (case hr => first | (go_simp; done) | (go_simp; rfl)); intro gb10001 hg w16 hbox hb; have BK10001 := aQ (hbox); have GW10001 := aQ ((by rw [hg]; exact (below_size (pB HB.out)) : w.heap.size ≤ gb10001)); have GE10001 := aQ ((by rw [hg]; exact (below_size (pB HB.out)) : w.heap.size ≤ gb10001)); replace HB := aQ (below_step (pB HB.out) hb); clear hb hbox hg) | ((with_reducible refine gate_dst (N := 3) rfl ?_); refine box_event ?hg (N := 3) ?hd (cs := #[.int .i64 a1_0, .slice A1_1 l1_1.length c1_1]) (t := 28) ?hr ?_; (case hd => rfl); (case hg => rfl); (case hr => first | (go_simp; done) | (go_simp; rfl)); intro gb10002 hg w17 hbox hb; have BK10002 := aQ (hbox); have GW10002 := aQ ((by rw [hg]; exact (below_size (pB1 HB.out GE10001.out)) : w.heap.size ≤ gb10002)); have GE10002 := aQ ((by rw [hg]; exact (below_size (pB1 HB.out GE10001.out)) : w.heap.size ≤ gb10002)); replace HB := aQ (below_step (pB1 HB.out GE10001.out) hb); have NB10001_10002 := aQ ((by rw [hg]; exact Nat.ne_of_lt (blk_lt (g := gb10001) (o := .cells #[.int .i64 a0_0, .slice A0_1 l0_1.length c0_1] 28 (0, 0)) (pk BK10001.out)) : gb10001 ≠ gb10002)); have NB10002_10001 := aQ ((by rw [hg]; exact Nat.ne_of_gt (blk_lt (g := gb10001) (o := .cells #[.int .i64 a0_0, .slice A0_1 l0_1.length c0_1] 28 (0, 0)) (pk BK10001.out)) : gb10002 ≠ gb10001)); replace BK10001 := aQ (blk_below (g := gb10001) (o := .cells #[.int .i64 a0_0, .slice A0_1 l0_1.length c0_1] 28 (0, 0)) (pk BK10001.out) hb); clear hb hbox hg; have hnb18 := NB10001_10002.out; have hnc18 := NB10002_10001.out; have hcz19_0 := bc (v := (.int .i64 a0_0)) BK10001.out 0; have hcz19_1 := bc (v := (.slice A0_1 l0_1.length c0_1)) BK10001.out 1; have hfz19_0 := blk_frozen BK10001.out 0; have hfz19_1 := blk_frozen BK10001.out 1; have hcz20_0 := bc (v := (.int .i64 a1_0)) BK10002.out 0; have hcz20_1 := bc (v := (.slice A1_1 l1_1.length c1_1)) BK10002.out 1; have hfz20_0 := blk_frozen BK10002.out 0; have hfz20_1 := blk_frozen BK10002.out 1))
  go_ret
  exact ⟨re_, pB2 HB.out GE10001.out GE10002.out⟩
end Go.Proofs.Ytbdloopelidneaa.A
